/- HerdAll 45: Gone, Cons. -/
import Derived.Test.YtmennjmjakdkcaaGreatAl44
import Derived.Test.YtmennjmjakdkcaaGreatAl07
import Derived.Test.YtmennjmjakdkcaaGreatAl43
import Derived.Test.YtmennjmjakdkcaaGreatAl06
namespace Go.Proofs.YtmennjmjakdkcaaGreat
open Go.RowKit Go.MapKept
set_option linter.unusedVariables false
set_option linter.unusedSimpArgs false
def TBl (n:Nat) (w w':World):Prop:=Below w.heap.size w w'
theorem TBl.tr:∀ n a b c,TBl n a b→TBl 1 b c→TBl (n + 1) a c:=fun n a b c h k => Below.trans h (Below.mono k (Below.size h))
theorem TBl.rf:∀ w,TBl 1 w w:=fun w => Below.refl _ _
theorem TBl.draw (w:World):TBl 0 w { w with drawn:=w.drawn + 1 }:=bdraw (Below.refl _ _)
set_option maxRecDepth 100000 in
set_option maxHeartbeats 1000000 in
theorem goneF_any (x:List Int) (all:Int) (o q1 q2:Nat) (W:World) (hx:HBd 1000 x) (ho:o < 5) (ha:-100000 ≤ all∧all ≤ 100000) (h1:W.heap[q1]? = some (Obj.cells #[.int .i64 all] 3 (0,0))) (h2:W.heap[q2]? = some (Obj.cells #[.int .i64 (o:Int)] 3 (0,0))) :
 Calls Tryz.prog 99 (#[.agg (hcs x)] ++ #[.pointer (some ⟨q1,0,none⟩),.pointer (some ⟨q2,0,none⟩)]) W fun e W' => e = .returned (.int .i64 (all - howned x o))∧Below W.heap.size W W':=by
 have hl:=hx.1
 obtain ⟨V,hV⟩:∃ V,V = W.alloc (Obj.cells (hcs x) 133):=⟨_,rfl⟩
 obtain ⟨g,hg⟩:∃ g,g = W.heap.size:=⟨_,rfl⟩
 have b0:V.heap[g]? = some (hObj x):=by rw [hV,hg];exact alloc_at rfl
 have b1:V.heap[q1]? = some (Obj.cells #[.int .i64 all] 3 (0,0)):=by rw [hV];exact hblk_alloc h1 _
 have b2:V.heap[q2]? = some (Obj.cells #[.int .i64 (o:Int)] 3 (0,0)):=by rw [hV];exact hblk_alloc h2 _
 have hBV:Below W.heap.size W V:=by rw [hV];exact bal0 W _
 have HV:=Lib.hid (And.intro hBV hx)
 obtain ⟨ow,how⟩:∃ ow,ow = howned x o:=⟨_,rfl⟩
 have hob:0 ≤ ow∧ow ≤ 3000:=by
  have a0:=hx.get (show 0 < 3 by decide) ho
  have a1:=hx.get (show 1 < 3 by decide) ho
  have a2:=hx.get (show 2 < 3 by decide) ho
  rw [how];unfold howned;omega
 rw [← how]
 have HO:=Lib.hid how
 simp only [List.append_toArray,List.cons_append,List.nil_append]
 clear h1 h2 hBV hx how
 go_enter Tryz.func99,Tryz.ntmps99
 go_upto_region 1 with (fail)
 rw [← hV,← hg]
 clear hV hg
 have HB:=Lib.hid (And.intro b0 (And.intro b1 b2))
 have HC:Hid (∀ k w',TBl k V w'→w'.cell? ⟨q1,0,none⟩ = some (.int .i64 all)∧w'.cell? ⟨q2,0,none⟩ = some (.int .i64 (o:Int))∧w'.heap[g]? = some (hObj x)) :=
  Lib.hid fun k w' h => ⟨blk1 (bheap HB.out.2.1 h (Nat.le_refl _)),blk1 (bheap HB.out.2.2 h (Nat.le_refl _)),bheap HB.out.1 h (Nat.le_refl _)⟩
 clear b0 b1 b2
 refine wp_region_inv (TBl) (by kernel_rfl) (by kernel_rfl) TBl.tr (TBl.draw _) ?_
 apply Exists.intro
 refine ⟨fun ys => ?_,fun ops K hK => ?_⟩
 ·simp only [dstsOf,List.filterMap_cons,List.filterMap_nil,putAll]
  go_simp
  rfl
 refine LexI.const TBl.rf ?_
 refine ⟨.int .i64 all,fun n' ys w' hn' hT hd => ?_,?_⟩
 ·try simp [DepsOf,depsGo,DF.holds,Region.binds,EqF] at hd
  try simp only [hd]
  obtain ⟨y0,y1,-⟩:=HC.out n' w' hT
  intro Q2 hQ2
  go_wp2_with fail
  try rfl
 try simp only [List.nil_append,List.cons_append]
 refine LexI.some (EqF (.agg (hcs x))) (EqF.st) (fun n' ys w' hn' hT hd => ?_) ?_
 ·try simp [DepsOf,depsGo,DF.holds,Region.binds,EqF] at hd
  try simp only [hd]
  obtain ⟨-,-,bh⟩:=HC.out n' w' hT
  intro Q2 hQ2
  go_wp2_with ((with_reducible apply wp_loadH bh hl);(rfl);(rfl);(rfl))
  exact ⟨TBl.rf _,rfl⟩
 try simp only [List.nil_append,List.cons_append]
 refine LexI.const TBl.rf ?_
 refine ⟨.int .i64 o,fun n' ys w' hn' hT hd => ?_,?_⟩
 ·try simp [DepsOf,depsGo,DF.holds,Region.binds,EqF] at hd
  try simp only [hd]
  obtain ⟨y0,y1,-⟩:=HC.out n' w' hT
  intro Q2 hQ2
  go_wp2_with fail
  try rfl
 try simp only [List.nil_append,List.cons_append]
 refine LexI.some (EqF (.int .i64 ow)) (EqF.st) (fun n' ys w' hn' hT hd => ?_) ?_
 ·try simp [DepsOf,depsGo,DF.holds,Region.binds,EqF] at hd
  try simp only [hd]
  intro Q2 hQ2
  go_wp2_with fail
  refine (owned_any x o w' HV.out.2 ho).mono ?_
  rintro e wU ⟨rfl,hb⟩
  rw [← HO.out]
  go_wp2
  exact ⟨_,rfl,hb,rfl⟩
 try simp only [List.nil_append,List.cons_append]
 refine LexI.some (EqF (.int .i64 (all - ow))) (EqF.st) (fun n' ys w' hn' hT hd => ?_) ?_
 ·try simp [DepsOf,depsGo,DF.holds,Region.binds,EqF] at hd
  try simp only [hd]
  intro Q2 hQ2
  go_wp2_with fail
  exact ⟨TBl.rf _,rfl⟩
 try simp only [List.nil_append,List.cons_append]
 refine LexI.some (EqF (.int .i64 (all - ow))) (EqF.st) (fun n' ys w' hn' hT hd => ?_) ?_
 ·try simp [DepsOf,depsGo,DF.holds,Region.binds,EqF] at hd
  try simp only [hd]
  intro Q2 hQ2
  go_wp2_with fail
  exact ⟨TBl.rf _,rfl⟩
 try simp only [List.nil_append,List.cons_append]
 refine hK _ (fun n' ys wc hn' hT hF => ?_)
 simp only [AllF,DF.holds] at hF
 obtain ⟨-,-,-,-,-,h4,-⟩:=hF
 unfold EqF at h4
 rw [h4]
 have HT:=Lib.hid hT
 clear hT h4
 go_wp2
 go_ret
 exact ⟨rfl,HV.out.1.trans (Below.mono HT.out HV.out.1.size)⟩
def goneE (b:Hb) (o:Int):Int:=if sumE b o ≠ 0 then sumE b o else if b.ends (-1) 0 = [] then 11 else 0
def goneR (b:Hb) (o:Int):Rn:=if goneE b o = 0 then rangeE (b.ends (-1) 0) (fun h => hasS (sumS b.hs o.toNat b.ds) - howned h o.toNat) else ⟨0,0⟩
def GoneR (b:Hb) (o:Int) (w:World) (e:Ending) (w':World):Prop:=e = .returned (.tuple #[.agg #[.int .i64 (goneR b o).lo,.int .i64 (goneR b o).hi],.int .i64 (goneE b o)])∧Below w.heap.size w w'
theorem gone_end {b:Hb} {o e:Int} {r:Rn} {w w':World} (he:goneE b o = e) (hr:goneR b o = r) (hb:Below w.heap.size w w'):GoneR b o w (.returned (.tuple #[.agg #[.int .i64 r.lo,.int .i64 r.hi],.int .i64 e])) w':=by
 subst he hr;exact ⟨rfl,hb⟩
set_option maxRecDepth 100000 in
set_option maxHeartbeats 2000000 in
theorem Gone_any (b:Hb) (o:Int) (w:World) (hin:HbIn w b):Calls Tryz.prog 34 #[b.v,.int .i64 o] w (GoneR b o w):=by
 obtain ⟨g,hg⟩:∃ g,g = w.heap.size:=⟨_,rfl⟩
 obtain ⟨V,hV⟩:∃ V,V = ((w.alloc b.obj).alloc (Obj.cells #[Value.int .i64 o] 3)).alloc (Obj.cells #[.int .i64 0,.int .i64 0] 72):=⟨_,rfl⟩
 have b0:V.heap[g]? = some b.obj:=by rw [hV,hg];exact hblk_alloc (hblk_alloc (alloc_at rfl) _) _
 have b1:V.heap[g + 1]? = some (Obj.cells #[Value.int .i64 o] 3 (0,0)):=by rw [hV,hg];exact hblk_alloc (alloc_at (by simp)) _
 have b2:V.heap[g + 1 + 1]? = some (Obj.cells #[.int .i64 0,.int .i64 0] 72 (0,0)):=by rw [hV,hg];exact alloc_at (by simp)
 have hBV:Below w.heap.size w V:=by rw [hV];exact bal (bal (bal0 w _) (Nat.le_refl _) _) (Nat.le_refl _) _
 have hiV:=hin.below hBV (Nat.le_refl _)
 obtain ⟨c0,c1,c2,c3,c4⟩:=blk5c b0
 have p0:=blk1 b1
 have hsm:=Sum_any b o V hiV
 unfold Hb.v at hsm
 have HV:=Lib.hid (And.intro hBV (And.intro b0 (And.intro b1 (And.intro b2 (And.intro hiV hg)))))
 unfold Hb.v
 go_enter Tryz.func34,Tryz.ntmps34
 go_upto_region 1 with (fail)
 rw [← hV,← hg]
 clear hV hg hin hBV hiV b0 b1 b2
 obtain ⟨se,hse⟩:∃ se,se = sumE b o:=⟨_,rfl⟩
 obtain ⟨sv,hsv⟩:∃ sv,sv = sumR b o:=⟨_,rfl⟩
 unfold SumR at hsm
 rw [← hse,← hsv] at hsm
 have HS:=Lib.hid (And.intro hse hsv)
 clear hse hsv
 go_upto_region 2 with (go_at_call 15;refine hsm.mono ?_;rintro e w2 ⟨rfl,hb2⟩;unfold smV)
 obtain ⟨S,hS⟩:∃ S,S = w2.heap.size:=⟨_,rfl⟩
 obtain ⟨U,hU⟩:∃ U,U = w2.alloc (Obj.cells #[Value.int .i64 sv.first,.int .i64 sv.born,.int .i64 sv.bought,.int .i64 sv.sold,.int .i64 sv.eaten] 46):=⟨_,rfl⟩
 rw [← hU,← hS]
 have hbU:Below V.heap.size V U:=by rw [hU];exact bal hb2 (Nat.le_refl _) _
 have bS:U.heap[S]? = some (smO sv.first sv.born sv.bought sv.sold sv.eaten):=by rw [hU,hS];exact alloc_at rfl
 have hVS:V.heap.size ≤ S:=by rw [hS];exact hb2.size
 have b0:=bheap HV.out.2.1 hbU (Nat.le_refl _)
 have b1:=bheap HV.out.2.2.1 hbU (Nat.le_refl _)
 have b2:=bheap HV.out.2.2.2.1 hbU (Nat.le_refl _)
 have HU:=Lib.hid (And.intro hbU (And.intro bS (And.intro hVS (And.intro b0 (And.intro b1 b2)))))
 clear c0 c1 c2 c3 c4 p0 hsm hb2 hU hS hbU bS hVS
 obtain ⟨c0,c1,c2,c3,c4⟩:=blk5c b0
 obtain ⟨s0,s1,s2,s3,s4⟩:=blk5c HU.out.2.1
 obtain ⟨r0,r1⟩:=blk2 b2
 obtain ⟨fr0,fr1⟩:=And.intro (frz b2 0) (frz b2 1)
 have hl2:=heap_lt b2
 have hzz:=HU.out.1.size
 clear b0 b1 b2
 by_cases h0:se = 0
 ·subst h0
  have h0:b.chk = 0∧ownB b.l.length o = true:=by
   have h:=HS.out.1
   unfold sumE at h
   split at h
   ·rename_i hc;exact absurd h.symm hc
   ·rename_i hc
    split at h
    ·cases h
    ·rename_i hc2;exact ⟨Classical.not_not.1 hc,by simpa using hc2⟩
  have hok:=checkH_ok h0.1
  obtain ⟨ho0,ho1⟩:=ownB_iff.1 h0.2
  obtain ⟨k,rfl⟩:=Int.eq_ofNat_of_zero_le ho0
  have hk5:k < 5:=by have:=hok.n5;omega
  have hsv:sv = sumS b.hs k b.ds:=by rw [HS.out.2];unfold sumR;rw [← HS.out.1,if_pos rfl];rfl
  have hfb:HBd 20 (firstH b.hs):=firstH_bd hok.rb
  have hsb:=sumS_bd (hs:=b.hs) (o:=k) (ds:=b.ds) (by
   have a0:=hfb.get (show 0 < 3 by decide) hk5
   have a1:=hfb.get (show 1 < 3 by decide) hk5
   have a2:=hfb.get (show 2 < 3 by decide) hk5
   unfold howned;omega) (fun d hd => by have:=(hok.dI d hd).m;omega) b.ds.length (Nat.le_refl _)
  rw [List.take_length,← hsv] at hsb
  have hd6:=hok.d6
  obtain ⟨x1,x2,x3,x4,x5⟩:=sv
  obtain ⟨⟨l1,u1⟩,⟨l2,u2⟩,⟨l3,u3⟩,⟨l4,u4⟩,l5,u5⟩:=hsb
  dsimp only at l1 u1 l2 u2 l3 u3 l4 u4 l5 u5 s0 s1 s2 s3 s4
  have hB:(3000:Int) + 300 * (b.ds.length:Int) ≤ 4800:=by omega
  have v1:=Int.le_trans u1 hB
  have v2:=Int.le_trans u2 hB
  have v3:=Int.le_trans u3 hB
  have v4:=Int.le_trans u4 hB
  have v5:=Int.le_trans u5 hB
  have H0:=Lib.hid (And.intro h0.1 (And.intro hsv hok))
  have hent:∀ (args:Array Value) (w:World),(callFunc 99 args).run Tryz.prog w = .ok (.enter 99 args) w:=enters_of Tryz.func99 (by kernel_rfl) rfl
  have HENT:=Lib.hid hent
  clear h0 hok ho0 ho1 hsv hfb hd6 u1 u2 u3 u4 u5 hB hent
  go_upto_region 5 with (fail)
  obtain ⟨all,hall'⟩:∃ a,a = x1 + x2 + x3 - x4 - x5:=⟨_,rfl⟩
  have hab:-100000 ≤ all∧all ≤ 100000:=by omega
  rw [← hall']
  obtain ⟨q,hq⟩:∃ q,q = U.heap.size:=⟨_,rfl⟩
  obtain ⟨T,hT⟩:∃ T,T = U.alloc (Obj.cells #[Value.int .i64 all] 3):=⟨_,rfl⟩
  rw [← hT,← hq]
  have hbT:Below V.heap.size V T:=by rw [hT];exact bal HU.out.1 (Nat.le_refl _) _
  have bq:T.heap[q]? = some (Obj.cells #[Value.int .i64 all] 3 (0,0)):=by rw [hT,hq];exact alloc_at rfl
  have b0:=bheap HV.out.2.1 hbT (Nat.le_refl _)
  have b1:=bheap HV.out.2.2.1 hbT (Nat.le_refl _)
  have b2:=bheap HV.out.2.2.2.1 hbT (Nat.le_refl _)
  have hVq:V.heap.size ≤ q:=by rw [hq];exact HU.out.1.size
  have hiT:=HV.out.2.2.2.2.1.below hbT (Nat.le_refl _)
  have HT:=Lib.hid (And.intro hbT (And.intro bq (And.intro b1 (And.intro b2 (And.intro hiT (And.intro hall' hVq))))))
  have hbg:=begin_any b T
  unfold Hb.v at hbg
  clear hT hq hbT bq b1 b2 hVq hiT hall' s0 s1 s2 s3 s4 c0 c1 c2 c3 c4 r0 r1 fr0 fr1 hl2
  obtain ⟨c0,c1,c2,c3,c4⟩:=blk5c b0
  clear b0
  obtain ⟨bE,hbE⟩:∃ bE,bE = !decide (b.ends (-1) 0 = []):=⟨_,rfl⟩
  have HBE:=Lib.hid hbE
  clear hbE
  go_upto_if 43 with (first
   | (go_at_call 63;refine hbg.mono ?_;rintro e w3 ⟨p,rfl,hp,hpb,hb3⟩;have hWk:Work T p b (-1) 0 w3:=⟨HT.out.2.2.2.2.1,hp,hb3,⟨_,hpb⟩,H0.out.1⟩;have bq3:=bheap HT.out.2.1 hb3 (Nat.le_refl _);have bo3:=bheap HT.out.2.2.1 hb3 (Nat.le_refl _);have hqp:=heap_lt HT.out.2.1;have hop:=heap_lt HT.out.2.2.1;have H3:=Lib.hid (And.intro hWk (And.intro bq3 (And.intro bo3 hb3)));clear hpb hb3 hWk bq3 bo3)
   | (go_at_call 98;refine (span_any T p b (-1) 0 w3 H3.out.1 99 #[.pointer (some ⟨q,0,none⟩),.pointer (some ⟨g + 1,0,none⟩)] (fun h => all - howned h k) HENT.out (fun x hx W hN => goneF_any x all k q (g + 1) W (hb_of H0.out.2.2 x hx) hk5 hab (hN.blk H3.out.2.1 (by omega)) (hN.blk H3.out.2.2.1 (by omega)))).mono ?_;rintro e w4 ⟨rfl,hN4⟩;rw [← HBE.out]))
  obtain ⟨rg,hrg⟩:∃ rg,rg = rangeE (b.ends (-1) 0) (fun h => all - howned h k):=⟨_,rfl⟩
  rw [← hrg]
  obtain ⟨Y,hY⟩:∃ Y,Y = w4.alloc (Obj.cells #[Value.int .i64 rg.lo,.int .i64 rg.hi] 72):=⟨_,rfl⟩
  obtain ⟨y,hy⟩:∃ y,y = w4.heap.size:=⟨_,rfl⟩
  rw [← hY,← hy]
  have bY:Y.heap[y]? = some (Obj.cells #[Value.int .i64 rg.lo,.int .i64 rg.hi] 72 (0,0)):=by rw [hY,hy];exact alloc_at rfl
  have hg2:g + 1 + 1 < T.heap.size:=heap_lt HT.out.2.2.2.1
  have b2Y:Y.heap[g + 1 + 1]? = some (Obj.cells #[.int .i64 0,.int .i64 0] 72 (0,0)):=by rw [hY];exact hblk_alloc (hN4.blk (bheap HT.out.2.2.2.1 H3.out.2.2.2 (Nat.le_refl _)) (by omega)) _
  have hBY:Below w.heap.size w Y:=by
   have h1:=HV.out.1
   have h2:=HT.out.1
   have h3:=H3.out.2.2.2
   have h4:Below T.heap.size w3 w4:=hN4.less hp h3.size
   have h5:Below w4.heap.size w4 Y:=by rw [hY];exact bal0 w4 _
   have s1:=h1.size;have s2:=h2.size;have s3:=h3.size;have s4:=h4.size
   exact (h1.trans (h2.mono s1)).trans (((h3.mono (by omega)).trans (h4.mono (by omega))).trans (h5.mono (by omega)))
  have HRG:=Lib.hid (And.intro hrg hp)
  have HY:=Lib.hid (And.intro b2Y hBY)
  obtain ⟨y0,y1⟩:=blk2 bY
  obtain ⟨r0,r1⟩:=blk2 b2Y
  obtain ⟨fr0,fr1⟩:=And.intro (frz b2Y 0) (frz b2Y 1)
  have hl2:=heap_lt b2Y
  clear hrg hY hy bY b2Y hBY hN4 hp
  have hse:sumE b k = 0:=HS.out.1.symm
  cases bE with
  | false =>
    go_wp2_with fail
    obtain ⟨Z,hZ⟩:∃ Z,Z = (Y.setCell ⟨g + 1 + 1,0,none⟩ (.int .i64 0)).setCell ⟨g + 1 + 1,1,none⟩ (.int .i64 0):=⟨_,rfl⟩
    rw [← hZ]
    have bZ:Z.heap[g + 1 + 1]? = some (Obj.cells #[.int .i64 0,.int .i64 0] 72 (0,0)):=by rw [hZ];exact (set_blk (set_blk HY.out.1)).trans (by simp)
    have hgr:Y.grownBy Z (some (g + 1 + 1)):=by rw [hZ];exact (grownBy_cell _ _ _ _).trans (grownBy_cell _ _ _ _)
    obtain ⟨q0,q1⟩:=blk2 bZ
    clear hZ
    refine bodyPost_ret (v:=.tuple #[.agg #[.int .i64 0,.int .i64 0],.int .i64 11]) (by simp [results,Tryz.f34,go_sem,q0,q1]) rfl ?_
    have hE:b.ends (-1) 0 = []:=by have h:=HBE.out;simpa using h.symm
    have he:goneE b k = 11:=by unfold goneE;rw [if_neg (by rw [hse];simp),if_pos hE]
    exact gone_end (r:=⟨0,0⟩) he (by unfold goneR;rw [he,if_neg (by decide)]) (HY.out.2.grown hgr HY.out.2.size (fun k e => by cases e;rw [← HV.out.2.2.2.2.2];omega))
  | true =>
    go_wp2_with fail
    obtain ⟨Z,hZ⟩:∃ Z,Z = (Y.setCell ⟨g + 1 + 1,0,none⟩ (.int .i64 rg.lo)).setCell ⟨g + 1 + 1,1,none⟩ (.int .i64 rg.hi):=⟨_,rfl⟩
    rw [← hZ]
    have bZ:Z.heap[g + 1 + 1]? = some (Obj.cells #[.int .i64 rg.lo,.int .i64 rg.hi] 72 (0,0)):=by rw [hZ];exact (set_blk (set_blk HY.out.1)).trans (by simp)
    have hgr:Y.grownBy Z (some (g + 1 + 1)):=by rw [hZ];exact (grownBy_cell _ _ _ _).trans (grownBy_cell _ _ _ _)
    obtain ⟨q0,q1⟩:=blk2 bZ
    clear hZ
    refine bodyPost_ret (v:=.tuple #[.agg #[.int .i64 rg.lo,.int .i64 rg.hi],.int .i64 0]) (by simp [results,Tryz.f34,go_sem,q0,q1]) rfl ?_
    have hE:b.ends (-1) 0 ≠ []:=by have h:=HBE.out;simpa using h
    have he:goneE b k = 0:=by unfold goneE;rw [if_neg (by rw [hse];simp),if_neg hE]
    exact gone_end (r:=rg) he (by unfold goneR;rw [he,if_pos rfl,HRG.out.1,HT.out.2.2.2.2.2.1];show rangeE _ (fun h => hasS (sumS b.hs k b.ds) - howned h k) = _;rw [← H0.out.2.1];rfl) (HY.out.2.grown hgr HY.out.2.size (fun k e => by cases e;rw [← HV.out.2.2.2.2.2];omega))
 ·have xg:(se != 0) = true:=by simp [h0]
  have H0:=Lib.hid h0
  clear h0
  go_wp2_with fail
  obtain ⟨Z,hZ⟩:∃ Z,Z = (U.setCell ⟨g + 1 + 1,0,none⟩ (.int .i64 0)).setCell ⟨g + 1 + 1,1,none⟩ (.int .i64 0):=⟨_,rfl⟩
  rw [← hZ]
  have bZ:Z.heap[g + 1 + 1]? = some (Obj.cells #[.int .i64 0,.int .i64 0] 72 (0,0)):=by rw [hZ];exact (set_blk (set_blk HU.out.2.2.2.2.2)).trans (by simp)
  have hgr:U.grownBy Z (some (g + 1 + 1)):=by rw [hZ];exact (grownBy_cell _ _ _ _).trans (grownBy_cell _ _ _ _)
  obtain ⟨q0,q1⟩:=blk2 bZ
  clear hZ
  refine bodyPost_ret (v:=.tuple #[.agg #[.int .i64 0,.int .i64 0],.int .i64 se]) (by simp [results,Tryz.f34,go_sem,q0,q1]) rfl ?_
  have he:goneE b o = se:=by unfold goneE;rw [← HS.out.1,if_pos H0.out]
  refine gone_end (r:=⟨0,0⟩) he (by unfold goneR;rw [he,if_neg H0.out]) ((HV.out.1.trans (HU.out.1.mono HV.out.1.size)).grown hgr ?_ (fun k e => by cases e;rw [← HV.out.2.2.2.2.2];omega))
  have h1:=HV.out.1.size;omega
end Go.Proofs.YtmennjmjakdkcaaGreat
namespace Go.Proofs.YtmennjmjakdkcaaGreat
open Go.RowKit
set_option linter.unusedVariables false
set_option linter.unusedSimpArgs false
structure ConsL (b:Hb):Prop where
 ol:(ownsR b).length = b.l.length
 tl:(totalR b).length = b.ks.length
 se:∀ o:Nat,o < b.l.length→sumE b o = 0∧goneE b o = 0∧SmB 5000 (sumR b o)∧∃ r,(ownsR b)[o]? = some r∧(0 ≤ r.lo∧r.hi ≤ 3000∧r.lo ≤ r.hi)∧r.lo + (goneR b o).hi = hasS (sumR b o)∧r.hi + (goneR b o).lo = hasS (sumR b o)∧0 ≤ (goneR b o).lo
 tb:∀ f:Nat,f < b.ks.length→∃ r,(totalR b)[f]? = some r∧0 ≤ r.lo∧r.hi ≤ 5000∧r.lo ≤ r.hi
 fin:sumN (fun f => ((totalR b).getD f ⟨0,0⟩).lo) b.ks.length ≤ sumN (fun o => hasS (sumR b o)) b.l.length - (b.ds.map lostD).sum∧sumN (fun o => hasS (sumR b o)) b.l.length - (b.ds.map lostD).sum ≤ sumN (fun f => ((totalR b).getD f ⟨0,0⟩).hi) b.ks.length
theorem consL {b:Hb} (hck:b.chk = 0) (ha:askE b = 0):ConsL b:=by
 have hok:=checkH_ok hck
 have hne:b.ends (-1) 0 ≠ []:=by
  rcases askE_two hck with h | h
  ·exact h.2
  ·rw [h.1] at ha;cases ha
 have hn5:=hok.n5
 have hf3:=hok.f3
 have hd6:=hok.d6
 have hg:GSh b.l.length b.ks.length b.hs:=⟨hok.hl,hok.rl⟩
 have how:∀ d ∈ b.ds,DeOw b.l.length b.ks.length d:=fun d hd => deedE_ow (hok.dE d hd)
 have hbd:=hb_of (deed:=-1) (owner:=0) hok
 have hsh:∀ x ∈ b.ends (-1) 0,Shp b.l.length b.ks.length x:=fun x hx => endsTo_shp hf3 hn5 hg how _ x hx
 have hkept:=fun x (hx:x ∈ b.ends (-1) 0) => ends_kept (nf:=b.ks.length) hf3 hn5 hok.dI (fun d hd => (how d hd).ne) b.ds.length (Nat.le_refl _) x hx
 have hor:ownsR b = ownsL (b.ends (-1) 0) b.l.length:=by unfold ownsR;rw [if_pos ha]
 have htr:totalR b = totalL (b.ends (-1) 0) b.ks.length:=by unfold totalR;rw [if_pos ha]
 have hse:∀ o:Nat,o < b.l.length→sumE b o = 0:=fun o ho => by
  unfold sumE
  rw [if_neg (by rw [hck];simp),if_neg (by rw [ownB_iff.2 ⟨by omega,by omega⟩];simp)]
 have hsr:∀ o:Nat,o < b.l.length→sumR b o = sumS b.hs o b.ds:=fun o ho => by unfold sumR;rw [hse o ho,if_pos rfl];rfl
 have hge:∀ o:Nat,o < b.l.length→goneE b o = 0:=fun o ho => by unfold goneE;rw [hse o ho,if_neg (by simp),if_neg hne]
 have hgr:∀ o:Nat,o < b.l.length→goneR b o = ⟨hasS (sumS b.hs o b.ds) - (rangeE (b.ends (-1) 0) fun h => howned h o).hi,hasS (sumS b.hs o b.ds) - (rangeE (b.ends (-1) 0) fun h => howned h o).lo⟩:=fun o ho => by
  unfold goneR
  rw [hge o ho,if_pos rfl]
  exact range_sub hne _ _
 have hrow:∀ o:Nat,o < b.l.length→(ownsL (b.ends (-1) 0) b.l.length)[o]? = some (rangeE (b.ends (-1) 0) fun h => howned h o):=fun o ho => by unfold ownsL;rw [List.getElem?_map,List.getElem?_range ho];rfl
 have hrt:∀ f:Nat,f < b.ks.length→(totalL (b.ends (-1) 0) b.ks.length)[f]? = some (rangeE (b.ends (-1) 0) fun h => hall h f):=fun f hf => by unfold totalL;rw [List.getElem?_map,List.getElem?_range hf];rfl
 have hob:∀ x ∈ b.ends (-1) 0,∀ o:Nat,o < 5→0 ≤ howned x o∧howned x o ≤ 3000:=fun x hx o ho => by
  have a0:=(hbd x hx).get (show 0 < 3 by decide) ho
  have a1:=(hbd x hx).get (show 1 < 3 by decide) ho
  have a2:=(hbd x hx).get (show 2 < 3 by decide) ho
  unfold howned;omega
 have hab:∀ x ∈ b.ends (-1) 0,∀ f:Nat,f < 3→0 ≤ hall x f∧hall x f ≤ 5000:=fun x hx f hf => by
  have a0:=(hbd x hx).get hf (show 0 < 5 by decide)
  have a1:=(hbd x hx).get hf (show 1 < 5 by decide)
  have a2:=(hbd x hx).get hf (show 2 < 5 by decide)
  have a3:=(hbd x hx).get hf (show 3 < 5 by decide)
  have a4:=(hbd x hx).get hf (show 4 < 5 by decide)
  unfold hall;omega
 have hfb:HBd 20 (firstH b.hs):=firstH_bd hok.rb
 refine ⟨by rw [hor];simp [ownsL],by rw [htr];simp [totalL],fun o ho => ⟨hse o ho,hge o ho,?_,rangeE (b.ends (-1) 0) fun h => howned h o,by rw [hor];exact hrow o ho,?_,?_,?_,?_⟩,fun f hf => ⟨rangeE (b.ends (-1) 0) fun h => hall h f,by rw [htr];exact hrt f hf,?_⟩,?_⟩
 ·rw [hsr o ho]
  have hsb:=sumS_bd (hs:=b.hs) (o:=o) (ds:=b.ds) (by
   have a0:=hfb.get (show 0 < 3 by decide) (show o < 5 by omega)
   have a1:=hfb.get (show 1 < 3 by decide) (show o < 5 by omega)
   have a2:=hfb.get (show 2 < 3 by decide) (show o < 5 by omega)
   unfold howned;omega) (fun d hd => by have:=(hok.dI d hd).m;omega) b.ds.length (Nat.le_refl _)
  rw [List.take_length] at hsb
  obtain ⟨h1,h2,h3,h4,h5⟩:=hsb
  exact ⟨by omega,by omega,by omega,by omega,by omega⟩
 ·obtain ⟨⟨x,hx,e1⟩,⟨y,hy,e2⟩,h3⟩:=rangeE_mem (f:=fun h => howned h o) hne
  have:=hob x hx o (by omega);have:=hob y hy o (by omega);have:=h3 x hx
  omega
 ·rw [hgr o ho,hsr o ho];dsimp only;omega
 ·rw [hgr o ho,hsr o ho];dsimp only;omega
 ·rw [hgr o ho]
  obtain ⟨-,⟨y,hy,e2⟩,-⟩:=rangeE_mem (f:=fun h => howned h o) hne
  have h2:=(hkept y hy).2.2 o (by omega)
  rw [List.take_length] at h2
  dsimp only
  omega
 ·obtain ⟨⟨x,hx,e1⟩,⟨y,hy,e2⟩,h3⟩:=rangeE_mem (f:=fun h => hall h f) hne
  have:=hab x hx f (by omega);have:=hab y hy f (by omega);have:=h3 x hx
  omega
 ·obtain ⟨x,hx⟩:=List.exists_mem_of_ne_nil _ hne
  have h1:=sums_tot hn5 hg how b.ds.length (Nat.le_refl _)
  rw [List.take_length] at h1
  have h2:=(hkept x hx).2.1
  rw [List.take_length] at h2
  have h3:=(hsh x hx).all hf3
  have h4:sumN (fun o => hasS (sumR b o)) b.l.length = sumN (fun o => hasS (sumS b.hs o b.ds)) b.l.length:=sumN_congr fun o ho => by rw [hsr o ho]
  have hgd:∀ f:Nat,f < b.ks.length→(totalR b).getD f ⟨0,0⟩ = rangeE (b.ends (-1) 0) fun h => hall h f:=fun f hf => by rw [List.getD_eq_getElem?_getD,htr,hrt f hf];rfl
  have h5:sumN (fun f => ((totalR b).getD f ⟨0,0⟩).lo) b.ks.length ≤ sumN (fun f => hall x f) b.ks.length:=sumN_le fun f hf => by rw [hgd f hf];exact ((rangeE_mem (f:=fun h => hall h f) hne).2.2 x hx).1
  have h6:sumN (fun f => hall x f) b.ks.length ≤ sumN (fun f => ((totalR b).getD f ⟨0,0⟩).hi) b.ks.length:=sumN_le fun f hf => by rw [hgd f hf];exact ((rangeE_mem (f:=fun h => hall h f) hne).2.2 x hx).2
  rw [h4]
  omega
end Go.Proofs.YtmennjmjakdkcaaGreat
