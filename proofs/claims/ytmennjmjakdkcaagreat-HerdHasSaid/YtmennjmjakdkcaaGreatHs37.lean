/- HerdHas. -/
import Derived.Test.YtmennjmjakdkcaaGreatHs36
set_option linter.unusedVariables false
set_option linter.unusedSimpArgs false
set_option maxRecDepth 400000
set_option maxHeartbeats 4000000
namespace Go.Proofs.YtmennjmjakdkcaaGreat
open Go.RowKit
theorem k6d (w:World):Calls Tryz.prog 47 #[] w fun e w'=>e=.returned (vSg ⟨3,false,false,0,-1⟩)∧Below w.heap.size w w':=by
 go_enter Tryz.func47,Tryz.ntmps47
 go_wp2
 exact bodyPost_ret (v:=vSg ⟨3,false,false,0,-1⟩) (by simp[results,Tryz.f47,go_sem,vSg]) rfl ⟨rfl,bal0 w _⟩
theorem j3d (x y:Int) (w:World):Calls Tryz.prog 35 #[.int .i64 x,.int .i64 y] w fun e w'=>e=.returned (.agg #[.int .i64 x,.int .i64 y])∧Below w.heap.size w w':=by
 go_enter Tryz.func35,Tryz.ntmps35
 go_wp2
 exact bodyPost_ret (v:=.agg #[.int .i64 x,.int .i64 y]) (by simp[results,Tryz.f35,go_sem]) rfl ⟨rfl,bal0 w _⟩
abbrev bkM:List Mk:=[⟨1,0,0⟩,⟨3,0,1⟩,⟨16,3,0⟩]
abbrev bkHs:List (List Int):=[[5,2,0],[0,2,1]]
abbrev bkDs:List De:=[⟨1,0,0,0,0,2,0,⟨0,false,false,0,0⟩⟩,⟨5,0,0,0,1,0,0,⟨3,false,false,0,-1⟩⟩,⟨4,1,0,0,0,1,0,⟨0,false,false,0,0⟩⟩,⟨6,1,0,0,0,3,0,⟨0,false,false,0,0⟩⟩]
def HB9 (r:Nat) (w:World):Prop:=∃ t vm vk vh vd,w.heap[r]?=some (boxO t vm vk vh vd)
def TB9 (r:Nat) (G:World→Prop) (n:Nat) (w w':World):Prop:=w.grownBy w' (some r)∧(HB9 r w→HB9 r w')∧(G w→G w')
theorem TB9.tr {r:Nat} {G:World→Prop}:∀ n a b c,TB9 r G n a b→TB9 r G 1 b c→TB9 r G (n+1) a c:=fun n a b c h k=>⟨h.1.trans k.1,fun g=>k.2.1 (h.2.1 g),fun g=>k.2.2 (h.2.2 g)⟩
def G9 (r:Nat) (ms:List Mk) (hs:List (List Int)) (ds:List De) (w:World):Prop:=∃ vm vk vh vd,w.heap[r]?=some (boxO 1 vm vk vh vd)∧OwnM w (r+1) vm ms∧OwnI w (r+1) vk [0,1]∧OwnG w (r+1) vh hs∧OwnD w (r+1) vd ds
section
variable {r:Nat} {ms:List Mk} {hs:List (List Int)} {ds:List De}
theorem TB9.gr {n:Nat} {w w':World} (hg:w.grownBy w' (some r)) (hr:w'.heap[r]?=w.heap[r]?):TB9 r (G9 r ms hs ds) n w w' :=
 ⟨hg,fun⟨t,vm,vk,vh,vd,h⟩=>⟨t,vm,vk,vh,vd,hr.trans h⟩,fun⟨vm,vk,vh,vd,h1,h2,h3,h4,h5⟩=>⟨vm,vk,vh,vd,hr.trans h1,h2.keptH hg (by omega),h3.keptH hg (by omega),h4.keptH hg (by omega),h5.keptH hg (by omega)⟩⟩
theorem TB9.rf:∀ w,TB9 r (G9 r ms hs ds) 1 w w:=fun w=>.gr (World.grownBy.refl _ _) rfl
theorem TB9.draw (w:World):TB9 r (G9 r ms hs ds) 0 w { w with drawn:=w.drawn+1 }:=.gr (j8a w 1 _) rfl
theorem TB9.bel {w w':World} (hb:Below w.heap.size w w') (hr:r<w.heap.size):TB9 r (G9 r ms hs ds) 1 w w':=.gr ⟨hb.os,hb.tape,hb.output,hb.size,fun k hk _=>hb.block k hk⟩ (hb.block r hr)
theorem TB9.sz {n:Nat} {w w':World} (h:TB9 r (G9 r ms hs ds) n w w') (hr:r<w.heap.size):r<w'.heap.size:=Nat.lt_of_lt_of_le hr h.1.size
def OF {α:Type} (enc:α→List Value) (e:TypeId) (sz base n:Nat) (l:List α):VF:=fun v w=>∃ k,v=.slice (some ⟨k,0,none⟩) n n∧Own enc e sz w base (.slice (some ⟨k,0,none⟩) n n) l
def OFG (base n:Nat) (l:List (List Int)):VF:=fun v w=>∃ k,v=.slice (some ⟨k,0,none⟩) n n∧OwnG w base (.slice (some ⟨k,0,none⟩) n n) l
theorem OF.st {α:Type} {enc:α→List Value} {e:TypeId} {sz n:Nat} {l:List α}:∀ m v w w',TB9 r (G9 r ms hs ds) m w w'→OF enc e sz (r+1) n l v w→OF enc e sz (r+1) n l v w':=fun m v w w' h ⟨k,h1,h2⟩=>⟨k,h1,h2.keptH h.1 (by omega)⟩
theorem OFG.st {n:Nat} {l:List (List Int)}:∀ m v w w',TB9 r (G9 r ms hs ds) m w w'→OFG (r+1) n l v w→OFG (r+1) n l v w':=fun m v w w' h ⟨k,h1,h2⟩=>⟨k,h1,h2.keptH h.1 (by omega)⟩
theorem OF.new {α:Type} {enc:α→List Value} {e:TypeId} {sz:Nat} {w:World} (cs:Array Value) (l:List α) (hcs:cs.toList=l.flatMap enc) (henc:∀ x,(enc x).length=sz) (hr:r<w.heap.size) (hm:l.length≤maxLen) :
 TB9 r (G9 r ms hs ds) 1 w (w.alloc (.cells cs e))∧OF enc e sz (r+1) l.length l (.slice (some ⟨w.heap.size,0,none⟩) l.length l.length) (w.alloc (.cells cs e)) :=
 ⟨.bel (bal0 w _) hr,_,rfl,Own.lit w (r+1) cs l hcs henc hr hm⟩
def F9 (r s nm nd:Nat) (hs:List (List Int)) (ds:List De):VF:=fun v w=>∃ k1 k2 k3,v=.agg #[.int .i64 1,.slice (some ⟨s,0,none⟩) nm nm,.slice (some ⟨k1,0,none⟩) 2 2,.slice (some ⟨k2,0,none⟩) 2 2,.slice (some ⟨k3,0,none⟩) nd nd] ∧
 OwnI w (r+1) (.slice (some ⟨k1,0,none⟩) 2 2) [0,1]∧OwnG w (r+1) (.slice (some ⟨k2,0,none⟩) 2 2) hs∧OwnD w (r+1) (.slice (some ⟨k3,0,none⟩) nd nd) ds
theorem F9.st {s nm nd:Nat}:∀ m v w w',TB9 r (G9 r ms hs ds) m w w'→F9 r s nm nd hs ds v w→F9 r s nm nd hs ds v w':=fun m v w w' h ⟨k1,k2,k3,h1,h2,h3,h4⟩=>⟨k1,k2,k3,h1,h2.keptH h.1 (by omega),h3.keptH h.1 (by omega),h4.keptH h.1 (by omega)⟩
theorem G9.put {s nm nd k1 k2 k3:Nat} {w:World} (hb:HB9 r w) (hm:OwnM w (r+1) (.slice (some ⟨s,0,none⟩) nm nm) ms) (h1:OwnI w (r+1) (.slice (some ⟨k1,0,none⟩) 2 2) [0,1]) (h2:OwnG w (r+1) (.slice (some ⟨k2,0,none⟩) 2 2) hs) (h3:OwnD w (r+1) (.slice (some ⟨k3,0,none⟩) nd nd) ds)
 {W:World} (hW:W=(((((w.setCell ⟨r,0,none⟩ (.int .i64 1)).setCell ⟨r,1,none⟩ (.slice (some ⟨s,0,none⟩) nm nm)).setCell ⟨r,2,none⟩ (.slice (some ⟨k1,0,none⟩) 2 2)).setCell ⟨r,3,none⟩ (.slice (some ⟨k2,0,none⟩) 2 2)).setCell ⟨r,4,none⟩ (.slice (some ⟨k3,0,none⟩) nd nd))) :
 TB9 r (G9 r ms hs ds) 1 w W∧G9 r ms hs ds W:=by
 obtain⟨t,vm,vk,vh,vd,hb⟩:=hb
 have hW':W.heap[r]?=some (boxO 1 (.slice (some ⟨s,0,none⟩) nm nm) (.slice (some ⟨k1,0,none⟩) 2 2) (.slice (some ⟨k2,0,none⟩) 2 2) (.slice (some ⟨k3,0,none⟩) nd nd)):=by rw[hW];exact(j0d (j0d (j0d (j0d (j0d hb))))).trans (by simp;rfl)
 have hgr:w.grownBy W (some r):=by rw[hW];exact((((j0i _ r _ _).trans (j0i _ r _ _)).trans (j0i _ r _ _)).trans (j0i _ r _ _)).trans (j0i _ r _ _)
 have hG:G9 r ms hs ds W:=⟨_,_,_,_,hW',hm.keptH hgr (by omega),h1.keptH hgr (by omega),h2.keptH hgr (by omega),h3.keptH hgr (by omega)⟩
 exact⟨⟨hgr,fun _=>⟨_,_,_,_,_,hW'⟩,fun _=>hG⟩,hG⟩
end
theorem OwnG.lit2 {w:World} {base:Nat} {u v:Value} {x y:List Int} (hu:OwnI w base u x) (hv:OwnI w base v y) (hb:base≤w.heap.size):OwnG (w.alloc (.cells #[u,v] 25)) base (.slice (some ⟨w.heap.size,0,none⟩) 2 2) [x,y]:=by
 refine⟨[u,v],Own.lit (enc:=eVal) w base #[u,v] [u,v] rfl j3c hb (by simp[maxLen]),rfl,fun i v' hv'=>?_⟩
 match i,hv' with
 | 0,hv'=>simp at hv';subst hv';exact⟨x,rfl,hu.alloc _⟩
 | 1,hv'=>simp at hv';subst hv';exact⟨y,rfl,hv.alloc _⟩
 | i+2,hv'=>simp at hv'
def Book9R (w:World) (ms:List Mk) (hs:List (List Int)) (ds:List De) (e:Ending) (w':World):Prop :=
 (∃ A c Ak ck Ah ch Ad cd,e=.returned (Hb.v ⟨1,A,c,ms,Ak,ck,[0,1],Ah,ch,hs,Ad,cd,ds⟩)∧HbO w' w.heap.size ⟨1,A,c,ms,Ak,ck,[0,1],Ah,ch,hs,Ad,cd,ds⟩)∧Below w.heap.size w w'
theorem q2y (w:World):Calls Tryz.prog 45 #[] w (Book9R w bkM bkHs bkDs):=by
 obtain⟨r,hr⟩:∃ r,r=w.heap.size:=⟨_,rfl⟩
 obtain⟨V,hV⟩:∃ V,V=w.alloc (Obj.cells #[.int .i64 0,.slice none 0 0,.slice none 0 0,.slice none 0 0,.slice none 0 0] 29):=⟨_,rfl⟩
 have bV:V.heap[r]?=some (boxO 0 (.slice none 0 0) (.slice none 0 0) (.slice none 0 0) (.slice none 0 0)):=by rw[hV,hr];exact j0c rfl
 have hBV:Below w.heap.size w V:=by rw[hV];exact bal0 w _
 have hzV:V.heap.size=r+1:=by rw[hV,hr];simp
 have HV:=zQ9 (zA9 bV (zA9 hBV (zA9 hzV hr)))
 go_enter Tryz.func45,Tryz.ntmps45
 go_upto_region 1 with (fail)
 rw[←hV]
 rw[←hr]
 clear hV hr hzV bV hBV
 go_upto_region 2 with (fail)
 obtain⟨s,hs⟩:∃ s,s=V.heap.size:=⟨_,rfl⟩
 obtain⟨U,hU⟩:∃ U,U=(V.alloc (Obj.cells #[Value.int .i64 1,.int .i64 0,.int .i64 0,.int .i64 3,.int .i64 0,.int .i64 1,.int .i64 16,.int .i64 3,.int .i64 0] 117)).alloc (Obj.cells #[Value.int .i64 1,.slice (some ⟨V.heap.size,0,none⟩) 3 3] 24):=⟨_,rfl⟩
 rw[←hU,←hs]
 have hzs:s=r+1:=hs.trans HV.out.2.2.1
 have hBU:Below V.heap.size V U:=by rw[hU];exact bal (bal0 V _) (zL9 _) _
 have hmU:OwnM U (r+1) (.slice (some ⟨s,0,none⟩) 3 3) bkM:=by rw[hU,hs];exact(Own.lit (enc:=eMk) V (r+1) _ bkM rfl j3l (by omega) (by simp[maxLen])).alloc _
 have bR:U.heap[s+1]?=some (Obj.cells #[Value.int .i64 1,.slice (some ⟨s,0,none⟩) 3 3] 24 (0,0)):=by rw[hU,hs];exact j0c (by simp)
 have hHB:HB9 r U:=⟨_,_,_,_,_,j0e HV.out.1 hBU (zL9 _)⟩
 have hrU:r<U.heap.size:=by have:=hBU.size;omega
 have HC:Hid (∀ k w',TB9 r (G9 r bkM bkHs bkDs) k U w'→w'.cell? ⟨s+1,0,none⟩=some (.int .i64 1)∧w'.cell? ⟨s+1,1,none⟩=some (.slice (some ⟨s,0,none⟩) 3 3)) :=
  zQ9 fun k w' h=>blk2 ((h.1.block (s+1) (j0a bR) (fun e=>by cases e;omega)).trans bR)
 have HU:=zQ9 (zA9 hBU (zA9 hmU (zA9 hHB (zA9 hrU hzs))))
 clear hU hs hBU hmU bR hHB hrU hzs
 refine j6z (TB9 r (G9 r bkM bkHs bkDs)) (by kernel_rfl) (by kernel_rfl) TB9.tr (TB9.draw _) ?_
 apply Exists.intro
 refine⟨fun ys=>?_,fun ops K hK=>?_⟩
 ·simp only[j0q,List.filterMap_cons,List.filterMap_nil,j0r]
  go_simp
  rfl
 repeat
  refine LexI.const TB9.rf ?_
  apply Exists.intro
  refine⟨fun n' ys w' hn' hT hd=>?_,?_⟩
  ·try simp[j0f,j0g,DF.holds,Region.binds,EqF] at hd
   obtain⟨y0,y1⟩:=HC.out n' w' hT
   intro Q2 hQ2
   go_wp2_with fail
   rfl
  try simp only[List.nil_append,List.cons_append]
 refine LexI.some (OF eInt 3 1 (r+1) 2 [0,1]) (OF.st) (fun n' ys w' hn' hT hd=>?_) ?_
 ·try simp[j0f,j0g,DF.holds,Region.binds,EqF] at hd
  try simp only[hd]
  have hl:=hT.sz HU.out.2.2.2.1
  intro Q2 hQ2
  go_wp2_with fail
  exact OF.new _ [0,1] rfl j0u hl (by simp[maxLen])
 try simp only[List.nil_append,List.cons_append]
 refine LexI.some (OF eInt 3 1 (r+1) 3 [5,2,0]) (OF.st) (fun n' ys w' hn' hT hd=>?_) ?_
 ·try simp[j0f,j0g,DF.holds,Region.binds,EqF] at hd
  try simp only[hd]
  have hl:=hT.sz HU.out.2.2.2.1
  intro Q2 hQ2
  go_wp2_with fail
  exact OF.new _ [5,2,0] rfl j0u hl (by simp[maxLen])
 try simp only[List.nil_append,List.cons_append]
 refine LexI.some (OF eInt 3 1 (r+1) 3 [0,2,1]) (OF.st) (fun n' ys w' hn' hT hd=>?_) ?_
 ·try simp[j0f,j0g,DF.holds,Region.binds,EqF] at hd
  try simp only[hd]
  have hl:=hT.sz HU.out.2.2.2.1
  intro Q2 hQ2
  go_wp2_with fail
  exact OF.new _ [0,2,1] rfl j0u hl (by simp[maxLen])
 try simp only[List.nil_append,List.cons_append]
 refine LexI.some (OFG (r+1) 2 bkHs) (OFG.st) (fun n' ys w' hn' hT hd=>?_) ?_
 ·try simp[j0f,j0g,DF.holds,Region.binds,EqF] at hd
  try simp only[hd]
  obtain⟨⟨k1,e1,o1⟩,k2,e2,o2⟩:=hd
  simp only[e1,e2]
  have hl:=hT.sz HU.out.2.2.2.1
  have HO:=zQ9 (zA9 o1 o2)
  clear o1 o2
  intro Q2 hQ2
  go_wp2_with fail
  exact⟨.bel (bal0 w' _) hl,_,rfl,OwnG.lit2 HO.out.1 HO.out.2 hl⟩
 try simp only[List.nil_append,List.cons_append]
 repeat
  refine LexI.const TB9.rf ?_
  apply Exists.intro
  refine⟨fun n' ys w' hn' hT hd=>?_,?_⟩
  ·try simp[j0f,j0g,DF.holds,Region.binds,EqF] at hd
   obtain⟨y0,y1⟩:=HC.out n' w' hT
   intro Q2 hQ2
   go_wp2_with fail
   rfl
  try simp only[List.nil_append,List.cons_append]
 refine LexI.some (EqF (.agg #[.int .i64 3,.bool false,.bool false,.int .i64 0,.int .i64 (-1)])) (EqF.st) (fun n' ys w' hn' hT hd=>?_) ?_
 ·try simp[j0f,j0g,DF.holds,Region.binds,EqF] at hd
  try simp only[hd]
  have hl:=hT.sz HU.out.2.2.2.1
  intro Q2 hQ2
  go_wp2_with fail
  refine(k6d w').mono ?_
  rintro e wU ⟨rfl,hb⟩
  go_wp2
  exact⟨_,rfl,.bel hb hl,rfl⟩
 try simp only[List.nil_append,List.cons_append]
 refine LexI.const TB9.rf ?_
 refine⟨.agg #[.int .i64 5,.int .i64 0,.int .i64 0,.int .i64 0,.int .i64 1,.int .i64 0,.int .i64 0,.int .i64 3,.bool false,.bool false,.int .i64 0,.int .i64 (-1)],fun n' ys w' hn' hT hd=>?_,?_⟩
 ·try simp[j0f,j0g,DF.holds,Region.binds,EqF] at hd
  try simp only[hd]
  obtain⟨y0,y1⟩:=HC.out n' w' hT
  intro Q2 hQ2
  go_wp2_with fail
  try rfl
 try simp only[List.nil_append,List.cons_append]
 repeat
  refine LexI.const TB9.rf ?_
  apply Exists.intro
  refine⟨fun n' ys w' hn' hT hd=>?_,?_⟩
  ·try simp[j0f,j0g,DF.holds,Region.binds,EqF] at hd
   obtain⟨y0,y1⟩:=HC.out n' w' hT
   intro Q2 hQ2
   go_wp2_with fail
   rfl
  try simp only[List.nil_append,List.cons_append]
 refine LexI.some (OF eDe 33 12 (r+1) 4 bkDs) (OF.st) (fun n' ys w' hn' hT hd=>?_) ?_
 ·try simp[j0f,j0g,DF.holds,Region.binds,EqF] at hd
  try simp only[hd]
  have hl:=hT.sz HU.out.2.2.2.1
  intro Q2 hQ2
  go_wp2_with fail
  exact OF.new _ bkDs rfl j5t hl (by simp[maxLen])
 try simp only[List.nil_append,List.cons_append]
 refine LexI.some (F9 r s 3 4 bkHs bkDs) (F9.st) (fun n' ys w' hn' hT hd=>?_) ?_
 ·try simp[j0f,j0g,DF.holds,Region.binds,EqF] at hd
  try simp only[hd]
  obtain⟨e7,⟨k1,e1,o1⟩,⟨k2,e2,o2⟩,k3,e3,o3⟩:=hd
  simp only[e7,e1,e2,e3]
  have HO:=zQ9 (zA9 o1 (zA9 o2 o3))
  clear o1 o2 o3
  intro Q2 hQ2
  go_wp2_with fail
  exact⟨TB9.rf _,k1,k2,k3,rfl,HO.out.1,HO.out.2.1,HO.out.2.2⟩
 try simp only[List.nil_append,List.cons_append]
 refine LexI.some ((fun _ w=>G9 r bkM bkHs bkDs w)) (fun m v w w' h g=>h.2.2 g) (fun n' ys w' hn' hT hd=>?_) ?_
 ·try simp[j0f,j0g,DF.holds,Region.binds,EqF] at hd
  try simp only[hd]
  obtain⟨⟨k1,k2,k3,e18,o1,o2,o3⟩,-⟩:=hd
  simp only[e18]
  have hb:=hT.2.1 HU.out.2.2.1
  have hm:=HU.out.2.1.keptH hT.1 (show r<r+1 by omega)
  have HO:=zQ9 (zA9 hb (zA9 hm (zA9 o1 (zA9 o2 o3))))
  obtain⟨t0,vm0,vk0,vh0,vd0,hb0⟩:=hb
  obtain⟨z0,z1,z2,z3,z4⟩:=blk5 hb0
  obtain⟨f0,f1,f2,f3,f4⟩:=zA9 (frz hb0 0) (zA9 (frz hb0 1) (zA9 (frz hb0 2) (zA9 (frz hb0 3) (frz hb0 4))))
  have hlb:=j0a hb0
  clear hm o1 o2 o3 hb0
  intro Q2 hQ2
  go_wp2_with fail
  exact⟨(G9.put HO.out.1 HO.out.2.1 HO.out.2.2.1 HO.out.2.2.2.1 HO.out.2.2.2.2 rfl).1,(G9.put HO.out.1 HO.out.2.1 HO.out.2.2.1 HO.out.2.2.2.1 HO.out.2.2.2.2 rfl).2⟩
 try simp only[List.nil_append,List.cons_append]
 refine hK _ (fun n' ys wc hn' hT hF=>?_)
 simp only[AllF,DF.holds] at hF
 have hG:G9 r bkM bkHs bkDs wc:=by
  obtain⟨-,-,-,-,-,-,-,-,-,-,-,-,⟨_,h⟩,-⟩:=hF
  exact h
 obtain⟨vm,vk,vh,vd,hb,h1,h2,h3,h4⟩:=hG
 obtain⟨A,c,rfl,-⟩:=h1.form j3l
 obtain⟨Ak,ck,rfl,-⟩:=h2.form j0u
 obtain⟨Ah,ch,rfl,-⟩:=h3.form
 obtain⟨Ad,cd,rfl,-⟩:=h4.form j5t
 obtain⟨p0,p1,p2,p3,p4⟩:=blk5 hb
 have hB:Below w.heap.size w wc:=by
  have h1:=HV.out
  have h2:=HU.out.1
  have h3:Below r w U:=(h1.2.1.mono (Nat.le_of_eq h1.2.2.2)).trans (h2.mono (by omega))
  rw[←h1.2.2.2]
  exact h3.grown hT.1 (by have:=HU.out.2.2.2.1;omega) (fun k e=>by cases e;exact zL9 _)
 have HF:=zQ9 (zA9 h1 (zA9 h2 (zA9 h3 (zA9 h4 hB))))
 have hlb:=j0a hb
 have hwr:=HV.out.2.2.2
 clear h1 h2 h3 h4 hB hF hT
 go_wp2
 refine bodyPost_ret (v:=Hb.v ⟨1,A,c,bkM,Ak,ck,[0,1],Ah,ch,bkHs,Ad,cd,bkDs⟩) (by simp[results,Tryz.f45,go_sem,p0,p1,p2,p3,p4]) rfl ⟨⟨A,c,Ak,ck,Ah,ch,Ad,cd,rfl,?_⟩,HF.out.2.2.2.2⟩
 have h:=HF.out
 exact⟨h.1.mono (by omega),h.2.1.mono (by omega),h.2.2.1.mono (by omega),h.2.2.2.1.mono (by omega)⟩
theorem bk_ck:j4s 1 bkM [0,1] bkHs bkDs=0:=by decide +kernel
theorem bk_n:(j2l 1 bkM bkHs bkDs (-1) 0).length=5:=by decide +kernel
theorem bk_has:hasL (j2l 1 bkM bkHs bkDs (-1) 0) 3 2=[[⟨6,7⟩,⟨1,2⟩,⟨0,0⟩],[⟨0,1⟩,⟨1,3⟩,⟨0,1⟩]]:=by decide +kernel
theorem k7v:j4h ⟨1,none,0,bkM,none,0,[0,1],none,0,bkHs,none,0,bkDs⟩ 1=0∧j2u ⟨1,none,0,bkM,none,0,[0,1],none,0,bkHs,none,0,bkDs⟩ 1 3=[0,1]:=by decide +kernel
abbrev bkSs:List Sg:=[⟨3,false,false,0,-1⟩,⟨3,false,false,0,1⟩,⟨16,false,false,3,0⟩]
theorem q0o:j4z ⟨1,none,0,bkM,none,0,[0,1],none,0,bkHs,none,0,bkDs⟩ 1 bkSs=0∧k4s ⟨1,none,0,bkM,none,0,[0,1],none,0,bkHs,none,0,bkDs⟩ 1 bkSs=[⟨0,1⟩,⟨1,2⟩,⟨1,1⟩]:=by decide +kernel
section
variable {w w' a b':World} {base:Nat}
theorem Sl.bH {α:Type} {enc:α→List Value} {sz:Nat} {A:Option Addr} {n:Nat} {l:List α} (h:Sl enc sz w A n l) (hb:Hid (Below w.heap.size w w')):Sl enc sz w' A n l:=h.below hb.out (zL9 _)
theorem j2f.bH {α:Type} {enc:α→List Value} {sz:Nat} {A:Option Addr} {n:Nat} {l:List (List α)} (h:j2f enc sz w A n l) (hb:Hid (Below w.heap.size w w')):j2f enc sz w' A n l:=h.below hb.out (zL9 _)
theorem j2f.al {α:Type} {enc:α→List Value} {sz:Nat} {A:Option Addr} {n:Nat} {l:List (List α)} (h:j2f enc sz w A n l) (o:Obj):j2f enc sz (w.alloc o) A n l:=h.below (bal0 w o) (zL9 _)
theorem HbIn.bH {b:Hb} (h:HbIn w b) (hb:Hid (Below w.heap.size w w')):HbIn w' b:=h.below hb.out (zL9 _)
theorem HbIn.al {b:Hb} (h:HbIn w b) (o:Obj):HbIn (w.alloc o) b:=h.below (bal0 w o) (zL9 _)
theorem blkbH {b:Nat} {o:Obj} (h:w.heap[b]?=some o) (hb:Hid (Below w.heap.size w w')):w'.heap[b]?=some o:=j0e h hb.out (zL9 _)
theorem belS (h:Below w.heap.size w a) (hb:Hid (Below a.heap.size a b')):Below w.heap.size w b':=h.trans (hb.out.mono h.size)
theorem tab2 {k r1 r2 n1 n2 c1 c2:Nat} {cs1 cs2:Array Value} {t t':TypeId} {x y:List Rn} (hk:w.heap[k]?=some (.cells #[.slice (some ⟨r1,0,none⟩) n1 c1,.slice (some ⟨r2,0,none⟩) n2 c2] t (0,0))) (h1:w.heap[r1]?=some (.cells cs1 t' (0,0))) (h2:w.heap[r2]?=some (.cells cs2 t' (0,0)))
 (e1:cs1.toList=x.flatMap eRn) (e2:cs2.toList=y.flatMap eRn) (hn1:n1=x.length) (hn2:n2=y.length) (hc1:n1≤c1∧c1≤maxLen) (hc2:n2≤c2∧c2≤maxLen):Table w (some ⟨k,0,none⟩) 2 [x,y]:=by
 subst hn1 hn2
 refine⟨[.slice (some ⟨r1,0,none⟩) x.length c1,.slice (some ⟨r2,0,none⟩) y.length c2],Sl.of_blk (enc:=eVal) hk rfl j3c,rfl,fun i v hv=>?_⟩
 match i,hv with
 | 0,hv=>simp at hv;subst hv;exact⟨_,x,c1,rfl,rfl,Sl.of_blk h1 e1 j3m,hc1.1,hc1.2⟩
 | 1,hv=>simp at hv;subst hv;exact⟨_,y,c2,rfl,rfl,Sl.of_blk h2 e2 j3m,hc2.1,hc2.2⟩
 | i+2,hv=>simp at hv
end
theorem j8o (w:World):Calls Tryz.prog 45 #[] w fun e w'=>(∃ A c Ak ck Ah ch Ad cd,e=.returned (.agg #[.int .i64 1,.slice A 3 c,.slice Ak 2 ck,.slice Ah 2 ch,.slice Ad 4 cd])∧HbIn w' ⟨1,A,c,bkM,Ak,ck,[0,1],Ah,ch,bkHs,Ad,cd,bkDs⟩)∧Below w.heap.size w w' :=
 (q2y w).mono fun e w' ⟨⟨A,c,Ak,ck,Ah,ch,Ad,cd,h1,h2⟩,h3⟩=>⟨⟨A,c,Ak,ck,Ah,ch,Ad,cd,h1,h2.inn⟩,h3⟩
theorem q0l (A Ak Ah Ad:Option Addr) (c ck ch cd:Nat) (w:World) (hi:HbIn w ⟨1,A,c,bkM,Ak,ck,[0,1],Ah,ch,bkHs,Ad,cd,bkDs⟩):Calls Tryz.prog 13 #[.agg #[.int .i64 1,.slice A 3 c,.slice Ak 2 ck,.slice Ah 2 ch,.slice Ad 4 cd]] w fun e w'=>e=.returned (.tuple #[.int .i64 5,.int .i64 0])∧Below w.heap.size w w':=by
 have ht:=q1j _ w hi
 unfold k1u at ht
 rw[show Hb.chk ⟨1,A,c,bkM,Ak,ck,[0,1],Ah,ch,bkHs,Ad,cd,bkDs⟩=0 from bk_ck,if_pos rfl,show(Hb.ends ⟨1,A,c,bkM,Ak,ck,[0,1],Ah,ch,bkHs,Ad,cd,bkDs⟩ (-1) 0).length=5 from bk_n] at ht
 exact ht
theorem has9_any (A Ak Ah Ad:Option Addr) (c ck ch cd:Nat) (w:World) (hi:HbIn w ⟨1,A,c,bkM,Ak,ck,[0,1],Ah,ch,bkHs,Ad,cd,bkDs⟩):Calls Tryz.prog 29 #[.agg #[.int .i64 1,.slice A 3 c,.slice Ak 2 ck,.slice Ah 2 ch,.slice Ad 4 cd]] w fun e w'=>(∃ B d,e=.returned (.tuple #[.slice B 2 d,.int .i64 0])∧Table w' B 2 [[⟨6,7⟩,⟨1,2⟩,⟨0,0⟩],[⟨0,1⟩,⟨1,3⟩,⟨0,1⟩]])∧Below w.heap.size w w':=by
 have ht:=k5b _ w hi
 have hak:askE ⟨1,A,c,bkM,Ak,ck,[0,1],Ah,ch,bkHs,Ad,cd,bkDs⟩=0:=j6a bk_ck (fun h=>by have h5:=bk_n;rw[show j2l 1 bkM bkHs bkDs (-1) 0=[] from h] at h5;cases h5)
 have htb:hasR ⟨1,A,c,bkM,Ak,ck,[0,1],Ah,ch,bkHs,Ad,cd,bkDs⟩=[[⟨6,7⟩,⟨1,2⟩,⟨0,0⟩],[⟨0,1⟩,⟨1,3⟩,⟨0,1⟩]]:=by unfold hasR;rw[if_pos hak];exact bk_has
 unfold HasR at ht
 rw[hak,htb] at ht
 refine ht.mono ?_
 rintro e w' ⟨⟨v,rfl,ho⟩,hb⟩
 obtain⟨B,d,rfl,h1,-⟩:=ho.form j3m
 exact⟨⟨B,d,rfl,h1⟩,hb⟩
theorem q2p (A Ak Ah Ad:Option Addr) (c ck ch cd:Nat) (w:World) (hi:HbIn w ⟨1,A,c,bkM,Ak,ck,[0,1],Ah,ch,bkHs,Ad,cd,bkDs⟩):Calls Tryz.prog 46 #[.agg #[.int .i64 1,.slice A 3 c,.slice Ak 2 ck,.slice Ah 2 ch,.slice Ad 4 cd],.int .i64 1] w fun e w'=>(∃ B d,e=.returned (.tuple #[.slice B 2 d,.int .i64 0])∧Ints w' B 2 [0,1])∧Below w.heap.size w w':=by
 have ht:=q2w _ 1 w hi
 have he:j4h ⟨1,A,c,bkM,Ak,ck,[0,1],Ah,ch,bkHs,Ad,cd,bkDs⟩ 1=0:=k7v.1
 have hr:k1t ⟨1,A,c,bkM,Ak,ck,[0,1],Ah,ch,bkHs,Ad,cd,bkDs⟩ 1=[0,1]:=by unfold k1t;rw[if_pos he];exact k7v.2
 unfold k3v at ht
 rw[he,hr] at ht
 refine ht.mono ?_
 rintro e w' ⟨⟨v,rfl,ho⟩,hb⟩
 obtain⟨B,d,rfl,h1,-⟩:=ho.form j0u
 exact⟨⟨B,d,rfl,h1⟩,hb⟩
theorem q4q (A Ak Ah Ad:Option Addr) (c ck ch cd:Nat) (w:World) (hi:HbIn w ⟨1,A,c,bkM,Ak,ck,[0,1],Ah,ch,bkHs,Ad,cd,bkDs⟩) (S:Option Addr) (hs:Sights w S 3 bkSs):Calls Tryz.prog 22 #[.agg #[.int .i64 1,.slice A 3 c,.slice Ak 2 ck,.slice Ah 2 ch,.slice Ad 4 cd],.int .i64 1,.slice S 3 3] w fun e w'=>(∃ B d,e=.returned (.tuple #[.slice B 3 d,.int .i64 0])∧Sl eRn 2 w' B 3 [⟨0,1⟩,⟨1,2⟩,⟨1,1⟩])∧Below w.heap.size w w':=by
 have ht:=Part_any _ 1 S 3 3 bkSs w hi hs (by simp[maxLen])
 have he:j4z ⟨1,A,c,bkM,Ak,ck,[0,1],Ah,ch,bkHs,Ad,cd,bkDs⟩ 1 bkSs=0:=q0o.1
 have hr:k4s ⟨1,A,c,bkM,Ak,ck,[0,1],Ah,ch,bkHs,Ad,cd,bkDs⟩ 1 bkSs=[⟨0,1⟩,⟨1,2⟩,⟨1,1⟩]:=q0o.2
 unfold PartR at ht
 rw[he,hr] at ht
 refine ht.mono ?_
 rintro e w' ⟨⟨v,rfl,ho⟩,hb⟩
 obtain⟨B,d,rfl,h1,-⟩:=ho.form j3m
 exact⟨⟨B,d,rfl,h1⟩,hb⟩
theorem k2k (w:World):Calls Tryz.prog 8 #[] w fun e w'=>e=.returned (.bool true)∧Below w.heap.size w w':=by
 go_enter Tryz.func8,Tryz.ntmps8
 go_wp2_with fail
 with_reducible refine(j8o _).mono ?_
 rintro e v1 ⟨⟨A1,c1,Ak1,ck1,Ah1,ch1,Ad1,cd1,rfl,hi1⟩,hb1⟩
 have HB1:=zQ9 hb1
 clear hb1
 have ht:=q0l A1 Ak1 Ah1 Ad1 c1 ck1 ch1 cd1 v1 hi1
 clear hi1
 go_wp2_with fail
 with_reducible refine ht.mono ?_
 rintro e v2 ⟨rfl,hb2⟩
 have HB2:=zQ9 hb2
 clear hb2 ht
 go_wp2_with fail
 with_reducible refine(j8o _).mono ?_
 rintro e v3 ⟨⟨A3,c3,Ak3,ck3,Ah3,ch3,Ad3,cd3,rfl,hi3⟩,hb3⟩
 have HB3:=zQ9 hb3
 clear hb3
 have ht:=has9_any A3 Ak3 Ah3 Ad3 c3 ck3 ch3 cd3 v3 hi3
 clear hi3
 go_wp2_with fail
 with_reducible refine ht.mono ?_
 rintro e v4 ⟨⟨At,ct,rfl,ht4⟩,hb4⟩
 have HB4:=zQ9 hb4
 have HT4:=zQ9 ht4
 clear hb4 ht ht4
 go_wp2_with fail
 with_reducible refine(j8o _).mono ?_
 rintro e v5 ⟨⟨A5,c5,Ak5,ck5,Ah5,ch5,Ad5,cd5,rfl,hi5⟩,hb5⟩
 have HB5:=zQ9 hb5
 clear hb5
 have ht:=q2p A5 Ak5 Ah5 Ad5 c5 ck5 ch5 cd5 v5 hi5
 clear hi5
 go_wp2_with fail
 with_reducible refine ht.mono ?_
 rintro e v6 ⟨⟨Aw,cw,rfl,ht6⟩,hb6⟩
 have HB6:=zQ9 hb6
 have HT6:=zQ9 ht6
 clear hb6 ht ht6
 go_wp2_with fail
 with_reducible refine(j8o _).mono ?_
 rintro e v7 ⟨⟨A7,c7,Ak7,ck7,Ah7,ch7,Ad7,cd7,rfl,hi7⟩,hb7⟩
 have HB7:=zQ9 hb7
 clear hb7
 have HI7:=zQ9 hi7
 clear hi7
 go_wp2_with fail
 with_reducible refine(k6d _).mono ?_
 rintro e v8 ⟨rfl,hb8⟩
 have HB8:=zQ9 hb8
 clear hb8
 unfold vSg
 go_wp2_with fail
 with_reducible refine(q4q A7 Ak7 Ah7 Ad7 c7 ck7 ch7 cd7 _ ((HI7.out.bH HB8).al _) (some ⟨v8.heap.size,0,none⟩) (Sl.lit v8 31 _ bkSs rfl lenSg (by simp[maxLen]))).mono ?_
 rintro e v9 ⟨⟨Ap,cp,rfl,ht9⟩,hb9⟩
 have HB9:=zQ9 hb9
 have HT9:=zQ9 ht9
 clear hb9 ht9
 go_wp2_with fail
 with_reducible refine(j3d 6 7 _).mono ?_
 rintro e v10 ⟨rfl,hb10⟩
 have HB10:=zQ9 hb10
 clear hb10
 go_wp2_with fail
 with_reducible refine(j3d 1 2 _).mono ?_
 rintro e v11 ⟨rfl,hb11⟩
 have HB11:=zQ9 hb11
 clear hb11
 go_wp2_with fail
 with_reducible refine(j3d 0 0 _).mono ?_
 rintro e v12 ⟨rfl,hb12⟩
 have HB12:=zQ9 hb12
 clear hb12
 go_wp2_with fail
 with_reducible refine(j3d 0 1 _).mono ?_
 rintro e v13 ⟨rfl,hb13⟩
 have HB13:=zQ9 hb13
 clear hb13
 go_wp2_with fail
 with_reducible refine(j3d 1 3 _).mono ?_
 rintro e v14 ⟨rfl,hb14⟩
 have HB14:=zQ9 hb14
 clear hb14
 go_wp2_with fail
 with_reducible refine(j3d 0 1 _).mono ?_
 rintro e v15 ⟨rfl,hb15⟩
 have HB15:=zQ9 hb15
 clear hb15
 go_wp2_with fail
 have hx:Table ((v15.alloc (Obj.cells #[Value.int .i64 0,.int .i64 1,.int .i64 1,.int .i64 3,.int .i64 0,.int .i64 1] 72)).alloc (Obj.cells #[.slice (some ⟨v12.heap.size,0,none⟩) 3 3,.slice (some ⟨v15.heap.size,0,none⟩) 3 3] 57)) At 2 [[⟨6,7⟩,⟨1,2⟩,⟨0,0⟩],[⟨0,1⟩,⟨1,3⟩,⟨0,1⟩]]:=by
  repeat (first|(with_reducible refine Hid.out ?_;assumption)|(with_reducible refine j2f.al ?_ _)|(with_reducible refine j2f.bH ?_ (by assumption)))
 have hy:Table ((v15.alloc (Obj.cells #[Value.int .i64 0,.int .i64 1,.int .i64 1,.int .i64 3,.int .i64 0,.int .i64 1] 72)).alloc (Obj.cells #[.slice (some ⟨v12.heap.size,0,none⟩) 3 3,.slice (some ⟨v15.heap.size,0,none⟩) 3 3] 57)) (some ⟨v15.heap.size+1,0,none⟩) 2 [[⟨6,7⟩,⟨1,2⟩,⟨0,0⟩],[⟨0,1⟩,⟨1,3⟩,⟨0,1⟩]]:=by
  have h0:(v12.alloc (Obj.cells #[Value.int .i64 6,.int .i64 7,.int .i64 1,.int .i64 2,.int .i64 0,.int .i64 0] 72)).heap[v12.heap.size]?=some (Obj.cells #[Value.int .i64 6,.int .i64 7,.int .i64 1,.int .i64 2,.int .i64 0,.int .i64 0] 72 (0,0)):=j0c rfl
  have H0:=zQ9 h0
  refine tab2 (j0c (by simp)) (cs1:=#[Value.int .i64 6,.int .i64 7,.int .i64 1,.int .i64 2,.int .i64 0,.int .i64 0]) (t':=72) ?_ (j0b (j0c rfl) _) rfl rfl rfl rfl (by simp[maxLen]) (by simp[maxLen])
  repeat (first|(with_reducible refine Hid.out ?_;assumption)|(with_reducible refine j0b ?_ _)|(with_reducible refine blkbH ?_ (by assumption)))
 with_reducible refine(j9l At 2 ct _ (some ⟨v15.heap.size+1,0,none⟩) 2 2 _ _ hx hy (by simp[maxLen]) (by simp[maxLen])).mono ?_
 clear hx hy
 rintro e v16 ⟨rfl,hb16⟩
 have HB16:=zQ9 hb16
 clear hb16
 go_wp2_with fail
 have hx:Ints (v16.alloc (Obj.cells #[Value.int .i64 0,.int .i64 1] 3)) Aw 2 [0,1]:=by
  repeat (first|(with_reducible refine Hid.out ?_;assumption)|(with_reducible refine Sl.alloc ?_ _)|(with_reducible refine Sl.bH ?_ (by assumption)))
 with_reducible refine(j8j Aw 2 cw [0,1] (some ⟨v16.heap.size,0,none⟩) 2 2 [0,1] _ hx (ints2 v16 3 0 1) (by simp[maxLen]) (by simp[maxLen])).mono ?_
 clear hx
 rintro e v17 ⟨rfl,hb17⟩
 have HB17:=zQ9 hb17
 clear hb17
 go_wp2_with fail
 with_reducible refine(j3d 0 1 _).mono ?_
 rintro e v18 ⟨rfl,hb18⟩
 have HB18:=zQ9 hb18
 clear hb18
 go_wp2_with fail
 with_reducible refine(j3d 1 2 _).mono ?_
 rintro e v19 ⟨rfl,hb19⟩
 have HB19:=zQ9 hb19
 clear hb19
 go_wp2_with fail
 with_reducible refine(j3d 1 1 _).mono ?_
 rintro e v20 ⟨rfl,hb20⟩
 have HB20:=zQ9 hb20
 clear hb20
 go_wp2_with fail
 have hx:Sl eRn 2 (v20.alloc (Obj.cells #[Value.int .i64 0,.int .i64 1,.int .i64 1,.int .i64 2,.int .i64 1,.int .i64 1] 72)) Ap 3 [⟨0,1⟩,⟨1,2⟩,⟨1,1⟩]:=by
  repeat (first|(with_reducible refine Hid.out ?_;assumption)|(with_reducible refine Sl.alloc ?_ _)|(with_reducible refine Sl.bH ?_ (by assumption)))
 have hy:Sl eRn 2 (v20.alloc (Obj.cells #[Value.int .i64 0,.int .i64 1,.int .i64 1,.int .i64 2,.int .i64 1,.int .i64 1] 72)) (some ⟨v20.heap.size,0,none⟩) 3 [⟨0,1⟩,⟨1,2⟩,⟨1,1⟩]:=Sl.lit v20 72 #[Value.int .i64 0,.int .i64 1,.int .i64 1,.int .i64 2,.int .i64 1,.int .i64 1] ([⟨0,1⟩,⟨1,2⟩,⟨1,1⟩]:List Rn) rfl j3m (by simp[maxLen])
 with_reducible refine(j4q Ap 3 cp [⟨0,1⟩,⟨1,2⟩,⟨1,1⟩] (some ⟨v20.heap.size,0,none⟩) 3 3 [⟨0,1⟩,⟨1,2⟩,⟨1,1⟩] _ hx hy (by simp[maxLen]) (by simp[maxLen])).mono ?_
 clear hx hy
 rintro e v21 ⟨rfl,hb21⟩
 have HB21:=zQ9 hb21
 clear hb21
 go_wp2_with fail
 go_ret
 refine⟨rfl,?_⟩
 repeat (first|exact Below.refl _ _|(with_reducible refine belS ?_ (by assumption))|(with_reducible refine bal ?_ (zL9 _) _))
end Go.Proofs.YtmennjmjakdkcaaGreat
