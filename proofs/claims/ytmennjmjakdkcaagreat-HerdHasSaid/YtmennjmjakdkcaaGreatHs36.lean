/- HerdHas. -/
import Derived.Test.YtmennjmjakdkcaaGreatHs35
set_option linter.unusedVariables false
set_option linter.unusedSimpArgs false
set_option maxRecDepth 100000
set_option maxHeartbeats 8000000
namespace Go.Proofs.YtmennjmjakdkcaaGreat
open Go.RowKit Go.MapKept
attribute [local go_sem] Oper.semAt_some
def rowH (x:List Int) (f n:Nat):List Int:=(List.range n).map fun o=>hget x f o
def fitP (b:Hb) (f:Nat) (ss:List Sg) (x:List Int):Bool:=decide (hall x f=(ss.length:Int))&&decide (j7e b.t b.l ss (rowH x f b.l.length)=0)
def j7i (b:Hb) (f:Nat) (ss:List Sg):List (List Int):=(b.ends (-1) 0).filter (fitP b f ss)
def j4z (b:Hb) (flock:Int) (ss:List Sg):Int :=
 if b.chk≠0 then b.chk else if ownB b.ks.length flock=false then 3 else if 6<ss.length then 6 else if j2e ss≠0 then j2e ss
 else if b.ends (-1) 0=[] then 11 else if j7i b flock.toNat ss=[] then 12 else 0
def k4s (b:Hb) (flock:Int) (ss:List Sg):List Rn:=if j4z b flock ss=0 then j1b (j7i b flock.toNat ss) (fun o x=>hget x flock.toNat o) b.l.length else []
def PartR (b:Hb) (flock:Int) (ss:List Sg) (w:World) (e:Ending) (w':World):Prop:=(∃ v,e=.returned (.tuple #[v,.int .i64 (j4z b flock ss)])∧OwnR w' w.heap.size v (k4s b flock ss))∧Below w.heap.size w w'
theorem j6g {b:Hb} {flock:Int} {ss:List Sg} {w w':World} {e:Int} (he:j4z b flock ss=e) (h0:e≠0) (hb:Below w.heap.size w w'):PartR b flock ss w (.returned (.tuple #[.slice none 0 0,.int .i64 e])) w':=by
 refine⟨⟨_,by rw[he],?_⟩,hb⟩
 unfold k4s
 rw[he,if_neg h0]
 exact Own.nil_
def eSp (x:Rn × Bool):List Value:=[.int .i64 x.1.lo,.int .i64 x.1.hi,.bool x.2]
def spL (L:List (Rn × Bool)):List Value:=L.flatMap eSp
def j2z (L:List (Rn × Bool)):Array Value:=(spL L).toArray
theorem q1b:∀ (L:List (Rn × Bool)) (j:Nat) (x:Rn × Bool),j<L.length→(((spL L).set (j*3) (.int .i64 x.1.lo)).set (j*3+1) (.int .i64 x.1.hi)).set (j*3+2) (.bool x.2)=spL (L.set j x)
 | [],j,x,h=>absurd h (by simp)
 | y::L,0,x,_=>by simp[spL,eSp]
 | y::L,j+1,x,h=>by
   have ih:=q1b L j x (by simpa using h)
   have e:∀ (Y:List (Rn × Bool)) (z:Rn × Bool),spL (z::Y)=.int .i64 z.1.lo::.int .i64 z.1.hi::.bool z.2::spL Y:=fun Y z=>by simp[spL,eSp]
   rw[List.set_cons_succ,e,e,←ih,show(j+1)*3=j*3+1+1+1 by omega,show j*3+1+1+1+1=(j*3+1)+1+1+1 by omega,show j*3+1+1+1+2=(j*3+2)+1+1+1 by omega]
   simp only[List.set_cons_succ]
theorem q4v (L:List (Rn × Bool)) {j:Nat} (x:Rn × Bool) (h:j<L.length):(((j2z L).setIfInBounds (j*3) (.int .i64 x.1.lo)).setIfInBounds (j*3+1) (.int .i64 x.1.hi)).setIfInBounds (j*3+2) (.bool x.2)=j2z (L.set j x):=by
 unfold j2z
 rw[←q1b L j x h]
 simp
theorem spL_at:∀ {L:List (Rn × Bool)} {j:Nat} {x:Rn × Bool},L[j]?=some x→(spL L)[j*3]?=some (.int .i64 x.1.lo)∧(spL L)[j*3+1]?=some (.int .i64 x.1.hi)∧(spL L)[j*3+2]?=some (.bool x.2)
 | [],j,x,h=>by simp at h
 | y::L,0,x,h=>by simp at h;subst h;simp[spL,eSp]
 | y::L,j+1,x,h=>by
   have ih:=spL_at (L:=L) (j:=j) (x:=x) (by simpa using h)
   have e:spL (y::L)=.int .i64 y.1.lo::.int .i64 y.1.hi::.bool y.2::spL L:=by simp[spL,eSp]
   rw[e,show(j+1)*3=j*3+1+1+1 by omega,show j*3+1+1+1+1=(j*3+1)+1+1+1 by omega,show j*3+1+1+1+2=(j*3+2)+1+1+1 by omega]
   simpa using ih
theorem k3q {w:World} {b:Nat} {L:List (Rn × Bool)} {t:TypeId} {j:Nat} {x:Rn × Bool} (h:w.heap[b]?=some (.cells (j2z L) t (0,0))) (hx:L[j]?=some x) :
 w.cell? ⟨b,j*3,none⟩=some (.int .i64 x.1.lo)∧w.cell? ⟨b,j*3+1,none⟩=some (.int .i64 x.1.hi)∧w.cell? ⟨b,j*3+2,none⟩=some (.bool x.2):=by
 obtain⟨h1,h2,h3⟩:=spL_at hx
 simp only[World.cell?,h,j2z,List.getElem?_toArray]
 exact⟨h1,h2,h3⟩
theorem made_sp {n:Nat} (h:n≤5):madeCells #[.int .i64 0,.int .i64 0,.bool false] (n*3)=j2z (List.replicate n (⟨0,0⟩,false)):=by
 obtain rfl|rfl|rfl|rfl|rfl|rfl:n=0∨n=1∨n=2∨n=3∨n=4∨n=5:=by omega
 all_goals
  unfold madeCells j2z spL
  rw[←List.toArray_range,List.map_toArray]
  simp[eSp,List.range_succ,List.replicate]
theorem q4d:(Tryz.prog.info? 136).map (fun i=>(i.zero,i.size,i.bytes))=some (some (.agg #[.int .i64 0,.int .i64 0,.bool false]),3,24):=by kernel_rfl
theorem run_mkSp (W:World) {n:Nat} (h:n≤5):(Instr.makeSlice 127 (.int .i64 (n:Int)) (.int .i64 (n:Int))).run Tryz.prog W=.ok (.slice (some ⟨W.heap.size,0,none⟩) n n) (W.alloc (.cells (j2z (List.replicate n (⟨0,0⟩,false))) 136)):=by
 obtain⟨i,hi,a,b,c⟩:=info_parts q4d
 have:=run_make (P:=Tryz.prog) W 127 136 i _ Tryz.underlying127 hi a .i64 .i64 (n:Int) (n:Int) (by omega) (Int.le_refl _) (by rw[c];omega) (by omega)
 rw[b,Int.toNat_natCast] at this
 rw[this,←made_sp h]
 rfl
def spF (E:List (List Int)) (f n:Nat):List (Rn × Bool):=(List.range n).map fun o=>(j0o E (fun x=>hget x f o),!decide (E=[]))
theorem spF_nil (f n:Nat):spF [] f n=List.replicate n (⟨0,0⟩,false):=by
 unfold spF
 apply List.ext_getElem?
 intro i
 rw[List.getElem?_map,List.getElem?_replicate]
 by_cases hi:i<n
 ·rw[List.getElem?_range hi,if_pos hi];rfl
 ·rw[if_neg hi,List.getElem?_eq_none (by simp;omega)];rfl
def spJ (E:List (List Int)) (x:List Int) (f n j:Nat):List (Rn × Bool):=(List.range n).map fun o=>if o<j then (j0o (E++[x]) (fun x=>hget x f o),true) else (j0o E (fun x=>hget x f o),!decide (E=[]))
theorem q1a (E:List (List Int)) (x:List Int) (f n j:Nat):(spJ E x f n j).length=n:=by simp[spJ]
theorem spJ_zero (E:List (List Int)) (x:List Int) (f n:Nat):spJ E x f n 0=spF E f n:=by simp[spJ,spF]
theorem spJ_all (E:List (List Int)) (x:List Int) (f n:Nat):spJ E x f n n=spF (E++[x]) f n:=by
 unfold spJ spF
 apply List.map_congr_left
 intro o ho
 rw[if_pos (List.mem_range.1 ho)]
 simp
theorem spJ_at {E:List (List Int)} {x:List Int} {f n j:Nat} (h:j<n):(spJ E x f n j)[j]?=some (j0o E (fun x=>hget x f j),!decide (E=[])):=by
 unfold spJ
 rw[List.getElem?_map,List.getElem?_range h]
 simp
theorem spF_at {E:List (List Int)} {f n j:Nat} (h:j<n):(spF E f n)[j]?=some (j0o E (fun x=>hget x f j),!decide (E=[])):=by
 unfold spF
 rw[List.getElem?_map,List.getElem?_range h]
 rfl
theorem k9i {E E':List (List Int)} (h:E.Perm E') (G:Nat→List Int→Int) (k:Nat):j1b E G k=j1b E' G k:=by
 unfold j1b
 apply List.map_congr_left
 intro i _
 exact k2o h
theorem spJ_succ {E:List (List Int)} {x:List Int} {f n j:Nat} (h:j<n):spJ E x f n (j+1)=(spJ E x f n j).set j (j2o (j0o E (fun x=>hget x f j)) (!decide (E=[])) (hget x f j),true):=by
 apply List.ext_getElem?
 intro i
 rw[List.getElem?_set,q1a]
 by_cases hij:j=i
 ·subst hij
  rw[if_pos rfl,if_pos h]
  unfold spJ
  rw[List.getElem?_map,List.getElem?_range h,Option.map_some,if_pos (by omega),k2p]
  unfold j2o
  by_cases hE:E=[]<;>simp[hE]
 ·rw[if_neg hij]
  unfold spJ
  rw[List.getElem?_map,List.getElem?_map]
  by_cases hi:i<n
  ·rw[List.getElem?_range hi,Option.map_some,Option.map_some]
   have:(i<j+1)=(i<j):=by simp;omega
   simp only[this]
  ·rw[List.getElem?_eq_none (by simp;omega)]
   rfl
theorem row_ints {W:World} {Bx:Nat} {x:List Int} (hb:W.heap[Bx]?=some (hObj x)) (hxl:x.length=15) {f n:Nat} (hf:f<3) (hn:n≤5):Ints W (some ⟨Bx,f*5,none⟩) n (rowH x f n):=by
 refine⟨by simp[rowH],fun _=>⟨Bx,f*5,rfl,fun i y hy j u hu=>?_⟩⟩
 have hi:i<n:=by have:=(List.getElem?_eq_some_iff.1 hy).1;simpa[rowH] using this
 have hy':y=hget x f i:=by
  unfold rowH at hy
  rw[List.getElem?_map,List.getElem?_range hi] at hy
  simpa using hy.symm
 have hj:j=0:=by
  cases j with
  | zero=>rfl
  | succ j=>simp[eInt] at hu
 subst hj
 simp[eInt] at hu
 rw[←hu,hy',show f*5+i*1+0=5*f+i by omega]
 exact blkH hb (by omega)
theorem fit_no {b:Hb} {f:Nat} {ss:List Sg} {pre:List (List Int)} {x:List Int} (h:fitP b f ss x=false):(pre++[x]).filter (fitP b f ss)=pre.filter (fitP b f ss):=by rw[List.filter_append];simp[h]
theorem q0q {b:Hb} {f:Nat} {ss:List Sg} {pre:List (List Int)} {x:List Int} (h:fitP b f ss x=true):(pre++[x]).filter (fitP b f ss)=pre.filter (fitP b f ss)++[x]:=by rw[List.filter_append];simp[h]
theorem sp_store {W:World} {r:Nat} {L:List (Rn × Bool)} {t:TypeId} {j:Nat} (x:Rn × Bool) (h:W.heap[r]?=some (.cells (j2z L) t (0,0))) (hj:j<L.length) {W9:World}
 (h9:W9=((W.setCell ⟨r,j*3,none⟩ (.int .i64 x.1.lo)).setCell ⟨r,j*3+1,none⟩ (.int .i64 x.1.hi)).setCell ⟨r,j*3+2,none⟩ (.bool x.2)) :
 W9.heap[r]?=some (.cells (j2z (L.set j x)) t (0,0))∧(∀ k,k≠r→W9.heap[k]?=W.heap[k]?)∧KeepsOthers W W9∧W9.os=W.os∧W9.tape=W.tape∧W9.output=W.output∧W9.heap.size=W.heap.size:=by
 subst h9
 refine⟨(j0d (j0d (j0d h))).trans (by rw[q4v L x hj]),fun k hk=>?_,((KeepsOthers.setCell _ _ _).trans (KeepsOthers.setCell _ _ _)).trans (KeepsOthers.setCell _ _ _),rfl,rfl,rfl,by simp⟩
 rw[Below.heap_setCell _ ⟨r,j*3+2,none⟩ _ _ hk,Below.heap_setCell _ ⟨r,j*3+1,none⟩ _ _ hk,Below.heap_setCell _ ⟨r,j*3,none⟩ _ _ hk]
theorem Part_any (b:Hb) (flock:Int) (B:Option Addr) (m cb:Nat) (ss:List Sg) (w:World) (hin:HbIn w b) (hss:Sights w B m ss) (hmm:m≤maxLen):Calls Tryz.prog 22 #[b.v,.int .i64 flock,.slice B m cb] w (PartR b flock ss w):=by
 obtain⟨V,hV⟩:∃ V,V=((w.alloc b.obj).alloc (Obj.cells #[.int .i64 flock] 3)).alloc (Obj.cells #[.slice B m cb] 52):=⟨_,rfl⟩
 obtain⟨g,hg⟩:∃ g,g=w.heap.size:=⟨_,rfl⟩
 have b0:V.heap[g]?=some b.obj:=by rw[hV,hg];exact j0b (j0b (j0c rfl) _) _
 have b1:V.heap[g+1]?=some (Obj.cells #[.int .i64 flock] 3 (0,0)):=by rw[hV,hg];exact j0b (j0c (by simp)) _
 have b2:V.heap[g+1+1]?=some (Obj.cells #[.slice B m cb] 52 (0,0)):=by rw[hV,hg];exact j0c (by simp)
 have hBV:Below w.heap.size w V:=by rw[hV];exact bal (bal (bal0 w _) (zL9 _) _) (zL9 _) _
 have hiV:=hin.below hBV (zL9 _)
 have hsV:=hss.below hBV (zL9 _)
 have hml:=hss.len
 obtain⟨c0,c1,c2,c3,c4⟩:=j0h b0
 have hak:=j3v b V hiV
 unfold Hb.v at hak
 unfold maxLen at hmm
 have HV:=zQ9 (zA9 hBV (zA9 b0 (zA9 b1 (zA9 b2 (zA9 hiV (zA9 hsV (zA9 hml hg)))))))
 unfold Hb.v
 refine(callsIn_wide (n:=9)).1 ?_
 refine callsIn_of_wp_marks Tryz.func22 rfl trivial ?_ rfl
 simp only[Tryz.ntmps22,List.size_toArray,List.length_cons,List.length_nil,Nat.reduceAdd,Nat.reduceSub,Array.replicate_succ,Array.replicate_zero,List.push_toArray,List.append_toArray,List.nil_append,List.cons_append]
 refine wpIn_wide.2 ?_
 go_upto_region 1 with (fail)
 rw[←hV,←hg]
 clear hV hg hin hBV hiV hss hsV hml b0 b1 b2
 obtain⟨R,hR⟩:∃ R,R=j2v b b.chk V:=⟨_,rfl⟩
 rw[←hR] at hak
 have HR:=zQ9 hR
 clear hR
 go_upto_region 2 with (go_at_call 55;refine hak.mono ?_;rintro e w2 hRR;rw[HR.out] at hRR;unfold j2v at hRR;rcases hRR with ⟨h0,rfl,hb2⟩|⟨h0,p,rfl,hWk,hb2⟩)
 ·have xf:(b.chk != 0)=true:=by simp[h0]
  go_wp2_with fail
  refine⟨.tuple #[.slice none 0 0,.int .i64 (b.chk)],by simp[results,Tryz.f22,go_sem],?_⟩
  exact j6g (by unfold j4z;rw[if_pos h0]) h0 (HV.out.1.trans (hb2.mono HV.out.1.size))
 have x0:=j0e HV.out.2.1 hb2 (zL9 _)
 have x1:=j0e HV.out.2.2.1 hb2 (zL9 _)
 have x2:=j0e HV.out.2.2.2.1 hb2 (zL9 _)
 have hs2:=HV.out.2.2.2.2.2.1.below hb2 (zL9 _)
 have hok:=hWk.ok
 have hgp:g+1+1<p:=by have:=hWk.hz;have:=j0a HV.out.2.2.2.1;omega
 clear c0 c1 c2 c3 c4 hak
 obtain⟨c0,c1,c2,c3,c4⟩:=j0h x0
 have e1:=blk1 x1
 have e2:=blk1 x2
 have hpl:=hWk.lt
 obtain⟨now,hpb⟩:=hWk.hp
 have hB2:=HV.out.1.trans (hb2.mono HV.out.1.size)
 have hif:=j9c p b.t b.A b.l.length b.c b.Ak b.ks.length b.ck b.vh b.vd (-1) 0 now flock w2 hpb (Nat.le_trans hWk.inn.kc hWk.inn.km)
 obtain⟨ob,hob⟩:∃ ob,ob=ownB b.ks.length flock:=⟨_,rfl⟩
 rw[←hob] at hif
 have H2:=zQ9 (zA9 hB2 (zA9 hWk (zA9 h0 (zA9 hok (zA9 hgp (zA9 x0 (zA9 x1 (zA9 x2 (zA9 hs2 hob)))))))))
 clear hb2 hWk h0 hok hgp x0 x1 x2 hs2 hob hB2 hpb
 cases ob with
 | false =>
   go_wp2_with (go_at_call 79;refine hif.mono ?_;rintro e w' ⟨rfl,rfl⟩)
   refine⟨.tuple #[.slice none 0 0,.int .i64 (3)],by simp[results,Tryz.f22,go_sem],?_⟩
   exact j6g (by unfold j4z;rw[if_neg (by rw[H2.out.2.2.1];simp),if_pos H2.out.2.2.2.2.2.2.2.2.2.symm]) (by decide) H2.out.1
 | true =>
 obtain⟨hf0,hfl⟩:=j1i.1 H2.out.2.2.2.2.2.2.2.2.2.symm
 obtain⟨f,rfl⟩:=Int.eq_ofNat_of_zero_le hf0
 have hf3:f<3:=by have:=H2.out.2.2.2.1.f3;omega
 clear hf0 hfl
 by_cases h6:6<m
 ·have x6:decide (6<(m:Int))=true:=by simp;omega
  have H6:=zQ9 h6
  clear h6
  go_wp2_with (go_at_call 79;refine hif.mono ?_;rintro e w' ⟨rfl,rfl⟩)
  refine⟨.tuple #[.slice none 0 0,.int .i64 (6)],by simp[results,Tryz.f22,go_sem],?_⟩
  exact j6g (by unfold j4z;rw[if_neg (by rw[H2.out.2.2.1];simp),if_neg (by rw[←H2.out.2.2.2.2.2.2.2.2.2];simp),if_pos (by rw[HV.out.2.2.2.2.2.2.1];exact H6.out)]) (by decide) H2.out.1
 ·have x6:decide (6<(m:Int))=false:=by simp;omega
  have H6:=zQ9 h6
  have hm6:m≤6:=by omega
  clear h6
  have hpe:j4z b f ss=if j2e ss≠0 then j2e ss else if b.ends (-1) 0=[] then 11 else if j7i b f ss=[] then 12 else 0:=by
   unfold j4z
   rw[if_neg (by rw[H2.out.2.2.1];simp),if_neg (by rw[←H2.out.2.2.2.2.2.2.2.2.2];simp),if_neg (by rw[HV.out.2.2.2.2.2.2.1];exact H6.out),Int.toNat_natCast]
  have HPE:=zQ9 hpe
  clear hpe
  have hgw:=j0a H2.out.2.2.2.2.2.1
  go_wp2_with (go_at_call 79;refine hif.mono ?_;rintro e w' ⟨rfl,rfl⟩)
  clear hif x6
  go_loopg [42] m (fun g' v wr=>∃ k:Nat,k+g'=m∧v=.int .i64 k∧(∀ (i:Nat) x,i<k→ss[i]?=some x→seen x 9 6=0)∧Below w2.heap.size w2 wr)
  case atStart=>exact⟨0,by omega,rfl,fun i x hi=>by omega,Below.refl _ _⟩
  case round =>
   obtain⟨k,hk,rfl,hall,hBr⟩:=hrel
   clear c0 c1 c2 c3 c4 e1 e2
   obtain⟨c0,c1,c2,c3,c4⟩:=j0h (j0e H2.out.2.2.2.2.2.1 hBr (zL9 _))
   have hgw':g<wr.heap.size:=by have:=hBr.size;omega
   by_cases hlt:k<m
   ·obtain⟨bs,os,x,rfl,hbs,hx,q0,q1,q2,q3,q4⟩:=Sights.get (H2.out.2.2.2.2.2.2.2.2.1.below hBr (zL9 _)) hlt
    obtain⟨w5,hw5⟩:∃ w5,w5=wr.alloc (Obj.cells #[.int .i64 x.n,.bool x.l,.bool x.r,.int .i64 x.b,.int .i64 x.p] 31):=⟨_,rfl⟩
    have hB5:Below w2.heap.size w2 w5:=by rw[hw5];exact bal hBr (zL9 _) _
    have hm5:=(H2.out.2.1.inn.below hB5 (zL9 _))
    have hmy:=k5c b.t b.A b.l.length b.c b.l x w5 hm5.m hm5.mc hm5.mm
    have hme:mayE b.t b.l x=seen x 9 6:=by unfold mayE;rw[if_neg (by rw[H2.out.2.2.2.1.ck];simp)]
    rw[hme] at hmy
    unfold vSg at hmy
    have HK:=zQ9 (zA9 hk (zA9 hall (zA9 hx hB5)))
    have HW5:=zQ9 hw5
    clear hk hall hBr hx hw5 hB5 hm5 hme
    obtain⟨se,hse⟩:∃ se,se=seen x 9 6:=⟨_,rfl⟩
    rw[←hse] at hmy
    by_cases hs0:se=0
    ·subst hs0
     have HSE:=zQ9 hse.symm
     clear hse
     go_wp2_with (go_at_call 80;rw[←HW5.out];refine hmy.mono ?_;rintro e w6 ⟨v,rfl,hov,hb6⟩)
     go_roundg (gk-1)
     case measure=>have:=HK.out.1;omega
     case rel =>
      refine⟨k+1,by have:=HK.out.1;omega,by go_num,fun i y hi hy=>?_,HK.out.2.2.2.trans (hb6.mono HK.out.2.2.2.size)⟩
      rcases Nat.lt_or_ge i k with h|h
      ·exact HK.out.2.1 i y h hy
      ·obtain rfl:i=k:=by omega
       rw[HK.out.2.2.1] at hy
       cases hy
       exact HSE.out
    ·have xs:(se != 0)=true:=by simp[hs0]
     have HSE:=zQ9 (zA9 hs0 hse)
     clear hs0 hse
     go_wp2_with (go_at_call 80;rw[←HW5.out];refine hmy.mono ?_;rintro e w6 ⟨v,rfl,hov,hb6⟩)
     refine⟨.tuple #[.slice none 0 0,.int .i64 (se)],by simp[results,Tryz.f22,go_sem],?_⟩
     have hsb:=k2s HK.out.2.1 HK.out.2.2.1 (by rw[←HSE.out.2];exact HSE.out.1)
     refine j6g (e:=se) ?_ HSE.out.1 (H2.out.1.trans ((HK.out.2.2.2.trans (hb6.mono HK.out.2.2.2.size)).mono H2.out.1.size))
     rw[HPE.out,hsb,←HSE.out.2,if_pos HSE.out.1]
   ·obtain rfl:k=m:=by omega
    have hse:j2e ss=0:=k0p.2 fun s hs=>by
     obtain⟨i,hi⟩:=List.mem_iff_getElem?.1 hs
     exact hall i s (by have:=(List.getElem?_eq_some_iff.1 hi).1;have:=HV.out.2.2.2.2.2.2.1;omega) hi
    have hWr:=H2.out.2.1.below hBr (zL9 _)
    have htr:=k7a V p b (-1) 0 wr hWr
    obtain⟨tb,htb⟩:∃ tb,tb=!decide (b.ends (-1) 0=[]):=⟨_,rfl⟩
    rw[←htb] at htr
    have hBr':=H2.out.1.trans (hBr.mono H2.out.1.size)
    have HT:=zQ9 (zA9 htb (zA9 hWr (zA9 hBr (zA9 hse hBr'))))
    have hpr:p<wr.heap.size:=by have:=hBr.size;omega
    clear htb hWr hBr hse hBr' hall hk
    cases tb with
    | false =>
      have hE:b.ends (-1) 0=[]:=by have:=HT.out.1;by_cases h:b.ends (-1) 0=[];exact h;simp[h] at this
      have HE:=zQ9 hE
      clear hE
      go_wp2_with (go_at_call 81;refine htr.mono ?_;rintro e w4 ⟨rfl,hN4⟩)
      refine⟨.tuple #[.slice none 0 0,.int .i64 (11)],by simp[results,Tryz.f22,go_sem],?_⟩
      refine j6g ?_ (by decide) (HT.out.2.2.2.2.trans (hN4.less (Nat.le_trans HV.out.1.size H2.out.2.1.hz) HT.out.2.2.2.2.size))
      rw[HPE.out,if_neg (by rw[HT.out.2.2.2.1];simp),if_pos HE.out]
    | true =>
      have hE:b.ends (-1) 0≠[]:=by have:=HT.out.1;intro h;simp[h] at this
      have HE:=zQ9 (show j4z b f ss=if j7i b f ss=[] then 12 else 0 by rw[HPE.out,if_neg (by rw[HT.out.2.2.2.1];simp),if_neg hE])
      clear hE
      go_upto_region 17 with (go_at_call 81;refine htr.mono ?_;rintro e w4 ⟨rfl,hN4⟩)
      have hW4:=HT.out.2.1.now hN4
      have hb4:Below w.heap.size w w4:=HT.out.2.2.2.2.trans (hN4.less (Nat.le_trans HV.out.1.size H2.out.2.1.hz) HT.out.2.2.2.2.size)
      have hN24:NowIn p (b.bk (-1) 0) w2 w4:=(NowIn.of_below HT.out.2.2.1 H2.out.2.1.hp (zL9 _)).trans hN4
      have y0:=hN24.blk H2.out.2.2.2.2.2.1 (by have:=H2.out.2.2.2.2.1;omega)
      have y1:=hN24.blk H2.out.2.2.2.2.2.2.1 (by have:=H2.out.2.2.2.2.1;omega)
      have y2:=hN24.blk H2.out.2.2.2.2.2.2.2.1 (by have:=H2.out.2.2.2.2.1;omega)
      obtain⟨n,hn⟩:∃ n,n=b.l.length:=⟨_,rfl⟩
      have hn5:n≤5:=by rw[hn];exact H2.out.2.2.2.1.n5
      clear c0 c1 c2 c3 c4 htr hgw' hpr
      obtain⟨c0,c1,c2,c3,c4⟩:=j0h y0
      rw[←hn] at c1
      have hmk:=fun W=>run_mkSp W hn5
      have hg4:=j0a y0
      have H4:=zQ9 (zA9 hW4 (zA9 hb4 (zA9 hN24 (zA9 y0 (zA9 y1 (zA9 y2 hn))))))
      clear hW4 hb4 hN24 y0 y1 y2 hn hN4
      go_wp2_with (go_at_call 82;refine(j6d p _).mono ?_;rintro e w' ⟨rfl,rfl⟩)
      obtain⟨r,hr⟩:∃ r,r=w4.heap.size:=⟨_,rfl⟩
      obtain⟨w5,hw5⟩:∃ w5,w5=(((w4.alloc (Obj.cells (j2z (List.replicate n (⟨0,0⟩,false))) 136)).alloc (Obj.cells #[Value.slice (some ⟨w4.heap.size,0,none⟩) n n] 127)).alloc (Obj.cells #[Value.bool false] 4)).alloc (Obj.cells #[Value.pointer (some ⟨p,0,none⟩)] 98):=⟨_,rfl⟩
      have br0:w5.heap[r]?=some (Obj.cells (j2z (spF [] f n)) 136 (0,0)):=by rw[hw5,hr,spF_nil];exact j0b (j0b (j0b (j0c rfl) _) _) _
      have br1:w5.heap[r+1]?=some (Obj.cells #[Value.slice (some ⟨r,0,none⟩) n n] 127 (0,0)):=by rw[hw5,hr];exact j0b (j0b (j0c (by simp)) _) _
      have br2:w5.heap[r+1+1]?=some (Obj.cells #[Value.bool false] 4 (0,0)):=by rw[hw5,hr];exact j0b (j0c (by simp)) _
      have bq:w5.heap[r+1+1+1]?=some (Obj.cells #[Value.pointer (some ⟨p,0,none⟩)] 98 (0,0)):=by rw[hw5,hr];exact j0c (by simp)
      have hB5:Below w4.heap.size w4 w5:=by rw[hw5];exact bal (bal (bal (bal0 w4 _) (zL9 _) _) (zL9 _) _) (zL9 _) _
      rw[←hw5,←hr]
      have hpr:p<r:=by rw[hr];exact H4.out.1.lt
      have hz5:=j0a bq
      have H5:=zQ9 (zA9 hr (zA9 hB5 (zA9 br0 (zA9 br1 (zA9 br2 bq)))))
      have hrb:=j0a bq
      have hxl15:∀ x∈b.ends (-1) 0,HBd 1000 x:=fun x hx=>(j3w H2.out.2.2.2.1.f3 H2.out.2.2.2.1.n5 H2.out.2.2.2.1.rb H2.out.2.2.2.1.dI _ x hx).mono (by have:=H2.out.2.2.2.1.d6;omega)
      have HXL:=zQ9 hxl15
      have hmo:Tryz.prog.follows .mixedOrders=true:=by kernel_rfl
      clear hw5 hr hB5 br0 br1 br2 bq hmk hxl15 c0 c1 c2 c3 c4
      generalize hfr:Act.mk (List.toArray _) []=fr
      refine k2e (H4.out.1.below H5.out.2.1 (zL9 _)) (NowIn.of_below H5.out.2.1 H4.out.1.hp (zL9 _)) (H4.out.1.lt) H5.out.2.2.2.2.2 (by rw[←hfr];rfl) rfl
       (fun pre W=>w5.heap.size≤W.heap.size∧W.heap[r]?=some (Obj.cells (j2z (spF (pre.filter (fitP b f ss)) f n)) 136 (0,0))∧W.heap[r+1]?=some (Obj.cells #[Value.slice (some ⟨r,0,none⟩) n n] 127 (0,0))∧W.heap[r+1+1]?=some (Obj.cells #[Value.bool (!decide (pre.filter (fitP b f ss)=[]))] 4 (0,0))) (fun _ _ _=>False)
       (fun s A B row hs hg hr=>⟨Nat.le_trans hs.1 hg.size,j2w hs.2.1 rfl hg (fun i e=>(hr i e).2),j2w hs.2.2.1 rfl hg (fun i e=>(hr i e).2),j2w hs.2.2.2 rfl hg (fun i e=>(hr i e).2)⟩) (fun c s A B row hs hg hr=>hs.elim)
       (fun s A B hs hx=>by obtain⟨i,rfl⟩:=hx;exact⟨by simpa using hs.1,(Below.heap_setCell _ ⟨p,7,none⟩ _ _ (show r≠p by omega)).trans hs.2.1,(Below.heap_setCell _ ⟨p,7,none⟩ _ _ (show r+1≠p by omega)).trans hs.2.2.1,(Below.heap_setCell _ ⟨p,7,none⟩ _ _ (show r+1+1≠p by omega)).trans hs.2.2.2⟩) ⟨zL9 _,H5.out.2.2.1,H5.out.2.2.2.1,H5.out.2.2.2.2.1⟩
       (fun x a' W=>∃ Bx,w5.heap.size≤Bx∧W.heap[Bx]?=some (hObj x)∧a'={ tmps:=(fr.tmps.setIfInBounds 67 (.agg (hcs x))).setIfInBounds 16 (.pointer (some ⟨Bx,0,none⟩)),defers:=[] })
       (fun x a' _ A B row hs hg hr=>by obtain⟨Bx,h1,h2,h3⟩:=hs;exact⟨Bx,h1,j2w h2 rfl hg (fun r e=>(hr r e).2),h3⟩) ?assign ?body ?done ?stop
      case assign =>
       subst hfr
       intro l pre x W K hN hI hx hK
       have hxl:=(HXL.out x (k1n hx)).1
       obtain⟨wz,hsc,bz,gz,zz⟩:=k4x (w:=W.alloc (.cells #[.int .i64 0,.int .i64 0,.int .i64 0,.int .i64 0,.int .i64 0,.int .i64 0,.int .i64 0,.int .i64 0,.int .i64 0,.int .i64 0,.int .i64 0,.int .i64 0,.int .i64 0,.int .i64 0,.int .i64 0] 133)) (g:=W.heap.size) (x:=x) (j0c rfl) rfl hxl
       have hg2:W.grownBy wz none:=⟨gz.os,gz.tape,gz.output,by rw[zz];simp,fun j hj _=>(gz.block j (by simp;omega) (fun e=>by cases e;omega)).trans (Below.heap_alloc _ _ _ hj)⟩
       have HB:=zQ9 (zA9 bz hg2)
       have HN:=zQ9 (zA9 hN hI)
       have hcsz:(hcs x).size=15:=by rw[j2p,hxl]
       clear zz gz bz hg2 hN hI hxl hx
       gi_wp2
       have hg2:=HB.out.2
       refine hK _ wz ((KeepsFrom.of_grownBy hg2 (fun j e=>by cases e))) ⟨hg2.size,fun k o hk _=>(hg2.block k (j0a hk) (fun e=>by cases e)).trans hk⟩ (HN.out.1.grown H4.out.1.lt hg2 (fun i e=>by cases e)) ?_ ⟨W.heap.size,HN.out.2.1,HB.out.1,?_⟩
       ·exact⟨Nat.le_trans HN.out.2.1 hg2.size,(hg2.block _ (j0a HN.out.2.2.1) (fun e=>by cases e)).trans HN.out.2.2.1,(hg2.block _ (j0a HN.out.2.2.2.1) (fun e=>by cases e)).trans HN.out.2.2.2.1,(hg2.block _ (j0a HN.out.2.2.2.2) (fun e=>by cases e)).trans HN.out.2.2.2.2⟩
       ·simp
      case body =>
       subst hfr
       rintro l pre x a' W hN hI ⟨Bx,hBx,hbx,rfl⟩ hx
       have hxB:=HXL.out x (k1n hx)
       have hxl:=hxB.1
       obtain⟨a0,a1,a2,a3,a4,a5,a6,a7,a8,a9,a10,a11,a12,a13,a14,hc15,hcell⟩:=j7u hxl
       obtain⟨y0,y1,y2,y3,y4,y5,y6,y7,y8,y9,y10,y11,y12,y13,y14⟩:=hcell _ _ hbx
       have q1:=blk1 (hN.blk H4.out.2.2.2.2.1 (by have:=H2.out.2.2.2.2.1;omega))
       have q2:=blk1 (hN.blk H4.out.2.2.2.2.2.1 (by have:=H2.out.2.2.2.2.1;omega))
       have k0:=cell_regrown y0
       have k1:=cell_regrown y1
       have k2:=cell_regrown y2
       have k3:=cell_regrown y3
       have k4:=cell_regrown y4
       have k5:=cell_regrown y5
       have k6:=cell_regrown y6
       have k7:=cell_regrown y7
       have k8:=cell_regrown y8
       have k9:=cell_regrown y9
       have k10:=cell_regrown y10
       have k11:=cell_regrown y11
       have k12:=cell_regrown y12
       have k13:=cell_regrown y13
       have k14:=cell_regrown y14
       have k15:=cell_regrown q1
       have k16:=cell_regrown q2
       obtain⟨hv,hhv⟩:∃ hv,hv=hall x f:=⟨_,rfl⟩
       have cA:∀ d os,CallsIn (Fence.wide.inRound l) (7-1) Tryz.prog 83 #[.agg (hcs x),.int .i64 (f:Int)] (Sort.grow (redrawn W d) os) (fun e w''=>e=.returned (.int .i64 hv)∧∃ p:Regrown,w''=Sort.grow (redrawn W p.d) p.os):=fun d os=>by rw[hhv];exact k2l (k5e x f _ hxB hf3)
       have HCA:=zQ9 cA
       have HN:=zQ9 (zA9 hN (zA9 hI (zA9 hbx (zA9 hx hhv))))
       have HCE:=zQ9 hcell
       clear cA y0 y1 y2 y3 y4 y5 y6 y7 y8 y9 y10 y11 y12 y13 y14 q1 q2 hN hI hx hhv hcell hbx hxB
       gi_wp2_with fail
       refine j7a (by kernel_rfl) (by kernel_rfl) (by kernel_rfl) ?_
       repeat
        (refine wpQuietIn_step (fun _ _ _ _=>trivial) (fun K hK=>?_)
         go_simp
         first
          | (refine hK _ ?_;clear hK K)
          | (apply Exists.intro
             refine⟨fun _=>?_,hK _ ?_⟩
             (exact HCA.out _ _)
             clear hK K))
       refine wpQuietIn_nil ?_
       intro _ hw'
       obtain⟨⟨dq,osq⟩,hw''⟩:=hw'
       subst hw''
       obtain⟨W3,hW3⟩:∃ W3,W3=Sort.grow (redrawn W dq) osq:=⟨_,rfl⟩
       have hB3:Below W.heap.size W W3:=by rw[hW3];exact below_regrown W dq osq
       rw[←hW3]
       clear hW3 k0 k1 k2 k3 k4 k5 k6 k7 k8 k9 k10 k11 k12 k13 k14 k15 k16
       have hN3:NowIn p (b.bk (-1) 0) w4 W3:=HN.out.1.below H4.out.1.lt hB3 HN.out.1.size
       have H3:=zQ9 (zA9 hN3 (zA9 hB3 (zA9 (j0e HN.out.2.2.1 hB3 (zL9 _)) (zA9 (j0e HN.out.2.1.2.1 hB3 (zL9 _)) (zA9 (j0e HN.out.2.1.2.2.1 hB3 (zL9 _)) (j0e HN.out.2.1.2.2.2 hB3 (zL9 _)))))))
       clear hN3 hB3
       have HSK:Hid (∀ W9,Below W.heap.size W W9→fitP b f ss x=false→k3k w5.heap.size (fun s W=>NowIn p (b.bk (-1) 0) w4 W∧w5.heap.size≤W.heap.size∧W.heap[r]?=some (Obj.cells (j2z (spF (s.filter (fitP b f ss)) f n)) 136 (0,0))∧W.heap[r+1]?=some (Obj.cells #[Value.slice (some ⟨r,0,none⟩) n n] 127 (0,0))∧W.heap[r+1+1]?=some (Obj.cells #[Value.bool (!decide (s.filter (fitP b f ss)=[]))] 4 (0,0))) (fun c s W=>NowIn p (b.bk (-1) 0) w4 W∧False) (pre++[x]) W .normal ⟨#[],[]⟩ W9):=zQ9 fun W9 h9 hf=>by
        refine⟨j8t h9,k2h h9,HN.out.1.below H4.out.1.lt h9 HN.out.1.size,Nat.le_trans HN.out.2.1.1 h9.size,?_,j0e HN.out.2.1.2.2.1 h9 (zL9 _),?_⟩
        ·rw[fit_no hf];exact j0e HN.out.2.1.2.1 h9 (zL9 _)
        ·rw[fit_no hf];exact j0e HN.out.2.1.2.2.2 h9 (zL9 _)
       by_cases hvk:hv=(k:Int)
       ·have xv:(hv != (k:Int))=false:=by simp[hvk]
        have HVK:=zQ9 hvk
        clear hvk
        have q1:=cell_regrown (blk1 (H3.out.1.blk H4.out.2.2.2.2.1 (by have:=H2.out.2.2.2.2.1;omega)))
        have q3:=cell_regrown (blk1 H3.out.2.2.2.2.1)
        have i0:(0:Int)≤(f:Int):=by omega
        have i1:(f:Int)<3:=by omega
        have i2:(n:Int)≤5:=by omega
        gi_wp2_with fail
        refine j7a (by kernel_rfl) (by kernel_rfl) (by kernel_rfl) ?_
        repeat
         (refine wpQuietIn_step (fun _ _ _ _=>trivial) (fun K hK=>?_)
          go_simp
          (refine hK _ ?_;clear hK K))
        refine wpQuietIn_nil ?_
        intro _ hw'
        obtain⟨⟨dq2,osq2⟩,hw''⟩:=hw'
        subst hw''
        obtain⟨W6,hW6⟩:∃ W6,W6=Sort.grow (redrawn W3 dq2) osq2:=⟨_,rfl⟩
        have hB6:Below W3.heap.size W3 W6:=by rw[hW6];exact below_regrown W3 dq2 osq2
        rw[←hW6]
        clear hW6 q1 q3
        have hN6:NowIn p (b.bk (-1) 0) w4 W6:=H3.out.1.below H4.out.1.lt hB6 H3.out.1.size
        have hB06:Below W.heap.size W W6:=H3.out.2.1.trans (hB6.mono H3.out.2.1.size)
        have hbx6:=j0e H3.out.2.2.1 hB6 (zL9 _)
        have hr0:=j0e H3.out.2.2.2.1 hB6 (zL9 _)
        have hr1:=j0e H3.out.2.2.2.2.1 hB6 (zL9 _)
        have hr2:=j0e H3.out.2.2.2.2.2 hB6 (zL9 _)
        obtain⟨c0,c1,c2,c3,c4⟩:=j0h (hN6.blk H4.out.2.2.2.1 (by have:=H2.out.2.2.2.2.1;omega))
        have q2:=blk1 (hN6.blk H4.out.2.2.2.2.2.1 (by have:=H2.out.2.2.2.2.1;omega))
        rw[←H4.out.2.2.2.2.2.2] at c1
        have hi6:=(H4.out.1.now hN6).inn
        have hs6:Sights W6 B k ss:=HV.out.2.2.2.2.2.1.below (B:=V.heap.size) (H4.out.1.now hN6).bel (zL9 _)
        have hro:=row_ints hbx6 hxl hf3 hn5
        have hho:=Home_any b.t b.A n b.c b.l B k cb ss (some ⟨Bx,f*5,none⟩) n 5 (rowH x f n) W6 (by rw[H4.out.2.2.2.2.2.2];exact hi6.m) (by rw[H4.out.2.2.2.2.2.2];exact hi6.mc) hi6.mm hs6 (by unfold maxLen;omega) hro (by unfold maxLen;omega)
        obtain⟨he,hhe⟩:∃ he,he=j7e b.t b.l ss (rowH x f n):=⟨_,rfl⟩
        rw[←hhe] at hho
        have H6:=zQ9 (zA9 hN6 (zA9 hB06 (zA9 hbx6 (zA9 hr0 (zA9 hr1 (zA9 hr2 (zA9 hhe hro)))))))
        clear hN6 hB6 hB06 hbx6 hr0 hr1 hr2 hhe hro hi6 hs6
        by_cases hh0:he=0
        ·subst hh0
         gi_wp2_with (refine⟨trivial,?_⟩;gi_at_call 84;refine(k4g hho).mono ?_;rintro e w7 ⟨v,rfl,hov,hb7⟩;have h72:=j0e H6.out.2.2.2.2.2.1 hb7 (zL9 _);have z72:=blk1 h72;have fz72:=frz h72 0;have HB7:=zQ9 (zA9 hb7 h72);clear hb7 h72 hov)
         have hfit:fitP b f ss x=true:=by unfold fitP;rw[←HN.out.2.2.2.2,HVK.out,HV.out.2.2.2.2.2.2.1,←H4.out.2.2.2.2.2.2,←H6.out.2.2.2.2.2.2.1];simp
         have HFT:=zQ9 hfit
         obtain⟨w8,hw8⟩:∃ w8,w8=w7.setCell ⟨r+1+1,0,none⟩ (Value.bool true):=⟨_,rfl⟩
         have hoff8:∀ j,j≠r+1+1→w8.heap[j]?=w7.heap[j]?:=fun j hj=>by rw[hw8];exact Below.heap_setCell _ ⟨r+1+1,0,none⟩ _ _ hj
         have h80:w8.heap[r]?=some (Obj.cells (j2z (spJ (pre.filter (fitP b f ss)) x f n 0)) 136 (0,0)):=by rw[spJ_zero];exact(hoff8 r (by omega)).trans (j0e H6.out.2.2.2.1 HB7.out.1 (zL9 _))
         have h81:=(hoff8 (r+1) (by omega)).trans (j0e H6.out.2.2.2.2.1 HB7.out.1 (zL9 _))
         have h82:w8.heap[r+1+1]?=some (Obj.cells #[Value.bool true] 4 (0,0)):=by rw[hw8];exact(j0d HB7.out.2).trans (by simp)
         have h8x:=(hoff8 Bx (by omega)).trans (j0e H6.out.2.2.1 HB7.out.1 (zL9 _))
         have hb07:=H6.out.2.1.trans (HB7.out.1.mono H6.out.2.1.size)
         have hk8:KeepsOthers W w8:=by rw[hw8];exact KeepsOthers.trans ⟨hb07.size,fun k o hk _=>(hb07.block k (j0a hk)).trans hk⟩ (KeepsOthers.setCell _ _ _)
         have hN8:NowIn p (b.bk (-1) 0) w4 w8:=(HN.out.1.below H4.out.1.lt hb07 HN.out.1.size).then H4.out.1.lt (by rw[hw8];rfl) (by rw[hw8];rfl) (by rw[hw8];rfl) (by rw[hw8];simpa using Nat.le_trans HN.out.1.size hb07.size) (fun j hj=>hoff8 j (by have:=H5.out.1;omega))
         have hz8:w5.heap.size≤w8.heap.size:=by rw[hw8];simpa using Nat.le_trans HN.out.2.1.1 hb07.size
         rw[←hw8]
         have H8:=zQ9 (zA9 h80 (zA9 h81 (zA9 h82 (zA9 h8x (zA9 hk8 (zA9 hN8 hz8))))))
         clear hw8 hoff8 h80 h81 h82 h8x hb07 hk8 hN8 hz8 hfit z72 fz72 c0 c1 c2 c3 c4 q2 hho
         gi_wp2_with fail
         gi_loopw [91] (fun i wr=>∃ j:Nat,j≤n∧i=.int .i64 j∧wr.heap[r]?=some (Obj.cells (j2z (spJ (pre.filter (fitP b f ss)) x f n j)) 136 (0,0))∧wr.heap[r+1]?=some (Obj.cells #[Value.slice (some ⟨r,0,none⟩) n n] 127 (0,0))∧wr.heap[r+1+1]?=some (Obj.cells #[Value.bool true] 4 (0,0))∧wr.heap[Bx]?=some (hObj x)∧KeepsOthers W wr∧NowIn p (b.bk (-1) 0) w4 wr∧w5.heap.size≤wr.heap.size) (fun i _=>n-(intOf i).toNat)
         case atStart=>exact⟨0,by omega,rfl,H8.out⟩
         case round =>
          obtain⟨j,hj,rfl,hrel⟩:=hrel
          by_cases hlt:j<n
          ·obtain⟨y,hy⟩:∃ y,y=hget x f j:=⟨_,rfl⟩
           have d0:wr.cell? ⟨Bx,f*5+j,none⟩=some (.int .i64 y):=by rw[hy,Nat.mul_comm f 5];exact blkH hrel.2.2.2.1 (by omega)
           obtain⟨sr,hsr⟩:∃ sr,sr=j0o (pre.filter (fitP b f ss)) (fun x=>hget x f j):=⟨_,rfl⟩
           obtain⟨sb,hsb⟩:∃ sb,sb=(!decide (pre.filter (fitP b f ss)=[])):=⟨_,rfl⟩
           obtain⟨s0,s1,s2⟩:=k3q hrel.1 (spJ_at hlt)
           dsimp only at s0 s1 s2
           rw[←hsr] at s0 s1
           rw[←hsb] at s2
           have q1:=blk1 hrel.2.1
           have fz:=fun i=>frz hrel.1 i
           have i1:(j:Int)<(n:Int):=by omega
           have i2:(n:Int)≤5:=by omega
           have i3:(0:Int)≤(j:Int):=by omega
           have hwid:=fun w=>k7c sr sb y w
           unfold vSp at hwid
           have cW:∀ d os,CallsIn (Fence.wide.inRound l) (7-1) Tryz.prog 85 #[.agg #[.int .i64 sr.lo,.int .i64 sr.hi,.bool sb],.int .i64 y] (Sort.grow (redrawn wr d) os) (fun e w''=>e=.returned (.agg #[.int .i64 (j2o sr sb y).lo,.int .i64 (j2o sr sb y).hi,.bool true])∧∃ p:Regrown,w''=Sort.grow (redrawn wr p.d) p.os):=fun d os=>k2l (hwid _)
           have HCW:=zQ9 cW
           have HJ:=zQ9 (zA9 hj (zA9 hrel (zA9 hy (zA9 hsr hsb))))
           have k0:=cell_regrown s0
           have k1:=cell_regrown s1
           have k2:=cell_regrown s2
           have k3:=cell_regrown q1
           clear hy hsr hsb hwid hrel cW s0 s1 s2 fz hj
           gi_wp2_with fail
           refine k3l 9 (by kernel_rfl) (by kernel_rfl) (by kernel_rfl) ?_
           simp only[List.take_succ_cons,List.take_zero,List.drop_succ_cons,List.drop_zero]
           repeat
            (refine wpQuietIn_step (fun _ _ _ _=>trivial) (fun K hK=>?_)
             go_simp
             first
              | (refine hK _ ?_;clear hK K)
              | (apply Exists.intro
                 refine⟨fun _=>?_,hK _ ?_⟩
                 (exact HCW.out _ _)
                 clear hK K))
           refine wpQuietIn_nil ?_
           intro _ hw'
           obtain⟨⟨dq,osq⟩,hw''⟩:=hw'
           subst hw''
           obtain⟨W3,hW3⟩:∃ W3,W3=Sort.grow (redrawn wr dq) osq:=⟨_,rfl⟩
           have hB3:Below wr.heap.size wr W3:=by rw[hW3];exact below_regrown wr dq osq
           rw[←hW3]
           clear hW3 k0 k1 k2 k3 d0 q1
           have hb0:W3.heap[r]?=some (Obj.cells (j2z (spJ (pre.filter (fitP b f ss)) x f n j)) 136 (0,0)):=j0e HJ.out.2.1.1 hB3 (zL9 _)
           have HB0:=zQ9 hb0
           have fz:=fun i=>frz hb0 i
           obtain⟨s0,s1,s2⟩:=k3q hb0 (spJ_at hlt)
           have HB3:=zQ9 hB3
           clear hb0 hB3
           gi_wp2_with fail
           obtain⟨W9,hW9⟩:∃ W9,W9=((W3.setCell ⟨r,j*3,none⟩ (.int .i64 (j2o sr sb y).lo)).setCell ⟨r,j*3+1,none⟩ (.int .i64 (j2o sr sb y).hi)).setCell ⟨r,j*3+2,none⟩ (.bool true):=⟨_,rfl⟩
           rw[←hW9]
           obtain⟨j0,j1,j2,j3,j4,j5,j6⟩:=sp_store (j2o sr sb y,true) HB0.out (by rw[q1a];exact hlt) hW9
           clear hW9 fz s0 s1 s2
           have hjj:=HJ.out
           obtain⟨hj,⟨t0,t1,t2,t3,t4,t5,t6⟩,hy,hsr,hsb⟩:=hjj
           go_roundw
           case rel =>
            refine⟨j+1,by omega,by go_num,?_,(j1 _ (by omega)).trans (j0e t1 HB3.out (zL9 _)),(j1 _ (by omega)).trans (j0e t2 HB3.out (zL9 _)),(j1 _ (by omega)).trans (j0e t3 HB3.out (zL9 _)),t4.trans (KeepsOthers.trans ⟨HB3.out.size,fun k o hk _=>(HB3.out.block k (j0a hk)).trans hk⟩ j2),(t5.below H4.out.1.lt HB3.out t5.size).then H4.out.1.lt j3 j4 j5 (by rw[j6];exact Nat.le_trans t5.size HB3.out.size) (fun k hk=>j1 k (by have:=H5.out.1;omega)),by rw[j6];exact Nat.le_trans t6 HB3.out.size⟩
            rw[spJ_succ hlt,←hsr,←hsb,←hy]
            exact j0
           case measure=>simp[intOf];omega
          ·obtain rfl:j=n:=by omega
           have HF:=zQ9 hrel
           have q1:=blk1 hrel.2.1
           clear hrel hj
           gi_wp2_with fail
           obtain⟨t0,t1,t2,t3,t4,t5,t6⟩:=HF.out
           refine⟨t4.from _,t4.walks,t5,t6,?_,t1,?_⟩
           ·rw[q0q HFT.out,←spJ_all];exact t0
           ·rw[q0q HFT.out];simpa using t2
        ·have xh:(he != 0)=true:=by simp[hh0]
         have HH0:=zQ9 hh0
         clear hh0
         gi_wp2_with (refine⟨trivial,?_⟩;gi_at_call 84;refine(k4g hho).mono ?_;rintro e w7 ⟨v,rfl,hov,hb7⟩)
         exact HSK.out w7 (H6.out.2.1.trans (hb7.mono H6.out.2.1.size)) (by unfold fitP;rw[←H4.out.2.2.2.2.2.2,←H6.out.2.2.2.2.2.2.1,decide_eq_false HH0.out,Bool.and_false])
       ·have xv:(hv != (k:Int))=true:=by simp[hvk]
        have HVK:=zQ9 hvk
        clear hvk
        gi_wp2_with fail
        exact HSK.out W3 H3.out.2.1 (by unfold fitP;rw[←HN.out.2.2.2.2,decide_eq_false (fun e=>HVK.out (by rw[e,HV.out.2.2.2.2.2.2.1]))];rfl)
      case done =>
       subst hfr
       rintro D xs W hD hS hN hI hd
       obtain⟨L,hL⟩:∃ L,L=xs.filter (fitP b f ss):=⟨_,rfl⟩
       rw[←hL] at hI
       have hLP:L.Perm (j7i b f ss):=by rw[hL];exact hS.filter _
       have hLE:decide (L=[])=decide (j7i b f ss=[]):=by
        by_cases h:L=[]
        ·subst h;rw[hLP.nil_eq.symm]
        ·rw[decide_eq_false h,decide_eq_false (fun e=>h (by rw[e] at hLP;exact hLP.eq_nil))]
       obtain⟨sb,hsb⟩:∃ sb,sb=!decide (L=[]):=⟨_,rfl⟩
       rw[←hsb] at hI
       have hdl:=j0a hd
       have z2:=blk1 hI.2.2.2
       have z1:=blk1 hI.2.2.1
       have HN:=zQ9 (zA9 hN (zA9 hI (zA9 hLP (zA9 hLE (zA9 hsb hd)))))
       clear hN hS hI hLP hLE hsb hL hd
       have hBU:∀ W',NowIn p (b.bk (-1) 0) w4 W'→Below w.heap.size w (W'.putObj D (.deferred none)):=fun W' h =>
        H4.out.2.1.trans ((h.undo H4.out.1.lt (by have:=H5.out.2.1.size;omega) _).less (Nat.le_trans HV.out.1.size H2.out.2.1.hz) H4.out.2.1.size)
       have HBU:=zQ9 hBU
       clear hBU
       cases sb with
       | false =>
         go_wp2_with fail
         refine⟨by simp,.inl ⟨_,_,rfl,run_takeDeferred HN.out.2.2.2.2.2,?_⟩⟩
         refine⟨.tuple #[.slice none 0 0,.int .i64 12],by simp[results,Tryz.f22,go_sem],?_⟩
         refine j6g ?_ (by decide) (HBU.out W HN.out.1)
         have h1:=HN.out.2.2.2.2.1
         have h2:j7i b f ss=[]:=by have:=HN.out.2.2.2.1;by_cases h:j7i b f ss=[];exact h;simp[h] at this;simp[this] at h1
         rw[HE.out,if_pos h2]
       | true =>
         have h2:j7i b f ss≠[]:=by have h1:=HN.out.2.2.2.2.1;have:=HN.out.2.2.2.1;intro h;simp[h] at this;simp[this] at h1
         have HNE:=zQ9 h2
         clear h2
         have hsz0:D<W.heap.size:=hdl
         have HSZ:=zQ9 hsz0
         clear hsz0
         obtain⟨wo,hwo⟩:∃ wo,wo=W:=⟨_,rfl⟩
         go_wp2_with fail
         go_loopg [22,110] n (fun g' v22 v110 wr=>∃ k:Nat,k+g'=n∧v110=.int .i64 k∧OwnR wr W.heap.size v22 (j1b L (fun o x=>hget x f o) k)∧Below W.heap.size W wr)
         case atStart=>exact⟨0,by omega,rfl,Own.nil_,Below.refl _ _⟩
         case round =>
          obtain⟨j,hj,rfl,hown,hBr⟩:=hrel
          by_cases hlt:j<n
          ·have hqr:=(HN.out.2.1.2.1:W.heap[r]?=some (Obj.cells (j2z (spF L f n)) 136 (0,0)))
           have q0:=blk1 (j0e HN.out.2.1.2.2.1 hBr (zL9 _))
           have hq1:=j0e hqr hBr (zL9 _)
           obtain⟨y,hy⟩:∃ y,y=j0o L (fun x=>hget x f j):=⟨_,rfl⟩
           obtain⟨yb,hyb⟩:∃ yb,yb=(!decide (L=[])):=⟨_,rfl⟩
           obtain⟨s0,s1,s2⟩:=k3q hq1 (spF_at hlt)
           dsimp only at s0 s1 s2
           rw[←hy] at s0 s1
           rw[←hyb] at s2
           have fz:=fun i=>frz hq1 i
           have i1:(j:Int)<(n:Int):=by omega
           have i2:(n:Int)≤5:=by omega
           have hlen:=k2t L (fun o x=>hget x f o) j
           have hll:(j1b L (fun o x=>hget x f o) j).length<4294967296:=by omega
           have hWz:W.heap.size≤wr.heap.size:=hBr.size
           have HK:=zQ9 (zA9 hj (zA9 hown (zA9 hBr (zA9 hy hlen))))
           clear hj hown hBr hy hyb hlen hqr hq1 z1 z2
           go_upto_region 36 with (fail)
           obtain⟨w3,hw3⟩:∃ w3,w3=wr.alloc (Obj.cells #[Value.int .i64 y.lo,.int .i64 y.hi,.bool yb] 136):=⟨_,rfl⟩
           rw[←hw3]
           have by3:w3.heap[wr.heap.size]?=some (Obj.cells #[Value.int .i64 y.lo,.int .i64 y.hi,.bool yb] 136 (0,0)):=by rw[hw3];exact j0c rfl
           obtain⟨x0,x1,x2⟩:=blk3 by3
           have hB3:Below W.heap.size W w3:=by rw[hw3];exact bal HK.out.2.2.1 (zL9 _) _
           have hown3:OwnR w3 W.heap.size u22 (j1b L (fun o x=>hget x f o) j):=by rw[hw3];exact Own.alloc HK.out.2.1 _
           have hWz3:=hB3.size
           have HO3:=zQ9 (zA9 hown3 hB3)
           clear hw3 by3 hB3 hown3 hWz
           go_wp2_with (at_builtin;refine j6x okRn rfl (.tmp 114) (.tmp 120) rfl W.heap.size _ (j1b L (fun o x=>hget x f o) j) y _ rfl rfl rfl rfl (q0y _) HO3.out.1 ?_ ?_ ?_ ?_;(omega);(omega);(omega);intro v' w4' hown4 hb4 _ hz4;have HO4:=zQ9 (zA9 hown4 hb4);clear hown4 hb4)
           go_roundg (gk-1)
           case measure=>have:=HK.out.1;omega
           case rel =>
            refine⟨j+1,by have:=HK.out.1;omega,by go_num,by rw[k1o,←HK.out.2.2.2.1];exact HO4.out.1,HO3.out.2.trans (HO4.out.2.mono ?_)⟩
            omega
          ·obtain rfl:j=n:=by omega
           have HF:=zQ9 (zA9 hown hBr)
           clear hown hBr
           go_wp2_with fail
           have hd5:=j0e HN.out.2.2.2.2.2 HF.out.2 (zL9 _)
           refine⟨by simp,.inl ⟨_,_,rfl,run_takeDeferred hd5,?_⟩⟩
           refine⟨.tuple #[u22,.int .i64 0],by simp[results,Tryz.f22,go_sem],?_⟩
           have hpe:j4z b f ss=0:=by rw[HE.out,if_neg HNE.out]
           refine⟨⟨_,by rw[hpe],?_⟩,HBU.out wr (HN.out.1.below H4.out.1.lt HF.out.2 HN.out.1.size)⟩
           unfold k4s
           rw[if_pos hpe,←H4.out.2.2.2.2.2.2,Int.toNat_natCast,←k9i HN.out.2.2.1]
           exact(HF.out.1.upon fun k hk=>World.putObj_heap_other (by omega)).mono (by have:=HBU.out W HN.out.1;have:=this.size;simpa using this)
      case stop=>exact fun D c pre W _ _ _ h=>h.elim
end Go.Proofs.YtmennjmjakdkcaaGreat
