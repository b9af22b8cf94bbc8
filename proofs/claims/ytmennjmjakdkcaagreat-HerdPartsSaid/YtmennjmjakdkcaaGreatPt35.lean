/- HerdParts. -/
import Derived.Test.YtmennjmjakdkcaaGreatPt34
import Derived.Test.YtmennjmjakdkcaaGreatPt29
set_option linter.unusedVariables false
set_option linter.unusedSimpArgs false
set_option maxRecDepth 100000
set_option maxHeartbeats 8000000
namespace Go.Proofs.YtmennjmjakdkcaaGreat
open Go.RowKit Go.MapKept
attribute [local go_sem] Oper.semAt_some
def rowH (x:List Int) (f n:Nat):List Int:=(List.range n).map fun o=>hget x f o
def fitP (b:Hb) (f:Nat) (ss:List Sg) (x:List Int):Bool:=decide (hall x f=(ss.length:Int))&&decide (j6t b.t b.l ss (rowH x f b.l.length)=0)
def j3s (b:Hb) (f:Nat) (ss:List Sg):List (List Int):=(b.ends (-1) 0).filter (fitP b f ss)
def j1n (b:Hb) (flock:Int) (ss:List Sg):Int :=
 if b.chk≠0 then b.chk else if ownB b.ks.length flock=false then 3 else if 6<ss.length then 6 else if j2f ss≠0 then j2f ss
 else if b.ends (-1) 0=[] then 11 else if j3s b flock.toNat ss=[] then 12 else 0
def j6v (b:Hb) (flock:Int) (ss:List Sg):List Rn:=if j1n b flock ss=0 then j1h (j3s b flock.toNat ss) (fun o x=>hget x flock.toNat o) b.l.length else []
def k2a (b:Hb) (flock:Int) (ss:List Sg) (w:World) (e:Ending) (w':World):Prop:=(∃ v,e=.returned (.tuple #[v,.int .i64 (j1n b flock ss)])∧OwnR w' w.heap.size v (j6v b flock ss))∧Below w.heap.size w w'
theorem j2r {b:Hb} {flock:Int} {ss:List Sg} {w w':World} {e:Int} (he:j1n b flock ss=e) (h0:e≠0) (hb:Below w.heap.size w w'):k2a b flock ss w (.returned (.tuple #[.slice none 0 0,.int .i64 e])) w':=by
 refine⟨⟨_,by rw[he],?_⟩,hb⟩
 unfold j6v;rw[he,if_neg h0];exact Own.nil_
def eSp (x:Rn × Bool):List Value:=[.int .i64 x.1.lo,.int .i64 x.1.hi,.bool x.2]
def spL (L:List (Rn × Bool)):List Value:=L.flatMap eSp
def j3c (L:List (Rn × Bool)):Array Value:=(spL L).toArray
theorem q2h:∀ (L:List (Rn × Bool)) (j:Nat) (x:Rn × Bool),j<L.length->(((spL L).set (j*3) (.int .i64 x.1.lo)).set (j*3+1) (.int .i64 x.1.hi)).set (j*3+2) (.bool x.2)=spL (L.set j x)
 | [],j,x,h=>absurd h (by simp)
 | y::L,0,x,_=>by simp[spL,eSp]
 | y::L,j+1,x,h=>by
   have ih:=q2h L j x (by simpa using h)
   have e:∀ (Y:List (Rn × Bool)) (z:Rn × Bool),spL (z::Y)=.int .i64 z.1.lo::.int .i64 z.1.hi::.bool z.2::spL Y:=fun Y z=>by simp[spL,eSp]
   rw[List.set_cons_succ,e,e,<-ih,show(j+1)*3=j*3+1+1+1 by omega,show j*3+1+1+1+1=(j*3+1)+1+1+1 by omega,show j*3+1+1+1+2=(j*3+2)+1+1+1 by omega]
   simp only[List.set_cons_succ]
theorem q6b (L:List (Rn × Bool)) {j:Nat} (x:Rn × Bool) (h:j<L.length):(((j3c L).setIfInBounds (j*3) (.int .i64 x.1.lo)).setIfInBounds (j*3+1) (.int .i64 x.1.hi)).setIfInBounds (j*3+2) (.bool x.2)=j3c (L.set j x):=by
 unfold j3c;rw[<-q2h L j x h];simp
theorem spL_at:∀ {L:List (Rn × Bool)} {j:Nat} {x:Rn × Bool},L[j]?=some x->(spL L)[j*3]?=some (.int .i64 x.1.lo)∧(spL L)[j*3+1]?=some (.int .i64 x.1.hi)∧(spL L)[j*3+2]?=some (.bool x.2)
 | [],j,x,h=>by simp at h
 | y::L,0,x,h=>by simp at h;subst h;simp[spL,eSp]
 | y::L,j+1,x,h=>by
   have ih:=spL_at (L:=L) (j:=j) (x:=x) (by simpa using h)
   have e:spL (y::L)=.int .i64 y.1.lo::.int .i64 y.1.hi::.bool y.2::spL L:=by simp[spL,eSp]
   rw[e,show(j+1)*3=j*3+1+1+1 by omega,show j*3+1+1+1+1=(j*3+1)+1+1+1 by omega,show j*3+1+1+1+2=(j*3+2)+1+1+1 by omega]
   simpa using ih
theorem k3w {w:World} {b:Nat} {L:List (Rn × Bool)} {t:TypeId} {j:Nat} {x:Rn × Bool} (h:w.heap[b]?=some (.cells (j3c L) t (0,0))) (hx:L[j]?=some x) :
 w.cell? ⟨b,j*3,none⟩=some (.int .i64 x.1.lo)∧w.cell? ⟨b,j*3+1,none⟩=some (.int .i64 x.1.hi)∧w.cell? ⟨b,j*3+2,none⟩=some (.bool x.2):=by
 obtain⟨h1,h2,h3⟩:=spL_at hx;simp only[World.cell?,h,j3c,List.getElem?_toArray];exact⟨h1,h2,h3⟩
theorem made_sp {n:Nat} (h:n<=5):madeCells #[.int .i64 0,.int .i64 0,.bool false] (n*3)=j3c (List.replicate n (⟨0,0⟩,false)):=by
 obtain rfl|rfl|rfl|rfl|rfl|rfl:n=0∨n=1∨n=2∨n=3∨n=4∨n=5:=by omega
 all_goals
  unfold madeCells j3c spL;rw[<-List.toArray_range,List.map_toArray];simp[eSp,List.range_succ,List.replicate]
theorem q5f:(Tryz.prog.info? 136).map (fun i=>(i.zero,i.size,i.bytes))=some (some (.agg #[.int .i64 0,.int .i64 0,.bool false]),3,24):=by kernel_rfl
theorem run_mkSp (W:World) {n:Nat} (h:n<=5):(Instr.makeSlice 127 (.int .i64 (n:Int)) (.int .i64 (n:Int))).run Tryz.prog W=.ok (.slice (some ⟨W.heap.size,0,none⟩) n n) (W.alloc (.cells (j3c (List.replicate n (⟨0,0⟩,false))) 136)):=by
 obtain⟨i,hi,a,b,c⟩:=info_parts q5f;have:=run_make (P:=Tryz.prog) W 127 136 i _ Tryz.underlying127 hi a .i64 .i64 (n:Int) (n:Int) (by omega) (Int.le_refl _) (by rw[c];omega) (by omega)
 rw[b,Int.toNat_natCast] at this;rw[this,<-made_sp h];rfl
def spF (E:List (List Int)) (f n:Nat):List (Rn × Bool):=(List.range n).map fun o=>(j0t E (fun x=>hget x f o),!decide (E=[]))
theorem spF_nil (f n:Nat):spF [] f n=List.replicate n (⟨0,0⟩,false):=by
 unfold spF;apply List.ext_getElem?;intro i;rw[List.getElem?_map,List.getElem?_replicate];by_cases hi:i<n
 ·rw[List.getElem?_range hi,if_pos hi];rfl
 ·rw[if_neg hi,List.getElem?_eq_none (by simp;omega)];rfl
def spJ (E:List (List Int)) (x:List Int) (f n j:Nat):List (Rn × Bool):=(List.range n).map fun o=>if o<j then (j0t (E++[x]) (fun x=>hget x f o),true) else (j0t E (fun x=>hget x f o),!decide (E=[]))
theorem q2g (E:List (List Int)) (x:List Int) (f n j:Nat):(spJ E x f n j).length=n:=by simp[spJ]
theorem spJ_zero (E:List (List Int)) (x:List Int) (f n:Nat):spJ E x f n 0=spF E f n:=by simp[spJ,spF]
theorem spJ_all (E:List (List Int)) (x:List Int) (f n:Nat):spJ E x f n n=spF (E++[x]) f n:=by
 unfold spJ spF;apply List.map_congr_left;intro o ho;rw[if_pos (List.mem_range.1 ho)];simp
theorem spJ_at {E:List (List Int)} {x:List Int} {f n j:Nat} (h:j<n):(spJ E x f n j)[j]?=some (j0t E (fun x=>hget x f j),!decide (E=[])):=by
 unfold spJ;rw[List.getElem?_map,List.getElem?_range h];simp
theorem spF_at {E:List (List Int)} {f n j:Nat} (h:j<n):(spF E f n)[j]?=some (j0t E (fun x=>hget x f j),!decide (E=[])):=by
 unfold spF;rw[List.getElem?_map,List.getElem?_range h];rfl
theorem q0e {E E':List (List Int)} (h:E.Perm E') (G:Nat->List Int->Int) (k:Nat):j1h E G k=j1h E' G k:=by
 unfold j1h;apply List.map_congr_left;intro i _;exact k2z h
theorem spJ_succ {E:List (List Int)} {x:List Int} {f n j:Nat} (h:j<n):spJ E x f n (j+1)=(spJ E x f n j).set j (j2o (j0t E (fun x=>hget x f j)) (!decide (E=[])) (hget x f j),true):=by
 apply List.ext_getElem?;intro i;rw[List.getElem?_set,q2g];by_cases hij:j=i
 ·subst hij;rw[if_pos rfl,if_pos h];unfold spJ;rw[List.getElem?_map,List.getElem?_range h,Option.map_some,if_pos (by omega),k3a]
  unfold j2o;by_cases hE:E=[]<;>simp[hE]
 ·rw[if_neg hij];unfold spJ;rw[List.getElem?_map,List.getElem?_map];by_cases hi:i<n
  ·rw[List.getElem?_range hi,Option.map_some,Option.map_some];have:(i<j+1)=(i<j):=by simp;omega
   simp only[this]
  ·rw[List.getElem?_eq_none (by simp;omega)]
   rfl
theorem row_ints {W:World} {Bx:Nat} {x:List Int} (hb:W.heap[Bx]?=some (hObj x)) (a1:x.length=15) {f n:Nat} (hf:f<3) (hn:n<=5):Ints W (some ⟨Bx,f*5,none⟩) n (rowH x f n):=by
 refine⟨by simp[rowH],fun _=>⟨Bx,f*5,rfl,fun i y hy j u hu=>?_⟩⟩
 have hi:i<n:=by have:=(List.getElem?_eq_some_iff.1 hy).1;simpa[rowH] using this
 have a0:y=hget x f i:=by
  unfold rowH at hy;rw[List.getElem?_map,List.getElem?_range hi] at hy;simpa using hy.symm
 have hj:j=0:=by
  cases j with
  | zero=>rfl
  | succ j=>simp[eInt] at hu
 subst hj;simp[eInt] at hu;rw[<-hu,a0,show f*5+i*1+0=5*f+i by omega]
 exact blkH hb (by omega)
theorem fit_no {b:Hb} {f:Nat} {ss:List Sg} {a0:List (List Int)} {x:List Int} (h:fitP b f ss x=false):(a0++[x]).filter (fitP b f ss)=a0.filter (fitP b f ss):=by rw[List.filter_append];simp[h]
theorem q1u {b:Hb} {f:Nat} {ss:List Sg} {a0:List (List Int)} {x:List Int} (h:fitP b f ss x=true):(a0++[x]).filter (fitP b f ss)=a0.filter (fitP b f ss)++[x]:=by rw[List.filter_append];simp[h]
theorem sp_store {W:World} {r:Nat} {L:List (Rn × Bool)} {t:TypeId} {j:Nat} (x:Rn × Bool) (h:W.heap[r]?=some (.cells (j3c L) t (0,0))) (hj:j<L.length) {W9:World}
 (h9:W9=((W.setCell ⟨r,j*3,none⟩ (.int .i64 x.1.lo)).setCell ⟨r,j*3+1,none⟩ (.int .i64 x.1.hi)).setCell ⟨r,j*3+2,none⟩ (.bool x.2)) :
 W9.heap[r]?=some (.cells (j3c (L.set j x)) t (0,0))∧(∀ k,k≠r->W9.heap[k]?=W.heap[k]?)∧KeepsOthers W W9∧W9.os=W.os∧W9.tape=W.tape∧W9.output=W.output∧W9.heap.size=W.heap.size:=by
 subst h9;refine⟨(j0g (j0g (j0g h))).trans (by rw[q6b L x hj]),fun k hk=>?_,((KeepsOthers.setCell _ _ _).trans (KeepsOthers.setCell _ _ _)).trans (KeepsOthers.setCell _ _ _),rfl,rfl,rfl,by simp⟩
 rw[zB1 _ ⟨r,j*3+2,none⟩ _ _ hk,zB1 _ ⟨r,j*3+1,none⟩ _ _ hk,zB1 _ ⟨r,j*3,none⟩ _ _ hk]
theorem k8e (b:Hb) (flock:Int) (B:Option Addr) (m cb:Nat) (ss:List Sg) (w:World) (hin:HbIn w b) (cr:Sights w B m ss) (ff:m<=maxLen):Calls Tryz.prog 22 #[b.v,.int .i64 flock,.slice B m cb] w (k2a b flock ss w):=by
 obtain⟨V,hV⟩:∃ V,V=((w.alloc b.obj).alloc (Obj.cells #[.int .i64 flock] 3)).alloc (Obj.cells #[.slice B m cb] 52):=⟨_,rfl⟩;obtain⟨g,hg⟩:∃ g,g=w.heap.size:=⟨_,rfl⟩;have b0:V.heap[g]?=some b.obj:=by rw[hV,hg];exact j0b (j0b (j0c rfl) _) _
 have b1:V.heap[g+1]?=some (Obj.cells #[.int .i64 flock] 3 (0,0)):=by rw[hV,hg];exact j0b (j0c (by simp)) _
 have b2:V.heap[g+1+1]?=some (Obj.cells #[.slice B m cb] 52 (0,0)):=by rw[hV,hg];exact j0c (by simp)
 have bu:Below w.heap.size w V:=by rw[hV];exact bal (bal (bal0 w _) (zL9 _) _) (zL9 _) _
 have cc:=hin.below bu (zL9 _);have d7:=cr.below bu (zL9 _);have dG:=cr.len;obtain⟨c0,c1,c2,c3,c4⟩:=j0h b0;have bw:=j6w b V cc;unfold Hb.v at bw;unfold maxLen at ff;have HV:=zQ9 (zA9 bu (zA9 b0 (zA9 b1 (zA9 b2 (zA9 cc (zA9 d7 (zA9 dG hg)))))));unfold Hb.v;refine(callsIn_wide (n:=9)).1 ?_;refine callsIn_of_wp_marks Tryz.func22 rfl trivial ?_ rfl;simp only[Tryz.ntmps22,List.size_toArray,List.length_cons,List.length_nil,Nat.reduceAdd,Nat.reduceSub,Array.replicate_succ,Array.replicate_zero,List.push_toArray,List.append_toArray,nl9];refine wpIn_wide.2 ?_;go_upto_region 1 with (fail)
 rw[<-hV,<-hg];clear hV hg hin bu cc cr d7 dG b0 b1 b2;obtain⟨R,hR⟩:∃ R,R=j3z b b.chk V:=⟨_,rfl⟩;rw[<-hR] at bw;have HR:=zQ9 hR;clear hR;go_upto_region 2 with (go_at_call 55;refine bw.mono ?_;rintro e w2 cq;rw[HR.o] at cq;unfold j3z at cq;rcases cq with ⟨h0,rfl,av⟩|⟨h0,p,rfl,az,av⟩)
 ·have xf:(b.chk != 0)=true:=by simp[h0]
  go_wp2_with fail
  refine⟨.tuple #[.slice none 0 0,.int .i64 (b.chk)],by simp[results,Tryz.f22,go_sem],?_⟩
  exact j2r (by unfold j1n;rw[if_pos h0]) h0 (HV.o.1.trans (av.mono HV.o.1.size))
 have x0:=j0e HV.o.2.1 av (zL9 _);have x1:=j0e HV.o.2.2.1 av (zL9 _);have x2:=j0e HV.o.2.2.2.1 av (zL9 _);have dC:=HV.o.2.2.2.2.2.1.below av (zL9 _);have f2:=az.ok;have di:g+1+1<p:=by have:=az.hz;have:=j0a HV.o.2.2.2.1;omega
 clear c0 c1 c2 c3 c4 bw;obtain⟨c0,c1,c2,c3,c4⟩:=j0h x0;have e1:=blk1 x1;have e2:=blk1 x2;have g0:=az.lt;obtain⟨now,dz⟩:=az.hp;have cH:=HV.o.1.trans (av.mono HV.o.1.size);have b8:=j9i p b.t b.A b.l.length b.c b.Ak b.ks.length b.ck b.vh b.vd (-1) 0 now flock w2 dz (zB6 az.inn.kc az.inn.km);obtain⟨ob,ca⟩:∃ ob,ob=ownB b.ks.length flock:=⟨_,rfl⟩;rw[<-ca] at b8;have H2:=zQ9 (zA9 cH (zA9 az (zA9 h0 (zA9 f2 (zA9 di (zA9 x0 (zA9 x1 (zA9 x2 (zA9 dC ca)))))))));clear av az h0 f2 di x0 x1 x2 dC ca cH dz;cases ob with
 | false =>
   go_wp2_with (go_at_call 79;refine b8.mono ?_;rintro e w' ⟨rfl,rfl⟩)
   refine⟨.tuple #[.slice none 0 0,.int .i64 (3)],by simp[results,Tryz.f22,go_sem],?_⟩
   exact j2r (by unfold j1n;rw[if_neg (by rw[H2.o.2.2.1];simp),if_pos H2.o.2.2.2.2.2.2.2.2.2.symm]) (by decide) H2.o.1
 | true =>
 obtain⟨du,fA⟩:=j1p.1 H2.o.2.2.2.2.2.2.2.2.2.symm;obtain⟨f,rfl⟩:=zB7 du;have cw:f<3:=by have:=H2.o.2.2.2.1.f3;omega
 clear du fA;by_cases h6:6<m
 ·have x6:decide (6<(m:Int))=true:=by simp;omega
  have H6:=zQ9 h6;clear h6;go_wp2_with (go_at_call 79;refine b8.mono ?_;rintro e w' ⟨rfl,rfl⟩)
  refine⟨.tuple #[.slice none 0 0,.int .i64 (6)],by simp[results,Tryz.f22,go_sem],?_⟩
  exact j2r (by unfold j1n;rw[if_neg (by rw[H2.o.2.2.1];simp),if_neg (by rw[<-H2.o.2.2.2.2.2.2.2.2.2];simp),if_pos (by rw[HV.o.2.2.2.2.2.2.1];exact H6.o)]) (by decide) H2.o.1
 ·have x6:decide (6<(m:Int))=false:=by simp;omega
  have H6:=zQ9 h6;have fG:m<=6:=by omega
  clear h6;have bp:j1n b f ss=if j2f ss≠0 then j2f ss else if b.ends (-1) 0=[] then 11 else if j3s b f ss=[] then 12 else 0:=by
   unfold j1n;rw[if_neg (by rw[H2.o.2.2.1];simp),if_neg (by rw[<-H2.o.2.2.2.2.2.2.2.2.2];simp),if_neg (by rw[HV.o.2.2.2.2.2.2.1];exact H6.o),Int.toNat_natCast]
  have cp:=zQ9 bp;clear bp;have g1:=j0a H2.o.2.2.2.2.2.1;go_wp2_with (go_at_call 79;refine b8.mono ?_;rintro e w' ⟨rfl,rfl⟩)
  clear b8 x6;go_loopg [42] m (fun g' v wr=>∃ k:Nat,k+g'=m∧v=.int .i64 k∧(∀ (i:Nat) x,i<k->ss[i]?=some x->seen x 9 6=0)∧Below w2.heap.size w2 wr)
  case atStart=>exact⟨0,by omega,rfl,fun i x hi=>by omega,zB2 _ _⟩
  case round =>
   obtain⟨k,hk,rfl,hall,aa⟩:=hrel;clear c0 c1 c2 c3 c4 e1 e2;obtain⟨c0,c1,c2,c3,c4⟩:=j0h (j0e H2.o.2.2.2.2.2.1 aa (zL9 _));have c7:g<wr.heap.size:=by have:=aa.size;omega
   by_cases hlt:k<m
   ·obtain⟨bs,os,x,rfl,gh,hx,q0,q1,q2,q3,q4⟩:=Sights.get (H2.o.2.2.2.2.2.2.2.2.1.below aa (zL9 _)) hlt;obtain⟨w5,ak⟩:∃ w5,w5=wr.alloc (Obj.cells #[.int .i64 x.n,.bool x.l,.bool x.r,.int .i64 x.b,.int .i64 x.p] 31):=⟨_,rfl⟩;have b3:Below w2.heap.size w2 w5:=by rw[ak];exact bal aa (zL9 _) _
    have bB:=(H2.o.2.1.inn.below b3 (zL9 _));have bm:=k5p b.t b.A b.l.length b.c b.l x w5 bB.m bB.mc bB.mm;have f6:mayE b.t b.l x=seen x 9 6:=by unfold mayE;rw[if_neg (by rw[H2.o.2.2.2.1.ck];simp)]
    rw[f6] at bm;unfold vSg at bm;have HK:=zQ9 (zA9 hk (zA9 hall (zA9 hx b3)));have dD:=zQ9 ak;clear hk hall aa hx ak b3 bB f6;obtain⟨se,ar⟩:∃ se,se=seen x 9 6:=⟨_,rfl⟩;rw[<-ar] at bm;by_cases hs0:se=0
    ·subst hs0;have aC:=zQ9 ar.symm;clear ar;go_wp2_with (go_at_call 80;rw[<-dD.o];refine bm.mono ?_;rintro e w6 ⟨v,rfl,bt,cu⟩)
     go_roundg (gk-1)
     case measure=>have:=HK.o.1;omega
     case rel =>
      refine⟨k+1,by have:=HK.o.1;omega,by go_num,fun i y hi hy=>?_,HK.o.2.2.2.trans (cu.mono HK.o.2.2.2.size)⟩
      rcases Nat.lt_or_ge i k with h|h
      ·exact HK.o.2.1 i y h hy
      ·obtain rfl:i=k:=by omega
       rw[HK.o.2.2.1] at hy;cases hy;exact aC.o
    ·have xs:(se != 0)=true:=by simp[hs0]
     have aC:=zQ9 (zA9 hs0 ar);clear hs0 ar;go_wp2_with (go_at_call 80;rw[<-dD.o];refine bm.mono ?_;rintro e w6 ⟨v,rfl,bt,cu⟩)
     refine⟨.tuple #[.slice none 0 0,.int .i64 (se)],by simp[results,Tryz.f22,go_sem],?_⟩
     have af:=j9k HK.o.2.1 HK.o.2.2.1 (by rw[<-aC.o.2];exact aC.o.1)
     refine j2r (e:=se) ?_ aC.o.1 (H2.o.1.trans ((HK.o.2.2.2.trans (cu.mono HK.o.2.2.2.size)).mono H2.o.1.size));rw[cp.o,af,<-aC.o.2,if_pos aC.o.1]
   ·obtain rfl:k=m:=by omega
    have ar:j2f ss=0:=j5y.2 fun s hs=>by
     obtain⟨i,hi⟩:=List.mem_iff_getElem?.1 hs;exact hall i s (by have:=(List.getElem?_eq_some_iff.1 hi).1;have:=HV.o.2.2.2.2.2.2.1;omega) hi
    have cf:=H2.o.2.1.below aa (zL9 _);have bv:=j9d V p b (-1) 0 wr cf;obtain⟨tb,c8⟩:∃ tb,tb=!decide (b.ends (-1) 0=[]):=⟨_,rfl⟩;rw[<-c8] at bv;have br:=H2.o.1.trans (aa.mono H2.o.1.size);have HT:=zQ9 (zA9 c8 (zA9 cf (zA9 aa (zA9 ar br))));have dg:p<wr.heap.size:=by have:=aa.size;omega
    clear c8 cf aa ar br hall hk;cases tb with
    | false =>
      have hE:b.ends (-1) 0=[]:=by have:=HT.o.1;by_cases h:b.ends (-1) 0=[];exact h;simp[h] at this
      have HE:=zQ9 hE;clear hE;go_wp2_with (go_at_call 81;refine bv.mono ?_;rintro e w4 ⟨rfl,aG⟩)
      refine⟨.tuple #[.slice none 0 0,.int .i64 (11)],by simp[results,Tryz.f22,go_sem],?_⟩
      refine j2r ?_ (by decide) (HT.o.2.2.2.2.trans (aG.less (zB6 HV.o.1.size H2.o.2.1.hz) HT.o.2.2.2.2.size))
      rw[cp.o,if_neg (by rw[HT.o.2.2.2.1];simp),if_pos HE.o]
    | true =>
      have hE:b.ends (-1) 0≠[]:=by have:=HT.o.1;intro h;simp[h] at this
      have HE:=zQ9 (show j1n b f ss=if j3s b f ss=[] then 12 else 0 by rw[cp.o,if_neg (by rw[HT.o.2.2.2.1];simp),if_neg hE])
      clear hE;go_upto_region 17 with (go_at_call 81;refine bv.mono ?_;rintro e w4 ⟨rfl,aG⟩)
      have dB:=HT.o.2.1.now aG;have bj:Below w.heap.size w w4:=HT.o.2.2.2.2.trans (aG.less (zB6 HV.o.1.size H2.o.2.1.hz) HT.o.2.2.2.2.size);have am:NowIn p (b.bk (-1) 0) w2 w4:=(NowIn.of_below HT.o.2.2.1 H2.o.2.1.hp (zL9 _)).trans aG;have y0:=am.blk H2.o.2.2.2.2.2.1 (by have:=H2.o.2.2.2.2.1;omega)
      have y1:=am.blk H2.o.2.2.2.2.2.2.1 (by have:=H2.o.2.2.2.2.1;omega)
      have y2:=am.blk H2.o.2.2.2.2.2.2.2.1 (by have:=H2.o.2.2.2.2.1;omega)
      obtain⟨n,hn⟩:∃ n,n=b.l.length:=⟨_,rfl⟩;have dA:n<=5:=by rw[hn];exact H2.o.2.2.2.1.n5
      clear c0 c1 c2 c3 c4 bv c7 dg;obtain⟨c0,c1,c2,c3,c4⟩:=j0h y0;rw[<-hn] at c1;have f9:=fun W=>run_mkSp W dA
      have g5:=j0a y0;have H4:=zQ9 (zA9 dB (zA9 bj (zA9 am (zA9 y0 (zA9 y1 (zA9 y2 hn))))));clear dB bj am y0 y1 y2 hn aG;go_wp2_with (go_at_call 82;refine(j6f p _).mono ?_;rintro e w' ⟨rfl,rfl⟩)
      obtain⟨r,hr⟩:∃ r,r=w4.heap.size:=⟨_,rfl⟩;obtain⟨w5,ak⟩:∃ w5,w5=(((w4.alloc (Obj.cells (j3c (List.replicate n (⟨0,0⟩,false))) 136)).alloc (.cells #[.slice (some ⟨w4.heap.size,0,none⟩) n n] 127)).alloc (.cells #[.bool false] 4)).alloc (.cells #[.pointer (some ⟨p,0,none⟩)] 98):=⟨_,rfl⟩;have cE:w5.heap[r]?=some (Obj.cells (j3c (spF [] f n)) 136 (0,0)):=by rw[ak,hr,spF_nil];exact j0b (j0b (j0b (j0c rfl) _) _) _
      have d8:w5.heap[r+1]?=some (.cells #[.slice (some ⟨r,0,none⟩) n n] 127 (0,0)):=by rw[ak,hr];exact j0b (j0b (j0c (by simp)) _) _
      have dh:w5.heap[r+1+1]?=some (.cells #[.bool false] 4 (0,0)):=by rw[ak,hr];exact j0b (j0c (by simp)) _
      have bq:w5.heap[r+1+1+1]?=some (.cells #[.pointer (some ⟨p,0,none⟩)] 98 (0,0)):=by rw[ak,hr];exact j0c (by simp)
      have b3:Below w4.heap.size w4 w5:=by rw[ak];exact bal (bal (bal (bal0 w4 _) (zL9 _) _) (zL9 _) _) (zL9 _) _
      rw[<-ak,<-hr];have dg:p<r:=by rw[hr];exact H4.o.1.lt
      have ga:=j0a bq;have H5:=zQ9 (zA9 hr (zA9 b3 (zA9 cE (zA9 d8 (zA9 dh bq)))));have fD:=j0a bq;have ay:∀ x∈b.ends (-1) 0,HBd 1000 x:=fun x hx=>(j5i H2.o.2.2.2.1.f3 H2.o.2.2.2.1.n5 H2.o.2.2.2.1.rb H2.o.2.2.2.1.dI _ x hx).mono (by have:=H2.o.2.2.2.1.d6;omega)
      have cy:=zQ9 ay;have gc:Tryz.prog.follows .mixedOrders=true:=by kernel_rfl
      clear ak hr b3 cE d8 dh bq f9 ay c0 c1 c2 c3 c4;generalize hfr:Act.mk (List.toArray _) []=fr;refine k2k (H4.o.1.below H5.o.2.1 (zL9 _)) (NowIn.of_below H5.o.2.1 H4.o.1.hp (zL9 _)) (H4.o.1.lt) H5.o.2.2.2.2.2 (by rw[<-hfr];rfl) rfl
       (fun ag W=>w5.heap.size<=W.heap.size∧W.heap[r]?=some (Obj.cells (j3c (spF (ag.filter (fitP b f ss)) f n)) 136 (0,0))∧W.heap[r+1]?=some (.cells #[.slice (some ⟨r,0,none⟩) n n] 127 (0,0))∧W.heap[r+1+1]?=some (.cells #[.bool (!decide (ag.filter (fitP b f ss)=[]))] 4 (0,0))) (fun _ _ _=>False)
       (fun s A B row hs hg hr=>⟨zB6 hs.1 hg.size,j2z hs.2.1 rfl hg (fun i e=>(hr i e).2),j2z hs.2.2.1 rfl hg (fun i e=>(hr i e).2),j2z hs.2.2.2 rfl hg (fun i e=>(hr i e).2)⟩) (fun c s A B row hs hg hr=>hs.elim)
       (fun s A B hs hx=>by obtain⟨i,rfl⟩:=hx;exact⟨by simpa using hs.1,(zB1 _ ⟨p,7,none⟩ _ _ (show r≠p by omega)).trans hs.2.1,(zB1 _ ⟨p,7,none⟩ _ _ (show r+1≠p by omega)).trans hs.2.2.1,(zB1 _ ⟨p,7,none⟩ _ _ (show r+1+1≠p by omega)).trans hs.2.2.2⟩) ⟨zL9 _,H5.o.2.2.1,H5.o.2.2.2.1,H5.o.2.2.2.2.1⟩
       (fun x a' W=>∃ Bx,w5.heap.size<=Bx∧W.heap[Bx]?=some (hObj x)∧a'={ tmps:=(fr.tmps.setIfInBounds 67 (.agg (hcs x))).setIfInBounds 16 (.pointer (some ⟨Bx,0,none⟩)),defers:=[] })
       (fun x a' _ A B row hs hg hr=>by obtain⟨Bx,h1,h2,h3⟩:=hs;exact⟨Bx,h1,j2z h2 rfl hg (fun r e=>(hr r e).2),h3⟩) ?assign ?body ?done ?stop
      case assign =>
       subst hfr;intro l ag x W K hN hI hx hK;have aH:=(cy.o x (k1u hx)).1;obtain⟨wz,fC,bz,gz,zz⟩:=k5e (w:=W.alloc (.cells #[.int .i64 0,.int .i64 0,.int .i64 0,.int .i64 0,.int .i64 0,.int .i64 0,.int .i64 0,.int .i64 0,.int .i64 0,.int .i64 0,.int .i64 0,.int .i64 0,.int .i64 0,.int .i64 0,.int .i64 0] 133)) (g:=W.heap.size) (x:=x) (j0c rfl) rfl aH;have aj:W.grownBy wz none:=⟨gz.os,gz.tape,gz.output,by rw[zz];simp,fun j hj _=>(gz.block j (by simp;omega) (fun e=>by cases e;omega)).trans (Below.heap_alloc _ _ _ hj)⟩
       have HB:=zQ9 (zA9 bz aj);have HN:=zQ9 (zA9 hN hI);have fb:(hcs x).size=15:=by rw[j2q,aH]
       clear zz gz bz aj hN hI aH hx;gi_wp2
       have aj:=HB.o.2;refine hK _ wz ((KeepsFrom.of_grownBy aj (fun j e=>by cases e))) ⟨aj.size,fun k o hk _=>(aj.block k (j0a hk) (fun e=>by cases e)).trans hk⟩ (HN.o.1.grown H4.o.1.lt aj (fun i e=>by cases e)) ?_ ⟨W.heap.size,HN.o.2.1,HB.o.1,?_⟩
       ·exact⟨zB6 HN.o.2.1 aj.size,(aj.block _ (j0a HN.o.2.2.1) (fun e=>by cases e)).trans HN.o.2.2.1,(aj.block _ (j0a HN.o.2.2.2.1) (fun e=>by cases e)).trans HN.o.2.2.2.1,(aj.block _ (j0a HN.o.2.2.2.2) (fun e=>by cases e)).trans HN.o.2.2.2.2⟩
       ·simp
      case body =>
       subst hfr;rintro l ag x a' W hN hI ⟨Bx,g8,c6,rfl⟩ hx;have c9:=cy.o x (k1u hx);have aH:=c9.1;obtain⟨a0,a1,a2,a3,a4,a5,a6,a7,a8,a9,fE,g6,g3,ge,g9,fy,ai⟩:=j7s aH;obtain⟨y0,y1,y2,y3,y4,y5,y6,y7,y8,y9,dF,cD,d5,cG,d9⟩:=ai _ _ c6;have q1:=blk1 (hN.blk H4.o.2.2.2.2.1 (by have:=H2.o.2.2.2.2.1;omega))
       have q2:=blk1 (hN.blk H4.o.2.2.2.2.2.1 (by have:=H2.o.2.2.2.2.1;omega))
       have k0:=cell_regrown y0;have k1:=cell_regrown y1;have k2:=cell_regrown y2;have k3:=cell_regrown y3;have k4:=cell_regrown y4;have k5:=cell_regrown y5;have k6:=cell_regrown y6;have k7:=cell_regrown y7;have k8:=cell_regrown y8;have k9:=cell_regrown y9;have ft:=cell_regrown dF;have fw:=cell_regrown cD;have fh:=cell_regrown d5;have fd:=cell_regrown cG;have fc:=cell_regrown d9;have fi:=cell_regrown q1;have fx:=cell_regrown q2;obtain⟨hv,co⟩:∃ hv,hv=hall x f:=⟨_,rfl⟩;have cA:∀ d os,CallsIn (Fence.wide.inRound l) (7-1) Tryz.prog 83 #[.agg (hcs x),.int .i64 (f:Int)] (Sort.grow (redrawn W d) os) (fun e w''=>e=.returned (.int .i64 hv)∧∃ p:Regrown,w''=Sort.grow (redrawn W p.d) p.os):=fun d os=>by rw[co];exact k2v (q1q x f _ c9 cw)
       have fv:=zQ9 cA;have HN:=zQ9 (zA9 hN (zA9 hI (zA9 c6 (zA9 hx co))));have g7:=zQ9 ai;clear cA y0 y1 y2 y3 y4 y5 y6 y7 y8 y9 dF cD d5 cG d9 q1 q2 hN hI hx co ai c6 c9;gi_wp2_with fail
       refine j7b (by kernel_rfl) (by kernel_rfl) (by kernel_rfl) ?_
       repeat
        (refine wpQuietIn_step (fun _ _ _ _=>trivial) (fun K hK=>?_)
         go_simp
         first
          | (refine hK _ ?_;clear hK K)
          | (apply zC2
             refine⟨fun _=>?_,hK _ ?_⟩
             (exact fv.o _ _)
             clear hK K))
       refine wpQuietIn_nil ?_;intro _ b7;obtain⟨⟨dq,ba⟩,ah⟩:=b7;subst ah;obtain⟨W3,aD⟩:∃ W3,W3=Sort.grow (redrawn W dq) ba:=⟨_,rfl⟩;have ad:Below W.heap.size W W3:=by rw[aD];exact below_regrown W dq ba
       rw[<-aD];clear aD k0 k1 k2 k3 k4 k5 k6 k7 k8 k9 ft fw fh fd fc fi fx;have cC:NowIn p (b.bk (-1) 0) w4 W3:=HN.o.1.below H4.o.1.lt ad HN.o.1.size;have H3:=zQ9 (zA9 cC (zA9 ad (zA9 (j0e HN.o.2.2.1 ad (zL9 _)) (zA9 (j0e HN.o.2.1.2.1 ad (zL9 _)) (zA9 (j0e HN.o.2.1.2.2.1 ad (zL9 _)) (j0e HN.o.2.1.2.2.2 ad (zL9 _)))))));clear cC ad;have cz:Q9 (∀ W9,Below W.heap.size W W9->fitP b f ss x=false->k3t w5.heap.size (fun s W=>NowIn p (b.bk (-1) 0) w4 W∧w5.heap.size<=W.heap.size∧W.heap[r]?=some (Obj.cells (j3c (spF (s.filter (fitP b f ss)) f n)) 136 (0,0))∧W.heap[r+1]?=some (.cells #[.slice (some ⟨r,0,none⟩) n n] 127 (0,0))∧W.heap[r+1+1]?=some (.cells #[.bool (!decide (s.filter (fitP b f ss)=[]))] 4 (0,0))) (fun c s W=>NowIn p (b.bk (-1) 0) w4 W∧False) (ag++[x]) W .normal ⟨#[],[]⟩ W9):=zQ9 fun W9 h9 hf=>by
        refine⟨j8v h9,k2n h9,HN.o.1.below H4.o.1.lt h9 HN.o.1.size,zB6 HN.o.2.1.1 h9.size,?_,j0e HN.o.2.1.2.2.1 h9 (zL9 _),?_⟩
        ·rw[fit_no hf];exact j0e HN.o.2.1.2.1 h9 (zL9 _)
        ·rw[fit_no hf];exact j0e HN.o.2.1.2.2.2 h9 (zL9 _)
       by_cases hvk:hv=(k:Int)
       ·have xv:(hv != (k:Int))=false:=by simp[hvk]
        have ct:=zQ9 hvk;clear hvk;have q1:=cell_regrown (blk1 (H3.o.1.blk H4.o.2.2.2.2.1 (by have:=H2.o.2.2.2.2.1;omega)))
        have q3:=cell_regrown (blk1 H3.o.2.2.2.2.1);have i0:(0:Int)<=(f:Int):=by omega
        have i1:(f:Int)<3:=by omega
        have i2:(n:Int)<=5:=by omega
        gi_wp2_with fail
        refine j7b (by kernel_rfl) (by kernel_rfl) (by kernel_rfl) ?_
        repeat
         (refine wpQuietIn_step (fun _ _ _ _=>trivial) (fun K hK=>?_)
          go_simp
          (refine hK _ ?_;clear hK K))
        refine wpQuietIn_nil ?_;intro _ b7;obtain⟨⟨dx,bf⟩,ah⟩:=b7;subst ah;obtain⟨W6,bF⟩:∃ W6,W6=Sort.grow (redrawn W3 dx) bf:=⟨_,rfl⟩;have aB:Below W3.heap.size W3 W6:=by rw[bF];exact below_regrown W3 dx bf
        rw[<-bF];clear bF q1 q3;have aF:NowIn p (b.bk (-1) 0) w4 W6:=H3.o.1.below H4.o.1.lt aB H3.o.1.size;have bn:Below W.heap.size W W6:=H3.o.2.1.trans (aB.mono H3.o.2.1.size);have aA:=j0e H3.o.2.2.1 aB (zL9 _);have dn:=j0e H3.o.2.2.2.1 aB (zL9 _);have d1:=j0e H3.o.2.2.2.2.1 aB (zL9 _);have cF:=j0e H3.o.2.2.2.2.2 aB (zL9 _);obtain⟨c0,c1,c2,c3,c4⟩:=j0h (aF.blk H4.o.2.2.2.1 (by have:=H2.o.2.2.2.2.1;omega))
        have q2:=blk1 (aF.blk H4.o.2.2.2.2.2.1 (by have:=H2.o.2.2.2.2.1;omega))
        rw[<-H4.o.2.2.2.2.2.2] at c1;have bD:=(H4.o.1.now aF).inn;have cv:Sights W6 B k ss:=HV.o.2.2.2.2.2.1.below (B:=V.heap.size) (H4.o.1.now aF).bel (zL9 _);have ce:=row_ints aA aH cw dA;have bE:=Home_any b.t b.A n b.c b.l B k cb ss (some ⟨Bx,f*5,none⟩) n 5 (rowH x f n) W6 (by rw[H4.o.2.2.2.2.2.2];exact bD.m) (by rw[H4.o.2.2.2.2.2.2];exact bD.mc) bD.mm cv (by unfold maxLen;omega) ce (by unfold maxLen;omega)
        obtain⟨he,cg⟩:∃ he,he=j6t b.t b.l ss (rowH x f n):=⟨_,rfl⟩;rw[<-cg] at bE;have H6:=zQ9 (zA9 aF (zA9 bn (zA9 aA (zA9 dn (zA9 d1 (zA9 cF (zA9 cg ce)))))));clear aF aB bn aA dn d1 cF cg ce bD cv;by_cases hh0:he=0
        ·subst hh0;gi_wp2_with (refine⟨trivial,?_⟩;gi_at_call 84;refine(k4o bE).mono ?_;rintro e w7 ⟨v,rfl,bt,b4⟩;have bC:=j0e H6.o.2.2.2.2.2.1 b4 (zL9 _);have fg:=blk1 bC;have cj:=frz bC 0;have bh:=zQ9 (zA9 b4 bC);clear b4 bC bt)
         have b9:fitP b f ss x=true:=by unfold fitP;rw[<-HN.o.2.2.2.2,ct.o,HV.o.2.2.2.2.2.2.1,<-H4.o.2.2.2.2.2.2,<-H6.o.2.2.2.2.2.2.1];simp
         have da:=zQ9 b9;obtain⟨w8,an⟩:∃ w8,w8=w7.setCell ⟨r+1+1,0,none⟩ (Value.bool true):=⟨_,rfl⟩;have ac:∀ j,j≠r+1+1->w8.heap[j]?=w7.heap[j]?:=fun j hj=>by rw[an];exact zB1 _ ⟨r+1+1,0,none⟩ _ _ hj
         have dk:w8.heap[r]?=some (Obj.cells (j3c (spJ (ag.filter (fitP b f ss)) x f n 0)) 136 (0,0)):=by rw[spJ_zero];exact(ac r (by omega)).trans (j0e H6.o.2.2.2.1 bh.o.1 (zL9 _))
         have dH:=(ac (r+1) (by omega)).trans (j0e H6.o.2.2.2.2.1 bh.o.1 (zL9 _))
         have d4:w8.heap[r+1+1]?=some (.cells #[.bool true] 4 (0,0)):=by rw[an];exact(j0g bh.o.2).trans (by simp)
         have f1:=(ac Bx (by omega)).trans (j0e H6.o.2.2.1 bh.o.1 (zL9 _))
         have ae:=H6.o.2.1.trans (bh.o.1.mono H6.o.2.1.size);have d2:KeepsOthers W w8:=by rw[an];exact KeepsOthers.trans ⟨ae.size,fun k o hk _=>(ae.block k (j0a hk)).trans hk⟩ (KeepsOthers.setCell _ _ _)
         have dj:NowIn p (b.bk (-1) 0) w4 w8:=(HN.o.1.below H4.o.1.lt ae HN.o.1.size).then H4.o.1.lt (by rw[an];rfl) (by rw[an];rfl) (by rw[an];rfl) (by rw[an];simpa using zB6 HN.o.1.size ae.size) (fun j hj=>ac j (by have:=H5.o.1;omega))
         have cx:w5.heap.size<=w8.heap.size:=by rw[an];simpa using zB6 HN.o.2.1.1 ae.size
         rw[<-an];have H8:=zQ9 (zA9 dk (zA9 dH (zA9 d4 (zA9 f1 (zA9 d2 (zA9 dj cx))))));clear an ac dk dH d4 f1 ae d2 dj cx b9 fg cj c0 c1 c2 c3 c4 q2 bE;gi_wp2_with fail
         gi_loopw [91] (fun i wr=>∃ j:Nat,j<=n∧i=.int .i64 j∧wr.heap[r]?=some (Obj.cells (j3c (spJ (ag.filter (fitP b f ss)) x f n j)) 136 (0,0))∧wr.heap[r+1]?=some (.cells #[.slice (some ⟨r,0,none⟩) n n] 127 (0,0))∧wr.heap[r+1+1]?=some (.cells #[.bool true] 4 (0,0))∧wr.heap[Bx]?=some (hObj x)∧KeepsOthers W wr∧NowIn p (b.bk (-1) 0) w4 wr∧w5.heap.size<=wr.heap.size) (fun i _=>n-(intOf i).toNat)
         case atStart=>exact⟨0,by omega,rfl,H8.o⟩
         case round =>
          obtain⟨j,hj,rfl,hrel⟩:=hrel;by_cases hlt:j<n
          ·obtain⟨y,hy⟩:∃ y,y=hget x f j:=⟨_,rfl⟩;have d0:wr.cell? ⟨Bx,f*5+j,none⟩=some (.int .i64 y):=by rw[hy,Nat.mul_comm f 5];exact blkH hrel.2.2.2.1 (by omega)
           obtain⟨sr,bi⟩:∃ sr,sr=j0t (ag.filter (fitP b f ss)) (fun x=>hget x f j):=⟨_,rfl⟩
           obtain⟨sb,af⟩:∃ sb,sb=(!decide (ag.filter (fitP b f ss)=[])):=⟨_,rfl⟩;obtain⟨s0,s1,s2⟩:=k3w hrel.1 (spJ_at hlt);dsimp only at s0 s1 s2;rw[<-bi] at s0 s1;rw[<-af] at s2;have q1:=blk1 hrel.2.1;have fz:=fun i=>frz hrel.1 i
           have i1:(j:Int)<(n:Int):=by omega
           have i2:(n:Int)<=5:=by omega
           have i3:(0:Int)<=(j:Int):=by omega
           have aE:=fun w=>k7t sr sb y w
           unfold vSp at aE;have cW:∀ d os,CallsIn (Fence.wide.inRound l) (7-1) Tryz.prog 85 #[.agg #[.int .i64 sr.lo,.int .i64 sr.hi,.bool sb],.int .i64 y] (Sort.grow (redrawn wr d) os) (fun e w''=>e=.returned (.agg #[.int .i64 (j2o sr sb y).lo,.int .i64 (j2o sr sb y).hi,.bool true])∧∃ p:Regrown,w''=Sort.grow (redrawn wr p.d) p.os):=fun d os=>k2v (aE _)
           have fe:=zQ9 cW;have HJ:=zQ9 (zA9 hj (zA9 hrel (zA9 hy (zA9 bi af))));have k0:=cell_regrown s0;have k1:=cell_regrown s1;have k2:=cell_regrown s2;have k3:=cell_regrown q1;clear hy bi af aE hrel cW s0 s1 s2 fz hj;gi_wp2_with fail
           refine k3u 9 (by kernel_rfl) (by kernel_rfl) (by kernel_rfl) ?_
           simp only[List.take_succ_cons,List.take_zero,List.drop_succ_cons,List.drop_zero]
           repeat
            (refine wpQuietIn_step (fun _ _ _ _=>trivial) (fun K hK=>?_)
             go_simp
             first
              | (refine hK _ ?_;clear hK K)
              | (apply zC2
                 refine⟨fun _=>?_,hK _ ?_⟩
                 (exact fe.o _ _)
                 clear hK K))
           refine wpQuietIn_nil ?_;intro _ b7;obtain⟨⟨dq,ba⟩,ah⟩:=b7;subst ah;obtain⟨W3,aD⟩:∃ W3,W3=Sort.grow (redrawn wr dq) ba:=⟨_,rfl⟩;have ad:Below wr.heap.size wr W3:=by rw[aD];exact below_regrown wr dq ba
           rw[<-aD];clear aD k0 k1 k2 k3 d0 q1;have bA:W3.heap[r]?=some (Obj.cells (j3c (spJ (ag.filter (fitP b f ss)) x f n j)) 136 (0,0)):=j0e HJ.o.2.1.1 ad (zL9 _);have f7:=zQ9 bA;have fz:=fun i=>frz bA i
           obtain⟨s0,s1,s2⟩:=k3w bA (spJ_at hlt);have aq:=zQ9 ad;clear bA ad;gi_wp2_with fail
           obtain⟨W9,bG⟩:∃ W9,W9=((W3.setCell ⟨r,j*3,none⟩ (.int .i64 (j2o sr sb y).lo)).setCell ⟨r,j*3+1,none⟩ (.int .i64 (j2o sr sb y).hi)).setCell ⟨r,j*3+2,none⟩ (.bool true):=⟨_,rfl⟩;rw[<-bG];obtain⟨j0,j1,j2,j3,j4,j5,j6⟩:=sp_store (j2o sr sb y,true) f7.o (by rw[q2g];exact hlt) bG
           clear bG fz s0 s1 s2;have fj:=HJ.o;obtain⟨hj,⟨t0,t1,t2,t3,t4,t5,t6⟩,hy,bi,af⟩:=fj;go_roundw
           case rel =>
            refine⟨j+1,by omega,by go_num,?_,(j1 _ (by omega)).trans (j0e t1 aq.o (zL9 _)),(j1 _ (by omega)).trans (j0e t2 aq.o (zL9 _)),(j1 _ (by omega)).trans (j0e t3 aq.o (zL9 _)),t4.trans (KeepsOthers.trans ⟨aq.o.size,fun k o hk _=>(aq.o.block k (j0a hk)).trans hk⟩ j2),(t5.below H4.o.1.lt aq.o t5.size).then H4.o.1.lt j3 j4 j5 (by rw[j6];exact zB6 t5.size aq.o.size) (fun k hk=>j1 k (by have:=H5.o.1;omega)),by rw[j6];exact zB6 t6 aq.o.size⟩
            rw[spJ_succ hlt,<-bi,<-af,<-hy];exact j0
           case measure=>simp[intOf];omega
          ·obtain rfl:j=n:=by omega
           have HF:=zQ9 hrel;have q1:=blk1 hrel.2.1;clear hrel hj;gi_wp2_with fail
           obtain⟨t0,t1,t2,t3,t4,t5,t6⟩:=HF.o;refine⟨t4.from _,t4.walks,t5,t6,?_,t1,?_⟩
           ·rw[q1u da.o,<-spJ_all];exact t0
           ·rw[q1u da.o];simpa using t2
        ·have xh:(he != 0)=true:=by simp[hh0]
         have fa:=zQ9 hh0;clear hh0;gi_wp2_with (refine⟨trivial,?_⟩;gi_at_call 84;refine(k4o bE).mono ?_;rintro e w7 ⟨v,rfl,bt,b4⟩)
         exact cz.o w7 (H6.o.2.1.trans (b4.mono H6.o.2.1.size)) (by unfold fitP;rw[<-H4.o.2.2.2.2.2.2,<-H6.o.2.2.2.2.2.2.1,decide_eq_false fa.o,Bool.and_false])
       ·have xv:(hv != (k:Int))=true:=by simp[hvk]
        have ct:=zQ9 hvk;clear hvk;gi_wp2_with fail
        exact cz.o W3 H3.o.2.1 (by unfold fitP;rw[<-HN.o.2.2.2.2,decide_eq_false (fun e=>ct.o (by rw[e,HV.o.2.2.2.2.2.2.1]))];rfl)
      case done =>
       subst hfr;rintro D xs W hD hS hN hI hd;obtain⟨L,hL⟩:∃ L,L=xs.filter (fitP b f ss):=⟨_,rfl⟩;rw[<-hL] at hI;have b5:L.Perm (j3s b f ss):=by rw[hL];exact hS.filter _
       have f5:decide (L=[])=decide (j3s b f ss=[]):=by
        by_cases h:L=[]
        ·subst h;rw[b5.nil_eq.symm]
        ·rw[decide_eq_false h,decide_eq_false (fun e=>h (by rw[e] at b5;exact b5.eq_nil))]
       obtain⟨sb,af⟩:∃ sb,sb=!decide (L=[]):=⟨_,rfl⟩;rw[<-af] at hI;have fq:=j0a hd;have z2:=blk1 hI.2.2.2;have z1:=blk1 hI.2.2.1;have HN:=zQ9 (zA9 hN (zA9 hI (zA9 b5 (zA9 f5 (zA9 af hd)))));clear hN hS hI b5 f5 af hL hd;have dr:∀ W',NowIn p (b.bk (-1) 0) w4 W'->Below w.heap.size w (W'.putObj D (.deferred none)):=fun W' h =>
        H4.o.2.1.trans ((h.undo H4.o.1.lt (by have:=H5.o.2.1.size;omega) _).less (zB6 HV.o.1.size H2.o.2.1.hz) H4.o.2.1.size)
       have c5:=zQ9 dr;clear dr;cases sb with
       | false =>
         go_wp2_with fail
         refine⟨by simp,.inl ⟨_,_,rfl,run_takeDeferred HN.o.2.2.2.2.2,?_⟩⟩
         refine⟨.tuple #[.slice none 0 0,.int .i64 12],by simp[results,Tryz.f22,go_sem],?_⟩
         refine j2r ?_ (by decide) (c5.o W HN.o.1)
         have h1:=HN.o.2.2.2.2.1;have h2:j3s b f ss=[]:=by have:=HN.o.2.2.2.1;by_cases h:j3s b f ss=[];exact h;simp[h] at this;simp[this] at h1
         rw[HE.o,if_pos h2]
       | true =>
         have h2:j3s b f ss≠[]:=by have h1:=HN.o.2.2.2.2.1;have:=HN.o.2.2.2.1;intro h;simp[h] at this;simp[this] at h1
         have fp:=zQ9 h2;clear h2;have bo:D<W.heap.size:=fq;have fF:=zQ9 bo;clear bo;obtain⟨wo,fH⟩:∃ wo,wo=W:=⟨_,rfl⟩;go_wp2_with fail
         go_loopg [22,110] n (fun g' v22 v110 wr=>∃ k:Nat,k+g'=n∧v110=.int .i64 k∧OwnR wr W.heap.size v22 (j1h L (fun o x=>hget x f o) k)∧Below W.heap.size W wr)
         case atStart=>exact⟨0,by omega,rfl,Own.nil_,zB2 _ _⟩
         case round =>
          obtain⟨j,hj,rfl,ao,aa⟩:=hrel;by_cases hlt:j<n
          ·have dd:=(HN.o.2.1.2.1:W.heap[r]?=some (Obj.cells (j3c (spF L f n)) 136 (0,0)));have q0:=blk1 (j0e HN.o.2.1.2.2.1 aa (zL9 _));have cn:=j0e dd aa (zL9 _);obtain⟨y,hy⟩:∃ y,y=j0t L (fun x=>hget x f j):=⟨_,rfl⟩
           obtain⟨yb,dw⟩:∃ yb,yb=(!decide (L=[])):=⟨_,rfl⟩;obtain⟨s0,s1,s2⟩:=k3w cn (spF_at hlt);dsimp only at s0 s1 s2;rw[<-hy] at s0 s1;rw[<-dw] at s2;have fz:=fun i=>frz cn i
           have i1:(j:Int)<(n:Int):=by omega
           have i2:(n:Int)<=5:=by omega
           have be:=k3d L (fun o x=>hget x f o) j
           have g2:(j1h L (fun o x=>hget x f o) j).length<4294967296:=by omega
           have fB:W.heap.size<=wr.heap.size:=aa.size;have HK:=zQ9 (zA9 hj (zA9 ao (zA9 aa (zA9 hy be))));clear hj ao aa hy dw be dd cn z1 z2;go_upto_region 36 with (fail)
           obtain⟨w3,b6⟩:∃ w3,w3=wr.alloc (.cells #[.int .i64 y.lo,.int .i64 y.hi,.bool yb] 136):=⟨_,rfl⟩;rw[<-b6];have d3:w3.heap[wr.heap.size]?=some (.cells #[.int .i64 y.lo,.int .i64 y.hi,.bool yb] 136 (0,0)):=by rw[b6];exact j0c rfl
           obtain⟨x0,x1,x2⟩:=blk3 d3;have ad:Below W.heap.size W w3:=by rw[b6];exact bal HK.o.2.2.1 (zL9 _) _
           have ax:OwnR w3 W.heap.size u22 (j1h L (fun o x=>hget x f o) j):=by rw[b6];exact Own.alloc HK.o.2.1 _
           have fo:=ad.size;have dy:=zQ9 (zA9 ax ad);clear b6 d3 ad ax fB;go_wp2_with (at_builtin;refine j6b okRn rfl (.tmp 114) (.tmp 120) rfl W.heap.size _ (j1h L (fun o x=>hget x f o) j) y _ rfl rfl rfl rfl (q2b _) dy.o.1 ?_ ?_ ?_ ?_;(omega);(omega);(omega);intro v' gd aw bj _ g4;have cB:=zQ9 (zA9 aw bj);clear aw bj)
           go_roundg (gk-1)
           case measure=>have:=HK.o.1;omega
           case rel =>
            refine⟨j+1,by have:=HK.o.1;omega,by go_num,by rw[k1w,<-HK.o.2.2.2.1];exact cB.o.1,dy.o.2.trans (cB.o.2.mono ?_)⟩
            omega
          ·obtain rfl:j=n:=by omega
           have HF:=zQ9 (zA9 ao aa);clear ao aa;go_wp2_with fail
           have f8:=j0e HN.o.2.2.2.2.2 HF.o.2 (zL9 _);refine⟨by simp,.inl ⟨_,_,rfl,run_takeDeferred f8,?_⟩⟩
           refine⟨.tuple #[u22,.int .i64 0],by simp[results,Tryz.f22,go_sem],?_⟩
           have bp:j1n b f ss=0:=by rw[HE.o,if_neg fp.o]
           refine⟨⟨_,by rw[bp],?_⟩,c5.o wr (HN.o.1.below H4.o.1.lt HF.o.2 HN.o.1.size)⟩
           unfold j6v;rw[if_pos bp,<-H4.o.2.2.2.2.2.2,Int.toNat_natCast,<-q0e HN.o.2.2.1];exact(HF.o.1.upon fun k hk=>World.putObj_heap_other (by omega)).mono (by have:=c5.o W HN.o.1;have:=this.size;simpa using this)
      case stop=>exact fun D c ag W _ _ _ h=>h.elim
theorem row_fit {n nf f:Nat} {g:Gr} (hg:GSh n nf g) (a1:nf<=3) (h5:n<=5) (hf:f<nf):rowH (j0i g) f n=g.getD f []:=by
 have a0:=hg.row hf;unfold rowH;refine List.ext_getElem (by rw[List.length_map,List.length_range,a0]) fun o h1 h2=>?_
 have ho:o<n:=by simpa using h1
 rw[List.getElem_map,List.getElem_range,j1b g (by omega) (by omega)]
 unfold getG;rw[zB3 (l:=g.getD f []),zB5 h2];rfl
theorem spl_fit {b:Hb} {f:Nat} {ss:List Sg} {g:Gr} (a0:HeOk b.t b.l b.ks b.hs b.ds) (hg:GSh b.l.length b.ks.length g) (hf:f<b.ks.length) (a3:nnG g=true) (a5:ss.length<=6) (a4:∀ s∈ss,seen s 9 6=0) :
 splB b.t b.l ss (g.getD f [])=fitP b f ss (j0i g):=by
 have h5:=a0.n5;have h3:=a0.f3;have a1:=hg.row hf;have h0:∀ x∈g.getD f [],0<=x:=fun x hx=>by
  refine j5k.1 a3 (g.getD f []) ?_ x hx;rw[zB3,zB5 (by rw[hg.l];exact hf)]
  exact List.getElem_mem _
 unfold splB fitP;rw[row_fit hg h3 h5 hf,<-j9u (by omega) (by omega)]
 generalize g.getD f []=r at a1 h0 ⊢;by_cases hq:r.sum=(ss.length:Int)
 ·have a2:j0z b.t b.l ss r=0:=by
   unfold j0z;rw[if_neg (by rw[a0.ck];simp),if_neg (by omega),if_neg (by rw[j5y.2 a4];simp),if_neg (by omega),if_neg (by omega),if_pos]
   rw[List.all_eq_true];intro x hx;have:=k6b h0 x hx;have:=h0 x hx;rw[j0o];omega
  have hh:=q5c (N:=b.l.length) (j8z (t:=b.t) (l:=b.l) (ss:=ss)) h5 a1 h0;unfold j6t;rw[if_neg (by rw[a2];simp),hh]
  cases givs (mays b.t b.l ss) r with
  | nil=>simp
  | cons a t=>simp
 ·simp[hq]
def splL (b:Hb) (f:Nat) (ss:List Sg) (E:List Gr):List Gr:=E.filter fun g=>splB b.t b.l ss (g.getD f [])
theorem q0f {b:Hb} {f:Nat} {ss:List Sg} (a0:HeOk b.t b.l b.ks b.hs b.ds) (hf:f<b.ks.length) (a2:ss.length<=6) (a3:∀ s∈ss,seen s 9 6=0) :
 ((splL b f ss b.eg).map j0i).Perm (j3s b f ss):=by
 obtain⟨hp,a1⟩:=j7g (deed:=-1) (owner:=-1) a0;have h1:splL b f ss b.eg=b.eg.filter (fitP b f ss ∘ j0i):=by
  unfold splL;refine List.filter_congr fun g hg=>?_
  obtain⟨s1,s2,-⟩:=a1 g hg;exact spl_fit a0 s1 hf s2 a2 a3
 rw[h1,<-List.filter_map];have h2:=hp.filter (fitP b f ss);unfold j3s;rw[<-q4m b];exact h2
theorem spl_none {b:Hb} {f:Nat} {ss:List Sg} (a0:HeOk b.t b.l b.ks b.hs b.ds) (hf:f<b.ks.length) (a1:ss.length<=6) (a2:∀ s∈ss,seen s 9 6=0):splL b f ss b.eg=[]↔j3s b f ss=[]:=by
 have h:=(q0f a0 hf a1 a2).length_eq;rw[List.length_map] at h;constructor
 ·intro h1;rw[h1] at h;exact zC1 h.symm
 ·intro h1;rw[h1] at h;exact zC1 h
def j3l (f o:Nat) (g:Gr):Int:=(g.getD f []).getD o 0
theorem q6e {b:Hb} {f:Nat} {ss:List Sg} (a0:HeOk b.t b.l b.ks b.hs b.ds) (hf:f<b.ks.length) (a1:ss.length<=6) (a2:∀ s∈ss,seen s 9 6=0) :
 (List.range b.l.length).map (fun o=>rnOf (j3l f o) (splL b f ss b.eg))=j1h (j3s b f ss) (fun o x=>hget x f o) b.l.length:=by
 have h5:=a0.n5;have h3:=a0.f3;have hp:=q0f a0 hf a1 a2;unfold j1h;refine List.map_congr_left fun o ho=>?_
 have ho:=List.mem_range.1 ho;have he:∀ g,j3l f o g=hget (j0i g) f o:=fun g=>by rw[j1b g (by omega) (by omega)];rfl
 have hm:∀ x,x∈(splL b f ss b.eg).map (j3l f o)↔x∈(j3s b f ss).map (fun x=>hget x f o):=fun x=>by
  rw[<-(hp.map fun x=>hget x f o).mem_iff,List.map_map,List.mem_map,List.mem_map]
  exact⟨fun⟨g,hg,e⟩=>⟨g,hg,by rw[<-e,he g];rfl⟩,fun⟨g,hg,e⟩=>⟨g,hg,by rw[<-e,he g];rfl⟩⟩
 unfold rnOf j0t;rw[k4w hm,k4t hm]
def rowP (φ:Nat->Gr->Int) (F:List Gr) (g:Gr) (n o:Nat):List Rn:=(List.range n).map fun x=>if x<o then rnOf (φ x) (F++[g]) else rnOf (φ x) F
theorem q2e {φ:Nat->Gr->Int} {F:List Gr} {g:Gr} {n o:Nat} (ho:o<n):(rowP φ F g n o)[o]?=some (rnOf (φ o) F):=by
 unfold rowP;rw[List.getElem?_map,List.getElem?_range ho];simp
theorem rowP_set {φ:Nat->Gr->Int} {F:List Gr} {g:Gr} {n o:Nat}:(rowP φ F g n o).set o (rnOf (φ o) (F++[g]))=rowP φ F g n (o+1):=by
 refine List.ext_getElem? fun x=>?_
 rw[List.getElem?_set];unfold rowP;by_cases hx:x<n
 ·rw[List.getElem?_map,List.getElem?_map,List.getElem?_range hx];by_cases h:o=x
  ·subst h;rw[if_pos rfl,List.length_map,List.length_range,if_pos hx];simp
  ·rw[if_neg h];simp only[Option.map_some];by_cases h1:x<o
   ·rw[if_pos h1,if_pos (by omega)]
   ·rw[if_neg h1,if_neg (by omega)]
 ·rw[List.getElem?_eq_none (by simp;omega),List.getElem?_eq_none (by simp;omega)]
  simp;omega
theorem q5y {φ:Nat->Gr->Int} {F:List Gr} {g:Gr} {n:Nat}:rowP φ F g n 0=(List.range n).map fun x=>rnOf (φ x) F:=by
 unfold rowP;refine List.map_congr_left fun x _=>?_
 rw[if_neg (by omega)]
theorem rowP_end {φ:Nat->Gr->Int} {F:List Gr} {g:Gr} {n:Nat}:rowP φ F g n n=(List.range n).map fun x=>rnOf (φ x) (F++[g]):=by
 unfold rowP;refine List.map_congr_left fun x hx=>?_
 rw[if_pos (List.mem_range.1 hx)]
theorem rowP_nil {φ:Nat->Gr->Int} {n:Nat}:((List.range n).map fun x=>rnOf (φ x) [])=List.replicate n ⟨0,0⟩:=by
 refine List.ext_getElem (by simp) fun x h1 h2=>?_
 simp[rnOf,minL,maxL]
theorem q5v {φ:Gr->Int} {F:List Gr} {g:Gr}:widR (rnOf φ F).lo (rnOf φ F).hi (φ g) (decide (F=[]))=rnOf φ (F++[g]):=by
 have h:=q5w (φ:=φ) (E:=F++[g]) (i:=F.length) (g:=g) (by simp)
 rw[List.take_left,zB8 (by simp)] at h
 rw[<-h];congr 1;cases F<;>simp
end Go.Proofs.YtmennjmjakdkcaaGreat
