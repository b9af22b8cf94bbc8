/- HerdParts. -/
import Derived.Test.YtmennjmjakdkcaaGreatPt23
import Derived.Test.YtmennjmjakdkcaaGreatPt21
import Derived.Deep.OwnRows
set_option linter.unusedVariables false
set_option linter.unusedSimpArgs false
set_option maxRecDepth 100000
set_option maxHeartbeats 2000000
namespace Go.Proofs.YtmennjmjakdkcaaGreat
open Go.RowKit
theorem k6r (S:Srch) (xs:Array Value) (lt:Value) (w0:World) (C:Ctx S w0 xs lt):∀ n,S.Grows xs lt w0 n
 | 0=>q4u S xs lt w0 C
 | n+1=>q4t S xs lt w0 C n (k6r S xs lt w0 C n)
def Srch.all (S:Srch):Option (List Int):=S.rest S.L ⟨0,0,0,0,0,0⟩
def j7p (base:Nat) (r:Option (List Int)) (e:Ending) (w':World):Prop :=
 match r with
 | some l=>∃ v,e=.returned (.tuple #[v,.bool true])∧OwnI w' base v l
 | none=>e=.returned (.tuple #[.slice none 0 0,.bool false])
theorem home_any (S:Srch) (xs:Array Value) (fl:Nat) (fi ca:Array Value) (w:World) (C:Ctx S w xs (.func (.func fl) fi ca)) :
 Calls Tryz.prog 119 #[.agg xs,.int .u64 S.left,.func (.func fl) fi ca] w fun e w'=>j7p w.heap.size S.all e w'∧Below w.heap.size w w':=by
 obtain⟨t,A,nA,cA,Am,cm,Ai,ni,ci,mv,rfl,ae,a6,a4⟩:=C.x;have ak:=@run_makeMap Tryz.prog;have ah:=C.L;have hb:=C.hb;have HC:=zQ9 (zA9 C hb);clear C ae a6 a4 hb;have ai:∀ (fn:Fn) (first cap:Array Value) (w:World),(Instr.makeFunc fn first cap).run Tryz.prog w=.ok (.func fn first cap) w:=fun _ _ _ _=>rfl
 obtain⟨i,z,hi,hz,a1,a0,ac⟩:=j3b.info;obtain⟨M,hM⟩:∃ M:Array Value,M=madeCells z.cells S.L:=⟨_,rfl⟩;have ag:∀ W:World,(Instr.makeSlice 25 (.int .i64 0) (.int .i64 S.L)).run Tryz.prog W=.ok (.slice (some ⟨W.heap.size,0,none⟩) 0 S.L) (W.alloc (.cells M 3)):=fun W=>by
  have h:=run_make (P:=Tryz.prog) W 25 3 i z Tryz.underlying25 hi hz .i64 .i64 0 S.L (by omega) (by omega) (by rw[a0];omega) (by omega)
  rw[hM];simpa[a1] using h
 have HM:=zQ9 (show M.size=S.L by rw[hM,size_madeCells])
 clear hM hi hz a1 a0 ac;go_enter Tryz.func119,Tryz.ntmps119
 go_upto_region 6 with (fail)
 obtain⟨W0,hW⟩:∃ W0,W0=((((((((((w.alloc (.cells #[.int IntKind.i64 t,Value.slice A nA cA,Value.slice Am S.L cm,Value.slice Ai ni ci] 172)).alloc (.cells #[.int IntKind.u64 ↑S.left] 155)).alloc (.cells #[.func (Fn.func fl) fi ca] 92)).alloc (.cells #[.int IntKind.i64 0,Value.int IntKind.i64 0,Value.int IntKind.i64 0,Value.int IntKind.i64 0,Value.int IntKind.i64 0,Value.int IntKind.i64 0] 186)).alloc (Obj.map #[] 0)).alloc (.cells #[.map (some (w.heap.size+1+1+1+1))] 187)).alloc (Obj.cells M 3)).alloc (.cells #[.slice (some { block:=w.heap.size+1+1+1+1+1+1,off:=0 }) 0 S.L] 25)).alloc (.cells #[.nilFunc] 35)).alloc (.cells #[.func (Fn.func 139) #[] #[Value.pointer (some { block:=w.heap.size+1+1+1,off:=0 }),Value.pointer (some { block:=w.heap.size+1+1+1+1+1+1+1,off:=0 }),Value.pointer (some { block:=w.heap.size+1+1+1+1+1+1+1+1,off:=0 })]] 92)):=⟨_,rfl⟩;rw[<-hW];obtain⟨C,hb⟩:=HC.out;have hB:Below w.heap.size w W0:=by
  rw[hW];exact bal (bal (bal (bal (bal (bal (bal (bal (bal (bal0 w _) (zL9 _) _) (zL9 _) _) (zL9 _) _) (zL9 _) _) (zL9 _) _) (zL9 _) _) (zL9 _) _) (zL9 _) _) (zL9 _) _
 have ad:W0.heap.size=S.b+10:=by rw[hW,<-hb];simp
 have e0:W0.heap[S.b]?=some (.cells #[.int IntKind.i64 t,Value.slice A nA cA,Value.slice Am S.L cm,Value.slice Ai ni ci] 172 (0,0)):=by rw[hW,<-hb];exact j0b (j0b (j0b (j0b (j0b (j0b (j0b (j0b (j0b (j0c (by simp)) _) _) _) _) _) _) _) _) _
 have e1:W0.heap[S.b+1]?=some (.cells #[.int IntKind.u64 ↑S.left] 155 (0,0)):=by rw[hW,<-hb];exact j0b (j0b (j0b (j0b (j0b (j0b (j0b (j0b (j0c (by simp)) _) _) _) _) _) _) _) _
 have e2:W0.heap[S.b+2]?=some (.cells #[.func (Fn.func fl) fi ca] 92 (0,0)):=by rw[hW,<-hb];exact j0b (j0b (j0b (j0b (j0b (j0b (j0b (j0c (by simp)) _) _) _) _) _) _) _
 have e3:W0.heap[S.b+3]?=some (.cells #[.int IntKind.i64 0,Value.int IntKind.i64 0,Value.int IntKind.i64 0,Value.int IntKind.i64 0,Value.int IntKind.i64 0,Value.int IntKind.i64 0] 186 (0,0)):=by rw[hW,<-hb];exact j0b (j0b (j0b (j0b (j0b (j0b (j0c (by simp)) _) _) _) _) _) _
 have e4:W0.heap[S.b+4]?=some (Obj.map #[] 0):=by rw[hW,<-hb];exact j0b (j0b (j0b (j0b (j0b (j0c (by simp)) _) _) _) _) _
 have e5:W0.heap[S.b+5]?=some (.cells #[.map (some (S.b+4))] 187 (0,0)):=by rw[hW,<-hb];exact j0b (j0b (j0b (j0b (j0c (by simp)) _) _) _) _
 have e6:W0.heap[S.b+6]?=some (Obj.cells M 3 (0,0)):=by rw[hW,<-hb];exact j0b (j0b (j0b (j0c (by simp)) _) _) _
 have e7:W0.heap[S.b+7]?=some (.cells #[.slice (some { block:=S.b+6,off:=0 }) 0 S.L] 25 (0,0)):=by rw[hW,<-hb];exact j0b (j0b (j0c (by simp)) _) _
 have e8:W0.heap[S.b+8]?=some (.cells #[.nilFunc] 35 (0,0)):=by rw[hW,<-hb];exact j0b (j0c (by simp)) _
 have e9:W0.heap[S.b+9]?=some (.cells #[.func (Fn.func 139) #[] #[Value.pointer (some { block:=S.b+3,off:=0 }),Value.pointer (some { block:=S.b+7,off:=0 }),Value.pointer (some { block:=S.b+8,off:=0 })]] 92 (0,0)):=by rw[hW,<-hb];exact j0c (by simp)
 clear hW;simp only[hb,Nat.add_assoc,Nat.reduceAdd];have f8:W0.frozen? ⟨S.b+8,0,none⟩=false:=free_of_one e8;have c8:=blk1 e8;go_upto_region 7 with (fail)
 obtain⟨W1,hW⟩:∃ W1,W1=W0.setCell ⟨S.b+8,0,none⟩ (.func (.func 141) #[] S.growCaps):=⟨_,rfl⟩;have a5:=hW;unfold Srch.growCaps at a5;rw[<-a5];clear a5;have k1:∀ j,j≠S.b+8->W1.heap[j]?=W0.heap[j]?:=fun j hj=>by rw[hW];exact zB1 _ _ _ _ hj
 have a8:W1.heap[S.b+8]?=some (Obj.cells #[.func (.func 141) #[] S.growCaps] 35 (0,0)):=by rw[hW];exact one_setCell e8
 have a9:Below w.heap.size w W1:=by rw[hW];exact hB.setCell (by dsimp;omega) _
 have aj:W1.heap.size=S.b+10:=by rw[hW];simpa using ad
 clear hW;have aa:Env S #[Value.int IntKind.i64 t,Value.slice A nA cA,Value.slice Am S.L cm,Value.slice Ai ni ci] (.func (.func fl) fi ca) W1 :=
  ⟨(k1 _ (by omega)).trans e0,(k1 _ (by omega)).trans e1,(k1 _ (by omega)).trans e2,(k1 _ (by omega)).trans e5,a8,(k1 _ (by omega)).trans e9⟩
 have st:St S W1 ⟨0,0,0,0,0,0⟩ [] []:=by
  refine⟨(k1 _ (by omega)).trans e3,(k1 _ (by omega)).trans e7,?_,q5n ((k1 _ (by omega)).trans e4),rfl,fun i hi=>?_⟩
  ·refine⟨rfl,.inr ⟨S.b+6,S.L,M,rfl,by omega,(k1 _ (by omega)).trans e6,Nat.zero_le _,by(unfold maxLen;omega),by rw[HM.out];omega,by simp⟩⟩
  ·obtain rfl|rfl|rfl|rfl|rfl:i=0∨i=1∨i=2∨i=3∨i=4:=by omega
   all_goals exact⟨Int.le_refl _,Int.le_refl _⟩
 have c8:=blk1 a8;have hG:=k6r S _ _ w C S.L W1 ⟨0,0,0,0,0,0⟩ [] [] (hb ▸ a9) aa st (fun k hk=>by cases hk) (zL9 _) (by simp)
 have HG:=zQ9 hG;clear hG;unfold Srch.growCaps at c8;go_wp2_with fail
 have hG:=HG.out;unfold Srch.growCaps at hG;refine hG.mono ?_;rintro e w5 ⟨rfl,hF,c',o',K',a7,am,a2,a3⟩;have af:Below w.heap.size w w5:=a9.trans (hb ▸ hF.below);have HB:=zQ9 (zA9 af (zA9 a2 a3));clear a2 a3;have HS:=zQ9 a7.buf;have c7:=blk1 a7.out;cases hr:S.rest S.L ⟨0,0,0,0,0,0⟩ with
 | some r =>
   have HR:=zQ9 (zA9 hr (HB.out.2.1 r hr));simp only[hr,Option.isSome_some];clear hr;go_wp2
   go_ret2
   refine⟨?_,HB.out.1⟩;unfold j7p Srch.all;rw[HR.out.1];refine⟨_,rfl,?_⟩;have:=HR.out.2;simp only[List.nil_append] at this;rw[<-this,hb];exact HS.out
 | none =>
   have HR:=zQ9 hr;simp only[hr,Option.isSome_none];clear hr;go_wp2
   go_ret2
   refine⟨?_,HB.out.1⟩;unfold j7p Srch.all;rw[HR.out];exact rfl
def j7i (may:List (List Int)) (mis:List Int) (left:Nat) (lf:Nat->Int->Bool):Option (List Int):=Srch.all ⟨0,may.length,may,mis,left,lf⟩
theorem rest_b (b b' L:Nat) (may:List (List Int)) (mis:List Int) (left:Nat) (lf:Nat->Int->Bool):∀ n c,Srch.rest ⟨b,L,may,mis,left,lf⟩ n c=Srch.rest ⟨b',L,may,mis,left,lf⟩ n c
 | 0,c=>rfl
 | n+1,c=>by
   unfold Srch.rest;simp only[rest_b b b' L may mis left lf n]
theorem any_any (xs:Array Value) (p o:Int) (w:World) (hx:xs.size=4) :
 Calls Tryz.prog 120 #[.agg xs,.int .i64 p,.int .i64 o] w fun e w'=>e=.returned (.bool true)∧Below w.heap.size w w':=by
 go_enter Tryz.func120,Tryz.ntmps120
 go_wp2
 go_ret
 exact⟨rfl,bal0 _ _⟩
def j6t (t:Int) (l:List Mk) (ss:List Sg) (mis:List Int):Int:=if j0z t l ss mis≠0 then j0z t l ss mis else if j7i (mays t l ss) mis 0 (fun _ _=>true)=none then 11 else 0
def k0r (t:Int) (l:List Mk) (ss:List Sg) (mis:List Int):List Int:=if j0z t l ss mis≠0 then [] else (j7i (mays t l ss) mis 0 (fun _ _=>true)).getD []
theorem k9j {t:Int} {l:List Mk} {s:Sg} {o:Int} (h:o∈mayL t l s):0<=o∧o.toNat<l.length:=by
 unfold mayL j3y at h;simp only[List.mem_map,List.mem_filter,List.mem_range] at h;obtain⟨i,⟨hi,_⟩,rfl⟩:=h;exact⟨Int.natCast_nonneg i,by simpa using hi⟩
theorem k9i (t:Int) (l:List Mk) (s:Sg):(mayL t l s).length<=l.length:=j8y t l s l.length
theorem ctx_of {w0:World} {t:Int} {A:Option Addr} {n c:Nat} {Am:Option Addr} {cm:Nat} {Ai:Option Addr} {ni ci:Nat} {may:List (List Int)} {mis:List Int} {left:Nat} {lf:Nat->Int->Bool} {fl:Nat} {fi ca:Array Value}
 (hg:Grid w0 Am may.length may) (a3:Ints w0 Ai ni mis) (hL:may.length<=6) (a0:(left:Int)<18446744073709551616) (hm:∀ l∈may,l.length<=4294967296∧∀ o∈l,0<=o∧o<5∧o.toNat<ni)
 (eg:∀ args w,(callFunc fl args).run Tryz.prog w=.ok (.enter fl args) w)
 (a1:∀ w,Below w0.heap.size w0 w->∀ (p:Nat) (o:Int),p<may.length->0<=o->o<5->Calls Tryz.prog fl (fi++(#[.int .i64 p,.int .i64 o]++ca)) w fun e w'=>e=.returned (.bool (lf p o))∧Below w.heap.size w w') :
 Ctx ⟨w0.heap.size,may.length,may,mis,left,lf⟩ w0 #[.int .i64 t,.slice A n c,.slice Am may.length cm,.slice Ai ni ci] (.func (.func fl) fi ca):=by
 obtain⟨mv,h1,h2,h3⟩:=hg;refine⟨rfl,hL,a0,⟨t,A,n,c,Am,cm,Ai,ni,ci,mv,rfl,h1,a3,fun i v hv=>?_⟩,⟨fl,fi,ca,rfl,eg,a1⟩⟩
 obtain⟨B,l,c',hl,a2,hs,_,_⟩:=h3 i v hv;have:=hm l (zB4 hl);exact⟨B,l,c',a2,hl,hs,this.1,this.2⟩
theorem all_b (b L:Nat) (may:List (List Int)) (mis:List Int) (left:Nat) (lf:Nat->Int->Bool) (hL:L=may.length):Srch.all ⟨b,L,may,mis,left,lf⟩=j7i may mis left lf:=by
 subst hL;exact rest_b b 0 may.length may mis left lf may.length ⟨0,0,0,0,0,0⟩
theorem q5b {t:Int} {A:Option Addr} {n c:Nat} {Am:Option Addr} {k cm:Nat} {Ai:Option Addr} {ni ci:Nat} {may:List (List Int)} {mis:List Int} {left:Nat} {lf:Nat->Int->Bool} {fl:Nat} {fi ca:Array Value} (w0:World)
 (hk:k=may.length) (hg:Grid w0 Am may.length may) (a2:Ints w0 Ai ni mis) (hL:may.length<=6) (a0:(left:Int)<18446744073709551616) (hm:∀ l∈may,l.length<=4294967296∧∀ o∈l,0<=o∧o<5∧o.toNat<ni)
 (eg:∀ args w,(callFunc fl args).run Tryz.prog w=.ok (.enter fl args) w)
 (a1:∀ w,Below w0.heap.size w0 w->∀ (p:Nat) (o:Int),p<may.length->0<=o->o<5->Calls Tryz.prog fl (fi++(#[.int .i64 p,.int .i64 o]++ca)) w fun e w'=>e=.returned (.bool (lf p o))∧Below w.heap.size w w') :
 Calls Tryz.prog 119 #[.agg #[.int .i64 t,.slice A n c,.slice Am k cm,.slice Ai ni ci],.int .u64 left,.func (.func fl) fi ca] w0 fun e w'=>j7p w0.heap.size (j7i may mis left lf) e w'∧Below w0.heap.size w0 w':=by
 subst hk;have h:=home_any ⟨w0.heap.size,may.length,may,mis,left,lf⟩ _ fl fi ca w0 (ctx_of (t:=t) (A:=A) (n:=n) (c:=c) (cm:=cm) (ci:=ci) hg a2 hL a0 hm eg a1);rw[all_b _ _ _ _ _ _ rfl] at h;exact h
theorem q1z {t:Int} {l:List Mk} {ss:List Sg} {mis:List Int} (h:j0z t l ss mis=0):check t l=0∧ss.length<=6∧j2f ss=0∧mis.length=l.length∧mis.all (fun x=>btw x 0 6)=true:=by
 unfold j0z at h
 split at h
 ·contradiction
 ·rename_i h1
  split at h
  ·cases h
  ·split at h
   ·contradiction
   ·rename_i h2 h3
    split at h
    ·cases h
    ·split at h
     ·cases h
     ·split at h
      ·rename_i h4 h5 h6;exact⟨by omega,by omega,by omega,by omega,h6⟩
      ·cases h
theorem mays_in {t:Int} {l:List Mk} {ss:List Sg} {mis:List Int} {ni:Nat} (h:j0z t l ss mis=0) (hn:mis.length=ni):∀ r∈mays t l ss,r.length<=4294967296∧∀ o∈r,0<=o∧o<5∧o.toNat<ni:=by
 obtain⟨h1,h2,h3,h4,h5⟩:=q1z h;have a0:=(j2d h1).2.2.1;intro r hr;unfold mays at hr;obtain⟨s,_,rfl⟩:=List.mem_map.1 hr;have:=k9i t l s;refine⟨by omega,fun o ho=>?_⟩
 have:=k9j ho;omega
theorem Home_any (t:Int) (A:Option Addr) (n c:Nat) (l:List Mk) (B:Option Addr) (m cb:Nat) (ss:List Sg) (Ai:Option Addr) (ni ci:Nat) (mis:List Int) (w:World)
 (hl:Marks w A n l) (ai:n<=c) (aj:c<=maxLen) (ae:Sights w B m ss) (ag:m<=maxLen) (a2:Ints w Ai ni mis) (am:ni<=maxLen) :
 Calls Tryz.prog 84 #[.agg #[.int .i64 t,.slice A n c],.slice B m cb,.slice Ai ni ci] w fun e w'=>∃ v,e=.returned (.tuple #[v,.int .i64 (j6t t l ss mis)])∧OwnI w' w.heap.size v (k0r t l ss mis)∧Below w.heap.size w w':=by
 have HL:=zQ9 hl;have an:=zQ9 ae;have ac:=zQ9 a2;have af:=a2.len;have HN:=zQ9 af;have ao:∀ (fn:Fn) (first cap:Array Value) (w:World),(Instr.makeFunc fn first cap).run Tryz.prog w=.ok (.func fn first cap) w:=fun _ _ _ _=>rfl
 clear hl ae a2 af;go_enter Tryz.func84,Tryz.ntmps84
 go_wp2_with fail
 have a0:Below w.heap.size w (w.alloc (.cells #[.int .i64 t,.slice A n c] 24)):=bal0 w _;refine(q2z t A n c l B m cb ss Ai ni ci mis _ (HL.out.below a0 (zL9 _)) ai aj (an.out.below a0 (zL9 _)) ag (ac.out.below a0 (zL9 _)) am).mono ?_;rintro e w1 ⟨hr,a1⟩;have a5:Below w.heap.size w w1:=a0.trans (a1.mono (by simp))
 have ah:=a1.size;simp at ah;by_cases hge:j0z t l ss mis=0
 ·have hg:∃ v,e=Ending.returned (.tuple #[.agg #[.int .i64 t,.slice A n c,v,.slice Ai ni ci],.int .i64 0])∧OwnG w1 (w.heap.size+1) v (mays t l ss):=by
   unfold j2w at hr;rw[if_pos hge] at hr;simpa using hr
  clear hr;obtain⟨v,rfl,aa⟩:=hg;obtain⟨Am,cm,rfl,a7,a6,ak⟩:=aa.form;have HG:=zQ9 (zA9 hge (zA9 a7 a5));have ad:(mays t l ss).length<=6:=by unfold mays;rw[List.length_map];exact(q1z hge).2.1
  have HK:=zQ9 (zA9 ad (mays_in hge HN.out));clear aa a7 a6 ak a5 hge ad a0 a1;generalize hk:(mays t l ss).length=k at *
  have a3:=zQ9 hk;clear hk;go_wp2_with fail
  refine(q5b (may:=mays t l ss) (mis:=mis) (left:=0) (lf:=fun _ _=>true) _ a3.out.symm ?_ ?_ ?_ (by decide) HK.out.2 (fun _ _=>by kernel_rfl) ?_).mono ?_
  ·rw[a3.out];exact HG.out.2.1.below (bal0 w1 _) (zL9 _)
  ·exact ac.out.below (bal (HG.out.2.2) (zL9 _) _) (zL9 _)
  ·rw[a3.out];exact HK.out.1
  ·intro W hW p o _ _ _;exact any_any _ _ _ _ rfl
  rintro e w2 ⟨hr,a9⟩;cases hg:j7i (mays t l ss) mis 0 (fun _ _=>true) with
  | none =>
    have HE:=zQ9 (show j6t t l ss mis=11∧k0r t l ss mis=[] by unfold j6t k0r;rw[if_neg (by simp[HG.out.1]),if_pos hg,if_neg (by simp[HG.out.1]),hg];exact⟨rfl,rfl⟩)
    have a4:e=Ending.returned (.tuple #[.slice none 0 0,.bool false]):=by
     unfold j7p at hr;rw[hg] at hr;exact hr
    subst a4;clear hr hg;go_wp2
    go_ret2
    exact⟨.slice none 0 0,k5y HE.out.1.symm,by rw[HE.out.2];exact Own.nil_,(bal HG.out.2.2 (zL9 _) _).trans (a9.mono (by simp;omega))⟩
  | some r =>
    have HE:=zQ9 (show j6t t l ss mis=0∧k0r t l ss mis=r by unfold j6t k0r;rw[if_neg (by simp[HG.out.1]),if_neg (by simp[hg]),if_neg (by simp[HG.out.1]),hg];exact⟨rfl,rfl⟩)
    have a4:∃ v,e=Ending.returned (.tuple #[v,.bool true])∧OwnI w2 (w1.heap.size+1) v r:=by
     unfold j7p at hr;rw[hg] at hr;simpa using hr
    obtain⟨v,rfl,a8⟩:=a4;have HO:=zQ9 a8;clear hr hg a8;go_wp2
    go_ret2
    exact⟨v,k5y HE.out.1.symm,by rw[HE.out.2];exact HO.out.mono (by omega),(bal HG.out.2.2 (zL9 _) _).trans (a9.mono (by simp;omega))⟩
 ·have hg:e=Ending.returned (.tuple #[.agg #[.int .i64 0,.slice none 0 0,.slice none 0 0,.slice none 0 0],.int .i64 (j0z t l ss mis)]):=by
   unfold j2w at hr
   rwa [if_neg hge] at hr
  subst hg;have h0:(j0z t l ss mis != 0)=true:=by simp[hge]
  have HE:=zQ9 (show j6t t l ss mis=j0z t l ss mis∧k0r t l ss mis=[] by unfold j6t k0r;rw[if_pos hge,if_pos hge];exact⟨rfl,rfl⟩)
  clear hr hge;go_wp2
  go_ret2
  exact⟨.slice none 0 0,k5y HE.out.1.symm,by rw[HE.out.2];exact Own.nil_,bal a5 (zL9 _) _⟩
def k0m (may:List (List Int)) (mis:List Int) (lf:Nat->Int->Bool) (L:Nat):Nat->Cn->List Int->Bool
 | 0,_,_=>true
 | n+1,c,[]=>false
 | n+1,c,o::r=>((may.getD (L-(n+1)) []).contains o&&(decide (c.at o.toNat<mis.getD o.toNat 0)&&lf (L-(n+1)) o))&&k0m may mis lf L n (c.up o.toNat) r
theorem j5r {α β:Type} (p:α->Bool) (h:α->Option β):∀ l:List α,(l.filter p).findSome? h=l.findSome? fun i=>if p i then h i else none
 | []=>rfl
 | a::l=>by
   by_cases hp:p a=true
   ·rw[List.filter_cons_of_pos hp,List.findSome?_cons,List.findSome?_cons,if_pos hp,j5r p h l]
   ·rw[List.filter_cons_of_neg hp,List.findSome?_cons,if_neg hp,j5r p h l]
theorem k1m {α β γ:Type} (f:α->γ) (h:γ->Option β):∀ l:List α,(l.map f).findSome? h=l.findSome? fun i=>h (f i)
 | []=>rfl
 | a::l=>by rw[List.map_cons,List.findSome?_cons,List.findSome?_cons,k1m f h l]
theorem k6n {α β:Type} (f:α->List β) (p:β->Bool):∀ l:List α,(l.flatMap f).find? p=l.findSome? fun i=>(f i).find? p
 | []=>rfl
 | a::l=>by
   rw[List.flatMap_cons,List.find?_append,List.findSome?_cons,k6n f p l];cases(f a).find? p<;>rfl
theorem j9o {α β:Type} {f g:α->Option β}:∀ {l:List α},(∀ a∈l,f a=g a)->l.findSome? f=l.findSome? g
 | [],_=>rfl
 | a::l,h=>by rw[List.findSome?_cons,List.findSome?_cons,h a (by simp),j9o fun b hb=>h b (by simp[hb])]
theorem k6o {α β:Type} (f:α->β) (p:β->Bool):∀ l:List α,(l.map f).find? p=(l.find? fun a=>p (f a)).map f
 | []=>rfl
 | a::l=>by
   rw[List.map_cons,List.find?_cons,List.find?_cons,k6o f p l];cases p (f a)<;>rfl
theorem k0j {α:Type} {p q:α->Bool}:∀ {l:List α},(∀ a∈l,p a=q a)->l.find? p=l.find? q
 | [],_=>rfl
 | a::l,h=>by rw[List.find?_cons,List.find?_cons,h a (by simp),k0j fun b hb=>h b (by simp[hb])]
theorem k4i {α:Type} (l:List α):l.find? (fun _=>false)=none:=by
 rw[List.find?_eq_none];intro a _ h;cases h
theorem k7m {b N L:Nat} {may:List (List Int)} {mis:List Int} {lf:Nat->Int->Bool} (a0:∀ k,∃ p:Nat->Bool,may.getD k []=((List.range N).filter p).map Int.ofNat) :
 ∀ n c,Srch.rest ⟨b,L,may,mis,0,lf⟩ n c=(j1r N n).find? (k0m may mis lf L n c)
 | 0,c=>rfl
 | n+1,c=>by
   unfold Srch.rest j1r;rw[if_neg (by simp),k6n]
   obtain⟨p,hp⟩:=a0 (L-(n+1));dsimp only;rw[hp,k1m,j5r];refine j9o fun i hi=>?_
   rw[k6o];have hc:(may.getD (L-(n+1)) []).contains (Int.ofNat i)=p i:=by
    rw[hp,Bool.eq_iff_iff,List.contains_eq_mem,decide_eq_true_eq,List.mem_map];constructor
    ·rintro⟨a,ha,he⟩;have:a=i:=by injection he
     subst this;exact(List.mem_filter.1 ha).2
    ·intro h;exact⟨i,List.mem_filter.2 ⟨hi,h⟩,rfl⟩
   have hg:∀ r,k0m may mis lf L (n+1) c ((i:Int)::r)=((p i&&(decide (c.at i<mis.getD i 0)&&lf (L-(n+1)) i))&&k0m may mis lf L n (c.up i) r):=by
    intro r;show(((may.getD (L-(n+1)) []).contains (i:Int)&&_)&&_)=_;rw[show(may.getD (L-(n+1)) []).contains (i:Int)=p i from hc]
    rfl
   simp only[hg];rw[k7m a0 n];cases hpi:p i
   ·simp only[Bool.false_and,k4i];rfl
   ·simp only[Bool.true_and,if_true];show(if (decide (c.at i<mis.getD i 0)&&lf (L-(n+1)) (i:Int))=true then _ else none)=_
    cases hq:(decide (c.at i<mis.getD i 0)&&lf (L-(n+1)) (i:Int))
    ·simp only[Bool.false_and,k4i];rfl
    ·simp only[Bool.true_and,if_true];rfl
theorem j5h (y:Int) (x:List Int) (o:Int):cntI (y::x) o=cntI x o+if y=o then 1 else 0:=by
 unfold cntI;rw[List.countP_cons];by_cases h:y=o<;>simp[h]
theorem k6l {x:List Int} {o:Int} (h:o∉x):cntI x o=0:=by
 unfold cntI;rw[List.countP_eq_zero];intro a ha he;simp at he;subst he;exact h ha
theorem k8y {N L:Nat} {may:List (List Int)} {mis:List Int} {lf:Nat->Int->Bool} (hN:N<=5):∀ (n:Nat) (c:Cn) (r:List Int),n<=L->r∈j1r N n ->
 (k0m may mis lf L n c r=true↔(∀ (j:Nat) (o:Int),r[j]?=some o->o∈may.getD (L-n+j) []∧lf (L-n+j) o=true)∧∀ o:Nat,(o:Int)∈r->c.at o+(cntI r o:Int)<=mis.getD o 0)
 | 0,c,r,_,hr=>by
   simp[j1r] at hr;subst hr;simp[k0m]
 | n+1,c,r,hn,hr=>by
   obtain⟨i,hi,h2⟩:=List.mem_flatMap.1 hr;obtain⟨q,hq,rfl⟩:=List.mem_map.1 h2;have a2:i<5:=by have:=List.mem_range.1 hi;omega
   have a3:=(j3t hq).2;have ih:=k8y (L:=L) (may:=may) (mis:=mis) (lf:=lf) hN n (c.up i) q (by omega) hq
   show(((may.getD (L-(n+1)) []).contains (i:Int)&&(decide (c.at i<mis.getD i 0)&&lf (L-(n+1)) i))&&k0m may mis lf L n (c.up i) q)=true↔_;rw[Bool.and_eq_true,Bool.and_eq_true,Bool.and_eq_true,ih,List.contains_eq_mem,decide_eq_true_eq,decide_eq_true_eq];constructor
   ·rintro⟨⟨h1,h2,h3⟩,h4,h5⟩;refine⟨fun j o hj=>?_,fun o ho=>?_⟩
    ·cases j with
     | zero=>simp at hj;subst hj;exact⟨h1,h3⟩
     | succ j =>
       have:=h4 j o (by simpa using hj)
       rw[show L-(n+1)+(j+1)=L-n+j by omega]
       exact this
    ·rw[j5h];by_cases ho2:(o:Int)∈q
     ·have h6:=h5 o ho2;have a1:o<5:=by have:=(a3 o ho2).2;omega
      rw[Cn.up_at c a2 a1] at h6;by_cases a0:o=i
      ·subst a0;rw[if_pos rfl] at h6;rw[if_pos rfl];omega
      ·rw[if_neg a0] at h6;rw[if_neg (by omega)];omega
     ·rw[k6l ho2];have a0:(o:Int)=(i:Int):=by
       rcases List.mem_cons.1 ho with h|h
       ·exact h
       ·exact absurd h ho2
      have:o=i:=by omega
      subst this;rw[if_pos rfl];omega
   ·rintro⟨h1,h2⟩;have h0:=h1 0 i rfl;have h3:=h2 i (by simp)
    rw[j5h,if_pos rfl] at h3;refine⟨⟨h0.1,by omega,h0.2⟩,fun j o hj=>?_,fun o ho=>?_⟩
    ·have:=h1 (j+1) o (by simpa using hj)
     rw[show L-(n+1)+(j+1)=L-n+j by omega] at this
     exact this
    ·have h6:=h2 o (by simp[ho])
     have a1:o<5:=by have:=(a3 o ho).2;omega
     rw[Cn.up_at c a2 a1];rw[j5h] at h6;by_cases a0:o=i
     ·subst a0;rw[if_pos rfl] at h6 ⊢;omega
     ·rw[if_neg a0];rw[if_neg (by omega)] at h6;omega
section
variable {t:Int} {l:List Mk} {ss:List Sg} {mis:List Int} (hn5:l.length<=5) (hmis:∀ x∈mis,0<=x)
end
def upI (n:Nat):List Int:=(List.range n).map Int.ofNat
theorem j9v (n:Nat):(upI n).length=n:=by simp[upI]
theorem upI_succ (n:Nat):upI (n+1)=upI n++[(n:Int)]:=by unfold upI;rw[List.range_succ,List.map_append];rfl
theorem q6j {L:List Int} {i k:Nat} (hi:i<L.length) (hk:k<L.length):((L.set i (L.getD k 0)).set k (L.getD i 0)).Perm L:=by
 rw[zB3,zB3,zB5 hi,zB5 hk];exact List.set_set_perm hi hk
def RowR (H N n:Nat) (w:World) (e:Ending) (w':World):Prop:=∃ A c L,e=.returned (.slice A n c)∧OwnI w' w.heap.size (.slice A n c) L∧L.Perm (upI n)∧Dealt w w' H N
theorem row_any (H N n:Nat) (w:World) (h:Hd w H N) (hN:N<=4611686018427000000) (hn:n<=1000) :
 Calls Tryz.prog 78 #[.pointer (some ⟨H,0,none⟩),.int .i64 n] w (RowR H (N+n) n w):=by
 have a9:=h.lt;have HH:=zQ9 h;clear h;go_enter Tryz.func78,Tryz.ntmps78
 go_wp2_with fail
 go_loopg [5,6] n (fun g v5 v6 wr=>∃ k:Nat,k+g=n∧v6=.int .i64 k∧OwnI wr w.heap.size v5 (upI k)∧Below w.heap.size w wr)
 case atStart=>exact⟨0,by omega,rfl,Own.nil_,zB2 _ _⟩
 case round =>
  obtain⟨k,hk,rfl,a0,hB⟩:=hrel;have ar:=hB.size;by_cases hlt:k<n
  ·have ay:(upI k).length<4294967296:=by rw[j9v];omega
   have h3:(k:Int)<(n:Int):=by omega
   have HK:=zQ9 (zA9 hk (zA9 a0 hB));clear hk a0 hB;go_wp2_with (at_builtin;refine j6b j3b rfl (.tmp 15) (.tmp 17) rfl w.heap.size _ (upI k) (k:Int) _ rfl rfl rfl rfl (j1x _) HK.o.2.1 ?_ ?_ ?_ ?_;(omega);(omega);(omega);intro v' w4 a1 ac _ av;have H4:=zQ9 (zA9 a1 ac);clear a1 ac)
   go_roundg (gk-1)
   case measure=>have:=HK.o.1;omega
   case rel=>exact⟨k+1,by have:=HK.o.1;omega,by go_num,by rw[upI_succ];exact H4.o.1,HK.o.2.2.trans H4.o.2⟩
  ·obtain rfl:k=n:=by omega
   have ad:Hd wr H N:=HH.o.below hB a9;have hD:Dealt w wr H N:=⟨ad,⟨hB.os,hB.tape,hB.output,hB.size,fun j hj _=>hB.block j hj⟩⟩
   obtain⟨A5,c5,rfl,-,-,-⟩:=a0.form j0n;rw[j9v] at a0 ⊢;have HK:=zQ9 (zA9 a0 hD);clear a0 hD hk hB hlt ad;go_wp2_with fail
   go_loopg [7] k (fun g v7 wx=>(g=0∧v7=.int .i64 (-1)∨∃ i:Nat,i+1=g∧v7=.int .i64 i)∧g<=k∧∃ L:List Int,OwnI wx w.heap.size (.slice A5 k c5) L∧L.Perm (upI k)∧Dealt w wx H (N+(k-g)))
   case atStart =>
    refine⟨?_,zL9 _,upI k,HK.o.1,List.Perm.refl _,HK.o.2.mono (by omega)⟩
    rcases Nat.eq_zero_or_pos k with h0|h0
    ·exact .inl ⟨h0,by rw[h0];rfl⟩
    ·exact .inr ⟨k-1,by omega,by congr 1;omega⟩
   case round =>
    obtain⟨ag,hg,L,a0,hp,hD⟩:=hrel;have hL:L.length=k:=by rw[hp.length_eq,j9v]
    rcases ag with ⟨h0,rfl⟩|⟨i,hi,rfl⟩
    ·have HE:=zQ9 (zA9 a0 (zA9 hp hD));clear a0 hp hD hL hg;go_wp2_with fail
     go_ret
     exact⟨A5,c5,L,rfl,HE.o.1,HE.o.2.1,HE.o.2.2.mono (by omega)⟩
    by_cases h2:0<i
    ·have i1:(0:Int)<(i:Int):=by omega
     have ae:=j1l H (N+(k-gk)) (i:Int) wr hD.hd (by omega) (by omega)
     have HU:=zQ9 ae;have HG:=zQ9 (zA9 a0 (zA9 hp (zA9 hD (zA9 hL (zA9 hi hg)))));clear a0 hp hD hL ae hi hg;go_upto_region 10 with (go_at_call 12;refine HU.o.mono ?_;rintro e w4 ⟨x,rfl,hx,a8⟩)
     have a6:=HG.o.1.row a8.gr (fun k e=>by cases e;exact a9)
     have a2:x<L.length∧i<L.length:=by have:=HG.o.2.2.2.1;have:=HG.o.2.2.2.2;omega
     obtain⟨g5,rfl,ax,ai,ak,-,-⟩:=Own.put1 a6 a2.1 0;obtain⟨aj,e5,-,-,am,aw,a5⟩:=Own.put1 a6 a2.2 (L.getD x 0);cases e5;have a3:x<(L.set i (L.getD x 0)).length:=by rw[List.length_set];exact a2.1
     obtain⟨aj,e5,-,-,an,ah,a4⟩:=Own.put1 a5 a3 (L.getD i 0);cases e5;have i3:(i:Int)<(k:Int):=by have:=HG.o.2.2.2.1;omega
     have i4:(x:Int)<(k:Int):=by have:=HG.o.2.2.2.1;omega
     obtain⟨y,hy⟩:∃ y,y=L.getD x 0:=⟨_,rfl⟩;obtain⟨z,hz⟩:∃ z,z=L.getD i 0:=⟨_,rfl⟩;have a7:=q6j a2.2 a2.1;rw[<-hy,<-hz] at a7;rw[<-hy] at ak a5 an ah a4;rw[<-hz] at am a4;have aa:=(j0l w4 g5 i (.int .i64 y)).trans (j0l _ g5 x (.int .i64 z));have af:=a8;have ao:g5<(w4.setCell ⟨g5,i,none⟩ (.int .i64 y)).heap.size:=by simpa[World.setCell] using ai
     have HO:=zQ9 (zA9 a4 (zA9 a7 (zA9 af aa)));clear a6 a5 a4 a7 af aa a8 a2 a3 hy hz hx;go_wp2_with fail
     go_roundg (gk-1)
     case measure=>have:=HG.o.2.2.2.2;omega
     case rel =>
      have aq:H<g5:=by omega
      refine⟨.inr ⟨i-1,by have:=HG.o.2.2.2.2;omega,by congr 1;omega⟩,by have:=HG.o.2.2.2.2;omega,_,HO.o.1,HO.o.2.1.trans HG.o.2.1,?_⟩
      have hD:=HG.o.2.2.1.trans HO.o.2.2.1;refine Dealt.mono (M:=N+(k-(gk-1))) (N:=N+(k-gk)+1) ?_ (by have:=HG.o.2.2.2.2;omega)
      exact Dealt.set (Dealt.set hD (by omega) (by omega) _) (by omega) (by omega) _
    ·obtain rfl:i=0:=by omega
     have HE:=zQ9 (zA9 a0 (zA9 hp hD));clear a0 hp hD hL;go_wp2_with fail
     go_ret
     exact⟨A5,c5,L,rfl,HE.o.1,HE.o.2.1,HE.o.2.2.mono (by omega)⟩
def osL (row:List Int) (k:Nat):List Int:=(List.range k).flatMap fun i=>List.replicate (row.getD i 0).toNat (i:Int)
theorem k3s (row:List Int) (k:Nat):osL row (k+1)=osL row k++List.replicate (row.getD k 0).toNat (k:Int):=by
 unfold osL;rw[List.range_succ,List.flatMap_append];simp
theorem q0v (x y:List Int) (o:Int):cntI (x++y) o=cntI x o+cntI y o:=List.countP_append
theorem cntI_rep (k:Nat) (a o:Int):cntI (List.replicate k a) o=if a=o then k else 0:=by
 unfold cntI;rw[List.countP_replicate];by_cases h:a=o<;>simp[h]
theorem q2c (row:List Int):∀ (k o:Nat),cntI (osL row k) (o:Int)=if o<k then (row.getD o 0).toNat else 0
 | 0,o=>by simp[osL,cntI]
 | k+1,o=>by
   rw[k3s,q0v,q2c row k o,cntI_rep];by_cases h1:o<k
   ·rw[if_pos h1,if_neg (by omega),if_pos (by omega)];rfl
   ·by_cases h2:o=k
    ·subst h2;rw[if_neg h1,if_pos rfl,if_pos (by omega)];omega
    ·rw[if_neg h1,if_neg (by omega),if_neg (by omega)]
theorem k5w {row:List Int}:∀ {k B:Nat},(∀ o,row.getD o 0<=B)->(osL row k).length<=k*B
 | 0,B,h=>by simp[osL]
 | k+1,B,h=>by
   have ih:=k5w (k:=k) h;have:=h k;rw[k3s,List.length_append,List.length_replicate,Nat.succ_mul];omega
def ShF (t:Int) (l:List Mk) (ss:List Sg) (os:List Int):Prop:=ss.length=os.length∧∀ (j:Nat) (s:Sg) (x:Int),ss[j]?=some s->os[j]?=some x->0<=x∧(∃ m,l[x.toNat]?=some m∧fits s m t=true)∧seen s 9 6=0
theorem ShF.nil {t:Int} {l:List Mk}:ShF t l [] []:=⟨rfl,fun j s x h=>by simp at h⟩
theorem ShF.snoc {t:Int} {l:List Mk} {ss:List Sg} {os:List Int} {s:Sg} {o:Nat} {m:Mk} (h:ShF t l ss os) (hm:l[o]?=some m) (hf:fits s m t=true) (hs:seen s 9 6=0):ShF t l (ss++[s]) (os++[(o:Int)]):=by
 refine⟨by simp[h.1],fun j s' x h1 h2=>?_⟩
 rcases Nat.lt_or_ge j ss.length with hj|hj
 ·rw[List.getElem?_append_left hj] at h1;rw[List.getElem?_append_left (by rw[<-h.1];exact hj)] at h2
  exact h.2 j s' x h1 h2
 ·rw[List.getElem?_append_right hj] at h1;rw[List.getElem?_append_right (by rw[<-h.1];exact hj)] at h2
  have a0:j-ss.length=0:=by
   rcases Nat.eq_zero_or_pos (j-ss.length) with h0|h0
   ·exact h0
   ·rw[List.getElem?_eq_none (by simp;omega)] at h1;cases h1
  rw[a0] at h1;rw[<-h.1,a0] at h2;cases h1;cases h2;exact⟨Int.natCast_nonneg o,⟨m,by simpa using hm,hf⟩,hs⟩
theorem ShF.perm {t:Int} {l:List Mk} {ss:List Sg} {os L:List Int} (h:ShF t l ss os) (hL:∀ x∈L,0<=x∧x<ss.length):ShF t l (L.map fun x=>ss.getD x.toNat ⟨0,false,false,0,0⟩) (L.map fun x=>os.getD x.toNat 0):=by
 refine⟨by simp,fun j s x h1 h2=>?_⟩
 rw[List.getElem?_map] at h1 h2;cases hj:L[j]? with
 | none=>rw[hj] at h1;cases h1
 | some y =>
   rw[hj] at h1 h2;have hy:=hL y (zB4 hj);have a0:y.toNat<ss.length:=by omega
   have e1:ss[y.toNat]?=some s:=by
    have:=Option.some.inj h1;rw[<-this];show _=some (ss.getD y.toNat _);rw[zB3,zB5 a0];rfl
   have a1:y.toNat<os.length:=by rw[<-h.1];exact a0
   have e2:os[y.toNat]?=some x:=by
    have:=Option.some.inj h2;rw[<-this];show _=some (os.getD y.toNat _);rw[zB3,zB5 a1];rfl
   exact h.2 _ _ _ e1 e2
theorem map_upI {α:Type} (os:List α) (z:α):(upI os.length).map (fun x=>os.getD x.toNat z)=os:=by
 unfold upI;rw[List.map_map];refine List.ext_getElem (by simp) fun i h1 h2=>?_
 simp[zB3,h2]
theorem k9s {L:List Int} {n:Nat} (h:L.Perm (upI n)):∀ x∈L,0<=x∧x<n:=fun x hx=>by
 have:=h.mem_iff.1 hx;unfold upI at this;obtain⟨i,hi,rfl⟩:=List.mem_map.1 this;have:=List.mem_range.1 hi;exact⟨Int.natCast_nonneg i,by simpa using this⟩
theorem ShF.seen {t:Int} {l:List Mk} {ss:List Sg} {os:List Int} (h:ShF t l ss os):∀ s∈ss,seen s 9 6=0:=fun s hs=>by
 obtain⟨j,hj⟩:=List.mem_iff_getElem?.1 hs;have a0:j<os.length:=by rw[<-h.1];exact(List.getElem?_eq_some_iff.1 hj).1
 exact(h.2 j s _ hj (zB5 a0)).2.2
structure ShwR (t:Int) (l:List Mk) (row:List Int) (out:List Sg):Prop where
 le:out.length<=7
 seen:∀ s∈out,seen s 9 6=0
 os:out.length<7->∃ os,ShF t l out os∧∀ o:Nat,cntI os (o:Int)=if o<l.length then (row.getD o 0).toNat else 0
theorem ShwR.mk' {t:Int} {l:List Mk} {row:List Int} {ss:List Sg} {L:List Int} (h:ShF t l ss (osL row l.length)) (hL:L.Perm (upI ss.length)) :
 ShwR t l row ((L.take 7).map fun x=>ss.getD x.toNat ⟨0,false,false,0,0⟩):=by
 have hm:=k9s hL;have hl:L.length=ss.length:=by rw[hL.length_eq,j9v]
 refine⟨by rw[List.length_map,List.length_take];omega,?_,fun h7=>?_⟩
 ·exact(h.perm (L:=L.take 7) fun x hx=>hm x (List.mem_of_mem_take hx)).seen
 ·have:L.take 7=L:=by
   refine zB8 ?_;rw[List.length_map,List.length_take] at h7;omega
  rw[this];refine⟨L.map fun x=>(osL row l.length).getD x.toNat 0,h.perm hm,fun o=>?_⟩
  rw[<-q2c row l.length o];have hp:=hL.map fun x=>(osL row l.length).getD x.toNat 0
  rw[h.1,map_upI] at hp;exact hp.countP_eq _
end Go.Proofs.YtmennjmjakdkcaaGreat
