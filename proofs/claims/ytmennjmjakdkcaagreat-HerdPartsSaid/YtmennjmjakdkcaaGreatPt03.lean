/- HerdParts. -/
import Derived.Test.YtmennjmjakdkcaaGreatPt01
import Derived.StillTail
import Derived.Deep.Quiet
set_option linter.unusedVariables false
set_option linter.unusedSimpArgs false
namespace Go.Proofs.YtmennjmjakdkcaaGreat
section
variable {P:Program} {ops:Array Oper} {md:Region.Mode} {C:World->Prop}
def j5n (P:Program) (md:Region.Mode) (ops:Array Oper) (C:World->Prop) (n:Nat) (L:Array Bool->Act->Prop):Nat->Array Bool->Act->Prop
 | 0,listed,a=>L listed a
 | f+1,listed,a =>
   Region.ready md ops listed≠[]∧∀ i∈Region.ready md ops listed,i<n∧qOp P ops C i (j5n P md ops C n L f (listed.setIfInBounds i true)) a
theorem j6q {n g:Nat} {L:Array Bool->Act->Prop} {Q':Exit->Act->World->Prop} (hL:∀ a0 a w,C w->L a0 a->wpAny P md ops Q' g a0 a w) :
 ∀ (f:Nat) (a0:Array Bool) (a:Act) (w:World),C w->j5n P md ops C n L f a0 a->wpAny P md ops Q' (f+g) a0 a w
 | 0,a0,a,w,hw,h=>by rw[Nat.zero_add];exact hL _ _ _ hw h
 | f+1,a0,a,w,hw,h=>by
   rw[show f+1+g=(f+g)+1 by omega]
   exact⟨fun h0=>absurd h0 h.1,fun i hi=>wpOp_of_qOp hw (fun a' w' hw' h'=>j6q hL f _ a' w' hw' h') (h.2 i hi).2⟩
theorem k8b {n i:Nat} {oi:Oper} {v:Value} {L:Array Bool->Act->Prop} (hi:ops[i]?=some oi) (a6:∀ (j:Nat) (o:Oper) cs b,ops[j]?=some o->o.op≠.select cs b)
 (hs:Region.sinkB md ops n=true) (hc:Region.chainB md ops n=true) (hn:n<ops.size) (hin:i<n)
 (a4:∀ a0 a,L a0 a->∀ j∈Region.ready md ops a0,n<=j) :
 ∀ (f:Nat) (a0:Array Bool) (a:Act),HeadInv md ops n a0 ->
  (∀ j oj,ops[j]?=some oj->j≠i->a0.getD j true=false->(∀ e∈oj.after,Region.binds md e=true->e.on≠i)->oi.apart ops oj=true) ->
  i∈Region.ready md ops a0->YieldsIn P ops C oi v a ->
  j5n P md ops C n L f (a0.setIfInBounds i true) (a.put oi.dst v)->j5n P md ops C n L (f+1) a0 a:=by
 intro f
 induction f with
 | zero =>
   intro a0 a inv _ hr hy H;have a3:=(mem_ready.1 hr).1;refine⟨fun h=>(by rw[h] at hr;cases hr),fun j hj=>?_⟩
   have a7:j<n:=by
    rcases Nat.lt_or_ge j n with h|h
    ·exact h
    ·exact absurd hj (tail_waits hs hc hn inv _ i rfl hin a3 j h)
   refine⟨a7,?_⟩;by_cases hji:j=i
   ·subst hji;exact hy.qOp hi H
   ·have:=a4 _ _ H j (ready_mono hj hji);omega
 | succ f ih =>
   intro a0 a inv a1 hr hy H;have a3:=(mem_ready.1 hr).1;refine⟨fun h=>(by rw[h] at hr;cases hr),fun j hj=>?_⟩
   have a7:j<n:=by
    rcases Nat.lt_or_ge j n with h|h
    ·exact h
    ·exact absurd hj (tail_waits hs hc hn inv _ i rfl hin a3 j h)
   refine⟨a7,?_⟩;by_cases hji:j=i
   ·subst hji;exact hy.qOp hi H
   ·have h1:=(H.2 j (ready_mono hj hji)).2;obtain⟨a5,oj,a8,hall⟩:=mem_ready.1 hj;have a9:∀ e∈oj.after,Region.binds md e=true->e.on≠i:=fun e he hb heq=>by
     have h1:=hall e he hb;rw[heq,getD_both a3] at h1;cases h1
    have h2:=qOp_put a8 (a1 j oj a8 hji a5 a9) (fun cs b=>a6 i oi cs b hi) (fun cs b=>a6 j oj cs b a8) hy h1
    have a2:∀ k ok,ops[k]?=some ok->k≠i->(a0.setIfInBounds j true).getD k true=false ->
     (∀ e∈ok.after,Region.binds md e=true->e.on≠i)->oi.apart ops ok=true:=fun k ok hk hki a3 hno=>by
     refine a1 k ok hk hki ?_ hno;by_cases hjk:j=k
     ·subst hjk;exact a5
     ·rw[getD_set_ne true hjk] at a3;exact a3
    refine qOp_mono (fun a' h3=>ih (a0.setIfInBounds j true) a' (inv.set hj a7) a2 (ready_mono hr (Ne.symm hji)) h3.1 ?_) h2
    rw[Array.setIfInBounds_comm _ _ hji];exact h3.2
theorem k3i {n g:Nat} {Lq:Act->Prop} (a1:Region.noSelect ops=true) (hs:Region.sinkB md ops n=true) (hc:Region.chainB md ops n=true) (hn:n<ops.size) :
 ∀ (l:List Oper) (k:Nat) (a0:Array Bool) (a:Act),(∀ j,j<l.length->l[j]?=ops[k+j]?)->k+l.length=n->HeadInv md ops n a0 ->
 Region.lexHead md ops g l.length k a0=true->wpQuiet P ops C Lq l a ->
 j5n P md ops C n (fun listed' a'=>Region.seqB md ops g n listed'=true∧Lq a') l.length a0 a
 | [],k,a0,a,_,hk,_,hB,h=>by
   have:k=n:=by simpa using hk
   subst this;exact⟨by simpa[Region.lexHead] using hB,h⟩
 | o::l,k,a0,a,hl,hk,inv,hB,h=>by
   have h0:ops[k]?=some o:=by simpa using (hl 0 (by simp)).symm
   simp only[List.length_cons,Region.lexHead,Bool.and_eq_true] at hB;obtain⟨⟨hr,hf⟩,a4⟩:=hB;have a3:k<n:=by simp only[List.length_cons] at hk;omega
   have a2:k∈Region.ready md ops a0:=by simpa using hr
   have a5:qOp P ops C k (wpQuiet P ops C Lq l) a:=by unfold qOp;simp only[h0];exact h
   obtain⟨v,hy,hK⟩:=yieldsIn_of_qOp h0 a5;exact k8b h0 (Region.noSelect_spec a1) hs hc hn a3 (fun listed' a' hL=>seqB_ready hL.1) l.length a0 a inv (Region.free_spec h0 hf) a2 hy
    (k3i a1 hs hc hn l (k+1) _ _ (fun j hj=>by have:=hl (j+1) (by simp;omega);simpa[Nat.add_assoc,Nat.add_comm 1 j] using this) (by simp only[List.length_cons] at hk;omega) (inv.set a2 a3) a4 hK)
theorem j1c {id:Nat} {Q:Exit->Act->World->Prop} {a:Act} {w:World} {l:List Oper} (n:Nat) (hm:P.follows .mixedOrders=true) (hB:Region.lexTailB .any l.toArray n=true)
 (hC:C { w with drawn:=w.drawn+1 })
 (h:wpQuiet P l.toArray C (fun a'=>∀ w',C w'->wpList P l.toArray Q (l.drop n) a' w') (l.take n) a):(Code.region id l.toArray true).wp P Q a w:=by
 simp only[Region.lexTailB,Bool.and_eq_true,decide_eq_true_eq] at hB;obtain⟨⟨⟨⟨a3,hn⟩,hs⟩,hc⟩,a2⟩:=hB;have a6:n<l.length:=by simpa using hn
 have a0:(l.take n).length=n:=by simp;omega
 have a4:(l.drop n).length=l.toArray.size-n:=by simp
 have a1:HeadInv .any l.toArray n (Array.replicate l.toArray.size false) :=
  ⟨by simp,fun j oj _ hl=>(by rw[getD_replicate_false] at hl;cases hl),fun t _ ht=>getD_in (by simpa using ht) (getD_replicate_false _ _)⟩
 have H:=k3i (C:=C) (md:=.any) (g:=l.toArray.size-n) a3 hs hc hn (l.take n) 0 _ a (fun j hj=>by
  have a5:j<n:=by rw[a0] at hj;exact hj
  simp[a5]) (by simpa using a0) a1 (by rw[a0];exact a2) h
 refine wp_region_any hm ?_;have:=j6q (Q':=Q) (g:=l.toArray.size-n) (fun listed a' w' hw' hL=>by
  have:=wpAny_of_seq (md:=.any) (Q':=Q) (l.drop n) n listed a' w' (fun j=>by simp[List.getElem?_drop]) (by rw[a4];exact hL.1) (hL.2 w' hw')
  rwa [a4] at this) _ _ _ { w with drawn:=w.drawn+1 } hC H
 rw[a0,show n+(l.toArray.size-n)=l.toArray.size by omega] at this
 exact this
theorem j3u {id:Nat} {Q:Exit->Act->World->Prop} {a:Act} {w:World} {l:List Oper} (n:Nat) (hm:P.follows .mixedOrders=true) (hB:Region.lexTailB .any l.toArray n=true)
 (h:wpQuiet P l.toArray (fun w'=>∃ p:Regrown,w'=Sort.grow (redrawn w p.d) p.os) (fun a'=>∀ w',(∃ p:Regrown,w'=Sort.grow (redrawn w p.d) p.os)->wpList P l.toArray Q (l.drop n) a' w') (l.take n) a):(Code.region id l.toArray true).wp P Q a w :=
 j1c (C:=fun w'=>∃ p:Regrown,w'=Sort.grow (redrawn w p.d) p.os) n hm hB ⟨⟨w.drawn+1,#[]⟩,by rw[Sort.grow_empty];rfl⟩ h
end
section
variable {P:Program} {ops:Array Oper} {md:Region.Mode} {C:World->Prop}
def k0e (md:Region.Mode) (ops:Array Oper) (n:Nat):Bool :=
 (List.range ops.size).all fun t=>decide (t<=n) || (List.range t).any fun j=>decide (n<=j)&&Region.waitsFor md ops t j
theorem k3f {n:Nat} {a0:Array Bool} (hs:Region.sinkB md ops n=true) (hc:k0e md ops n=true) (hn:n<ops.size) (inv:HeadInv md ops n a0) :
 ∀ (d i:Nat),n-i=d->i<n->a0.getD i true=false->∀ t,n<=t->t∉Region.ready md ops a0:=by
 intro d
 induction d using Nat.strongRecOn with
 | _ d ih =>
   intro i hd hi a6 t ht hr;obtain⟨_,ot,a4,hall⟩:=mem_ready.1 hr;have a3:t<ops.size:=(Array.getElem?_eq_some_iff.1 a4).1;by_cases htn:t=n
   ·subst htn;have h1:=List.all_eq_true.1 hs i (List.mem_range.2 hi);obtain⟨j,hj,a1⟩:=List.any_eq_true.1 h1;simp only[Bool.and_eq_true,decide_eq_true_eq] at a1;obtain⟨oj,a7,e,he,hb,a2⟩:=Region.waitsFor_spec a1.2;have a8:j<=t:=by have:=List.mem_range.1 hj;omega
    by_cases a5:j=t
    ·subst a5;have:oj=ot:=Option.some.inj (a7.symm.trans a4);subst this;have h2:=hall e he hb;rw[a2,getD_both a6] at h2;cases h2
    ·cases hl:a0.getD j false with
     | true =>
       have h2:=inv.closed j oj a7 hl e he hb;rw[a2,getD_both a6] at h2;cases h2
     | false =>
       have aa:j<a0.size:=by rw[inv.size];omega
       exact ih (t-j) (by omega) j rfl (by omega) (getD_in aa hl) t (zL9 _) hr
   ·have h1:=List.all_eq_true.1 hc t (List.mem_range.2 a3);simp only[Bool.or_eq_true,decide_eq_true_eq] at h1;rcases h1 with h1|h1
    ·omega
    ·obtain⟨j,hj,a1⟩:=List.any_eq_true.1 h1;simp only[Bool.and_eq_true,decide_eq_true_eq] at a1;have a5:=List.mem_range.1 hj;obtain⟨o',a9,e,he,hb,a2⟩:=Region.waitsFor_spec a1.2;have:o'=ot:=Option.some.inj (a9.symm.trans a4);subst this;have h2:=hall e he hb;rw[a2,getD_both (inv.tail j a1.1 (by omega))] at h2
     cases h2
theorem q0r {n i:Nat} {oi:Oper} {v:Value} {L:Array Bool->Act->Prop} (hi:ops[i]?=some oi) (a6:∀ (j:Nat) (o:Oper) cs b,ops[j]?=some o->o.op≠.select cs b)
 (hs:Region.sinkB md ops n=true) (hc:k0e md ops n=true) (hn:n<ops.size) (hin:i<n)
 (a4:∀ a0 a,L a0 a->∀ j∈Region.ready md ops a0,n<=j) :
 ∀ (f:Nat) (a0:Array Bool) (a:Act),HeadInv md ops n a0 ->
  (∀ j oj,ops[j]?=some oj->j≠i->a0.getD j true=false->(∀ e∈oj.after,Region.binds md e=true->e.on≠i)->oi.apart ops oj=true) ->
  i∈Region.ready md ops a0->YieldsIn P ops C oi v a ->
  j5n P md ops C n L f (a0.setIfInBounds i true) (a.put oi.dst v)->j5n P md ops C n L (f+1) a0 a:=by
 intro f
 induction f with
 | zero =>
   intro a0 a inv _ hr hy H;have a3:=(mem_ready.1 hr).1;refine⟨fun h=>(by rw[h] at hr;cases hr),fun j hj=>?_⟩
   have a7:j<n:=by
    rcases Nat.lt_or_ge j n with h|h
    ·exact h
    ·exact absurd hj (k3f hs hc hn inv _ i rfl hin a3 j h)
   refine⟨a7,?_⟩;by_cases hji:j=i
   ·subst hji;exact hy.qOp hi H
   ·have:=a4 _ _ H j (ready_mono hj hji);omega
 | succ f ih =>
   intro a0 a inv a1 hr hy H;have a3:=(mem_ready.1 hr).1;refine⟨fun h=>(by rw[h] at hr;cases hr),fun j hj=>?_⟩
   have a7:j<n:=by
    rcases Nat.lt_or_ge j n with h|h
    ·exact h
    ·exact absurd hj (k3f hs hc hn inv _ i rfl hin a3 j h)
   refine⟨a7,?_⟩;by_cases hji:j=i
   ·subst hji;exact hy.qOp hi H
   ·have h1:=(H.2 j (ready_mono hj hji)).2;obtain⟨a5,oj,a8,hall⟩:=mem_ready.1 hj;have a9:∀ e∈oj.after,Region.binds md e=true->e.on≠i:=fun e he hb heq=>by
     have h1:=hall e he hb;rw[heq,getD_both a3] at h1;cases h1
    have h2:=qOp_put a8 (a1 j oj a8 hji a5 a9) (fun cs b=>a6 i oi cs b hi) (fun cs b=>a6 j oj cs b a8) hy h1
    have a2:∀ k ok,ops[k]?=some ok->k≠i->(a0.setIfInBounds j true).getD k true=false ->
     (∀ e∈ok.after,Region.binds md e=true->e.on≠i)->oi.apart ops ok=true:=fun k ok hk hki a3 hno=>by
     refine a1 k ok hk hki ?_ hno;by_cases hjk:j=k
     ·subst hjk;exact a5
     ·rw[getD_set_ne true hjk] at a3;exact a3
    refine qOp_mono (fun a' h3=>ih (a0.setIfInBounds j true) a' (inv.set hj a7) a2 (ready_mono hr (Ne.symm hji)) h3.1 ?_) h2
    rw[Array.setIfInBounds_comm _ _ hji];exact h3.2
def endB (md:Region.Mode) (ops:Array Oper) (g k:Nat) (listed:Array Bool):Bool :=
 decide (Region.ready md ops listed=[k])&&Region.lexFrom md ops g (k+1) (listed.setIfInBounds k true)
def k4m (md:Region.Mode) (ops:Array Oper) (g:Nat):Nat->Nat->Array Bool->Bool
 | 0,k,listed=>endB md ops g k listed
 | f+1,k,listed=>(Region.ready md ops listed).contains k&&Region.free md ops listed k&&k4m md ops g f (k+1) (listed.setIfInBounds k true)
def callB (md:Region.Mode) (ops:Array Oper) (n:Nat):Bool :=
 Region.noSelect ops&&decide (n<ops.size)&&Region.sinkB md ops n&&k0e md ops n&&k4m md ops (ops.size-(n+1)) n 0 (Array.replicate ops.size false)
theorem q2v {g k:Nat} {a0:Array Bool} (h:endB md ops g k a0=true):∀ j∈Region.ready md ops a0,k<=j:=by
 intro j hj;simp only[endB,Bool.and_eq_true,decide_eq_true_eq] at h;rw[h.1] at hj;have:j=k:=by simpa using hj
 omega
theorem k6g {n g:Nat} {Lq:Act->Prop} (a1:Region.noSelect ops=true) (hs:Region.sinkB md ops n=true) (hc:k0e md ops n=true) (hn:n<ops.size) :
 ∀ (l:List Oper) (k:Nat) (a0:Array Bool) (a:Act),(∀ j,j<l.length->l[j]?=ops[k+j]?)->k+l.length=n->HeadInv md ops n a0 ->
 k4m md ops g l.length k a0=true->wpQuiet P ops C Lq l a ->
 j5n P md ops C n (fun listed' a'=>endB md ops g n listed'=true∧Lq a') l.length a0 a
 | [],k,a0,a,_,hk,_,hB,h=>by
   have:k=n:=by simpa using hk
   subst this;exact⟨by simpa[k4m] using hB,h⟩
 | o::l,k,a0,a,hl,hk,inv,hB,h=>by
   have h0:ops[k]?=some o:=by simpa using (hl 0 (by simp)).symm
   simp only[List.length_cons,k4m,Bool.and_eq_true] at hB;obtain⟨⟨hr,hf⟩,a4⟩:=hB;have a3:k<n:=by simp only[List.length_cons] at hk;omega
   have a2:k∈Region.ready md ops a0:=by simpa using hr
   have a5:qOp P ops C k (wpQuiet P ops C Lq l) a:=by unfold qOp;simp only[h0];exact h
   obtain⟨v,hy,hK⟩:=yieldsIn_of_qOp h0 a5;exact q0r h0 (Region.noSelect_spec a1) hs hc hn a3 (fun listed' a' hL=>q2v hL.1) l.length a0 a inv (Region.free_spec h0 hf) a2 hy
    (k6g a1 hs hc hn l (k+1) _ _ (fun j hj=>by have:=hl (j+1) (by simp;omega);simpa[Nat.add_assoc,Nat.add_comm 1 j] using this) (by simp only[List.length_cons] at hk;omega) (inv.set a2 a3) a4 hK)
def Mid (Q:Exit->Act->World->Prop) (K:Act->World->Prop) (x:Exit) (a:Act) (w:World):Prop:=(x=.normal∧K a w)∨(x≠.normal∧Q x a w)
theorem wp_mid {o:Oper} {a:Act} {w:World} {K K':Act->World->Prop} {Q:Exit->Act->World->Prop} (h:∀ a w,K a w->K' a w) (hh:o.wp P a w K (Mid Q K')):o.wp P a w K' Q:=by
 have hx:∀ x a w,x≠.normal->Mid Q K' x a w->Q x a w:=fun x a w hne hm=>by
  rcases hm with ⟨e,_⟩|⟨_,q⟩
  ·exact absurd e hne
  ·exact q
 unfold Oper.wp at *
 generalize (execOp a.eval o).run P w=r at *
 cases r with
 | ok n w' =>
   cases n<;>simp only[Oper.upon] at hh ⊢ <;>
    first
     | exact h _ _ hh
     | exact Calls.mono hh (fun e w'' he=>by
        cases e with
        | returned v=>exact h _ _ he
        | panicked c=>exact hx _ _ _ (by intro e;cases e) he
        | outgrown=>obtain⟨a',w3,h3⟩:=he;exact⟨a',w3,hx _ _ _ (by intro e;cases e) h3⟩)
     | exact Rows.mono hh (fun _ _ he=>h _ _ he)
 | halt x w' =>
   cases x<;>simp only[Oper.upon] at hh ⊢<;>first|exact hh|exact hx _ _ _ (by intro e;cases e) hh
theorem j6c {id:Nat} {Q:Exit->Act->World->Prop} {a:Act} {w:World} {l:List Oper} (n:Nat) (hm:P.follows .mixedOrders=true) (hB:callB .any l.toArray n=true)
 (hC:C { w with drawn:=w.drawn+1 })
 (h:wpQuiet P l.toArray C (fun a'=>∀ w',C w'->∀ Q2:Exit->Act->World->Prop,
   (∀ a2 w2,wpQuiet P l.toArray (fun x=>x=w2) (fun a3=>Q .normal a3 w2) (l.drop (n+1)) a2->Q2 .normal a2 w2)->wpList P l.toArray Q2 ((l.drop n).take 1) a' w') (l.take n) a):(Code.region id l.toArray true).wp P Q a w:=by
 simp only[callB,Bool.and_eq_true,decide_eq_true_eq] at hB;obtain⟨⟨⟨⟨a0,hn⟩,hs⟩,hc⟩,a6⟩:=hB;have a5:n<l.length:=by simpa using hn
 have a1:(l.take n).length=n:=by simp;omega
 have a4:HeadInv .any l.toArray n (Array.replicate l.toArray.size false) :=
  ⟨by simp,fun j oj _ hl=>(by rw[getD_replicate_false] at hl;cases hl),fun t _ ht=>getD_in (by simpa using ht) (getD_replicate_false _ _)⟩
 have H:=k6g (C:=C) (md:=.any) (g:=l.toArray.size-(n+1)) a0 hs hc hn (l.take n) 0 _ a (fun j hj=>by
  have aa:j<n:=by rw[a1] at hj;exact hj
  simp[aa]) (by simpa using a1) a4 (by rw[a1];exact a6) h
 refine wp_region_any hm ?_;have a7:(l.drop (n+1)).length=l.toArray.size-(n+1):=by simp
 have:=j6q (Q':=Q) (g:=(l.toArray.size-(n+1))+1) (fun listed a' w' hw' hL=>by
  obtain⟨hE,hL⟩:=hL;simp only[endB,Bool.and_eq_true,decide_eq_true_eq] at hE;obtain⟨hr,hx⟩:=hE;obtain⟨K,hK⟩:∃ K:Act->World->Prop,K=fun a2 w2=>wpQuiet P l.toArray (fun x=>x=w2) (fun a3=>Q .normal a3 w2) (l.drop (n+1)) a2:=⟨_,rfl⟩
  have h1:=hL w' hw' (Mid Q K) (fun a2 w2 h2=>.inl ⟨rfl,by rw[hK];exact h2⟩)
  refine⟨fun h0=>(by rw[hr] at h0;cases h0),fun i hi=>?_⟩
  rw[hr] at hi;have hin:i=n:=by simpa using hi
  subst hin;obtain⟨o,ho⟩:∃ o,l[i]?=some o:=⟨_,zB5 a5⟩;have hd:(l.drop i).take 1=[o]:=by
   rw[List.drop_eq_getElem_cons a5,List.take_succ_cons,List.take_zero];rw[zB5 a5] at ho;cases ho;rfl
  rw[hd] at h1;have a8:wpOp P l.toArray Q i K a' w':=by
   unfold wpOp;have ac:l.toArray[i]?=some o:=by simpa using ho
   simp only[ac];unfold wpList at h1
   split
   ·rename_i hw;rw[if_pos hw] at h1;rcases h1 with h1|⟨h1,a9,w9,h9⟩
    ·refine .inl (wp_mid (K:=wpList P l.toArray (Mid Q K) []) (fun a w h=>?_) h1)
     rcases h with ⟨_,h⟩|⟨h,_⟩
     ·exact h
     ·exact absurd rfl h
    ·refine .inr ⟨h1,a9,w9,?_⟩;rcases h9 with ⟨h,_⟩|⟨_,h⟩
     ·cases h
     ·exact h
   ·rename_i hw;rw[if_neg hw] at h1;rcases h1 with ⟨_,h⟩|⟨h,_⟩
    ·exact h
    ·exact absurd rfl h
  refine wpOp_mono (fun a2 w2 h2=>?_) a8
  rw[hK] at h2;refine wpAny_of_quiet (C:=fun x=>x=w2) (Q:=fun a3=>Q .normal a3 w2) (fun a3 w3 e h3=>by subst e;exact h3) _ _ _ _ rfl ?_
  have:=wpAnyQ_lex (C:=fun x=>x=w2) (md:=.any) a0 (l.drop (i+1)) (i+1) (listed.setIfInBounds i true) a2 (fun j=>by simp[List.getElem?_drop]) (by rw[a7];exact hx) h2
  rwa [a7] at this) _ _ _ { w with drawn:=w.drawn+1 } hC H
 rw[a1,show n+((l.toArray.size-(n+1))+1)=l.toArray.size by omega] at this
 exact this
end
section
variable {P:Program} {ops:Array Oper} {T:Nat->World->World->Prop} {w0:World}
def j0r:List Tmp->(Nat->Value)->Act->Act
 | [],_,a=>a
 | d::ds,ys,a=>j0r ds ys (a.put (some d) (ys d))
def j0p (l:List Oper):List Tmp:=l.filterMap (·.dst)
def Does (P:Program) (ops:Array Oper) (o:Oper) (a:Act) (w:World) (R:Value->World->Prop):Prop :=
 ∀ Q2:Exit->Act->World->Prop,(∀ a2 w2,(∃ v,a2=a.put o.dst v∧R v w2)->Q2 .normal a2 w2)->wpList P ops Q2 [o] a w
abbrev VF:=Value->World->Prop
abbrev DF:=Option Tmp × VF
def DF.holds (f:DF) (ys:Nat->Value) (w:World):Prop:=match f.1 with|some d=>f.2 (ys d) w|none=>∃ v,f.2 v w
def j7v (acc:List DF) (ys:Nat->Value) (j:Nat) (w:World):Prop:=∀ f,acc[j]?=some f->f.holds ys w
def j0f (acc:List DF) (ys:Nat->Value) (w:World):List Edge->Prop
 | []=>True
 | e::l=>(if Region.binds .any e then (match acc[e.on]? with|some f=>f.holds ys w|none=>True) else True)∧j0f acc ys w l
def j0d (acc:List DF) (ys:Nat->Value) (o:Oper) (w:World):Prop:=j0f acc ys w o.after.toList
theorem k1j {a0:List DF} {ys:Nat->Value} {w:World}:∀ {l:List Edge},(∀ e∈l,Region.binds .any e=true->j7v a0 ys e.on w)->j0f a0 ys w l
 | [],_=>trivial
 | e::l,h=>by
   refine⟨?_,k1j fun e' he'=>h e' (List.mem_cons_of_mem _ he')⟩
   split
   ·rename_i hb
    split
    ·rename_i f hf;exact h e (List.mem_cons_self ..) hb f hf
    ·trivial
   ·trivial
def refA (acc:List DF) (o:Oper) (d:Tmp):Bool:=o.after.toList.any fun e=>Region.binds .any e&&(match acc[e.on]? with|some f=>f.1==some d|none=>false)
theorem q5u {a0:List DF} {o:Oper} {d:Tmp} (h:refA a0 o d=true):∃ e∈o.after,Region.binds .any e=true∧∃ f,a0[e.on]?=some f∧f.1=some d:=by
 obtain⟨e,he,h2⟩:=List.any_eq_true.1 h;simp only[Bool.and_eq_true] at h2;refine⟨e,by rw[Array.mem_toList_iff] at he;exact he,h2.1,?_⟩
 have h3:=h2.2
 split at h3
 ·rename_i f hf;exact⟨f,hf,by simpa using h3⟩
 ·cases h3
def LexI (P:Program) (ops:Array Oper) (N:Nat) (T:Nat->World->World->Prop) (w0:World) (B:(Nat->Value)->Act) (K:List DF->Prop):List DF->List Oper->Prop
 | acc,[]=>K acc
 | acc,o::l=>∃ F:VF,(∀ n v w w',T n w w'->F v w->F v w') ∧
    (((∀ n ys w,n<N->T n w0 w->j0d acc ys o w->Does P ops o (B ys) w (fun v w'=>T 1 w w'∧F v w')) ∧
    LexI P ops N T w0 B K (acc++[(o.dst,F)]) l) ∨
    ∃ d,o.dst=none∧refA acc o d=true∧(∀ n ys w,n<N->T n w0 w->j0d acc ys o w->Does P ops o (B ys) w (fun v w'=>T 1 w w'∧F (ys d) w')) ∧
    LexI P ops N T w0 B K (acc++[(some d,F)]) l)
def invB (ops:Array Oper) (n:Nat):Bool :=
 (j0p ops.toList).all (fun d=>decide (d<n)) &&
 (List.range ops.size).all fun i=>match ops[i]? with
   | some o=>o.after.toList.all (fun e=>!Region.binds .any e || decide (e.on<i))&&(List.range i).all fun j=>match ops[j]? with
     | some o'=>match o.dst,o'.dst with|some d,some d'=>d != d'|_,_=>true
     | none=>true
   | none=>true
theorem k6w {n:Nat} (h:invB ops n=true) :
 (∀ (i:Nat) (o:Oper) (d:Nat),ops[i]?=some o->o.dst=some d->d<n)∧(∀ (i:Nat) (o:Oper),ops[i]?=some o->∀ e∈o.after,Region.binds .any e=true->e.on<i) ∧
 (∀ (i j:Nat) (o o':Oper) (d:Nat),ops[i]?=some o->ops[j]?=some o'->i≠j->o.dst=some d->o'.dst≠some d):=by
 simp only[invB,Bool.and_eq_true] at h;obtain⟨h1,h2⟩:=h;have h3:∀ (i:Nat) (o:Oper),ops[i]?=some o->(o.after.toList.all (fun e=>!Region.binds .any e || decide (e.on<i))=true∧∀ (j:Nat) (o':Oper),j<i->ops[j]?=some o'->∀ d,o.dst=some d->o'.dst≠some d):=by
  intro i o ho;have hi:i<ops.size:=(Array.getElem?_eq_some_iff.1 ho).1;have:=List.all_eq_true.1 h2 i (List.mem_range.2 hi);simp only[ho,Bool.and_eq_true] at this;refine⟨this.1,fun j o' hj ho' d hd hd'=>?_⟩
  have h4:=List.all_eq_true.1 this.2 j (List.mem_range.2 hj);simp only[ho',hd,hd',bne_self_eq_false] at h4;cases h4
 refine⟨fun i o d ho hd=>?_,fun i o ho e he hb=>?_,fun i j o o' d ho ho' hij hd hd'=>?_⟩
 ·have:=List.all_eq_true.1 h1 d (List.mem_filterMap.2 ⟨o,by rw[Array.mem_toList_iff];exact Array.mem_of_getElem? ho,hd⟩)
  simpa using this
 ·have:=List.all_eq_true.1 (h3 i o ho).1 e (by rw[Array.mem_toList_iff];exact he)
  simpa[hb] using this
 ·rcases Nat.lt_or_gt_of_ne hij with h|h
  ·exact(h3 j o' ho').2 i o h ho d hd' hd
  ·exact(h3 i o ho).2 j o' h ho' d hd hd'
theorem j7a:∀ (ds:List Tmp) (ys:Nat->Value) (a:Act),(j0r ds ys a).defers=a.defers
 | [],_,_=>rfl
 | d::ds,ys,a=>j7a ds ys _
theorem j9j:∀ (ds:List Tmp) (ys:Nat->Value) (a:Act),(j0r ds ys a).tmps.size=a.tmps.size
 | [],_,_=>rfl
 | d::ds,ys,a=>(j9j ds ys _).trans (by simp[Act.put])
theorem k0x:∀ (ds:List Tmp) (ys:Nat->Value) (a:Act) (t:Nat),t<a.tmps.size->(j0r ds ys a).tmps[t]?=if t∈ds then some (ys t) else a.tmps[t]?
 | [],_,_,_,_=>by simp[j0r]
 | d::ds,ys,a,t,ht=>by
   unfold j0r;rw[k0x ds ys _ t (by simpa[Act.put] using ht)]
   by_cases h:t∈ds
   ·simp[h]
   ·by_cases hd:d=t
    ·subst hd;simp[h,Act.put,ht]
    ·have:t≠d:=fun e=>hd e.symm
     simp[h,this,Act.put,Array.getElem?_setIfInBounds_ne hd]
structure WayI (ops:Array Oper) (T:Nat->World->World->Prop) (w0:World) (a0:Act) (Fs:List DF) (listed:Array Bool) (a:Act) (w:World):Prop where
 t:∃ n,n+(List.range ops.size).countP (fun i=>!listed.getD i true)<=ops.size∧T n w0 w
 size:listed.size=ops.size
 defers:a.defers=a0.defers
 len:a.tmps.size=a0.tmps.size
 far:∀ t,t∉j0p ops.toList->a.tmps[t]?=a0.tmps[t]?
 facts:∀ j,listed.getD j false=true->j7v Fs (fun t=>a.tmps.getD t undef) j w
 whose:∀ j,listed.getD j false=true->∀ f d,Fs[j]?=some f->f.1=some d->∃ (j':Nat) (o':Oper),listed.getD j' false=true∧ops[j']?=some o'∧o'.dst=some d
theorem WayI.act {a0:Act} {Fs:List DF} {a1:Array Bool} {a:Act} {w:World} (h:WayI ops T w0 a0 Fs a1 a w) :
 j0r (j0p ops.toList) (fun t=>a.tmps.getD t undef) a0=a:=by
 have h1:=j7a (j0p ops.toList) (fun t=>a.tmps.getD t undef) a0
 have h2:(j0r (j0p ops.toList) (fun t=>a.tmps.getD t undef) a0).tmps=a.tmps:=by
  apply Array.ext_getElem?;intro t;rcases Nat.lt_or_ge t a0.tmps.size with ht|ht
  ·rw[k0x _ _ _ _ ht];have a2:t<a.tmps.size:=by rw[h.len];exact ht
   split
   ·simp[a2]
   ·rename_i hn;rw[h.far t hn]
  ·rw[Array.getElem?_eq_none (by rw[j9j];exact ht),Array.getElem?_eq_none (by rw[h.len];exact ht)]
 generalize j0r (j0p ops.toList) (fun t=>a.tmps.getD t undef) a0=b at *
 cases b;cases a;have h3:=h.defers;dsimp only at h1 h2 h3;rw[h1,h2,h3]
theorem k4p {N:Nat} {B:(Nat->Value)->Act} {K:List DF->Prop}:∀ (l:List Oper) (a0:List DF),LexI P ops N T w0 B K a0 l->(∀ j,j<l.length->l[j]?=ops[a0.length+j]?)->a0.length+l.length=ops.size ->
 ∃ Fs:List DF,K Fs∧(∃ r,Fs=a0++r)∧Fs.length=ops.size∧∀ i o,a0.length<=i->ops[i]?=some o->∃ r F,Fs[i]?=some (r,F)∧(∀ n v w w',T n w w'->F v w->F v w') ∧
  ((r=o.dst∧∀ n ys w,n<N->T n w0 w->j0d (Fs.take i) ys o w->Does P ops o (B ys) w (fun v w'=>T 1 w w'∧F v w')) ∨
   (o.dst=none∧∃ d,r=some d∧refA (Fs.take i) o d=true∧∀ n ys w,n<N->T n w0 w->j0d (Fs.take i) ys o w->Does P ops o (B ys) w (fun v w'=>T 1 w w'∧F (ys d) w')))
 | [],a0,h,hl,hs=>⟨a0,h,⟨[],by simp⟩,by simpa using hs,fun i o hi ho=>by
    have:=(Array.getElem?_eq_some_iff.1 ho).1;simp at hs;omega⟩
 | o::l,a0,⟨F,hF,hD⟩,hl,hs=>by
   have key:∀ r,LexI P ops N T w0 B K (a0++[(r,F)]) l->(∀ Fs:List DF,(∃ r',Fs=(a0++[(r,F)])++r') ->
    ((r=o.dst∧∀ n ys w,n<N->T n w0 w->j0d (Fs.take a0.length) ys o w->Does P ops o (B ys) w (fun v w'=>T 1 w w'∧F v w')) ∨
    (o.dst=none∧∃ d,r=some d∧refA (Fs.take a0.length) o d=true∧∀ n ys w,n<N->T n w0 w->j0d (Fs.take a0.length) ys o w->Does P ops o (B ys) w (fun v w'=>T 1 w w'∧F (ys d) w')))) ->
     ∃ Fs:List DF,K Fs∧(∃ r,Fs=a0++r)∧Fs.length=ops.size∧∀ i o,a0.length<=i->ops[i]?=some o->∃ r F,Fs[i]?=some (r,F)∧(∀ n v w w',T n w w'->F v w->F v w') ∧
    ((r=o.dst∧∀ n ys w,n<N->T n w0 w->j0d (Fs.take i) ys o w->Does P ops o (B ys) w (fun v w'=>T 1 w w'∧F v w')) ∨
     (o.dst=none∧∃ d,r=some d∧refA (Fs.take i) o d=true∧∀ n ys w,n<N->T n w0 w->j0d (Fs.take i) ys o w->Does P ops o (B ys) w (fun v w'=>T 1 w w'∧F (ys d) w'))):=by
    intro r hr a5;obtain⟨Fs,hK,⟨r',a2⟩,a4,hall⟩:=k4p l (a0++[(r,F)]) hr (fun j hj=>by
     have:=hl (j+1) (by simp;omega)
     simpa[Nat.add_assoc,Nat.add_comm 1 j] using this) (by simp at hs ⊢;omega)
    refine⟨Fs,hK,⟨(r,F)::r',by rw[a2];simp⟩,a4,fun i o' hi ho'=>?_⟩
    rcases Nat.lt_or_ge i (a0++[(r,F)]).length with h|h
    ·have a6:i=a0.length:=by simp at h;omega
     subst a6;have ho:o=o':=by
      have:=hl 0 (by simp)
      simp at this;rw[ho'] at this;exact Option.some.inj this
     subst ho;exact⟨r,F,by rw[a2];simp,hF,a5 Fs ⟨r',a2⟩⟩
    ·exact hall i o' h ho'
   have a3:∀ r (Fs:List DF),(∃ r',Fs=(a0++[(r,F)])++r')->Fs.take a0.length=a0:=fun r Fs ⟨r',h⟩=>by rw[h];simp
   rcases hD with ⟨hD,hr⟩|⟨d,hn,a1,hD,hr⟩
   ·exact key o.dst hr fun Fs h=>.inl ⟨rfl,by rw[a3 _ _ h];exact hD⟩
   ·exact key (some d) hr fun Fs h=>.inr ⟨hn,d,rfl,by rw[a3 _ _ h];exact a1,by rw[a3 _ _ h];exact hD⟩
theorem j8q {p q:Nat->Bool} {i:Nat}:∀ {l:List Nat},i∈l->(∀ j,p j=true->q j=true)->q i=true->p i=false->l.countP p<l.countP q
 | x::l,hi,hpq,hq,hp=>by
   have a1:l.countP p<=l.countP q:=List.countP_mono_left fun j _=>hpq j
   rw[List.countP_cons,List.countP_cons];by_cases hx:x=i
   ·subst hx;rw[hq,hp];simp;omega
   ·have a0:i∈l:=by
     rcases List.mem_cons.1 hi with h|h
     ·exact absurd h.symm hx
     ·exact h
    have:=j8q a0 hpq hq hp;have h3:(if p x=true then 1 else 0)<=(if q x=true then 1 else 0):=by
     by_cases h:p x=true
     ·simp[h,hpq x h]
     ·simp[h]
    omega
theorem k1k {i:Nat} {o:Oper} {a:Act} {w:World} {R:VF} {K:Act->World->Prop} {Q:Exit->Act->World->Prop} (ho:ops[i]?=some o) (h:Does P ops o a w R)
 (hK:∀ v w',R v w'->K (a.put o.dst v) w'):wpOp P ops Q i K a w:=by
 have h1:=h (Mid Q K) (fun a2 w2 ⟨v,e,hr⟩=>.inl ⟨rfl,by rw[e];exact hK v w2 hr⟩)
 unfold wpOp;simp only[ho];unfold wpList at h1
 split
 ·rename_i hw;rw[if_pos hw] at h1;rcases h1 with h1|⟨h1,a9,w9,h9⟩
  ·refine .inl (wp_mid (K:=wpList P ops (Mid Q K) []) (fun a w h=>?_) h1)
   rcases h with ⟨_,h⟩|⟨h,_⟩
   ·exact h
   ·exact absurd rfl h
  ·refine .inr ⟨h1,a9,w9,?_⟩;rcases h9 with ⟨h,_⟩|⟨_,h⟩
   ·cases h
   ·exact h
 ·rename_i hw;rw[if_neg hw] at h1;rcases h1 with ⟨_,h⟩|⟨h,_⟩
  ·exact h
  ·exact absurd rfl h
theorem wayI_any {Fs:List DF} {a0:Act} {Q:Exit->Act->World->Prop} (ak:invB ops a0.tmps.size=true) (ax:∀ n a b c,T n a b->T 1 b c->T (n+1) a c)
 (ao:∀ i o,ops[i]?=some o->∃ r F,Fs[i]?=some (r,F)∧(∀ n v w w',T n w w'->F v w->F v w') ∧
   ((r=o.dst∧∀ n ys w,n<ops.size->T n w0 w->j0d (Fs.take i) ys o w->Does P ops o (j0r (j0p ops.toList) ys a0) w (fun v w'=>T 1 w w'∧F v w')) ∨
    (o.dst=none∧∃ d,r=some d∧refA (Fs.take i) o d=true∧∀ n ys w,n<ops.size->T n w0 w->j0d (Fs.take i) ys o w->Does P ops o (j0r (j0p ops.toList) ys a0) w (fun v w'=>T 1 w w'∧F (ys d) w'))))
 (ah:∀ n ys w,n<=ops.size->T n w0 w->(∀ j,j<ops.size->j7v Fs ys j w)->Q .normal (j0r (j0p ops.toList) ys a0) w) :
 ∀ (f:Nat) (a1:Array Bool) (a:Act) (w:World),WayI ops T w0 a0 Fs a1 a w->(List.range ops.size).countP (fun i=>!a1.getD i true)<=f->wpAny P .any ops Q f a1 a w:=by
 obtain⟨aB,am,aw⟩:=k6w ak;have a9:∀ (a1:Array Bool) (a:Act) (w:World),WayI ops T w0 a0 Fs a1 a w->Region.ready .any ops a1=[]->Q .normal a w:=by
  intro a1 a w inv hr;have hall:∀ i,i<ops.size->a1.getD i true=true:=by
   intro i
   induction i using Nat.strongRecOn with
   | _ i ih =>
     intro hi;cases hl:a1.getD i true with
     | true=>rfl
     | false =>
       have ho:=Array.getElem?_eq_getElem hi;have:i∈Region.ready .any ops a1:=mem_ready.2 ⟨hl,_,ho,fun e he hbe=>by
        have h1:=am i _ ho e he hbe;have h2:=ih e.on h1 (by omega)
        have h3:e.on<a1.size:=by rw[inv.size];omega
        simp[h3] at h2 ⊢;exact h2⟩
       rw[hr] at this;cases this
  obtain⟨m,hm,ae⟩:=inv.t;have:=ah m (fun t=>a.tmps.getD t undef) w (by omega) ae (fun j hj=>inv.facts j (by
   have h2:=hall j hj;have h3:j<a1.size:=by rw[inv.size];exact hj
   simp[h3] at h2 ⊢;exact h2))
  rwa [inv.act] at this
 have ad:∀ (a1:Array Bool) (a:Act) (w:World),WayI ops T w0 a0 Fs a1 a w->∀ i∈Region.ready .any ops a1,∀ K:Act->World->Prop,
  (∀ a' w',WayI ops T w0 a0 Fs (a1.setIfInBounds i true) a' w'->K a' w')->wpOp P ops Q i K a w:=by
  intro a1 a w inv i hi K hK;obtain⟨a3,o,ho,hall⟩:=mem_ready.1 hi;obtain⟨r,F,hF,aC,hD⟩:=ao i o ho;have a4:i<ops.size:=(Array.getElem?_eq_some_iff.1 ho).1;have av:=j8q (p:=fun j=>!(a1.setIfInBounds i true).getD j true) (q:=fun j=>!a1.getD j true) (i:=i) (List.mem_range.2 a4) (fun j hj=>by
   by_cases hij:i=j
   ·subst hij;rw[a3];rfl
   ·rw[getD_set_ne true hij] at hj;exact hj) (by rw[a3];rfl) (by
    have:i<a1.size:=by rw[inv.size];exact a4
    simp[this])
  obtain⟨m,hm,ae⟩:=inv.t;have a6:j0d (Fs.take i) (fun t=>a.tmps.getD t undef) o w:=k1j fun e he hb f hf=>by
   have h1:=hall e (by rw[Array.mem_toList_iff] at he;exact he) hb
   have h2:=am i o ho e (by rw[Array.mem_toList_iff] at he;exact he) hb
   rw[List.getElem?_take_of_lt h2] at hf;exact inv.facts e.on h1 f hf
  have aj:∀ d,o.dst=some d->d∈j0p ops.toList:=fun d a2=>List.mem_filterMap.2 ⟨o,by rw[Array.mem_toList_iff];exact Array.mem_of_getElem? ho,a2⟩
  have ac:(a1.setIfInBounds i true).getD i false=true:=by
   have:i<a1.size:=by rw[inv.size];exact a4
   simp[this]
  have next:∀ v w',T 1 w w'->(∀ d,r=some d->F ((a.put o.dst v).tmps.getD d undef) w')->(r=none->∃ u,F u w') ->
   (∀ d,r=some d->∃ (j':Nat) (o':Oper),(a1.setIfInBounds i true).getD j' false=true∧ops[j']?=some o'∧o'.dst=some d) ->
   WayI ops T w0 a0 Fs (a1.setIfInBounds i true) (a.put o.dst v) w':=by
   intro v w' ht hv ay hw;refine⟨⟨m+1,by omega,ax _ _ _ _ ae ht⟩,by simp[inv.size],?_,?_,?_,?_,?_⟩
   ·rw[<-inv.defers];cases o.dst<;>rfl
   ·rw[<-inv.len];cases o.dst<;>simp[Act.put]
   ·intro t hn;cases a7:o.dst with
    | none=>exact inv.far t hn
    | some d =>
      have:d≠t:=fun e=>hn (e ▸ aj d a7)
      simp only[Act.put];rw[Array.getElem?_setIfInBounds_ne this];exact inv.far t hn
   ·intro j hj;by_cases hij:i=j
    ·subst hij;intro f hf;rw[hF] at hf;cases hf;show DF.holds _ _ _;unfold DF.holds;cases r with
     | none=>exact ay rfl
     | some d=>exact hv d rfl
    ·rw[getD_set_ne false hij] at hj;intro f hf;have h3:=inv.facts j hj f hf;have aA:j<ops.size:=by
      rcases Nat.lt_or_ge j a1.size with h|h
      ·rw[inv.size] at h;exact h
      ·simp[Array.getElem?_eq_none h] at hj
     obtain⟨oj,aq⟩:∃ oj,ops[j]?=some oj:=⟨_,Array.getElem?_eq_getElem aA⟩;obtain⟨r',F',an,af,_⟩:=ao j oj aq;rw[hf] at an;cases an;unfold DF.holds at h3 ⊢;cases r' with
     | none =>
       obtain⟨u,hu⟩:=h3;exact⟨u,af _ _ _ _ ht hu⟩
     | some d =>
       obtain⟨j',o',a5,aa,a2⟩:=inv.whose j hj _ d hf rfl;have az:o.dst≠some d:=aw j' i o' o d aa ho (fun e=>by
        rw[e] at a5;have:i<a1.size:=by rw[inv.size];exact a4
        simp[this] at a3 a5;rw[a3] at a5;cases a5) a2
       have:(a.put o.dst v).tmps.getD d undef=a.tmps.getD d undef:=by
        cases a7:o.dst with
        | none=>rfl
        | some d' =>
          have:d'≠d:=fun e=>az (by rw[a7,e])
          simp[Act.put,Array.getElem?_setIfInBounds_ne this]
       show F' _ _;simp only[this];exact af _ _ _ _ ht h3
   ·intro j hj f d hf ag;by_cases hij:i=j
    ·subst hij;rw[hF] at hf;cases hf;exact hw d ag
    ·rw[getD_set_ne false hij] at hj;obtain⟨j',o',a5,aa,a2⟩:=inv.whose j hj f d hf ag;exact⟨j',o',getD_set_true a5,aa,a2⟩
  rcases hD with ⟨a8,hD⟩|⟨ar,d,a8,ai,hD⟩
  ·have hd:=hD m (fun t=>a.tmps.getD t undef) w (by omega) ae a6
   rw[inv.act] at hd;refine k1k ho hd fun v w' ⟨ht,hv⟩=>hK _ _ (next v w' ht (fun d a2=>?_) (fun _=>⟨v,hv⟩) (fun d a2=>⟨i,o,ac,ho,by rw[<-a8];exact a2⟩))
   have a7:o.dst=some d:=by rw[<-a8];exact a2
   have a4:d<a.tmps.size:=by rw[inv.len];exact aB i o d ho a7
   simpa[a7,Act.put,a4] using hv
  ·have hd:=hD m (fun t=>a.tmps.getD t undef) w (by omega) ae a6
   rw[inv.act] at hd;refine k1k ho hd fun v w' ⟨ht,hv⟩=>hK _ _ (next v w' ht (fun d' a2=>?_) (fun h=>by rw[a8] at h;cases h) (fun d' a2=>?_))
   ·rw[a8] at a2;cases a2;rw[ar];exact hv
   ·rw[a8] at a2;cases a2;obtain⟨e,he,hb,f,hf,ag⟩:=q5u ai;have h1:=hall e he hb;have h2:=am i o ho e he hb;rw[List.getElem?_take_of_lt h2] at hf;obtain⟨j',o',a5,aa,a2⟩:=inv.whose e.on h1 f d hf ag;exact⟨j',o',getD_set_true a5,aa,a2⟩
 intro f
 induction f with
 | zero =>
   intro a1 a w inv hc;have hr:Region.ready .any ops a1=[]:=by
    rw[List.eq_nil_iff_forall_not_mem];intro i hi;obtain⟨a3,o,ho,_⟩:=mem_ready.1 hi;have h1:(List.range ops.size).countP (fun i=>!a1.getD i true)=0:=by omega
    rw[List.countP_eq_zero] at h1;have:=h1 i (List.mem_range.2 (Array.getElem?_eq_some_iff.1 ho).1);rw[a3] at this;exact this rfl
   exact⟨hr,a9 _ _ _ inv hr⟩
 | succ f ih =>
   intro a1 a w inv hc;refine⟨a9 _ _ _ inv,fun i hi=>ad a1 a w inv i hi _ fun a' w' inv'=>ih _ _ _ inv' ?_⟩
   obtain⟨a3,o,ho,_⟩:=mem_ready.1 hi;have a4:i<ops.size:=(Array.getElem?_eq_some_iff.1 ho).1;have:=j8q (p:=fun j=>!(a1.setIfInBounds i true).getD j true) (q:=fun j=>!a1.getD j true) (i:=i) (List.mem_range.2 a4) (fun j hj=>by
    by_cases hij:i=j
    ·subst hij;rw[a3];rfl
    ·rw[getD_set_ne true hij] at hj;exact hj) (by rw[a3];rfl) (by
     have:i<a1.size:=by rw[inv.size];exact a4
     simp[this])
   omega
def AllF:List DF->(Nat->Value)->World->Prop
 | f::acc,ys,w=>f.holds ys w∧AllF acc ys w
 | [],_,_=>True
theorem k5q:∀ (Fs:List DF) (ys:Nat->Value) (w:World),(∀ j,j<Fs.length->j7v Fs ys j w)->AllF Fs ys w
 | [],ys,w,h=>trivial
 | F::Fs,ys,w,h=>⟨h 0 (by simp) F (by simp),k5q Fs ys w fun j hj f hf=>h (j+1) (by simp;omega) f (by simpa using hf)⟩
theorem k1c (T:Nat->World->World->Prop) {id:Nat} {Q:Exit->Act->World->Prop} {a0:Act} {w:World} {l:List Oper} (hm:P.follows .mixedOrders=true) (a1:invB l.toArray a0.tmps.size=true)
 (a4:∀ n a b c,T n a b->T 1 b c->T (n+1) a c) (hT:T 0 w { w with drawn:=w.drawn+1 })
 (h:∃ B:(Nat->Value)->Act,(∀ ys,j0r (j0p l) ys a0=B ys)∧∀ (ops:Array Oper) (K:List DF->Prop),
   (∀ Fs,(∀ n ys w',n<=100->T n w w'->AllF Fs ys w'->Q .normal (B ys) w')->K Fs)->LexI P ops 100 T w B K [] l) (hN:l.length<=100:=by decide):(Code.region id l.toArray true).wp P Q a0 w:=by
 obtain⟨B,hB,h⟩:=h;obtain⟨Fs,hK,_,a3,hall⟩:=k4p (ops:=l.toArray) (T:=T) (w0:=w) (P:=P) l [] (h l.toArray (fun Fs=>∀ n ys w',n<=100->T n w w'->AllF Fs ys w'->Q .normal (B ys) w') (fun Fs h=>h)) (fun j hj=>by simp) (by simp)
 have a2:∀ ys,j0r (j0p l.toArray.toList) ys a0=B ys:=by simpa using hB
 refine wp_region_any hm (wayI_any (T:=T) (w0:=w) (Fs:=Fs) a1 a4 (fun i o ho=>by
  simp only[a2];obtain⟨r,F,h1,h2,h3⟩:=hall i o (Nat.zero_le _) ho;refine⟨r,F,h1,h2,?_⟩;rcases h3 with ⟨h3,h4⟩|⟨h3,d,h4,h5,h6⟩
  ·exact .inl ⟨h3,fun n ys w hn=>h4 n ys w (by simp at hn;omega)⟩
  ·exact .inr ⟨h3,d,h4,h5,fun n ys w hn=>h6 n ys w (by simp at hn;omega)⟩) (fun n ys w' hn ht hf=>by rw[a2];exact hK n ys w' (by simp at hn;omega) ht (k5q Fs ys w' (fun j hj=>hf j (by rw[<-a3];exact hj)))) _ _ _ _
  ⟨⟨0,by have:=List.countP_le_length (p:=fun i=>!(Array.replicate l.toArray.size false).getD i true) (l:=List.range l.toArray.size);simpa using this,hT⟩,by simp,rfl,rfl,fun _ _=>rfl,fun j (hj:(Array.replicate l.toArray.size false).getD j false=true)=>(by rw[getD_replicate_false] at hj;cases hj),fun j (hj:(Array.replicate l.toArray.size false).getD j false=true)=>(by rw[getD_replicate_false] at hj;cases hj)⟩ ?_)
 exact zB6 (List.countP_le_length) (by simp)
section
variable {N:Nat} {B:(Nat->Value)->Act} {K:List DF->Prop} {acc:List DF} {o:Oper} {l:List Oper}
theorem LexI.const (hr:∀ w,T 1 w w)
 (h:∃ c:Value,(∀ n ys w,n<N->T n w0 w->j0d acc ys o w->Does P ops o (B ys) w (fun v w'=>w=w'∧v=c)) ∧
   LexI P ops N T w0 B K (acc++[(o.dst,fun v _=>v=c)]) l):LexI P ops N T w0 B K acc (o::l) :=
 let ⟨c,h,k⟩:=h
 ⟨fun v _=>v=c,fun _ _ _ _ _ h=>h,.inl ⟨fun n ys w hn ht hd Q2 hQ2=>h n ys w hn ht hd Q2 fun a2 w2 ⟨v,e,hw,hv⟩=>hQ2 a2 w2 ⟨v,e,by rw[<-hw];exact hr w,hv⟩,k⟩⟩
theorem LexI.some (F:VF) (hF:∀ n v w w',T n w w'->F v w->F v w')
 (h:∀ n ys w,n<N->T n w0 w->j0d acc ys o w->Does P ops o (B ys) w (fun v w'=>T 1 w w'∧F v w'))
 (k:LexI P ops N T w0 B K (acc++[(o.dst,F)]) l):LexI P ops N T w0 B K acc (o::l):=⟨F,hF,.inl ⟨h,k⟩⟩
theorem LexI.ref (d:Tmp) (F:VF) (hF:∀ n v w w',T n w w'->F v w->F v w') (hn:o.dst=none) (hr:refA acc o d=true)
 (h:∀ n ys w,n<N->T n w0 w->j0d acc ys o w->Does P ops o (B ys) w (fun v w'=>T 1 w w'∧F (ys d) w'))
 (k:LexI P ops N T w0 B K (acc++[(Option.some d,F)]) l):LexI P ops N T w0 B K acc (o::l):=⟨F,hF,.inr ⟨d,hn,hr,h,k⟩⟩
end
end
end Go.Proofs.YtmennjmjakdkcaaGreat
