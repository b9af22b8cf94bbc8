/- HerdParts. -/
import Derived.Test.YtmennjmjakdkcaaGreatPt13
import Derived.Laws.MakeOwn
set_option linter.unusedVariables false
set_option linter.unusedSimpArgs false
namespace Go.Proofs.YtmennjmjakdkcaaGreat
section
variable {P:Program} {ops:Array Oper} {T:Nat->World->World->Prop} {Pk:Nat->World->Prop}
def j9s (ops:Array Oper):Nat->Nat->Nat->Bool
 | 0,_,_=>false
 | f+1,a,b=>match ops[a]? with
   | some o=>o.after.toList.any fun e=>Region.binds .any e&&(e.on==b || j9s ops f e.on b)
   | none=>false
theorem j8i {n:Nat} {a0:Array Bool} (inv:HeadInv .any ops n a0):∀ (f a b:Nat),j9s ops f a b=true->(∀ o,ops[a]?=some o->∀ e∈o.after,Region.binds .any e=true->a0.getD e.on false=true)->a0.getD b false=true
 | 0,a,b,h,_=>by simp[j9s] at h
 | f+1,a,b,h,ha=>by
   unfold j9s at h
   split at h
   ·rename_i o ho;obtain⟨e,he,h2⟩:=List.any_eq_true.1 h;simp only[Bool.and_eq_true,Bool.or_eq_true,beq_iff_eq] at h2;have a1:e∈o.after:=by rw[Array.mem_toList_iff] at he;exact he
    have h3:=ha o ho e a1 h2.1;rcases h2.2 with h4|h4
    ·rw[<-h4];exact h3
    ·exact j8i inv f e.on b h4 (fun o' ho' e' he2 hb'=>inv.closed e.on o' ho' h3 e' he2 hb')
   ·cases h
def bef (tg:List Nat) (rl:List (Nat × Nat)) (j k:Nat):Prop:=j≠0∧k≠0∧∃ x∈rl,tg[x.1]?=some j∧tg[x.2]?=some k
def LexT (P:Program) (ops:Array Oper) (T:Nat->World->World->Prop) (Pk:Nat->World->Prop) (gl:List Nat) (ks:Nat) (bf:Nat->Nat->Prop) (B:(Nat->Value)->Act) (K:List DF->Prop):List DF->List Nat->List Oper->Prop
 | acc,_,[]=>K acc
 | acc,[],_::_=>False
 | acc,k::tg,o::l=>∃ F:VF,(∀ j v w w',(j≠k∨k=0)->¬bf k j->T j w w'->F v w->F v w') ∧
    (∀ ys w,Pk 0 w->Pk k w->(acc.length∈gl->Pk ks w)->j0d acc ys o w->Does P ops o (B ys) w (fun v w'=>T k w w'∧F v w'))∧LexT P ops T Pk gl ks bf B K (acc++[(o.dst,F)]) tg l
def tagsB (tg:List Nat):Bool:=(List.range tg.length).all fun i=>(List.range i).all fun j=>tg.getD i 0 != tg.getD j 0 || tg.getD i 0==0
theorem j4t {tg:List Nat} (h:tagsB tg=true) {i j k:Nat} (hi:tg[i]?=some k) (hj:tg[j]?=some k) (a0:i≠j):k=0:=by
 have key:∀ i j:Nat,j<i->tg[i]?=some k->tg[j]?=some k->k=0:=fun i j hlt hi hj=>by
  have h1:=List.all_eq_true.1 h i (List.mem_range.2 (List.getElem?_eq_some_iff.1 hi).1);have h2:=List.all_eq_true.1 h1 j (List.mem_range.2 hlt);rw[zB3,zB3,hi,hj] at h2;simpa using h2
 rcases Nat.lt_or_gt_of_ne a0 with h|h
 ·exact key j i h hj hi
 ·exact key i j h hi hj
def k0n (n s:Nat):Array Bool:=((List.range s).map fun j=>decide (j<n)).toArray
def k0z (ops:Array Oper) (n:Nat):Bool :=
 Region.noSelect ops&&decide (n<ops.size)&&Region.sinkB .any ops n&&Region.chainB .any ops n&&Region.seqB .any ops (ops.size-n) n (k0n n ops.size)
theorem k4q {gl:List Nat} {ks:Nat} {bf:Nat->Nat->Prop} {B:(Nat->Value)->Act} {K:List DF->Prop}:∀ (l:List Oper) (tg:List Nat) (a0:List DF) (a1:List Nat),LexT P ops T Pk gl ks bf B K a0 tg l->(∀ j,j<l.length->l[j]?=ops[a0.length+j]?)->(∀ j,tg[j]?=a1[a0.length+j]?) ->
 ∃ Fs:List DF,K Fs∧(∃ r,Fs=a0++r)∧Fs.length=a0.length+l.length∧∀ i o,a0.length<=i->i<a0.length+l.length->ops[i]?=some o->∃ k F,a1[i]?=some k∧Fs[i]?=some (o.dst,F)∧(∀ j v w w',(j≠k∨k=0)->¬bf k j->T j w w'->F v w->F v w') ∧
  ∀ ys w,Pk 0 w->Pk k w->(i∈gl->Pk ks w)->j0d (Fs.take i) ys o w->Does P ops o (B ys) w (fun v w'=>T k w w'∧F v w')
 | [],tg,a0,a1,h,hl,ht=>⟨a0,by cases tg<;>exact h,⟨[],by simp⟩,by simp,fun i o hi hi2 ho=>by simp at hi2;omega⟩
 | o::l,[],a0,a1,h,hl,ht=>h.elim
 | o::l,k::tg,a0,a1,⟨F,hF,hD,hr⟩,hl,ht=>by
   obtain⟨Fs,hK,⟨r',a2⟩,a3,hall⟩:=k4q l tg (a0++[(o.dst,F)]) a1 hr (fun j hj=>by
    have:=hl (j+1) (by simp;omega)
    simpa[Nat.add_assoc,Nat.add_comm 1 j] using this) (fun j=>by
    have:=ht (j+1);simpa[Nat.add_assoc,Nat.add_comm 1 j] using this)
   refine⟨Fs,hK,⟨(o.dst,F)::r',by rw[a2];simp⟩,by rw[a3];simp;omega,fun i o' hi hi2 ho'=>?_⟩
   rcases Nat.lt_or_ge i (a0++[(o.dst,F)]).length with h|h
   ·have a4:i=a0.length:=by simp at h;omega
    subst a4;have ho:o=o':=by
     have:=hl 0 (by simp)
     simp at this;rw[ho'] at this;exact Option.some.inj this
    subst ho;refine⟨k,F,by have:=ht 0;simpa using this.symm,by rw[a2];simp,hF,?_⟩
    rw[a2];simpa using hD
   ·exact hall i o' h (by simp at hi2 ⊢;omega) ho'
structure WayT (ops:Array Oper) (n:Nat) (Pk:Nat->World->Prop) (a0:Act) (Fs:List DF) (tg:List Nat) (listed:Array Bool) (a:Act) (w:World):Prop where
 inv:HeadInv .any ops n listed
 p0:Pk 0 w
 pk:∀ i k,i<n->listed.getD i true=false->tg[i]?=some k->Pk k w
 defers:a.defers=a0.defers
 len:a.tmps.size=a0.tmps.size
 far:∀ t,t∉j0p (ops.toList.take n)->a.tmps[t]?=a0.tmps[t]?
 facts:∀ j,listed.getD j false=true->j7v Fs (fun t=>a.tmps.getD t undef) j w
theorem WayT.act {n:Nat} {a0:Act} {Fs:List DF} {tg:List Nat} {a1:Array Bool} {a:Act} {w:World} (h:WayT ops n Pk a0 Fs tg a1 a w) :
 j0r (j0p (ops.toList.take n)) (fun t=>a.tmps.getD t undef) a0=a:=by
 have h1:=j7a (j0p (ops.toList.take n)) (fun t=>a.tmps.getD t undef) a0
 have h2:(j0r (j0p (ops.toList.take n)) (fun t=>a.tmps.getD t undef) a0).tmps=a.tmps:=by
  apply Array.ext_getElem?;intro t;rcases Nat.lt_or_ge t a0.tmps.size with ht|ht
  ·rw[k0x _ _ _ _ ht];have a2:t<a.tmps.size:=by rw[h.len];exact ht
   split
   ·simp[a2]
   ·rename_i hn;rw[h.far t hn]
  ·rw[Array.getElem?_eq_none (by rw[j9j];exact ht),Array.getElem?_eq_none (by rw[h.len];exact ht)]
 generalize j0r (j0p (ops.toList.take n)) (fun t=>a.tmps.getD t undef) a0=b at *
 cases b;cases a;have h3:=h.defers;dsimp only at h1 h2 h3;rw[h1,h2,h3]
theorem q0p {md:Region.Mode} {Q:Exit->Act->World->Prop} (k:Nat):∀ (f:Nat) (a0:Array Bool) (a:Act) (w:World),wpAny P md ops Q f a0 a w->wpAny P md ops Q (f+k) a0 a w
 | 0,a0,a,w,h=>by
   cases k with
   | zero=>exact h
   | succ k=>exact⟨fun _=>h.2,fun i hi=>by rw[h.1] at hi;cases hi⟩
 | f+1,a0,a,w,h=>by
   rw[show f+1+k=(f+k)+1 by omega]
   exact⟨h.1,fun i hi=>wpOp_mono (fun a' w' h'=>q0p k f _ a' w' h') (h.2 i hi)⟩
theorem wayT_any {gl:List Nat} {ks s0:Nat} {rl:List (Nat × Nat)} {fu:Nat} {n:Nat} {Fs:List DF} {tg:List Nat} {a0:Act} {Q:Exit->Act->World->Prop} (ar:invB ops a0.tmps.size=true) (hB:k0z ops n=true) (a7:tagsB tg=true) (b3:s0<n) (ba:gl=[]∨tg[s0]?=some ks) (b8:gl.all (fun i=>Region.waitsFor .any ops s0 i)=true) (aD:rl.all (fun x=>j9s ops fu x.1 x.2)=true)
 (hP:∀ k j w w',(j≠k∨k=0)->¬bef tg rl j k->T j w w'->Pk k w->Pk k w')
 (aC:∀ i o,i<n->ops[i]?=some o->∃ k F,tg[i]?=some k∧Fs[i]?=some (o.dst,F)∧(∀ j v w w',(j≠k∨k=0)->¬bef tg rl k j->T j w w'->F v w->F v w') ∧
   ∀ ys w,Pk 0 w->Pk k w->(i∈gl->Pk ks w)->j0d (Fs.take i) ys o w->Does P ops o (j0r (j0p (ops.toList.take n)) ys a0) w (fun v w'=>T k w w'∧F v w'))
 (ak:∀ ys w,Pk 0 w->(∀ j,j<n->j7v Fs ys j w)->wpList P ops Q (ops.toList.drop n) (j0r (j0p (ops.toList.take n)) ys a0) w) :
 ∀ (f:Nat) (a1:Array Bool) (a:Act) (w:World),WayT ops n Pk a0 Fs tg a1 a w->(List.range n).countP (fun i=>!a1.getD i true)<=f->wpAny P .any ops Q (f+(ops.size-n)) a1 a w:=by
 obtain⟨b7,aE,aH⟩:=k6w ar;simp only[k0z,Bool.and_eq_true,decide_eq_true_eq] at hB;obtain⟨⟨⟨⟨be,hn⟩,hs⟩,hc⟩,ai⟩:=hB;have aa:∀ (f:Nat) (a1:Array Bool) (a:Act) (w:World),WayT ops n Pk a0 Fs tg a1 a w->(∀ i,i<n->a1.getD i true=true)->wpAny P .any ops Q (f+(ops.size-n)) a1 a w:=by
  intro f a1 a w inv hall;have hl:a1=k0n n ops.size:=by
   apply Array.ext_getElem?;intro j;rw[show(k0n n ops.size)[j]?=((List.range ops.size).map fun j=>decide (j<n))[j]? by unfold k0n;simp,List.getElem?_map]
   rcases Nat.lt_or_ge j ops.size with hj|hj
   ·have aw:j<a1.size:=by rw[inv.inv.size];exact hj
    rw[List.getElem?_range hj,Array.getElem?_eq_getElem aw];rcases Nat.lt_or_ge j n with a6|a6
    ·have:=hall j a6;simp[aw] at this;simp[a6,this]
    ·have:=inv.inv.tail j a6 hj;simp[aw] at this;simp[Nat.not_lt.2 a6,this]
   ·rw[Array.getElem?_eq_none (by rw[inv.inv.size];exact hj),List.getElem?_eq_none (by simpa using hj)]
    rfl
  have ac:(ops.toList.drop n).length=ops.size-n:=by simp
  have h1:=ak (fun t=>a.tmps.getD t undef) w inv.p0 (fun j hj=>inv.facts j (by
   have h2:=hall j hj;have h3:j<a1.size:=by rw[inv.inv.size];omega
   simp[h3] at h2 ⊢;exact h2))
  rw[inv.act] at h1;have h2:=wpAny_of_seq (md:=.any) (Q':=Q) (ops.toList.drop n) n a1 a w (fun j=>by simp[List.getElem?_drop]) (by rw[ac,hl];exact ai) h1
  rw[ac] at h2;have h3:=q0p f _ _ _ _ h2
  rwa [Nat.add_comm] at h3
 have ad:∀ (a1:Array Bool) (a:Act) (w:World),WayT ops n Pk a0 Fs tg a1 a w->∀ i∈Region.ready .any ops a1,i<n->∀ K:Act->World->Prop,
  (∀ a' w',WayT ops n Pk a0 Fs tg (a1.setIfInBounds i true) a' w'->K a' w')->wpOp P ops Q i K a w:=by
  intro a1 a w inv i hi hin K hK;obtain⟨a8,o,ho,hall⟩:=mem_ready.1 hi;obtain⟨k,F,hk,hF,bj,hD⟩:=aC i o hin ho;have ag:i<ops.size:=(Array.getElem?_eq_some_iff.1 ho).1;have af:j0d (Fs.take i) (fun t=>a.tmps.getD t undef) o w:=k1j fun e he hb f hf=>by
   have h1:=hall e (by rw[Array.mem_toList_iff] at he;exact he) hb
   have h2:=aE i o ho e (by rw[Array.mem_toList_iff] at he;exact he) hb
   rw[List.getElem?_take_of_lt h2] at hf;exact inv.facts e.on h1 f hf
  have an:∀ d,o.dst=some d->d∈j0p (ops.toList.take n):=fun d hd'=>List.mem_filterMap.2 ⟨o,by
   rw[List.mem_take_iff_getElem];have hz:i<ops.toList.length:=by simpa using ag
   refine⟨i,by omega,?_⟩
   have:=(Array.getElem?_eq_some_iff.1 ho).2;simpa using this,hd'⟩
  have a4:i∈gl->Pk ks w:=fun hg=>by
   have bf:tg[s0]?=some ks:=by
    rcases ba with h|h
    ·rw[h] at hg;cases hg
    ·exact h
   obtain⟨os,aF,e,he,hb,aG⟩:=Region.waitsFor_spec (List.all_eq_true.1 b8 i hg);have b4:s0<a1.size:=by rw[inv.inv.size];exact(Array.getElem?_eq_some_iff.1 aF).1
   refine inv.pk s0 ks b3 (getD_in b4 ?_) bf;cases hl:a1.getD s0 false with
   | false=>rfl
   | true =>
     have h2:=inv.inv.closed s0 os aF hl e he hb;rw[aG,getD_both a8] at h2;cases h2
  have hd:=hD (fun t=>a.tmps.getD t undef) w inv.p0 (inv.pk i k hin a8 hk) a4 af
  rw[inv.act] at hd;refine k1k ho hd fun v w' ⟨ht,hv⟩=>hK _ _ ⟨inv.inv.set hi hin,hP 0 k w w' (.inr rfl) (fun h=>h.2.1 rfl) ht inv.p0,?_,?_,?_,?_,?_⟩
  ·intro i' k' b0 a2 a9;have ah:i≠i':=fun e=>by
    subst e;have h3:i<a1.size:=by rw[inv.inv.size];exact ag
    simp[h3] at a2
   rw[getD_set_ne true ah] at a2;refine hP k' k w w' ?_ (fun hbf=>?_) ht (inv.pk i' k' b0 a2 a9)
   rotate_left
   ·obtain⟨n1,n2,x,hx,aj,am⟩:=hbf;have e1:x.1=i:=Classical.byContradiction fun hne'=>n1 (j4t a7 aj hk hne')
    have e2:x.2=i':=Classical.byContradiction fun hne'=>n2 (j4t a7 am a9 hne')
    have h3:=j8i inv.inv fu x.1 x.2 (List.all_eq_true.1 aD x hx) (fun o' ho' e' he' hb'=>by
     rw[e1,ho] at ho';cases ho';exact hall e' he' hb')
    rw[e2,getD_both a2] at h3;cases h3
   by_cases e:k=k'
   ·subst e;exact .inr (j4t a7 hk a9 ah)
   ·exact .inl e
  ·rw[<-inv.defers];cases o.dst<;>rfl
  ·rw[<-inv.len];cases o.dst<;>simp[Act.put]
  ·intro t ao;cases hod:o.dst with
   | none=>exact inv.far t ao
   | some d =>
     have:d≠t:=fun e=>ao (e ▸ an d hod)
     simp only[Act.put];rw[Array.getElem?_setIfInBounds_ne this];exact inv.far t ao
  ·intro j hj;by_cases hij:i=j
   ·subst hij;intro f hf;rw[hF] at hf;cases hf;show DF.holds _ _ _;unfold DF.holds;cases hod:o.dst with
    | none=>exact⟨v,hv⟩
    | some d =>
      have b9:d<a.tmps.size:=by rw[inv.len];exact b7 i o d ho hod
      simpa[hod,Act.put,b9] using hv
   ·rw[getD_set_ne false hij] at hj;intro f hf;have h3:=inv.facts j hj f hf;have av:j<a1.size:=by
     rcases Nat.lt_or_ge j a1.size with h|h
     ·exact h
     ·simp[Array.getElem?_eq_none h] at hj
    have a6:j<n:=by
     rcases Nat.lt_or_ge j n with h|h
     ·exact h
     ·have:=inv.inv.tail j h (by rw[<-inv.inv.size];exact av)
      simp[av] at this hj;rw[hj] at this;cases this
    obtain⟨oj,ax⟩:∃ oj,ops[j]?=some oj:=⟨_,Array.getElem?_eq_getElem (by rw[<-inv.inv.size];exact av)⟩
    obtain⟨k',F',a9,aB,ae,_⟩:=aC j oj a6 ax;rw[hf] at aB;cases aB;have a3:k≠k'∨k'=0:=by
     by_cases e:k=k'
     ·subst e;exact .inr (j4t a7 hk a9 hij)
     ·exact .inl e
    have ay:¬bef tg rl k' k:=fun hbf=>by
     obtain⟨n1,n2,x,hx,aj,am⟩:=hbf;have e1:x.1=j:=Classical.byContradiction fun hne'=>n1 (j4t a7 aj a9 hne')
     have e2:x.2=i:=Classical.byContradiction fun hne'=>n2 (j4t a7 am hk hne')
     have h4:=j8i inv.inv fu x.1 x.2 (List.all_eq_true.1 aD x hx) (fun o' ho' e' he' hb'=>by
      rw[e1] at ho';exact inv.inv.closed j o' ho' hj e' he' hb')
     rw[e2,getD_both a8] at h4;cases h4
    unfold DF.holds at h3 ⊢;cases hod:oj.dst with
    | none =>
      simp only[hod] at h3 ⊢;obtain⟨u,hu⟩:=h3;exact⟨u,ae _ _ _ _ a3 ay ht hu⟩
    | some d =>
      simp only[hod] at h3 ⊢;have ah:o.dst≠some d:=aH j i oj o d ax ho (fun e=>hij e.symm) hod
      have:(a.put o.dst v).tmps.getD d undef=a.tmps.getD d undef:=by
       cases hod':o.dst with
       | none=>rfl
       | some d' =>
         have:d'≠d:=fun e=>ah (by rw[hod',e])
         simp[Act.put,Array.getElem?_setIfInBounds_ne this]
      rw[this];exact ae _ _ _ _ a3 ay ht h3
 intro f
 induction f with
 | zero =>
   intro a1 a w inv bh;refine aa 0 a1 a w inv fun i hi=>?_
   have h1:(List.range n).countP (fun i=>!a1.getD i true)=0:=by omega
   rw[List.countP_eq_zero] at h1;have:=h1 i (List.mem_range.2 hi);simpa using this
 | succ f ih =>
   intro a1 a w inv bi;by_cases hall:∀ i,i<n->a1.getD i true=true
   ·exact aa (f+1) a1 a w inv hall
   ·-- the least that is left is ready
    have b6:∃ i,i<n∧a1.getD i true=false:=by
     apply Classical.byContradiction;intro aq;exact hall fun i hi=>by
      cases h:a1.getD i true with
      | true=>rfl
      | false=>exact absurd ⟨i,hi,h⟩ aq
    have a5:∃ i,i<n∧a1.getD i true=false∧∀ j,j<i->a1.getD j true=true:=by
     obtain⟨i,hi⟩:=b6;revert hi
     induction i using Nat.strongRecOn with
     | _ i ihh =>
       intro hi;by_cases h:∀ j,j<i->a1.getD j true=true
       ·exact⟨i,hi.1,hi.2,h⟩
       ·have:∃ j,j<i∧a1.getD j true=false:=by
         apply Classical.byContradiction;intro aq;exact h fun j hj=>by
          cases h':a1.getD j true with
          | true=>rfl
          | false=>exact absurd ⟨j,hj,h'⟩ aq
        obtain⟨j,hj,b5⟩:=this;exact ihh j hj ⟨by omega,b5⟩
    obtain⟨i0,h1,h2,h3⟩:=a5;have aA:ops[i0]?=some ops[i0]:=Array.getElem?_eq_getElem (by omega)
    have az:i0∈Region.ready .any ops a1:=mem_ready.2 ⟨h2,_,aA,fun e he hbe=>by
     have h4:=aE i0 _ aA e he hbe;have h5:=h3 e.on h4;have h6:e.on<a1.size:=by rw[inv.inv.size];omega
     simp[h6] at h5 ⊢;exact h5⟩
    rw[show f+1+(ops.size-n)=(f+(ops.size-n))+1 by omega]
    refine⟨fun h=>(by rw[h] at az;cases az),fun i hi=>?_⟩
    have hin:i<n:=by
     rcases Nat.lt_or_ge i n with h|h
     ·exact h
     ·exact absurd hi (tail_waits hs hc hn inv.inv _ i0 rfl h1 h2 i h)
    refine ad a1 a w inv i hi hin _ fun a' w' inv'=>ih _ _ _ inv' ?_
    obtain⟨a8,o,ho,_⟩:=mem_ready.1 hi;have ag:i<ops.size:=(Array.getElem?_eq_some_iff.1 ho).1;have:=j8q (p:=fun j=>!(a1.setIfInBounds i true).getD j true) (q:=fun j=>!a1.getD j true) (i:=i) (List.mem_range.2 hin) (fun j hj=>by
     by_cases hij:i=j
     ·subst hij;rw[a8];rfl
     ·rw[getD_set_ne true hij] at hj;exact hj) (by rw[a8];rfl) (by
     have:i<a1.size:=by rw[inv.inv.size];exact ag
     simp[this])
    omega
theorem j0q (n s0 ks:Nat) (gl:List Nat) (rl:List (Nat × Nat)) (fu:Nat) (T:Nat->World->World->Prop) (Pk:Nat->World->Prop) (tg:List Nat) {id:Nat} {Q:Exit->Act->World->Prop} {a0:Act} {w:World} {l:List Oper} (hm:P.follows .mixedOrders=true) (a3:invB l.toArray a0.tmps.size=true)
 (hB:k0z l.toArray n=true) (aa:tagsB tg=true) (a7:s0<n) (a9:gl=[]∨tg[s0]?=some ks) (ae:gl.all (fun i=>Region.waitsFor .any l.toArray s0 i)=true) (ad:rl.all (fun x=>j9s l.toArray fu x.1 x.2)=true)
 (hP:∀ k j w w',(j≠k∨k=0)->¬bef tg rl j k->T j w w'->Pk k w->Pk k w') (h0:∀ k,Pk k { w with drawn:=w.drawn+1 })
 (h:∃ B:(Nat->Value)->Act,(∀ ys,j0r (j0p (l.take n)) ys a0=B ys)∧∀ (ops:Array Oper) (K:List DF->Prop),
   (∀ Fs,(∀ ys w',Pk 0 w'->AllF Fs ys w'->wpList P ops Q (l.drop n) (B ys) w')->K Fs)->LexT P ops T Pk gl ks (bef tg rl) B K [] tg (l.take n)):(Code.region id l.toArray true).wp P Q a0 w:=by
 obtain⟨B,a5,h⟩:=h;have a6:=hB;simp only[k0z,Bool.and_eq_true,decide_eq_true_eq] at a6;have hn:n<l.length:=by simpa using a6.1.1.1.2
 have a1:(l.take n).length=n:=by simp;omega
 obtain⟨Fs,hK,_,a4,hall⟩:=k4q (ops:=l.toArray) (T:=T) (Pk:=Pk) (P:=P) (l.take n) tg [] tg (h l.toArray (fun Fs=>∀ ys w',Pk 0 w'->AllF Fs ys w'->wpList P l.toArray Q (l.drop n) (B ys) w') (fun Fs h=>h)) (fun j hj=>by
  have a8:j<n:=by rw[a1] at hj;exact hj
  simp[a8]) (fun j=>by simp)
 rw[List.length_nil,Nat.zero_add,a1] at a4;refine wp_region_any hm ?_;have ac:∀ i o,i<n->l.toArray[i]?=some o->∃ k F,tg[i]?=some k∧Fs[i]?=some (o.dst,F)∧(∀ j v w w',(j≠k∨k=0)->¬bef tg rl k j->T j w w'->F v w->F v w') ∧
  ∀ ys w,Pk 0 w->Pk k w->(i∈gl->Pk ks w)->j0d (Fs.take i) ys o w->Does P l.toArray o (j0r (j0p (l.toArray.toList.take n)) ys a0) w (fun v w'=>T k w w'∧F v w'):=fun i o hi ho=>by
  obtain⟨k,F,h1,h2,h3,h4⟩:=hall i o (Nat.zero_le _) (by rw[List.length_nil,Nat.zero_add,a1];exact hi) ho
  exact⟨k,F,h1,h2,h3,fun ys w=>by rw[show l.toArray.toList=l by simp,a5];exact h4 ys w⟩
 have a2:∀ ys w,Pk 0 w->(∀ j,j<n->j7v Fs ys j w)->wpList P l.toArray Q (l.toArray.toList.drop n) (j0r (j0p (l.toArray.toList.take n)) ys a0) w:=fun ys w hp hf=>by
  rw[show l.toArray.toList=l by simp,a5]
  exact hK ys w hp (k5q Fs ys w (fun j hj=>hf j (by rw[<-a4];exact hj)))
 have:=wayT_any (T:=T) (Pk:=Pk) (Fs:=Fs) (tg:=tg) (Q:=Q) (gl:=gl) (ks:=ks) (s0:=s0) (rl:=rl) (fu:=fu) a3 hB aa a7 a9 ae ad hP ac a2 n (Array.replicate l.toArray.size false) a0 { w with drawn:=w.drawn+1 }
  ⟨⟨by simp,fun j oj _ hl=>(by rw[getD_replicate_false] at hl;cases hl),fun t _ ht=>getD_in (by simpa using ht) (getD_replicate_false _ _)⟩,h0 0,fun _ k _ _ _=>h0 k,rfl,rfl,fun _ _=>rfl,
   fun j (hj:(Array.replicate l.toArray.size false).getD j false=true)=>(by rw[getD_replicate_false] at hj;cases hj)⟩ (by
    have:=List.countP_le_length (p:=fun i=>!(Array.replicate l.toArray.size false).getD i true) (l:=List.range n);simpa using this)
 rwa [show n+(l.toArray.size-n)=l.toArray.size by simp;omega] at this
section
variable {B:(Nat->Value)->Act} {K:List DF->Prop} {acc:List DF} {o:Oper} {l:List Oper} {k:Nat} {tg gl:List Nat} {ks:Nat} {bf:Nat->Nat->Prop}
theorem LexT.const (hr:∀ w,T k w w)
 (h:∃ c:Value,(∀ ys w,Pk 0 w->Pk k w->(acc.length∈gl->Pk ks w)->j0d acc ys o w->Does P ops o (B ys) w (fun v w'=>w=w'∧v=c)) ∧
   LexT P ops T Pk gl ks bf B K (acc++[(o.dst,fun v _=>v=c)]) tg l):LexT P ops T Pk gl ks bf B K acc (k::tg) (o::l) :=
 let ⟨c,h,kk⟩:=h
 ⟨fun v _=>v=c,fun _ _ _ _ _ _ _ h=>h,fun ys w hp hpk hq hd Q2 hQ2=>h ys w hp hpk hq hd Q2 fun a2 w2 ⟨v,e,hw,hv⟩=>hQ2 a2 w2 ⟨v,e,by rw[<-hw];exact hr w,hv⟩,kk⟩
theorem LexT.some (F:VF) (hF:∀ j v w w',(j≠k∨k=0)->¬bf k j->T j w w'->F v w->F v w')
 (h:∀ ys w,Pk 0 w->Pk k w->(acc.length∈gl->Pk ks w)->j0d acc ys o w->Does P ops o (B ys) w (fun v w'=>T k w w'∧F v w'))
 (kk:LexT P ops T Pk gl ks bf B K (acc++[(o.dst,F)]) tg l):LexT P ops T Pk gl ks bf B K acc (k::tg) (o::l):=⟨F,hF,h,kk⟩
end
end
end Go.Proofs.YtmennjmjakdkcaaGreat
namespace Go.Proofs.YtmennjmjakdkcaaGreat
open Go.RowKit
def R13 (H:Nat) (vk vh:Value):Nat->Option Nat
 | 1=>some H
 | 2=>vk.ownBlock
 | 3=>vh.ownBlock
 | _=>none
def T13 (H:Nat) (vk vh:Value) (j:Nat) (w w':World):Prop:=w.grownBy w' (R13 H vk vh j)
theorem T13.rf {H:Nat} {vk vh:Value} {j:Nat} (w:World):T13 H vk vh j w w:=World.grownBy.refl w _
structure P13Z (w0:World) (z H g q:Nat) (t:Int) (bm bk bh bd vm:Value) (l:List Mk) (mv:List Value) (hs:List (List Int)) (vu:Value) (row:List Int) (w:World):Prop where
 gr:w0.grownBy w (some H)
 sz:z<=w.heap.size
 box:w.heap[q]?=some (boxO t bm bk bh bd)
 bg:w.heap[g]?=some (boxO 0 (.slice none 0 0) (.slice none 0 0) (.slice none 0 0) (.slice none 0 0))
 m:OwnM w (g+1) vm l
 rw:Rws w (g+1) mv hs
 u:OwnI w (g+1) vu row
def P13 (w0:World) (z H g q:Nat) (t:Int) (bm bk bh bd vm:Value) (l:List Mk) (vk:Value) (ks:List Int) (vh:Value) (mv:List Value) (hs:List (List Int)) (vu:Value) (row:List Int) (N:Nat) (k:Nat) (w:World):Prop :=
 match k with
 | 0=>P13Z w0 z H g q t bm bk bh bd vm l mv hs vu row w
 | 1=>Hd w H N
 | 2=>OwnI w (g+1) vk ks
 | 3=>Own eVal 25 1 w (g+1) vh mv
 | _=>True
def F13U (H j N:Nat):VF:=fun v w=>∃ x:Nat,v=.int .i64 x∧((x:Int)<=(j:Int)-1∨x=0)∧Hd w H N
def F13B (H j:Nat) (vk vh:Value):VF:=fun v w=>∃ k x:Nat,v=.slice (some ⟨k,0,none⟩) 1 1∧((x:Int)<=(j:Int)-1∨x=0)∧w.heap[k]?=some (Obj.cells #[.int .i64 (x:Int)] 3 (0,0))∧k≠H∧vk.ownBlock≠some k∧vh.ownBlock≠some k
def F13R (H:Nat) (vk vh vu:Value):VF:=fun v w=>∃ k:Nat,v=.slice (some ⟨k,0,none⟩) 1 1∧w.heap[k]?=some (Obj.cells #[vu] 25 (0,0))∧k≠H∧vk.ownBlock≠some k∧vh.ownBlock≠some k
def F13K (H g j:Nat) (vh:Value) (ks:List Int) (mv:List Value) (vu:Value):VF:=fun v w=>∃ g' n' c' x:Nat,v=.slice (some ⟨g',0,none⟩) n' c'∧((x:Int)<=(j:Int)-1∨x=0)∧OwnI w (g+1) v (ks++[(x:Int)])∧(∀ y∈mv,j1y y v)∧j1y vu v∧vh.ownBlock≠some g'∧g'≠H
def F13H (H g:Nat) (vk:Value) (mv:List Value) (vu:Value):VF:=fun v w=>∃ g' n' c':Nat,v=.slice (some ⟨g',0,none⟩) n' c'∧Own eVal 25 1 w (g+1) v (mv++[vu])∧vk.ownBlock≠some g'∧g'≠H
section
variable {w0 ws w w':World} {H g q N j:Nat} {t:Int} {bm bk bh bd vm vk vh vu v:Value} {l:List Mk} {ks:List Int} {mv:List Value} {hs:List (List Int)} {row:List Int}
theorem R13.cases(H:Nat) (vk vh:Value) (j:Nat):(R13 H vk vh j=none)∨(j=1∧R13 H vk vh j=some H)∨(j=2∧R13 H vk vh j=vk.ownBlock)∨(j=3∧R13 H vk vh j=vh.ownBlock):=by
 match j with
 | 0=>exact .inl rfl
 | 1=>exact .inr (.inl ⟨rfl,rfl⟩)
 | 2=>exact .inr (.inr (.inl ⟨rfl,rfl⟩))
 | 3=>exact .inr (.inr (.inr ⟨rfl,rfl⟩))
 | n+4=>exact .inl rfl
theorem P13.start (a:TFl w0 H g q t bm bk bh bd vm l vk ks vh mv hs vu row N ws) (k:Nat):P13 w0 ws.heap.size H g q t bm bk bh bd vm l vk ks vh mv hs vu row N k ws:=by
 match k with
 | 0=>exact⟨a.dl.gr,zL9 _,a.box,a.bg,a.m,a.rw,a.u⟩
 | 1=>exact a.dl.hd
 | 2=>exact a.k
 | 3=>exact a.h
 | n+4=>exact trivial
theorem P13.st (a:TFl w0 H g q t bm bk bh bd vm l vk ks vh mv hs vu row N ws) (k i:Nat) (w w':World) (a2:i≠k∨k=0) (hT:T13 H vk vh i w w') (hp:P13 w0 ws.heap.size H g q t bm bk bh bd vm l vk ks vh mv hs vu row N k w) :
 P13 w0 ws.heap.size H g q t bm bk bh bd vm l vk ks vh mv hs vu row N k w':=by
 have h1:=a.hg;have h2:=a.gq;have h3:=a.z0;have a3:∀ k,R13 H vk vh i=some k->k=H∨g+1<=k:=fun k e=>by
  rcases R13.cases H vk vh i with h|⟨_,h⟩|⟨_,h⟩|⟨_,h⟩<;>rw[h] at e
  ·cases e
  ·cases e;exact .inl rfl
  ·exact .inr (a.k.lt k e).1
  ·exact .inr (a.h.lt k e).1
 have hq:R13 H vk vh i≠some q:=fun e=>by
  rcases R13.cases H vk vh i with h|⟨_,h⟩|⟨_,h⟩|⟨_,h⟩<;>rw[h] at e
  ·cases e
  ·cases e;omega
  ·exact a.k.ne' a.box (by decide) e
  ·exact a.h.ne' a.box (by decide) e
 have far:∀ v:Value,(∀ k,v.ownBlock=some k->g+1<=k)->(v.ownBlock=none∨v.ownBlock≠vk.ownBlock)->(v.ownBlock=none∨v.ownBlock≠vh.ownBlock)->v.ownBlock=none∨v.ownBlock≠R13 H vk vh i:=fun v e1 e2 e3=>by
  rcases R13.cases H vk vh i with h|⟨_,h⟩|⟨_,h⟩|⟨_,h⟩<;>rw[h]
  ·exact j5l
  ·exact .inr fun e=>by have:=e1 _ e;omega
  ·exact e2
  ·exact e3
 have a1:w.grownBy w' (R13 H vk vh i):=hT
 match k with
 | 0 =>
   have a0:P13Z w0 ws.heap.size H g q t bm bk bh bd vm l mv hs vu row w:=hp;refine(show P13Z w0 ws.heap.size H g q t bm bk bh bd vm l mv hs vu row w' from⟨⟨a1.os.trans a0.gr.os,a1.tape.trans a0.gr.tape,a1.output.trans a0.gr.output,zB6 a0.gr.size a1.size,fun k hk hne=>?_⟩,zB6 a0.sz a1.size,(a1.block q (j0a a0.box) (fun e=>hq e.symm)).trans a0.box,(a1.block g (j0a a0.bg) (fun e=>by have:=a3 g e.symm;omega)).trans a0.bg,
    a0.m.kept a1 (far _ (fun k e=>(a.m.lt k e).1) (j0y a.m a.k (by decide)) (j0y a.m a.h (by decide))),a0.rw.kept a1 (fun x hx=>far _ (fun k e=>(a.rw.ltv hx k e).1) (a.ap x hx).ne ?_),a0.u.kept a1 (far _ (fun k e=>(a.u.lt k e).1) a.uk.ne (j0y a.u a.h (by decide)))⟩)
   ·exact(a1.block k (Nat.lt_of_lt_of_le hk a0.gr.size) (fun e=>by
     have:=a3 k e.symm;rcases this with h|h
     ·exact hne (by rw[h])
     ·omega)).trans (a0.gr.block k hk hne)
   ·obtain⟨i',a4⟩:=List.mem_iff_getElem?.1 hx;obtain⟨l',_,ho⟩:=a.rw.2 i' x a4;exact j0y ho a.h (by decide)
 | 1 =>
   have a0:Hd w H N:=hp;exact(show Hd w' H N from a0.kept fun j hj=>a1.block j (Nat.lt_of_le_of_lt hj a0.lt) (fun e=>by
    rcases R13.cases H vk vh i with h|⟨h0,h⟩|⟨_,h⟩|⟨_,h⟩<;>rw[h] at e
    ·cases e
    ·subst h0;rcases a2 with h|h<;>omega
    ·have:=(a.k.lt j e.symm).1;omega
    ·have:=(a.h.lt j e.symm).1;omega))
 | 2 =>
   have a0:OwnI w (g+1) vk ks:=hp;refine(show OwnI w' (g+1) vk ks from a0.kept a1 ?_)
   rcases R13.cases H vk vh i with h|⟨_,h⟩|⟨h0,h⟩|⟨_,h⟩<;>rw[h]
   ·exact j5l
   ·exact .inr fun e=>by have:=(a.k.lt _ e).1;omega
   ·subst h0;rcases a2 with h|h<;>omega
   ·exact j0y a.k a.h (by decide)
 | 3 =>
   have a0:Own eVal 25 1 w (g+1) vh mv:=hp;refine(show Own eVal 25 1 w' (g+1) vh mv from a0.kept a1 ?_)
   rcases R13.cases H vk vh i with h|⟨_,h⟩|⟨_,h⟩|⟨h0,h⟩<;>rw[h]
   ·exact j5l
   ·exact .inr fun e=>by have:=(a.h.lt _ e).1;omega
   ·exact j0y a.h a.k (by decide)
   ·subst h0;rcases a2 with h|h<;>omega
 | n+4=>exact trivial
theorem F13U.st (a:TFl w0 H g q t bm bk bh bd vm l vk ks vh mv hs vu row N ws) {M:Nat} (i:Nat) (v:Value) (w w':World) (a0:i≠1∨1=0) (hT:T13 H vk vh i w w') (h:F13U H j M v w):F13U H j M v w':=by
 have h1:=a.hg;obtain⟨x,h2,h3,h4⟩:=h;have a1:w.grownBy w' (R13 H vk vh i):=hT;refine⟨x,h2,h3,h4.kept fun j hj=>a1.block j (Nat.lt_of_le_of_lt hj h4.lt) (fun e=>?_)⟩
 rcases R13.cases H vk vh i with h|⟨h0,h⟩|⟨_,h⟩|⟨_,h⟩<;>rw[h] at e
 ·cases e
 ·subst h0;rcases a0 with h|h<;>omega
 ·have:=(a.k.lt j e.symm).1;omega
 ·have:=(a.h.lt j e.symm).1;omega
theorem R13.ne {k:Nat} (h1:k≠H) (h2:vk.ownBlock≠some k) (h3:vh.ownBlock≠some k) (i:Nat):some k≠R13 H vk vh i:=fun e=>by
 rcases R13.cases H vk vh i with h|⟨_,h⟩|⟨_,h⟩|⟨_,h⟩<;>rw[h] at e
 ·cases e
 ·cases e;exact h1 rfl
 ·exact h2 e.symm
 ·exact h3 e.symm
theorem F13B.st (i k:Nat) (v:Value) (w w':World) (a1:i≠k∨k=0) (hT:T13 H vk vh i w w') (h:F13B H j vk vh v w):F13B H j vk vh v w':=by
 obtain⟨k,x,h1,h2,h3,h4,h5,h6⟩:=h;have a0:w.grownBy w' (R13 H vk vh i):=hT;exact⟨k,x,h1,h2,(a0.block k (j0a h3) (R13.ne h4 h5 h6 i)).trans h3,h4,h5,h6⟩
theorem F13R.st (i k:Nat) (v:Value) (w w':World) (a1:i≠k∨k=0) (hT:T13 H vk vh i w w') (h:F13R H vk vh vu v w):F13R H vk vh vu v w':=by
 obtain⟨k,h1,h3,h4,h5,h6⟩:=h;have a0:w.grownBy w' (R13 H vk vh i):=hT;exact⟨k,h1,(a0.block k (j0a h3) (R13.ne h4 h5 h6 i)).trans h3,h4,h5,h6⟩
theorem F13K.st (i:Nat) (v:Value) (w w':World) (a0:i≠2∨2=0) (hT:T13 H vk vh i w w') (h:F13K H g j vh ks mv vu v w):F13K H g j vh ks mv vu v w':=by
 obtain⟨g',n',c',x,rfl,h2,h3,h4,h5,h6,h7⟩:=h;have a1:w.grownBy w' (R13 H vk vh i):=hT;refine⟨g',n',c',x,rfl,h2,h3.kept a1 (.inr fun e=>?_),h4,h5,h6,h7⟩
 rcases R13.cases H vk vh i with h|⟨_,h⟩|⟨h0,h⟩|⟨_,h⟩<;>rw[h] at e
 ·cases e
 ·cases e;exact h7 rfl
 ·subst h0;rcases a0 with h|h<;>omega
 ·exact h6 e.symm
theorem F13H.st (i:Nat) (v:Value) (w w':World) (a0:i≠3∨3=0) (hT:T13 H vk vh i w w') (h:F13H H g vk mv vu v w):F13H H g vk mv vu v w':=by
 obtain⟨g',n',c',rfl,h3,h6,h7⟩:=h;have a1:w.grownBy w' (R13 H vk vh i):=hT;refine⟨g',n',c',rfl,h3.kept a1 (.inr fun e=>?_),h6,h7⟩
 rcases R13.cases H vk vh i with h|⟨_,h⟩|⟨_,h⟩|⟨h0,h⟩<;>rw[h] at e
 ·cases e
 ·cases e;exact h7 rfl
 ·exact h6 e.symm
 ·subst h0;rcases a0 with h|h<;>omega
theorem F13B.new (a:TFl w0 H g q t bm bk bh bd vm l vk ks vh mv hs vu row N ws) (hz:ws.heap.size<=w.heap.size) {x:Nat} (hx:(x:Int)<=(j:Int)-1∨x=0) :
 T13 H vk vh 0 w (w.alloc (Obj.cells #[.int .i64 (x:Int)] 3))∧F13B H j vk vh (.slice (some ⟨w.heap.size,0,none⟩) 1 1) (w.alloc (Obj.cells #[.int .i64 (x:Int)] 3)) :=
 ⟨World.grownBy_alloc w _ _,w.heap.size,x,rfl,hx,heap_alloc_new w _,by have:=a.dl.hd.lt;omega,fun e=>by have:=(a.k.lt _ e).2;omega,fun e=>by have:=(a.h.lt _ e).2;omega⟩
theorem F13R.new (a:TFl w0 H g q t bm bk bh bd vm l vk ks vh mv hs vu row N ws) (hz:ws.heap.size<=w.heap.size) :
 T13 H vk vh 0 w (w.alloc (Obj.cells #[vu] 25))∧F13R H vk vh vu (.slice (some ⟨w.heap.size,0,none⟩) 1 1) (w.alloc (Obj.cells #[vu] 25)) :=
 ⟨World.grownBy_alloc w _ _,w.heap.size,rfl,heap_alloc_new w _,by have:=a.dl.hd.lt;omega,fun e=>by have:=(a.k.lt _ e).2;omega,fun e=>by have:=(a.h.lt _ e).2;omega⟩
theorem F13K.new (a:TFl w0 H g q t bm bk bh bd vm l vk ks vh mv hs vu row N ws) (hz:P13Z w0 ws.heap.size H g q t bm bk bh bd vm l mv hs vu row w) {g' n' c' x:Nat} (hx:(x:Int)<=(j:Int)-1∨x=0) (hk:OwnI w' (g+1) (.slice (some ⟨g',0,none⟩) n' c') (ks++[(x:Int)])) (hg:w.grownBy w' vk.ownBlock)
 (hl:vk.ownBlock=some g'∨g'=w.heap.size):T13 H vk vh 2 w w'∧F13K H g j vh ks mv vu (.slice (some ⟨g',0,none⟩) n' c') w':=by
 have h1:=a.hg;have a1:=hz.sz;have a0:g'≠H:=by
  rcases hl with hl|hl
  ·have:=(a.k.lt _ hl).1;omega
  ·have:=a.dl.hd.lt;omega
 have far:∀ {x:Value},j1y x vk->(∀ k,x.ownBlock=some k->k<w.heap.size)->j1y x (.slice (some ⟨g',0,none⟩) n' c'):=fun {x} hx hlt k e e'=>by
  have:g'=k:=by simpa[Value.ownBlock] using e'
  subst this;rcases hl with hl|hl
  ·exact hx g' e hl
  ·have:=hlt _ e;omega
 refine⟨hg,g',n',c',x,rfl,hx,hk,fun y hy=>far (a.ap y hy) fun k e=>(hz.rw.ltv hy k e).2,far a.uk fun k e=>(hz.u.lt k e).2,fun e=>?_,a0⟩
 rcases hl with hl|hl
 ·rcases j0y a.k a.h (by decide) with h|h
  ·rw[hl] at h;cases h
  ·exact h (hl.trans e.symm)
 ·have:=(a.h.lt _ e).2;omega
theorem F13H.new (a:TFl w0 H g q t bm bk bh bd vm l vk ks vh mv hs vu row N ws) (hz:P13Z w0 ws.heap.size H g q t bm bk bh bd vm l mv hs vu row w) {g' n' c':Nat} (hk:Own eVal 25 1 w' (g+1) (.slice (some ⟨g',0,none⟩) n' c') (mv++[vu])) (hg:w.grownBy w' vh.ownBlock)
 (hl:vh.ownBlock=some g'∨g'=w.heap.size):T13 H vk vh 3 w w'∧F13H H g vk mv vu (.slice (some ⟨g',0,none⟩) n' c') w':=by
 have h1:=a.hg;have a1:=hz.sz;have a0:g'≠H:=by
  rcases hl with hl|hl
  ·have:=(a.h.lt _ hl).1;omega
  ·have:=a.dl.hd.lt;omega
 refine⟨hg,g',n',c',rfl,hk,fun e=>?_,a0⟩
 rcases hl with hl|hl
 ·rcases j0y a.k a.h (by decide) with h|h
  ·rw[e] at h;cases h
  ·exact h (e.trans hl.symm)
 ·have:=(a.k.lt _ e).2;omega
theorem P13.fin (a:TFl w0 H g q t bm bk bh bd vm l vk ks vh mv hs vu row N ws) (hz:P13Z w0 ws.heap.size H g q t bm bk bh bd vm l mv hs vu row w) {v1 v2 v3:Value} {M:Nat} (f1:F13U H j M v1 w) (f2:F13K H g j vh ks mv vu v2 w) (f3:F13H H g vk mv vu v3 w) :
 ∃ x:Nat,((x:Int)<=(j:Int)-1∨x=0)∧TFl w0 H g q t bm bk bh bd vm l v2 (ks++[(x:Int)]) v3 (mv++[vu]) (hs++[row]) (.slice none 0 0) [] M w:=by
 obtain⟨_,_,_,h1⟩:=f1;obtain⟨g1,n1,c1,x,rfl,e2,e3,e4,e5,e6,e7⟩:=f2;obtain⟨g2,n2,c2,rfl,k3,k6,k7⟩:=f3;refine⟨x,e2,a.hg,a.gq,a.z0,hz.box,hz.bg,hz.m,e3,k3,hz.rw.snoc hz.u,Own.nil_,fun y hy=>?_,fun _ _=>j1y.nilR,j1y.nilL,h1,hz.gr⟩
 rcases List.mem_append.1 hy with h|h
 ·exact e4 y h
 ·rw[List.mem_singleton.1 h];exact e5
end
theorem q5e:(Tryz.prog.info? 3).map (fun i=>(i.zero,i.size,i.bytes))=some (some (.int .i64 0),1,8):=by kernel_rfl
theorem made_int {n:Nat} (h:n<=5):madeCells #[.int .i64 0] n=(Array.replicate n (Value.int .i64 0)):=by
 obtain rfl|rfl|rfl|rfl|rfl|rfl:n=0∨n=1∨n=2∨n=3∨n=4∨n=5:=by omega
 all_goals
  unfold madeCells;rw[<-List.toArray_range,List.map_toArray];simp[List.range_succ,List.replicate]
  try rfl
theorem run_mkI (W:World) {n:Nat} (h:n<=5):(Instr.makeSlice 25 (.int .i64 (n:Int)) (.int .i64 (n:Int))).run Tryz.prog W=.ok (.slice (some ⟨W.heap.size,0,none⟩) n n) (W.alloc (.cells (Array.replicate n (Value.int .i64 0)) 3)):=by
 obtain⟨i,hi,a,b,c⟩:=info_parts q5e;have:=run_make (P:=Tryz.prog) W 25 3 i _ Tryz.underlying25 hi a .i64 .i64 (n:Int) (n:Int) (by omega) (Int.le_refl _) (by rw[c];omega) (by omega)
 rw[b,Int.toNat_natCast] at this;rw[this,<-made_int h,Nat.mul_one];rfl
theorem k9f (W:World) {n:Nat} (h:n<=5):OwnI (W.alloc (.cells (Array.replicate n (Value.int .i64 0)) 3)) W.heap.size (.slice (some ⟨W.heap.size,0,none⟩) n n) (List.replicate n 0):=by
 have h1:=Own.lit (enc:=eInt) (e:=3) (sz:=1) W W.heap.size (Array.replicate n (Value.int .i64 0)) (List.replicate n 0) (by
  have:∀ n:Nat,(List.replicate n (0:Int)).flatMap eInt=List.replicate n (Value.int .i64 0):=fun n=>by
   induction n with
   | zero=>rfl
   | succ n ih=>rw[List.replicate_succ,List.flatMap_cons,ih];rfl
  rw[Array.toList_replicate];exact(this n).symm) j0n (zL9 _) (by rw[List.length_replicate];unfold maxLen;omega)
 rwa [List.length_replicate] at h1
theorem TDe.start {w0 w1 w:World} {H g q N a3 a4 a2 a1:Nat} {t:Int} {bm bk bh bd vm vk vh vu vE vG:Value} {l:List Mk} {ks:List Int} {mv:List Value} {hs gs:List (List Int)} {row a0:List Int}
 (a:TFl w0 H g q t bm bk bh bd vm l vk ks vh mv hs vu row N w1) (hH:H<w0.heap.size) (hb:Below w1.heap.size w1 w) (he:EndZ w a3 a4 vE gs) (hg:OwnI w a2 vG a0) (a5:∀ k,vG.ownBlock=some k->k<a1)
 (hz:w1.heap.size<=a3∧a4<=w.heap.size∧w1.heap.size<=a2∧a1<=w.heap.size∧(a4<=a2∨a1<=a3)) :
 TDe w0 w1 H q t bm bk bh bd (.slice none 0 0) [] vE gs vG a0 (.slice none 0 0) [] a3 a4 a2 a1 w.heap.size w.heap.size N w:=by
 obtain⟨z1,z2,z3,z4,z5⟩:=hz;have h1:=a.gq;have h2:=a.z0;have h3:=j0a a.box;exact⟨⟨by omega,h3,hH⟩,⟨⟨z1,z2,z3,z4,hb.size,z5⟩,zL9 _,zL9 _⟩,fun j hj _ _=>hb.block j hj,(hb.block q h3).trans a.box,Own.nil_,he,hg,a5,Own.nil_,(fun k e=>nomatch e),(fun k e=>nomatch e),a.dl.less hb (zL9 _)⟩
theorem k7c {b k n c:Nat} (e:(Value.slice (some ⟨b,0,none⟩) n c).ownBlock=some k):k<b+1:=by
 have:b=k:=by simpa[Value.ownBlock] using e
 omega
theorem TDe.start1 {w0 w1 w:World} {H g q N n:Nat} {t:Int} {bm bk bh bd vm vk vh vu vE:Value} {l:List Mk} {ks:List Int} {mv:List Value} {hs:List (List Int)} {row:List Int}
 (a:TFl w0 H g q t bm bk bh bd vm l vk ks vh mv hs vu row N w1) (hH:H<w0.heap.size) (hb:Below w1.heap.size w1 w) (he:EndG w w1.heap.size vE hs) (hn:n<=5) :
 ∃ ze1 ze2 zg1 zg2 z3,TDe w0 w1 H q t bm bk bh bd (.slice none 0 0) [] vE hs (.slice (some ⟨w.heap.size,0,none⟩) n n) (List.replicate n 0) (.slice none 0 0) [] ze1 ze2 zg1 zg2 z3 (w.alloc (.cells (Array.replicate n (Value.int .i64 0)) 3)).heap.size N (w.alloc (.cells (Array.replicate n (Value.int .i64 0)) 3)):=by
 have hz:(w.alloc (.cells (Array.replicate n (Value.int .i64 0)) 3)).heap.size=w.heap.size+1:=by simp
 exact⟨_,_,_,w.heap.size+1,_,TDe.start a hH (hb.trans ((bal0 w _).mono hb.size)) (he.toZ.kept (World.grownBy_alloc w _ none) (by simp)) (k9f w hn) (fun k e=>k7c e) ⟨zL9 _,by omega,hb.size,by omega,.inl (zL9 _)⟩⟩
theorem TDe.start2 {w0 w1 w:World} {H g q N n:Nat} {t:Int} {bm bk bh bd vm vk vh vu vE:Value} {l:List Mk} {ks:List Int} {mv:List Value} {hs:List (List Int)} {row:List Int}
 (a:TFl w0 H g q t bm bk bh bd vm l vk ks vh mv hs vu row N w1) (hH:H<w0.heap.size) (hn:n<=5) (a2:Below (w1.alloc (.cells (Array.replicate n (Value.int .i64 0)) 3)).drew.heap.size (w1.alloc (.cells (Array.replicate n (Value.int .i64 0)) 3)).drew w) (a1:EndG w (w1.alloc (.cells (Array.replicate n (Value.int .i64 0)) 3)).drew.heap.size vE hs) :
 ∃ ze1 ze2 zg1 zg2 z3,TDe w0 w1 H q t bm bk bh bd (.slice none 0 0) [] vE hs (.slice (some ⟨w1.heap.size,0,none⟩) n n) (List.replicate n 0) (.slice none 0 0) [] ze1 ze2 zg1 zg2 z3 w.heap.size N w:=by
 have hz:(w1.alloc (.cells (Array.replicate n (Value.int .i64 0)) 3)).heap.size=w1.heap.size+1:=by simp
 have a0:(w1.alloc (.cells (Array.replicate n (Value.int .i64 0)) 3)).drew.heap.size=w1.heap.size+1:=hz;have hb:Below (w1.heap.size+1) (w1.alloc (.cells (Array.replicate n (Value.int .i64 0)) 3)) w:=(j0w (zB2 _ _)).trans (by rw[<-a0];exact a2)
 have he:EndG w (w1.heap.size+1) vE hs:=by rw[<-a0];exact a1
 have a3:=hb.size;exact⟨_,_,_,w1.heap.size+1,_,TDe.start a hH ((bal0 w1 _).trans (hb.mono (by omega))) he.toZ ((k9f w1 hn).below hb (by rw[hz];exact zL9 _)) (fun k e=>k7c e) ⟨by omega,zL9 _,zL9 _,by omega,.inr (zL9 _)⟩⟩
end Go.Proofs.YtmennjmjakdkcaaGreat
