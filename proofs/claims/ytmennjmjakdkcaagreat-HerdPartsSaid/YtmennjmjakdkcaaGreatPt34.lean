/- HerdParts. -/
import Derived.Test.YtmennjmjakdkcaaGreatPt33
set_option linter.unusedVariables false
set_option linter.unusedSimpArgs false
set_option maxRecDepth 100000
namespace Go.Proofs.YtmennjmjakdkcaaGreat
open Go.RowKit
theorem OwnR.put2 {w:World} {base:Nat} {A:Option Addr} {n c:Nat} {l:List Rn} (h:OwnR w base (.slice A n c) l) {o:Nat} {r:Rn} (ho:l[o]?=some r) (x y:Int) :
 ∃ g,A=some ⟨g,0,none⟩∧base<=g∧g<w.heap.size∧w.cell? ⟨g,o*2,none⟩=some (.int .i64 r.lo)∧w.cell? ⟨g,o*2+1,none⟩=some (.int .i64 r.hi)∧w.frozen? ⟨g,o*2,none⟩=false∧w.frozen? ⟨g,o*2+1,none⟩=false ∧
  OwnR ((w.setCell ⟨g,o*2,none⟩ (.int .i64 x)).setCell ⟨g,o*2+1,none⟩ (.int .i64 y)) base (.slice A n c) (l.set o ⟨x,y⟩)∧n=l.length∧n<=c∧c<=maxLen:=by
 have a3:=(List.getElem?_eq_some_iff.1 ho).1;have a8:∀ (l:List Rn) (o:Nat) (r:Rn),l[o]?=some r->(l.flatMap eRn)[o*2]?=some (Value.int .i64 r.lo)∧(l.flatMap eRn)[o*2+1]?=some (Value.int .i64 r.hi):=fun l=>by
  induction l with
  | nil=>intro o r h;simp at h
  | cons z l ih =>
    intro o r h;cases o with
    | zero=>simp at h;subst h;exact⟨rfl,rfl⟩
    | succ o =>
      have:=ih o r (by simpa using h)
      rw[List.flatMap_cons,show(o+1)*2=o*2+1+1 by omega]
      exact⟨by simpa[eRn] using this.1,by simpa[eRn] using this.2⟩
 have a0:∀ (l:List Rn) (o:Nat),o<l.length->((l.flatMap eRn).set (o*2) (Value.int .i64 x)).set (o*2+1) (Value.int .i64 y)=(l.set o ⟨x,y⟩).flatMap eRn:=fun l=>by
  induction l with
  | nil=>intro o h;simp at h
  | cons z l ih =>
    intro o h;cases o with
    | zero=>simp[eRn]
    | succ o =>
      have:=ih o (by simpa using h)
      rw[List.set_cons_succ,List.flatMap_cons,List.flatMap_cons,<-this,show(o+1)*2=o*2+1+1 by omega]
      simp[eRn]
 have a9:(l.flatMap eRn).length=l.length*2:=by
  clear a8 a0 ho a3 h
  induction l with
  | nil=>rfl
  | cons z l ih=>rw[List.flatMap_cons,List.length_append,ih,List.length_cons];simp[eRn];omega
 obtain⟨h1,h2⟩:=h;rcases h2 with ⟨hv,h0⟩|⟨g,cap,cur,hv,hg,hh,a7,a4,aa,a6⟩
 ·rw[zC1 h0] at a3;cases a3
 ·cases hv;have a5:∀ (i:Nat) v,(l.flatMap eRn)[i]?=some v->cur[i]?=some v:=fun i v hv=>by
   have hi:=(List.getElem?_eq_some_iff.1 hv).1;rw[<-a6,List.getElem?_take_of_lt (by omega),Array.getElem?_toList] at hv
   exact hv
  obtain⟨a1,a2⟩:=a8 l o r ho;have b1:=a5 _ _ a1;have b2:=a5 _ _ a2;refine⟨g,rfl,hg,j0a hh,?_,?_,frz hh _,frz hh _,?_,rfl,a7,a4⟩
  ·unfold World.cell?;simp[hh,b1]
  ·unfold World.cell?;simp[hh,b2]
  ·refine⟨by rw[<-a0 l o a3,List.length_set,List.length_set,List.length_set];exact h1,.inr ⟨g,c,(cur.setIfInBounds (o*2) (.int .i64 x)).setIfInBounds (o*2+1) (.int .i64 y),by simp,hg,j0g (j0g hh),by simpa using a7,a4,by simpa using aa,?_⟩⟩
   rw[Array.toList_setIfInBounds,Array.toList_setIfInBounds,List.take_set,List.take_set,List.length_set,a6,a0 l o a3]
abbrev rnO (a b:Int):Obj:=.cells #[.int .i64 a,.int .i64 b] 72 (0,0)
def widR (lo hi n:Int) (first:Bool):Rn:=if first then ⟨n,n⟩ else ⟨min lo n,max hi n⟩
theorem q3r (lo hi n:Int) (first:Bool) (w:World) :
 Calls Tryz.prog 90 #[.agg #[.int .i64 lo,.int .i64 hi],.int .i64 n,.bool first] w fun e w'=>e=.returned (.agg #[.int .i64 (widR lo hi n first).lo,.int .i64 (widR lo hi n first).hi])∧Below w.heap.size w w':=by
 cases first
 ·go_enter Tryz.func90,Tryz.ntmps90
  go_wp2
  all_goals
   obtain⟨W,hW⟩:∃ W,W=(w.alloc (.cells #[.int .i64 lo,.int .i64 hi] 72)).alloc (.cells #[.int .i64 (min lo n),.int .i64 (max hi n)] 72):=⟨_,rfl⟩;have b4:W.heap[w.heap.size+1]?=some (rnO (min lo n) (max hi n)):=by rw[hW];exact j0c (by simp)
   obtain⟨c0,c1⟩:=blk2 b4
   first
    | rw[<-hW]
    | (rw[show min lo n=n by omega,show max hi n=n by omega] at hW;rw[<-hW])
    | (rw[show min lo n=n by omega,show max hi n=hi by omega] at hW;rw[<-hW])
    | (rw[show min lo n=lo by omega,show max hi n=n by omega] at hW;rw[<-hW])
    | (rw[show min lo n=lo by omega,show max hi n=hi by omega] at hW;rw[<-hW])
   exact bodyPost_ret (v:=.agg #[.int .i64 (min lo n),.int .i64 (max hi n)]) (by simp[results,Tryz.f90,go_sem,c0,c1]) rfl ⟨rfl,by rw[hW];exact bal (bal0 w _) (zL9 _) _⟩
 ·go_enter Tryz.func90,Tryz.ntmps90
  go_wp2
  obtain⟨W,hW⟩:∃ W,W=(w.alloc (.cells #[.int .i64 lo,.int .i64 hi] 72)).alloc (.cells #[.int .i64 n,.int .i64 n] 72):=⟨_,rfl⟩;have b4:W.heap[w.heap.size+1]?=some (rnO n n):=by rw[hW];exact j0c (by simp)
  obtain⟨c0,c1⟩:=blk2 b4;rw[<-hW];exact bodyPost_ret (v:=.agg #[.int .i64 n,.int .i64 n]) (by simp[results,Tryz.f90,go_sem,c0,c1]) rfl ⟨rfl,by rw[hW];exact bal (bal0 w _) (zL9 _) _⟩
def rnOf (φ:Gr->Int) (E:List Gr):Rn:=⟨minL (E.map φ),maxL (E.map φ)⟩
theorem q5w {φ:Gr->Int} {E:List Gr} {i:Nat} {g:Gr} (h:E[i]?=some g):widR (rnOf φ (E.take i)).lo (rnOf φ (E.take i)).hi (φ g) (decide (i=0))=rnOf φ (E.take (i+1)):=by
 unfold widR rnOf;rw[List.take_add_one,h,Option.toList_some,List.map_append,List.map_singleton,k7g,k7d];have a0:=(List.getElem?_eq_some_iff.1 h).1;cases i with
 | zero=>simp
 | succ i =>
   have:((E.take (i+1)).map φ)≠[]:=by
    intro e;have:=congrArg List.length e;rw[List.length_map,List.length_take,List.length_nil] at this;omega
   rw[if_neg this,if_neg this];simp
theorem info_rn:(Tryz.prog.info? 72).map (fun i=>(i.zero,i.size,i.bytes))=some (some (.agg #[.int .i64 0,.int .i64 0]),2,16):=by kernel_rfl
def k0y (n:Nat):Array Value:=((List.replicate n (⟨0,0⟩:Rn)).flatMap eRn).toArray
theorem made_rn {n:Nat} (h:n<=5):madeCells #[.int .i64 0,.int .i64 0] (n*2)=k0y n:=by
 obtain rfl|rfl|rfl|rfl|rfl|rfl:n=0∨n=1∨n=2∨n=3∨n=4∨n=5:=by omega
 all_goals
  unfold madeCells k0y;rw[<-List.toArray_range,List.map_toArray];simp[eRn,List.range_succ,List.replicate]
theorem run_mkR (W:World) {n:Nat} (h:n<=5):(Instr.makeSlice 57 (.int .i64 (n:Int)) (.int .i64 (n:Int))).run Tryz.prog W=.ok (.slice (some ⟨W.heap.size,0,none⟩) n n) (W.alloc (.cells (k0y n) 72)):=by
 obtain⟨i,hi,a,b,c⟩:=info_parts info_rn;have:=run_make (P:=Tryz.prog) W 57 72 i _ Tryz.underlying57 hi a .i64 .i64 (n:Int) (n:Int) (by omega) (Int.le_refl _) (by rw[c];omega) (by omega)
 rw[b,Int.toNat_natCast] at this;rw[this,<-made_rn h];rfl
theorem q5l (W:World) {n base:Nat} (h:n<=5) (hb:base<=W.heap.size):OwnR (W.alloc (.cells (k0y n) 72)) base (.slice (some ⟨W.heap.size,0,none⟩) n n) (List.replicate n ⟨0,0⟩):=by
 have h1:=Own.lit (enc:=eRn) (e:=72) (sz:=2) W base (k0y n) (List.replicate n ⟨0,0⟩) (by unfold k0y;simp) j5v hb (by rw[List.length_replicate];unfold maxLen;omega)
 rwa [List.length_replicate] at h1
theorem q0t (b:Hb) (w:World) (hin:HbIn w b) (ha:askE b=0):Calls Tryz.prog 88 #[b.v] w fun e w'=>(∃ v,e=.returned (.tuple #[v,.int .i64 0])∧OwnGG w.heap.size b.l.length b.ks.length v b.eg w')∧Below w.heap.size w w' :=
 (k1g b w hin).mono fun e w' h=>by
   obtain⟨h|⟨-,v,h1,h2⟩,h3⟩:=h
   ·exact absurd ha h.1
   ·exact⟨⟨v,h1,h2⟩,h3⟩
theorem q0s (b:Hb) (w:World) (hin:HbIn w b) (ha:askE b≠0):Calls Tryz.prog 88 #[b.v] w fun e w'=>e=.returned (.tuple #[.slice none 0 0,.int .i64 (askE b)])∧Below w.heap.size w w' :=
 (k1g b w hin).mono fun e w' h=>by
   obtain⟨⟨-,h1⟩|⟨h0,-⟩,h3⟩:=h
   ·exact⟨h1,h3⟩
   ·exact absurd h0 ha
theorem q4m (b:Hb):b.ends (-1) (-1)=b.ends (-1) 0:=by
 have hp:∀ i:Nat,j1s (-1) (-1) i=j1s (-1) 0 i:=fun i=>by
  funext o
  unfold j1s;rw[show decide ((i:Int)=-1)=false from decide_eq_false (by omega)]
  rfl
 have h:∀ k,j1g b.t b.l b.hs b.ds (-1) (-1) k=j1g b.t b.l b.hs b.ds (-1) 0 k:=fun k=>by
  induction k with
  | zero=>rfl
  | succ k ih=>unfold j1g;rw[ih,hp]
 exact h _
theorem eg_sh {b:Hb} (a0:HeOk b.t b.l b.ks b.hs b.ds):∀ g∈b.eg,GSh b.l.length b.ks.length g∧∀ r∈g,∀ x∈r,-260<=x∧x<=260:=fun g hg=>by
 obtain⟨h1,-,h3⟩:=(j7g (deed:=-1) (owner:=-1) a0).2 g hg;exact⟨h1,fun r hr x hx=>h3 r hr x hx⟩
end Go.Proofs.YtmennjmjakdkcaaGreat
namespace Go.Proofs.YtmennjmjakdkcaaGreat
open Go.RowKit Go.Sort
section
variable {F:Fence} {n:Nat} {P:Program} {ops:Array Oper} {md:Region.Mode} {C:World->Prop}
def j9l (F:Fence) (n:Nat) (P:Program) (md:Region.Mode) (ops:Array Oper) (C:World->Prop) (m:Nat) (L:Array Bool->Act->Prop):Nat->Array Bool->Act->Prop
 | 0,listed,a=>L listed a
 | f+1,listed,a =>
   Region.ready md ops listed≠[]∧∀ i∈Region.ready md ops listed,i<m∧qOpIn F n P ops C i (j9l F n P md ops C m L f (listed.setIfInBounds i true)) a
theorem k7x (a0:∀ (i:Nat) o,ops[i]?=some o->∀ c,o.op≠.defer c) {i:Nat} {a:Act} {K:Act->Prop} {K':Act->World->Prop} {Q':Exit->Act->World->Prop} {w:World} (hC:C w) (h:∀ a w',C w'->K a->K' a w')
 (hh:qOpIn F n P ops C i K a):wpOpIn F n P ops Q' i K' a w:=by
 unfold qOpIn at hh;unfold wpOpIn;cases ho:ops[i]? with
 | none=>simp only[ho] at hh ⊢;exact h _ _ hC hh
 | some o =>
   simp only[ho] at hh ⊢;obtain⟨ha,hh⟩:=hh
   split
   ·rename_i hw;simp only[hw,if_true] at hh;exact k5b (a0 i o ho) hC h ha hh
   ·rename_i hw;simp only[hw] at hh;exact⟨ha w hC,h _ _ hC hh⟩
theorem k1a (a1:∀ (i:Nat) o,ops[i]?=some o->∀ c,o.op≠.defer c) {m g:Nat} {L:Array Bool->Act->Prop} {Q':Exit->Act->World->Prop} (hL:∀ a0 a w,C w->L a0 a->wpAnyIn F n P md ops Q' g a0 a w) :
 ∀ (f:Nat) (a0:Array Bool) (a:Act) (w:World),C w->j9l F n P md ops C m L f a0 a->wpAnyIn F n P md ops Q' (f+g) a0 a w
 | 0,a0,a,w,hw,h=>by rw[Nat.zero_add];exact hL _ _ _ hw h
 | f+1,a0,a,w,hw,h=>by
   rw[show f+1+g=(f+g)+1 by omega]
   exact⟨fun h0=>absurd h0 h.1,fun i hi=>k7x a1 hw (fun a' w' hw' h'=>k1a a1 hL f _ a' w' hw' h') (h.2 i hi).2⟩
theorem k7w {m i:Nat} {oi:Oper} {v:Value} {L:Array Bool->Act->Prop} (hi:ops[i]?=some oi) (a6:∀ (j:Nat) (o:Oper) cs b,ops[j]?=some o->o.op≠.select cs b)
 (hs:Region.sinkB md ops m=true) (hc:Region.chainB md ops m=true) (hn:m<ops.size) (hin:i<m)
 (a4:∀ a0 a,L a0 a->∀ j∈Region.ready md ops a0,m<=j) :
 ∀ (f:Nat) (a0:Array Bool) (a:Act),HeadInv md ops m a0 ->
  (∀ j oj,ops[j]?=some oj->j≠i->a0.getD j true=false->(∀ e∈oj.after,Region.binds md e=true->e.on≠i)->oi.apart ops oj=true) ->
  i∈Region.ready md ops a0->YieldsQuiet F n P ops C oi v a ->
  j9l F n P md ops C m L f (a0.setIfInBounds i true) (a.put oi.dst v)->j9l F n P md ops C m L (f+1) a0 a:=by
 intro f
 induction f with
 | zero =>
   intro a0 a inv _ hr hy H;have a3:=(mem_ready.1 hr).1;refine⟨fun h=>(by rw[h] at hr;cases hr),fun j hj=>?_⟩
   have a7:j<m:=by
    rcases Nat.lt_or_ge j m with h|h
    ·exact h
    ·exact absurd hj (tail_waits hs hc hn inv _ i rfl hin a3 j h)
   refine⟨a7,?_⟩;by_cases hji:j=i
   ·subst hji;exact hy.qOpIn hi H
   ·have:=a4 _ _ H j (ready_mono hj hji);omega
 | succ f ih =>
   intro a0 a inv a1 hr hy H;have a3:=(mem_ready.1 hr).1;refine⟨fun h=>(by rw[h] at hr;cases hr),fun j hj=>?_⟩
   have a7:j<m:=by
    rcases Nat.lt_or_ge j m with h|h
    ·exact h
    ·exact absurd hj (tail_waits hs hc hn inv _ i rfl hin a3 j h)
   refine⟨a7,?_⟩;by_cases hji:j=i
   ·subst hji;exact hy.qOpIn hi H
   ·have h1:=(H.2 j (ready_mono hj hji)).2;obtain⟨a5,oj,a8,hall⟩:=mem_ready.1 hj;have a9:∀ e∈oj.after,Region.binds md e=true->e.on≠i:=fun e he hb heq=>by
     have h1:=hall e he hb;rw[heq,getD_both a3] at h1;cases h1
    have h2:=qOpIn_put a8 (a1 j oj a8 hji a5 a9) (fun cs b=>a6 i oi cs b hi) (fun cs b=>a6 j oj cs b a8) hy h1
    have a2:∀ k ok,ops[k]?=some ok->k≠i->(a0.setIfInBounds j true).getD k true=false ->
     (∀ e∈ok.after,Region.binds md e=true->e.on≠i)->oi.apart ops ok=true:=fun k ok hk hki a3 hno=>by
     refine a1 k ok hk hki ?_ hno;by_cases hjk:j=k
     ·subst hjk;exact a5
     ·rw[getD_set_ne true hjk] at a3;exact a3
    refine qOpIn_mono (fun a' h3=>ih (a0.setIfInBounds j true) a' (inv.set hj a7) a2 (ready_mono hr (Ne.symm hji)) h3.1 ?_) h2
    rw[Array.setIfInBounds_comm _ _ hji];exact h3.2
theorem k2m {m g:Nat} {Lq:Act->Prop} (a1:Region.noSelect ops=true) (hs:Region.sinkB md ops m=true) (hc:Region.chainB md ops m=true) (hn:m<ops.size) :
 ∀ (l:List Oper) (k:Nat) (a0:Array Bool) (a:Act),(∀ j,j<l.length->l[j]?=ops[k+j]?)->k+l.length=m->HeadInv md ops m a0 ->
 Region.lexHead md ops g l.length k a0=true->wpQuietIn F n P ops C Lq l a ->
 j9l F n P md ops C m (fun listed' a'=>Region.seqB md ops g m listed'=true∧Lq a') l.length a0 a
 | [],k,a0,a,_,hk,_,hB,h=>by
   have:k=m:=by simpa using hk
   subst this;exact⟨by simpa[Region.lexHead] using hB,h⟩
 | o::l,k,a0,a,hl,hk,inv,hB,h=>by
   have h0:ops[k]?=some o:=by simpa using (hl 0 (by simp)).symm
   simp only[List.length_cons,Region.lexHead,Bool.and_eq_true] at hB;obtain⟨⟨hr,hf⟩,a4⟩:=hB;have a3:k<m:=by simp only[List.length_cons] at hk;omega
   have a2:k∈Region.ready md ops a0:=by simpa using hr
   have a5:qOpIn F n P ops C k (wpQuietIn F n P ops C Lq l) a:=by unfold qOpIn;simp only[h0];exact h
   obtain⟨v,hy,hK⟩:=yieldsQuiet_of_qOpIn h0 a5;exact k7w h0 (Region.noSelect_spec a1) hs hc hn a3 (fun listed' a' hL=>seqB_ready hL.1) l.length a0 a inv (Region.free_spec h0 hf) a2 hy
    (k2m a1 hs hc hn l (k+1) _ _ (fun j hj=>by have:=hl (j+1) (by simp;omega);simpa[Nat.add_assoc,Nat.add_comm 1 j] using this) (by simp only[List.length_cons] at hk;omega) (inv.set a2 a3) a4 hK)
theorem k1d {Q':Exit->Act->World->Prop}:∀ (l:List Oper) (k:Nat) (a0:Array Bool) (a:Act) (w:World),(∀ j,l[j]?=ops[k+j]?) ->
 Region.seqB md ops l.length k a0=true->wpListIn F n P ops Q' l a w->wpAnyIn F n P md ops Q' l.length a0 a w
 | [],_,_,_,_,_,hB,h=>⟨by simpa[Region.seqB] using hB,h⟩
 | o::l,k,a0,a,w,hl,hB,h=>by
   have h0:ops[k]?=some o:=by simpa using (hl 0).symm
   simp only[List.length_cons,Region.seqB,Bool.and_eq_true,decide_eq_true_eq] at hB;refine⟨fun h1=>(by rw[hB.1] at h1;cases h1),fun i hi=>?_⟩
   rw[hB.1] at hi;have a1:i=k:=by simpa using hi
   subst a1;have hw:wpOpIn F n P ops Q' i (wpListIn F n P ops Q' l) a w:=by unfold wpOpIn;simp only[h0];exact h
   exact wpOpIn_mono (fun a' w' h'=>k1d l (i+1) _ a' w' (fun j=>by have:=hl (j+1);simpa[Nat.add_assoc,Nat.add_comm 1 j] using this) hB.2 h') hw
theorem k3v {id:Nat} {Q:Exit->Act->World->Prop} {a:Act} {w:World} {l:List Oper} (m:Nat) (hm:P.follows .mixedOrders=true) (hB:Region.lexTailB .any l.toArray m=true) (a7:k5t l=true)
 (hC:C { w with drawn:=w.drawn+1 })
 (h:wpQuietIn F n P l.toArray C (fun a'=>∀ w',C w'->wpListIn F n P l.toArray Q (l.drop m) a' w') (l.take m) a):(Code.region id l.toArray true).wpIn F n P Q a w:=by
 simp only[Region.lexTailB,Bool.and_eq_true,decide_eq_true_eq] at hB;obtain⟨⟨⟨⟨a3,hn⟩,hs⟩,hc⟩,a2⟩:=hB;have a8:m<l.length:=by simpa using hn
 have a0:(l.take m).length=m:=by simp;omega
 have a5:(l.drop m).length=l.toArray.size-m:=by simp
 have hd:∀ (i:Nat) o,l.toArray[i]?=some o->∀ c,o.op≠.defer c:=by
  intro i o ho c hc;have a4:o∈l:=by
   rw[List.getElem?_toArray] at ho;exact zB4 ho
  have:=List.all_eq_true.1 a7 o a4;rw[hc] at this;cases this
 have a1:HeadInv .any l.toArray m (Array.replicate l.toArray.size false) :=
  ⟨by simp,fun j oj _ hl=>(by rw[getD_replicate_false] at hl;cases hl),fun t _ ht=>getD_in (by simpa using ht) (getD_replicate_false _ _)⟩
 have H:=k2m (C:=C) (F:=F) (n:=n) (P:=P) (md:=.any) (g:=l.toArray.size-m) a3 hs hc hn (l.take m) 0 _ a (fun j hj=>by
  have a6:j<m:=by rw[a0] at hj;exact hj
  simp[a6]) (by simpa using a0) a1 (by rw[a0];exact a2) h
 refine wpIn_region_any hm ?_;have:=k1a (Q':=Q) (g:=l.toArray.size-m) hd (fun listed a' w' hw' hL=>by
  have:=k1d (md:=.any) (Q':=Q) (l.drop m) m listed a' w' (fun j=>by simp[List.getElem?_drop]) (by rw[a5];exact hL.1) (hL.2 w' hw')
  rwa [a5] at this) _ _ _ { w with drawn:=w.drawn+1 } hC H
 rw[a0,show m+(l.toArray.size-m)=l.toArray.size by omega] at this
 exact this
theorem k3u {id:Nat} {Q:Exit->Act->World->Prop} {a:Act} {w:World} {l:List Oper} (m:Nat) (hm:P.follows .mixedOrders=true) (hB:Region.lexTailB .any l.toArray m=true) (a0:k5t l=true)
 (h:wpQuietIn F n P l.toArray (fun w'=>∃ p:Regrown,w'=Sort.grow (redrawn w p.d) p.os) (fun a'=>∀ w',(∃ p:Regrown,w'=Sort.grow (redrawn w p.d) p.os)->wpListIn F n P l.toArray Q (l.drop m) a' w') (l.take m) a):(Code.region id l.toArray true).wpIn F n P Q a w :=
 k3v (C:=fun w'=>∃ p:Regrown,w'=Sort.grow (redrawn w p.d) p.os) m hm hB a0 ⟨⟨w.drawn+1,#[]⟩,by rw[Sort.grow_empty];rfl⟩ h
end
end Go.Proofs.YtmennjmjakdkcaaGreat
