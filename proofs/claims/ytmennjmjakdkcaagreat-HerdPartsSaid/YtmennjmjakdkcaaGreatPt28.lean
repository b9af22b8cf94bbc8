/- HerdParts. -/
import Derived.Test.YtmennjmjakdkcaaGreatPt27
import Derived.ArgAppend
set_option linter.unusedVariables false
set_option linter.unusedSimpArgs false
set_option maxRecDepth 1000000
set_option maxHeartbeats 8000000
namespace Go.Proofs.YtmennjmjakdkcaaGreat
open Go.RowKit Go.MapKept
attribute [local go_sem] Oper.semAt_some
theorem k2n {W W':World} (h:Below W.heap.size W W'):KeepsWalks W W':=⟨h.size,fun k o hk _=>(h.block k (j0a hk)).trans hk⟩
theorem k7k {β:Type} {p:Nat} {O:Int->Obj} {w:World} {B:Nat} (hp:p<w.heap.size) (hB:w.heap.size<=B):OwnFrom B (fun(_:β) W=>NowIn p O w W) :=
 fun _ _ _ _ hs hg hr=>hs.grown hp hg fun i e=>zB6 hB (hr i e).1
theorem k1u {E a0:List (List Int)} {x:List Int} (h:∃ r,(a0++[x]++r).Perm E):x∈E:=by obtain⟨r,hr⟩:=h;exact hr.mem_iff.1 (by simp)
theorem sp_len {E a0:List (List Int)} {x:List Int} (h:∃ r,(a0++[x]++r).Perm E):a0.length+1<=E.length:=by obtain⟨r,hr⟩:=h;have:=hr.length_eq;simp at this;omega
theorem k2k {ps:Array Tmp} {assign body:Code} {Q:Exit->Act->World->Prop} {a:Act} {g:Operand} {w w0 wb:World} {p q:Nat} {b:Hb} {deed owner:Int} (hW:Work w0 p b deed owner w) (hb:NowIn p (b.bk deed owner) wb w) (a5:p<wb.heap.size)
 (hq:w.heap[q]?=some (Obj.cells #[.pointer (some ⟨p,0,none⟩)] 98 (0,0))) (hg:a.eval g=.func (.func 115) #[] #[.pointer (some ⟨q,0,none⟩)]) (a6:ps.size=1)
 (I:List (List Int)->World->Prop) (Ix:Code->List (List Int)->World->Prop) (hI:OwnFrom w.heap.size I) (a7:∀ c,OwnFrom w.heap.size (Ix c)) (a9:∀ s A B,I s A->ExN p A B->I s B) (h0:I [] w)
 (Ax:List Int->Act->World->Prop) (a8:∀ x a',OwnFrom w.heap.size (fun(_:Unit) W=>Ax x a' W))
 (a1:∀ (l:Nat) (a0:List (List Int)) (x:List Int) (W:World) (K:Act->World->Prop),NowIn p (b.bk deed owner) wb W->I a0 W->(∃ r,(a0++[x]++r).Perm (b.ends deed owner)) ->
   (∀ a' W',KeepsFrom w.heap.size W W'->KeepsWalks W W'->NowIn p (b.bk deed owner) wb W'->I a0 W'->Ax x a' W'->K a' W') ->
   assign.wpIn (Fence.wide.inRound l) 7 Tryz.prog (Exit.then K (fun _ _ _=>False)) { tmps:=(ps.zip #[.agg (hcs x)]).foldl (fun t (p,v)=>t.setIfInBounds p v) a.tmps,defers:=[] } W)
 (a3:∀ (l:Nat) (a0:List (List Int)) (x:List Int) (a':Act) (W:World),NowIn p (b.bk deed owner) wb W->I a0 W->Ax x a' W->(∃ r,(a0++[x]++r).Perm (b.ends deed owner)) ->
   body.wpIn (Fence.wide.inRound l) 7 Tryz.prog (k3t w.heap.size (fun s W=>NowIn p (b.bk deed owner) wb W∧I s W) (fun c s W=>NowIn p (b.bk deed owner) wb W∧Ix c s W) (a0++[x]) W) a' W)
 (a4:∀ (D:Nat) (xs:List (List Int)) (W:World),w.heap.size<=D->xs.Perm (b.ends deed owner)->NowIn p (b.bk deed owner) wb W->I xs W->W.heap[D]?=some (.deferred (some []))->Q .normal { a with defers:={ target:=.collected D,args:=#[] }::a.defers } W)
 (a2:∀ (D:Nat) (c:Code) (a0:List (List Int)) (W:World),w.heap.size<=D->(∃ r,(a0++r).Perm (b.ends deed owner))->NowIn p (b.bk deed owner) wb W->Ix c a0 W->W.heap[D]?=some (.deferred (some []))->c.wp Tryz.prog Q { a with defers:={ target:=.collected D,args:=#[] }::a.defers } W) :
 (Code.rangeFunc g ps assign body).wp Tryz.prog Q a w:=by
 have aa:=hW.lt;refine(wpIn_wide (n:=9)).1 ?_;refine q1m rfl (by omega) (gf:=115) (lb:=#[.pointer (some ⟨q,0,none⟩)]) hg trivial (enters_of Tryz.func115 (by kernel_rfl) rfl)
  (ends_it 8 (by omega) w0 p q b deed owner w hW hq) ExN.others (fun _=>a6.symm)
  (fun s W=>NowIn p (b.bk deed owner) wb W∧I s W) (fun c s W=>NowIn p (b.bk deed owner) wb W∧Ix c s W)
  (OwnFrom.and (k7k a5 hb.size) hI) (fun c=>OwnFrom.and (k7k a5 hb.size) (a7 c)) (fun s A B h hx=>⟨by obtain⟨i,rfl⟩:=hx;exact h.1.set i,a9 s A B h.2 hx⟩)
  ⟨hb,h0⟩ Ax a8
  (fun l a0 x W K hi hsp hK=>a1 l a0 x W K hi.1 hi.2 hsp fun a' W' k1 k2 k3 k4 k5=>hK a' W' k1 k2 ⟨k3,k4⟩ k5)
  (fun l a0 x a' W hi hax hsp=>a3 l a0 x a' W hi.1 hi.2 hax hsp)
  (fun D xs W hD hS hi hd=>a4 D xs W hD hS hi.1 hi.2 hd)
  (fun D c a0 W hD hS hi hd=>wpIn_wide.2 (a2 D c a0 W hD hS hi.1 hi.2 hd))
theorem NowIn.undo {p:Nat} {O:Int->Obj} {w W:World} {D:Nat} (h:NowIn p O w W) (hp:p<w.heap.size) (hD:w.heap.size<=D) (o:Obj):NowIn p O w (W.putObj D o) :=
 h.grown hp (grownBy_putObj' W D o) (fun i e=>by cases e;exact hD)
theorem j6f (p:Nat) (w:World) :
 Calls Tryz.prog 82 #[.pointer (some ⟨p,0,none⟩)] w fun e w'=>e=.returned (.func (.func 115) #[] #[.pointer (some ⟨w.heap.size,0,none⟩)])∧w'=w.alloc (.cells #[.pointer (some ⟨p,0,none⟩)] 98):=by
 go_enter Tryz.func82,Tryz.ntmps82
 go_wp2
 go_ret
 exact⟨rfl,rfl⟩
theorem many_any (w0:World) (p:Nat) (b:Hb) (deed owner:Int) (w:World) (hW:Work w0 p b deed owner w) :
 Calls Tryz.prog 56 #[.pointer (some ⟨p,0,none⟩)] w fun e w'=>e=.returned (.int .i64 (b.ends deed owner).length)∧NowIn p (b.bk deed owner) w w':=by
 have a2:=hW.lt;refine(callsIn_wide (n:=9)).1 ?_;refine callsIn_of_wp_marks Tryz.func56 rfl trivial ?_ rfl;simp only[Tryz.ntmps56,List.size_toArray,List.length_cons,List.length_nil,Nat.reduceAdd,Nat.reduceSub,Array.replicate_succ,Array.replicate_zero,List.push_toArray,List.append_toArray,nl9];refine wpIn_wide.2 ?_;go_wp2_with (go_at_call 82;refine(j6f p _).mono ?_;rintro e w' ⟨rfl,rfl⟩)
 obtain⟨r,hr⟩:∃ r,r=w.heap.size:=⟨_,rfl⟩;obtain⟨w1,a1⟩:∃ w1,w1=(w.alloc (.cells #[.int .i64 0] 3)).alloc (.cells #[.pointer (some ⟨p,0,none⟩)] 98):=⟨_,rfl⟩;have br:w1.heap[r]?=some (.cells #[.int .i64 0] 3 (0,0)):=by rw[a1,hr];exact j0b (j0c rfl) _
 have bq:w1.heap[r+1]?=some (.cells #[.pointer (some ⟨p,0,none⟩)] 98 (0,0)):=by rw[a1,hr];exact j0c (by simp)
 have a4:Below w.heap.size w w1:=by rw[a1];exact bal (bal0 w _) (zL9 _) _
 have a7:r+1<w1.heap.size:=j0a bq;have a8:p<r:=by omega
 have a6:=q4l (deed:=deed) (owner:=owner) hW.ok;have HW:=zQ9 (zA9 hW a4);rw[<-a1,<-hr];have HR:=zQ9 hr;clear a1 hr hW a4;refine k2k (HW.o.1.below HW.o.2 (zL9 _)) (NowIn.of_below HW.o.2 HW.o.1.hp (zL9 _)) a2 bq rfl rfl
  (fun a0 W=>W.heap[r]?=some (.cells #[.int .i64 (a0.length:Int)] 3 (0,0))) (fun _ _ _=>False)
  (fun s A B row hs hg hr=>j2z hs rfl hg (fun i e=>(hr i e).2)) (fun c s A B row hs hg hr=>hs.elim) (fun s A B hs hx=>by obtain⟨i,rfl⟩:=hx;exact(zB1 _ ⟨p,7,none⟩ _ _ (show r≠p by omega)).trans hs) br
  (fun x a' W=>a'={ tmps:=#[.pointer (some ⟨p,0,none⟩),undef,.int .i64 0,.pointer (some ⟨r,0,none⟩),.pointer (some ⟨p,0,none⟩),.func (.func 115) #[] #[.pointer (some ⟨r+1,0,none⟩)],.agg (hcs x),undef,undef,undef],defers:=[] })
  (fun x a' s A B row hs hg hr=>hs) ?assign ?body ?done ?stop
 case assign =>
  intro l a0 x W K hN hI hx hK;gi_wp2
  exact hK _ W (KeepsFrom.refl _ _) (KeepsWalks.refl _) hN hI (by simp)
 case body =>
  rintro l a0 x a' W hN hI rfl hx;have c0:=blk1 hI;have f0:=frz hI 0;have a5:=sp_len hx;have i0:(0:Int)<=(a0.length:Int):=by omega
  have i1:(a0.length:Int)+1<=9223372036854775807:=by have:(b.ends deed owner).length<=1152921504606846976:=a6;omega
  have HN:=zQ9 (zA9 hN hI);clear hN hI hx a5;gi_wp2
  have a9:=j0a HN.o.2;refine⟨(KeepsOthers.setCell _ _ _).from _,(KeepsOthers.setCell _ _ _).walks,?_,?_⟩
  ·have aa:=HR.o;exact HN.o.1.then a2 rfl rfl rfl (by simpa using HN.o.1.size) (fun k hk=>zB1 _ ⟨r,0,none⟩ _ _ (show k≠r by omega))
  ·show(W.setCell ⟨r,0,none⟩ _).heap[r]?=_;rw[j0g HN.o.2];simp
 case done =>
  rintro D xs W hD hS hN hI hd;have c0:=blk1 hI;have HN:=zQ9 (zA9 hN hS);have a3:=hS.length_eq;rw[a3] at c0;clear hN hS hI a3;go_wp2
  refine⟨by simp,.inl ⟨_,_,rfl,run_takeDeferred hd,?_⟩⟩
  refine⟨_,results_tmp rfl _ _ _,rfl,?_⟩;exact HN.o.1.undo a2 (by have:=HW.o.2.size;omega) _
 case stop=>exact fun D c a0 W _ _ _ h=>h.elim
theorem j9d (w0:World) (p:Nat) (b:Hb) (deed owner:Int) (w:World) (hW:Work w0 p b deed owner w) :
 Calls Tryz.prog 81 #[.pointer (some ⟨p,0,none⟩)] w fun e w'=>e=.returned (.bool (!decide (b.ends deed owner=[])))∧NowIn p (b.bk deed owner) w w':=by
 have a2:=hW.lt;refine(callsIn_wide (n:=9)).1 ?_;refine callsIn_of_wp_marks Tryz.func81 rfl trivial ?_ rfl;simp only[Tryz.ntmps81,List.size_toArray,List.length_cons,List.length_nil,Nat.reduceAdd,Nat.reduceSub,Array.replicate_succ,Array.replicate_zero,List.push_toArray,List.append_toArray,nl9];refine wpIn_wide.2 ?_;go_wp2_with (go_at_call 82;refine(j6f p _).mono ?_;rintro e w' ⟨rfl,rfl⟩)
 try go_step3
 go_wp2_with (go_at_call 82;refine(j6f p _).mono ?_;rintro e w' ⟨rfl,rfl⟩)
 try go_step3
 go_wp2_with (go_at_call 82;refine(j6f p _).mono ?_;rintro e w' ⟨rfl,rfl⟩)
 obtain⟨r,hr⟩:∃ r,r=w.heap.size:=⟨_,rfl⟩;obtain⟨w1,a1⟩:∃ w1,w1=(w.alloc (.cells #[.bool false] 4)).alloc (.cells #[.pointer (some ⟨p,0,none⟩)] 98):=⟨_,rfl⟩;have br:w1.heap[r]?=some (.cells #[.bool false] 4 (0,0)):=by rw[a1,hr];exact j0b (j0c rfl) _
 have bq:w1.heap[r+1]?=some (.cells #[.pointer (some ⟨p,0,none⟩)] 98 (0,0)):=by rw[a1,hr];exact j0c (by simp)
 have a3:Below w.heap.size w w1:=by rw[a1];exact bal (bal0 w _) (zL9 _) _
 have a5:r+1<w1.heap.size:=j0a bq;have a6:p<r:=by omega
 have HW:=zQ9 (zA9 hW a3);rw[<-a1,<-hr];have HR:=zQ9 hr;clear a1 hr hW a3;refine k2k (HW.o.1.below HW.o.2 (zL9 _)) (NowIn.of_below HW.o.2 HW.o.1.hp (zL9 _)) a2 bq rfl rfl
  (fun a0 W=>a0=[]∧W.heap[r]?=some (.cells #[.bool false] 4 (0,0))) (fun c a0 W=>c=.exit 0∧a0≠[]∧W.heap[r]?=some (.cells #[.bool true] 4 (0,0)))
  (fun s A B row hs hg hr=>⟨hs.1,j2z hs.2 rfl hg (fun i e=>(hr i e).2)⟩) (fun c s A B row hs hg hr=>⟨hs.1,hs.2.1,j2z hs.2.2 rfl hg (fun i e=>(hr i e).2)⟩) (fun s A B hs hx=>⟨hs.1,by obtain⟨i,rfl⟩:=hx;exact(zB1 _ ⟨p,7,none⟩ _ _ (show r≠p by omega)).trans hs.2⟩) ⟨rfl,br⟩
  (fun x a' W=>a'={ tmps:=#[.pointer (some ⟨p,0,none⟩),undef,.bool false,.pointer (some ⟨r,0,none⟩),.pointer (some ⟨p,0,none⟩),.func (.func 115) #[] #[.pointer (some ⟨r+1,0,none⟩)],.agg (hcs x),undef],defers:=[] })
  (fun x a' s A B row hs hg hr=>hs) ?assign ?body ?done ?stop
 case assign =>
  intro l a0 x W K hN hI hx hK;gi_wp2
  exact hK _ W (KeepsFrom.refl _ _) (KeepsWalks.refl _) hN hI (by simp)
 case body =>
  rintro l a0 x a' W hN hI rfl hx;have c0:=blk1 hI.2;have f0:=frz hI.2 0;have HN:=zQ9 (zA9 hN hI);clear hN hI hx;gi_wp2
  have a7:=j0a HN.o.2.2;refine⟨(KeepsOthers.setCell _ _ _).from _,?_,rfl,by simp,?_⟩
  ·have a8:=HR.o;exact HN.o.1.then a2 rfl rfl rfl (by simpa using HN.o.1.size) (fun k hk=>zB1 _ ⟨r,0,none⟩ _ _ (show k≠r by omega))
  ·show(W.setCell ⟨r,0,none⟩ _).heap[r]?=_;rw[j0g HN.o.2.2];simp
 case done =>
  rintro D xs W hD hS hN hI hd;have c0:=blk1 hI.2;have HN:=zQ9 (zA9 hN (zA9 hS hI.1));clear hN hS hI;go_wp2
  rw[Exit.noGoto_ret];refine⟨by simp,.inl ⟨_,_,rfl,run_takeDeferred hd,?_⟩⟩
  refine⟨_,results_tmp rfl _ _ _,?_,?_⟩
  ·have h:=HN.o.2.1;rw[HN.o.2.2] at h;rw[h.nil_eq.symm];rfl
  ·exact HN.o.1.undo a2 (by have:=HW.o.2.size;omega) _
 case stop =>
  rintro D c a0 W hD hS hN ⟨rfl,a4,hI⟩ hd;have c0:=blk1 hI;have HN:=zQ9 (zA9 hN (zA9 hS a4));clear hN hS hI a4;go_wp2
  rw[Exit.noGoto_ret];refine⟨by simp,.inl ⟨_,_,rfl,run_takeDeferred hd,?_⟩⟩
  refine⟨_,results_tmp rfl _ _ _,?_,?_⟩
  ·obtain⟨r,hr⟩:=HN.o.2.1;have:b.ends deed owner≠[]:=fun e=>by
    rw[e] at hr;have:=hr.length_eq;simp at this;exact HN.o.2.2 this.1
   rw[decide_eq_false this];rfl
  ·exact HN.o.1.undo a2 (by have:=HW.o.2.size;omega) _
theorem k2o {t:Int} {l:List Mk} {ks:List Int} {hs:List (List Int)} {ds:List De} {d:De} (h:j3m t l ks hs ds=0) (h6:ds.length<6) (hd:j0v l.length ks.length d=0):j3m t l ks hs (ds++[d])=0:=by
 unfold j3m at h ⊢;by_cases h1:check t l=0
 ·rw[if_neg (by rw[h1];simp)] at h ⊢
  by_cases h2:j1k l.length ks hs=0
  ·rw[if_neg (by rw[h2];simp)] at h ⊢
   rw[if_neg (by omega)] at h
   rw[if_neg (by rw[List.length_append,List.length_singleton];omega)]
   rw[j3i _ _ ds d h];exact hd
  ·rw[if_pos h2] at h;exact absurd h h2
 ·rw[if_pos h1] at h;exact absurd h h1
def j0x (b:Hb) (d:De):Int :=
 if b.chk≠0 then b.chk else if 6<=b.ds.length then 6 else if j0v b.l.length b.ks.length d≠0 then j0v b.l.length b.ks.length d
 else if b.ends (-1) 0≠[]∧j2l b.t b.l b.hs (b.ds++[d]) (-1) 0=[] then 12 else 0
def k3z (b:Hb) (d:De) (w:World) (e:Ending) (w':World):Prop :=
 ((j0x b d=0∧∃ A c Ak ck Ah ch Ad cd,e=.returned (.tuple #[Hb.v ⟨b.t,A,c,b.l,Ak,ck,b.ks,Ah,ch,b.hs,Ad,cd,b.ds++[d]⟩,.int .i64 0])∧HbO w' w.heap.size ⟨b.t,A,c,b.l,Ak,ck,b.ks,Ah,ch,b.hs,Ad,cd,b.ds++[d]⟩) ∨
   (j0x b d≠0∧e=.returned (.tuple #[.agg #[.int .i64 0,.slice none 0 0,.slice none 0 0,.slice none 0 0,.slice none 0 0],.int .i64 (j0x b d)])))∧Below w.heap.size w w'
theorem j3d {q:Nat} {w W Z:World} (h:W.heap[q]?=some (boxO 0 (.slice none 0 0) (.slice none 0 0) (.slice none 0 0) (.slice none 0 0)))
 (hZ:Z=(((((W.setCell ⟨q,0,none⟩ (.int .i64 0)).setCell ⟨q,1,none⟩ (.slice none 0 0)).setCell ⟨q,2,none⟩ (.slice none 0 0)).setCell ⟨q,3,none⟩ (.slice none 0 0)).setCell ⟨q,4,none⟩ (.slice none 0 0)))
 (hB:Below w.heap.size w W) (hq:w.heap.size<=q):Z.heap[q]?=some (boxO 0 (.slice none 0 0) (.slice none 0 0) (.slice none 0 0) (.slice none 0 0))∧Below w.heap.size w Z:=by
 subst hZ;refine⟨(j0g (j0g (j0g (j0g (j0g h))))).trans (by simp[boxO]),?_⟩
 exact Below.setCell (Below.setCell (Below.setCell (Below.setCell (Below.setCell hB (p:=⟨q,0,none⟩) hq _) (p:=⟨q,1,none⟩) hq _) (p:=⟨q,2,none⟩) hq _) (p:=⟨q,3,none⟩) hq _) (p:=⟨q,4,none⟩) hq _
theorem j4c {q:Nat} {w W Z:World} {t:Int} {v1 v2 v3 v4:Value} (h:W.heap[q]?=some (boxO 0 (.slice none 0 0) (.slice none 0 0) (.slice none 0 0) (.slice none 0 0)))
 (hZ:Z=(((((W.setCell ⟨q,0,none⟩ (.int .i64 t)).setCell ⟨q,1,none⟩ v1).setCell ⟨q,2,none⟩ v2).setCell ⟨q,3,none⟩ v3).setCell ⟨q,4,none⟩ v4))
 (hB:Below w.heap.size w W) (hq:w.heap.size<=q):Z.heap[q]?=some (boxO t v1 v2 v3 v4)∧Below w.heap.size w Z∧W.grownBy Z (some q):=by
 have hz:Z.heap[q]?=some (boxO t v1 v2 v3 v4):=by
  rw[hZ];have h0:=j0g (i:=0) (v:=.int .i64 t) h;have h1:=j0g (i:=1) (v:=v1) h0;have h2:=j0g (i:=2) (v:=v2) h1;have h3:=j0g (i:=3) (v:=v3) h2;have h4:=j0g (i:=4) (v:=v4) h3;exact h4.trans (by simp[boxO])
 have a2:∀ j,j≠q->Z.heap[j]?=W.heap[j]?:=fun j hj=>by
  rw[hZ,zB1 _ ⟨q,4,none⟩ _ j hj,zB1 _ ⟨q,3,none⟩ _ j hj,zB1 _ ⟨q,2,none⟩ _ j hj,zB1 _ ⟨q,1,none⟩ _ j hj,zB1 _ ⟨q,0,none⟩ _ j hj]
 have a3:Below W.heap.size W W:=zB2 _ _;have a0:(0:Nat)<=q:=Nat.zero_le _;have a1:Below 0 W Z:=by
  rw[hZ];exact Below.setCell (Below.setCell (Below.setCell (Below.setCell (Below.setCell (a3.mono (Nat.zero_le _)) (p:=⟨q,0,none⟩) a0 _) (p:=⟨q,1,none⟩) a0 _) (p:=⟨q,2,none⟩) a0 _) (p:=⟨q,3,none⟩) a0 _) (p:=⟨q,4,none⟩) a0 _
 have hg:W.grownBy Z (some q):=⟨a1.os,a1.tape,a1.output,a1.size,fun j _ hne=>a2 j fun e=>hne (by rw[e])⟩
 exact⟨hz,hB.grown hg hB.size (fun k e=>by cases e;exact hq),hg⟩
theorem HbO.keptG {w w':World} {base H:Nat} {b:Hb} (h:HbO w base b) (hg:w.grownBy w' (some H)) (hH:H<base):HbO w' base b:=⟨h.m.keptH hg hH,h.k.keptH hg hH,h.h.keptH hg hH,h.d.keptH hg hH⟩
theorem HbO.now {w w':World} {base p:Nat} {b:Hb} {O:Int->Obj} (h:HbO w base b) (hN:NowIn p O w w') (hp:p<base):HbO w' base b :=
 h.keptG ⟨hN.os,hN.tape,hN.output,hN.size,fun j hj hne=>hN.block j hj fun e=>hne (by rw[e])⟩ hp
theorem q3t (b:Hb) (d:De) (w:World) (hin:HbIn w b):Calls Tryz.prog 24 #[b.v,dv d] w (k3z b d w):=by
 obtain⟨V,hV⟩:∃ V,V=((w.alloc b.obj).alloc (dObj d)).alloc (Obj.cells #[.int .i64 0,.slice none 0 0,.slice none 0 0,.slice none 0 0,.slice none 0 0] 29):=⟨_,rfl⟩;obtain⟨g,hg⟩:∃ g,g=w.heap.size:=⟨_,rfl⟩;have b0:V.heap[g]?=some b.obj:=by rw[hV,hg];exact j0b (j0b (j0c rfl) _) _
 have b1:V.heap[g+1]?=some (dObj d):=by rw[hV,hg];exact j0b (j0c (by simp)) _
 have b2:V.heap[g+1+1]?=some (boxO 0 (.slice none 0 0) (.slice none 0 0) (.slice none 0 0) (.slice none 0 0)):=by rw[hV,hg];exact j0c (by simp)
 have bm:Below w.heap.size w V:=by rw[hV];exact bal (bal (bal0 w _) (zL9 _) _) (zL9 _) _
 have bp:=hin.below bm (zL9 _);have c7:V.heap.size=g+3:=by rw[hV,hg];simp
 obtain⟨c0,c1,c2,c3,c4⟩:=j0h b0;have b4:=j6w b V bp;unfold Hb.v at b4;have ag:=zQ9 hg;have HV:=zQ9 (zA9 bm (zA9 b0 (zA9 b1 (zA9 b2 (zA9 bp (zA9 c7 hg))))));unfold Hb.v dv;go_enter Tryz.func24,Tryz.ntmps24
 go_upto_region 1 with (fail)
 rw[<-hV,<-hg];have cv:=j0a b0;have cz:=j0a b1;have cy:=j0a b2;clear hV hg hin bm bp b0 b1 b2 c7;obtain⟨R,hR⟩:∃ R,R=j3z b b.chk V:=⟨_,rfl⟩;rw[<-hR] at b4;have HR:=zQ9 hR;clear hR;go_upto_region 2 with (go_at_call 55;refine b4.mono ?_;rintro e w2 bs;rw[HR.o] at bs;unfold j3z at bs;rcases bs with ⟨h0,rfl,ac⟩|⟨h0,p,rfl,af,ac⟩)
 ·have xf:(b.chk != 0)=true:=by simp[h0]
  have y2:=j0e HV.o.2.2.2.1 ac (zL9 _);have ae:=HV.o.1.trans (ac.mono HV.o.1.size);have a4:j0x b d=b.chk:=by unfold j0x;rw[if_pos h0]
  have cf:=zQ9 h0;have aa:=zQ9 a4;clear h0 a4;obtain⟨d0,d1,d2,d3,d4⟩:=blk5 y2;obtain⟨e0,e1,e2,e3,e4⟩:=zA9 (frz y2 0) (zA9 (frz y2 1) (zA9 (frz y2 2) (zA9 (frz y2 3) (frz y2 4))));have b6:=j0a y2;have HY:=zQ9 (zA9 y2 ae);clear y2;go_wp2_with fail
  obtain⟨Z,hZ⟩:∃ Z,Z=(((((w2.setCell ⟨g+1+1,0,none⟩ (.int .i64 0)).setCell ⟨g+1+1,1,none⟩ (.slice none 0 0)).setCell ⟨g+1+1,2,none⟩ (.slice none 0 0)).setCell ⟨g+1+1,3,none⟩ (.slice none 0 0)).setCell ⟨g+1+1,4,none⟩ (.slice none 0 0)):=⟨_,rfl⟩;rw[<-hZ];obtain⟨a0,a3⟩:=j3d HY.o.1 hZ HY.o.2 (by rw[<-ag.o];omega)
  clear hZ;obtain⟨p0,p1,p2,p3,p4⟩:=blk5 a0;have a9:=j0a a0;have HZ:=zQ9 a3;have HE:=zQ9 (zA9 (aa.o) (cf.o));clear a0 a3 d0 d1 d2 d3 d4 e0 e1 e2 e3 e4;refine bodyPost_ret (v:=.tuple #[.agg #[.int .i64 0,.slice none 0 0,.slice none 0 0,.slice none 0 0,.slice none 0 0],.int .i64 (b.chk)]) (by simp[results,Tryz.f24,go_sem,p0,p1,p2,p3,p4,a9]) rfl ⟨.inr ⟨by rw[HE.o.1];exact HE.o.2,by rw[HE.o.1]⟩,HZ.o⟩
 have ae:=HV.o.1.trans (ac.mono HV.o.1.size);have x2:=j0e HV.o.2.1 ac (zL9 _);have z2:=j0e HV.o.2.2.1 ac (zL9 _);have y2:=j0e HV.o.2.2.2.1 ac (zL9 _);have bq:=af.ok;have cu:g+1+1<p:=by have:=af.hz;omega
 have cA:=af.lt;clear c0 c1 c2 c3 c4 b4;obtain⟨c0,c1,c2,c3,c4⟩:=j0h x2;have cB:=bq.d6;have ce:=ac.size;have H2:=zQ9 (zA9 ae (zA9 x2 (zA9 z2 (zA9 af (zA9 h0 bq)))));clear h0 bq x2 z2 ac ce;by_cases h6:6<=b.ds.length
 ·have a4:j0x b d=6:=by unfold j0x;rw[if_neg (by rw[H2.o.2.2.2.2.1];simp),if_pos h6]
  have aa:=zQ9 a4;have cb:(6:Int)<=(b.ds.length:Int):=by omega
  clear a4 h6 af;obtain⟨d0,d1,d2,d3,d4⟩:=blk5 y2;obtain⟨e0,e1,e2,e3,e4⟩:=zA9 (frz y2 0) (zA9 (frz y2 1) (zA9 (frz y2 2) (zA9 (frz y2 3) (frz y2 4))));have b6:=j0a y2;have HY:=zQ9 (zA9 y2 ae);clear y2;go_wp2_with fail
  obtain⟨Z,hZ⟩:∃ Z,Z=(((((w2.setCell ⟨g+1+1,0,none⟩ (.int .i64 0)).setCell ⟨g+1+1,1,none⟩ (.slice none 0 0)).setCell ⟨g+1+1,2,none⟩ (.slice none 0 0)).setCell ⟨g+1+1,3,none⟩ (.slice none 0 0)).setCell ⟨g+1+1,4,none⟩ (.slice none 0 0)):=⟨_,rfl⟩;rw[<-hZ];obtain⟨a0,a3⟩:=j3d HY.o.1 hZ HY.o.2 (by rw[<-ag.o];omega)
  clear hZ;obtain⟨p0,p1,p2,p3,p4⟩:=blk5 a0;have a9:=j0a a0;have HZ:=zQ9 a3;have HE:=zQ9 (zA9 (aa.o) (show(6:Int)≠0 by decide))
  clear a0 a3 d0 d1 d2 d3 d4 e0 e1 e2 e3 e4;refine bodyPost_ret (v:=.tuple #[.agg #[.int .i64 0,.slice none 0 0,.slice none 0 0,.slice none 0 0,.slice none 0 0],.int .i64 (6)]) (by simp[results,Tryz.f24,go_sem,p0,p1,p2,p3,p4,a9]) rfl ⟨.inr ⟨by rw[HE.o.1];exact HE.o.2,by rw[HE.o.1]⟩,HZ.o⟩
 obtain⟨now,bw⟩:=af.hp;have aH:=k4b p b (-1) 0 now d w2 bw af.inn H2.o.2.2.2.2.2.ck;unfold dv at aH;obtain⟨z0,z1,z2,z3,z4,z5,z6,z7,z8,z9,az,aw⟩:=blkD H2.o.2.2.1;have cj:=j0a H2.o.2.1;have cp:=j0a H2.o.2.2.1;have cb:¬(6:Int)<=(b.ds.length:Int):=by omega
 obtain⟨E,hE⟩:∃ E,E=j0v b.l.length b.ks.length d:=⟨_,rfl⟩;rw[<-hE] at aH;have av:=zQ9 hE;have aF:=zQ9 h6;clear hE bw af h6;go_upto_region 7 with (go_at_call 65;refine aH.mono ?_;rintro e w3 ⟨rfl,an⟩)
 have bi:=ae.trans (an.mono ae.size);have y3:=j0e y2 an (zL9 _);have x3:=j0e H2.o.2.1 an (zL9 _);have u3:=j0e H2.o.2.2.1 an (zL9 _);have cw:=an.size;have ba:=zQ9 an;clear c0 c1 c2 c3 c4 z0 z1 z2 z3 z4 z5 z6 z7 z8 z9 az aw an y2 aH;by_cases hE0:E=0
 ·subst hE0;obtain⟨c0,c1,c2,c3,c4⟩:=j0h x3;obtain⟨z0,z1,z2,z3,z4,z5,z6,z7,z8,z9,az,aw⟩:=blkD u3;have bn:=own_any b w3 (H2.o.2.2.2.1.inn.below ba.o (zL9 _)) (by have:=H2.o.2.2.2.2.2.n5;omega) (by have:=H2.o.2.2.2.2.2.f3;omega) (by have:=H2.o.2.2.2.2.2.f3;have:=H2.o.2.2.2.2.2.hl;omega) (by omega) (fun r hr=>by have:=H2.o.2.2.2.2.2.n5;have:=H2.o.2.2.2.2.2.rl r hr;omega)
  unfold Hb.v at bn;have H3:=zQ9 (zA9 x3 (zA9 u3 (zA9 y3 bi)));clear x3 u3 y3 bi ae;go_upto_region 10 with (go_at_call 91;refine bn.mono ?_;rintro e w4 ⟨⟨A1,a1,Ak,ak,Ah,ah,Ad,ad,rfl,hO⟩,be⟩;unfold Hb.v;dsimp only)
  obtain⟨q,hq⟩:∃ q,q=w4.heap.size:=⟨_,rfl⟩;obtain⟨w5,aC⟩:∃ w5,w5=w4.alloc (.cells #[.int .i64 b.t,.slice A1 b.l.length a1,.slice Ak b.ks.length ak,.slice Ah b.hs.length ah,.slice Ad b.ds.length ad] 29):=⟨_,rfl⟩;rw[<-aC,<-hq];have q5:w5.heap[q]?=some (boxO b.t (.slice A1 b.l.length a1) (.slice Ak b.ks.length ak) (.slice Ah b.hs.length ah) (.slice Ad b.ds.length ad)):=by rw[aC,hq];exact j0c rfl
  have br:Below w3.heap.size w3 w5:=by rw[aC];exact bal be (zL9 _) _
  have c9:HbO w5 w3.heap.size ⟨b.t,A1,a1,b.l,Ak,ak,b.ks,Ah,ah,b.hs,Ad,ad,b.ds⟩:=by rw[aC];exact hO.below (bal0 w4 _) (zL9 _)
  have cr:w3.heap.size<=q:=by rw[hq];exact be.size
  clear aC hq hO be bn c0 c1 c2 c3 c4 z0 z1 z2 z3 z4 z5 z6 z7 z8 z9 az aw;have u5:=j0e H3.o.2.1 br (zL9 _);obtain⟨z0,z1,z2,z3,z4,z5,z6,z7,z8,z9,az,aw⟩:=blkD u5;obtain⟨c0,c1,c2,c3,c4⟩:=blk5 q5;have fq:=frz q5 4;have bC:=j0a q5;have cg:=j0a u5;have H5:=zQ9 (zA9 q5 (zA9 br c9));clear q5 br c9 u5;have cq:b.ds.length<4294967296:=by omega
  go_upto_region 11 with (at_builtin;refine j9x j9q rfl (.tmp 34) (.tmp 36) rfl w3.heap.size _ b.ds d _ rfl rfl rfl rfl (j7r _) H5.o.2.2.d cq ?_ ?_ ?_;(decide);(omega);intro gd cd w6 c6 bu c8;have bz:(Hb.vd ⟨b.t,A1,a1,b.l,Ak,ak,b.ks,Ah,ah,b.hs,Ad,ad,b.ds⟩).ownBlock≠some q:=H5.o.2.2.d.ne' H5.o.1 (by decide);have q6:w6.heap[q]?=_:=(bu.block q bC (fun e=>bz e.symm)).trans H5.o.1;have k4:=(blk5 q6).2.2.2.2;have cc:=frz q6 4;have bt:=j0a q6;have H6:=zQ9 (zA9 q6 (zA9 c6 (zA9 bu c8)));clear q6 c6 bu c8 bz)
  obtain⟨w7,ay⟩:∃ w7,w7=w6.setCell ⟨q,4,none⟩ (.slice (some ⟨gd,0,none⟩) (b.ds.length+1) cd):=⟨_,rfl⟩;rw[<-ay];have q7:w7.heap[q]?=some (boxO b.t (.slice A1 b.l.length a1) (.slice Ak b.ks.length ak) (.slice Ah b.hs.length ah) (.slice (some ⟨gd,0,none⟩) (b.ds.length+1) cd)):=by rw[ay];exact(j0g H6.o.1).trans (by simp[boxO])
  have aB:w6.grownBy w7 (some q):=by rw[ay];exact⟨rfl,rfl,rfl,by simp,fun j _ hne=>zB1 _ ⟨q,4,none⟩ _ j (fun e=>hne (by rw[e]))⟩
  have bB:Below w3.heap.size w3 w7:=by
   rw[ay];exact Below.setCell (H5.o.2.1.trans H6.o.2.2.2) (p:=⟨q,4,none⟩) cr _
  have ar:HbO w7 w3.heap.size ⟨b.t,A1,a1,b.l,Ak,ak,b.ks,Ah,ah,b.hs,some ⟨gd,0,none⟩,cd,b.ds++[d]⟩:=by
   have aG:=H5.o.2.2.d;have aE:=H6.o.2.2.1;refine⟨?_,?_,?_,?_⟩
   ·have h:=H5.o.2.2.m.kept aE (j0y H5.o.2.2.m aG (by decide))
    exact h.kept aB (.inr (h.ne' H6.o.1 (by decide)))
   ·have h:=H5.o.2.2.k.kept aE (j0y H5.o.2.2.k aG (by decide))
    exact h.kept aB (.inr (h.ne' H6.o.1 (by decide)))
   ·obtain⟨mv,h1,h2⟩:=H5.o.2.2.h;have h:OwnG w6 w3.heap.size (Hb.vh ⟨b.t,A1,a1,b.l,Ak,ak,b.ks,Ah,ah,b.hs,Ad,ad,b.ds⟩) b.hs :=
     ⟨mv,h1.kept aE (j0y h1 aG (by decide)),Rws.kept h2 aE (fun x hx=>by
      obtain⟨k,hk⟩:=List.getElem?_of_mem hx;obtain⟨l,_,ho⟩:=h2.2 k x hk;exact j0y ho aG (by decide))⟩
    exact h.keptB aB H6.o.1
   ·have h:=H6.o.2.1;have h':=h.kept aB (.inr (h.ne' H6.o.1 (by decide)))
    unfold Hb.vd;rw[List.length_append,List.length_singleton];exact h'
  have H7:=zQ9 (zA9 q7 (zA9 bB ar));clear ay q7 aB bB ar k4 cc bt c0 c1 c2 c3 c4 z0 z1 z2 z3 z4 z5 z6 z7 z8 z9 az aw bC cg fq;have bj:=H2.o.2.2.2.1.below (ba.o.trans (H7.o.2.1.mono ba.o.size)) (zL9 _);have bo:=j9d V p b (-1) 0 w7 bj;obtain⟨tb,bv⟩:∃ tb,tb=!decide (b.ends (-1) 0=[]):=⟨_,rfl⟩;rw[<-bv] at bo;have bG:=zQ9 bv;have cx:=zQ9 bj;clear bv bj;have bE:q≠p:=by omega
  have b9:j2l b.t b.l b.hs (b.ds++[d]) (-1) 0=Hb.ends ⟨b.t,A1,a1,b.l,Ak,ak,b.ks,Ah,ah,b.hs,some ⟨gd,0,none⟩,cd,b.ds++[d]⟩ (-1) 0:=rfl;have ao:Hb.chk ⟨b.t,A1,a1,b.l,Ak,ak,b.ks,Ah,ah,b.hs,some ⟨gd,0,none⟩,cd,b.ds++[d]⟩=0:=k2o H2.o.2.2.2.2.1 (by omega) av.o.symm
  obtain⟨b',b3⟩:∃ b':Hb,b'=⟨b.t,A1,a1,b.l,Ak,ak,b.ks,Ah,ah,b.hs,some ⟨gd,0,none⟩,cd,b.ds++[d]⟩:=⟨_,rfl⟩;have c5:b'.v=.agg #[.int .i64 b.t,.slice A1 b.l.length a1,.slice Ak b.ks.length ak,.slice Ah b.hs.length ah,.slice (some ⟨gd,0,none⟩) (b.ds.length+1) cd]:=by rw[b3];unfold Hb.v;simp
  have ar:=H7.o.2.2;rw[<-b3] at ar ao b9;have a5:=zQ9 (zA9 b3 (zA9 c5 (zA9 ar (zA9 ao b9))));clear b3 c5 ar ao b9;cases tb with
  | false =>
    have a4:j0x b d=0:=by
     unfold j0x;rw[if_neg (by rw[H2.o.2.2.2.2.1];simp),if_neg aF.o,if_neg (by rw[<-av.o];simp),if_neg]
     rintro⟨h,-⟩;have:=bG.o;simp at this;exact h this
    have aa:=zQ9 a4;clear a4;go_wp2_with (go_at_call 81;refine bo.mono ?_;rintro e w8 ⟨rfl,hN⟩;have aj:=hN.blk H7.o.1 bE;have a2:=hN.blk (j0e H3.o.2.2.1 H7.o.2.1 (zL9 _)) (show g+1+1≠p by omega);have a8:=a5.o.2.2.1.now hN (by omega);have a6:=(H3.o.2.2.2.trans (H7.o.2.1.mono H3.o.2.2.2.size)).trans (hN.less (show w.heap.size<=p by have:=ag.o;omega) (by have:=H3.o.2.2.2.size;have:=H7.o.2.1.size;omega));obtain⟨c0,c1,c2,c3,c4⟩:=blk5 aj;obtain⟨d0,d1,d2,d3,d4⟩:=blk5 a2;obtain⟨e0,e1,e2,e3,e4⟩:=zA9 (frz a2 0) (zA9 (frz a2 1) (zA9 (frz a2 2) (zA9 (frz a2 3) (frz a2 4))));have b6:=j0a a2;have co:=j0a aj;have HY:=zQ9 (zA9 a2 (zA9 a8 (zA9 a6 aa.o)));clear hN a2 aj a8 a6)
    obtain⟨Z,hZ⟩:∃ Z,Z=(((((w8.setCell ⟨g+1+1,0,none⟩ (.int .i64 b.t)).setCell ⟨g+1+1,1,none⟩ (.slice A1 b.l.length a1)).setCell ⟨g+1+1,2,none⟩ (.slice Ak b.ks.length ak)).setCell ⟨g+1+1,3,none⟩ (.slice Ah b.hs.length ah)).setCell ⟨g+1+1,4,none⟩ (.slice (some ⟨gd,0,none⟩) (b.ds.length+1) cd)):=⟨_,rfl⟩;rw[<-hZ];obtain⟨a0,a3,aD⟩:=j4c HY.o.1 hZ HY.o.2.2.1 (by rw[<-ag.o];omega)
    clear hZ;have aq:=(HY.o.2.1.keptG aD (show g+1+1<w3.heap.size by omega)).mono (show w.heap.size<=w3.heap.size from H3.o.2.2.2.size)
    rw[a5.o.1] at aq;obtain⟨p0,p1,p2,p3,p4⟩:=blk5 a0;have a9:=j0a a0;have HZ:=zQ9 (zA9 aq a3);have am:=a5.o.2.1;rw[a5.o.1] at am;clear a0 a3 aD aq;refine bodyPost_ret (v:=.tuple #[Hb.v ⟨b.t,A1,a1,b.l,Ak,ak,b.ks,Ah,ah,b.hs,some ⟨gd,0,none⟩,cd,b.ds++[d]⟩,.int .i64 0]) (by rw[am];clear am;simp[results,Tryz.f24,go_sem,p0,p1,p2,p3,p4,a9]) rfl ⟨.inl ⟨HY.o.2.2.2,_,_,_,_,_,_,_,_,rfl,HZ.o.1⟩,HZ.o.2⟩
  | true =>
    go_wp2_with (first
     | (go_at_call 81;with_reducible refine bo.mono ?_;rintro e w8 ⟨rfl,hN⟩;have q8:=hN.blk H7.o.1 bE;have x8:=hN.blk (j0e H3.o.2.2.1 H7.o.2.1 (zL9 _)) (show g+1+1≠p by omega);obtain⟨c0,c1,c2,c3,c4⟩:=blk5 q8;have H8:=zQ9 (zA9 hN (zA9 q8 x8));clear hN q8 x8)
     | (go_at_call 63;rw[<-a5.o.2.1];refine(k1f b' _).mono ?_;rintro e w9 ⟨p2,rfl,b7,bA,b5⟩)
     | (go_at_call 81;have b8:=a5.o.2.2.1.now H8.o.1 (show p<w3.heap.size by omega);have bD:Work w8 p2 b' (-1) 0 w9:=⟨b8.inn,b7,b5,⟨0,bA⟩,a5.o.2.2.2.1⟩;have ca:=j9d w8 p2 b' (-1) 0 w9 bD;refine ca.mono ?_;rintro e bf ⟨rfl,bF⟩;obtain⟨ct,ai⟩:∃ tb,tb=!decide (b'.ends (-1) 0=[]):=⟨_,rfl⟩;rw[<-ai];have ax:=zQ9 ai;have a7:Below w8.heap.size w8 bf:=b5.trans (bF.less b7 b5.size);have aj:=j0e H8.o.2.1 a7 (zL9 _);have a2:=j0e H8.o.2.2 a7 (zL9 _);have a8:=b8.below a7 (zL9 _);have bh:=(H3.o.2.2.2.trans (H7.o.2.1.mono H3.o.2.2.2.size)).trans (H8.o.1.less (show w.heap.size<=p by have:=ag.o;omega) (by have:=H3.o.2.2.2.size;have:=H7.o.2.1.size;omega));have a6:=bh.trans (a7.mono bh.size);clear c0 c1 c2 c3 c4;obtain⟨c0,c1,c2,c3,c4⟩:=blk5 aj;obtain⟨d0,d1,d2,d3,d4⟩:=blk5 a2;obtain⟨e0,e1,e2,e3,e4⟩:=zA9 (frz a2 0) (zA9 (frz a2 1) (zA9 (frz a2 2) (zA9 (frz a2 3) (frz a2 4))));have b6:=j0a a2;have co:=j0a aj;have aA:=zQ9 (zA9 a2 (zA9 a8 a6));clear ai b8 a7 bF bD b5 bA b7 ca a2 aj a8 a6 bh;cases ct))
    ·have a4:j0x b d=12:=by
      unfold j0x;rw[if_neg (by rw[H2.o.2.2.2.2.1];simp),if_neg aF.o,if_neg (by rw[<-av.o];simp),if_pos]
      refine⟨?_,?_⟩
      ·have:=bG.o;simp at this;exact this
      ·rw[a5.o.2.2.2.2];have:=ax.o;simp at this;exact this
     have aa:=zQ9 a4;have HY:=zQ9 (zA9 aA.o.1 aA.o.2.2);clear a4;obtain⟨Z,hZ⟩:∃ Z,Z=(((((bf.setCell ⟨g+1+1,0,none⟩ (.int .i64 0)).setCell ⟨g+1+1,1,none⟩ (.slice none 0 0)).setCell ⟨g+1+1,2,none⟩ (.slice none 0 0)).setCell ⟨g+1+1,3,none⟩ (.slice none 0 0)).setCell ⟨g+1+1,4,none⟩ (.slice none 0 0)):=⟨_,rfl⟩;rw[<-hZ];obtain⟨a0,a3⟩:=j3d HY.o.1 hZ HY.o.2 (by rw[<-ag.o];omega)
     clear hZ;obtain⟨p0,p1,p2,p3,p4⟩:=blk5 a0;have a9:=j0a a0;have HZ:=zQ9 a3;have HE:=zQ9 (zA9 (aa.o) (show(12:Int)≠0 by decide))
     clear a0 a3;refine bodyPost_ret (v:=.tuple #[.agg #[.int .i64 0,.slice none 0 0,.slice none 0 0,.slice none 0 0,.slice none 0 0],.int .i64 (12)]) (by simp[results,Tryz.f24,go_sem,p0,p1,p2,p3,p4,a9]) rfl ⟨.inr ⟨by rw[HE.o.1];exact HE.o.2,by rw[HE.o.1]⟩,HZ.o⟩
    ·have a4:j0x b d=0:=by
      unfold j0x;rw[if_neg (by rw[H2.o.2.2.2.2.1];simp),if_neg aF.o,if_neg (by rw[<-av.o];simp),if_neg]
      rintro⟨-,h⟩;rw[a5.o.2.2.2.2] at h;have:=ax.o;simp at this;exact this h
     have HY:=zQ9 (zA9 aA.o.1 (zA9 aA.o.2.1 (zA9 aA.o.2.2 a4)));clear a4;obtain⟨Z,hZ⟩:∃ Z,Z=(((((bf.setCell ⟨g+1+1,0,none⟩ (.int .i64 b.t)).setCell ⟨g+1+1,1,none⟩ (.slice A1 b.l.length a1)).setCell ⟨g+1+1,2,none⟩ (.slice Ak b.ks.length ak)).setCell ⟨g+1+1,3,none⟩ (.slice Ah b.hs.length ah)).setCell ⟨g+1+1,4,none⟩ (.slice (some ⟨gd,0,none⟩) (b.ds.length+1) cd)):=⟨_,rfl⟩;rw[<-hZ];obtain⟨a0,a3,aD⟩:=j4c HY.o.1 hZ HY.o.2.2.1 (by rw[<-ag.o];omega)
     clear hZ;have aq:=(HY.o.2.1.keptG aD (show g+1+1<w3.heap.size by omega)).mono (show w.heap.size<=w3.heap.size from H3.o.2.2.2.size)
     rw[a5.o.1] at aq;obtain⟨p0,p1,p2,p3,p4⟩:=blk5 a0;have a9:=j0a a0;have HZ:=zQ9 (zA9 aq a3);have am:=a5.o.2.1;rw[a5.o.1] at am;clear a0 a3 aD aq;refine bodyPost_ret (v:=.tuple #[Hb.v ⟨b.t,A1,a1,b.l,Ak,ak,b.ks,Ah,ah,b.hs,some ⟨gd,0,none⟩,cd,b.ds++[d]⟩,.int .i64 0]) (by rw[am];clear am;simp[results,Tryz.f24,go_sem,p0,p1,p2,p3,p4,a9]) rfl ⟨.inl ⟨HY.o.2.2.2,_,_,_,_,_,_,_,_,rfl,HZ.o.1⟩,HZ.o.2⟩
 ·have hx:(E != 0)=true:=by simp[hE0]
  have a4:j0x b d=E:=by
   unfold j0x;rw[if_neg (by rw[H2.o.2.2.2.2.1];simp),if_neg aF.o,if_pos (by rw[<-av.o];exact hE0),av.o]
  have aa:=zQ9 a4;have cn:=zQ9 hE0;clear a4 hE0 x3 u3 ae;obtain⟨d0,d1,d2,d3,d4⟩:=blk5 y3;obtain⟨e0,e1,e2,e3,e4⟩:=zA9 (frz y3 0) (zA9 (frz y3 1) (zA9 (frz y3 2) (zA9 (frz y3 3) (frz y3 4))));have b6:=j0a y3;have HY:=zQ9 (zA9 y3 bi);clear y3;go_wp2_with fail
  obtain⟨Z,hZ⟩:∃ Z,Z=(((((w3.setCell ⟨g+1+1,0,none⟩ (.int .i64 0)).setCell ⟨g+1+1,1,none⟩ (.slice none 0 0)).setCell ⟨g+1+1,2,none⟩ (.slice none 0 0)).setCell ⟨g+1+1,3,none⟩ (.slice none 0 0)).setCell ⟨g+1+1,4,none⟩ (.slice none 0 0)):=⟨_,rfl⟩;rw[<-hZ];obtain⟨a0,a3⟩:=j3d HY.o.1 hZ HY.o.2 (by rw[<-ag.o];omega)
  clear hZ;obtain⟨p0,p1,p2,p3,p4⟩:=blk5 a0;have a9:=j0a a0;have HZ:=zQ9 a3;have HE:=zQ9 (zA9 (aa.o) (cn.o));clear a0 a3 d0 d1 d2 d3 d4 e0 e1 e2 e3 e4;refine bodyPost_ret (v:=.tuple #[.agg #[.int .i64 0,.slice none 0 0,.slice none 0 0,.slice none 0 0,.slice none 0 0],.int .i64 (E)]) (by simp[results,Tryz.f24,go_sem,p0,p1,p2,p3,p4,a9]) rfl ⟨.inr ⟨by rw[HE.o.1];exact HE.o.2,by rw[HE.o.1]⟩,HZ.o⟩
def FOw (base:Nat) (b:Hb):VF:=fun v w=>∃ (A:Option Addr) (c:Nat) (Ak:Option Addr) (ck:Nat) (Ah:Option Addr) (ch:Nat) (Ad:Option Addr) (cd:Nat),v=Hb.v ⟨b.t,A,c,b.l,Ak,ck,b.ks,Ah,ch,b.hs,Ad,cd,b.ds⟩∧HbO w base ⟨b.t,A,c,b.l,Ak,ck,b.ks,Ah,ch,b.hs,Ad,cd,b.ds⟩
theorem FOw.st {base:Nat} {b:Hb} (i:Nat) (v:Value) (w w':World) (hT:TBw i w w') (h:FOw base b v w):FOw base b v w':=by
 obtain⟨A,c,Ak,ck,Ah,ch,Ad,cd,h1,h2⟩:=h;exact⟨A,c,Ak,ck,Ah,ch,Ad,cd,h1,h2.below hT (zL9 _)⟩
def FE0S (base:Nat):VF:=fun v w=>∃ q:Nat,v=.slice (some ⟨q,0,none⟩) 0 0∧base<=q∧w.heap[q]?=some (.cells #[] 31 (0,0))
theorem FE0S.st {base:Nat} (i:Nat) (v:Value) (w w':World) (hT:TBw i w w') (h:FE0S base v w):FE0S base v w':=by
 obtain⟨q,h1,h2,h3⟩:=h;exact⟨q,h1,h2,j0e h3 hT (zL9 _)⟩
def FOS (base:Nat) (l:List Sg):VF:=fun v w=>OwnS w base v l
theorem FOS.st {base:Nat} {l:List Sg} (i:Nat) (v:Value) (w w':World) (hT:TBw i w w') (h:FOS base l v w):FOS base l v w':=Own.below h hT (zL9 _)
def FZ5 (base:Nat):VF:=fun v w=>∃ q:Nat,v=.pointer (some ⟨q,0,none⟩)∧base<=q∧w.heap[q]?=some (boxO 0 (.slice none 0 0) (.slice none 0 0) (.slice none 0 0) (.slice none 0 0))
theorem FZ5.st {base:Nat} (i:Nat) (v:Value) (w w':World) (hT:TBw i w w') (h:FZ5 base v w):FZ5 base v w':=by
 obtain⟨q,h1,h2,h3⟩:=h;exact⟨q,h1,h2,j0e h3 hT (zL9 _)⟩
noncomputable def rgPt15:Code:=((Tryz.f4.body.bind (j1u 15)).getD .skip)
theorem pt_copy (w2:World) (b:Hb) (ss:List Sg) (B:Option Addr) (mb cb r1 o1 c1 r3 o3 c3 i:Nat) {v0 v1 v2 v3 v4 v5 v6 v7 v8 v9 fc fa hh fh g9 h3 f1 fw fG dF dH fe hA i3 fB h5 fg fH gk fi fp ha g8 hf gC gv hr g0 hj g4 dA he ff gd hu gm gh g6 hn fv gE ge f9 gA f2 g3 fA ho fE gj dG fx h6 fC gH gx fj ft g1 h8 f7 gt gy dB gw gD f6 h0 fo fq f8 fD fy g5 dC h2 gc g2 gB h7 gF h4 ga f5 ht gp gG b9 dh dx du cB di d5 dg d9 dn dy dz bi cj bz be bw ac bf bF ah cz aC cA ad bn aw bG c7 b7 bB bD ai av cy ba bo ce bt b4 a5 cw a7 c5 bj a8 aH aF cx cu ay bv aD b8 aB cq a4 aE bp cn c9 a9 cc bm ao ca ct bu az bA co b5 ag ak aG cg b0 bC bE ar an aA cp br ae bs b6 cr cf aj c6 aq c8 bh ax af am b3:Value} (Q:Exit->Act->World->Prop)
 (HS:Q9 (∀ W,Below w2.heap.size w2 W->(W.cell? ⟨r1,o1+i*5,none⟩=some (.int .i64 b.t)∧W.cell? ⟨r1,o1+i*5+1,none⟩=some b.vm∧W.cell? ⟨r1,o1+i*5+2,none⟩=some b.vk∧W.cell? ⟨r1,o1+i*5+3,none⟩=some b.vh∧W.cell? ⟨r1,o1+i*5+4,none⟩=some b.vd)∧HbIn W b∧HbZ W b∧W.cell? ⟨r3,o3+i,none⟩=some (.slice B mb cb)∧Sights W B mb ss))
 (hw:r1<w2.heap.size) (hx:r3<w2.heap.size) (i4:(i:Int)<4) (i8:4<=c1) (i0:c1<=maxLen) (i9:4<=c3) (i1:c3<=maxLen) (i6:mb<=20) (i5:mb<=cb) (ia:cb<=maxLen) (HZ:Q9 (B=none->cb=0))
 (HL:Q9 (b.l.length<=1000∧b.ks.length<=1000∧b.hs.length<=1000∧b.ds.length<=1000∧∀ r∈b.hs,r.length<=1000))
 (HQ:Q9 (∀ (dw cD dk dr d8 cE cH cC dq d7 dd:Value) (A Ak Ah Ad A6:Option Addr) (c ck ch cd a6 q:Nat) (w':World),w'.heap[q]?=some (Hb.obj ⟨b.t,A,c,b.l,Ak,ck,b.ks,Ah,ch,b.hs,Ad,cd,b.ds⟩)->HbO w' w2.heap.size ⟨b.t,A,c,b.l,Ak,ck,b.ks,Ah,ch,b.hs,Ad,cd,b.ds⟩->OwnS w' w2.heap.size (.slice A6 mb a6) ss->w2.heap.size<=q->Below w2.heap.size w2 w'->Q .normal ⟨#[v0,v1,v2,v3,v4,v5,v6,v7,v8,v9,fc,fa,hh,fh,g9,h3,f1,fw,fG,dF,(Value.slice (some ⟨r1,o1,none⟩) 4 c1),dH,(Value.slice (some ⟨r3,o3,none⟩) 4 c3),fe,(Value.int .i64 (i:Int)),(Value.pointer (some ⟨q,0,none⟩)),(Value.slice A6 mb a6),fB,h5,fg,fH,gk,fi,fp,ha,g8,hf,gC,gv,hr,g0,hj,g4,dA,he,ff,gd,hu,gm,gh,g6,hn,fv,gE,ge,f9,gA,f2,g3,fA,ho,fE,gj,dG,fx,h6,fC,gH,gx,fj,ft,g1,h8,f7,gt,gy,dB,gw,gD,f6,h0,fo,fq,f8,fD,fy,g5,dC,h2,gc,g2,gB,h7,gF,h4,ga,f5,ht,gp,gG,b9,dw,cD,dk,dr,d8,cE,cH,cC,dq,d7,dd,bi,cj,bz,be,bw,ac,bf,bF,ah,cz,aC,cA,ad,bn,aw,bG,c7,b7,bB,bD,ai,av,cy,ba,bo,ce,bt,b4,a5,cw,a7,c5,bj,a8,aH,aF,cx,cu,ay,bv,aD,b8,aB,cq,a4,aE,bp,cn,c9,a9,cc,bm,ao,ca,ct,bu,az,bA,co,b5,ag,ak,aG,cg,b0,bC,bE,ar,an,aA,cp,br,ae,bs,b6,cr,cf,aj,c6,aq,c8,bh,ax,af,am,b3],[]⟩ w')) :
 Code.wp Tryz.prog rgPt15 Q ⟨#[v0,v1,v2,v3,v4,v5,v6,v7,v8,v9,fc,fa,hh,fh,g9,h3,f1,fw,fG,dF,(Value.slice (some ⟨r1,o1,none⟩) 4 c1),dH,(Value.slice (some ⟨r3,o3,none⟩) 4 c3),fe,(Value.int .i64 (i:Int)),hA,i3,fB,h5,fg,fH,gk,fi,fp,ha,g8,hf,gC,gv,hr,g0,hj,g4,dA,he,ff,gd,hu,gm,gh,g6,hn,fv,gE,ge,f9,gA,f2,g3,fA,ho,fE,gj,dG,fx,h6,fC,gH,gx,fj,ft,g1,h8,f7,gt,gy,dB,gw,gD,f6,h0,fo,fq,f8,fD,fy,g5,dC,h2,gc,g2,gB,h7,gF,h4,ga,f5,ht,gp,gG,b9,dh,dx,du,cB,di,d5,dg,d9,dn,dy,dz,bi,cj,bz,be,bw,ac,bf,bF,ah,cz,aC,cA,ad,bn,aw,bG,c7,b7,bB,bD,ai,av,cy,ba,bo,ce,bt,b4,a5,cw,a7,c5,bj,a8,aH,aF,cx,cu,ay,bv,aD,b8,aB,cq,a4,aE,bp,cn,c9,a9,cc,bm,ao,ca,ct,bu,az,bA,co,b5,ag,ak,aG,cg,b0,bC,bE,ar,an,aA,cp,br,ae,bs,b6,cr,cf,aj,c6,aq,c8,bh,ax,af,am,b3],[]⟩ w2:=by
 dsimp only
 conv=>arg 2;whnf
 have a2:Below w2.heap.size w2 w2.drew:=j0w (zB2 _ _);have HC:=zQ9 (fun(w':World) (hp:Below w2.drew.heap.size w2.drew w')=>show(w'.cell? ⟨r1,o1+i*5,none⟩=some (.int .i64 b.t)∧w'.cell? ⟨r1,o1+i*5+1,none⟩=some b.vm∧w'.cell? ⟨r1,o1+i*5+2,none⟩=some b.vk∧w'.cell? ⟨r1,o1+i*5+3,none⟩=some b.vh∧w'.cell? ⟨r1,o1+i*5+4,none⟩=some b.vd)∧w'.cell? ⟨r3,o3+i,none⟩=some (.slice B mb cb)∧r1<w'.heap.size∧r3<w'.heap.size from by
  have hz:=hp.size;have h:=HS.o w' (a2.trans (hp.mono a2.size));exact⟨h.1,h.2.2.2.1,Nat.lt_of_lt_of_le hw hz,Nat.lt_of_lt_of_le hx hz⟩)
 refine j0q 12 0 0 [] [] 0 (TBw) (PBw w2.drew) [0,0,0,0,0,0,0,0,0,0,0,0] (by as_aux_lemma=>kernel_rfl) (by as_aux_lemma=>kernel_rfl) (by as_aux_lemma=>kernel_rfl) (by as_aux_lemma=>kernel_rfl) (by omega) (.inl rfl) rfl rfl (fun k i w1 w2 hc _ hT hp=>PBw.st k i w1 w2 hT hp) (fun k=>zB2 _ _) ?_
 apply zC2;refine⟨fun ys=>?_,fun ops K hK=>?_⟩
 ·simp only[List.take_succ_cons,List.take_zero,j0p,List.filterMap_cons,List.filterMap_nil,j0r];go_simp
  rfl
 simp only[List.take_succ_cons,List.take_zero,List.drop_succ_cons,List.drop_zero] at hK ⊢
 repeat
  refine LexT.const TBw.rf ?_;apply zC2;refine⟨fun ys w' hp hpk hq hd=>?_,?_⟩
  ·try simp[j0d,j0f,DF.holds,Region.binds,EqF] at hd
   try simp only[hd]
   obtain⟨⟨c0,hG,c2,hH,c4⟩,s0,l1,l2⟩:=HC.o w' hp;intro Q2 aa;go_wp2_with fail
   rfl
  try simp only[nl9]
 refine LexT.some (FOw w2.heap.size b) (fun i v w1 w2 hc _ hT h=>FOw.st i v w1 w2 hT h) (fun ys w' hp hpk hq hd=>?_) ?_
 ·try simp[j0d,j0f,DF.holds,Region.binds,EqF] at hd
  try simp only[hd]
  have h:=HS.o w' (a2.trans (Below.mono hp a2.size));have cF:w2.heap.size<=w'.heap.size:=(show Below w2.drew.heap.size w2.drew w' from hp).size
  have da:=k8q b w' h.2.1 h.2.2.1 HL.o.1 HL.o.2.1 HL.o.2.2.1 HL.o.2.2.2.1 HL.o.2.2.2.2;unfold Hb.v at da;clear hp hpk h;intro Q2 aa;go_wp2_with fail
  refine da.mono ?_;rintro e w4 ⟨⟨A,c,Ak,ck,Ah,ch,Ad,cd,rfl,hO⟩,hb⟩;have HX:=zQ9 (show TBw 0 w' w4∧FOw w2.heap.size b (Hb.v ⟨b.t,A,c,b.l,Ak,ck,b.ks,Ah,ch,b.hs,Ad,cd,b.ds⟩) w4 from⟨hb,A,c,Ak,ck,Ah,ch,Ad,cd,rfl,hO.mono cF⟩)
  clear hO hb da;unfold Hb.v at HX ⊢;go_wp2
  exact⟨_,rfl,HX.o⟩
 try simp only[nl9]
 refine LexT.some (FE0S w2.heap.size) (fun i v w1 w2 hc _ hT h=>FE0S.st i v w1 w2 hT h) (fun ys w' hp hpk hq hd=>?_) ?_
 ·try simp[j0d,j0f,DF.holds,Region.binds,EqF] at hd
  try simp only[hd]
  have cF:w2.heap.size<=w'.heap.size:=(show Below w2.drew.heap.size w2.drew w' from hp).size
  have HX:=zQ9 (show TBw 0 w' (w'.alloc (Obj.cells #[] 31))∧FE0S w2.heap.size (.slice (some ⟨w'.heap.size,0,none⟩) 0 0) (w'.alloc (Obj.cells #[] 31)) from⟨bal0 _ _,w'.heap.size,rfl,by omega,j0c rfl⟩)
  clear hp hpk;intro Q2 aa;go_wp2_with fail
  exact HX.o
 try simp only[nl9]
 repeat
  refine LexT.const TBw.rf ?_;apply zC2;refine⟨fun ys w' hp hpk hq hd=>?_,?_⟩
  ·try simp[j0d,j0f,DF.holds,Region.binds,EqF] at hd
   try simp only[hd]
   obtain⟨⟨c0,hG,c2,hH,c4⟩,s0,l1,l2⟩:=HC.o w' hp;intro Q2 aa;go_wp2_with fail
   rfl
  try simp only[nl9]
 refine LexT.some (FOS w2.heap.size ss) (fun i v w1 w2 hc _ hT h=>FOS.st i v w1 w2 hT h) (fun ys w' hp hpk hq hd=>?_) ?_
 ·try simp[j0d,j0f,DF.holds,Region.binds,EqF] at hd
  try simp only[hd]
  obtain⟨⟨q,g7,fb,fd⟩,dD⟩:=hd;have fF:=(HS.o w' (a2.trans (Below.mono hp a2.size))).2.2.2.2;simp only[g7,dD];have dj:=zQ9 (zA9 fb (zA9 fd fF));clear hp hpk g7 dD fb fd fF;intro Q2 aa;go_wp2_with (at_builtin;refine j5e k5u rfl (.tmp 106) (.tmp 110) rfl w2.heap.size q B mb cb ss rfl dj.o.2.1 rfl dj.o.2.2 HZ.o j8w k5v (by omega) (by decide) dj.o.1 ?_;intro v' w5 a1 gu;have HX:=zQ9 (show TBw 0 w' w5∧FOS w2.heap.size ss v' w5 from⟨gu,a1⟩);clear a1 gu)
  exact HX.o
 try simp only[nl9]
 refine LexT.some (FZ5 w2.heap.size) (fun i v w1 w2 hc _ hT h=>FZ5.st i v w1 w2 hT h) (fun ys w' hp hpk hq hd=>?_) ?_
 ·try simp[j0d,j0f,DF.holds,Region.binds,EqF] at hd
  try simp only[hd]
  have cF:w2.heap.size<=w'.heap.size:=(show Below w2.drew.heap.size w2.drew w' from hp).size
  have HX:=zQ9 (show TBw 0 w' (w'.alloc (Obj.cells #[.int .i64 0,.slice none 0 0,.slice none 0 0,.slice none 0 0,.slice none 0 0] 29))∧FZ5 w2.heap.size (.pointer (some ⟨w'.heap.size,0,none⟩)) (w'.alloc (Obj.cells #[.int .i64 0,.slice none 0 0,.slice none 0 0,.slice none 0 0,.slice none 0 0] 29)) from⟨bal0 _ _,w'.heap.size,rfl,by omega,j0c rfl⟩)
  clear hp hpk;intro Q2 aa;go_wp2_with fail
  exact HX.o
 try simp only[nl9]
 refine hK _ fun ys w' hp hF=>?_
 simp[AllF,DF.holds] at hF;obtain⟨-,-,-,-,cG,-,-,-,-,-,a0,f25⟩:=hF;replace hp:Below w2.drew.heap.size w2.drew w':=hp;replace a0:OwnS w' w2.heap.size (ys 111) ss:=a0;obtain⟨A,c,Ak,ck,Ah,ch,Ad,cd,cv,hO⟩:=cG;obtain⟨A6,a6,a3,-,-,-⟩:=Own.form a0 j8w;obtain⟨q,h9,hq,bq⟩:=f25;rw[a3] at a0;simp only[cv,a3,h9];unfold Hb.v;dsimp only;obtain⟨d0,d1,d2,d3,d4⟩:=blk5 bq;obtain⟨e0,e1,e2,e3,e4⟩:=zA9 (frz bq 0) (zA9 (frz bq 1) (zA9 (frz bq 2) (zA9 (frz bq 3) (frz bq 4))));have i7:=j0a bq;have hm:ss.length=mb:=(HS.o w2 (zB2 _ _)).2.2.2.2.len;rw[hm] at a0 ⊢;have HX:=zQ9 (zA9 (a2.trans (hp.mono a2.size)) (zA9 a0 (zA9 hO (zA9 bq hq))));clear hK cv a3 h9 a0 hO bq hp hm hq;go_wp2_with fail
 obtain⟨Z,hZ⟩:∃ Z,Z=(((((w'.setCell ⟨q,0,none⟩ (.int .i64 b.t)).setCell ⟨q,1,none⟩ (.slice A b.l.length c)).setCell ⟨q,2,none⟩ (.slice Ak b.ks.length ck)).setCell ⟨q,3,none⟩ (.slice Ah b.hs.length ch)).setCell ⟨q,4,none⟩ (.slice Ad b.ds.length cd)):=⟨_,rfl⟩;rw[<-hZ];have hE:=j4c HX.o.2.2.2.1 hZ (w:=w2) HX.o.1 HX.o.2.2.2.2;have h:=HX.o.2.2.1;have hg:=hE.2.2;have hy:=HX.o.2.2.2.1;have i2:HbO Z w2.heap.size ⟨b.t,A,c,b.l,Ak,ck,b.ks,Ah,ch,b.hs,Ad,cd,b.ds⟩:=⟨h.m.kept hg (.inr (h.m.ne' hy (by decide))),h.k.kept hg (.inr (h.k.ne' hy (by decide))),h.h.keptB hg hy,h.d.kept hg (.inr (h.d.ne' hy (by decide)))⟩
 exact HQ.o _ _ _ _ _ _ _ _ _ _ _ A Ak Ah Ad A6 c ck ch cd a6 q Z hE.1 i2 (Own.kept HX.o.2.1 hg (.inr (Own.ne' HX.o.2.1 hy (by decide)))) HX.o.2.2.2.2 hE.2.1
def k9t (L:Nat) (pf:Nat->Bool):Nat->Nat->Nat->Option (List Int)
 | 0,_,set=>if pf set then some [] else none
 | d+1,from_,set=>(List.range' from_ (L-from_)).findSome? fun i=>(k9t L pf d (i+1) (set ||| 2 ^ i)).map fun r=>(i:Int)::r
def leftOf (may:List (List Int)) (mis:List Int):Nat->Nat->Option (List Int)
 | 0,_=>none
 | k+1,many=>match k9t may.length (fun set=>(j7i may mis set (fun _ _=>true)).isSome) many 0 0 with
   | some l=>some l
   | none=>leftOf may mis k (many+1)
end Go.Proofs.YtmennjmjakdkcaaGreat
