/- HerdParted 28: TruM, TruN, HdJ, HdZ. -/
import Derived.Test.YtmennjmjakdkcaaPd05
import Derived.Test.YtmennjmjakdkcaaPd27
import Derived.Test.YtmennjmjakdkcaaPd17
namespace Go.Proofs.Ytmennjmjakdkcaa
set_option linter.unusedVariables false
set_option linter.unusedSimpArgs false
section
variable {n nf : Nat} {gs : List (List Int)}
theorem nn_iff (h : GSh n nf gs) (hn : n ≤ 5) (hf : nf ≤ 3) : nnG gs = true ↔ nnH (firstH gs):=by
 rw [nnG_iff]
 constructor
 ·intro hh f o hf' ho
  rw [firstH_get gs hf' ho]
  unfold getG
  rw [List.getD_eq_getElem?_getD]
  cases hr : (gs.getD f [])[o]? with
  | none => simp
  | some x =>
    rw [List.getD_eq_getElem?_getD] at hr
    cases hg : gs[f]? with
    | none => rw [hg] at hr;simp at hr
    | some r =>
      rw [hg] at hr
      exact hh r (List.mem_of_getElem? hg) x (List.mem_of_getElem? hr)
 ·intro hh r hr x hx
  obtain ⟨f,hfl,e1⟩:=List.mem_iff_getElem.1 hr
  obtain ⟨o,hol,e2⟩:=List.mem_iff_getElem.1 hx
  have hf' : f < 3:=by have:=h.l;omega
  have ho : o < 5:=by have:=h.r r hr;omega
  have:=hh f o hf' ho
  rw [firstH_get gs hf' ho] at this
  unfold getG at this
  rw [List.getD_eq_getElem?_getD (l:=gs),List.getElem?_eq_getElem hfl,Option.getD_some,e1,List.getD_eq_getElem?_getD,List.getElem?_eq_getElem hol,Option.getD_some,e2] at this
  exact this
end
theorem sub_sh {n nf f : Nat} (hf : f < nf) : ∀ (w : List Int) {gs : List (List Int)},GSh n nf gs → GSh n nf (subG f w gs)
 | [],_,h => h
 | o :: w,_,h => sub_sh hf w (h.add hf o.toNat (-1))
theorem firstH_sub {n nf f : Nat} (hn : n ≤ 5) (hnf : nf ≤ 3) (hf : f < nf) : ∀ (w : List Int) {gs : List (List Int)},GSh n nf gs → (∀ o ∈ w,o.toNat < n) → firstH (subG f w gs) = subH f w (firstH gs)
 | [],_,_,_ => rfl
 | o :: w,_,h,hw => by
   have e:=firstH_sub hn hnf hf w (h.add hf o.toNat (-1)) fun x hx => hw x (List.mem_cons_of_mem _ hx)
   rw [firstH_add h hn hnf hf (hw o List.mem_cons_self)] at e
   exact e
theorem nnH_hadd {h : List Int} {f o : Nat} {k : Int} (hl : h.length = 15) (hn : nnH h) (hf : f < 3) (ho : o < 5) : nnH (hadd h f o k) ↔ 0 ≤ hget h f o + k:=by
 constructor
 ·intro hh
  have:=hh f o hf ho
  rw [hget_hadd hl hf ho ho,if_pos ⟨rfl,rfl⟩] at this
  exact this
 ·intro hh f' o' hf' ho'
  rw [hget_hadd hl hf ho ho']
  split
  ·exact hh
  ·exact hn f' o' hf' ho'
theorem nnH_hadd2 {h : List Int} {f o g x : Nat} {k m : Int} (hl : h.length = 15) (hn : nnH h) (hf : f < 3) (ho : o < 5) (hg : g < 3) (hx : x < 5) (hne : f ≠ g ∨ o ≠ x) (hk : 0 ≤ m) : nnH (hadd (hadd h f o k) g x m) ↔ 0 ≤ hget h f o + k:=by
 constructor
 ·intro hh
  have:=hh f o hf ho
  rw [hget_hadd (hadd_l hl) hg hx ho,if_neg (by omega),hget_hadd hl hf ho ho,if_pos ⟨rfl,rfl⟩] at this
  exact this
 ·intro hh f' o' hf' ho'
  rw [hget_hadd (hadd_l hl) hg hx ho',hget_hadd hl hf ho hx]
  split
  ·have:=hn g x hg hx
   rw [if_neg (by omega)]
   omega
  ·rw [hget_hadd hl hf ho ho']
   split
   ·exact hh
   ·exact hn f' o' hf' ho'
theorem subH_far {f f' o' : Nat} (hf : f < 3) (ho' : o' < 5) : ∀ {w : List Int} {h : List Int},h.length = 15 → (∀ o ∈ w,o.toNat < 5) → (f ≠ f' ∨ ∀ o ∈ w,o.toNat ≠ o') → hget (subH f w h) f' o' = hget h f' o'
 | [],h,hl,hw,hne => rfl
 | o :: w,h,hl,hw,hne => by
   have e:=subH_far (w:=w) hf ho' (hadd_l (f:=f) (o:=o.toNat) (k:=-1) hl) (fun x hx => hw x (List.mem_cons_of_mem _ hx)) (hne.imp id fun h x hx => h x (List.mem_cons_of_mem _ hx))
   show hget (subH f w (hadd h f o.toNat (-1))) f' o' = _
   rw [e,hget_hadd hl hf (hw o List.mem_cons_self) ho',if_neg]
   rintro ⟨rfl,e2⟩
   rcases hne with h | h
   ·exact h rfl
   ·exact h o List.mem_cons_self e2
theorem mem_wordsL {n : Nat} : ∀ {m : Nat} {r : List Int},r.length = m → (∀ x ∈ r,0 ≤ x ∧ x < n) → r ∈ wordsL n m
 | 0,r,hr,_ => by rw [List.eq_nil_of_length_eq_zero hr];exact List.mem_singleton.2 rfl
 | m + 1,[],hr,_ => by cases hr
 | m + 1,x :: r,hr,h => by
   have h0:=h x List.mem_cons_self
   refine List.mem_flatMap.2 ⟨x.toNat,List.mem_range.2 (by omega),List.mem_map.2 ⟨r,mem_wordsL (by simpa using hr) fun y hy => h y (List.mem_cons_of_mem _ hy),?_⟩⟩
   rw [Int.toNat_of_nonneg h0.1]
theorem cnt_iff {d : De} {h : List Int} {f : Nat} {s : Int} (hf : d.flock.toNat = f) (hs : s = hall h f) (h0 : 0 ≤ s) (hm : 0 ≤ d.many) (he : 0 ≤ d.err ∧ d.err ≤ 20) : cntB d s = true ↔ countB d h = true:=by
 unfold cntB countB
 rw [hf,← hs,btw_iff,Bool.and_eq_true,decide_eq_true_eq,decide_eq_true_eq]
 obtain ⟨kind,flock,owner,other,tof,m,e,sg⟩:=d
 dsimp only at he hm ⊢
 have hc : e = 0 ∨ e = 1 ∨ e = 2 ∨ e = 3 ∨ e = 4 ∨ e = 5 ∨ e = 6 ∨ e = 7 ∨ e = 8 ∨ e = 9 ∨ e = 10 ∨ e = 11 ∨ e = 12 ∨ e = 13 ∨ e = 14 ∨ e = 15 ∨ e = 16 ∨ e = 17 ∨ e = 18 ∨ e = 19 ∨ e = 20:=by omega
 rcases hc with rfl | rfl | rfl | rfl | rfl | rfl | rfl | rfl | rfl | rfl | rfl | rfl | rfl | rfl | rfl | rfl | rfl | rfl | rfl | rfl | rfl <;>
  (rw [Int.tdiv_eq_ediv_of_nonneg (by omega),Int.tdiv_eq_ediv_of_nonneg (by omega)];constructor <;> (rintro ⟨h1,h2⟩;constructor <;> omega))
theorem tof_ne {n nf : Nat} {d : De} (h : deedE n nf d = 0) (h5 : d.kind = 5) : d.flock ≠ d.tof:=by
 obtain ⟨-,-,h3,-⟩:=deedE_inv h
 unfold fldE at h3
 rw [if_neg (by omega),if_neg (by omega),if_neg (by omega),if_pos h5] at h3
 obtain ⟨a1,h3⟩:=ite0 (by decide) h3
 obtain ⟨a2,h3⟩:=ite0 (by decide) h3
 exact fun e => a2 e.symm
theorem step_iff {t : Int} {l : List Mk} {nf : Nat} {gs : List (List Int)} {deed owner : Int} {i : Nat} {d : De} (h : GSh l.length nf gs) (hn : l.length ≤ 5) (hnf : nf ≤ 3) (hnn : nnG gs = true) (hd : DeIn l.length nf d) (how : DeOw l.length nf d) (hne : d.kind = 5 → d.flock ≠ d.tof) (x : List Int) :
 (∃ g ∈ stepG t l deed owner i d gs,nnG g = true ∧ x = firstH g) ↔ x ∈ succ t l (passB deed owner i) d (firstH gs):=by
 have hl:=firstH_l gs
 have hH:=(nn_iff h hn hnf).1 hnn
 have hff : d.flock.toNat < nf:=by have:=how.f;omega
 have hf3 : d.flock.toNat < 3:=by omega
 by_cases h1 : d.kind = 1
 ·have ho:=how.o (.inl h1)
  have hol : d.owner.toNat < l.length:=by omega
  have eL : stepG t l deed owner i d gs = [addG gs d.flock.toNat d.owner.toNat d.many]:=by unfold stepG;rw [if_pos h1]
  have eR : succ t l (passB deed owner i) d (firstH gs) = [hadd (firstH gs) d.flock.toNat d.owner.toNat d.many]:=by unfold succ;rw [if_pos h1]
  rw [eL,eR,List.mem_singleton]
  have e:=firstH_add h hn hnf hff hol d.many
  have hm:=hd.m
  have hnn2 : nnG (addG gs d.flock.toNat d.owner.toNat d.many) = true:=by
   rw [nn_iff (h.add hff _ _) hn hnf,e,nnH_hadd hl hH hf3 (by omega)]
   have:=hH d.flock.toNat d.owner.toNat hf3 (by omega)
   omega
  constructor
  ·rintro ⟨g,hg,-,rfl⟩
   rw [List.mem_singleton.1 hg,e]
  ·rintro rfl
   exact ⟨_,List.mem_singleton.2 rfl,hnn2,e.symm⟩
 by_cases h3 : d.kind = 3
 ·have ho:=how.o (.inr (.inr h3))
  have hol : d.owner.toNat < l.length:=by omega
  have eL : stepG t l deed owner i d gs = [addG gs d.flock.toNat d.owner.toNat (-d.many)]:=by unfold stepG;rw [if_neg h1,if_pos h3]
  have eR : succ t l (passB deed owner i) d (firstH gs) = (match mvd (firstH gs) d.flock.toNat d.owner.toNat (-d.many) with | some x => [x] | none => []):=by unfold succ;rw [if_neg h1,if_neg (by omega),if_pos h3];rfl
  rw [eL,eR]
  have e:=firstH_add h hn hnf hff hol (-d.many)
  have hnn2 : nnG (addG gs d.flock.toNat d.owner.toNat (-d.many)) = true ↔ 0 ≤ hget (firstH gs) d.flock.toNat d.owner.toNat + -d.many:=by
   rw [nn_iff (h.add hff _ _) hn hnf,e,nnH_hadd hl hH hf3 (by omega)]
  unfold mvd
  constructor
  ·rintro ⟨g,hg,hg2,rfl⟩
   rw [List.mem_singleton.1 hg] at hg2 ⊢
   rw [if_pos (hnn2.1 hg2),e]
   exact List.mem_singleton.2 rfl
  ·intro hx
   split at hx
   ·rename_i hc
    split at hc
    ·rename_i h0
     cases hc
     rw [List.mem_singleton.1 hx]
     exact ⟨_,List.mem_singleton.2 rfl,hnn2.2 h0,e.symm⟩
    ·cases hc
   ·cases hx
 by_cases h2 : d.kind = 2
 ·have ho:=how.o (.inr (.inl h2))
  have hxo:=how.x h2
  have hne2:=how.ne h2
  have hol : d.owner.toNat < l.length:=by omega
  have hxl : d.other.toNat < l.length:=by omega
  have eL : stepG t l deed owner i d gs = [addG (addG gs d.flock.toNat d.owner.toNat (-d.many)) d.flock.toNat d.other.toNat d.many]:=by unfold stepG;rw [if_neg h1,if_neg h3,if_pos h2]
  have eR : succ t l (passB deed owner i) d (firstH gs) = (match mvd (firstH gs) d.flock.toNat d.owner.toNat (-d.many) with | some x => [hadd x d.flock.toNat d.other.toNat d.many] | none => []):=by unfold succ;rw [if_neg h1,if_pos h2];rfl
  rw [eL,eR]
  have e:=firstH_add h hn hnf hff hol (-d.many)
  have e2:=firstH_add (h.add hff d.owner.toNat (-d.many)) hn hnf hff hxl d.many
  rw [e] at e2
  have hm:=hd.m
  have hnn2 : nnG (addG (addG gs d.flock.toNat d.owner.toNat (-d.many)) d.flock.toNat d.other.toNat d.many) = true ↔ 0 ≤ hget (firstH gs) d.flock.toNat d.owner.toNat + -d.many:=by
   rw [nn_iff ((h.add hff _ _).add hff _ _) hn hnf,e2,nnH_hadd2 hl hH hf3 (by omega) hf3 (by omega) (.inr (by omega)) hm.1]
  unfold mvd
  constructor
  ·rintro ⟨g,hg,hg2,rfl⟩
   rw [List.mem_singleton.1 hg] at hg2 ⊢
   rw [if_pos (hnn2.1 hg2),e2]
   exact List.mem_singleton.2 rfl
  ·intro hx
   split at hx
   ·rename_i hc
    split at hc
    ·rename_i h0
     cases hc
     rw [List.mem_singleton.1 hx]
     exact ⟨_,List.mem_singleton.2 rfl,hnn2.2 h0,e2.symm⟩
    ·cases hc
   ·cases hx
 by_cases h6 : d.kind = 6
 ·have eL : stepG t l deed owner i d gs = (if cntB d (gs.getD d.flock.toNat []).sum then [gs] else []):=by unfold stepG;rw [if_neg h1,if_neg h3,if_neg h2,if_pos h6]
  have eR : succ t l (passB deed owner i) d (firstH gs) = (if countB d (firstH gs) = true then [firstH gs] else []):=by unfold succ;rw [if_neg h1,if_neg h2,if_neg h3,if_neg (by omega),if_neg (by omega)]
  rw [eL,eR]
  have hs:=row_sum (gs:=gs) hf3 (by rw [h.row hff];exact hn)
  have hc:=cnt_iff (d:=d) rfl hs (by
   rw [hs];unfold hall
   have a0:=hH d.flock.toNat 0 hf3 (by decide)
   have a1:=hH d.flock.toNat 1 hf3 (by decide)
   have a2:=hH d.flock.toNat 2 hf3 (by decide)
   have a3:=hH d.flock.toNat 3 hf3 (by decide)
   have a4:=hH d.flock.toNat 4 hf3 (by decide)
   omega) hd.m.1 hd.e
  by_cases hb : cntB d (gs.getD d.flock.toNat []).sum = true
  ·rw [if_pos hb,if_pos (hc.1 hb),List.mem_singleton]
   constructor
   ·rintro ⟨g,hg,-,rfl⟩;rw [List.mem_singleton.1 hg]
   ·rintro rfl;exact ⟨gs,List.mem_singleton.2 rfl,hnn,rfl⟩
  ·rw [if_neg hb,if_neg fun h => hb (hc.2 h)]
   simp
 by_cases h4 : d.kind = 4
 ·have eL : stepG t l deed owner i d gs = lostG l.length d.flock.toNat d.many.toNat gs:=by unfold stepG;rw [if_neg h1,if_neg h3,if_neg h2,if_neg h6,if_pos h4]
  have eR : succ t l (passB deed owner i) d (firstH gs) = lostJ l.length d.flock.toNat l.length (firstH gs) d.many.toNat:=by unfold succ;rw [if_neg h1,if_neg h2,if_neg h3,if_pos h4]
  rw [eL,eR,lost_iff hf3 hn l.length (firstH gs) d.many.toNat x (Nat.le_refl _) hl (fun o ho => hH _ o hf3 (by omega)),Nat.sub_self]
  unfold lostG
  constructor
  ·rintro ⟨g,hg,hg2,rfl⟩
   obtain ⟨w,hw,rfl⟩:=List.mem_map.1 hg
   obtain ⟨hw1,hw2⟩:=List.mem_filter.1 hw
   obtain ⟨hw3,hw4⟩:=wordsL_mem hw1
   have e:=firstH_sub hn hnf hff w h (fun o ho => by have:=hw4 o ho;omega)
   refine ⟨w,⟨hw2,fun o ho => by have:=hw4 o ho;omega⟩,hw3,e,fun o ho => ?_⟩
   exact (nn_iff (sub_sh hff w h) hn hnf).1 hg2 _ o hf3 (by omega)
  ·rintro ⟨w,⟨hw2,hw4⟩,hw3,rfl,hx⟩
   have hw5 : ∀ o ∈ w,o.toNat < l.length:=fun o ho => by have:=hw4 o ho;omega
   have e:=firstH_sub hn hnf hff w h hw5
   refine ⟨subG d.flock.toNat w gs,List.mem_map.2 ⟨w,List.mem_filter.2 ⟨mem_wordsL hw3 fun o ho => by have:=hw4 o ho;omega,hw2⟩,rfl⟩,?_,e.symm⟩
   rw [nn_iff (sub_sh hff w h) hn hnf,e]
   intro f' o' hf' ho'
   by_cases hc : f' = d.flock.toNat ∧ o' < l.length
   ·rw [hc.1];exact hx o' hc.2
   ·rw [subH_far hf3 ho' hl (fun o ho => by have:=hw5 o ho;omega)]
    ·exact hH f' o' hf' ho'
    ·by_cases he : d.flock.toNat = f'
     ·exact .inr fun o ho e => hc ⟨he.symm,by have:=hw5 o ho;omega⟩
     ·exact .inl he
 ·have h5 : d.kind = 5:=by have:=how.k;omega
  have eL : stepG t l deed owner i d gs = strG t l deed owner i d gs l.length:=by unfold stepG;rw [if_neg h1,if_neg h3,if_neg h2,if_neg h6,if_neg h4]
  have eR : succ t l (passB deed owner i) d (firstH gs) = strayL d.flock.toNat d.tof.toNat (firstH gs) ((mayL t l d.s).filter (passB deed owner i)):=by unfold succ;rw [if_neg h1,if_neg h2,if_neg h3,if_neg h4,if_pos h5]
  rw [eL,eR]
  have ht:=how.t h5
  have htl : d.tof.toNat < nf:=by omega
  have hne5:=hne h5
  have key : ∀ o : Nat,o < l.length → (nnG (addG (addG gs d.flock.toNat o (-1)) d.tof.toNat o 1) = true ↔ 0 ≤ hget (firstH gs) d.flock.toNat o + -1) ∧ firstH (addG (addG gs d.flock.toNat o (-1)) d.tof.toNat o 1) = hadd (hadd (firstH gs) d.flock.toNat o (-1)) d.tof.toNat o 1:=fun o ho => by
   have e:=firstH_add h hn hnf hff ho (-1)
   have e2:=firstH_add (h.add hff o (-1)) hn hnf htl ho 1
   rw [e] at e2
   exact ⟨by rw [nn_iff ((h.add hff _ _).add htl _ _) hn hnf,e2,nnH_hadd2 hl hH hf3 (by omega) (by omega) (by omega) (.inl (by have:=how.f;omega)) (by decide)],e2⟩
  unfold strG strayL
  rw [List.mem_flatMap]
  constructor
  ·rintro ⟨g,hg,hg2,rfl⟩
   obtain ⟨o,ho,rfl⟩:=List.mem_map.1 hg
   obtain ⟨ho1,ho2⟩:=List.mem_filter.1 ho
   have hol:=List.mem_range.1 ho1
   unfold mayB at ho2
   rw [Bool.and_eq_true,List.getElem?_eq_getElem hol] at ho2
   have hmy:=(mayL_iff (t:=t) (s:=d.s) (List.getElem?_eq_getElem hol)).2 (by simpa using ho2.2)
   refine ⟨(o : Int),List.mem_filter.2 ⟨hmy,ho2.1⟩,?_⟩
   have h0:=(key o hol).1.1 hg2
   rw [Int.toNat_natCast,(key o hol).2]
   unfold mvd
   rw [if_pos h0]
   exact List.mem_singleton.2 rfl
  ·rintro ⟨o,ho,hx⟩
   obtain ⟨ho1,ho2⟩:=List.mem_filter.1 ho
   have hlt:=mayTo_lt o ho1
   obtain ⟨on,rfl⟩:=Int.eq_ofNat_of_zero_le hlt.1
   have hol : on < l.length:=by omega
   rw [Int.toNat_natCast] at hx
   unfold mvd at hx
   split at hx
   ·rename_i hc
    split at hc
    ·rename_i h0
     cases hc
     rw [List.mem_singleton.1 hx]
     refine ⟨_,List.mem_map.2 ⟨on,List.mem_filter.2 ⟨List.mem_range.2 hol,?_⟩,rfl⟩,(key on hol).1.2 h0,(key on hol).2.symm⟩
     unfold mayB
     rw [Bool.and_eq_true,List.getElem?_eq_getElem hol]
     exact ⟨ho2,by simpa using (mayL_iff (t:=t) (s:=d.s) (List.getElem?_eq_getElem hol)).1 ho1⟩
    ·cases hc
   ·cases hx
end Go.Proofs.Ytmennjmjakdkcaa
namespace Go.Proofs.Ytmennjmjakdkcaa
set_option linter.unusedVariables false
set_option linter.unusedSimpArgs false
def reachH (t : Int) (l : List Mk) (deed owner : Int) : List De → Nat → List Int → List (List Int)
 | [],_,h => [h]
 | d :: ds,i,h => (succ t l (passB deed owner i) d h).flatMap (reachH t l deed owner ds (i + 1))
section
variable {t : Int} {l : List Mk} {deed owner : Int} {nf : Nat}
theorem trG_nn {g : List (List Int)} : ∀ {ds : List De} {i : Nat} {gs : List (List Int)},g ∈ trG t l deed owner ds i gs → nnG gs = true
 | [],i,gs,h => by unfold trG at h;split at h;assumption;cases h
 | d :: ds,i,gs,h => by unfold trG at h;split at h;assumption;cases h
theorem str_sh {i : Nat} {d : De} {gs g : List (List Int)} (h : GSh l.length nf gs) (how : DeOw l.length nf d) (h5 : d.kind = 5) {k : Nat} (hg : g ∈ strG t l deed owner i d gs k) : GSh l.length nf g:=by
 unfold strG at hg
 obtain ⟨o,-,rfl⟩:=List.mem_map.1 hg
 have:=how.f;have:=how.t h5
 exact (h.add (by omega) _ _).add (by omega) _ _
theorem step_sh {i : Nat} {d : De} {gs g : List (List Int)} (h : GSh l.length nf gs) (how : DeOw l.length nf d) (hg : g ∈ stepG t l deed owner i d gs) : GSh l.length nf g:=by
 have hff : d.flock.toNat < nf:=by have:=how.f;omega
 unfold stepG at hg
 split at hg
 ·rw [List.mem_singleton.1 hg];exact h.add hff _ _
 split at hg
 ·rw [List.mem_singleton.1 hg];exact h.add hff _ _
 split at hg
 ·rw [List.mem_singleton.1 hg];exact (h.add hff _ _).add hff _ _
 split at hg
 ·split at hg
  ·rw [List.mem_singleton.1 hg];exact h
  ·cases hg
 split at hg
 ·unfold lostG at hg
  obtain ⟨w,-,rfl⟩:=List.mem_map.1 hg
  exact sub_sh hff w h
 ·exact str_sh h how (by have:=how.k;omega) hg
theorem reach_iff (hn : l.length ≤ 5) (hnf : nf ≤ 3) : ∀ (ds : List De) (i : Nat) (gs : List (List Int)),GSh l.length nf gs → (∀ d ∈ ds,deedE l.length nf d = 0 ∧ DeIn l.length nf d) → nnG gs = true → ∀ x,
 (∃ g ∈ trG t l deed owner ds i gs,x = firstH g) ↔ x ∈ reachH t l deed owner ds i (firstH gs)
 | [],i,gs,h,hd,hnn,x => by
   unfold trG reachH
   rw [if_pos hnn]
   simp
 | d :: ds,i,gs,h,hd,hnn,x => by
   have h0:=hd d List.mem_cons_self
   have how:=deedE_ow h0.1
   have hs:=fun y => step_iff (t:=t) (deed:=deed) (owner:=owner) (i:=i) h hn hnf hnn h0.2 how (fun h5 => tof_ne h0.1 h5) y
   unfold trG reachH
   rw [if_pos hnn,List.mem_flatMap]
   constructor
   ·rintro ⟨g,hg,rfl⟩
    obtain ⟨g1,hg1,hg2⟩:=List.mem_flatMap.1 hg
    have hnn1:=trG_nn hg2
    exact ⟨firstH g1,(hs _).1 ⟨g1,hg1,hnn1,rfl⟩,(reach_iff hn hnf ds (i + 1) g1 (step_sh h how hg1) (fun d hd' => hd d (List.mem_cons_of_mem _ hd')) hnn1 _).1 ⟨g,hg2,rfl⟩⟩
   ·rintro ⟨y,hy,hx⟩
    obtain ⟨g1,hg1,hnn1,rfl⟩:=(hs y).2 hy
    obtain ⟨g,hg,e⟩:=(reach_iff hn hnf ds (i + 1) g1 (step_sh h how hg1) (fun d hd' => hd d (List.mem_cons_of_mem _ hd')) hnn1 x).2 hx
    exact ⟨g,List.mem_flatMap.2 ⟨g1,hg1,hg⟩,e⟩
theorem trG_sh : ∀ (ds : List De) (i : Nat) (gs : List (List Int)),GSh l.length nf gs → (∀ d ∈ ds,DeOw l.length nf d) → ∀ g ∈ trG t l deed owner ds i gs,GSh l.length nf g
 | [],i,gs,h,hd,g,hg => by
   unfold trG at hg
   split at hg
   ·rw [List.mem_singleton.1 hg];exact h
   ·cases hg
 | d :: ds,i,gs,h,hd,g,hg => by
   unfold trG at hg
   split at hg
   ·obtain ⟨g1,hg1,hg2⟩:=List.mem_flatMap.1 hg
    exact trG_sh ds (i + 1) g1 (step_sh h (hd d List.mem_cons_self) hg1) (fun d hd' => hd d (List.mem_cons_of_mem _ hd')) g hg2
   ·cases hg
theorem ends_reach {hs : List (List Int)} {ds : List De} (x : List Int) : ∀ k,k ≤ ds.length → (x ∈ endsL t l hs ds deed owner ↔ ∃ h ∈ endsTo t l hs ds deed owner (ds.length - k),x ∈ reachH t l deed owner (ds.drop (ds.length - k)) (ds.length - k) h)
 | 0,_ => by
   rw [Nat.sub_zero,List.drop_length]
   unfold endsL reachH
   simp
 | k + 1,hk => by
   rw [ends_reach x k (by omega)]
   obtain ⟨i,hi⟩ : ∃ i,i = ds.length - (k + 1):=⟨_,rfl⟩
   have e1 : ds.length - k = i + 1:=by omega
   have hil : i < ds.length:=by omega
   rw [e1,← hi,List.drop_eq_getElem_cons hil]
   have hm:=fun y => endsTo_mem (t:=t) (l:=l) (heads:=hs) (deed:=deed) (owner:=owner) (List.getElem?_eq_getElem hil) y
   constructor
   ·rintro ⟨h',hh',hx⟩
    obtain ⟨h,hh,hs'⟩:=(hm h').1 hh'
    exact ⟨h,hh,List.mem_flatMap.2 ⟨h',hs',hx⟩⟩
   ·rintro ⟨h,hh,hx⟩
    obtain ⟨h',hs',hx⟩:=List.mem_flatMap.1 hx
    exact ⟨h',(hm h').2 ⟨h,hh,hs'⟩,hx⟩
end
theorem tru_ends {t : Int} {l : List Mk} {ks : List Int} {hs : List (List Int)} {ds : List De} {deed owner : Int} (hok : HeOk t l ks hs ds) (x : List Int) : x ∈ endsL t l hs ds deed owner ↔ ∃ g ∈ trG t l deed owner ds 0 hs,x = firstH g:=by
 have hg : GSh l.length ks.length hs:=⟨hok.hl,hok.rl⟩
 have hnn : nnG hs = true:=nnG_iff.2 fun r hr y hy => (hok.rb r hr y hy).1
 rw [reach_iff hok.n5 hok.f3 ds 0 hs hg (fun d hd => ⟨hok.dE d hd,hok.dI d hd⟩) hnn,ends_reach x ds.length (Nat.le_refl _),Nat.sub_self]
 constructor
 ·rintro ⟨h,hh,hx⟩
  rw [show h = firstH hs by simpa [endsTo] using hh] at hx
  simpa using hx
 ·intro hx
  exact ⟨firstH hs,by simp [endsTo],by simpa using hx⟩
theorem flatten_get {n : Nat} : ∀ (g : List (List Int)) (f o : Nat),(∀ r ∈ g,r.length = n) → o < n → g.flatten[f * n + o]? = (g[f]?).bind fun r => r[o]?
 | [],f,o,_,_ => by simp
 | r :: g,0,o,h,ho => by
   rw [List.flatten_cons,Nat.zero_mul,Nat.zero_add,List.getElem?_append_left (by rw [h r List.mem_cons_self];exact ho)]
   rfl
 | r :: g,f + 1,o,h,ho => by
   have hr:=h r List.mem_cons_self
   rw [List.flatten_cons,List.getElem?_append_right (by rw [hr,Nat.succ_mul];omega),hr,show (f + 1) * n + o - n = f * n + o by rw [Nat.succ_mul];omega,flatten_get g f o (fun r hr => h r (List.mem_cons_of_mem _ hr)) ho]
   rfl
def unfl (n nf : Nat) (e : List Int) : List Int:=(List.range 15).map fun i => if i / 5 < nf ∧ i % 5 < n then e.getD (i / 5 * n + i % 5) 0 else 0
theorem flat_getG {n nf : Nat} {g : List (List Int)} (h : GSh n nf g) {f o : Nat} (hf : f < nf) (ho : o < n) : g.flatten.getD (f * n + o) 0 = getG g f o:=by
 unfold getG
 rw [List.getD_eq_getElem?_getD,flatten_get g f o h.r ho,List.getD_eq_getElem?_getD,List.getD_eq_getElem?_getD]
 cases hg : g[f]? with
 | none => rw [List.getElem?_eq_none_iff,h.l] at hg;omega
 | some r => rfl
theorem unfl_flat {n nf : Nat} {g : List (List Int)} (h : GSh n nf g) : unfl n nf g.flatten = firstH g:=by
 unfold unfl firstH
 refine List.map_congr_left fun i hi => ?_
 split
 ·rename_i hc
  rw [flat_getG h hc.1 hc.2];rfl
 ·rename_i hc
  by_cases hf : i / 5 < nf
  ·have ho : ¬ i % 5 < n:=fun ho => hc ⟨hf,ho⟩
   rw [List.getD_eq_getElem?_getD (l:=g.getD (i / 5) []),List.getElem?_eq_none (by rw [h.row hf];omega)];rfl
  ·rw [List.getD_eq_getElem?_getD (l:=g),List.getElem?_eq_none (by rw [h.l];omega)];rfl
theorem firstH_inj {n nf : Nat} {g g' : List (List Int)} (h : GSh n nf g) (h' : GSh n nf g') (hn : n ≤ 5) (hf : nf ≤ 3) (e : firstH g = firstH g') : g = g':=by
 refine List.ext_getElem (by rw [h.l,h'.l]) fun f h1 h2 => ?_
 have hfn : f < nf:=by rw [← h.l];exact h1
 have e1:=h.r _ (List.getElem_mem h1)
 have e2:=h'.r _ (List.getElem_mem h2)
 refine List.ext_getElem (by rw [e1,e2]) fun o h3 h4 => ?_
 have hg:=firstH_get g (f:=f) (o:=o) (by omega) (by omega)
 have hg':=firstH_get g' (f:=f) (o:=o) (by omega) (by omega)
 rw [e,hg'] at hg
 unfold getG at hg
 rw [List.getD_eq_getElem?_getD (l:=g),List.getD_eq_getElem?_getD (l:=g'),List.getElem?_eq_getElem h1,List.getElem?_eq_getElem h2,Option.getD_some,Option.getD_some,List.getD_eq_getElem?_getD,List.getD_eq_getElem?_getD,List.getElem?_eq_getElem h3,List.getElem?_eq_getElem h4] at hg
 exact hg.symm
theorem tru_perm {t : Int} {l : List Mk} {ks : List Int} {hs : List (List Int)} {ds : List De} {deed owner : Int} (hok : HeOk t l ks hs ds) :
 ((addsE [] (trG t l deed owner ds 0 hs)).map (unfl l.length ks.length)).Perm (endsL t l hs ds deed owner) ∧ ∀ e ∈ addsE [] (trG t l deed owner ds 0 hs),∃ g,GSh l.length ks.length g ∧ e = g.flatten:=by
 have hg : GSh l.length ks.length hs:=⟨hok.hl,hok.rl⟩
 have hsh:=trG_sh (t:=t) (l:=l) (deed:=deed) (owner:=owner) ds 0 hs hg fun d hd => deedE_ow (hok.dE d hd)
 have hmem : ∀ e,e ∈ addsE [] (trG t l deed owner ds 0 hs) ↔ ∃ g ∈ trG t l deed owner ds 0 hs,e = g.flatten:=fun e => by rw [mem_addsE];simp
 refine ⟨perm_of_mem ?_ (endsTo_nodup _ _ _ _ _ _ _) fun x => ?_,fun e he => ?_⟩
 ·rw [List.Nodup,List.pairwise_map]
  refine (nodup_addsE List.nodup_nil).imp_of_mem fun {a b} ha hb hab e => hab ?_
  obtain ⟨g,hg1,rfl⟩:=(hmem a).1 ha
  obtain ⟨g',hg2,rfl⟩:=(hmem b).1 hb
  rw [unfl_flat (hsh g hg1),unfl_flat (hsh g' hg2)] at e
  rw [firstH_inj (hsh g hg1) (hsh g' hg2) hok.n5 hok.f3 e]
 ·rw [tru_ends hok x,List.mem_map]
  constructor
  ·rintro ⟨e,he,rfl⟩
   obtain ⟨g,hg1,rfl⟩:=(hmem e).1 he
   exact ⟨g,hg1,unfl_flat (hsh g hg1)⟩
  ·rintro ⟨g,hg1,rfl⟩
   exact ⟨g.flatten,(hmem _).2 ⟨g,hg1,rfl⟩,unfl_flat (hsh g hg1)⟩
 ·obtain ⟨g,hg1,rfl⟩:=(hmem e).1 he
  exact ⟨g,hsh g hg1,rfl⟩
end Go.Proofs.Ytmennjmjakdkcaa
namespace Go.Proofs.Ytmennjmjakdkcaa
open Go.RowKit Go.MapKept
set_option linter.unusedVariables false
set_option linter.unusedSimpArgs false
set_option maxRecDepth 100000 in
set_option maxHeartbeats 1000000 in
theorem checkD_any (p : Nat) (b : Hb) (deed owner now : Int) (d : De) (w : World) (hp : w.heap[p]? = some (b.bk deed owner now)) (hin : HbIn w b) (hck : check b.t b.l = 0) :
 Calls Try.prog 83 #[.pointer (some ⟨p,0,none⟩),dv d] w fun e w' => e = .returned (.int .i64 (deedE b.l.length b.ks.length d)) ∧ Below w.heap.size w w':=by
 obtain ⟨V,hV⟩ : ∃ V,V = w.alloc (dObj d):=⟨_,rfl⟩
 obtain ⟨g,hg⟩ : ∃ g,g = w.heap.size:=⟨_,rfl⟩
 have b0 : V.heap[g]? = some (dObj d):=by rw [hV,hg];exact alloc_at rfl
 have hBV : Below w.heap.size w V:=by rw [hV];exact bal0 w _
 have hpV:=bheap hp hBV (Nat.le_refl _)
 have hiV:=hin.below hBV (Nat.le_refl _)
 obtain ⟨c0,c1,c2,c3,c4,c5,c6,c7,c8,c9,c10,c11⟩:=blkD b0
 have hkm : b.ks.length ≤ maxLen:=Nat.le_trans hin.kc hin.km
 have hbt:=betweenH_any d.kind 1 6 V
 have hif:=isFlock_any p b.t b.A b.l.length b.c b.Ak b.ks.length b.ck b.vh b.vd deed owner now d.flock V hpV hkm
 obtain ⟨k1,hk1⟩ : ∃ k1,k1 = btw d.kind 1 6:=⟨_,rfl⟩
 obtain ⟨k2,hk2⟩ : ∃ k2,k2 = ownB b.ks.length d.flock:=⟨_,rfl⟩
 rw [← hk1] at hbt
 rw [← hk2] at hif
 have HK:=Lib.hid (And.intro hk1.symm hk2.symm)
 have HV:=Lib.hid (And.intro hBV (And.intro b0 (And.intro hpV (And.intro hiV hck))))
 have HG:=Lib.hid hg
 clear hk1 hk2
 unfold dv
 go_enter Try.func83,Try.ntmps83
 go_upto_region 1 with (fail)
 rw [← hV,← hg]
 clear hV hg hp hin hck hBV hpV hiV b0
 cases k1 with
 | false =>
   go_wp2_with (go_at_call 56;refine hbt.mono ?_;rintro e w' ⟨rfl,rfl⟩)
   go_ret
   exact ⟨ret_int (by unfold deedE;rw [if_pos HK.out.1]),HV.out.1⟩
 | true =>
 cases k2 with
 | false =>
   go_wp2_with (first
    | (go_at_call 56;refine hbt.mono ?_;rintro e w' ⟨rfl,rfl⟩)
    | (go_at_call 75;refine hif.mono ?_;rintro e w' ⟨rfl,rfl⟩))
   go_ret
   exact ⟨ret_int (by unfold deedE;rw [if_neg (by rw [HK.out.1];simp),if_pos HK.out.2]),HV.out.1⟩
 | true =>
 have hchk:=checked_any p b deed owner now d V HV.out.2.2.1 HV.out.2.2.2.1 HV.out.2.2.2.2 (btw_iff.1 HK.out.1)
 unfold dv at hchk
 go_upto_region 6 with (first
  | (go_at_call 56;refine hbt.mono ?_;rintro e w' ⟨rfl,rfl⟩)
  | (go_at_call 75;refine hif.mono ?_;rintro e w' ⟨rfl,rfl⟩)
  | (go_at_call 108;refine hchk.mono ?_;rintro e w2 ⟨⟨x,rfl,hx⟩,hb2⟩))
 obtain ⟨Y,hY⟩ : ∃ Y,Y = w2.alloc (dObj x):=⟨_,rfl⟩
 obtain ⟨gx,hgx⟩ : ∃ gx,gx = w2.heap.size:=⟨_,rfl⟩
 have y1 : Y.heap[gx]? = some (dObj x):=by rw [hY,hgx];exact alloc_at rfl
 have y0 : Y.heap[g]? = some (dObj d):=by rw [hY];exact hblk_alloc (bheap HV.out.2.1 hb2 (Nat.le_refl _)) _
 have hBY : Below w.heap.size w Y:=by rw [hY];exact bal (HV.out.1.trans (hb2.mono HV.out.1.size)) (Nat.le_refl _) _
 obtain ⟨e0,e1,e2,e3,e4,e5,e6,e7,e8,e9,e10,e11⟩:=blkD y0
 obtain ⟨r0,r1,r2,r3,r4,r5,r6,r7,r8,r9,r10,r11⟩:=blkD y1
 rw [← hY,← hgx]
 have HY:=Lib.hid (And.intro hBY hx)
 clear hY hgx y1 y0 hBY hb2 hx c0 c1 c2 c3 c4 c5 c6 c7 c8 c9 c10 c11 hbt hif hchk
 obtain ⟨fe,hfe⟩ : ∃ fe,fe = fldE b.l.length b.ks.length d:=⟨_,rfl⟩
 have HFE:=Lib.hid hfe
 rw [← hfe]
 clear hfe
 by_cases h0 : fe = 0
 ·subst h0
  have hxn : x = namD d:=HY.out.2 HFE.out.symm
  by_cases hdx : x = d
  ·have hde : deedE b.l.length b.ks.length d = 0:=by
    unfold deedE
    rw [if_neg (by rw [HK.out.1];simp),if_neg (by rw [HK.out.2];simp),if_neg (by rw [← HFE.out];simp),if_neg (fun h => h (hdx.symm.trans hxn))]
   have HDE:=Lib.hid (And.intro hde HY.out.1)
   clear HY HFE HK HV hde hxn
   subst hdx
   go_wp2_with fail
   go_ret
   exact ⟨ret_int HDE.out.1.symm,HDE.out.2⟩
  ·have hde : deedE b.l.length b.ks.length d = 1:=by
    unfold deedE
    rw [if_neg (by rw [HK.out.1];simp),if_neg (by rw [HK.out.2];simp),if_neg (by rw [← HFE.out];simp),if_pos (fun h => hdx (hxn.trans h.symm))]
   have HDE:=Lib.hid (And.intro hde (And.intro HY.out.1 hdx))
   clear HY HFE HK HV hde hxn hdx
   obtain ⟨dk,df,dow,dot,dt,dm,de,⟨dsn,dsl,dsr,dsb,dsp⟩⟩:=d
   obtain ⟨xk,xf,xow,xot,xt,xm,xe,⟨xsn,xsl,xsr,xsb,xsp⟩⟩:=x
   dsimp only at *
   go_wp2_with fail
   all_goals
    first
     | (go_ret
        exact ⟨ret_int HDE.out.1.symm,HDE.out.2.1⟩)
     | (exfalso
        subst_vars
        exact HDE.out.2.2 rfl)
 ·have x0 : (fe == 0) = false:=beq_eq_false_iff_ne.2 h0
  have H0:=Lib.hid h0
  clear h0
  go_wp2_with fail
  go_ret
  refine ⟨ret_int ?_,HY.out.1⟩
  unfold deedE
  rw [if_neg (by rw [HK.out.1];simp),if_neg (by rw [HK.out.2];simp),← HFE.out,if_pos H0.out]
set_option maxRecDepth 100000 in
theorem begin_any (b : Hb) (w : World) :
 Calls Try.prog 85 #[b.v] w fun e w' => ∃ p,e = .returned (.pointer (some ⟨p,0,none⟩)) ∧ w.heap.size ≤ p ∧ w'.heap[p]? = some (b.bk (-1) 0 0) ∧ Below w.heap.size w w':=by
 unfold Hb.v
 go_enter Try.func85,Try.ntmps85
 go_wp2
 go_ret
 exact ⟨_,rfl,by omega,alloc_at (by simp),bal (bal0 w _) (Nat.le_refl _) _⟩
end Go.Proofs.Ytmennjmjakdkcaa
namespace Go.Proofs.Ytmennjmjakdkcaa
open Go.RowKit Go.MapKept
set_option linter.unusedVariables false
set_option linter.unusedSimpArgs false
theorem deedsE_snoc (n nf : Nat) : ∀ (l : List De) (d : De),deedsE n nf l = 0 → deedsE n nf (l ++ [d]) = deedE n nf d
 | [],d,_ => by unfold deedsE;simp [deedsE];intro h;exact h.symm
 | x :: l,d,h => by
   unfold deedsE at h
   split at h
   ·rename_i h1;exact absurd h h1
   ·rename_i h1
    rw [List.cons_append]
    conv => lhs;unfold deedsE
    rw [if_neg h1]
    exact deedsE_snoc n nf l d h
theorem deedsE_stop (n nf : Nat) : ∀ (l m : List De),deedsE n nf l ≠ 0 → deedsE n nf (l ++ m) = deedsE n nf l
 | [],m,h => absurd rfl h
 | x :: l,m,h => by
   rw [List.cons_append]
   unfold deedsE at h ⊢
   split
   ·rfl
   ·rename_i h1
    rw [if_neg h1] at h
    exact deedsE_stop n nf l m h
theorem blk5c {w : World} {b : Nat} {t : TypeId} {v0 v1 v2 v3 v4 : Value} (h : w.heap[b]? = some (.cells #[v0,v1,v2,v3,v4] t (0,0))) : w.cell? ⟨b,0,none⟩ = some v0 ∧ w.cell? ⟨b,1,none⟩ = some v1 ∧ w.cell? ⟨b,2,none⟩ = some v2 ∧ w.cell? ⟨b,3,none⟩ = some v3 ∧ w.cell? ⟨b,4,none⟩ = some v4:=blk5 h
abbrev Hb.obj (b : Hb) : Obj:=.cells #[.int .i64 b.t,.slice b.A b.l.length b.c,.slice b.Ak b.ks.length b.ck,.slice b.Ah b.hs.length b.ch,.slice b.Ad b.ds.length b.cd] 29 (0,0)
set_option maxRecDepth 100000 in
set_option maxHeartbeats 1000000 in
theorem CheckH_any (b : Hb) (w : World) (hin : HbIn w b) :
 Calls Try.prog 94 #[b.v] w fun e w' => e = .returned (.int .i64 b.chk) ∧ Below w.heap.size w w':=by
 obtain ⟨V,hV⟩ : ∃ V,V = w.alloc b.obj:=⟨_,rfl⟩
 obtain ⟨g,hg⟩ : ∃ g,g = w.heap.size:=⟨_,rfl⟩
 have b0 : V.heap[g]? = some b.obj:=by rw [hV,hg];exact alloc_at rfl
 have hBV : Below w.heap.size w V:=by rw [hV];exact bal0 w _
 have hiV:=hin.below hBV (Nat.le_refl _)
 obtain ⟨c0,c1,c2,c3,c4⟩:=blk5c b0
 have hmk:=check_any b.t b.A b.l.length b.c b.l V hiV.m hiV.mc hiV.mm
 have HV:=Lib.hid (And.intro hBV (And.intro b0 (And.intro hiV hg)))
 have hdm : b.ds.length ≤ maxLen:=Nat.le_trans hin.dc hin.dm
 unfold maxLen at hdm
 unfold Hb.v
 go_enter Try.func94,Try.ntmps94
 go_upto_region 1 with (fail)
 rw [← hV,← hg]
 clear hV hg hin hBV hiV b0
 obtain ⟨ck,hck⟩ : ∃ ck,ck = check b.t b.l:=⟨_,rfl⟩
 rw [← hck] at hmk
 by_cases h0 : ck = 0
 ·subst h0
  have HCK:=Lib.hid hck.symm
  clear hck
  go_upto_region 4 with (go_at_call 58;refine hmk.mono ?_;rintro e w2 ⟨rfl,hb2⟩)
  have x0:=bheap HV.out.2.1 hb2 (Nat.le_refl _)
  have hi2:=HV.out.2.2.1.below hb2 (Nat.le_refl _)
  have hB2:=HV.out.1.trans (hb2.mono HV.out.1.size)
  clear c0 c1 c2 c3 c4 hmk hb2
  obtain ⟨c0,c1,c2,c3,c4⟩:=blk5c x0
  have H2:=Lib.hid (And.intro hB2 (And.intro x0 hi2))
  clear x0 hi2 hB2
  have hbg:=begin_any b w2
  unfold Hb.v at hbg
  go_upto_region 5 with (go_at_call 85;refine hbg.mono ?_;rintro e w3 ⟨p,rfl,hp,hpb,hb3⟩)
  have x0:=bheap H2.out.2.1 hb3 (Nat.le_refl _)
  have hi3:=H2.out.2.2.below hb3 (Nat.le_refl _)
  have hB3:=H2.out.1.trans (hb3.mono H2.out.1.size)
  have hfl:=flocks_any p b (-1) 0 0 w3 hpb hi3
  clear c0 c1 c2 c3 c4 hbg hb3 hp
  obtain ⟨c0,c1,c2,c3,c4⟩:=blk5c x0
  have H3:=Lib.hid (And.intro hB3 (And.intro x0 (And.intro hi3 hpb)))
  clear x0 hi3 hB3 hpb
  obtain ⟨fe,hfe⟩ : ∃ fe,fe = flocksE b.l.length b.ks b.hs:=⟨_,rfl⟩
  rw [← hfe] at hfl
  by_cases hf0 : fe = 0
  ·subst hf0
   have HFE:=Lib.hid hfe.symm
   clear hfe
   have hchk : b.chk = if 6 < b.ds.length then 6 else deedsE b.l.length b.ks.length b.ds:=by
    unfold Hb.chk checkH
    rw [if_neg (by rw [HCK.out];simp),if_neg (by rw [HFE.out];simp)]
   have HCH:=Lib.hid hchk
   clear hchk
   by_cases h6 : 6 < b.ds.length
   ·have x6 : decide (6 < (b.ds.length : Int)) = true:=by simp;omega
    have HL:=Lib.hid h6
    clear h6
    go_wp2_with (go_at_call 112;refine hfl.mono ?_;rintro e w' ⟨rfl,rfl⟩)
    go_ret
    exact ⟨ret_int (by rw [HCH.out,if_pos HL.out]),H3.out.1⟩
   ·have x6 : decide (6 < (b.ds.length : Int)) = false:=by simp;omega
    have HL:=Lib.hid h6
    clear h6
    obtain ⟨Ad,hAd⟩ : ∃ Ad,Ad = b.Ad:=⟨_,rfl⟩
    rw [← hAd] at c4
    have hG:=H3.out.2.2.1.d
    rw [← hAd] at hG
    obtain ⟨nd,hnd⟩ : ∃ nd,nd = b.ds.length:=⟨_,rfl⟩
    rw [← hnd] at c4 hG x6 hdm
    have HND:=Lib.hid hnd
    have hg3 : p < w3.heap.size:=heap_lt H3.out.2.2.2
    clear hAd hnd
    go_wp2_with (go_at_call 112;refine hfl.mono ?_;rintro e w' ⟨rfl,rfl⟩)
    go_loopg [29] nd (fun g v wr => ∃ k : Nat,k + g = nd ∧ v = .int .i64 k ∧ deedsE b.l.length b.ks.length (b.ds.take k) = 0 ∧ Below w3.heap.size w3 wr)
    case atStart => exact ⟨0,by omega,rfl,rfl,Below.refl _ _⟩
    case round =>
     obtain ⟨k,hk,rfl,hall,hBr⟩:=hrel
     have HK:=Lib.hid (And.intro hk (And.intro hall hBr))
     by_cases hlt : k < nd
     ·obtain ⟨bi,oi,d,hA,hbi,hdk,d0,d1,d2,d3,d4,d5,d6,d7,d8,d9,d10,d11⟩:=Deeds.get (hG.below hBr (Nat.le_refl _)) hlt
      subst hA
      have HD:=Lib.hid hdk
      have bz : (wr.alloc dZ).heap[wr.heap.size]? = some dZ:=alloc_at rfl
      clear hk hall hBr hbi hdk
      go_upto_region 13 with ((with_reducible apply wp_storeD bz rfl);(rfl);(rfl);(rfl);(rfl);intro w5 b5 g5 z5)
      obtain ⟨gx,hgx⟩ : ∃ gx,gx = wr.heap.size:=⟨_,rfl⟩
      have hg5 : wr.grownBy w5 none:=⟨g5.os,g5.tape,g5.output,by rw [z5];simp,fun j hj _ => (g5.block j (by simp;omega) (fun e => by cases e;omega)).trans (Below.heap_alloc _ _ _ hj)⟩
      have hB5 : Below w3.heap.size w3 w5:=HK.out.2.2.trans ((Below.refl _ _).grown hg5 HK.out.2.2.size (fun k e => by cases e))
      have hcd:=checkD_any p b (-1) 0 0 d w5 (bheap H3.out.2.2.2 hB5 (Nat.le_refl _)) (H3.out.2.2.1.below hB5 (Nat.le_refl _)) HCK.out
      unfold dv at hcd
      obtain ⟨de,hde⟩ : ∃ de,de = deedE b.l.length b.ks.length d:=⟨_,rfl⟩
      rw [← hde] at hcd
      rw [← hgx] at b5 ⊢
      obtain ⟨y0,y1,y2,y3,y4,y5,y6,y7,y8,y9,y10,y11⟩:=blkD b5
      have H5:=Lib.hid hB5
      clear hgx z5 g5 hg5 hB5 bz b5 d0 d1 d2 d3 d4 d5 d6 d7 d8 d9 d10 d11
      have htk : b.ds.take (k + 1) = b.ds.take k ++ [d]:=by rw [List.take_add_one,HD.out];rfl
      have HTK:=Lib.hid htk
      clear htk
      by_cases hd0 : de = 0
      ·subst hd0
       have HDE:=Lib.hid hde.symm
       clear hde
       go_wp2_with (go_at_call 83;refine hcd.mono ?_;rintro e w6 ⟨rfl,hb6⟩)
       go_roundg (gk - 1)
       case measure => have:=HK.out.1;omega
       case rel => exact ⟨k + 1,by have:=HK.out.1;omega,by go_num,by rw [HTK.out,deedsE_snoc _ _ _ _ HK.out.2.1];exact HDE.out,H5.out.trans (hb6.mono H5.out.size)⟩
      ·have xd : (de != 0) = true:=by simp [hd0]
       have HD0:=Lib.hid (And.intro hd0 hde)
       clear hd0 hde
       go_wp2_with (go_at_call 83;refine hcd.mono ?_;rintro e w6 ⟨rfl,hb6⟩)
       go_ret
       refine ⟨ret_int ?_,H3.out.1.trans ((H5.out.trans (hb6.mono H5.out.size)).mono H3.out.1.size)⟩
       rw [HCH.out,if_neg HL.out,← List.take_append_drop (k + 1) b.ds,deedsE_stop,HTK.out,deedsE_snoc _ _ _ _ HK.out.2.1]
       ·exact HD0.out.2
       ·rw [HTK.out,deedsE_snoc _ _ _ _ HK.out.2.1,← HD0.out.2];exact HD0.out.1
     ·obtain rfl : k = nd:=by omega
      have HE:=Lib.hid (show b.chk = 0 by rw [HCH.out,if_neg HL.out];have:=HK.out.2.1;rw [HND.out,List.take_length] at this;exact this)
      have HB:=Lib.hid (H3.out.1.trans (hBr.mono H3.out.1.size))
      clear hk hall hBr
      go_wp2_with fail
      go_ret
      exact ⟨ret_int HE.out.symm,HB.out⟩
  ·have xf : (fe != 0) = true:=by simp [hf0]
   have HF0:=Lib.hid (And.intro hf0 hfe)
   clear hf0 hfe
   go_wp2_with (go_at_call 112;refine hfl.mono ?_;rintro e w' ⟨rfl,rfl⟩)
   go_ret
   refine ⟨ret_int ?_,H3.out.1⟩
   unfold Hb.chk checkH
   rw [if_neg (by rw [HCK.out];simp),← HF0.out.2,if_pos HF0.out.1]
 ·have xf : (ck != 0) = true:=by simp [h0]
  have HF0:=Lib.hid (And.intro h0 hck)
  clear h0 hck
  go_wp2_with (go_at_call 58;refine hmk.mono ?_;rintro e w2 ⟨rfl,hb2⟩)
  go_ret
  refine ⟨ret_int ?_,HV.out.1.trans (hb2.mono HV.out.1.size)⟩
  unfold Hb.chk checkH
  rw [← HF0.out.2,if_pos HF0.out.1]
def AskedR (b : Hb) (ck : Int) (w : World) (e : Ending) (w' : World) : Prop:=(ck ≠ 0 ∧ e = .returned (.tuple #[.pointer none,.int .i64 ck]) ∧ Below w.heap.size w w') ∨
 (ck = 0 ∧ ∃ p,e = .returned (.tuple #[.pointer (some ⟨p,0,none⟩),.int .i64 0]) ∧ Work w p b (-1) 0 w' ∧ Below w.heap.size w w')
set_option maxRecDepth 100000 in
set_option maxHeartbeats 1000000 in
theorem asked_any (b : Hb) (w : World) (hin : HbIn w b) :
 Calls Try.prog 55 #[b.v] w (AskedR b b.chk w):=by
 obtain ⟨V,hV⟩ : ∃ V,V = w.alloc b.obj:=⟨_,rfl⟩
 obtain ⟨g,hg⟩ : ∃ g,g = w.heap.size:=⟨_,rfl⟩
 have b0 : V.heap[g]? = some b.obj:=by rw [hV,hg];exact alloc_at rfl
 have hBV : Below w.heap.size w V:=by rw [hV];exact bal0 w _
 have hiV:=hin.below hBV (Nat.le_refl _)
 obtain ⟨c0,c1,c2,c3,c4⟩:=blk5c b0
 have hck:=CheckH_any b V hiV
 unfold Hb.v at hck
 obtain ⟨ce,hce⟩ : ∃ ce,ce = b.chk:=⟨_,rfl⟩
 rw [← hce] at hck ⊢
 have HV:=Lib.hid (And.intro hBV (And.intro b0 (And.intro hin (And.intro hg hce.symm))))
 unfold Hb.v
 go_enter Try.func55,Try.ntmps55
 go_upto_region 1 with (fail)
 rw [← hV,← hg]
 clear hV hg hin hBV hiV b0 hce
 by_cases h0 : ce = 0
 ·subst h0
  go_upto_region 4 with (go_at_call 94;refine hck.mono ?_;rintro e w2 ⟨rfl,hb2⟩)
  have x0:=bheap HV.out.2.1 hb2 (Nat.le_refl _)
  have hB2:=HV.out.1.trans (hb2.mono HV.out.1.size)
  clear c0 c1 c2 c3 c4 hck hb2
  obtain ⟨c0,c1,c2,c3,c4⟩:=blk5c x0
  have H2:=Lib.hid hB2
  have hbg:=begin_any b w2
  unfold Hb.v at hbg
  clear x0 hB2
  go_wp2_with (go_at_call 85;refine hbg.mono ?_;rintro e w3 ⟨p,rfl,hp,hpb,hb3⟩)
  go_ret2
  have hB3:=H2.out.trans (hb3.mono H2.out.size)
  exact .inr ⟨rfl,p,rfl,⟨HV.out.2.2.1,Nat.le_trans H2.out.size hp,hB3,⟨_,hpb⟩,HV.out.2.2.2.2⟩,hB3⟩
 ·have xf : (ce != 0) = true:=by simp [h0]
  have H0:=Lib.hid h0
  clear h0
  go_wp2_with (go_at_call 94;refine hck.mono ?_;rintro e w2 ⟨rfl,hb2⟩)
  go_ret2
  exact .inl ⟨H0.out,rfl,HV.out.1.trans (hb2.mono HV.out.1.size)⟩
end Go.Proofs.Ytmennjmjakdkcaa
