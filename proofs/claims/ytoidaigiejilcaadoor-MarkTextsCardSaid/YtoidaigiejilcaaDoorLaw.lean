/- Plain laws of marks and sights: an owner may have their own sheep, whatever the wear.
   Plain laws: the verdicts of all owners. -/
import Derived.Test.YtoidaigiejilcaaDoorShow
import Derived.Test.YtoidaigiejilcaaDoorMay
import Derived.Test.YtoidaigiejilcaaDoorKit
namespace Go.Proofs.YtoidaigiejilcaaDoor
set_option linter.unusedVariables false
set_option linter.unusedSimpArgs false

theorem cnt_mono {p q : Nat → Bool} (h : ∀ i, i < 8 → p i = true → q i = true) : cnt p ≤ cnt q :=
  List.countP_mono_left fun i hi => h i (by simpa using hi)
theorem popI_but (a b : Int) (hb : b ≤ 255) : popI (butI a b) ≤ popI a := by
  unfold popI
  exact cnt_mono fun i hi h => by rw [bit_but a b hb i hi] at h; simp at h; exact h.1
theorem wornS_n (m : Mk) (s : Sg) : (wornS m s).n = onI (orI m.n s.n) s.l s.r := rfl
theorem onI_on (n : Int) (l r : Bool) : onI (onI n l r) l r = onI n l r :=
  bits_ext (onI_lo _ _ _) (onI_hi _ _ _) (onI_lo _ _ _) (onI_hi _ _ _) fun i hi => by
    rw [bit_on _ _ _ _ hi, bit_on _ _ _ _ hi]; cases bit n i <;> cases tornB l r i <;> rfl
theorem fits_worn {m : Mk} {s : Sg} {t : Int} (hm : 0 ≤ m.n ∧ m.n ≤ 255) (hs : 0 ≤ s.n ∧ s.n ≤ 255) (hp : (popI s.n : Int) ≤ t) : fits (wornS m s) m t = true := by
  have e1 : alikeBP (wornS m s) m = true := by
    unfold alikeBP wornS
    dsimp only
    by_cases h1 : s.b = -1 <;> by_cases h2 : s.p = -1 <;> simp [h1, h2]
  have e2 : butI (onI m.n s.l s.r) (wornS m s).n = 0 := by
    rw [eq_zero_iff (butI_lo _ _) (butI_hi _ _)]
    intro i hi
    rw [wornS_n, bit_but _ _ (onI_hi _ _ _) i hi, bit_on _ _ _ _ hi, bit_on _ _ _ _ hi, bit_or]
    cases bit m.n i <;> cases bit s.n i <;> cases tornB s.l s.r i <;> rfl
  have e3 : popI (butI (wornS m s).n (onI m.n s.l s.r)) ≤ popI s.n := by
    unfold popI
    refine cnt_mono fun i hi h => ?_
    rw [wornS_n, bit_but _ _ (onI_hi _ _ _) i hi, bit_on _ _ _ _ hi, bit_on _ _ _ _ hi, bit_or] at h
    revert h
    cases bit m.n i <;> cases bit s.n i <;> cases tornB s.l s.r i <;> simp
  unfold fits
  rw [e1]
  have e4 : (wornS m s).l = s.l := rfl
  have e5 : (wornS m s).r = s.r := rfl
  rw [e4, e5, e2]
  simp
  omega
theorem seen_worn {m : Mk} {s : Sg} (hm : (0 ≤ m.n ∧ m.n ≤ 255) ∧ (0 ≤ m.b ∧ m.b ≤ 9) ∧ 0 ≤ m.p ∧ m.p ≤ 6) : seen (wornS m s) 9 6 = 0 := by
  unfold seen
  rw [if_neg (by simp [btw_iff, wornS_n, onI_lo, onI_hi]), if_neg (by rw [wornS_n]; show ¬ onI (onI (orI m.n s.n) s.l s.r) s.l s.r ≠ onI (orI m.n s.n) s.l s.r; rw [onI_on]; simp), if_neg, if_neg]
  · rintro ⟨h1, h2⟩
    have e : (wornS m s).p = m.p := by unfold wornS at h1 ⊢; dsimp only at h1 ⊢; split <;> simp_all
    rw [e, btw_no] at h2
    exact h2 hm.2.2
  · rintro ⟨h1, h2⟩
    have e : (wornS m s).b = m.b := by unfold wornS at h1 ⊢; dsimp only at h1 ⊢; split <;> simp_all
    rw [e, btw_no] at h2
    exact h2 hm.2.1
theorem mem_mayL {t : Int} {l : List Mk} {s : Sg} {o : Nat} {m : Mk} (hm : l[o]? = some m) (hf : fits s m t = true) : (o : Int) ∈ mayL t l s := by
  unfold mayL mayTo
  refine List.mem_map.2 ⟨o, List.mem_filter.2 ⟨?_, ?_⟩, rfl⟩
  · rw [List.mem_range]; exact (List.getElem?_eq_some_iff.1 hm).1
  · rw [hm]; simpa using hf
theorem shown_law {t : Int} {l : List Mk} {o : Nat} {m : Mk} {s : Sg} (hc : check t l = 0) (hm : l[o]? = some m) (hs : seen s 0 0 = 0) (hp : (popI s.n : Int) ≤ t) :
    showE t l o s = 0 ∧ showS t l o s = wornS m s ∧ mayE t l (wornS m s) = 0 ∧ (o : Int) ∈ mayR t l (wornS m s) := by
  have hlt := (List.getElem?_eq_some_iff.1 hm).1
  have hmk := check_marks hc m (List.mem_of_getElem? hm)
  have hat : mkAt l (o : Int) = m := by unfold mkAt; simp [hm]
  have h1 : showE t l o s = 0 := by
    unfold showE
    rw [if_neg (by simp [hc]), if_neg (by have := (ownerE_one (o := (o : Int)) (n := l.length)).2 ⟨by omega, by omega⟩; simp [this]), if_neg (by simp [hs]), hat, if_neg]
    have := popI_but s.n m.n hmk.1.2
    omega
  have h2 : mayE t l (wornS m s) = 0 := by
    unfold mayE
    rw [if_neg (by simp [hc]), seen_worn hmk]
  refine ⟨h1, ?_, h2, ?_⟩
  · unfold showS; rw [if_pos h1, hat]
  · unfold mayR
    rw [if_pos h2]
    exact mem_mayL hm (fits_worn hmk.1 (seen_ok hs).1 hp)
end Go.Proofs.YtoidaigiejilcaaDoor

namespace Go.Proofs.YtoidaigiejilcaaDoor
set_option linter.unusedVariables false
set_option linter.unusedSimpArgs false

theorem mayTo_prefix (t : Int) (l : List Mk) (s : Sg) : ∀ {k n : Nat}, k ≤ n → mayTo t l s k <+: mayTo t l s n := by
  intro k n h
  unfold mayTo
  obtain ⟨d, rfl⟩ := Nat.le.dest h
  refine ⟨(((List.range' k d).filter fun i => (l[i]?).any fun m => fits s m t).map Int.ofNat), ?_⟩
  rw [← List.map_append, ← List.filter_append, List.range_eq_range', List.range_eq_range']
  have h := List.range'_append_1 (s := 0) (m := k) (n := d)
  rw [Nat.zero_add] at h
  rw [h]
theorem mayL_iff {t : Int} {l : List Mk} {s : Sg} {o : Nat} {m : Mk} (hm : l[o]? = some m) : (o : Int) ∈ mayL t l s ↔ fits s m t = true := by
  refine ⟨fun h => ?_, mem_mayL hm⟩
  unfold mayL mayTo at h
  obtain ⟨i, hi, he⟩ := List.mem_map.1 h
  have : i = o := by have he' : (i : Int) = (o : Int) := he; omega
  subst this
  have := (List.mem_filter.1 hi).2
  rw [hm] at this
  simpa using this
/-- what the walk of MarkSure asks at the owner k -/
theorem sure_law {t : Int} {l : List Mk} {s : Sg} {k : Nat} (hE : mayE t l s = 0) (hk : k < l.length) :
    verE t l s k = 0 ∧ mayR t l s = mayL t l s ∧
    ((verV t l s k = 2 ∧ placeI (mayL t l s) k < 0 ∧ ¬ mayL t l s = [(k : Int)] ∧ (mayTo t l s (k + 1)).length = (mayTo t l s k).length) ∨
     ((verV t l s k = 1 ∧ mayL t l s = [(k : Int)] ∨ verV t l s k = 3 ∧ ¬ mayL t l s = [(k : Int)]) ∧ ¬ placeI (mayL t l s) k < 0 ∧ (mayL t l s)[(mayTo t l s k).length]? = some (k : Int) ∧ (mayTo t l s (k + 1)).length = (mayTo t l s k).length + 1)) := by
  have hm : l[k]? = some l[k] := List.getElem?_eq_getElem hk
  have hv : verE t l s k = 0 := by
    unfold verE
    rw [if_neg (by simp [hE]), ownerE_one]
    omega
  refine ⟨hv, by unfold mayR; rw [if_pos hE], ?_⟩
  have hvv : verV t l s k = verL (mayL t l s) k := by unfold verV; rw [if_neg (by simp [hv])]
  have hs := mayTo_succ (t := t) (s := s) hm
  rw [hvv, placeI_neg]
  cases hf : fits s l[k] t
  · have hn : (k : Int) ∉ mayL t l s := fun h => by rw [mayL_iff hm, hf] at h; cases h
    refine .inl ⟨?_, hn, fun h => hn (by rw [h]; simp), ?_⟩
    · unfold verL
      have : (mayL t l s).contains (k : Int) = false := by rw [List.contains_eq_mem, decide_eq_false hn]
      rw [this]; rfl
    · rw [hs, hf]; simp
  · have hn : (k : Int) ∈ mayL t l s := (mayL_iff hm).2 hf
    have hc : (mayL t l s).contains (k : Int) = true := by rw [List.contains_eq_mem, decide_eq_true hn]
    refine .inr ⟨?_, fun h => h hn, ?_, ?_⟩
    · unfold verL
      rw [hc]
      simp only [if_true]
      by_cases h1 : (mayL t l s).length = 1
      · rw [if_pos h1]
        refine .inl ⟨rfl, ?_⟩
        obtain ⟨x, hx⟩ := List.length_eq_one_iff.1 h1
        rw [hx] at hn ⊢
        rw [List.mem_singleton.1 hn]
      · rw [if_neg h1]
        exact .inr ⟨rfl, fun h => h1 (by rw [h]; rfl)⟩
    · obtain ⟨r, hr⟩ := mayTo_prefix t l s (k := k + 1) (n := l.length) hk
      show (mayTo t l s l.length)[_]? = _
      rw [← hr, hs, hf]
      simp
    · rw [hs, hf]; simp
end Go.Proofs.YtoidaigiejilcaaDoor
