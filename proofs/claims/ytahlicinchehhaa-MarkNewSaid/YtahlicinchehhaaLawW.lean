/- Plain laws: with more wear no owner is lost, with more losses no pair is lost. -/
import Derived.Test.YtahlicinchehhaaLaw
import Derived.Test.YtahlicinchehhaaMista
import Derived.Test.YtahlicinchehhaaPair
namespace Go.Proofs.Ytahlicinchehhaa
set_option linter.unusedVariables false
set_option linter.unusedSimpArgs false

/-- a sight with more losses -/
structure Less (s u : Sg) : Prop where
  l : s.l = true → u.l = true
  r : s.r = true → u.r = true
  b : u.b = s.b ∨ u.b = -1
  p : u.p = s.p ∨ u.p = -1
  n : u.n = onI s.n u.l u.r
theorem tornB_mono {l r l' r' : Bool} (hl : l = true → l' = true) (hr : r = true → r' = true) {i : Nat} (h : tornB l r i = true) : tornB l' r' i = true := by
  unfold tornB at h ⊢
  revert h hl hr
  cases decide (i < 4) <;> cases decide (4 ≤ i) <;> cases l <;> cases r <;> cases l' <;> cases r' <;> simp
theorem less_seen {s u : Sg} (h : Less s u) (hs : seen s 9 6 = 0) : seen u 9 6 = 0 := by
  obtain ⟨h1, h2, h3, h4⟩ := seen_ok hs
  unfold seen
  rw [if_neg (by rw [h.n]; simp [btw_iff, onI_lo, onI_hi]), if_neg (by rw [h.n, onI_on]; simp), if_neg, if_neg]
  · rintro ⟨k1, k2⟩
    rw [btw_no] at k2
    rcases h.p with e | e
    · rw [e] at k1 k2; rcases h4 with h4 | h4
      · exact k1 h4
      · exact k2 h4
    · exact k1 e
  · rintro ⟨k1, k2⟩
    rw [btw_no] at k2
    rcases h.b with e | e
    · rw [e] at k1 k2; rcases h3 with h3 | h3
      · exact k1 h3
      · exact k2 h3
    · exact k1 e
theorem less_fits {s u : Sg} {m : Mk} {t : Int} (h : Less s u) (hs : seen s 9 6 = 0) (hf : fits s m t = true) : fits u m t = true := by
  obtain ⟨h1, h2, h3, h4⟩ := seen_ok hs
  unfold fits at hf ⊢
  simp only [Bool.and_eq_true, decide_eq_true_eq] at hf ⊢
  obtain ⟨⟨f1, f2⟩, f3⟩ := hf
  have hb := (eq_zero_iff (butI_lo _ _) (butI_hi _ _)).1 f2
  refine ⟨⟨?_, ?_⟩, ?_⟩
  · unfold alikeBP at f1 ⊢
    simp only [Bool.and_eq_true, Bool.or_eq_true, decide_eq_true_eq] at f1 ⊢
    refine ⟨?_, ?_⟩
    · rcases h.b with e | e
      · rw [e]; exact f1.1
      · exact .inl e
    · rcases h.p with e | e
      · rw [e]; exact f1.2
      · exact .inl e
  · rw [eq_zero_iff (butI_lo _ _) (butI_hi _ _)]
    intro i hi
    have h5 := hb i hi
    rw [bit_but _ _ (by omega) i hi, bit_on _ _ _ _ hi] at h5
    rw [h.n, bit_but _ _ (onI_hi _ _ _) i hi, bit_on _ _ _ _ hi, bit_on _ _ _ _ hi]
    have h6 := tornB_mono (i := i) h.l h.r
    revert h5 h6
    cases bit m.n i <;> cases bit s.n i <;> cases tornB s.l s.r i <;> cases tornB u.l u.r i <;> simp
  · refine Int.le_trans ?_ f3
    have : popI (butI u.n (onI m.n u.l u.r)) ≤ popI (butI s.n (onI m.n s.l s.r)) := by
      unfold popI
      refine cnt_mono fun i hi h5 => ?_
      rw [h.n, bit_but _ _ (onI_hi _ _ _) i hi, bit_on _ _ _ _ hi, bit_on _ _ _ _ hi] at h5
      rw [bit_but _ _ (onI_hi _ _ _) i hi, bit_on _ _ _ _ hi]
      revert h5
      cases bit m.n i <;> cases bit s.n i <;> cases tornB s.l s.r i <;> cases tornB u.l u.r i <;> simp
    omega
theorem on_self {s : Sg} (hs : seen s 9 6 = 0) {i : Nat} (hi : i < 8) : bit s.n i = true → tornB s.l s.r i = false := by
  obtain ⟨h1, h2, h3, h4⟩ := seen_ok hs
  intro h
  rw [← h2, bit_on _ _ _ _ hi] at h
  simp at h
  exact h.2
theorem less_left {s : Sg} (hs : seen s 9 6 = 0) : Less s ⟨butI s.n 15, true, s.r, s.b, s.p⟩ := by
  refine ⟨fun _ => rfl, id, .inl rfl, .inl rfl, ?_⟩
  refine bits_ext (butI_lo _ _) (butI_hi _ _) (onI_lo _ _ _) (onI_hi _ _ _) fun i hi => ?_
  dsimp only
  rw [bit_but _ _ (by omega) i hi, bit_on _ _ _ _ hi]
  have h := on_self hs hi
  have : ∀ i : Fin 8, ∀ r l : Bool, (tornB l r i.1 = false → bit 15 i.1 = tornB true r i.1) := by decide
  cases hb : bit s.n i
  · rfl
  · rw [this ⟨i, hi⟩ s.r s.l (h hb)]
theorem less_right {s : Sg} (hs : seen s 9 6 = 0) : Less s ⟨butI s.n 240, s.l, true, s.b, s.p⟩ := by
  refine ⟨id, fun _ => rfl, .inl rfl, .inl rfl, ?_⟩
  refine bits_ext (butI_lo _ _) (butI_hi _ _) (onI_lo _ _ _) (onI_hi _ _ _) fun i hi => ?_
  dsimp only
  rw [bit_but _ _ (by omega) i hi, bit_on _ _ _ _ hi]
  have h := on_self hs hi
  have : ∀ i : Fin 8, ∀ r l : Bool, (tornB l r i.1 = false → bit 240 i.1 = tornB l true i.1) := by decide
  cases hb : bit s.n i
  · rfl
  · rw [this ⟨i, hi⟩ s.r s.l (h hb)]
theorem less_brand {s : Sg} (hs : seen s 9 6 = 0) : Less s ⟨s.n, s.l, s.r, -1, s.p⟩ := ⟨id, id, .inr rfl, .inl rfl, (seen_ok hs).2.1.symm⟩
theorem less_paint {s : Sg} (hs : seen s 9 6 = 0) : Less s ⟨s.n, s.l, s.r, s.b, -1⟩ := ⟨id, id, .inl rfl, .inr rfl, (seen_ok hs).2.1.symm⟩
theorem less_may {t : Int} {l : List Mk} {s u : Sg} (h : Less s u) (hs : seen s 9 6 = 0) {o : Int} (ho : o ∈ mayL t l s) : o ∈ mayL t l u := by
  unfold mayL mayTo at ho
  obtain ⟨i, hi, rfl⟩ := List.mem_map.1 ho
  obtain ⟨h1, h2⟩ := List.mem_filter.1 hi
  cases hm : l[i]? with
  | none => rw [hm] at h2; simp at h2
  | some m =>
    rw [hm] at h2
    exact mem_mayL hm (less_fits h hs (by simpa using h2))
theorem mem_mistL {t los : Int} {l : List Mk} {x : List Int} : x ∈ mistL l t los ↔ ∃ i j : Nat, i < j ∧ j < l.length ∧ mixAt l t i j ≤ los ∧ x = [(i : Int), (j : Int)] := by
  unfold mistL mistTo
  rw [List.mem_flatMap]
  constructor
  · rintro ⟨i, hi, h⟩
    unfold mistRow at h
    obtain ⟨j, hj, rfl⟩ := List.mem_map.1 h
    obtain ⟨h1, h2⟩ := List.mem_filter.1 hj
    simp only [List.mem_range, Bool.and_eq_true, decide_eq_true_eq] at h1 h2
    exact ⟨i, j, h2.1, h1, h2.2, rfl⟩
  · rintro ⟨i, j, h1, h2, h3, rfl⟩
    refine ⟨i, by simp; omega, ?_⟩
    unfold mistRow
    exact List.mem_map.2 ⟨j, List.mem_filter.2 ⟨by simpa using h2, by simp [h1, h3]⟩, rfl⟩
theorem mist_mono {t a b : Int} {l : List Mk} (h : a ≤ b) {x : List Int} (hx : x ∈ mistL l t a) : x ∈ mistL l t b := by
  obtain ⟨i, j, h1, h2, h3, h4⟩ := mem_mistL.1 hx
  exact mem_mistL.2 ⟨i, j, h1, h2, by omega, h4⟩
theorem mixed_four (a b : Mk) {t : Int} (ht : 0 ≤ t) : mixedS a b t ≤ 4 := by
  have h := mixed_any_iff a b t 4 (by omega)
  have h2 : (wearsL.any fun s => decide ((lossN s : Int) ≤ 4) && alikeW a b t s) = true := by
    refine List.any_eq_true.2 ⟨wearOf 15, by decide +kernel, ?_⟩
    have e1 : wearOf 15 = ⟨0, true, true, -1, -1⟩ := by decide +kernel
    have e2 : ∀ n, onI n true true = 0 := fun n => by unfold onI earMask; simp
    rw [e1]
    unfold alikeW bpW
    simp only [e2]
    have e3 : popI (butI 0 0) = 0 := by decide +kernel
    rw [e3]
    simp [lossN, ht]
  rw [h2] at h
  simpa using h.symm
def pairsN (n : Nat) : List (List Int) := (List.range n).flatMap fun (i : Nat) => ((List.range n).filter fun j => decide (i < j)).map fun (j : Nat) => [(i : Int), (j : Int)]
theorem mist_four {l : List Mk} {t : Int} (ht : 0 ≤ t) : mistL l t 4 = pairsN l.length := by
  unfold mistL mistTo pairsN mistRow
  congr 1
  funext i
  congr 1
  refine List.filter_congr fun j _ => ?_
  have h4 : mixAt l t i j ≤ 4 := mixed_four _ _ ht
  rw [decide_eq_true h4, Bool.and_true]
theorem pairs_len : ∀ n : Fin 6, (pairsN n.1).length = n.1 * (n.1 - 1) / 2 := by decide +kernel
end Go.Proofs.Ytahlicinchehhaa
