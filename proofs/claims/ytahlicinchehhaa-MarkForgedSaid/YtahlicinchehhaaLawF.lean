/- Plain laws of MarkForged: what changes cost. -/
import Derived.Test.YtahlicinchehhaaForge
import Derived.Test.YtahlicinchehhaaLaw
namespace Go.Proofs.Ytahlicinchehhaa
set_option linter.unusedVariables false
set_option linter.unusedSimpArgs false

def forgeOk (a b : Mk) : Prop := butI a.n b.n = 0 ∧ (a.b = 0 ∨ a.b = b.b)
def forgeN (a b : Mk) : Int := (popI (butI b.n a.n) : Int) + (if a.b = b.b then 0 else 1) + (if a.p = b.p then 0 else 1)
theorem but_self (n : Int) (h : n ≤ 255) : butI n n = 0 := by
  rw [eq_zero_iff (butI_lo _ _) (butI_hi _ _)]
  intro i hi
  rw [bit_but _ _ h i hi]
  cases bit n i <;> rfl
theorem pop_zero : popI 0 = 0 := by decide +kernel
theorem forge_ok {a b : Mk} (ha : a.n ≤ 255) (h : forgeOk a b) : forgeS a b = forgeN a b := by
  unfold forgeS
  by_cases hab : a = b
  · subst hab
    rw [if_pos rfl]
    unfold forgeN
    rw [but_self _ ha, pop_zero]
    simp
  · rw [if_neg hab, if_neg]
    · rfl
    · unfold forgeOk at h
      rintro (h1 | h1)
      · exact h1 h.1
      · rcases h.2 with h2 | h2
        · exact h1.1 h2
        · exact h1.2 h2
theorem forge_no {a b : Mk} (ha : a.n ≤ 255) (h : ¬ forgeOk a b) : forgeS a b = -1 := by
  unfold forgeS
  have hab : a ≠ b := by
    rintro rfl
    exact h ⟨but_self _ ha, .inr rfl⟩
  rw [if_neg hab, if_pos]
  unfold forgeOk at h
  by_cases h1 : butI a.n b.n = 0
  · right
    refine ⟨fun h2 => h ⟨h1, .inl h2⟩, fun h2 => h ⟨h1, .inr h2⟩⟩
  · exact .inl h1
theorem forgeN_lo (a b : Mk) : 0 ≤ forgeN a b ∧ forgeN a b ≤ 10 := by
  unfold forgeN
  have := cnt_le (bit (butI b.n a.n))
  unfold popI
  split <;> split <;> omega
theorem but_zero {a b : Int} (hb : b ≤ 255) : butI a b = 0 ↔ ∀ i, i < 8 → bit a i = true → bit b i = true := by
  rw [eq_zero_iff (butI_lo _ _) (butI_hi _ _)]
  constructor
  · intro h i hi ha
    have := h i hi
    rw [bit_but _ _ hb i hi, ha] at this
    simpa using this
  · intro h i hi
    rw [bit_but _ _ hb i hi]
    cases ha : bit a i
    · rfl
    · rw [h i hi ha]; rfl
theorem forge_zero {a b : Mk} (ha : 0 ≤ a.n ∧ a.n ≤ 255) (hb : 0 ≤ b.n ∧ b.n ≤ 255) : forgeS a b = 0 ↔ a = b := by
  constructor
  · intro h
    by_cases hok : forgeOk a b
    · rw [forge_ok ha.2 hok] at h
      unfold forgeN at h
      have h1 := hok.1
      have hp : popI (butI b.n a.n) = 0 ∧ a.b = b.b ∧ a.p = b.p := by
        by_cases k1 : a.b = b.b <;> by_cases k2 : a.p = b.p <;> simp [k1, k2] at h ⊢ <;> omega
      have hn : a.n = b.n := by
        refine bits_ext ha.1 ha.2 hb.1 hb.2 fun i hi => ?_
        have e1 := (but_zero hb.2).1 h1 i hi
        have e2 : bit b.n i = true → bit a.n i = true := by
          intro hbi
          have hc := hp.1
          unfold popI cnt at hc
          rw [List.countP_eq_zero] at hc
          have := hc i (List.mem_range.2 hi)
          rw [bit_but _ _ ha.2 i hi, hbi] at this
          simpa using this
        cases h3 : bit a.n i <;> cases h4 : bit b.n i <;> simp_all
      cases a; cases b
      simp_all
    · rw [forge_no ha.2 hok] at h
      omega
  · rintro rfl
    unfold forgeS; rw [if_pos rfl]
theorem cnt_add {p q r : Nat → Bool} (h : ∀ i, i < 8 → p i = true → q i = true ∨ r i = true) : cnt p ≤ cnt q + cnt r := by
  unfold cnt
  have : ∀ L : List Nat, (∀ i ∈ L, p i = true → q i = true ∨ r i = true) → L.countP p ≤ L.countP q + L.countP r := by
    intro L
    induction L with
    | nil => simp
    | cons a L ih =>
      intro hL
      have := ih (fun i hi => hL i (by simp [hi]))
      have h0 := hL a (by simp)
      rw [List.countP_cons, List.countP_cons, List.countP_cons]
      cases hp : p a <;> cases hq : q a <;> cases hr : r a <;> simp_all <;> omega
  exact this _ fun i hi => h i (by simpa using hi)
theorem forgeOk_trans {a m b : Mk} (hm : m.n ≤ 255) (hb : b.n ≤ 255) (h1 : forgeOk a m) (h2 : forgeOk m b) : forgeOk a b := by
  refine ⟨(but_zero hb).2 fun i hi h => (but_zero hb).1 h2.1 i hi ((but_zero hm).1 h1.1 i hi h), ?_⟩
  rcases h1.2 with h | h
  · exact .inl h
  · rcases h2.2 with h' | h'
    · exact .inl (h.trans h')
    · exact .inr (h.trans h')
theorem forgeN_tri {a m b : Mk} (ha : a.n ≤ 255) (hm : m.n ≤ 255) : forgeN a b ≤ forgeN a m + forgeN m b := by
  unfold forgeN
  have h1 : popI (butI b.n a.n) ≤ popI (butI m.n a.n) + popI (butI b.n m.n) := by
    unfold popI
    refine cnt_add fun i hi h => ?_
    rw [bit_but _ _ ha i hi] at h
    rw [bit_but _ _ ha i hi, bit_but _ _ hm i hi]
    revert h
    cases bit b.n i <;> cases bit a.n i <;> cases bit m.n i <;> simp
  have h2 : (if a.b = b.b then (0 : Int) else 1) ≤ (if a.b = m.b then 0 else 1) + (if m.b = b.b then 0 else 1) := by
    split
    · split <;> split <;> omega
    · split
      · rename_i h h'; rw [if_neg (by rw [← h']; exact h)]; omega
      · split <;> omega
  have h3 : (if a.p = b.p then (0 : Int) else 1) ≤ (if a.p = m.p then 0 else 1) + (if m.p = b.p then 0 else 1) := by
    split
    · split <;> split <;> omega
    · split
      · rename_i h h'; rw [if_neg (by rw [← h']; exact h)]; omega
      · split <;> omega
  omega
/-- what it costs to make the one into the other, as the law writes it down -/
def costS (a b : Mk) : Int := if forgeS a b < 0 then 1000 else forgeS a b
theorem cost_cases (a b : Mk) (ha : a.n ≤ 255) : (forgeOk a b ∧ costS a b = forgeN a b ∧ forgeS a b = forgeN a b) ∨ (¬ forgeOk a b ∧ costS a b = 1000 ∧ forgeS a b = -1) := by
  by_cases h : forgeOk a b
  · refine .inl ⟨h, ?_, forge_ok ha h⟩
    unfold costS
    rw [forge_ok ha h, if_neg (by have := forgeN_lo a b; omega)]
  · refine .inr ⟨h, ?_, forge_no ha h⟩
    unfold costS
    rw [forge_no ha h, if_pos (by omega)]
theorem cost_tri {a m b : Mk} (ha : a.n ≤ 255) (hm : m.n ≤ 255) (hb : b.n ≤ 255) : costS a b ≤ costS a m + costS m b := by
  have l1 := forgeN_lo a b
  have l2 := forgeN_lo a m
  have l3 := forgeN_lo m b
  rcases cost_cases a m ha with ⟨h1, e1, _⟩ | ⟨h1, e1, _⟩
  · rcases cost_cases m b hm with ⟨h2, e2, _⟩ | ⟨h2, e2, _⟩
    · rcases cost_cases a b ha with ⟨h3, e3, _⟩ | ⟨h3, e3, _⟩
      · rw [e1, e2, e3]; exact forgeN_tri ha hm
      · exact absurd (forgeOk_trans hm hb h1 h2) h3
    · rcases cost_cases a b ha with ⟨h3, e3, _⟩ | ⟨h3, e3, _⟩ <;> rw [e1, e2, e3] <;> omega
  · rcases cost_cases m b hm with ⟨h2, e2, _⟩ | ⟨h2, e2, _⟩ <;> rcases cost_cases a b ha with ⟨h3, e3, _⟩ | ⟨h3, e3, _⟩ <;> rw [e1, e2, e3] <;> omega
theorem cost_both {a b : Mk} (ha : 0 ≤ a.n ∧ a.n ≤ 255) (hb : 0 ≤ b.n ∧ b.n ≤ 255) : (decide (costS a b < 1000) && decide (costS b a < 1000)) = ((a.n == b.n) && (a.b == b.b)) := by
  have l1 := forgeN_lo a b
  have l2 := forgeN_lo b a
  have key : (forgeOk a b ∧ forgeOk b a) ↔ (a.n = b.n ∧ a.b = b.b) := by
    constructor
    · rintro ⟨h1, h2⟩
      refine ⟨bits_ext ha.1 ha.2 hb.1 hb.2 fun i hi => ?_, ?_⟩
      · have e1 := (but_zero hb.2).1 h1.1 i hi
        have e2 := (but_zero ha.2).1 h2.1 i hi
        cases h3 : bit a.n i <;> cases h4 : bit b.n i <;> simp_all
      · rcases h1.2 with h | h
        · rcases h2.2 with h' | h'
          · rw [h, h']
          · exact h'.symm
        · exact h
    · rintro ⟨h1, h2⟩
      exact ⟨⟨by rw [h1]; exact but_self _ hb.2, .inr h2⟩, ⟨by rw [h1]; exact but_self _ hb.2, .inr h2.symm⟩⟩
  rw [Bool.eq_iff_iff]
  simp only [Bool.and_eq_true, decide_eq_true_eq, beq_iff_eq]
  rw [← key]
  rcases cost_cases a b ha.2 with ⟨h1, e1, _⟩ | ⟨h1, e1, _⟩ <;> rcases cost_cases b a hb.2 with ⟨h2, e2, _⟩ | ⟨h2, e2, _⟩ <;> rw [e1, e2] <;> simp [h1, h2] <;> omega
theorem cost_lo (a b : Mk) (ha : a.n ≤ 255) : 0 ≤ costS a b ∧ costS a b ≤ 1000 := by
  have l1 := forgeN_lo a b
  rcases cost_cases a b ha with ⟨h1, e1, _⟩ | ⟨h1, e1, _⟩ <;> rw [e1] <;> omega
/-- the owners whose mark can be made so, by the costs -/
theorem prey_cost {l : List Mk} {i k : Nat} {ch : Int} (h6 : ch ≤ 6) : preyB l (i : Int) ch k = ((((k : Int) != (i : Int))) && decide (costS (mkAt l (k : Int)) (mkAt l (i : Int)) ≤ ch)) := by
  unfold preyB costS
  rw [Bool.and_assoc]
  have e1 : decide ((k : Int) ≠ (i : Int)) = ((k : Int) != (i : Int)) := by rw [Bool.eq_iff_iff]; simp [bne]
  rw [e1]
  congr 1
  have hl := forgeS_lo (mkAt l (k : Int)) (mkAt l (i : Int))
  by_cases h : forgeS (mkAt l (k : Int)) (mkAt l (i : Int)) < 0
  · rw [if_pos h, decide_eq_false (by omega), Bool.false_and]
    exact (decide_eq_false (by omega)).symm
  · rw [if_neg h, decide_eq_true (by omega), Bool.true_and]
end Go.Proofs.Ytahlicinchehhaa
