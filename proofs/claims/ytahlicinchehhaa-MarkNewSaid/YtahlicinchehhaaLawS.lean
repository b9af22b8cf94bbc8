/- Plain law of MarkSights: all sights of two marks. -/
import Derived.Test.YtahlicinchehhaaLawW
import Derived.Test.YtahlicinchehhaaPair
namespace Go.Proofs.Ytahlicinchehhaa
set_option linter.unusedVariables false
set_option linter.unusedSimpArgs false

/-- the sight that is gone through: notches i, with such losses, else as the mark a -/
def sightI (a : Mk) (s : Sg) (i : Nat) : Sg := ⟨i, s.l, s.r, if s.b = -1 then -1 else a.b, if s.p = -1 then -1 else a.p⟩
/-- it fits both -/
def hitB (a b : Mk) (t : Int) (s : Sg) (i : Nat) : Bool := decide (onI (i : Int) s.l s.r = i) && (fits (sightI a s i) a t && fits (sightI a s i) b t)
theorem alike_of_hit {a b : Mk} {t : Int} {s : Sg} {i : Nat} (ha : 0 ≤ a.b) (hap : 0 ≤ a.p) (hi : i ≤ 255) (h : hitB a b t s i = true) : alikeW a b t s = true := by
  unfold hitB fits at h
  simp only [Bool.and_eq_true, decide_eq_true_eq] at h
  obtain ⟨h0, ⟨⟨a1, a2⟩, a3⟩, ⟨b1, b2⟩, b3⟩ := h
  unfold sightI at a1 a2 a3 b1 b2 b3
  dsimp only at a1 a2 a3 b1 b2 b3
  have za := (eq_zero_iff (butI_lo _ _) (butI_hi _ _)).1 a2
  have zb := (eq_zero_iff (butI_lo _ _) (butI_hi _ _)).1 b2
  unfold alikeW bpW
  unfold alikeBP at b1
  simp only [Bool.and_eq_true, Bool.or_eq_true, decide_eq_true_eq] at b1 ⊢
  have hle : ∀ x y : Int, (∀ i' , i' < 8 → bit (butI (onI x s.l s.r) i) i' = false) → popI (butI (onI x s.l s.r) (onI y s.l s.r)) ≤ popI (butI i (onI y s.l s.r)) := by
    intro x y hx
    unfold popI
    refine cnt_mono fun j hj h => ?_
    have h1 := hx j hj
    rw [bit_but _ _ (by omega) j hj] at h1
    rw [bit_but _ _ (onI_hi _ _ _) j hj] at h ⊢
    revert h h1
    cases bit (onI x s.l s.r) j <;> cases bit (i : Int) j <;> simp
  have h1 := hle b.n a.n zb
  have h2 := hle a.n b.n za
  refine ⟨⟨⟨?_, ?_⟩, by omega⟩, by omega⟩
  · rcases b1.1 with e | e
    · split at e
      · rename_i h; exact .inl h
      · omega
    · split at e
      · rename_i h; exact .inl h
      · exact .inr e
  · rcases b1.2 with e | e
    · split at e
      · rename_i h; exact .inl h
      · omega
    · split at e
      · rename_i h; exact .inl h
      · exact .inr e
theorem hit_of_alike {a b : Mk} {t : Int} {s : Sg} (h : alikeW a b t s = true) : ∃ i, i < 256 ∧ hitB a b t s i = true := by
  unfold alikeW bpW at h
  simp only [Bool.and_eq_true, Bool.or_eq_true, decide_eq_true_eq] at h
  obtain ⟨⟨⟨h1, h2⟩, h3⟩, h4⟩ := h
  have lo := onI_lo (orI a.n b.n) s.l s.r
  have hi := onI_hi (orI a.n b.n) s.l s.r
  refine ⟨(onI (orI a.n b.n) s.l s.r).toNat, by omega, ?_⟩
  have hI : (((onI (orI a.n b.n) s.l s.r).toNat : Nat) : Int) = onI (orI a.n b.n) s.l s.r := Int.toNat_of_nonneg lo
  unfold hitB fits sightI
  rw [hI]
  dsimp only
  rw [onI_on]
  have z : ∀ x y : Int, (∀ j, j < 8 → bit (orI a.n b.n) j = (bit x j || bit y j)) → butI (onI x s.l s.r) (onI (orI a.n b.n) s.l s.r) = 0 ∧ popI (butI (onI (orI a.n b.n) s.l s.r) (onI x s.l s.r)) ≤ popI (butI (onI y s.l s.r) (onI x s.l s.r)) := by
    intro x y hxy
    constructor
    · rw [eq_zero_iff (butI_lo _ _) (butI_hi _ _)]
      intro j hj
      rw [bit_but _ _ (onI_hi _ _ _) j hj, bit_on _ _ _ _ hj, bit_on _ _ _ _ hj, hxy j hj]
      cases bit x j <;> cases bit y j <;> cases tornB s.l s.r j <;> rfl
    · unfold popI
      refine cnt_mono fun j hj h => ?_
      rw [bit_but _ _ (onI_hi _ _ _) j hj, bit_on _ _ _ _ hj, bit_on _ _ _ _ hj, hxy j hj] at h
      rw [bit_but _ _ (onI_hi _ _ _) j hj, bit_on _ _ _ _ hj, bit_on _ _ _ _ hj]
      revert h
      cases bit x j <;> cases bit y j <;> cases tornB s.l s.r j <;> simp
  obtain ⟨z1, z2⟩ := z a.n b.n (fun j _ => bit_or _ _ _)
  obtain ⟨z3, z4⟩ := z b.n a.n (fun j _ => by rw [bit_or, Bool.or_comm])
  have e1 : alikeBP ⟨onI (orI a.n b.n) s.l s.r, s.l, s.r, if s.b = -1 then -1 else a.b, if s.p = -1 then -1 else a.p⟩ a = true := by
    unfold alikeBP
    by_cases k1 : s.b = -1 <;> by_cases k2 : s.p = -1 <;> simp [k1, k2]
  have e2 : alikeBP ⟨onI (orI a.n b.n) s.l s.r, s.l, s.r, if s.b = -1 then -1 else a.b, if s.p = -1 then -1 else a.p⟩ b = true := by
    unfold alikeBP
    by_cases k1 : s.b = -1 <;> by_cases k2 : s.p = -1 <;> simp_all
  rw [e1, e2, z1, z3]
  simp
  omega
/-- the least number of losses of the first k ways that make them alike; within the way k, the first n sights gone through -/
def leastTo (a b : Mk) (t : Int) : Nat → Nat
  | 0 => 5
  | k + 1 => if alikeW a b t (wearOf k) then min (leastTo a b t k) (lossN (wearOf k)) else leastTo a b t k
theorem leastTo_succ (a b : Mk) (t : Int) (k : Nat) : leastTo a b t (k + 1) = if alikeW a b t (wearOf k) then min (leastTo a b t k) (lossN (wearOf k)) else leastTo a b t k := rfl
def hitTo (a b : Mk) (t : Int) (s : Sg) (n : Nat) : Bool := (List.range n).any (hitB a b t s)
def leastIn (a b : Mk) (t : Int) (k n : Nat) : Nat := if hitTo a b t (wearOf k) n then min (leastTo a b t k) (lossN (wearOf k)) else leastTo a b t k
theorem leastIn_zero {a b : Mk} {t : Int} {k : Nat} : leastIn a b t k 0 = leastTo a b t k := by simp [leastIn, hitTo]
theorem hitTo_succ {a b : Mk} {t : Int} {s : Sg} {n : Nat} : hitTo a b t s (n + 1) = (hitTo a b t s n || hitB a b t s n) := by
  unfold hitTo; rw [List.range_succ, List.any_append]; simp
theorem leastIn_no {a b : Mk} {t : Int} {k n : Nat} (h : hitB a b t (wearOf k) n = false) : leastIn a b t k (n + 1) = leastIn a b t k n := by
  unfold leastIn; rw [hitTo_succ, h, Bool.or_false]
theorem leastIn_yes {a b : Mk} {t : Int} {k n : Nat} (h : hitB a b t (wearOf k) n = true) : leastIn a b t k (n + 1) = min (leastIn a b t k n) (lossN (wearOf k)) := by
  unfold leastIn; rw [hitTo_succ, h, Bool.or_true, if_pos rfl]
  split
  · omega
  · rfl
theorem leastIn_end {a b : Mk} {t : Int} {k : Nat} (ha : 0 ≤ a.b) (hap : 0 ≤ a.p) : leastIn a b t k 256 = leastTo a b t (k + 1) := by
  unfold leastIn
  rw [leastTo_succ]
  have : hitTo a b t (wearOf k) 256 = alikeW a b t (wearOf k) := by
    rw [Bool.eq_iff_iff]
    unfold hitTo
    rw [List.any_eq_true]
    constructor
    · rintro ⟨i, hi, h⟩
      exact alike_of_hit ha hap (by have := List.mem_range.1 hi; omega) h
    · intro h
      obtain ⟨i, hi, h⟩ := hit_of_alike h
      exact ⟨i, List.mem_range.2 hi, h⟩
  rw [this]
theorem leastTo_skip {a b : Mk} {t : Int} {k : Nat} (h : leastTo a b t k ≤ lossN (wearOf k)) : leastTo a b t (k + 1) = leastTo a b t k := by
  rw [leastTo_succ]; split
  · exact Nat.min_eq_left h
  · rfl
theorem leastTo_le5 (a b : Mk) (t : Int) : ∀ k, leastTo a b t k ≤ 5
  | 0 => Nat.le_refl _
  | k + 1 => by have := leastTo_le5 a b t k; rw [leastTo_succ]; split <;> omega
theorem leastIn_le5 (a b : Mk) (t : Int) (k n : Nat) : leastIn a b t k n ≤ 5 := by
  have := leastTo_le5 a b t k; unfold leastIn; split <;> omega
theorem leastTo_le (a b : Mk) (t : Int) {los : Nat} (h4 : los ≤ 4) : ∀ k, leastTo a b t k ≤ los ↔ ∃ j, j < k ∧ lossN (wearOf j) ≤ los ∧ alikeW a b t (wearOf j) = true
  | 0 => by unfold leastTo; constructor
            · omega
            · rintro ⟨j, h, _⟩; omega
  | k + 1 => by
    have ih := leastTo_le a b t h4 k
    rw [leastTo_succ]
    constructor
    · intro h
      split at h
      · rename_i hal
        by_cases h1 : leastTo a b t k ≤ los
        · obtain ⟨j, h2, h3⟩ := ih.1 h1
          exact ⟨j, by omega, h3⟩
        · exact ⟨k, by omega, by omega, hal⟩
      · obtain ⟨j, h2, h3⟩ := ih.1 h
        exact ⟨j, by omega, h3⟩
    · rintro ⟨j, h1, h2, h3⟩
      by_cases hj : j = k
      · subst hj; rw [if_pos h3]; omega
      · have := ih.2 ⟨j, by omega, h2, h3⟩
        split <;> omega
theorem least_mixed (a b : Mk) (t : Int) : (leastTo a b t 16 : Int) = mixedS a b t := by
  have hm := mixedS_lo a b t
  have hl := leastTo_le5 a b t 16
  have key : ∀ los : Nat, los ≤ 4 → (leastTo a b t 16 ≤ los ↔ mixedS a b t ≤ los) := by
    intro los h4
    rw [leastTo_le a b t h4 16]
    have h := mixed_any_iff a b t los (by omega)
    rw [Bool.eq_iff_iff, List.any_eq_true, decide_eq_true_eq] at h
    rw [← h]
    constructor
    · rintro ⟨j, h1, h2, h3⟩
      exact ⟨wearOf j, List.mem_map.2 ⟨j, List.mem_range.2 h1, rfl⟩, by simp [h3]; omega⟩
    · rintro ⟨s, h1, h2⟩
      obtain ⟨j, hj, rfl⟩ := List.mem_map.1 h1
      simp at h2
      exact ⟨j, List.mem_range.1 hj, by omega, h2.2⟩
  have k0 := key 0 (by omega)
  have k1 := key 1 (by omega)
  have k2 := key 2 (by omega)
  have k3 := key 3 (by omega)
  have k4 := key 4 (by omega)
  omega
theorem alike_comm (a b : Mk) (t : Int) (s : Sg) : alikeW a b t s = alikeW b a t s := by
  unfold alikeW bpW
  rw [show decide (a.b = b.b) = decide (b.b = a.b) from decide_eq_decide.2 ⟨Eq.symm, Eq.symm⟩, show decide (a.p = b.p) = decide (b.p = a.p) from decide_eq_decide.2 ⟨Eq.symm, Eq.symm⟩]
  generalize decide ((popI (butI (onI a.n s.l s.r) (onI b.n s.l s.r)) : Int) ≤ t) = x
  generalize decide ((popI (butI (onI b.n s.l s.r) (onI a.n s.l s.r)) : Int) ≤ t) = y
  simp only [Bool.and_assoc, Bool.and_comm x y]
theorem mixed_comm (a b : Mk) (t : Int) : mixedS a b t = mixedS b a t := by
  unfold mixedS
  simp only [alike_comm a b]
/-- the test of the ears, as the law has it -/
theorem ears_test : ∀ i : Fin 256, ∀ l r : Bool, ((l && (bits .and .i64 (i.1 : Int) 15 != 0)) || (r && (bits .and .i64 (i.1 : Int) 240 != 0))) = (onI (i.1 : Int) l r != i.1) := by decide +kernel
theorem sightI_seen {a : Mk} {k i : Nat} (hk : k < 16) (hi : i ≤ 255) (hb : 0 ≤ a.b ∧ a.b ≤ 9) (hp : 0 ≤ a.p ∧ a.p ≤ 6) (ho : onI (i : Int) (wearOf k).l (wearOf k).r = i) : seen (sightI a (wearOf k) i) 9 6 = 0 := by
  unfold seen sightI
  dsimp only
  rw [if_neg (by simp [btw_iff]; omega), if_neg (by rw [ho]; simp), if_neg, if_neg]
  · rintro ⟨h1, h2⟩
    rw [btw_no] at h2
    split at h2
    · rename_i h; rw [if_pos h] at h1; exact h1 rfl
    · exact h2 hp
  · rintro ⟨h1, h2⟩
    rw [btw_no] at h2
    split at h2
    · rename_i h; rw [if_pos h] at h1; exact h1 rfl
    · exact h2 hb
theorem sightI_loss {a : Mk} {k i : Nat} (hk : k < 16) (hb : 0 ≤ a.b) (hp : 0 ≤ a.p) : lossN (sightI a (wearOf k) i) = lossN (wearOf k) := by
  have hw : ∀ k : Fin 16, ((wearOf k.1).b = -1 ∨ (wearOf k.1).b = 0) ∧ ((wearOf k.1).p = -1 ∨ (wearOf k.1).p = 0) := by decide +kernel
  obtain ⟨h1, h2⟩ := hw ⟨k, hk⟩
  dsimp only at h1 h2
  unfold lossN sightI
  dsimp only
  have e1 : ((if (wearOf k).b = -1 then (-1 : Int) else a.b) = -1) = ((wearOf k).b = -1) := by
    apply propext
    split
    · rename_i h; simp [h]
    · rename_i h; constructor
      · intro; omega
      · intro; exact absurd ‹_› h
  have e2 : ((if (wearOf k).p = -1 then (-1 : Int) else a.p) = -1) = ((wearOf k).p = -1) := by
    apply propext
    split
    · rename_i h; simp [h]
    · rename_i h; constructor
      · intro; omega
      · intro; exact absurd ‹_› h
  simp only [e1, e2]
theorem may_two {a b : Mk} {t : Int} {s : Sg} : ((mayL t [a, b] s).length == 2) = (fits s a t && fits s b t) := by
  unfold mayL mayTo
  have e : List.range [a, b].length = [0, 1] := rfl
  rw [e]
  cases h1 : fits s a t <;> cases h2 : fits s b t <;> simp [List.filter_cons, h1, h2]
/-- two different marks made by the hand are a register -/
theorem check_two {t : Int} {a b : Mk} (ht : 0 ≤ t ∧ t ≤ 2) (ha : mkOk a = true) (hb : mkOk b = true) (hne : a ≠ b) : check t [a, b] = 0 := by
  unfold check
  rw [if_neg (by rw [btw_no]; omega), if_neg (by simp)]
  simp [chk, ha, hb, Ne.symm hne]
end Go.Proofs.Ytahlicinchehhaa
