/- Plain laws of MarkHome: all givings, gone through. -/
import Derived.Test.YtoidaigiejilcaaLawH
namespace Go.Proofs.Ytoidaigiejilcaa
set_option linter.unusedVariables false
set_option linter.unusedSimpArgs false

theorem find_first {α : Type} {p : α → Bool} : ∀ {l : List α} {j : Nat} {x : α}, l[j]? = some x → p x = true → (∀ (j' : Nat) x', j' < j → l[j']? = some x' → p x' = false) → l.find? p = some x
  | a :: l, 0, x, hx, hp, _ => by
    simp at hx; subst hx
    rw [List.find?_cons, hp]
  | a :: l, j + 1, x, hx, hp, h => by
    have h0 := h 0 a (by omega) rfl
    rw [List.find?_cons, h0]
    exact find_first (l := l) (j := j) (by simpa using hx) hp fun j' x' hj hx' => h (j' + 1) x' (by omega) (by simpa using hx')
  | [], j, x, hx, _, _ => by simp at hx
/-- the place of the first giving among the first i, -1 if there is none -/
def FirstIs (p : List Int → Bool) (all : List (List Int)) (i : Nat) (f : Int) : Prop :=
  (f = -1 ∧ ∀ (j : Nat) x, j < i → all[j]? = some x → p x = false) ∨ ∃ j : Nat, f = j ∧ j < i ∧ ∃ x, all[j]? = some x ∧ p x = true ∧ ∀ (j' : Nat) x', j' < j → all[j']? = some x' → p x' = false
theorem FirstIs.zero {p : List Int → Bool} {all : List (List Int)} : FirstIs p all 0 (-1) := .inl ⟨rfl, fun j x h => by omega⟩
theorem FirstIs.no {p : List Int → Bool} {all : List (List Int)} {i : Nat} {f : Int} {x : List Int} (h : FirstIs p all i f) (hx : all[i]? = some x) (hp : p x = false) : FirstIs p all (i + 1) f := by
  rcases h with ⟨h1, h2⟩ | ⟨j, h1, h2, h3⟩
  · refine .inl ⟨h1, fun j y hj hy => ?_⟩
    by_cases hji : j = i
    · subst hji; rw [hx] at hy; cases hy; exact hp
    · exact h2 j y (by omega) hy
  · exact .inr ⟨j, h1, by omega, h3⟩
theorem FirstIs.yes {p : List Int → Bool} {all : List (List Int)} {i : Nat} {x : List Int} (h : FirstIs p all i (-1)) (hx : all[i]? = some x) (hp : p x = true) : FirstIs p all (i + 1) i := by
  rcases h with ⟨h1, h2⟩ | ⟨j, h1, h2, h3⟩
  · exact .inr ⟨i, rfl, by omega, x, hx, hp, fun j' x' h => h2 j' x' h⟩
  · omega
theorem FirstIs.more {p : List Int → Bool} {all : List (List Int)} {i : Nat} {f : Int} (h : FirstIs p all i f) (hf : 0 ≤ f) : FirstIs p all (i + 1) f := by
  rcases h with ⟨h1, h2⟩ | ⟨j, h1, h2, h3⟩
  · omega
  · exact .inr ⟨j, h1, by omega, h3⟩
theorem FirstIs.lo {p : List Int → Bool} {all : List (List Int)} {i : Nat} {f : Int} (h : FirstIs p all i f) : f = -1 ∨ 0 ≤ f ∧ f < i := by
  rcases h with ⟨h1, h2⟩ | ⟨j, h1, h2, h3⟩ <;> omega

/-- some giving among the first i has the owner o for the stray k -/
def hasB (p : List Int → Bool) (all : List (List Int)) (i k o : Nat) : Bool := (all.take i).any fun x => p x && decide (x.getD k 0 = (o : Int))
theorem hasB_no {p : List Int → Bool} {all : List (List Int)} {i k o : Nat} {x : List Int} (hx : all[i]? = some x) (hp : p x = false) : hasB p all (i + 1) k o = hasB p all i k o := by
  unfold hasB; rw [List.take_add_one, hx, List.any_append]; simp [hp]
theorem hasB_yes {p : List Int → Bool} {all : List (List Int)} {i k o : Nat} {x : List Int} (hx : all[i]? = some x) (hp : p x = true) : hasB p all (i + 1) k o = (hasB p all i k o || decide (x.getD k 0 = (o : Int))) := by
  unfold hasB; rw [List.take_add_one, hx, List.any_append]; simp [hp]
theorem idx_inj {n a b c d : Nat} (hb : b < n) (hd : d < n) (h : a * n + b = c * n + d) : a = c ∧ b = d := by
  have hn : 0 < n := by omega
  have h1 : (a * n + b) / n = a := by rw [Nat.mul_comm, Nat.mul_add_div hn, Nat.div_eq_of_lt hb, Nat.add_zero]
  have h2 : (c * n + d) / n = c := by rw [Nat.mul_comm, Nat.mul_add_div hn, Nat.div_eq_of_lt hd, Nat.add_zero]
  have : a = c := by rw [← h1, h, h2]
  subst this
  exact ⟨rfl, by omega⟩
theorem idx_lt {n L k o : Nat} (hk : k < L) (ho : o < n) : k * n + o < L * n := by
  have : (k + 1) * n ≤ L * n := Nat.mul_le_mul_right n hk
  rw [Nat.succ_mul] at this
  omega

section
variable {t : Int} {l : List Mk} {ss : List Sg} {mis : List Int} (hn5 : l.length ≤ 5) (hmis : ∀ x ∈ mis, 0 ≤ x)
/-- all lists -/
def allW (l : List Mk) (ss : List Sg) : List (List Int) := wordsL l.length ss.length
include hn5 hmis in
theorem give_all : giveL (mays t l ss) mis 0 (fun _ _ => true) = (allW l ss).find? (givesB t l ss mis) := by
  rw [give_find hn5 hmis]
  refine find_congr fun x _ => ?_
  rw [List.all_eq_true.2 (fun _ _ => rfl), Bool.and_true]
include hn5 hmis in
theorem owns_all {k : Nat} (hk : k < ss.length) : ownsRow (mays t l ss) mis k = ((List.range l.length).filter (hasB (givesB t l ss mis) (allW l ss) (allW l ss).length k)).map Int.ofNat := by
  have hs := List.getElem?_eq_getElem hk
  have hrow : ((mays t l ss)[k]?).getD [] = mayL t l ss[k] := by
    have := mays_getD (t := t) (l := l) hs
    rwa [List.getD_eq_getElem?_getD] at this
  unfold ownsRow ownsIn
  rw [hrow]
  unfold mayL mayTo
  rw [List.filter_map, List.filter_filter]
  congr 1
  refine List.filter_congr fun o ho => ?_
  have ho' := List.mem_range.1 ho
  have hm := List.getElem?_eq_getElem ho'
  show ((giveL (mays t l ss) mis 0 (letB k (o : Int))).isSome && _) = _
  rw [give_find hn5 hmis, hm, Bool.eq_iff_iff]
  unfold hasB
  rw [List.take_of_length_le (Nat.le_refl _), List.any_eq_true, Bool.and_eq_true, List.find?_isSome]
  constructor
  · rintro ⟨⟨x, hx, hp⟩, hf⟩
    rw [Bool.and_eq_true, List.all_eq_true] at hp
    refine ⟨x, hx, ?_⟩
    rw [Bool.and_eq_true, decide_eq_true_eq]
    refine ⟨hp.1, ?_⟩
    have := hp.2 k (List.mem_range.2 hk)
    unfold letB at this
    simpa using this
  · rintro ⟨x, hx, hp⟩
    rw [Bool.and_eq_true, decide_eq_true_eq] at hp
    refine ⟨⟨x, hx, ?_⟩, ?_⟩
    · rw [Bool.and_eq_true, List.all_eq_true]
      refine ⟨hp.1, fun p _ => ?_⟩
      unfold letB
      by_cases hpk : p = k
      · subst hpk; simp only [hp.2, decide_true, Bool.or_true]
      · simp [hpk]
    · have hg := hp.1
      unfold givesB at hg
      rw [Bool.and_eq_true] at hg
      have hxl := (wordsL_mem hx).1
      have h := List.all_eq_true.1 hg.2 k (List.mem_range.2 (by omega))
      unfold fitAt mkAt at h
      rw [hp.2] at h
      have hd : decide ((o : Int) < 0) = false := decide_eq_false (by omega)
      rw [hd, Bool.false_or, List.getD_eq_getElem?_getD, hs] at h
      simp only [Option.getD_some, Int.toNat_natCast, hm] at h
      simpa using h
end
end Go.Proofs.Ytoidaigiejilcaa
