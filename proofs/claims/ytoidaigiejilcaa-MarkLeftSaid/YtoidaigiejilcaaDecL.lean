/- A list of the call's own, taken down by one in place. -/
import Derived.Test.YtoidaigiejilcaaFound
import Derived.Test.YtoidaigiejilcaaLawI
import Derived.Test.YtoidaigiejilcaaLawM
import Derived.Test.YtoidaigiejilcaaCopyI
namespace Go.Proofs.Ytoidaigiejilcaa
open Go.RowKit
set_option linter.unusedVariables false
set_option linter.unusedSimpArgs false

/-- the list's block: the first k numbers are already one less -/
def DL (w : World) (A : Option Addr) (base top : Nat) (x : List Int) (k : Nat) : Prop :=
  x = [] ∨ ∃ g cs, A = some ⟨g, 0, none⟩ ∧ base ≤ g ∧ g < top ∧ w.heap[g]? = some (.cells cs 3 (0, 0)) ∧ ∀ j y, x[j]? = some y → cs[j]? = some (Value.int .i64 (if j < k then y - 1 else y))
theorem DL.start {w : World} {base : Nat} {v : Value} {x : List Int} (h : Own eInt 3 1 w base v x) : ∃ A c, v = .slice A x.length c ∧ x.length ≤ c ∧ c ≤ maxLen ∧ DL w A base w.heap.size x 0 := by
  rcases h.2 with ⟨hv, h0⟩ | ⟨g, cap, cur, hv, hg, hh, hnc, hcm, hsz, htk⟩
  · have hl : x = [] := List.eq_nil_of_length_eq_zero h0
    subst hl
    exact ⟨none, 0, hv, Nat.le_refl _, Nat.zero_le _, .inl rfl⟩
  · refine ⟨_, cap, hv, hnc, hcm, .inr ⟨g, cur, rfl, hg, heap_lt hh, hh, fun j y hj => ?_⟩⟩
    rw [if_neg (by omega)]
    have hlt := (List.getElem?_eq_some_iff.1 hj).1
    have h1 : (x.flatMap eInt)[j]? = some (.int .i64 y) := by
      have e : x.flatMap eInt = x.map (Value.int .i64) := by
        clear htk hj h hlt hnc hcm hsz hv hh hg
        induction x with
        | nil => rfl
        | cons a r ih => rw [List.flatMap_cons, ih]; rfl
      rw [e, List.getElem?_map, hj]; rfl
    rw [← htk, List.getElem?_take_of_lt (by omega), Array.getElem?_toList] at h1
    exact h1
theorem DL.keep {w w' : World} {A : Option Addr} {base top B : Nat} {x : List Int} {k : Nat} (h : DL w A base top x k) (hb : Below B w w') (hB : top ≤ B) : DL w' A base top x k := by
  rcases h with h | ⟨g, cs, hA, hg, ht, hh, hc⟩
  · exact Or.inl h
  · exact .inr ⟨g, cs, hA, hg, ht, (hb.block g (Nat.lt_of_lt_of_le ht hB)).trans hh, hc⟩
theorem DL.ints {w : World} {A : Option Addr} {base top : Nat} {x : List Int} (h : DL w A base top x x.length) : Ints w A x.length (decL x) := by
  rcases h with h | ⟨g, cs, hA, hg, ht, hh, hc⟩
  · subst h; exact Sl.nil_
  · refine ⟨by unfold decL; simp, fun _ => ⟨g, 0, hA, fun i y hy j u hu => ?_⟩⟩
    unfold decL at hy
    rw [List.getElem?_map] at hy
    obtain ⟨z, hz, rfl⟩ := Option.map_eq_some_iff.1 hy
    have hj : j = 0 := by
      cases j with
      | zero => rfl
      | succ j => simp [eInt] at hu
    subst hj
    simp [eInt] at hu
    subst hu
    have h1 := hc i z hz
    rw [if_pos (List.getElem?_eq_some_iff.1 hz).1] at h1
    unfold World.cell?
    simp [hh, h1]
/-- one number -/
theorem DL.at_ {w : World} {A : Option Addr} {base top : Nat} {x : List Int} {k : Nat} (h : DL w A base top x k) (hk : k < x.length) :
    ∃ g y, A = some ⟨g, 0, none⟩ ∧ base ≤ g ∧ g < top ∧ g < w.heap.size ∧ x[k]? = some y ∧ w.cell? ⟨g, k, none⟩ = some (.int .i64 y) ∧ w.frozen? ⟨g, k, none⟩ = false ∧
      (w.setCell ⟨g, k, none⟩ (.int .i64 (y - 1))).cell? ⟨g, k, none⟩ = some (.int .i64 (y - 1)) ∧ DL (w.setCell ⟨g, k, none⟩ (.int .i64 (y - 1))) A base top x (k + 1) := by
  rcases h with h | ⟨g, cs, hA, hg, ht, hh, hc⟩
  · subst h; simp at hk
  · have hx := List.getElem?_eq_getElem hk
    have h1 := hc k _ hx
    rw [if_neg (by omega)] at h1
    have hks : k < cs.size := (Array.getElem?_eq_some_iff.1 h1).1
    refine ⟨g, _, hA, hg, ht, heap_lt hh, hx, ?_, frz hh k, ?_, .inr ⟨g, _, hA, hg, ht, set_blk hh, fun j y hj => ?_⟩⟩
    · unfold World.cell?
      simp [hh, h1]
    · unfold World.cell?
      rw [set_blk hh]
      simp [hks]
    · by_cases hjk : j = k
      · subst hjk
        rw [hx] at hj; cases hj
        rw [if_pos (by omega), Array.getElem?_setIfInBounds_self, if_pos hks]
      · rw [Array.getElem?_setIfInBounds_ne (fun e => hjk e.symm), hc j y hj]
        by_cases h2 : j < k
        · rw [if_pos h2, if_pos (by omega)]
        · rw [if_neg h2, if_neg (by omega)]
theorem decL_getD {x : List Int} {k : Nat} {y : Int} (h : x[k]? = some y) : (decL x).getD k 0 = y - 1 := by
  unfold decL
  rw [List.getD_eq_getElem?_getD, List.getElem?_map, h]; rfl
end Go.Proofs.Ytoidaigiejilcaa
