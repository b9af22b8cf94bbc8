/- TopCounted 32: Frame. -/
import Derived.Test.YtgnjknihgjdedaaTc01
import Derived.OpenShut
namespace Go.Proofs.Ytgnjknihgjdedaa
open Go.RowKit
set_option linter.unusedVariables false

theorem ints_of {w : World} {a : Option Addr} {len cap : Nat} {zs : List Int}
    (h : (a = none ∧ len = 0 ∧ cap = 0 ∧ zs = []) ∨ ∃ x, a = some x ∧ len ≤ cap ∧ cap ≤ maxLen ∧ zs.length = cap ∧ (∀ i, i < zs.length → w.cell? (x.add i) = some (.int .i64 (zs.getD i 0))) ∧ ∀ n ∈ zs, (Lit.int .i64 n).wf = true) :
    ∃ nums, Ints w a len nums ∧ len ≤ cap ∧ cap ≤ 9223372036854775807 ∧ (a = none → cap = 0) := by
  rcases h with ⟨rfl, rfl, rfl, rfl⟩ | ⟨x, rfl, h1, h2, h3, h4, h5⟩
  · exact ⟨[], Sl.nil_, Nat.le_refl _, by omega, fun _ => rfl⟩
  · have h2' : cap ≤ 9223372036854775807 := h2
    refine ⟨zs.take len, ⟨by rw [List.length_take]; omega, fun hn => ?_⟩, h1, h2', fun h => by cases h⟩
    obtain ⟨b, off, rfl, hc⟩ := ints_at h4 (by omega)
    refine ⟨b, off, rfl, fun i y hy j u hu => ?_⟩
    rw [List.getElem?_take] at hy
    split at hy
    · have hlt := (List.getElem?_eq_some_iff.1 hy).1
      cases j with
      | zero =>
        simp only [eInt, List.getElem?_cons_zero, Option.some.injEq] at hu
        subst hu
        have := hc i (by omega)
        rw [Nat.mul_one, Nat.add_zero]
        rw [this, List.getD_eq_getElem?_getD, hy]
        rfl
      | succ j => simp [eInt] at hu
    · cases hy
end Go.Proofs.Ytgnjknihgjdedaa
