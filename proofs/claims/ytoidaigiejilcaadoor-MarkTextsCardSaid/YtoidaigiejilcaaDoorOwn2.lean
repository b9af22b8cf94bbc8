/- Slices of different types lie in different blocks.
   Slices of sights of the call's own. -/
import Derived.Test.YtoidaigiejilcaaDoorBase
namespace Go.Proofs.YtoidaigiejilcaaDoor
open Go.RowKit
set_option linter.unusedVariables false

theorem Own.ne {α : Type} {enc : α → List Value} {e e' : TypeId} {sz : Nat} {w : World} {base g n c : Nat} {l : List α} {b : Nat} {cs : Array Value} {x : Nat × Nat} (h : Own enc e sz w base (.slice (some ⟨g, 0, none⟩) n c) l) (hb : w.heap[b]? = some (.cells cs e' x)) (hne : e ≠ e') : g ≠ b := by
  intro hgb
  subst hgb
  rcases h.2 with ⟨hv, _⟩ | ⟨g', cap, cur, hv, hg, hh, _⟩
  · cases hv
  · cases hv
    rw [hh] at hb
    cases hb
    exact hne rfl

theorem Own.ne' {α : Type} {enc : α → List Value} {e e' : TypeId} {sz : Nat} {w : World} {base : Nat} {v : Value} {l : List α} {b : Nat} {cs : Array Value} {x : Nat × Nat} (h : Own enc e sz w base v l) (hb : w.heap[b]? = some (.cells cs e' x)) (hne : e ≠ e') : v.ownBlock ≠ some b := by
  intro hgb
  rcases h.2 with ⟨hv, _⟩ | ⟨g', cap, cur, hv, hg, hh, _⟩
  · rw [hv] at hgb; cases hgb
  · rw [hv] at hgb
    cases hgb
    rw [hh] at hb
    cases hb
    exact hne rfl

end Go.Proofs.YtoidaigiejilcaaDoor

namespace Go.Proofs.YtoidaigiejilcaaDoor
open Go.RowKit
set_option linter.unusedVariables false

theorem okSight : ElemOk Tryd.prog 56 42 5 32 := ElemOk.mk' (z := .agg #[.int .i64 0, .bool false, .bool false, .int .i64 0, .int .i64 0]) Tryd.underlying56 (by kernel_rfl) rfl (by decide)
abbrev OwnS (w : World) (base : Nat) (v : Value) (l : List Sg) : Prop := Own eSg 42 5 w base v l
theorem one_eSg (x : Sg) : ∀ u ∈ eSg x, u.oneCell' = true := by
  intro u hu; simp [eSg] at hu; rcases hu with rfl | rfl | rfl | rfl | rfl <;> rfl
end Go.Proofs.YtoidaigiejilcaaDoor
