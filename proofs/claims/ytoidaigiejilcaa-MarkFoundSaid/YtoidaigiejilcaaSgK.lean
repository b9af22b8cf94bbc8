/- Slices of sights of the call's own. -/
import Derived.Test.YtoidaigiejilcaaBase
namespace Go.Proofs.Ytoidaigiejilcaa
open Go.RowKit
set_option linter.unusedVariables false

theorem okSight : ElemOk Try.prog 26 44 5 32 := ElemOk.mk' (z := .agg #[.int .i64 0, .bool false, .bool false, .int .i64 0, .int .i64 0]) Try.underlying26 (by kernel_rfl) rfl (by decide)
abbrev OwnS (w : World) (base : Nat) (v : Value) (l : List Sg) : Prop := Own eSg 44 5 w base v l
theorem one_eSg (x : Sg) : ∀ u ∈ eSg x, u.oneCell' = true := by
  intro u hu; simp [eSg] at hu; rcases hu with rfl | rfl | rfl | rfl | rfl <;> rfl
end Go.Proofs.Ytoidaigiejilcaa
