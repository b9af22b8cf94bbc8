/- Slices of different types lie in different blocks. -/
import Derived.Test.YtoidaigiejilcaaBase
namespace Go.Proofs.Ytoidaigiejilcaa
open Go.RowKit
set_option linter.unusedVariables false

theorem Own.ne {α : Type} {enc : α → List Value} {e e' : TypeId} {sz : Nat} {w : World} {base g n c : Nat} {l : List α} {b : Nat} {cs : Array Value} {x : Nat × Nat} (h : Own enc e sz w base (.slice (some ⟨g, 0, none⟩) n c) l) (hb : w.heap[b]? = some (.cells cs e' x)) (hne : e ≠ e') : g ≠ b := by
  intro hgb
  subst hgb
  rcases h.2 with ⟨hv, _⟩ | ⟨g', cap, cur, hv, hg, hh, _⟩
  · cases hv
  · cases hv
    rw [hh] at hb
    cases hb
    exact hne rfl

theorem Own.ne' {α : Type} {enc : α → List Value} {e e' : TypeId} {sz : Nat} {w : World} {base : Nat} {v : Value} {l : List α} {b : Nat} {cs : Array Value} {x : Nat × Nat} (h : Own enc e sz w base v l) (hb : w.heap[b]? = some (.cells cs e' x)) (hne : e ≠ e') : v.ownBlock ≠ some b := by
  intro hgb
  rcases h.2 with ⟨hv, _⟩ | ⟨g', cap, cur, hv, hg, hh, _⟩
  · rw [hv] at hgb; cases hgb
  · rw [hv] at hgb
    cases hgb
    rw [hh] at hb
    cases hb
    exact hne rfl

end Go.Proofs.Ytoidaigiejilcaa
