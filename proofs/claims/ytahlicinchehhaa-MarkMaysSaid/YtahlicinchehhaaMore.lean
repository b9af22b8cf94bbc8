/- Small words for memory. -/
import Derived.Test.YtahlicinchehhaaApp
namespace Go.Proofs.Ytahlicinchehhaa
open Go.RowKit
set_option linter.unusedVariables false

/-- one block more behind all -/
theorem bal {B : Nat} {w w' : World} (h : Below B w w') (hB : B ≤ w.heap.size) (o : Obj) : Below B w (w'.alloc o) := h.alloc (Nat.le_trans hB h.size) o
theorem bal0 (w : World) (o : Obj) : Below w.heap.size w (w.alloc o) := (Below.refl _ _).alloc (Nat.le_refl _) o
theorem bdraw {B : Nat} {w w' : World} (h : Below B w w') : Below B w w'.drew := below_drewN h 1
theorem blk4 {w : World} {b : Nat} {t : TypeId} {v0 v1 v2 v3 : Value} (h : w.heap[b]? = some (.cells #[v0, v1, v2, v3] t (0, 0))) :
    w.cell? ⟨b, 0, none⟩ = some v0 ∧ w.cell? ⟨b, 1, none⟩ = some v1 ∧ w.cell? ⟨b, 2, none⟩ = some v2 ∧ w.cell? ⟨b, 3, none⟩ = some v3 := by simp [World.cell?, h]
/-- a block of the call's own may be written -/
theorem frz {w : World} {b : Nat} {t : TypeId} {cs : Array Value} (h : w.heap[b]? = some (.cells cs t (0, 0))) (i : Nat) : w.frozen? ⟨b, i, none⟩ = false := by simp [World.frozen?, h]
/-- four stores behind one another into the block b leave what lies below base -/
theorem below_set4 {base : Nat} {w w' : World} (h : Below base w w') {b : Nat} (hb : base ≤ b) (x y z u : Value) : Below base w ((((w'.setCell ⟨b, 0, none⟩ x).setCell ⟨b, 1, none⟩ y).setCell ⟨b, 2, none⟩ z).setCell ⟨b, 3, none⟩ u) :=
  (((h.setCell hb x).setCell hb y).setCell hb z).setCell hb u
/-- a draw ahead does not matter -/
theorem bundrew {w w' : World} (h : Below w.drew.heap.size w.drew w') : Below w.heap.size w w' := ⟨h.os, h.tape, h.output, h.size, h.block⟩
theorem frz_al {w : World} {b i : Nat} {o : Obj} (h : w.frozen? ⟨b, i, none⟩ = false) (hb : b < w.heap.size) : (w.alloc o).frozen? ⟨b, i, none⟩ = false :=
  ((bal0 w o).frozen (p := ⟨b, i, none⟩) hb).trans h
theorem heap_set4 {w : World} {b j : Nat} (h : j ≠ b) (x y z u : Value) : ((((w.setCell ⟨b, 0, none⟩ x).setCell ⟨b, 1, none⟩ y).setCell ⟨b, 2, none⟩ z).setCell ⟨b, 3, none⟩ u).heap[j]? = w.heap[j]? :=
  (Below.heap_setCell _ ⟨b, 3, none⟩ u j h).trans ((Below.heap_setCell _ ⟨b, 2, none⟩ z j h).trans ((Below.heap_setCell _ ⟨b, 1, none⟩ y j h).trans (Below.heap_setCell _ ⟨b, 0, none⟩ x j h)))
theorem set3_0 {W : World} {g : Nat} {t : TypeId} {a b c z : Value} (h : W.heap[g]? = some (.cells #[a, b, c] t (0, 0))) : (W.setCell ⟨g, 0, none⟩ z).heap[g]? = some (.cells #[z, b, c] t (0, 0)) := by
  simp [World.setCell, Array.getElem?_modify, h]
/-- what is owned from base on stays so where the blocks from base on are as they were -/
theorem Own.upon {α : Type} {enc : α → List Value} {e : TypeId} {sz : Nat} {w w' : World} {base : Nat} {v : Value} {l : List α} (h : Own enc e sz w base v l) (k : ∀ j, base ≤ j → w'.heap[j]? = w.heap[j]?) : Own enc e sz w' base v l := by
  refine ⟨h.1, ?_⟩
  rcases h.2 with h2 | ⟨g, cap, cur, hv, hg, hh, r⟩
  · exact .inl h2
  · exact .inr ⟨g, cap, cur, hv, hg, (k g hg).trans hh, r⟩
/-- a slice of the call's own that is written out, read as a list -/
theorem Own.sl {α : Type} {enc : α → List Value} {e : TypeId} {sz : Nat} {w : World} {base : Nat} {A : Option Addr} {n c : Nat} {l : List α} (h : Own enc e sz w base (.slice A n c) l) (henc : ∀ x, (enc x).length = sz) : Sl enc sz w A l.length l ∧ l.length ≤ c ∧ c ≤ maxLen := by
  obtain ⟨A', c', hv, hs, h1, h2⟩ := h.form henc
  cases hv
  exact ⟨hs, h1, h2⟩
end Go.Proofs.Ytahlicinchehhaa
