/- The pairs that MarkKnown lays: their world. -/
import Derived.Test.YtoidaigiejilcaaKnown
namespace Go.Proofs.Ytoidaigiejilcaa
open Go.RowKit
set_option linter.unusedVariables false
set_option linter.unusedSimpArgs false

def rowO (a b : Int) : Obj := Obj.cells #[Value.int .i64 a, Value.int .i64 b] 3
def ptr2 (b : Nat) : Value := Value.slice (some ⟨b, 0, none⟩) 2 2
theorem row_of {w : World} {b : Nat} {x y : Int} (h : w.heap[b]? = some (rowO x y)) : Ints w (some ⟨b, 0, none⟩) 2 [x, y] := Sl.of_blk h rfl lenInt
theorem grid2_of {w : World} {b b0 b1 : Nat} {x y u v : Int} {t : TypeId} (h : w.heap[b]? = some (Obj.cells #[ptr2 b0, ptr2 b1] t (0, 0))) (h0 : w.heap[b0]? = some (rowO x y)) (h1 : w.heap[b1]? = some (rowO u v)) : Grid w (some ⟨b, 0, none⟩) 2 [[x, y], [u, v]] := by
  refine ⟨[ptr2 b0, ptr2 b1], Sl.of_blk h rfl lenVal, rfl, fun i z hz => ?_⟩
  have hi : i < 2 := (List.getElem?_eq_some_iff.1 hz).1
  obtain rfl | rfl : i = 0 ∨ i = 1 := by omega
  · cases hz
    exact ⟨_, [x, y], 2, rfl, rfl, row_of h0, Nat.le_refl _, by decide⟩
  · cases hz
    exact ⟨_, [u, v], 2, rfl, rfl, row_of h1, Nat.le_refl _, by decide⟩
theorem grid3_of {w : World} {b b0 b1 b2 : Nat} {x y u v p q : Int} {t : TypeId} (h : w.heap[b]? = some (Obj.cells #[ptr2 b0, ptr2 b1, ptr2 b2] t (0, 0))) (h0 : w.heap[b0]? = some (rowO x y)) (h1 : w.heap[b1]? = some (rowO u v)) (h2 : w.heap[b2]? = some (rowO p q)) : Grid w (some ⟨b, 0, none⟩) 3 [[x, y], [u, v], [p, q]] := by
  refine ⟨[ptr2 b0, ptr2 b1, ptr2 b2], Sl.of_blk h rfl lenVal, rfl, fun i z hz => ?_⟩
  have hi : i < 3 := (List.getElem?_eq_some_iff.1 hz).1
  obtain rfl | rfl | rfl : i = 0 ∨ i = 1 ∨ i = 2 := by omega
  · cases hz
    exact ⟨_, [x, y], 2, rfl, rfl, row_of h0, Nat.le_refl _, by decide⟩
  · cases hz
    exact ⟨_, [u, v], 2, rfl, rfl, row_of h1, Nat.le_refl _, by decide⟩
  · cases hz
    exact ⟨_, [p, q], 2, rfl, rfl, row_of h2, Nat.le_refl _, by decide⟩
theorem Grid.nil_ {w : World} : Grid w none 0 [] := ⟨[], Sl.nil_, rfl, fun i v h => by simp at h⟩

def pw (w : World) : World :=
  ((((((((((w.alloc (rowO 0 1)).alloc (rowO 0 2)).alloc (Obj.cells #[ptr2 w.heap.size, ptr2 (w.heap.size + 1)] 22)).alloc (rowO 0 1)).alloc (rowO 0 2)).alloc (Obj.cells #[ptr2 (w.heap.size + 1 + 1 + 1), ptr2 (w.heap.size + 1 + 1 + 1 + 1)] 22)).alloc
    (rowO 0 1)).alloc (rowO 0 2)).alloc (rowO 1 2)).alloc (Obj.cells #[ptr2 (w.heap.size + 1 + 1 + 1 + 1 + 1 + 1), ptr2 (w.heap.size + 1 + 1 + 1 + 1 + 1 + 1 + 1), ptr2 (w.heap.size + 1 + 1 + 1 + 1 + 1 + 1 + 1 + 1)] 22)).alloc
    (Obj.cells #[Value.slice none 0 0, ptr2 (w.heap.size + 1 + 1), ptr2 (w.heap.size + 1 + 1 + 1 + 1 + 1), Value.slice (some ⟨w.heap.size + 1 + 1 + 1 + 1 + 1 + 1 + 1 + 1 + 1, 0, none⟩) 3 3] 34)
theorem pw_below (w : World) : Below w.heap.size w (pw w) := by
  unfold pw
  repeat (first | exact bal0 _ _ | refine Bel.al ?_ _)
theorem pw_last (w : World) : (pw w).heap[w.heap.size + 1 + 1 + 1 + 1 + 1 + 1 + 1 + 1 + 1 + 1]? = some (Obj.cells #[Value.slice none 0 0, ptr2 (w.heap.size + 1 + 1), ptr2 (w.heap.size + 1 + 1 + 1 + 1 + 1), Value.slice (some ⟨w.heap.size + 1 + 1 + 1 + 1 + 1 + 1 + 1 + 1 + 1, 0, none⟩) 3 3] 34 (0, 0)) := by
  unfold pw
  exact alloc_at (by simp)
theorem pw_at (w : World) (k : Nat) (hk : k < 4) : ∃ A n, (pw w).cell? ⟨w.heap.size + 1 + 1 + 1 + 1 + 1 + 1 + 1 + 1 + 1 + 1, k, none⟩ = some (.slice A n n) ∧ mistE 1 exR k = 0 ∧ Grid (pw w) A n (mistR 1 exR k) ∧ n ≤ maxLen := by
  have hl := pw_last w
  have hc : ∀ i, (pw w).cell? ⟨w.heap.size + 1 + 1 + 1 + 1 + 1 + 1 + 1 + 1 + 1 + 1, i, none⟩ = (#[Value.slice none 0 0, ptr2 (w.heap.size + 1 + 1), ptr2 (w.heap.size + 1 + 1 + 1 + 1 + 1), Value.slice (some ⟨w.heap.size + 1 + 1 + 1 + 1 + 1 + 1 + 1 + 1 + 1, 0, none⟩) 3 3] : Array Value)[i]? := fun i => by
    unfold World.cell?
    simp [hl]
  rw [hc]
  obtain rfl | rfl | rfl | rfl : k = 0 ∨ k = 1 ∨ k = 2 ∨ k = 3 := by omega
  · refine ⟨none, 0, rfl, kn_mist.1, ?_, by decide⟩
    rw [show mistR 1 exR ((0 : Nat) : Int) = [] from kn_mist.2.1]
    exact Grid.nil_
  · refine ⟨_, 2, rfl, kn_mist.2.2.1, ?_, by decide⟩
    rw [show mistR 1 exR ((1 : Nat) : Int) = [[0, 1], [0, 2]] from kn_mist.2.2.2.1]
    refine grid2_of (b0 := w.heap.size) (b1 := w.heap.size + 1) (t := 22) ?_ ?_ ?_
    all_goals
      unfold pw
      repeat (first | (refine alloc_at ?_; simp; done) | refine hblk_alloc ?_ _)
  · refine ⟨_, 2, rfl, kn_mist.2.2.2.2.1, ?_, by decide⟩
    rw [show mistR 1 exR ((2 : Nat) : Int) = [[0, 1], [0, 2]] from kn_mist.2.2.2.2.2.1]
    refine grid2_of (b0 := w.heap.size + 1 + 1 + 1) (b1 := w.heap.size + 1 + 1 + 1 + 1) (t := 22) ?_ ?_ ?_
    all_goals
      unfold pw
      repeat (first | (refine alloc_at ?_; simp; done) | refine hblk_alloc ?_ _)
  · refine ⟨_, 3, rfl, kn_mist.2.2.2.2.2.2.1, ?_, by decide⟩
    rw [show mistR 1 exR ((3 : Nat) : Int) = [[0, 1], [0, 2], [1, 2]] from kn_mist.2.2.2.2.2.2.2]
    refine grid3_of (b0 := w.heap.size + 1 + 1 + 1 + 1 + 1 + 1) (b1 := w.heap.size + 1 + 1 + 1 + 1 + 1 + 1 + 1) (b2 := w.heap.size + 1 + 1 + 1 + 1 + 1 + 1 + 1 + 1) (t := 22) ?_ ?_ ?_ ?_
    all_goals
      unfold pw
      repeat (first | (refine alloc_at ?_; simp; done) | refine hblk_alloc ?_ _)
end Go.Proofs.Ytoidaigiejilcaa
