/- strays.home: the search whole. -/
import Derived.Test.YtahlicinchehhaaGrow
import Derived.Test.YtahlicinchehhaaMore
import Derived.Laws.EntriesVeiled
namespace Go.Proofs.Ytahlicinchehhaa
open Go.RowKit
set_option linter.unusedVariables false
set_option linter.unusedSimpArgs false

theorem grows_all (S : Srch) (xs : Array Value) (lt : Value) (w0 : World) (C : Ctx S w0 xs lt) : ∀ n, S.Grows xs lt w0 n
  | 0 => grow_zero S xs lt w0 C
  | n + 1 => grow_succ S xs lt w0 C n (grows_all S xs lt w0 C n)

/-- what a search gives -/
def Srch.all (S : Srch) : Option (List Int) := S.rest S.L ⟨0, 0, 0, 0, 0, 0⟩
def HomeRes (base : Nat) (r : Option (List Int)) (e : Ending) (w' : World) : Prop :=
  match r with
  | some l => ∃ v, e = .returned (.tuple #[v, .bool true]) ∧ OwnI w' base v l
  | none => e = .returned (.tuple #[.slice none 0 0, .bool false])

set_option maxRecDepth 100000 in
set_option maxHeartbeats 2000000 in
theorem home_any (S : Srch) (xs : Array Value) (fl : Nat) (fi ca : Array Value) (w : World) (C : Ctx S w xs (.func (.func fl) fi ca)) :
    Calls Try.prog 88 #[.agg xs, .int .u64 S.left, .func (.func fl) fi ca] w fun e w' => HomeRes w.heap.size S.all e w' ∧ Below w.heap.size w w' := by
  obtain ⟨t, A, nA, cA, Am, cm, Ai, ni, ci, mv, rfl, hmv, hmis, hrow⟩ := C.x
  have hmm := @run_makeMap Try.prog
  have hL6 := C.L
  have hb := C.hb
  have HC := Lib.hid (And.intro C hb)
  clear C hmv hmis hrow hb
  have hmf : ∀ (fn : Fn) (first cap : Array Value) (w : World), (Instr.makeFunc fn first cap).run Try.prog w = .ok (.func fn first cap) w := fun _ _ _ _ => rfl
  obtain ⟨i, z, hi, hz, hsize, hbytes, hzs⟩ := okInt.info
  obtain ⟨M, hM⟩ : ∃ M : Array Value, M = madeCells z.cells S.L := ⟨_, rfl⟩
  have hmk : ∀ W : World, (Instr.makeSlice 29 (.int .i64 0) (.int .i64 S.L)).run Try.prog W = .ok (.slice (some ⟨W.heap.size, 0, none⟩) 0 S.L) (W.alloc (.cells M 3)) := fun W => by
    have h := run_make (P := Try.prog) W 29 3 i z Try.underlying29 hi hz .i64 .i64 0 S.L (by omega) (by omega) (by rw [hbytes]; omega) (by omega)
    rw [hM]
    simpa [hsize] using h
  have HM := Lib.hid (show M.size = S.L by rw [hM, size_madeCells])
  clear hM hi hz hsize hbytes hzs
  go_enter Try.func88, Try.ntmps88
  go_upto_region 6 with (fail)
  obtain ⟨W0, hW⟩ : ∃ W0, W0 = ((((((((((w.alloc (Obj.cells #[Value.int IntKind.i64 t, Value.slice A nA cA, Value.slice Am S.L cm, Value.slice Ai ni ci] 116)).alloc (Obj.cells #[Value.int IntKind.u64 ↑S.left] 86)).alloc (Obj.cells #[Value.func (Fn.func fl) fi ca] 85)).alloc (Obj.cells #[Value.int IntKind.i64 0, Value.int IntKind.i64 0, Value.int IntKind.i64 0, Value.int IntKind.i64 0, Value.int IntKind.i64 0, Value.int IntKind.i64 0] 132)).alloc (Obj.map #[] 0)).alloc (Obj.cells #[Value.map (some (w.heap.size + 1 + 1 + 1 + 1))] 133)).alloc (Obj.cells M 3)).alloc (Obj.cells #[Value.slice (some { block := w.heap.size + 1 + 1 + 1 + 1 + 1 + 1, off := 0 }) 0 S.L] 29)).alloc (Obj.cells #[Value.nilFunc] 30)).alloc (Obj.cells #[Value.func (Fn.func 98) #[] #[Value.pointer (some { block := w.heap.size + 1 + 1 + 1, off := 0 }), Value.pointer (some { block := w.heap.size + 1 + 1 + 1 + 1 + 1 + 1 + 1, off := 0 }), Value.pointer (some { block := w.heap.size + 1 + 1 + 1 + 1 + 1 + 1 + 1 + 1, off := 0 })]] 85)) := ⟨_, rfl⟩
  rw [← hW]
  obtain ⟨C, hb⟩ := HC.out
  have hB : Below w.heap.size w W0 := by
    rw [hW]
    exact bal (bal (bal (bal (bal (bal (bal (bal (bal (bal0 w _) (Nat.le_refl _) _) (Nat.le_refl _) _) (Nat.le_refl _) _) (Nat.le_refl _) _) (Nat.le_refl _) _) (Nat.le_refl _) _) (Nat.le_refl _) _) (Nat.le_refl _) _) (Nat.le_refl _) _
  have hs0 : W0.heap.size = S.b + 10 := by rw [hW, ← hb]; simp
  have e0 : W0.heap[S.b]? = some (Obj.cells #[Value.int IntKind.i64 t, Value.slice A nA cA, Value.slice Am S.L cm, Value.slice Ai ni ci] 116 (0, 0)) := by rw [hW, ← hb]; exact hblk_alloc (hblk_alloc (hblk_alloc (hblk_alloc (hblk_alloc (hblk_alloc (hblk_alloc (hblk_alloc (hblk_alloc (alloc_at (by simp)) _) _) _) _) _) _) _) _) _
  have e1 : W0.heap[S.b + 1]? = some (Obj.cells #[Value.int IntKind.u64 ↑S.left] 86 (0, 0)) := by rw [hW, ← hb]; exact hblk_alloc (hblk_alloc (hblk_alloc (hblk_alloc (hblk_alloc (hblk_alloc (hblk_alloc (hblk_alloc (alloc_at (by simp)) _) _) _) _) _) _) _) _
  have e2 : W0.heap[S.b + 2]? = some (Obj.cells #[Value.func (Fn.func fl) fi ca] 85 (0, 0)) := by rw [hW, ← hb]; exact hblk_alloc (hblk_alloc (hblk_alloc (hblk_alloc (hblk_alloc (hblk_alloc (hblk_alloc (alloc_at (by simp)) _) _) _) _) _) _) _
  have e3 : W0.heap[S.b + 3]? = some (Obj.cells #[Value.int IntKind.i64 0, Value.int IntKind.i64 0, Value.int IntKind.i64 0, Value.int IntKind.i64 0, Value.int IntKind.i64 0, Value.int IntKind.i64 0] 132 (0, 0)) := by rw [hW, ← hb]; exact hblk_alloc (hblk_alloc (hblk_alloc (hblk_alloc (hblk_alloc (hblk_alloc (alloc_at (by simp)) _) _) _) _) _) _
  have e4 : W0.heap[S.b + 4]? = some (Obj.map #[] 0) := by rw [hW, ← hb]; exact hblk_alloc (hblk_alloc (hblk_alloc (hblk_alloc (hblk_alloc (alloc_at (by simp)) _) _) _) _) _
  have e5 : W0.heap[S.b + 5]? = some (Obj.cells #[Value.map (some (S.b + 4))] 133 (0, 0)) := by rw [hW, ← hb]; exact hblk_alloc (hblk_alloc (hblk_alloc (hblk_alloc (alloc_at (by simp)) _) _) _) _
  have e6 : W0.heap[S.b + 6]? = some (Obj.cells M 3 (0, 0)) := by rw [hW, ← hb]; exact hblk_alloc (hblk_alloc (hblk_alloc (alloc_at (by simp)) _) _) _
  have e7 : W0.heap[S.b + 7]? = some (Obj.cells #[Value.slice (some { block := S.b + 6, off := 0 }) 0 S.L] 29 (0, 0)) := by rw [hW, ← hb]; exact hblk_alloc (hblk_alloc (alloc_at (by simp)) _) _
  have e8 : W0.heap[S.b + 8]? = some (Obj.cells #[Value.nilFunc] 30 (0, 0)) := by rw [hW, ← hb]; exact hblk_alloc (alloc_at (by simp)) _
  have e9 : W0.heap[S.b + 9]? = some (Obj.cells #[Value.func (Fn.func 98) #[] #[Value.pointer (some { block := S.b + 3, off := 0 }), Value.pointer (some { block := S.b + 7, off := 0 }), Value.pointer (some { block := S.b + 8, off := 0 })]] 85 (0, 0)) := by rw [hW, ← hb]; exact alloc_at (by simp)
  clear hW
  simp only [hb, Nat.add_assoc, Nat.reduceAdd]
  have f8 : W0.frozen? ⟨S.b + 8, 0, none⟩ = false := free_of_one e8
  have c8 := blk1 e8
  go_upto_region 7 with (fail)
  obtain ⟨W1, hW⟩ : ∃ W1, W1 = W0.setCell ⟨S.b + 8, 0, none⟩ (.func (.func 100) #[] S.growCaps) := ⟨_, rfl⟩
  have hW' := hW
  unfold Srch.growCaps at hW'
  rw [← hW']
  clear hW'
  have k1 : ∀ j, j ≠ S.b + 8 → W1.heap[j]? = W0.heap[j]? := fun j hj => by rw [hW]; exact Below.heap_setCell _ _ _ _ hj
  have e8' : W1.heap[S.b + 8]? = some (Obj.cells #[.func (.func 100) #[] S.growCaps] 30 (0, 0)) := by rw [hW]; exact one_setCell e8
  have hB1 : Below w.heap.size w W1 := by rw [hW]; exact hB.setCell (by dsimp; omega) _
  have hs1 : W1.heap.size = S.b + 10 := by rw [hW]; simpa using hs0
  clear hW
  have env : Env S #[Value.int IntKind.i64 t, Value.slice A nA cA, Value.slice Am S.L cm, Value.slice Ai ni ci] (.func (.func fl) fi ca) W1 :=
    ⟨(k1 _ (by omega)).trans e0, (k1 _ (by omega)).trans e1, (k1 _ (by omega)).trans e2, (k1 _ (by omega)).trans e5, e8', (k1 _ (by omega)).trans e9⟩
  have st : St S W1 ⟨0, 0, 0, 0, 0, 0⟩ [] [] := by
    refine ⟨(k1 _ (by omega)).trans e3, (k1 _ (by omega)).trans e7, ?_, met_empty ((k1 _ (by omega)).trans e4), rfl, fun i hi => ?_⟩
    · refine ⟨rfl, .inr ⟨S.b + 6, S.L, M, rfl, by omega, (k1 _ (by omega)).trans e6, Nat.zero_le _, by (unfold maxLen; omega), by rw [HM.out]; omega, by simp⟩⟩
    · obtain rfl | rfl | rfl | rfl | rfl : i = 0 ∨ i = 1 ∨ i = 2 ∨ i = 3 ∨ i = 4 := by omega
      all_goals exact ⟨Int.le_refl _, Int.le_refl _⟩
  have c8 := blk1 e8'
  have hG := grows_all S _ _ w C S.L W1 ⟨0, 0, 0, 0, 0, 0⟩ [] [] (hb ▸ hB1) env st (fun k hk => by cases hk) (Nat.le_refl _) (by simp)
  have HG := Lib.hid hG
  clear hG
  unfold Srch.growCaps at c8
  go_wp2_with fail
  have hG := HG.out
  unfold Srch.growCaps at hG
  refine hG.mono ?_
  rintro e w5 ⟨rfl, hF, c', o', K', st5, hs5, hsome, hnone⟩
  have hB5 : Below w.heap.size w w5 := hB1.trans (hb ▸ hF.below)
  have HB := Lib.hid (And.intro hB5 (And.intro hsome hnone))
  clear hsome hnone
  have HS := Lib.hid st5.buf
  have c7 := blk1 st5.out
  cases hr : S.rest S.L ⟨0, 0, 0, 0, 0, 0⟩ with
  | some r =>
    have HR := Lib.hid (And.intro hr (HB.out.2.1 r hr))
    simp only [hr, Option.isSome_some]
    clear hr
    go_wp2
    go_ret2
    refine ⟨?_, HB.out.1⟩
    unfold HomeRes Srch.all
    rw [HR.out.1]
    refine ⟨_, rfl, ?_⟩
    have := HR.out.2
    simp only [List.nil_append] at this
    rw [← this, hb]
    exact HS.out
  | none =>
    have HR := Lib.hid hr
    simp only [hr, Option.isSome_none]
    clear hr
    go_wp2
    go_ret2
    refine ⟨?_, HB.out.1⟩
    unfold HomeRes Srch.all
    rw [HR.out]
    exact rfl
end Go.Proofs.Ytahlicinchehhaa
