/- mestakit.Owner: the place of a mark in a register. -/
import Derived.Test.YtoidaigiejilcaaDoorCheck
import Derived.Test.YtoidaigiejilcaaDoorBase
namespace Go.Proofs.YtoidaigiejilcaaDoor
open Go.RowKit
set_option linter.unusedVariables false
set_option linter.unusedSimpArgs false

set_option maxRecDepth 100000 in
set_option maxHeartbeats 1000000 in
theorem owner_kit (t : Int) (A : Option Addr) (n c : Nat) (l : List Mk) (m : Mk) (w : World) (hl : Marks w A n l) (hn : n ≤ maxLen) :
    Calls Tryd.prog 25 #[.agg #[.int .i64 t, .slice A n c], vMk m] w fun e w' => ∃ o : Int, e = .returned (.int .i64 o) ∧ ((o < 0) = (m ∉ l)) ∧ Below w.heap.size w w' := by
  have HL := Lib.hid hl.len
  unfold maxLen at hn
  obtain ⟨W, hW⟩ : ∃ W, W = (w.alloc (Obj.cells #[Value.int .i64 t, .slice A n c] 26)).alloc (Obj.cells #[Value.int .i64 m.n, .int .i64 m.b, .int .i64 m.p] 52) := ⟨_, rfl⟩
  have hB : Below w.heap.size w W := by rw [hW]; exact bal (bal0 w _) (Nat.le_refl _) _
  have b0 : W.heap[w.heap.size]? = some (Obj.cells #[Value.int .i64 t, .slice A n c] 26 (0, 0)) := by rw [hW]; exact hblk_alloc (alloc_at rfl) _
  have b1 : W.heap[w.heap.size + 1]? = some (Obj.cells #[Value.int .i64 m.n, .int .i64 m.b, .int .i64 m.p] 52 (0, 0)) := by rw [hW]; exact alloc_at (by simp)
  have hl1 := hl.below hB (Nat.le_refl _)
  obtain ⟨r0, r1⟩ := blk2 b0
  obtain ⟨m0, m1, m2⟩ := blk3 b1
  have z1 := heap_lt b1
  have HB := Lib.hid hB
  have HL1 := Lib.hid hl1
  clear hl hl1 hB b0 b1
  go_enter Tryd.func25, Tryd.ntmps25
  unfold vMk
  go_wp2_with fail
  rw [← hW]
  clear hW
  go_loopg [5] n (fun g i wr => ∃ k : Nat, k + g = n ∧ i = .int .i64 k ∧ (l.take k).contains m = false ∧ ∃ q, wr = W.drewN q)
  case atStart => exact ⟨0, by omega, rfl, by simp, 0, rfl⟩
  case round =>
    obtain ⟨k, hk, rfl, hno, q, rfl⟩ := hrel
    have HK := Lib.hid (And.intro hk hno)
    have hkn : k ≤ n := by omega
    clear hk hno
    by_cases hlt : k < n
    · obtain ⟨b, off, x, rfl, hb, hx, p0, p1, p2⟩ := Marks.get HL1.out hlt
      have HX := Lib.hid hx
      clear hx
      have i0 : (0 : Int) ≤ (k : Int) := by omega
      have i1 : (k : Int) < (n : Int) := by omega
      by_cases hxm : x = m
      · subst hxm
        go_upto_region 4 with (fail)
        go_quiet (fail)
        go_wp2
        go_ret
        refine ⟨k, rfl, ?_, below_drewN (below_drewN HB.out _) _⟩
        have := List.mem_of_getElem? HX.out
        simp only [eq_iff_iff]
        exact ⟨fun h => by omega, fun h => absurd this h⟩
      · have HNE := Lib.hid hxm
        cases e1 : (x.n == m.n) <;> cases e2 : (x.b == m.b) <;> cases e3 : (x.p == m.p)
        case true.true.true =>
          exfalso
          exact hxm (by cases x; cases m; simp at e1 e2 e3; simp [e1, e2, e3])
        all_goals
          clear hxm
          go_upto_region 4 with (fail)
          go_quiet (fail)
          go_wp2
          go_roundg (gk - 1)
          case measure => have := HK.out.1; omega
          case rel => exact ⟨k + 1, by have := HK.out.1; omega, by go_num, take_no HK.out.2 HX.out HNE.out, _, rfl⟩
    · obtain rfl : k = n := by omega
      go_wp2
      go_ret
      refine ⟨-1, rfl, ?_, below_drewN HB.out _⟩
      have h := HK.out.2
      rw [List.take_of_length_le (by rw [HL.out]; omega), List.contains_eq_mem, decide_eq_false_iff_not] at h
      simp [h]
end Go.Proofs.YtoidaigiejilcaaDoor
