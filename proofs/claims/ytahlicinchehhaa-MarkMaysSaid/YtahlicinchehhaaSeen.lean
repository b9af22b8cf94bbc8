/- mark.seen and mark.sight return the error of a sight; book.owner that of the numbers of owners; fits, may. -/
import Derived.Test.YtahlicinchehhaaMark1
namespace Go.Proofs.Ytahlicinchehhaa
open Go.RowKit
set_option linter.unusedVariables false
set_option linter.unusedSimpArgs false

theorem seen_any (s : Sg) (b p : Int) (w : World) :
    Calls Try.prog 64 #[vSg s, .int .i64 b, .int .i64 p] w fun e w' => e = .returned (.int .i64 (seen s b p)) ∧ Below w.heap.size w w' := by
  by_cases h1 : btw s.n 0 255 = true
  · have h1' := btw_iff.1 h1
    go_enter Try.func64, Try.ntmps64
    unfold vSg
    go_wp2_with (first
      | (go_at_call 72; refine (between_any _ _ _ _).mono ?_; rintro e w' ⟨rfl, rfl⟩)
      | (go_at_call 67; refine (on_any s.n s _ h1'.1 h1'.2).mono ?_; rintro e w1 ⟨rfl, hb1⟩; obtain ⟨hc1, hf1⟩ := bc hb1; have hz1 := hb1.size))
    all_goals
      go_ret
      refine ⟨ret_int ?_, ?_⟩
      · simp_all [seen]
      · exact ((Below.refl _ _).alloc (Nat.le_refl _) _).trans (hb1.mono (by simp))
  · have h1' : btw s.n 0 255 = false := by simpa using h1
    go_enter Try.func64, Try.ntmps64
    unfold vSg
    go_wp2_with (go_at_call 72; refine (between_any _ _ _ _).mono ?_; rintro e w' ⟨rfl, rfl⟩)
    go_ret
    exact ⟨ret_int (by simp [seen, h1']), (Below.refl _ _).alloc (Nat.le_refl _) _⟩
theorem sight_any (s : Sg) (w : World) :
    Calls Try.prog 79 #[vSg s] w fun e w' => e = .returned (.int .i64 (seen s 9 6)) ∧ Below w.heap.size w w' := by
  go_enter Try.func79, Try.ntmps79
  unfold vSg
  go_wp2_with (go_at_call 64; refine (seen_any s 9 6 _).mono ?_; rintro e w1 ⟨rfl, hb1⟩)
  go_ret
  exact ⟨rfl, ((Below.refl _ _).alloc (Nat.le_refl _) _).trans (hb1.mono (by simp))⟩

/-- owner: all numbers are those of owners -/
theorem all_step {L : List Int} {q : Nat} {x : Int} {f : Int → Bool} (h : (L.take q).all f = true) (hx : L[q]? = some x) (hf : f x = true) : (L.take (q + 1)).all f = true := by
  rw [List.take_add_one, hx, List.all_append, h]; simp [hf]
theorem all_not {L : List Int} {q : Nat} {x : Int} {f : Int → Bool} (hx : L[q]? = some x) (hf : f x = false) : L.all f = false := by
  rw [List.all_eq_false]; exact ⟨x, List.mem_of_getElem? hx, by simp [hf]⟩
set_option maxHeartbeats 1000000 in
theorem owner_any (t : Int) (A : Option Addr) (n c : Nat) (L : List Int) (B : Option Addr) (m d : Nat) (w : World) (hL : Ints w B m L) (hn : n ≤ maxLen) (hm : m ≤ maxLen) :
    Calls Try.prog 63 #[.agg #[.int .i64 t, .slice A n c], .slice B m d] w fun e w' =>
      e = .returned (.int .i64 (ownerE L n)) ∧ Below w.heap.size w w' := by
  unfold maxLen at hn hm
  have HL := Lib.hid hL
  have hb0 : Below w.heap.size w (w.alloc (Obj.cells #[Value.int IntKind.i64 t, Value.slice A n c] 88)) := (Below.refl _ _).alloc (Nat.le_refl _) _
  have hz0 : (w.alloc (Obj.cells #[Value.int IntKind.i64 t, Value.slice A n c] 88)).heap.size = w.heap.size + 1 := by simp
  have hL0 := hL.alloc (Obj.cells #[Value.int IntKind.i64 t, Value.slice A n c] 88)
  have hblk : (w.alloc (Obj.cells #[Value.int IntKind.i64 t, Value.slice A n c] 88)).heap[w.heap.size]? = some (Obj.cells #[Value.int IntKind.i64 t, Value.slice A n c] 88 (0, 0)) := heap_alloc_new w _
  clear hL
  go_enter Try.func63, Try.ntmps63
  go_wp2
  generalize (w.alloc (Obj.cells #[Value.int IntKind.i64 t, Value.slice A n c] 88)) = W0 at hL0 hblk hb0 hz0 ⊢
  go_loopg [9] m (fun g i wr => ∃ q : Nat, q + g = m ∧ i = .int .i64 q ∧ (L.take q).all (fun x => btw x 0 (n - 1)) = true ∧ W0 = wr)
  case atStart => exact ⟨0, by omega, rfl, by simp, rfl⟩
  case round =>
    obtain ⟨q, hq, rfl, hall, rfl⟩ := hrel
    have HQ := Lib.hid hq
    have HA := Lib.hid hall
    have hqm : q ≤ m := by omega
    clear hq hall
    have r1 : W0.cell? ⟨w.heap.size, 1, none⟩ = some (.slice A n c) := by simp [World.cell?, hblk]
    have hwr := heap_lt hblk
    by_cases hlt : q < m
    · obtain ⟨b, off, x, rfl, hb, hx, d0⟩ := Ints.get hL0 hlt
      have HX := Lib.hid hx
      clear hx
      go_wp2_with (go_at_call 72; refine (between_any _ _ _ _).mono ?_; rintro e w' ⟨rfl, rfl⟩)
      · have hin : btw x 0 (n - 1) = false := by simpa using ‹(!btw x 0 (↑n - 1)) = true›
        go_ret
        exact ⟨ret_int (by unfold ownerE; rw [all_not HX.out hin]; rfl), hb0⟩
      · have hin : btw x 0 (n - 1) = true := by simpa using ‹(!btw x 0 (↑n - 1)) = false›
        go_roundg (gk - 1)
        case measure => have := HQ.out; omega
        case rel => exact ⟨q + 1, by have := HQ.out; omega, by go_num, all_step HA.out HX.out hin, rfl⟩
    · obtain rfl : q = m := by omega
      go_wp2
      go_ret
      refine ⟨ret_int ?_, hb0⟩
      have := HA.out
      rw [List.take_of_length_le (by have := HL.out.len; omega)] at this
      unfold ownerE; rw [this]; rfl
end Go.Proofs.Ytahlicinchehhaa
