/- The inner functions of package mark that look at one register, one mark, one sight: between, but, count, on, Check, seen, sight. -/
import Derived.Test.YtahlicinchehhaaBase
namespace Go.Proofs.Ytahlicinchehhaa
open Go.RowKit
set_option linter.unusedVariables false
set_option linter.unusedSimpArgs false

theorem between_any (n lo hi : Int) (w : World) :
    Calls Try.prog 72 #[.int .i64 n, .int .i64 lo, .int .i64 hi] w fun e w' => e = .returned (.bool (btw n lo hi)) ∧ w = w' := by
  by_cases h1 : lo ≤ n <;> by_cases h2 : n ≤ hi
  all_goals
    go_enter Try.func72, Try.ntmps72
    go_wp2
    go_ret
    exact ⟨by simp [btw, h1, h2], rfl⟩

theorem but_any (n m : Int) (w : World) (hn : 0 ≤ n) (hn' : n ≤ 255) (hm : 0 ≤ m) (hm' : m ≤ 255) :
    Calls Try.prog 65 #[.int .i64 n, .int .i64 m] w fun e w' => e = .returned (.int .i64 (butI n m)) ∧ w = w' := by
  go_enter Try.func65, Try.ntmps65
  go_wp2
  go_ret
  exact ⟨ret_int (bits_andNot n m hn hn' hm hm'), rfl⟩

theorem ones64 (x : Int) (w : World) (h0 : 0 ≤ x) (h1 : x ≤ 255) :
    Calls Try.prog 103 #[.int .u64 x] w fun e w' => e = .returned (.int .i64 (popI x)) ∧ w = w' := by
  go_enter Try.func103, Try.ntmps103
  go_wp2
  go_ret
  refine ⟨ret_int ?_, rfl⟩
  obtain ⟨y, rfl⟩ := Int.eq_ofNat_of_zero_le h0
  have h : y < 256 := by omega
  clear h0 h1
  revert y
  decide +kernel
theorem count_any (n : Int) (w : World) (hn : 0 ≤ n) (hn' : n ≤ 255) :
    Calls Try.prog 66 #[.int .i64 n] w fun e w' => e = .returned (.int .i64 (popI n)) ∧ w = w' := by
  have hw : IntKind.u64.wrap n = n := IntWalk.u64_in _ (by omega)
  go_enter Try.func66, Try.ntmps66
  go_wp2_with (first | (go_at_call 103; refine (ones64 n _ hn hn').mono ?_; rintro e w' ⟨rfl, rfl⟩) | go_in)
  go_ret
  exact ⟨rfl, rfl⟩
theorem on_any (n : Int) (s : Sg) (w : World) (hn : 0 ≤ n) (hn' : n ≤ 255) :
    Calls Try.prog 67 #[.int .i64 n, vSg s] w fun e w' => e = .returned (.int .i64 (onI n s.l s.r)) ∧ Below w.heap.size w w' := by
  obtain ⟨sn, l, r, sb, sp⟩ := s
  unfold vSg
  have h1 := bits_andNot n 15 hn hn' (by omega) (by omega)
  have h2 := bits_andNot n 240 hn hn' (by omega) (by omega)
  have h3 := bits_andNot (butI n 15) 240 (butI_lo _ _) (butI_hi _ _) (by omega) (by omega)
  have H := Lib.hid (And.intro h1 (And.intro h2 h3))
  clear h1 h2 h3
  cases l <;> cases r
  all_goals
    go_enter Try.func67, Try.ntmps67
    go_wp2
    go_ret
    refine ⟨ret_int ?_, (Below.refl _ _).alloc (Nat.le_refl _) _⟩
  · exact (onI_ff n hn hn').symm
  · exact H.out.2.1.trans (onI_ft n hn hn').symm
  · exact H.out.1.trans (onI_tf n hn hn').symm
  · refine Eq.trans ?_ (onI_tt n hn hn').symm
    show bits .andNot .i64 (bits .andNot .i64 n 15) 240 = _
    rw [H.out.1, H.out.2.2]
end Go.Proofs.Ytahlicinchehhaa
