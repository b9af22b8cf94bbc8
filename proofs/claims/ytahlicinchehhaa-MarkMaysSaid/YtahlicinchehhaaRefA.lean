/- mestaref03: within, has, torn, CheckMark, Check, CheckSight, isOwner: the reference's small functions compute what the program's do. -/
import Derived.Test.YtahlicinchehhaaCheck
import Derived.Test.YtahlicinchehhaaMore
namespace Go.Proofs.Ytahlicinchehhaa
open Go.RowKit
set_option linter.unusedVariables false
set_option linter.unusedSimpArgs false

theorem rWithin (n lo hi : Int) (w : World) :
    Calls Try.prog 73 #[.int .i64 n, .int .i64 lo, .int .i64 hi] w fun e w' => e = .returned (.bool (btw n lo hi)) ∧ w = w' := by
  by_cases h1 : lo ≤ n <;> by_cases h2 : n ≤ hi
  all_goals
    go_enter Try.func73, Try.ntmps73
    go_wp2
    go_ret
    exact ⟨by simp [btw, h1, h2], rfl⟩

theorem rHas (n : Int) (b : Nat) (w : World) (hn : 0 ≤ n) (hn' : n ≤ 255) (hb : b ≤ 8) :
    Calls Try.prog 70 #[.int .i64 n, .int .i64 b] w fun e w' => e = .returned (.bool (bit n b)) ∧ w = w' := by
  obtain ⟨l, rfl⟩ := Int.eq_ofNat_of_zero_le hn
  have hl : l ≤ 255 := by omega
  go_enter Try.func70, Try.ntmps70
  go_wp2_with fail
  go_loopg [0, 5] b (fun g x i wr => ∃ k : Nat, k + g = b ∧ i = .int .i64 k ∧ ∃ q : Nat, x = .int .i64 q ∧ q = l / 2 ^ k ∧ w = wr)
  case atStart => exact ⟨0, by omega, rfl, l, rfl, by simp, rfl⟩
  case round =>
    obtain ⟨k, hk, rfl, q, rfl, hq, rfl⟩ := hrel
    have HK := Lib.hid (And.intro hk hq)
    have hkb : k ≤ b := by omega
    have hql : q ≤ 255 := by have := Nat.div_le_self l (2 ^ k); omega
    clear hk hq
    by_cases hlt : k < b
    · go_wp2
      go_roundg (gk - 1)
      case measure => have := HK.out.1; omega
      case rel =>
        refine ⟨k + 1, by have := HK.out.1; omega, by go_num, q / 2, ?_, by rw [HK.out.2, Nat.pow_succ, Nat.div_div_eq_div_mul], rfl⟩
        congr 1
    · obtain rfl : k = b := by omega
      go_wp2
      go_ret
      refine ⟨ret_bool ?_, rfl⟩
      unfold bit
      rw [Int.toNat_natCast, Nat.testBit_eq_decide_div_mod_eq, ← HK.out.2, Bool.eq_iff_iff]
      simp only [beq_iff_eq, decide_eq_true_eq]
      omega
theorem rTorn (s : Sg) (b : Nat) (w : World) (hb : b ≤ 8) :
    Calls Try.prog 71 #[vSg s, .int .i64 b] w fun e w' => e = .returned (.bool (tornB s.l s.r b)) ∧ Below w.heap.size w w' := by
  obtain ⟨sn, l, r, sb, sp⟩ := s
  unfold vSg
  by_cases h4 : b < 4
  · have h4' : (b : Int) < 4 := by omega
    have h4c : ¬ (4 : Int) ≤ (b : Int) := by omega
    have h4n : ¬ 4 ≤ b := by omega
    cases l
    all_goals
      go_enter Try.func71, Try.ntmps71
      go_wp2
      go_ret
      exact ⟨ret_bool (by simp [tornB, h4, h4n]), bal0 _ _⟩
  · have h4' : ¬ (b : Int) < 4 := by omega
    have h4c : (4 : Int) ≤ (b : Int) := by omega
    have h4n : 4 ≤ b := by omega
    cases r
    all_goals
      go_enter Try.func71, Try.ntmps71
      go_wp2
      go_ret
      exact ⟨ret_bool (by simp [tornB, h4, h4n]), bal0 _ _⟩
theorem rCheckMark (m : Mk) (w : World) :
    Calls Try.prog 74 #[vMk m] w fun e w' => e = .returned (.int .i64 (if mkOk m then 0 else 1)) ∧ Below w.heap.size w w' := by
  obtain ⟨n, b, p⟩ := m
  obtain ⟨R, hR⟩ : ∃ R : Int, R = if mkOk ⟨n, b, p⟩ then 0 else 1 := ⟨_, rfl⟩
  rw [← hR]
  have HR := Lib.hid hR
  clear hR
  unfold vMk
  cases h1 : btw n 0 255 <;> cases h2 : btw b 0 9 <;> cases h3 : btw p 0 6
  all_goals
    have HE := Lib.hid (And.intro h1 (And.intro h2 h3))
    go_enter Try.func74, Try.ntmps74
    go_wp2_with (go_at_call 73; refine (rWithin _ _ _ _).mono ?_; rintro e w' ⟨rfl, rfl⟩)
    go_ret
    refine ⟨ret_int ?_, bal0 _ _⟩
    rw [HR.out]
    simp [mkOk, HE.out.1, HE.out.2.1, HE.out.2.2]
theorem rIsOwner (t : Int) (A : Option Addr) (n c : Nat) (o : Int) (w : World) (hn : n ≤ maxLen) :
    Calls Try.prog 68 #[.agg #[.int .i64 t, .slice A n c], .int .i64 o] w fun e w' => e = .returned (.bool (btw o 0 ((n : Int) - 1))) ∧ Below w.heap.size w w' := by
  unfold maxLen at hn
  go_enter Try.func68, Try.ntmps68
  go_wp2_with (go_at_call 73; refine (rWithin _ _ _ _).mono ?_; rintro e w' ⟨rfl, rfl⟩)
  go_ret
  exact ⟨rfl, bal0 _ _⟩
end Go.Proofs.Ytahlicinchehhaa
