/- mestakit: lists compared, places. -/
import Derived.Test.YtahlicinchehhaaMore
namespace Go.Proofs.Ytahlicinchehhaa
open Go.RowKit
set_option linter.unusedVariables false
set_option linter.unusedSimpArgs false

theorem take_eq_snoc {α : Type} {x y : List α} {k : Nat} {u v : α} (h : x.take k = y.take k) (hx : x[k]? = some u) (hy : y[k]? = some v) (he : u = v) : x.take (k + 1) = y.take (k + 1) := by
  rw [List.take_add_one, List.take_add_one, hx, hy, h, he]
theorem ne_of_at {α : Type} {x y : List α} {k : Nat} {u v : α} (hx : x[k]? = some u) (hy : y[k]? = some v) (he : ¬ u = v) : ¬ x = y := fun h => by
  subst h; rw [hx] at hy; cases hy; exact he rfl

def sameL {α : Type} [DecidableEq α] (x y : List α) : Bool := decide (x = y)

set_option maxHeartbeats 1000000 in
theorem sameInts_any (A : Option Addr) (n c : Nat) (x : List Int) (B : Option Addr) (m d : Nat) (y : List Int) (w : World) (hx : Ints w A n x) (hy : Ints w B m y) (hn : n ≤ maxLen) (hm : m ≤ maxLen) :
    Calls Try.prog 47 #[.slice A n c, .slice B m d] w fun e w' => e = .returned (.bool (sameL x y)) ∧ Below w.heap.size w w' := by
  have hxl := hx.len
  have hyl := hy.len
  have HL := Lib.hid (And.intro hxl hyl)
  have HXY := Lib.hid (And.intro hx hy)
  unfold maxLen at hn hm
  clear hxl hyl hx hy
  by_cases hnm : n = m
  · subst hnm
    have h0 : (n != n) = false := by simp
    have h0' : ((n : Int) != (n : Int)) = false := by simp
    go_enter Try.func47, Try.ntmps47
    go_wp2_with fail
    go_loopg [5] n (fun g i wr => ∃ k : Nat, k + g = n ∧ i = .int .i64 k ∧ x.take k = y.take k ∧ ∃ q, wr = w.drewN q)
    case atStart => exact ⟨0, by omega, rfl, by simp, 0, rfl⟩
    case round =>
      obtain ⟨k, hk, rfl, htk, q, rfl⟩ := hrel
      have HK := Lib.hid (And.intro hk htk)
      have hkn : k ≤ n := by omega
      clear hk htk
      by_cases hlt : k < n
      · obtain ⟨b0, o0, u, rfl, hb0, hu, p0⟩ := Ints.get HXY.out.1 hlt
        obtain ⟨b1, o1, v, rfl, hb1, hv, q0⟩ := Ints.get HXY.out.2 hlt
        have i0 : (0 : Int) ≤ (k : Int) := by omega
        have i1 : (k : Int) < (n : Int) := by omega
        have HUV := Lib.hid (And.intro hu hv)
        clear hu hv
        by_cases huv : u = v
        · have h1 : (u != v) = false := by simp [huv]
          have HE := Lib.hid huv
          clear huv
          go_upto_region 6 with (fail)
          go_quiet (fail)
          go_wp2
          go_roundg (gk - 1)
          case measure => have := HK.out.1; omega
          case rel => exact ⟨k + 1, by have := HK.out.1; omega, by go_num, take_eq_snoc HK.out.2 HUV.out.1 HUV.out.2 HE.out, _, rfl⟩
        · have h1 : (u != v) = true := by simp [huv]
          have HE := Lib.hid huv
          clear huv
          go_upto_region 6 with (fail)
          go_quiet (fail)
          go_wp2
          go_ret
          exact ⟨ret_bool (by unfold sameL; rw [decide_eq_false (ne_of_at HUV.out.1 HUV.out.2 HE.out)]), below_drewN (below_drewN (Below.refl _ _) _) _⟩
      · obtain rfl : k = n := by omega
        go_wp2
        go_ret
        refine ⟨ret_bool ?_, below_drewN (Below.refl _ _) _⟩
        have h := HK.out.2
        rw [List.take_of_length_le (by rw [HL.out.1]; omega), List.take_of_length_le (by rw [HL.out.2]; omega)] at h
        unfold sameL; rw [decide_eq_true h]
  · have h0 : (n != m) = true := by simpa using hnm
    have h0' : ((n : Int) != (m : Int)) = true := by simp; omega
    have HE := Lib.hid hnm
    clear hnm
    go_enter Try.func47, Try.ntmps47
    go_wp2
    go_ret
    exact ⟨ret_bool (by unfold sameL; rw [decide_eq_false (fun h => HE.out (by rw [← HL.out.1, ← HL.out.2, h]))]), Below.refl _ _⟩
end Go.Proofs.Ytahlicinchehhaa
