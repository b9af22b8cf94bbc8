/- mestakit.CopyInts and mestakit.Ahead. -/
import Derived.Test.YtoidaigiejilcaaKit
import Derived.Test.YtoidaigiejilcaaLawL
namespace Go.Proofs.Ytoidaigiejilcaa
open Go.RowKit
set_option linter.unusedVariables false
set_option linter.unusedSimpArgs false

theorem ahead_at : ∀ {x y : List Int} {k : Nat} {u v : Int}, x.take k = y.take k → x[k]? = some u → y[k]? = some v → u ≠ v → aheadB x y = decide (u < v)
  | [], _, _, _, _, _, h, _, _ => by simp at h
  | _ :: _, [], _, _, _, _, _, h, _ => by simp at h
  | a :: x, b :: y, 0, u, v, _, h1, h2, h => by
    simp at h1 h2
    subst h1 h2
    unfold aheadB
    rw [if_neg h]
  | a :: x, b :: y, k + 1, u, v, ht, h1, h2, h => by
    simp only [List.take_succ_cons, List.cons.injEq] at ht
    unfold aheadB
    rw [if_pos ht.1]
    exact ahead_at ht.2 (by simpa using h1) (by simpa using h2) h
theorem ahead_end : ∀ {x y : List Int} {k : Nat}, x.take k = y.take k → (x.length = k ∨ y.length = k) → k ≤ x.length → k ≤ y.length → aheadB x y = decide (x.length < y.length)
  | [], y, k, _, _, _, _ => by cases y <;> simp [aheadB]
  | _ :: _, [], _, _, _, _, _ => by simp [aheadB]
  | a :: x, b :: y, 0, _, h, _, _ => by simp at h
  | a :: x, b :: y, k + 1, ht, h, h1, h2 => by
    simp only [List.take_succ_cons, List.cons.injEq] at ht
    unfold aheadB
    rw [if_pos ht.1, ahead_end ht.2 (by simpa using h) (by simpa using h1) (by simpa using h2)]
    simp

set_option maxHeartbeats 1000000 in
theorem copyInts_any (A : Option Addr) (n c : Nat) (l : List Int) (w : World) (hl : Ints w A n l) (hz : A = none → c = 0) (hn : n ≤ 4294967295) :
    Calls Try.prog 13 #[.slice A n c] w fun e w' => ∃ v, e = .returned v ∧ Own eInt 3 1 w' w.heap.size v l ∧ Below w.heap.size w w' := by
  have HL := Lib.hid (And.intro hl hz)
  have HB := Lib.hid (bal0 w (Obj.cells #[] 3))
  have HLW := Lib.hid (HL.out.1.below HB.out (Nat.le_refl _))
  have HOWN := Lib.hid (show Own eInt 3 1 (w.alloc (Obj.cells #[] 3)) w.heap.size (.slice (some ⟨w.heap.size, 0, none⟩) 0 0) [] from Own.lit (enc := eInt) w w.heap.size #[] [] rfl lenInt (by omega) (by simp [maxLen]))
  clear hl hz
  go_enter Try.func13, Try.ntmps13
  go_wp2_with (at_builtin; refine wp_apps okInt rfl (.tmp 3) (.tmp 4) rfl w.heap.size (.slice (some ⟨w.heap.size, 0, none⟩) 0 0) [] A n c l rfl rfl HLW.out HL.out.2 lenInt one_eInt HOWN.out ?_ ?_ ?_ ?_; (simp; omega); (omega); (simp); intro v' w5 hown5 hgr5 hb5; have HH := Lib.hid (And.intro hown5 hb5); clear hown5 hgr5 hb5)
  go_ret
  have h := HH.out.1
  rw [List.nil_append] at h
  exact ⟨_, rfl, h, HB.out.trans HH.out.2⟩

set_option maxHeartbeats 1000000 in
theorem ahead_any (A : Option Addr) (n c : Nat) (x : List Int) (B : Option Addr) (m d : Nat) (y : List Int) (w : World) (hx : Ints w A n x) (hy : Ints w B m y) (hn : n ≤ maxLen) (hm : m ≤ maxLen) :
    Calls Try.prog 15 #[.slice A n c, .slice B m d] w fun e w' => e = .returned (.bool (aheadB x y)) ∧ Below w.heap.size w w' := by
  have hxl := hx.len
  have hyl := hy.len
  have HL := Lib.hid (And.intro hxl hyl)
  have HXY := Lib.hid (And.intro hx hy)
  unfold maxLen at hn hm
  clear hxl hyl hx hy
  go_enter Try.func15, Try.ntmps15
  go_wp2_with fail
  go_loopg [5] n (fun g i wr => ∃ k : Nat, k + g = n ∧ k ≤ m ∧ i = .int .i64 k ∧ x.take k = y.take k ∧ ∃ q, wr = w.drewN q)
  case atStart => exact ⟨0, by omega, by omega, rfl, by simp, 0, rfl⟩
  case round =>
    obtain ⟨k, hk, hkm, rfl, htk, q, rfl⟩ := hrel
    have HK := Lib.hid (And.intro hk htk)
    have hkn : k ≤ n := by omega
    clear hk htk
    by_cases hlt : k < n
    · have d0 : (decide ((k : Int) < (n : Int))) = true := decide_eq_true (by omega)
      by_cases hlm : k < m
      · obtain ⟨b0, o0, u, rfl, hb0, hu, p0⟩ := Ints.get HXY.out.1 hlt
        obtain ⟨b1, o1, v, rfl, hb1, hv, q0⟩ := Ints.get HXY.out.2 hlm
        have i0 : (0 : Int) ≤ (k : Int) := by omega
        have i1 : (k : Int) < (n : Int) := by omega
        have i2 : (k : Int) < (m : Int) := by omega
        have HUV := Lib.hid (And.intro hu hv)
        clear hu hv
        by_cases huv : u = v
        · have h1 : (u != v) = false := by simp [huv]
          have HE := Lib.hid huv
          clear huv
          go_upto_region 4 with (fail)
          go_quiet (fail)
          go_wp2
          go_roundg (gk - 1)
          case measure => have := HK.out.1; omega
          case rel => exact ⟨k + 1, by have := HK.out.1; omega, by omega, by go_num, take_eq_snoc HK.out.2 HUV.out.1 HUV.out.2 HE.out, _, rfl⟩
        · have h1 : (u != v) = true := by simp [huv]
          have HE := Lib.hid huv
          clear huv
          go_upto_region 4 with (fail)
          go_quiet (fail)
          go_upto_region 5 with (fail)
          go_quiet (fail)
          go_wp2
          go_ret
          exact ⟨ret_bool (by rw [ahead_at HK.out.2 HUV.out.1 HUV.out.2 HE.out]), below_drewN (below_drewN (below_drewN (Below.refl _ _) _) _) _⟩
      · obtain rfl : k = m := by omega
        go_wp2
        go_ret
        refine ⟨ret_bool ?_, below_drewN (Below.refl _ _) _⟩
        rw [ahead_end HK.out.2 (.inr HL.out.2) (by rw [HL.out.1]; omega) (by rw [HL.out.2]; omega), HL.out.1, HL.out.2]
        try simp
    · obtain rfl : k = n := by omega
      go_wp2
      go_ret
      refine ⟨ret_bool ?_, below_drewN (Below.refl _ _) _⟩
      rw [ahead_end HK.out.2 (.inl HL.out.1) (by rw [HL.out.1]; omega) (by rw [HL.out.2]; omega), HL.out.1, HL.out.2]
      try simp
end Go.Proofs.Ytoidaigiejilcaa
