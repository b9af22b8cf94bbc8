/- mestakit.Worn: what a sheep with a mark shows after wear. -/
import Derived.Test.YtoidaigiejilcaaShow
import Derived.Test.YtoidaigiejilcaaBase
namespace Go.Proofs.Ytoidaigiejilcaa
open Go.RowKit
set_option linter.unusedVariables false
set_option linter.unusedSimpArgs false

theorem onI_of (n : Int) (l r : Bool) (h0 : 0 ≤ n) (h1 : n ≤ 255) : onI n l r = (if l then (if r then bits .andNot .i64 (bits .andNot .i64 n 15) 240 else bits .andNot .i64 n 15) else (if r then bits .andNot .i64 n 240 else n)) := by
  have e1 := bits_andNot n 15 h0 h1 (by omega) (by omega)
  have e2 := bits_andNot n 240 h0 h1 (by omega) (by omega)
  have e3 := bits_andNot (butI n 15) 240 (butI_lo _ _) (butI_hi _ _) (by omega) (by omega)
  cases l <;> cases r
  · simpa using onI_ff n h0 h1
  · simpa [e2] using onI_ft n h0 h1
  · simpa [e1] using onI_tf n h0 h1
  · simpa [e1, e3] using onI_tt n h0 h1

set_option maxRecDepth 100000 in
set_option maxHeartbeats 2000000 in
theorem wornK_any (m : Mk) (s : Sg) (w : World) (hm : 0 ≤ m.n) (hm' : m.n ≤ 255) (hs : 0 ≤ s.n) (hs' : s.n ≤ 255) :
    Calls Try.prog 31 #[vMk m, vSg s] w fun e w' => e = .returned (vSg (wornS m s)) ∧ Below w.heap.size w w' := by
  obtain ⟨mn, mb, mp⟩ := m
  obtain ⟨sn, sl, sr, sb, sp⟩ := s
  dsimp only at hm hm' hs hs'
  have ho := bits_or mn sn hm hm' hs hs'
  have HW := Lib.hid (onI_of (orI mn sn) sl sr (orI_lo _ _) (orI_hi hm' hs'))
  have HO := Lib.hid ho
  clear ho
  have hv : ∀ x : Sg, Ending.returned (vSg x) = Ending.returned (vSg x) := fun _ => rfl
  clear hv
  obtain ⟨R, hR⟩ : ∃ R, R = wornS ⟨mn, mb, mp⟩ ⟨sn, sl, sr, sb, sp⟩ := ⟨_, rfl⟩
  rw [← hR]
  have HR := Lib.hid hR
  clear hR
  unfold vMk vSg
  dsimp only
  cases e3 : (sb != -1) <;> cases e4 : (sp != -1) <;> cases sl <;> cases sr
  all_goals
    have HE := Lib.hid (And.intro e3 e4)
    go_enter Try.func31, Try.ntmps31
    go_wp2
    refine bodyPost_ret (v := .agg #[.int .i64 _, .bool _, .bool _, .int .i64 _, .int .i64 _]) (by simp [results, Try.f31, go_sem]; exact ⟨rfl, rfl, rfl, rfl, rfl⟩) rfl ⟨?_, ?_⟩
    · have h := HW.out
      have h3 := HE.out.1
      have h4 := HE.out.2
      simp only [bne_iff_ne, ne_eq, bne_eq_false_iff_eq] at h3 h4
      rw [HR.out]
      unfold wornS
      simp [h, h3, h4, HO.out]
    · have hb : Below w.heap.size w (((w.alloc (Obj.cells #[Value.int .i64 mn, .int .i64 mb, .int .i64 mp] 46)).alloc (Obj.cells #[Value.int .i64 sn, .bool false, .bool false, .int .i64 sb, .int .i64 sp] 44))) := bal (bal0 w _) (Nat.le_refl _) _
      repeat' (first | exact Below.refl _ _ | refine Below.setCell ?_ (by dsimp; omega) _ | refine bal ?_ (Nat.le_refl _) _)
end Go.Proofs.Ytoidaigiejilcaa
