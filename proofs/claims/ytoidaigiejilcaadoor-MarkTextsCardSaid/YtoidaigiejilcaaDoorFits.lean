/- book.fits: does a sight fit a mark; book.may: all owners who may have a sheep. -/
import Derived.Test.YtoidaigiejilcaaDoorCheck
namespace Go.Proofs.YtoidaigiejilcaaDoor
open Go.RowKit
set_option linter.unusedVariables false
set_option linter.unusedSimpArgs false

set_option maxHeartbeats 1000000 in
theorem fits_any (t : Int) (v : Value) (s : Sg) (m : Mk) (w : World) (hs : 0 ≤ s.n) (hs' : s.n ≤ 255) (hm : 0 ≤ m.n) (hm' : m.n ≤ 255) :
    Calls Tryd.prog 64 #[.agg #[.int .i64 t, v], vSg s, vMk m] w fun e w' => e = .returned (.bool (fits s m t)) ∧ Below w.heap.size w w' := by
  have ho := onI_lo m.n s.l s.r
  have ho' := onI_hi m.n s.l s.r
  have hb := butI_lo s.n (onI m.n s.l s.r)
  have hb' := butI_hi s.n (onI m.n s.l s.r)
  go_enter Tryd.func64, Tryd.ntmps64
  unfold vSg vMk
  go_upto_region 1 with (fail)
  go_cut [30] (fun q wc => q = .bool (!alikeBP s m) ∧ (((w.alloc (Obj.cells #[Value.int .i64 t, v] 79)).alloc (Obj.cells #[Value.int .i64 s.n, .bool s.l, .bool s.r, .int .i64 s.b, .int .i64 s.p] 42)).alloc (Obj.cells #[Value.int .i64 m.n, .int .i64 m.b, .int .i64 m.p] 52)) = wc)
  case first =>
    cases e1 : (s.b != -1) <;> cases e2 : (s.b != m.b) <;> cases e3 : (s.p != -1) <;> cases e4 : (s.p != m.p)
    all_goals
      go_wp2
      go_meet
      exact ⟨by simp_all [alikeBP], rfl⟩
  case rest =>
    obtain ⟨rfl, rfl⟩ := hcut
    cases hal : alikeBP s m
    · have HF := Lib.hid (show fits s m t = false by simp [fits, hal])
      go_wp2_with fail
      go_ret
      exact ⟨ret_bool HF.out.symm, (((Below.refl _ _).alloc (Nat.le_refl _) _).alloc (by simp) _).alloc (by simp; omega) _⟩
    · have HF := Lib.hid hal
      clear hal
      go_wp2_with fail
      obtain ⟨W2, hW2⟩ : ∃ W2, W2 = ((w.alloc (Obj.cells #[Value.int .i64 t, v] 79)).alloc (Obj.cells #[Value.int .i64 s.n, .bool s.l, .bool s.r, .int .i64 s.b, .int .i64 s.p] 42)).alloc (Obj.cells #[Value.int .i64 m.n, .int .i64 m.b, .int .i64 m.p] 52) := ⟨_, rfl⟩
      rw [← hW2]
      have hB : Below w.heap.size w W2 := by rw [hW2]; exact (((Below.refl _ _).alloc (Nat.le_refl _) _).alloc (by simp) _).alloc (by simp; omega) _
      have b3 : W2.heap[w.heap.size]? = some (Obj.cells #[Value.int .i64 t, v] 79 (0, 0)) := by rw [hW2]; exact hblk_alloc (hblk_alloc (alloc_at rfl) _) _
      have b4 : W2.heap[w.heap.size + 1]? = some (Obj.cells #[Value.int .i64 s.n, .bool s.l, .bool s.r, .int .i64 s.b, .int .i64 s.p] 42 (0, 0)) := by rw [hW2]; exact hblk_alloc (alloc_at (by simp)) _
      have b5 : W2.heap[w.heap.size + 1 + 1]? = some (Obj.cells #[Value.int .i64 m.n, .int .i64 m.b, .int .i64 m.p] 52 (0, 0)) := by rw [hW2]; exact alloc_at (by simp)
      clear hW2
      obtain ⟨c0, c1, c2, c3, c4⟩ := blk5 b4
      have k0 := cell_regrown c0
      have k1 := cell_regrown c1
      have k2 := cell_regrown c2
      have k3 := cell_regrown c3
      have k4 := cell_regrown c4
      have k5 := cell_regrown (blk3 b5).1
      have cOn : ∀ d os, Calls Tryd.prog 42 #[.int .i64 m.n, vSg s] (Sort.grow (redrawn W2 d) os) (fun e w'' => e = .returned (.int .i64 (onI m.n s.l s.r)) ∧ ∃ p : Regrown, w'' = Sort.grow (redrawn W2 p.d) p.os) := fun d os => Calls.regrown_of (on_any m.n s _ hm hm')
      have HCon := Lib.hid cOn
      clear cOn c0 c1 c2 c3 c4
      refine wp_region_quiet_below (by kernel_rfl) (by kernel_rfl) ?_
      repeat (quiet_step (exact HCon.out _ _))
      refine wpQuiet_nil ?_
      intro _ hw'
      obtain ⟨⟨dq, osq⟩, hw''⟩ := hw'
      subst hw''
      obtain ⟨W3, hW3⟩ : ∃ W3, W3 = Sort.grow (redrawn W2 dq) osq := ⟨_, rfl⟩
      have hB3 : Below W2.heap.size W2 W3 := by rw [hW3]; exact below_regrown W2 dq osq
      rw [← hW3]
      have hs2 : w.heap.size + 2 < W2.heap.size := by have := heap_lt b5; omega
      have q0 : W3.cell? ⟨w.heap.size, 0, none⟩ = some (.int .i64 t) := bcell (blk2 b3).1 hB3 (Nat.le_refl _)
      clear hW3 k0 k1 k2 k3 k4 k5 HCon
      cases hg : (butI (onI m.n s.l s.r) s.n == 0)
      all_goals
        go_wp2_with fail
        go_quiet (first
          | (go_at_call 40; exact quiet_left (but_any _ _ _ (by assumption) (by assumption) (by assumption) (by assumption)))
          | (go_at_call 41; exact quiet_left (count_any _ _ hb hb')))
        go_wp2
        go_ret
        refine ⟨ret_bool ?_, hB.trans (((hB3.mono (by omega)).trans (below_drewN (Below.refl _ _) _)))⟩
      · have h0 : ¬ butI (onI m.n s.l s.r) s.n = 0 := by simpa using hg
        simp [fits, HF.out, h0]
      · have h0 : butI (onI m.n s.l s.r) s.n = 0 := by simpa using hg
        simp [fits, HF.out, h0]
end Go.Proofs.YtoidaigiejilcaaDoor
