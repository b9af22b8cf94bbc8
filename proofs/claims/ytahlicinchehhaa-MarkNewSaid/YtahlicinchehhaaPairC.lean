/- mestaref03.Mixed. -/
import Derived.Test.YtahlicinchehhaaPairB
namespace Go.Proofs.Ytahlicinchehhaa
open Go.RowKit
set_option linter.unusedVariables false
set_option linter.unusedSimpArgs false

set_option maxRecDepth 100000 in
set_option maxHeartbeats 1000000 in
theorem rMixed (a b : Mk) (los t : Int) (w : World) (ha : 0 ≤ a.n) (ha' : a.n ≤ 255) (hb : 0 ≤ b.n) (hb' : b.n ≤ 255) (h4 : los ≤ 4) :
    Calls Try.prog 82 #[vMk a, vMk b, .int .i64 los, .int .i64 t] w fun e w' => e = .returned (.bool (decide (mixedS a b t ≤ los))) ∧ Below w.heap.size w w' := by
  have HF := Lib.hid (mixed_any_iff a b t los h4)
  obtain ⟨R, hR⟩ : ∃ R, R = decide (mixedS a b t ≤ los) := ⟨_, rfl⟩
  rw [← hR]
  have HRR := Lib.hid (hR.trans (mixed_any_iff a b t los h4).symm)
  clear hR HF h4
  go_enter Try.func82, Try.ntmps82
  unfold vMk
  go_wp2_with fail
  obtain ⟨W0, hW⟩ : ∃ W0, W0 = (w.alloc (Obj.cells #[Value.int .i64 a.n, .int .i64 a.b, .int .i64 a.p] 26)).alloc (Obj.cells #[Value.int .i64 b.n, .int .i64 b.b, .int .i64 b.p] 26) := ⟨_, rfl⟩
  rw [← hW]
  have hB0 : Below w.heap.size w W0 := by rw [hW]; exact bal (bal0 w _) (Nat.le_refl _) _
  have a0 : W0.heap[w.heap.size]? = some (Obj.cells #[Value.int .i64 a.n, .int .i64 a.b, .int .i64 a.p] 26 (0, 0)) := by rw [hW]; exact hblk_alloc (alloc_at rfl) _
  have a1 : W0.heap[w.heap.size + 1]? = some (Obj.cells #[Value.int .i64 b.n, .int .i64 b.b, .int .i64 b.p] 26 (0, 0)) := by rw [hW]; exact alloc_at (by simp)
  clear hW
  refine (rWears _).mono ?_
  rintro e w1 ⟨v, rfl, hown, hb1⟩
  have hB1 := hB0.trans (hb1.mono hB0.size)
  replace a0 := bheap a0 hb1 (Nat.le_refl _)
  replace a1 := bheap a1 hb1 (Nat.le_refl _)
  clear hb1 hB0
  obtain ⟨A, c, rfl, hsl, hlc, hcm⟩ := hown.form lenSg
  obtain ⟨N, hN⟩ : ∃ N, N = wearsL.length := ⟨_, rfl⟩
  rw [← hN] at hsl hlc ⊢
  have hN16 : N ≤ 16 := by rw [hN]; decide
  have HN := Lib.hid hN
  have HB := Lib.hid (And.intro a0 (And.intro a1 (And.intro hB1 hsl)))
  clear a0 a1 hB1 hsl hown hN
  go_wp2_with fail
  go_loopg [10] N (fun g i wr => ∃ k : Nat, k + g = N ∧ i = .int .i64 k ∧ ((wearsL.take k).any fun s => decide ((lossN s : Int) ≤ los) && alikeW a b t s) = false ∧ Below w1.heap.size w1 wr)
  case atStart => exact ⟨0, by omega, rfl, rfl, Below.refl _ _⟩
  case round =>
    obtain ⟨k, hk, rfl, hno, hbl⟩ := hrel
    have HK := Lib.hid (And.intro hk hno)
    have hkn : k ≤ N := by omega
    clear hk hno
    obtain ⟨m0, m1, m2⟩ := blk3 (bheap HB.out.1 hbl (Nat.le_refl _))
    obtain ⟨n0, n1, n2⟩ := blk3 (bheap HB.out.2.1 hbl (Nat.le_refl _))
    by_cases hlt : k < N
    · obtain ⟨b0, off, s, rfl, hb0, hs, s0, s1, s2, s3, s4⟩ := Sights.get (HB.out.2.2.2.below hbl (Nat.le_refl _)) hlt
      have HS := Lib.hid hs
      clear hs
      have i0 : (0 : Int) ≤ (k : Int) := by omega
      have i1 : (k : Int) < (N : Int) := by omega
      have cL : ∀ d os, Calls Try.prog 34 #[vSg s] (Sort.grow (redrawn wr d) os) (fun e w'' => e = .returned (.int .i64 (lossN s)) ∧ ∃ p : Regrown, w'' = Sort.grow (redrawn wr p.d) p.os) := fun d os => Calls.regrown_of (rLosses s _)
      have cA : ∀ d os, Calls Try.prog 97 #[vMk a, vMk b, vSg s, .int .i64 t] (Sort.grow (redrawn wr d) os) (fun e w'' => e = .returned (.bool (alikeW a b t s)) ∧ ∃ p : Regrown, w'' = Sort.grow (redrawn wr p.d) p.os) := fun d os => Calls.regrown_of (rAlike a b s t _ ha ha' hb hb')
      unfold vSg at cL cA
      unfold vMk at cA
      obtain ⟨Z, hZ⟩ : ∃ Z, Z = lossN s := ⟨_, rfl⟩
      rw [← hZ] at cL
      have HZ := Lib.hid hZ
      clear hZ
      cases h1 : decide ((Z : Int) ≤ los)
      · cases h2 : alikeW a b t s
        all_goals
          rw [h2] at cA
          have HC := Lib.hid (And.intro cL cA)
          have HE := Lib.hid (And.intro h1 h2)
          clear cL cA h2
          go_upto_region 5 with (fail)
          have k0 := cell_regrown m0
          have k1 := cell_regrown m1
          have k2 := cell_regrown m2
          have k3 := cell_regrown n0
          have k4 := cell_regrown n1
          have k5 := cell_regrown n2
          have k6 := And.intro (cell_regrown s0) (And.intro (cell_regrown s1) (And.intro (cell_regrown s2) (And.intro (cell_regrown s3) (cell_regrown s4))))
          refine wp_region_quiet_below (by kernel_rfl) (by kernel_rfl) ?_
          repeat
            with_reducible refine wpQuiet_step (fun K hK => ?_)
            go_simp
            first
              | (with_reducible refine hK _ ?_
                 clear hK K)
              | (apply Exists.intro
                 refine ⟨fun _ => ?_, ?_⟩
                 (first | exact HC.out.1 _ _ | exact HC.out.2 _ _)
                 with_reducible refine hK _ ?_
                 clear hK K)
          with_reducible refine wpQuiet_nil ?_
          intro _ hw'
          obtain ⟨⟨dq, osq⟩, hw''⟩ := hw'
          subst hw''
          obtain ⟨w3, hW1⟩ : ∃ w3, w3 = Sort.grow (redrawn wr dq) osq := ⟨_, rfl⟩
          have hb3 : Below wr.heap.size wr w3 := by rw [hW1]; exact below_regrown wr dq osq
          rw [← hW1]
          clear hW1 k0 k1 k2 k3 k4 k5 k6
          go_wp2
          go_roundg (gk - 1)
          case measure => have := HK.out.1; omega
          case rel => exact ⟨k + 1, by have := HK.out.1; omega, by go_num, by rw [List.take_add_one, HS.out, List.any_append, HK.out.2]; show (false || ((decide ((lossN s : Int) ≤ los) && alikeW a b t s) || false)) = false; rw [← HZ.out, HE.out.1]; rfl, hbl.trans (hb3.mono hbl.size)⟩
      · cases h2 : alikeW a b t s
        all_goals
          rw [h2] at cA
          have HC := Lib.hid (And.intro cL cA)
          have HE := Lib.hid (And.intro h1 h2)
          clear cL cA h2
          go_upto_region 5 with (fail)
          have k0 := cell_regrown m0
          have k1 := cell_regrown m1
          have k2 := cell_regrown m2
          have k3 := cell_regrown n0
          have k4 := cell_regrown n1
          have k5 := cell_regrown n2
          have k6 := And.intro (cell_regrown s0) (And.intro (cell_regrown s1) (And.intro (cell_regrown s2) (And.intro (cell_regrown s3) (cell_regrown s4))))
          refine wp_region_quiet_below (by kernel_rfl) (by kernel_rfl) ?_
          repeat
            with_reducible refine wpQuiet_step (fun K hK => ?_)
            go_simp
            first
              | (with_reducible refine hK _ ?_
                 clear hK K)
              | (apply Exists.intro
                 refine ⟨fun _ => ?_, ?_⟩
                 (first | exact HC.out.1 _ _ | exact HC.out.2 _ _)
                 with_reducible refine hK _ ?_
                 clear hK K)
          with_reducible refine wpQuiet_nil ?_
          intro _ hw'
          obtain ⟨⟨dq, osq⟩, hw''⟩ := hw'
          subst hw''
          obtain ⟨w3, hW1⟩ : ∃ w3, w3 = Sort.grow (redrawn wr dq) osq := ⟨_, rfl⟩
          have hb3 : Below wr.heap.size wr w3 := by rw [hW1]; exact below_regrown wr dq osq
          rw [← hW1]
          clear hW1 k0 k1 k2 k3 k4 k5 k6
          go_wp2
        · go_roundg (gk - 1)
          case measure => have := HK.out.1; omega
          case rel => exact ⟨k + 1, by have := HK.out.1; omega, by go_num, by rw [List.take_add_one, HS.out, List.any_append, HK.out.2]; simp [HE.out.2], hbl.trans (hb3.mono hbl.size)⟩
        · go_ret
          refine ⟨ret_bool ?_, HB.out.2.2.1.trans ((hbl.trans (hb3.mono hbl.size)).mono HB.out.2.2.1.size)⟩
          rw [HRR.out]
          exact (List.any_eq_true.2 ⟨s, List.mem_of_getElem? HS.out, by rw [← HZ.out, HE.out.1, HE.out.2]; rfl⟩).symm
    · obtain rfl : k = N := by omega
      go_wp2
      go_ret
      refine ⟨ret_bool ?_, HB.out.2.2.1.trans (hbl.mono HB.out.2.2.1.size)⟩
      rw [HRR.out]
      have := HK.out.2
      rw [HN.out, List.take_length] at this
      exact this.symm
end Go.Proofs.Ytahlicinchehhaa
