/- mestaref03: Losses, less, alike. -/
import Derived.Test.YtahlicinchehhaaPair
namespace Go.Proofs.Ytahlicinchehhaa
open Go.RowKit
set_option linter.unusedVariables false
set_option linter.unusedSimpArgs false

theorem rLosses (s : Sg) (w : World) :
    Calls Try.prog 34 #[vSg s] w fun e w' => e = .returned (.int .i64 (lossN s)) ∧ Below w.heap.size w w' := by
  obtain ⟨n, l, r, b, p⟩ := s
  unfold vSg
  have HB := Lib.hid (bal0 w (Obj.cells #[Value.int .i64 n, .bool l, .bool r, .int .i64 b, .int .i64 p] 28))
  cases l <;> cases r <;> cases e1 : (b == -1) <;> cases e2 : (p == -1)
  all_goals
    have HE := Lib.hid (And.intro e1 e2)
    go_enter Try.func34, Try.ntmps34
    go_wp2
    go_ret
    refine ⟨ret_int ?_, HB.out⟩
    obtain ⟨h1, h2⟩ := HE.out
    simp only [beq_iff_eq, beq_eq_false_iff_ne] at h1 h2
    simp [lossN, h1, h2]

set_option maxRecDepth 100000 in
set_option maxHeartbeats 4000000 in
theorem rLess (a b : Mk) (s : Sg) (w : World) (ha : 0 ≤ a.n) (ha' : a.n ≤ 255) (hb : 0 ≤ b.n) (hb' : b.n ≤ 255) :
    Calls Try.prog 101 #[vMk a, vMk b, vSg s] w fun e w' => e = .returned (.int .i64 (lessN a b s.l s.r)) ∧ Below w.heap.size w w' := by
  go_enter Try.func101, Try.ntmps101
  unfold vMk vSg
  go_wp2_with fail
  obtain ⟨W0, hW⟩ : ∃ W0, W0 = ((w.alloc (Obj.cells #[Value.int .i64 a.n, .int .i64 a.b, .int .i64 a.p] 26)).alloc (Obj.cells #[Value.int .i64 b.n, .int .i64 b.b, .int .i64 b.p] 26)).alloc (Obj.cells #[Value.int .i64 s.n, .bool s.l, .bool s.r, .int .i64 s.b, .int .i64 s.p] 28) := ⟨_, rfl⟩
  rw [← hW]
  have hB0 : Below w.heap.size w W0 := by rw [hW]; exact bal (bal (bal0 w _) (Nat.le_refl _) _) (Nat.le_refl _) _
  have a0 : W0.heap[w.heap.size]? = some (Obj.cells #[Value.int .i64 a.n, .int .i64 a.b, .int .i64 a.p] 26 (0, 0)) := by rw [hW]; exact hblk_alloc (hblk_alloc (alloc_at rfl) _) _
  have a1 : W0.heap[w.heap.size + 1]? = some (Obj.cells #[Value.int .i64 b.n, .int .i64 b.b, .int .i64 b.p] 26 (0, 0)) := by rw [hW]; exact hblk_alloc (alloc_at (by simp)) _
  have a2 : W0.heap[w.heap.size + 1 + 1]? = some (Obj.cells #[Value.int .i64 s.n, .bool s.l, .bool s.r, .int .i64 s.b, .int .i64 s.p] 28 (0, 0)) := by rw [hW]; exact alloc_at (by simp)
  clear hW
  have HB := Lib.hid (And.intro a0 (And.intro a1 (And.intro a2 hB0)))
  clear a0 a1 a2 hB0
  go_loopg [7, 8] 8 (fun g x i wr => ∃ k : Nat, k + g = 8 ∧ i = .int .i64 k ∧ ∃ q : Nat, x = .int .i64 q ∧ q = cntTo (lessB a b s.l s.r) k ∧ Below W0.heap.size W0 wr)
  case atStart => exact ⟨0, by omega, rfl, 0, rfl, rfl, Below.refl _ _⟩
  case round =>
    obtain ⟨k, hk, rfl, q, rfl, hq, hbl⟩ := hrel
    have hqk : q ≤ k := by rw [hq]; exact cntTo_le _ _
    have HK := Lib.hid (And.intro hk hq)
    have hk8 : k ≤ 8 := by omega
    clear hk hq
    obtain ⟨a0, a1, a2, -⟩ := HB.out
    replace a0 := bheap a0 hbl (Nat.le_refl _)
    replace a1 := bheap a1 hbl (Nat.le_refl _)
    replace a2 := bheap a2 hbl (Nat.le_refl _)
    obtain ⟨s0, s1, s2, s3, s4⟩ := blk5 a2
    by_cases hlt : k < 8
    · have hlt' : (k : Int) < 8 := by omega
      clear a0 a1 a2
      go_wp2_with fail
      refine (rTorn s k _ hk8).mono ?_
      rintro e w2 ⟨rfl, hb2⟩
      have hbl2 := hbl.trans (hb2.mono hbl.size)
      clear s0 s1 s2 s3 s4 hb2
      obtain ⟨a0, a1, a2, -⟩ := HB.out
      obtain ⟨m0, m1, m2⟩ := blk3 (bheap a0 hbl2 (Nat.le_refl _))
      obtain ⟨n0, n1, n2⟩ := blk3 (bheap a1 hbl2 (Nat.le_refl _))
      clear a0 a1 a2
      cases ht : tornB s.l s.r k
      · cases hbm : bit a.n k <;> cases hbs : bit b.n k
        all_goals
          have HT := Lib.hid (And.intro ht (And.intro hbm hbs))
          go_wp2_with (go_at_call 70; refine (rHas _ k _ (by assumption) (by assumption) hk8).mono ?_; rintro e w3 ⟨rfl, rfl⟩)
          go_roundg (gk - 1)
          case measure => have := HK.out.1; omega
        · exact ⟨k + 1, by have := HK.out.1; omega, by go_num, q, rfl, by rw [cntTo_succ, HK.out.2]; simp [lessB, HT.out.1, HT.out.2.1, HT.out.2.2], hbl2⟩
        · exact ⟨k + 1, by have := HK.out.1; omega, by go_num, q, rfl, by rw [cntTo_succ, HK.out.2]; simp [lessB, HT.out.1, HT.out.2.1, HT.out.2.2], hbl2⟩
        · exact ⟨k + 1, by have := HK.out.1; omega, by go_num, q + 1, by go_num, by rw [cntTo_succ, HK.out.2]; simp [lessB, HT.out.1, HT.out.2.1, HT.out.2.2], hbl2⟩
        · exact ⟨k + 1, by have := HK.out.1; omega, by go_num, q, rfl, by rw [cntTo_succ, HK.out.2]; simp [lessB, HT.out.1, HT.out.2.1, HT.out.2.2], hbl2⟩
      · have HT := Lib.hid ht
        go_wp2
        go_roundg (gk - 1)
        case measure => have := HK.out.1; omega
        case rel => exact ⟨k + 1, by have := HK.out.1; omega, by go_num, q, rfl, by rw [cntTo_succ, HK.out.2]; simp [lessB, HT.out], hbl2⟩
    · obtain rfl : k = 8 := by omega
      go_wp2
      go_ret
      exact ⟨ret_int (by rw [HK.out.2]; rfl), HB.out.2.2.2.trans (hbl.mono HB.out.2.2.2.size)⟩

set_option maxRecDepth 100000 in
set_option maxHeartbeats 4000000 in
theorem rAlike (a b : Mk) (s : Sg) (t : Int) (w : World) (ha : 0 ≤ a.n) (ha' : a.n ≤ 255) (hb : 0 ≤ b.n) (hb' : b.n ≤ 255) :
    Calls Try.prog 97 #[vMk a, vMk b, vSg s, .int .i64 t] w fun e w' => e = .returned (.bool (alikeW a b t s)) ∧ Below w.heap.size w w' := by
  have HF := Lib.hid (alikeW_less a b t s)
  obtain ⟨R, hR⟩ : ∃ R, R = alikeW a b t s := ⟨_, rfl⟩
  rw [← hR]
  have HRR := Lib.hid hR
  clear hR
  go_enter Try.func97, Try.ntmps97
  unfold vSg vMk
  go_upto_region 1 with (fail)
  go_cut [30] (fun q wc => q = .bool (!bpW a b s) ∧ ((w.alloc (Obj.cells #[Value.int .i64 a.n, .int .i64 a.b, .int .i64 a.p] 26)).alloc (Obj.cells #[Value.int .i64 b.n, .int .i64 b.b, .int .i64 b.p] 26)).alloc (Obj.cells #[Value.int .i64 s.n, .bool s.l, .bool s.r, .int .i64 s.b, .int .i64 s.p] 28) = wc)
  case first =>
    cases e1 : (s.b != -1) <;> cases e2 : (a.b != b.b) <;> cases e3 : (s.p != -1) <;> cases e4 : (a.p != b.p)
    all_goals
      go_wp2
      go_meet
      exact ⟨by simp_all [bpW], rfl⟩
  case rest =>
    obtain ⟨rfl, rfl⟩ := hcut
    obtain ⟨W0, hW⟩ : ∃ W0, W0 = ((w.alloc (Obj.cells #[Value.int .i64 a.n, .int .i64 a.b, .int .i64 a.p] 26)).alloc (Obj.cells #[Value.int .i64 b.n, .int .i64 b.b, .int .i64 b.p] 26)).alloc (Obj.cells #[Value.int .i64 s.n, .bool s.l, .bool s.r, .int .i64 s.b, .int .i64 s.p] 28) := ⟨_, rfl⟩
    rw [← hW]
    have hB0 : Below w.heap.size w W0 := by rw [hW]; exact bal (bal (bal0 w _) (Nat.le_refl _) _) (Nat.le_refl _) _
    have a0 : W0.heap[w.heap.size]? = some (Obj.cells #[Value.int .i64 a.n, .int .i64 a.b, .int .i64 a.p] 26 (0, 0)) := by rw [hW]; exact hblk_alloc (hblk_alloc (alloc_at rfl) _) _
    have a1 : W0.heap[w.heap.size + 1]? = some (Obj.cells #[Value.int .i64 b.n, .int .i64 b.b, .int .i64 b.p] 26 (0, 0)) := by rw [hW]; exact hblk_alloc (alloc_at (by simp)) _
    have a2 : W0.heap[w.heap.size + 1 + 1]? = some (Obj.cells #[Value.int .i64 s.n, .bool s.l, .bool s.r, .int .i64 s.b, .int .i64 s.p] 28 (0, 0)) := by rw [hW]; exact alloc_at (by simp)
    clear hW
    obtain ⟨m0, m1, m2⟩ := blk3 a0
    obtain ⟨n0, n1, n2⟩ := blk3 a1
    obtain ⟨s0, s1, s2, s3, s4⟩ := blk5 a2
    cases hal : bpW a b s
    · have HE := Lib.hid hal
      go_wp2
      go_ret
      exact ⟨ret_bool (by rw [HRR.out, HF.out, HE.out]; rfl), hB0⟩
    · have HE := Lib.hid hal
      clear hal
      simp only [Bool.not_true]
      go_wp2_with fail
      refine (rLess a b s _ ha ha' hb hb').mono ?_
      rintro e w2 ⟨rfl, hb2⟩
      have hB2 := hB0.trans (hb2.mono hB0.size)
      replace a0 := bheap a0 hb2 (Nat.le_refl _)
      replace a1 := bheap a1 hb2 (Nat.le_refl _)
      replace a2 := bheap a2 hb2 (Nat.le_refl _)
      clear m0 m1 m2 n0 n1 n2 s0 s1 s2 s3 s4 hb2
      obtain ⟨m0, m1, m2⟩ := blk3 a0
      obtain ⟨n0, n1, n2⟩ := blk3 a1
      obtain ⟨s0, s1, s2, s3, s4⟩ := blk5 a2
      by_cases h1 : (lessN a b s.l s.r : Int) ≤ t
      · have H1 := Lib.hid h1
        go_wp2_with fail
        refine (rLess b a s _ hb hb' ha ha').mono ?_
        rintro e w3 ⟨rfl, hb3⟩
        have hB3 := hB2.trans (hb3.mono hB2.size)
        clear hb3
        go_wp2
        go_ret
        exact ⟨ret_bool (by rw [HRR.out, HF.out, HE.out]; simp [H1.out]), hB3⟩
      · have H1 := Lib.hid h1
        go_wp2
        go_ret
        exact ⟨ret_bool (by rw [HRR.out, HF.out, HE.out]; rw [decide_eq_false (by have := H1.out; omega)]; simp), hB2⟩

end Go.Proofs.Ytahlicinchehhaa
