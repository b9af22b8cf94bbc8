/- mestalaw03.clash. -/
import Derived.Test.YtahlicinchehhaaLawN
import Derived.Deep.CutBlock
namespace Go.Proofs.Ytahlicinchehhaa
open Go.RowKit
set_option linter.unusedVariables false
set_option linter.unusedSimpArgs false

theorem clash_leaf {a b : Mk} {t : Int} {x0 y0 x1 y1 x2 y2 : Bool}
    (h0 : decide ((popI (butI a.n b.n) : Int) ≤ t) = x0) (k0 : decide ((popI (butI b.n a.n) : Int) ≤ t) = y0)
    (h1 : decide ((popI (onI (butI a.n b.n) false true) : Int) ≤ t) = x1) (k1 : decide ((popI (onI (butI b.n a.n) false true) : Int) ≤ t) = y1)
    (h2 : decide ((popI (onI (butI a.n b.n) true false) : Int) ≤ t) = x2) (k2 : decide ((popI (onI (butI b.n a.n) true false) : Int) ≤ t) = y2) :
    earsN a b t = if x0 && y0 then 0 else if (x1 && y1) || (x2 && y2) then 1 else 2 := by
  subst h0 k0 h1 k1 h2 k2
  unfold earsN
  simp only [Bool.and_eq_true, Bool.or_eq_true, decide_eq_true_eq]
theorem bits_and15 (n : Int) (h0 : 0 ≤ n) (h : n ≤ 255) : bits .and .i64 n 15 = onI n false true := by
  have key : ∀ i : Fin 256, bits .and .i64 (i.1 : Int) 15 = onI (i.1 : Int) false true := by decide +kernel
  obtain ⟨k, rfl⟩ := Int.eq_ofNat_of_zero_le h0
  exact key ⟨k, by omega⟩
theorem bits_and240 (n : Int) (h0 : 0 ≤ n) (h : n ≤ 255) : bits .and .i64 n 240 = onI n true false := by
  have key : ∀ i : Fin 256, bits .and .i64 (i.1 : Int) 240 = onI (i.1 : Int) true false := by decide +kernel
  obtain ⟨k, rfl⟩ := Int.eq_ofNat_of_zero_le h0
  exact key ⟨k, by omega⟩

set_option maxRecDepth 100000 in
set_option maxHeartbeats 4000000 in
theorem clash_any (a b : Mk) (los t : Int) (w : World) (ha : 0 ≤ a.n ∧ a.n ≤ 255) (hb : 0 ≤ b.n ∧ b.n ≤ 255) (ht : 0 ≤ t) (h4 : los ≤ 4) :
    Calls Try.prog 43 #[vMk a, vMk b, .int .i64 los, .int .i64 t] w fun e w' => e = .returned (.bool (decide (mixedS a b t ≤ los))) ∧ Below w.heap.size w w' := by
  have HR := Lib.hid (clash_mixed ha hb ht h4)
  obtain ⟨R, hR⟩ : ∃ R, R = decide (mixedS a b t ≤ los) := ⟨_, rfl⟩
  rw [← hR]
  have HRR := Lib.hid (HR.out.trans hR.symm)
  clear hR HR
  go_enter Try.func43, Try.ntmps43
  unfold vMk
  go_upto_if 18 with (fail)
  obtain ⟨W, hW⟩ : ∃ W, W = (w.alloc (Obj.cells #[Value.int .i64 a.n, .int .i64 a.b, .int .i64 a.p] 26)).alloc (Obj.cells #[Value.int .i64 b.n, .int .i64 b.b, .int .i64 b.p] 26) := ⟨_, rfl⟩
  rw [← hW]
  have hB0 : Below w.heap.size w W := by rw [hW]; exact bal (bal0 w _) (Nat.le_refl _) _
  have b0 : W.heap[w.heap.size]? = some (Obj.cells #[Value.int .i64 a.n, .int .i64 a.b, .int .i64 a.p] 26 (0, 0)) := by rw [hW]; exact hblk_alloc (alloc_at rfl) _
  have b1 : W.heap[w.heap.size + 1]? = some (Obj.cells #[Value.int .i64 b.n, .int .i64 b.b, .int .i64 b.p] 26 (0, 0)) := by rw [hW]; exact alloc_at (by simp)
  have HB := Lib.hid hB0
  have hl1 := heap_lt b1
  clear hW hB0
  obtain ⟨p0, p1, p2⟩ := blk3 b0
  obtain ⟨q0, q1, q2⟩ := blk3 b1
  clear b0 b1
  -- the brand and the paint
  go_cut [9, 18] (fun q u18 wc => q = .int .i64 (if a.b = b.b then 0 else 1) ∧ W = wc)
  case first =>
    cases e1 : (a.b != b.b)
    all_goals
      have HE := Lib.hid e1
      go_wp2
      go_meet
      refine ⟨?_, rfl⟩
      have := HE.out
      simp at this
      simp [this]
  case rest =>
    obtain ⟨rfl, rfl⟩ := hcut
    obtain ⟨N1, hN1⟩ : ∃ N1 : Int, N1 = if a.b = b.b then 0 else 1 := ⟨_, rfl⟩
    rw [← hN1]
    have HN1 := Lib.hid hN1
    have n1 : 0 ≤ N1 ∧ N1 ≤ 1 := by rw [hN1]; split <;> omega
    obtain ⟨n1a, n1b⟩ := n1
    clear hN1
    go_upto_if 25 with (fail)
    go_cut [9, 25] (fun q u25 wc => q = .int .i64 (N1 + if a.p = b.p then 0 else 1) ∧ W = wc)
    case first =>
      cases e1 : (a.p != b.p)
      all_goals
        have HE := Lib.hid e1
        go_wp2
        go_meet
        refine ⟨?_, rfl⟩
        have := HE.out
        simp at this
        simp [this]
    case rest =>
      obtain ⟨rfl, rfl⟩ := hcut
      obtain ⟨N2, hN2⟩ : ∃ N2 : Int, N2 = N1 + if a.p = b.p then 0 else 1 := ⟨_, rfl⟩
      rw [← hN2]
      have HN2 := Lib.hid hN2
      have n2 : 0 ≤ N2 ∧ N2 ≤ 2 := by rw [hN2]; split <;> omega
      obtain ⟨n2a, n2b⟩ := n2
      clear hN2
      obtain ⟨H, hH⟩ : ∃ H, H = butI a.n b.n := ⟨_, rfl⟩
      obtain ⟨T, hT⟩ : ∃ T, T = butI b.n a.n := ⟨_, rfl⟩
      have v1 := bits_andNot a.n b.n ha.1 ha.2 hb.1 hb.2
      have v2 := bits_andNot b.n a.n hb.1 hb.2 ha.1 ha.2
      have H0 : 0 ≤ H := by rw [hH]; exact butI_lo _ _
      have H1 : H ≤ 255 := by rw [hH]; exact butI_hi _ _
      have T0 : 0 ≤ T := by rw [hT]; exact butI_lo _ _
      have T1 : T ≤ 255 := by rw [hT]; exact butI_hi _ _
      rw [← hH] at v1
      rw [← hT] at v2
      have HHT := Lib.hid (And.intro hH hT)
      clear hH hT
      go_upto_region 7 with (fail)
      go_quiet (fail)
      go_upto_block 0 with (fail)
      clear v1 v2 p0 p1 p2 q0 q1 q2
      obtain ⟨W2, hW2⟩ : ∃ W2, W2 = W.drewN nq := ⟨_, rfl⟩
      rw [← hW2]
      have HB2 := Lib.hid (show Below w.heap.size w W2 by rw [hW2]; exact below_drewN HB.out nq)
      clear hW2
      obtain ⟨HL, hHL⟩ : ∃ q, q = onI H false true := ⟨_, rfl⟩
      obtain ⟨TL, hTL⟩ : ∃ q, q = onI T false true := ⟨_, rfl⟩
      obtain ⟨HR, hHR⟩ : ∃ q, q = onI H true false := ⟨_, rfl⟩
      obtain ⟨TR, hTR⟩ : ∃ q, q = onI T true false := ⟨_, rfl⟩
      have g1 := bits_and15 H H0 H1
      have g2 := bits_and15 T T0 T1
      have g3 := bits_and240 H H0 H1
      have g4 := bits_and240 T T0 T1
      rw [← hHL] at g1
      rw [← hTL] at g2
      rw [← hHR] at g3
      rw [← hTR] at g4
      have hl0 : 0 ≤ HL ∧ HL ≤ 255 := by rw [hHL]; exact ⟨onI_lo _ _ _, onI_hi _ _ _⟩
      have hl1 : 0 ≤ TL ∧ TL ≤ 255 := by rw [hTL]; exact ⟨onI_lo _ _ _, onI_hi _ _ _⟩
      have hl2 : 0 ≤ HR ∧ HR ≤ 255 := by rw [hHR]; exact ⟨onI_lo _ _ _, onI_hi _ _ _⟩
      have hl3 : 0 ≤ TR ∧ TR ≤ 255 := by rw [hTR]; exact ⟨onI_lo _ _ _, onI_hi _ _ _⟩
      obtain ⟨hl0a, hl0b⟩ := hl0
      obtain ⟨hl1a, hl1b⟩ := hl1
      obtain ⟨hl2a, hl2b⟩ := hl2
      obtain ⟨hl3a, hl3b⟩ := hl3
      have HON := Lib.hid (And.intro hHL (And.intro hTL (And.intro hHR hTR)))
      clear hHL hTL hHR hTR
      have leaf : ∀ (x0 y0 x1 y1 x2 y2 : Bool), decide ((popI H : Int) ≤ t) = x0 → decide ((popI T : Int) ≤ t) = y0 → decide ((popI HL : Int) ≤ t) = x1 → decide ((popI TL : Int) ≤ t) = y1 → decide ((popI HR : Int) ≤ t) = x2 → decide ((popI TR : Int) ≤ t) = y2 →
          decide (N2 + (if x0 && y0 then 0 else if (x1 && y1) || (x2 && y2) then 1 else 2) ≤ los) = R := by
        intro x0 y0 x1 y1 x2 y2 e1 e2 e3 e4 e5 e6
        rw [HON.out.1, HHT.out.1] at e3
        rw [HON.out.2.1, HHT.out.2] at e4
        rw [HON.out.2.2.1, HHT.out.1] at e5
        rw [HON.out.2.2.2, HHT.out.2] at e6
        rw [HHT.out.1] at e1
        rw [HHT.out.2] at e2
        rw [← clash_leaf e1 e2 e3 e4 e5 e6, HN2.out, HN1.out]
        exact HRR.out
      have HLF := Lib.hid leaf
      clear leaf
      cases e1 : decide ((popI H : Int) ≤ t) <;> cases e2 : decide ((popI T : Int) ≤ t) <;> cases e3 : decide ((popI HL : Int) ≤ t) <;> cases e4 : decide ((popI TL : Int) ≤ t) <;> cases e5 : decide ((popI HR : Int) ≤ t) <;> cases e6 : decide ((popI TR : Int) ≤ t)
      all_goals
        have HE := Lib.hid (HLF.out _ _ _ _ _ _ e1 e2 e3 e4 e5 e6)
        go_wp2_with (go_at_call 42; refine (rNotches _ _ (by assumption) (by assumption)).mono ?_; rintro e w' ⟨rfl, rfl⟩)
        go_ret
        refine ⟨ret_bool ?_, HB2.out⟩
        have h := HE.out
        simpa using h
end Go.Proofs.Ytahlicinchehhaa
