/- mestaref03.Verdict. -/
import Derived.Test.YtahlicinchehhaaRefC
import Derived.Test.YtahlicinchehhaaLawB
namespace Go.Proofs.Ytahlicinchehhaa
open Go.RowKit
set_option linter.unusedVariables false
set_option linter.unusedSimpArgs false

theorem ownerE_btw (o : Int) (n : Nat) : ownerE [o] n = if btw o 0 ((n : Int) - 1) then 0 else 3 := by
  unfold ownerE; simp

set_option maxRecDepth 100000 in
set_option maxHeartbeats 1000000 in
theorem rVerdict (t : Int) (A : Option Addr) (n c : Nat) (l : List Mk) (s : Sg) (o : Int) (w : World) (hl : Marks w A n l) (hlc : n ≤ c) (hcm : c ≤ maxLen) :
    Calls Try.prog 46 #[.agg #[.int .i64 t, .slice A n c], vSg s, .int .i64 o] w fun e w' => e = .returned (.tuple #[.int .i64 (verV t l s o), .int .i64 (verE t l s o)]) ∧ Below w.heap.size w w' := by
  have HL := Lib.hid (And.intro hl hl.len)
  have hnm : n ≤ maxLen := by omega
  obtain ⟨W0, hW⟩ : ∃ W0, W0 = (w.alloc (Obj.cells #[Value.int .i64 t, .slice A n c] 24)).alloc (Obj.cells #[Value.int .i64 s.n, .bool s.l, .bool s.r, .int .i64 s.b, .int .i64 s.p] 28) := ⟨_, rfl⟩
  have hB0 : Below w.heap.size w W0 := by rw [hW]; exact bal (bal0 w _) (Nat.le_refl _) _
  have b2 : W0.heap[w.heap.size]? = some (Obj.cells #[Value.int .i64 t, .slice A n c] 24 (0, 0)) := by rw [hW]; exact hblk_alloc (alloc_at rfl) _
  have b3 : W0.heap[w.heap.size + 1]? = some (Obj.cells #[Value.int .i64 s.n, .bool s.l, .bool s.r, .int .i64 s.b, .int .i64 s.p] 28 (0, 0)) := by rw [hW]; exact alloc_at (by simp)
  have hl0 := hl.below hB0 (Nat.le_refl _)
  clear hl
  go_enter Try.func46, Try.ntmps46
  unfold vSg
  go_upto_region 1 with (fail)
  rw [← hW]
  clear hW
  obtain ⟨r0, r1⟩ := blk2 b2
  obtain ⟨s0, s1, s2, s3, s4⟩ := blk5 b3
  go_wp2_with fail
  refine (rMay t A n c l s _ hl0 hlc hcm).mono ?_
  rintro e w1 ⟨v, rfl, ho1, hb1⟩
  have hB1 := hB0.trans (hb1.mono hB0.size)
  have b21 := bheap b2 hb1 (Nat.le_refl _)
  have b31 := bheap b3 hb1 (Nat.le_refl _)
  clear r0 r1 b2 b3 hB0 hb1 hl0 s0 s1 s2 s3 s4
  obtain ⟨r0, r1⟩ := blk2 b21
  obtain ⟨s0, s1, s2, s3, s4⟩ := blk5 b31
  obtain ⟨Av, cv, rfl, hsv, hcv, hmv⟩ := ho1.form lenInt
  clear ho1 hsv
  by_cases hma : mayE t l s = 0
  · have h0 : (mayE t l s != 0) = false := by simp [hma]
    have hR : mayR t l s = mayL t l s := by unfold mayR; rw [if_pos hma]
    rw [hR] at hcv ⊢
    have HC := Lib.hid hma
    have hck : check t l = 0 := by unfold mayE at hma; by_cases h : check t l = 0; exact h; rw [if_pos h] at hma; exact absurd hma h
    have hse : seen s 9 6 = 0 := by unfold mayE at hma; rwa [if_neg (by simp [hck])] at hma
    have HCK := Lib.hid (And.intro hck hse)
    clear hma hR hck hse
    go_wp2_with fail
    refine (rIsOwner t A n c o _ hnm).mono ?_
    rintro e w2 ⟨rfl, hb2⟩
    have hB2 := hB1.trans (hb2.mono hB1.size)
    have b22 := bheap b21 hb2 (Nat.le_refl _)
    have b32 := bheap b31 hb2 (Nat.le_refl _)
    clear r0 r1 s0 s1 s2 s3 s4 b21 b31 hB1 hb2
    obtain ⟨r0, r1⟩ := blk2 b22
    obtain ⟨s0, s1, s2, s3, s4⟩ := blk5 b32
    cases how : btw o 0 ((n : Int) - 1)
    · have HE := Lib.hid (show verE t l s o = 3 by unfold verE; rw [if_neg (by simp [HC.out]), HL.out.2, ownerE_btw, how]; rfl)
      have HV := Lib.hid (show verV t l s o = 0 by unfold verV; rw [if_pos (by rw [HE.out]; omega)])
      clear how
      go_wp2
      go_ret2
      exact ⟨ret_int2 HV.out.symm HE.out.symm, hB2⟩
    · have hoo := btw_iff.1 how
      obtain ⟨k, rfl⟩ := Int.eq_ofNat_of_zero_le hoo.1
      have hkn : k < n := by omega
      have HE := Lib.hid (show verE t l s k = 0 by unfold verE; rw [if_neg (by simp [HC.out]), HL.out.2, ownerE_btw, how]; rfl)
      have HV := Lib.hid (show verV t l s k = verL (mayL t l s) k by unfold verV; rw [if_neg (by simp [HE.out])])
      clear how hoo
      obtain ⟨b, off, m, rfl, hb, hm, c0, c1, c2⟩ := Marks.get (HL.out.1.below hB2 (Nat.le_refl _)) hkn
      have hmv2 := (check_marks HCK.out.1 m (List.mem_of_getElem? hm)).1
      have hsv2 := seen_ok HCK.out.2
      have i0 : (0 : Int) ≤ (k : Int) := by omega
      have i1 : (k : Int) < (n : Int) := by omega
      have cF : ∀ d os, Calls Try.prog 84 #[vSg s, vMk m, .int .i64 t] (Sort.grow (redrawn w2 d) os) (fun e w'' => e = .returned (.bool (fits s m t)) ∧ ∃ p : Regrown, w'' = Sort.grow (redrawn w2 p.d) p.os) := fun d os =>
        Calls.regrown_of (rFits s m t _ hmv2.1 hmv2.2 hsv2.1.1 hsv2.1.2 hsv2.2.1)
      unfold vMk vSg at cF
      have HCF := Lib.hid (And.intro cF hm)
      clear cF hsv2 hm
      go_upto_region 6 with (fail)
      have k0 := cell_regrown r0
      have k1 := cell_regrown r1
      have k2 := cell_regrown s0
      have k3 := cell_regrown s1
      have k4 := cell_regrown s2
      have k5 := cell_regrown s3
      have k6 := cell_regrown s4
      have k7 := cell_regrown c0
      have k8 := cell_regrown c1
      have k9 := cell_regrown c2
      refine wp_region_quiet_below (by kernel_rfl) (by kernel_rfl) ?_
      repeat (quiet_step (exact HCF.out.1 _ _))
      refine wpQuiet_nil ?_
      intro _ hw'
      obtain ⟨⟨dq, osq⟩, hw''⟩ := hw'
      subst hw''
      obtain ⟨w3, hW1⟩ : ∃ w3, w3 = Sort.grow (redrawn w2 dq) osq := ⟨_, rfl⟩
      have hb3 : Below w2.heap.size w2 w3 := by rw [hW1]; exact below_regrown w2 dq osq
      rw [← hW1]
      clear hW1 k0 k1 k2 k3 k4 k5 k6 k7 k8 k9
      have hB3 := hB2.trans (hb3.mono hB2.size)
      cases hf : fits s m t
      · have HVV := Lib.hid (show verL (mayL t l s) k = 2 by
          have hn : (k : Int) ∉ mayL t l s := fun h => by rw [mayL_iff HCF.out.2, hf] at h; cases h
          unfold verL
          have : (mayL t l s).contains (k : Int) = false := by rw [List.contains_eq_mem, decide_eq_false hn]
          rw [this]; rfl)
        go_wp2
        go_ret2
        exact ⟨ret_int2 (by rw [HV.out, HVV.out]) HE.out.symm, hB3⟩
      · have HIN := Lib.hid (show (mayL t l s).contains (k : Int) = true by rw [List.contains_eq_mem, decide_eq_true ((mayL_iff HCF.out.2).2 hf)])
        cases h1 : ((mayL t l s).length == 1)
        · have h1' : (((mayL t l s).length : Int) == 1) = false := by simp at h1 ⊢; omega
          have HVV := Lib.hid (show verL (mayL t l s) k = 3 by unfold verL; rw [HIN.out]; simp only [if_true]; rw [if_neg (by simpa using h1)])
          go_wp2
          go_ret2
          exact ⟨ret_int2 (by rw [HV.out, HVV.out]) HE.out.symm, hB3⟩
        · have h1' : (((mayL t l s).length : Int) == 1) = true := by simp at h1 ⊢; omega
          have HVV := Lib.hid (show verL (mayL t l s) k = 1 by unfold verL; rw [HIN.out]; simp only [if_true]; rw [if_pos (by simpa using h1)])
          go_wp2
          go_ret2
          exact ⟨ret_int2 (by rw [HV.out, HVV.out]) HE.out.symm, hB3⟩
  · have h0 : (mayE t l s != 0) = true := by simp [hma]
    have HE := Lib.hid (show verE t l s o = mayE t l s by unfold verE; rw [if_pos hma])
    have HV := Lib.hid (show verV t l s o = 0 by unfold verV; rw [if_pos (by rw [HE.out]; exact hma)])
    clear hma
    go_wp2
    go_ret2
    exact ⟨ret_int2 HV.out.symm HE.out.symm, hB1⟩
end Go.Proofs.Ytahlicinchehhaa
