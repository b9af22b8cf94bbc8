/- mark.Apart. -/
import Derived.Test.YtoidaigiejilcaaDoorMixed
import Derived.Test.YtoidaigiejilcaaDoorCheck
import Derived.Test.YtoidaigiejilcaaDoorShow
import Derived.Test.YtoidaigiejilcaaDoorBase
namespace Go.Proofs.YtoidaigiejilcaaDoor
open Go.RowKit
set_option linter.unusedVariables false
set_option linter.unusedSimpArgs false

def apartE (t : Int) (l : List Mk) (a b : Int) : Int :=
  if check t l ≠ 0 then check t l else if ownerE [a, b] l.length ≠ 0 then 3 else if a = b then 4 else if 4 < mixedS (mkAt l a) (mkAt l b) t then 11 else 0
def apartV (t : Int) (l : List Mk) (a b : Int) : Int := if apartE t l a b = 0 then mixedS (mkAt l a) (mkAt l b) t else 0
theorem ownerE_two {a b : Int} {n : Nat} : ownerE [a, b] n = 0 ↔ (0 ≤ a ∧ a < n) ∧ 0 ≤ b ∧ b < n := by
  unfold ownerE
  simp only [List.all_cons, List.all_nil, Bool.and_true, Bool.and_eq_true, btw_iff]
  split <;> rename_i h
  · simp; omega
  · simp; omega

set_option maxRecDepth 100000 in
set_option maxHeartbeats 2000000 in
theorem Apart_any (t : Int) (A : Option Addr) (n c : Nat) (l : List Mk) (a b : Int) (w : World) (hl : Marks w A n l) (hlc : n ≤ c) (hcm : c ≤ maxLen) :
    Calls Tryd.prog 18 #[.agg #[.int .i64 t, .slice A n c], .int .i64 a, .int .i64 b] w fun e w' => e = .returned (.tuple #[.int .i64 (apartV t l a b), .int .i64 (apartE t l a b)]) ∧ Below w.heap.size w w' := by
  have HL := Lib.hid hl
  have HN := Lib.hid hl.len
  have hnm : n ≤ maxLen := by omega
  clear hl
  go_enter Tryd.func18, Tryd.ntmps18
  go_wp2_with fail
  have hbw : Below w.heap.size w (w.alloc (Obj.cells #[Value.int .i64 t, .slice A n c] 26)) := bal0 w _
  refine (check_any t A n c l _ (HL.out.below hbw (Nat.le_refl _)) hlc hcm).mono ?_
  rintro e w1 ⟨rfl, hb1⟩
  have e0 := bheap (show (w.alloc (Obj.cells #[Value.int .i64 t, .slice A n c] 26)).heap[w.heap.size]? = some (Obj.cells #[Value.int .i64 t, .slice A n c] 26 (0, 0)) from alloc_at rfl) hb1 (Nat.le_refl _)
  have hB1 : Below w.heap.size w w1 := hbw.trans (hb1.mono (by simp))
  clear hb1 hbw
  obtain ⟨r0, r1⟩ := blk2 e0
  have z0 := heap_lt e0
  by_cases hck : check t l = 0
  · have h0 : (check t l != 0) = false := by simp [hck]
    have HC := Lib.hid hck
    clear hck
    by_cases how : ownerE [a, b] n = 0
    · have h1 : (ownerE [a, b] n != 0) = false := by simp [how]
      have HO := Lib.hid how
      have hab := ownerE_two.1 how
      clear how
      go_wp2_with fail
      refine (owner_any t A n c [a, b] (some ⟨w1.heap.size, 0, none⟩) 2 2 _ (ints2 _ _ _ _) hnm (by decide)).mono ?_
      rintro e w2 ⟨rfl, hb2⟩
      have e02 := bheap (hblk_alloc e0 (Obj.cells #[Value.int .i64 a, .int .i64 b] 3)) hb2 (Nat.le_refl _)
      have hB2 : Below w.heap.size w w2 := (bal hB1 (Nat.le_refl _) _).trans (hb2.mono (by simp; omega))
      clear hb2 r0 r1
      obtain ⟨r0, r1⟩ := blk2 e02
      by_cases hne : a = b
      · have h2 : (a == b) = true := by simpa using hne
        have HE := Lib.hid (show apartE t l a b = 4 by unfold apartE; rw [if_neg (by simp [HC.out]), if_neg (by rw [HN.out]; simp [HO.out]), if_pos hne])
        have HV := Lib.hid (show apartV t l a b = 0 by unfold apartV; rw [if_neg (by rw [HE.out]; omega)])
        clear hne
        go_wp2
        go_ret2
        exact ⟨ret_int2 HV.out.symm HE.out.symm, hB2⟩
      · have h2 : (a == b) = false := by simpa using hne
        have HNE := Lib.hid hne
        clear hne
        obtain ⟨i, rfl⟩ := Int.eq_ofNat_of_zero_le hab.1.1
        obtain ⟨j, rfl⟩ := Int.eq_ofNat_of_zero_le hab.2.1
        have hin : i < n := by omega
        have hjn : j < n := by omega
        obtain ⟨b0, off, x, rfl, hb0, hx, p0, p1, p2⟩ := Marks.get (HL.out.below hB2 (Nat.le_refl _)) hin
        obtain ⟨b1, off1, y, hA, hb1, hy, q0, q1, q2⟩ := Marks.get (HL.out.below hB2 (Nat.le_refl _)) hjn
        obtain ⟨rfl, rfl⟩ : b1 = b0 ∧ off1 = off := by simpa [eq_comm] using hA
        clear hA
        have hxm := (check_marks HC.out x (List.mem_of_getElem? hx)).1
        have hym := (check_marks HC.out y (List.mem_of_getElem? hy)).1
        have HX := Lib.hid (show mkAt l (i : Int) = x ∧ mkAt l (j : Int) = y by unfold mkAt; simp [hx, hy])
        clear hx hy
        have i0 : (0 : Int) ≤ (i : Int) := by omega
        have i1 : (i : Int) < (n : Int) := by omega
        have j0 : (0 : Int) ≤ (j : Int) := by omega
        have j1 : (j : Int) < (n : Int) := by omega
        go_upto_region 9 with (fail)
        have k0 := cell_regrown r0
        have k1 := cell_regrown r1
        have k2 := cell_regrown p0
        have k3 := cell_regrown p1
        have k4 := cell_regrown p2
        have k5 := cell_regrown q0
        have k6 := cell_regrown q1
        have k7 := cell_regrown q2
        have cM : ∀ d os, Calls Tryd.prog 45 #[vMk x, vMk y, .int .i64 t] (Sort.grow (redrawn w2 d) os) (fun e w'' => e = .returned (.int .i64 (mixedS x y t)) ∧ ∃ p : Regrown, w'' = Sort.grow (redrawn w2 p.d) p.os) := fun d os =>
          Calls.regrown_of (mixed_any x y t _ hxm.1 hxm.2 hym.1 hym.2)
        unfold vMk at cM
        have HCM := Lib.hid cM
        clear cM
        refine wp_region_quiet_below (by kernel_rfl) (by kernel_rfl) ?_
        repeat (quiet_step (exact HCM.out _ _))
        refine wpQuiet_nil ?_
        intro _ hw'
        obtain ⟨⟨dq, osq⟩, hw''⟩ := hw'
        subst hw''
        obtain ⟨W3, hW3⟩ : ∃ W3, W3 = Sort.grow (redrawn w2 dq) osq := ⟨_, rfl⟩
        have hB3 : Below w.heap.size w W3 := by rw [hW3]; exact hB2.trans ((below_regrown w2 dq osq).mono hB2.size)
        rw [← hW3]
        clear hW3 k0 k1 k2 k3 k4 k5 k6 k7
        by_cases h4 : 4 < mixedS x y t
        · have HE := Lib.hid (show apartE t l i j = 11 by unfold apartE; rw [if_neg (by simp [HC.out]), if_neg (by rw [HN.out]; simp [HO.out]), if_neg HNE.out, HX.out.1, HX.out.2, if_pos h4])
          have HV := Lib.hid (show apartV t l i j = 0 by unfold apartV; rw [if_neg (by rw [HE.out]; omega)])
          go_wp2
          go_ret2
          exact ⟨ret_int2 HV.out.symm HE.out.symm, hB3⟩
        · have HE := Lib.hid (show apartE t l i j = 0 by unfold apartE; rw [if_neg (by simp [HC.out]), if_neg (by rw [HN.out]; simp [HO.out]), if_neg HNE.out, HX.out.1, HX.out.2, if_neg h4])
          have HV := Lib.hid (show apartV t l i j = mixedS x y t by unfold apartV; rw [if_pos HE.out, HX.out.1, HX.out.2])
          go_wp2
          go_ret2
          exact ⟨ret_int2 HV.out.symm HE.out.symm, hB3⟩
    · have h1 : (ownerE [a, b] n != 0) = true := by simp [how]
      have hw3 : ownerE [a, b] n = 3 := (ownerE_or _ _).resolve_left how
      have HE := Lib.hid (show apartE t l a b = ownerE [a, b] n by unfold apartE; rw [if_neg (by simp [HC.out]), if_pos (by rw [HN.out]; exact how), hw3])
      have HV := Lib.hid (show apartV t l a b = 0 by unfold apartV; rw [if_neg (by rw [HE.out]; exact how)])
      clear how hw3
      go_wp2_with fail
      refine (owner_any t A n c [a, b] (some ⟨w1.heap.size, 0, none⟩) 2 2 _ (ints2 _ _ _ _) hnm (by decide)).mono ?_
      rintro e w2 ⟨rfl, hb2⟩
      have hB2 : Below w.heap.size w w2 := (bal hB1 (Nat.le_refl _) _).trans (hb2.mono (by simp; omega))
      clear hb2
      go_wp2
      go_ret2
      exact ⟨ret_int2 HV.out.symm HE.out.symm, hB2⟩
  · have h0 : (check t l != 0) = true := by simp [hck]
    have HE := Lib.hid (show apartE t l a b = check t l by unfold apartE; rw [if_pos hck])
    have HV := Lib.hid (show apartV t l a b = 0 by unfold apartV; rw [if_neg (by rw [HE.out]; exact hck)])
    clear hck
    go_wp2
    go_ret2
    exact ⟨ret_int2 HV.out.symm HE.out.symm, hB1⟩
end Go.Proofs.YtoidaigiejilcaaDoor
