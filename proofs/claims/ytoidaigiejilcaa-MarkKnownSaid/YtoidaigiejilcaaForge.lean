/- mark.forge, Forge, Prey. -/
import Derived.Test.YtoidaigiejilcaaShow
import Derived.Test.YtoidaigiejilcaaApart
import Derived.Test.YtoidaigiejilcaaMay
namespace Go.Proofs.Ytoidaigiejilcaa
open Go.RowKit
set_option linter.unusedVariables false
set_option linter.unusedSimpArgs false

/-- how many changes make a mark into another one -/
def forgeS (a b : Mk) : Int :=
  if a = b then 0 else if butI a.n b.n ≠ 0 ∨ (a.b ≠ 0 ∧ a.b ≠ b.b) then -1
  else (popI (butI b.n a.n) : Int) + (if a.b = b.b then 0 else 1) + (if a.p = b.p then 0 else 1)

set_option maxRecDepth 100000 in
set_option maxHeartbeats 2000000 in
theorem forge_any (a b : Mk) (w : World) (ha : 0 ≤ a.n) (ha' : a.n ≤ 255) (hb : 0 ≤ b.n) (hb' : b.n ≤ 255) :
    Calls Try.prog 96 #[vMk a, vMk b] w fun e w' => e = .returned (.int .i64 (forgeS a b)) ∧ Below w.heap.size w w' := by
  obtain ⟨an, ab, ap⟩ := a
  obtain ⟨bn, bb, bp⟩ := b
  dsimp only at ha ha' hb hb'
  obtain ⟨R, hR⟩ : ∃ R, R = forgeS ⟨an, ab, ap⟩ ⟨bn, bb, bp⟩ := ⟨_, rfl⟩
  rw [← hR]
  have HR := Lib.hid hR
  clear hR
  have m0 := butI_lo bn an
  have m1 := butI_hi bn an
  have c1 : (popI (butI bn an) : Int) ≤ 8 := by have := cnt_le (bit (butI bn an)); unfold popI; omega
  have hb2 : Below w.heap.size w ((w.alloc (Obj.cells #[Value.int .i64 an, .int .i64 ab, .int .i64 ap] 46)).alloc (Obj.cells #[Value.int .i64 bn, .int .i64 bb, .int .i64 bp] 46)) := bal (bal0 w _) (Nat.le_refl _) _
  have HB := Lib.hid hb2
  clear hb2
  unfold vMk
  cases e1 : (an == bn) <;> cases e2 : (ab == bb) <;> cases e3 : (ap == bp) <;> cases e4 : (butI an bn != 0) <;> cases e5 : (ab != 0)
  all_goals
    have n2 : (ab != bb) = !(ab == bb) := rfl
    have n3 : (ap != bp) = !(ap == bp) := rfl
    rw [e2] at n2
    rw [e3] at n3
    simp only [Bool.not_true, Bool.not_false] at n2 n3
    have HE := Lib.hid (And.intro e1 (And.intro e2 (And.intro e3 (And.intro e4 e5))))
    go_enter Try.func96, Try.ntmps96
    go_wp2_with (first
      | (go_at_call 88; refine (but_any _ _ _ (by assumption) (by assumption) (by assumption) (by assumption)).mono ?_; rintro e w' ⟨rfl, rfl⟩)
      | (go_at_call 89; refine (count_any _ _ (by assumption) (by assumption)).mono ?_; rintro e w' ⟨rfl, rfl⟩))
    go_ret
    refine ⟨ret_int ?_, HB.out⟩
    obtain ⟨h1, h2, h3, h4, h5⟩ := HE.out
    rw [HR.out]
    unfold forgeS
    simp only [beq_iff_eq, beq_eq_false_iff_ne, bne_iff_ne, ne_eq, bne_eq_false_iff_eq] at h1 h2 h3 h4 h5
    first
      | (simp [h1, h2, h3, h4, h5]; done)
      | (rw [h5] at h2 ⊢; simp [h1, h2, h3, h4]; done)
      | (rw [h1] at h4 ⊢; simp [h2, h3, h4, h5]; done)
      | (rw [h1] at h4 ⊢; rw [h5] at h2 ⊢; simp [h2, h3, h4]; done)

theorem forgeS_lo (a b : Mk) : -1 ≤ forgeS a b ∧ forgeS a b ≤ 10 := by
  unfold forgeS
  have := cnt_le (bit (butI b.n a.n))
  unfold popI
  split
  · omega
  · split
    · omega
    · split <;> split <;> omega
def forgeE (t : Int) (l : List Mk) (a b : Int) : Int :=
  if check t l ≠ 0 then check t l else if ownerE [a, b] l.length ≠ 0 then 3 else if forgeS (mkAt l a) (mkAt l b) < 0 then 11 else 0
def forgeV (t : Int) (l : List Mk) (a b : Int) : Int := if forgeE t l a b = 0 then forgeS (mkAt l a) (mkAt l b) else 0

set_option maxRecDepth 100000 in
set_option maxHeartbeats 2000000 in
theorem Forge_any (t : Int) (A : Option Addr) (n c : Nat) (l : List Mk) (a b : Int) (w : World) (hl : Marks w A n l) (hlc : n ≤ c) (hcm : c ≤ maxLen) :
    Calls Try.prog 51 #[.agg #[.int .i64 t, .slice A n c], .int .i64 a, .int .i64 b] w fun e w' => e = .returned (.tuple #[.int .i64 (forgeV t l a b), .int .i64 (forgeE t l a b)]) ∧ Below w.heap.size w w' := by
  have HL := Lib.hid hl
  have HN := Lib.hid hl.len
  have hnm : n ≤ maxLen := by omega
  clear hl
  go_enter Try.func51, Try.ntmps51
  go_wp2_with fail
  have hbw : Below w.heap.size w (w.alloc (Obj.cells #[Value.int .i64 t, .slice A n c] 25)) := bal0 w _
  refine (check_any t A n c l _ (HL.out.below hbw (Nat.le_refl _)) hlc hcm).mono ?_
  rintro e w1 ⟨rfl, hb1⟩
  have e0 := bheap (show (w.alloc (Obj.cells #[Value.int .i64 t, .slice A n c] 25)).heap[w.heap.size]? = some (Obj.cells #[Value.int .i64 t, .slice A n c] 25 (0, 0)) from alloc_at rfl) hb1 (Nat.le_refl _)
  have hB1 : Below w.heap.size w w1 := hbw.trans (hb1.mono (by simp))
  clear hb1 hbw
  obtain ⟨r0, r1⟩ := blk2 e0
  have z0 := heap_lt e0
  by_cases hck : check t l = 0
  · have h0 : (check t l != 0) = false := by simp [hck]
    have HC := Lib.hid hck
    clear hck
    by_cases how : ownerE [a, b] n = 0
    · have h1 : (ownerE [a, b] n != 0) = false := by simp [how]
      have HO := Lib.hid how
      have hab := ownerE_two.1 how
      clear how
      go_wp2_with fail
      refine (owner_any t A n c [a, b] (some ⟨w1.heap.size, 0, none⟩) 2 2 _ (ints2 _ _ _ _) hnm (by decide)).mono ?_
      rintro e w2 ⟨rfl, hb2⟩
      have e02 := bheap (hblk_alloc e0 (Obj.cells #[Value.int .i64 a, .int .i64 b] 3)) hb2 (Nat.le_refl _)
      have hB2 : Below w.heap.size w w2 := (bal hB1 (Nat.le_refl _) _).trans (hb2.mono (by simp; omega))
      clear hb2 r0 r1
      obtain ⟨r0, r1⟩ := blk2 e02
      obtain ⟨i, rfl⟩ := Int.eq_ofNat_of_zero_le hab.1.1
      obtain ⟨j, rfl⟩ := Int.eq_ofNat_of_zero_le hab.2.1
      have hin : i < n := by omega
      have hjn : j < n := by omega
      obtain ⟨b0, off, x, rfl, hb0, hx, p0, p1, p2⟩ := Marks.get (HL.out.below hB2 (Nat.le_refl _)) hin
      obtain ⟨b1, off1, y, hA, hb1, hy, q0, q1, q2⟩ := Marks.get (HL.out.below hB2 (Nat.le_refl _)) hjn
      obtain ⟨rfl, rfl⟩ : b1 = b0 ∧ off1 = off := by simpa [eq_comm] using hA
      clear hA
      have hxm := (check_marks HC.out x (List.mem_of_getElem? hx)).1
      have hym := (check_marks HC.out y (List.mem_of_getElem? hy)).1
      have HX := Lib.hid (show mkAt l (i : Int) = x ∧ mkAt l (j : Int) = y by unfold mkAt; simp [hx, hy])
      clear hx hy
      have i0 : (0 : Int) ≤ (i : Int) := by omega
      have i1 : (i : Int) < (n : Int) := by omega
      have j0 : (0 : Int) ≤ (j : Int) := by omega
      have j1 : (j : Int) < (n : Int) := by omega
      have hfl := forgeS_lo x y
      go_upto_region 7 with (fail)
      have k0 := cell_regrown r0
      have k1 := cell_regrown r1
      have k2 := cell_regrown p0
      have k3 := cell_regrown p1
      have k4 := cell_regrown p2
      have k5 := cell_regrown q0
      have k6 := cell_regrown q1
      have k7 := cell_regrown q2
      have cM : ∀ d os, Calls Try.prog 96 #[vMk x, vMk y] (Sort.grow (redrawn w2 d) os) (fun e w'' => e = .returned (.int .i64 (forgeS x y)) ∧ ∃ p : Regrown, w'' = Sort.grow (redrawn w2 p.d) p.os) := fun d os =>
        Calls.regrown_of (forge_any x y _ hxm.1 hxm.2 hym.1 hym.2)
      unfold vMk at cM
      have HCM := Lib.hid cM
      clear cM
      refine wp_region_quiet_below (by kernel_rfl) (by kernel_rfl) ?_
      repeat (quiet_step (exact HCM.out _ _))
      refine wpQuiet_nil ?_
      intro _ hw'
      obtain ⟨⟨dq, osq⟩, hw''⟩ := hw'
      subst hw''
      obtain ⟨W3, hW3⟩ : ∃ W3, W3 = Sort.grow (redrawn w2 dq) osq := ⟨_, rfl⟩
      have hB3 : Below w.heap.size w W3 := by rw [hW3]; exact hB2.trans ((below_regrown w2 dq osq).mono hB2.size)
      rw [← hW3]
      clear hW3 k0 k1 k2 k3 k4 k5 k6 k7
      by_cases h4 : forgeS x y < 0
      · have HE := Lib.hid (show forgeE t l i j = 11 by unfold forgeE; rw [if_neg (by simp [HC.out]), if_neg (by rw [HN.out]; simp [HO.out]), HX.out.1, HX.out.2, if_pos h4])
        have HV := Lib.hid (show forgeV t l i j = 0 by unfold forgeV; rw [if_neg (by rw [HE.out]; omega)])
        go_wp2
        go_ret2
        exact ⟨ret_int2 HV.out.symm HE.out.symm, hB3⟩
      · have HE := Lib.hid (show forgeE t l i j = 0 by unfold forgeE; rw [if_neg (by simp [HC.out]), if_neg (by rw [HN.out]; simp [HO.out]), HX.out.1, HX.out.2, if_neg h4])
        have HV := Lib.hid (show forgeV t l i j = forgeS x y by unfold forgeV; rw [if_pos HE.out, HX.out.1, HX.out.2])
        go_wp2
        go_ret2
        exact ⟨ret_int2 HV.out.symm HE.out.symm, hB3⟩
    · have h1 : (ownerE [a, b] n != 0) = true := by simp [how]
      have hw3 : ownerE [a, b] n = 3 := (ownerE_or _ _).resolve_left how
      have HE := Lib.hid (show forgeE t l a b = ownerE [a, b] n by unfold forgeE; rw [if_neg (by simp [HC.out]), if_pos (by rw [HN.out]; exact how), hw3])
      have HV := Lib.hid (show forgeV t l a b = 0 by unfold forgeV; rw [if_neg (by rw [HE.out]; exact how)])
      clear how hw3
      go_wp2_with fail
      refine (owner_any t A n c [a, b] (some ⟨w1.heap.size, 0, none⟩) 2 2 _ (ints2 _ _ _ _) hnm (by decide)).mono ?_
      rintro e w2 ⟨rfl, hb2⟩
      have hB2 : Below w.heap.size w w2 := (bal hB1 (Nat.le_refl _) _).trans (hb2.mono (by simp; omega))
      clear hb2
      go_wp2
      go_ret2
      exact ⟨ret_int2 HV.out.symm HE.out.symm, hB2⟩
  · have h0 : (check t l != 0) = true := by simp [hck]
    have HE := Lib.hid (show forgeE t l a b = check t l by unfold forgeE; rw [if_pos hck])
    have HV := Lib.hid (show forgeV t l a b = 0 by unfold forgeV; rw [if_neg (by rw [HE.out]; exact hck)])
    clear hck
    go_wp2
    go_ret2
    exact ⟨ret_int2 HV.out.symm HE.out.symm, hB1⟩

def preyB (l : List Mk) (o ch : Int) (i : Nat) : Bool := (decide ((i : Int) ≠ o) && decide (0 ≤ forgeS (mkAt l (i : Int)) (mkAt l o))) && decide (forgeS (mkAt l (i : Int)) (mkAt l o) ≤ ch)
def preyTo (l : List Mk) (o ch : Int) (k : Nat) : List Int := ((List.range k).filter (preyB l o ch)).map Int.ofNat
theorem preyTo_succ (l : List Mk) (o ch : Int) (k : Nat) : preyTo l o ch (k + 1) = preyTo l o ch k ++ if preyB l o ch k then [(k : Int)] else [] := by
  unfold preyTo
  rw [List.range_succ, List.filter_append, List.map_append]
  congr 1
  by_cases h : preyB l o ch k <;> simp [List.filter_cons, h]
theorem preyTo_len (l : List Mk) (o ch : Int) (k : Nat) : (preyTo l o ch k).length ≤ k := by
  unfold preyTo
  rw [List.length_map]
  have := List.length_filter_le (preyB l o ch) (List.range k)
  simpa using this
def preyE (t : Int) (l : List Mk) (o ch : Int) : Int := if check t l ≠ 0 then check t l else if ownerE [o] l.length ≠ 0 then 3 else if ch < 0 then 1 else 0
def preyR (t : Int) (l : List Mk) (o ch : Int) : List Int := if preyE t l o ch = 0 then preyTo l o ch l.length else []

set_option maxRecDepth 100000 in
set_option maxHeartbeats 4000000 in
theorem Prey_any (t : Int) (A : Option Addr) (n c : Nat) (l : List Mk) (o ch : Int) (w : World) (hl : Marks w A n l) (hlc : n ≤ c) (hcm : c ≤ maxLen) :
    Calls Try.prog 52 #[.agg #[.int .i64 t, .slice A n c], .int .i64 o, .int .i64 ch] w fun e w' => ∃ v, e = .returned (.tuple #[v, .int .i64 (preyE t l o ch)]) ∧ OwnI w' w.heap.size v (preyR t l o ch) ∧ Below w.heap.size w w' := by
  have HL := Lib.hid hl
  have HN := Lib.hid hl.len
  have hnm : n ≤ maxLen := by omega
  clear hl
  go_enter Try.func52, Try.ntmps52
  go_wp2_with fail
  have hbw : Below w.heap.size w (w.alloc (Obj.cells #[Value.int .i64 t, .slice A n c] 25)) := bal0 w _
  refine (check_any t A n c l _ (HL.out.below hbw (Nat.le_refl _)) hlc hcm).mono ?_
  rintro e w1 ⟨rfl, hb1⟩
  have e0 := bheap (show (w.alloc (Obj.cells #[Value.int .i64 t, .slice A n c] 25)).heap[w.heap.size]? = some (Obj.cells #[Value.int .i64 t, .slice A n c] 25 (0, 0)) from alloc_at rfl) hb1 (Nat.le_refl _)
  have hB1 : Below w.heap.size w w1 := hbw.trans (hb1.mono (by simp))
  clear hb1 hbw
  obtain ⟨r0, r1⟩ := blk2 e0
  have z0 := heap_lt e0
  by_cases hck : check t l = 0
  · have h0 : (check t l != 0) = false := by simp [hck]
    have HC := Lib.hid hck
    have hn5 : n ≤ 5 := by have := (check_ok hck).2.2.1; have := HN.out; omega
    clear hck
    by_cases how : ownerE [o] n = 0
    · have h1 : (ownerE [o] n != 0) = false := by simp [how]
      have HO := Lib.hid how
      have hab := ownerE_one.1 how
      clear how
      go_wp2_with fail
      refine (owner_any t A n c [o] (some ⟨w1.heap.size, 0, none⟩) 1 1 _ (ints1 _ _ _) hnm (by decide)).mono ?_
      rintro e w2 ⟨rfl, hb2⟩
      have e02 := bheap (hblk_alloc e0 (Obj.cells #[Value.int .i64 o] 3)) hb2 (Nat.le_refl _)
      have hB2 : Below w.heap.size w w2 := (bal hB1 (Nat.le_refl _) _).trans (hb2.mono (by simp; omega))
      clear hb2 r0 r1
      obtain ⟨r0, r1⟩ := blk2 e02
      obtain ⟨j, rfl⟩ := Int.eq_ofNat_of_zero_le hab.1
      have hjn : j < n := by omega
      by_cases hch : ch < 0
      · have HE := Lib.hid (show preyE t l j ch = 1 by unfold preyE; rw [if_neg (by simp [HC.out]), if_neg (by rw [HN.out]; simp [HO.out]), if_pos hch])
        go_wp2
        go_ret2
        exact ⟨.slice none 0 0, ret_val HE.out.symm, by unfold preyR; rw [if_neg (by rw [HE.out]; omega)]; exact Own.nil_, hB2⟩
      · have HE := Lib.hid (show preyE t l j ch = 0 by unfold preyE; rw [if_neg (by simp [HC.out]), if_neg (by rw [HN.out]; simp [HO.out]), if_neg hch])
        go_wp2_with fail
        have HB := Lib.hid (And.intro e02 hB2)
        have hz2 := hB2.size
        clear e02
        go_loopg [10, 32] n (fun g v i wr => ∃ k : Nat, k + g = n ∧ i = .int .i64 k ∧ OwnI wr w2.heap.size v (preyTo l j ch k) ∧ Below w2.heap.size w2 wr)
        case atStart => exact ⟨0, by omega, rfl, Own.nil_, Below.refl _ _⟩
        case round =>
          obtain ⟨k, hk, rfl, hown, hbl⟩ := hrel
          have HK := Lib.hid (And.intro hk hown)
          have hkn : k ≤ n := by omega
          clear hk hown
          have hs0 := hbl.size
          by_cases hlt : k < n
          · obtain ⟨b, off, x, rfl, hb, hx, c0, c1, c2⟩ := Marks.get ((HL.out.below HB.out.2 (Nat.le_refl _)).below hbl (Nat.le_refl _)) hlt
            have hxv := (check_marks HC.out x (List.mem_of_getElem? hx)).1
            have HX := Lib.hid (show mkAt l (k : Int) = x by unfold mkAt; simp [hx])
            clear hx
            have i0 : (0 : Int) ≤ (k : Int) := by omega
            have i1 : (k : Int) < (n : Int) := by omega
            go_upto_region 13 with (fail)
            obtain ⟨W2, hW2⟩ : ∃ W2, W2 = wr.alloc (Obj.cells #[Value.int .i64 x.n, .int .i64 x.b, .int .i64 x.p] 46) := ⟨_, rfl⟩
            rw [← hW2]
            have m2 : W2.heap[wr.heap.size]? = some (Obj.cells #[Value.int .i64 x.n, .int .i64 x.b, .int .i64 x.p] 46 (0, 0)) := by rw [hW2]; exact alloc_at rfl
            have hb2 : Below wr.heap.size wr W2 := by rw [hW2]; exact bal0 wr _
            clear hW2 c0 c1 c2 r0 r1
            have hB2' := hbl.trans (hb2.mono hbl.size)
            have hown2 := HK.out.2.below hb2 (Nat.le_refl _)
            obtain ⟨b', off', y, hA, hb', hy, d0, d1, d2⟩ := Marks.get ((HL.out.below HB.out.2 (Nat.le_refl _)).below hB2' (Nat.le_refl _)) hjn
            obtain ⟨rfl, rfl⟩ : b' = b ∧ off' = off := by simpa [eq_comm] using hA
            have HY := Lib.hid (show mkAt l (j : Int) = y by unfold mkAt; simp [hy])
            have hyv := (check_marks HC.out y (List.mem_of_getElem? hy)).1
            clear hy hA
            obtain ⟨r0, r1⟩ := blk2 (bheap HB.out.1 hB2' (Nat.le_refl _))
            obtain ⟨p0, p1, p2⟩ := blk3 m2
            have j0 : (0 : Int) ≤ (j : Int) := by omega
            have j1 : (j : Int) < (n : Int) := by omega
            obtain ⟨F, hF⟩ : ∃ F, F = forgeS x y := ⟨_, rfl⟩
            have hfl := forgeS_lo x y
            have cM : ∀ d os, Calls Try.prog 96 #[vMk x, vMk y] (Sort.grow (redrawn W2 d) os) (fun e w'' => e = .returned (.int .i64 (forgeS x y)) ∧ ∃ p : Regrown, w'' = Sort.grow (redrawn W2 p.d) p.os) := fun d os =>
              Calls.regrown_of (forge_any x y _ hxv.1 hxv.2 hyv.1 hyv.2)
            rw [← hF] at cM hfl
            unfold vMk at cM
            have HCM := Lib.hid cM
            have HS := Lib.hid (preyTo_succ l (j : Int) ch k)
            have HP := Lib.hid (show preyB l (j : Int) ch k = ((decide ((k : Int) ≠ (j : Int)) && decide (0 ≤ F)) && decide (F ≤ ch)) by unfold preyB; rw [HX.out, HY.out, ← hF])
            clear cM hF
            have k0 := cell_regrown r0
            have k1 := cell_regrown r1
            have k2 := cell_regrown p0
            have k3 := cell_regrown p1
            have k4 := cell_regrown p2
            have k5 := cell_regrown d0
            have k6 := cell_regrown d1
            have k7 := cell_regrown d2
            refine wp_region_quiet_below (by kernel_rfl) (by kernel_rfl) ?_
            repeat (quiet_step (exact HCM.out _ _))
            refine wpQuiet_nil ?_
            intro _ hw'
            obtain ⟨⟨dq, osq⟩, hw''⟩ := hw'
            subst hw''
            obtain ⟨W3, hW3⟩ : ∃ W3, W3 = Sort.grow (redrawn W2 dq) osq := ⟨_, rfl⟩
            have hb3 : Below W2.heap.size W2 W3 := by rw [hW3]; exact below_regrown W2 dq osq
            rw [← hW3]
            have hbl3 := hB2'.trans (hb3.mono hB2'.size)
            have hs3 := hbl3.size
            have HO3 := Lib.hid (hown2.below hb3 (Nat.le_refl _))
            have hlen := preyTo_len l (j : Int) ch k
            clear hW3 k0 k1 k2 k3 k4 k5 k6 k7 p0 p1 p2 d0 d1 d2 hb3 hown2 m2
            cases e1 : ((k : Int) != (j : Int)) <;> cases e2 : decide (0 ≤ F) <;> cases e3 : decide (F ≤ ch)
            all_goals
              have HEE := Lib.hid (And.intro e1 (And.intro e2 e3))
              have e2' := decide_eq_decide.1 (show decide (0 ≤ F) = decide (0 ≤ F) from rfl)
              clear e2'
              go_wp2_with (at_builtin; refine wp_app okInt rfl (.tmp 56) (.tmp 58) rfl w2.heap.size _ (preyTo l (j : Int) ch k) (k : Int) _ rfl rfl rfl rfl (one_eInt _) HO3.out ?_ ?_ ?_ ?_; (omega); (omega); (omega); intro v' w4 hown4 hb4 _ hz4; have HO4 := Lib.hid hown4; clear hown4)
              go_roundg (gk - 1)
              case measure => have := HK.out.1; omega
              case rel =>
                obtain ⟨f1, f2, f3⟩ := HEE.out
                have f1' : decide ((k : Int) ≠ (j : Int)) = ((k : Int) != (j : Int)) := by rw [Bool.eq_iff_iff]; simp [bne]
                have hP := HP.out
                rw [f1', f1, f2, f3] at hP
                first
                  | exact ⟨k + 1, by have := HK.out.1; omega, by go_num, by rw [HS.out, hP]; exact HO4.out, hbl3.trans hb4⟩
                  | exact ⟨k + 1, by have := HK.out.1; omega, by go_num, by rw [HS.out, hP]; simpa using HO3.out, hbl3⟩
          · obtain rfl : k = n := by omega
            go_wp2
            go_ret2
            exact ⟨_, ret_val HE.out.symm, by unfold preyR; rw [if_pos HE.out, HN.out]; exact HK.out.2.mono hz2, HB.out.2.trans (hbl.mono HB.out.2.size)⟩
    · have h1 : (ownerE [o] n != 0) = true := by simp [how]
      have hw3 : ownerE [o] n = 3 := (ownerE_or _ _).resolve_left how
      have HE := Lib.hid (show preyE t l o ch = ownerE [o] n by unfold preyE; rw [if_neg (by simp [HC.out]), if_pos (by rw [HN.out]; exact how), hw3])
      have HO := Lib.hid how
      clear how hw3
      go_wp2_with fail
      refine (owner_any t A n c [o] (some ⟨w1.heap.size, 0, none⟩) 1 1 _ (ints1 _ _ _) hnm (by decide)).mono ?_
      rintro e w2 ⟨rfl, hb2⟩
      have hB2 : Below w.heap.size w w2 := (bal hB1 (Nat.le_refl _) _).trans (hb2.mono (by simp; omega))
      clear hb2
      go_wp2
      go_ret2
      exact ⟨.slice none 0 0, ret_val HE.out.symm, by unfold preyR; rw [if_neg (by rw [HE.out]; exact HO.out)]; exact Own.nil_, hB2⟩
  · have h0 : (check t l != 0) = true := by simp [hck]
    have HE := Lib.hid (show preyE t l o ch = check t l by unfold preyE; rw [if_pos hck])
    have HC := Lib.hid hck
    clear hck
    go_wp2
    go_ret2
    exact ⟨.slice none 0 0, ret_val HE.out.symm, by unfold preyR; rw [if_neg (by rw [HE.out]; exact HC.out)]; exact Own.nil_, hB1⟩
end Go.Proofs.Ytoidaigiejilcaa
