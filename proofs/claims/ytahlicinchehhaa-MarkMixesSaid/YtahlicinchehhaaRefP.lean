/- mestaref03: Apart, Mistaken. -/
import Derived.Test.YtahlicinchehhaaPairC
import Derived.Test.YtahlicinchehhaaMista
namespace Go.Proofs.Ytahlicinchehhaa
open Go.RowKit
set_option linter.unusedVariables false
set_option linter.unusedSimpArgs false

theorem ownerE_two_btw {a b : Int} {n : Nat} : ownerE [a, b] n = if btw a 0 ((n : Int) - 1) && btw b 0 ((n : Int) - 1) then 0 else 3 := by
  unfold ownerE; simp

set_option maxRecDepth 100000 in
set_option maxHeartbeats 4000000 in
theorem rApart (t : Int) (A : Option Addr) (n c : Nat) (l : List Mk) (a b : Int) (w : World) (hl : Marks w A n l) (hlc : n ≤ c) (hcm : c ≤ maxLen) :
    Calls Try.prog 36 #[.agg #[.int .i64 t, .slice A n c], .int .i64 a, .int .i64 b] w fun e w' => e = .returned (.tuple #[.int .i64 (apartV t l a b), .int .i64 (apartE t l a b)]) ∧ Below w.heap.size w w' := by
  have HL := Lib.hid hl
  have HN := Lib.hid hl.len
  have hnm : n ≤ maxLen := by omega
  clear hl
  go_enter Try.func36, Try.ntmps36
  go_wp2_with fail
  have hbw : Below w.heap.size w (w.alloc (Obj.cells #[Value.int .i64 t, .slice A n c] 24)) := bal0 w _
  refine (rCheck t A n c l _ (HL.out.below hbw (Nat.le_refl _)) hlc hcm).mono ?_
  rintro e w1 ⟨rfl, hb1⟩
  have e0 := bheap (show (w.alloc (Obj.cells #[Value.int .i64 t, .slice A n c] 24)).heap[w.heap.size]? = some (Obj.cells #[Value.int .i64 t, .slice A n c] 24 (0, 0)) from alloc_at rfl) hb1 (Nat.le_refl _)
  have hB1 : Below w.heap.size w w1 := hbw.trans (hb1.mono (by simp))
  clear hb1 hbw
  obtain ⟨r0, r1⟩ := blk2 e0
  have z0 := heap_lt e0
  by_cases hck : check t l = 0
  · have h0 : (check t l != 0) = false := by simp [hck]
    have HC := Lib.hid hck
    clear hck
    cases hoa : btw a 0 ((n : Int) - 1)
    · have HO := Lib.hid hoa
      have HE := Lib.hid (show apartE t l a b = 3 by unfold apartE; rw [if_neg (by simp [HC.out]), if_pos (by rw [HN.out, ownerE_two_btw, hoa]; simp)])
      have HV := Lib.hid (show apartV t l a b = 0 by unfold apartV; rw [if_neg (by rw [HE.out]; omega)])
      have HI := Lib.hid (fun w => hoa ▸ rIsOwner t A n c a w hnm)
      clear hoa
      go_wp2_with fail
      refine (HI.out _).mono ?_
      rintro e w2 ⟨rfl, hb2⟩
      have hB2 := hB1.trans (hb2.mono hB1.size)
      clear hb2
      go_wp2
      go_ret2
      exact ⟨ret_int2 HV.out.symm HE.out.symm, hB2⟩
    · have HI := Lib.hid (fun w => hoa ▸ rIsOwner t A n c a w hnm)
      have HO := Lib.hid hoa
      clear hoa
      go_wp2_with fail
      refine (HI.out _).mono ?_
      rintro e w2 ⟨rfl, hb2⟩
      have hB2 := hB1.trans (hb2.mono hB1.size)
      have e02 := bheap e0 hb2 (Nat.le_refl _)
      clear hb2 r0 r1
      obtain ⟨r0, r1⟩ := blk2 e02
      cases hob : btw b 0 ((n : Int) - 1)
      · have HE := Lib.hid (show apartE t l a b = 3 by unfold apartE; rw [if_neg (by simp [HC.out]), if_pos (by rw [HN.out, ownerE_two_btw, hob]; simp)])
        have HV := Lib.hid (show apartV t l a b = 0 by unfold apartV; rw [if_neg (by rw [HE.out]; omega)])
        have HI2 := Lib.hid (fun w => hob ▸ rIsOwner t A n c b w hnm)
        clear hob
        go_wp2_with fail
        refine (HI2.out _).mono ?_
        rintro e w3 ⟨rfl, hb3⟩
        have hB3 := hB2.trans (hb3.mono hB2.size)
        clear hb3
        go_wp2
        go_ret2
        exact ⟨ret_int2 HV.out.symm HE.out.symm, hB3⟩
      · have HI2 := Lib.hid (fun w => hob ▸ rIsOwner t A n c b w hnm)
        have HO2 := Lib.hid (show ownerE [a, b] n = 0 by rw [ownerE_two_btw, HO.out, hob]; rfl)
        have hab := ownerE_two.1 HO2.out
        clear hob
        go_wp2_with fail
        refine (HI2.out _).mono ?_
        rintro e w3 ⟨rfl, hb3⟩
        have hB3 := hB2.trans (hb3.mono hB2.size)
        have e03 := bheap e02 hb3 (Nat.le_refl _)
        clear hb3 r0 r1 e02 e0
        by_cases hne : a = b
        · have h2 : (a == b) = true := by simpa using hne
          have HE := Lib.hid (show apartE t l a b = 4 by unfold apartE; rw [if_neg (by simp [HC.out]), if_neg (by rw [HN.out]; simp [HO2.out]), if_pos hne])
          have HV := Lib.hid (show apartV t l a b = 0 by unfold apartV; rw [if_neg (by rw [HE.out]; omega)])
          clear hne
          go_wp2
          go_ret2
          exact ⟨ret_int2 HV.out.symm HE.out.symm, hB3⟩
        · have h2 : (a == b) = false := by simpa using hne
          have HNE := Lib.hid hne
          clear hne
          obtain ⟨i, rfl⟩ := Int.eq_ofNat_of_zero_le hab.1.1
          obtain ⟨j, rfl⟩ := Int.eq_ofNat_of_zero_le hab.2.1
          have hin : i < n := by omega
          have hjn : j < n := by omega
          have i0 : (0 : Int) ≤ (i : Int) := by omega
          have i1 : (i : Int) < (n : Int) := by omega
          have j0 : (0 : Int) ≤ (j : Int) := by omega
          have j1 : (j : Int) < (n : Int) := by omega
          obtain ⟨x, hx⟩ : ∃ x, l[i]? = some x := ⟨_, List.getElem?_eq_getElem (by rw [HN.out]; exact hin)⟩
          obtain ⟨y, hy⟩ : ∃ y, l[j]? = some y := ⟨_, List.getElem?_eq_getElem (by rw [HN.out]; exact hjn)⟩
          have hxm := (check_marks HC.out x (List.mem_of_getElem? hx)).1
          have hym := (check_marks HC.out y (List.mem_of_getElem? hy)).1
          have HXY := Lib.hid (And.intro hx hy)
          have HX := Lib.hid (show mkAt l (i : Int) = x ∧ mkAt l (j : Int) = y by unfold mkAt; simp [hx, hy])
          obtain ⟨M, hM⟩ : ∃ M, M = mixedS x y t := ⟨_, rfl⟩
          have hml := mixedS_lo x y t
          rw [← hM] at hml
          have HM := Lib.hid hM
          have HB := Lib.hid (And.intro e03 hB3)
          have hs3 := heap_lt e03
          clear hx hy hM e03 hB3 hB2 hB1
          go_wp2_with fail
          go_loopg [9] 5 (fun g i wr => ∃ k : Nat, k + g = 5 ∧ i = .int .i64 k ∧ (k : Int) ≤ M ∧ Below w3.heap.size w3 wr)
          case atStart => exact ⟨0, by omega, rfl, by omega, Below.refl _ _⟩
          case round =>
            obtain ⟨k, hk, rfl, hkM, hbl⟩ := hrel
            have HK := Lib.hid (And.intro hk hkM)
            have hk5 : k ≤ 5 := by omega
            clear hk hkM
            by_cases hlt : k ≤ 4
            · have hlt' : (k : Int) ≤ 4 := by omega
              have hlw := HL.out.below (HB.out.2.trans (hbl.mono HB.out.2.size)) (Nat.le_refl _)
              obtain ⟨b0, off, x', rfl, hb0, hx, p0, p1, p2⟩ := Marks.get hlw hin
              obtain ⟨b1, off1, y', hA, hb1, hy, q0, q1, q2⟩ := Marks.get hlw hjn
              obtain ⟨rfl, rfl⟩ : b1 = b0 ∧ off1 = off := by simpa [eq_comm] using hA
              obtain rfl : x = x' := Option.some.inj (HXY.out.1.symm.trans hx)
              obtain rfl : y = y' := Option.some.inj (HXY.out.2.symm.trans hy)
              clear hA hx hy hlw
              obtain ⟨r0, r1⟩ := blk2 (bheap HB.out.1 hbl (Nat.le_refl _))
              have cM : ∀ d os, Calls Try.prog 82 #[vMk x, vMk y, .int .i64 k, .int .i64 t] (Sort.grow (redrawn wr d) os) (fun e w'' => e = .returned (.bool (decide (M ≤ (k : Int)))) ∧ ∃ p : Regrown, w'' = Sort.grow (redrawn wr p.d) p.os) := fun d os => by
                have h := rMixed x y k t (Sort.grow (redrawn wr d) os) hxm.1 hxm.2 hym.1 hym.2 hlt'
                rw [← HM.out] at h
                exact Calls.regrown_of h
              unfold vMk at cM
              cases hmk : decide (M ≤ (k : Int))
              all_goals
                rw [hmk] at cM
                have HMK := Lib.hid hmk
                have HCM := Lib.hid cM
                clear cM hmk
                go_upto_region 11 with (fail)
                have k0 := cell_regrown r0
                have k1 := cell_regrown r1
                have k2 := cell_regrown p0
                have k3 := cell_regrown p1
                have k4 := cell_regrown p2
                have k5 := cell_regrown q0
                have k6 := cell_regrown q1
                have k7 := cell_regrown q2
                refine wp_region_quiet_below (by kernel_rfl) (by kernel_rfl) ?_
                repeat (quiet_step (exact HCM.out _ _))
                refine wpQuiet_nil ?_
                intro _ hw'
                obtain ⟨⟨dq, osq⟩, hw''⟩ := hw'
                subst hw''
                obtain ⟨W4, hW3⟩ : ∃ W4, W4 = Sort.grow (redrawn wr dq) osq := ⟨_, rfl⟩
                have hb4 : Below wr.heap.size wr W4 := by rw [hW3]; exact below_regrown wr dq osq
                have hbl4 := hbl.trans (hb4.mono hbl.size)
                rw [← hW3]
                clear hW3 k0 k1 k2 k3 k4 k5 k6 k7
                go_wp2
              · go_roundg (gk - 1)
                case measure => have := HK.out.1; omega
                case rel => exact ⟨k + 1, by have := HK.out.1; omega, by go_num, by have := HMK.out; simp at this; omega, hbl4⟩
              · go_ret2
                have hMk : M = (k : Int) := by have := HMK.out; have h2 := HK.out.2; simp at this; omega
                have hE : apartE t l i j = 0 := by unfold apartE; rw [if_neg (by simp [HC.out]), if_neg (by rw [HN.out]; simp [HO2.out]), if_neg HNE.out, HX.out.1, HX.out.2, ← HM.out, if_neg (by omega)]
                have hV : apartV t l i j = k := by unfold apartV; rw [if_pos hE, HX.out.1, HX.out.2, ← HM.out]; exact hMk
                exact ⟨ret_int2 hV.symm hE.symm, HB.out.2.trans (hbl4.mono HB.out.2.size)⟩
            · obtain rfl : k = 5 := by omega
              go_wp2
              go_ret2
              have hE : apartE t l i j = 11 := by unfold apartE; rw [if_neg (by simp [HC.out]), if_neg (by rw [HN.out]; simp [HO2.out]), if_neg HNE.out, HX.out.1, HX.out.2, ← HM.out, if_pos (by have := HK.out.2; omega)]
              have hV : apartV t l i j = 0 := by unfold apartV; rw [if_neg (by rw [hE]; omega)]
              exact ⟨ret_int2 hV.symm hE.symm, HB.out.2.trans (hbl.mono HB.out.2.size)⟩
  · have h0 : (check t l != 0) = true := by simp [hck]
    have HE := Lib.hid (show apartE t l a b = check t l by unfold apartE; rw [if_pos hck])
    have HV := Lib.hid (show apartV t l a b = 0 by unfold apartV; rw [if_neg (by rw [HE.out]; exact hck)])
    clear hck
    go_wp2
    go_ret2
    exact ⟨ret_int2 HV.out.symm HE.out.symm, hB1⟩
set_option maxRecDepth 100000 in
set_option maxHeartbeats 4000000 in
theorem rMistaken (t : Int) (A : Option Addr) (n c : Nat) (l : List Mk) (los : Int) (w : World) (hl : Marks w A n l) (hlc : n ≤ c) (hcm : c ≤ maxLen) :
    Calls Try.prog 38 #[.agg #[.int .i64 t, .slice A n c], .int .i64 los] w fun e w' => ∃ v, e = .returned (.tuple #[v, .int .i64 (mistE t l los)]) ∧ OwnG w' w.heap.size v (mistR t l los) ∧ Below w.heap.size w w' := by
  have HL := Lib.hid hl
  have HN := Lib.hid hl.len
  obtain ⟨W0, hW⟩ : ∃ W0, W0 = w.alloc (Obj.cells #[Value.int .i64 t, .slice A n c] 24) := ⟨_, rfl⟩
  have hB0 : Below w.heap.size w W0 := by rw [hW]; exact bal0 w _
  have b2 : W0.heap[w.heap.size]? = some (Obj.cells #[Value.int .i64 t, .slice A n c] 24 (0, 0)) := by rw [hW]; exact alloc_at rfl
  have hl0 := hl.below hB0 (Nat.le_refl _)
  clear hl
  go_enter Try.func38, Try.ntmps38
  go_upto_region 1 with (fail)
  rw [← hW]
  clear hW
  obtain ⟨r0, r1⟩ := blk2 b2
  go_wp2_with fail
  refine (rCheck t A n c l _ hl0 hlc hcm).mono ?_
  rintro e w1 ⟨rfl, hb1⟩
  have hB1 := hB0.trans (hb1.mono hB0.size)
  have b21 := bheap b2 hb1 (Nat.le_refl _)
  clear r0 r1 b2 hB0 hb1 hl0
  obtain ⟨r0, r1⟩ := blk2 b21
  by_cases hck : check t l = 0
  · have h0 : (check t l != 0) = false := by simp [hck]
    have HC := Lib.hid hck
    have hn5 : n ≤ 5 := by have := (check_ok hck).2.2.1; have := HN.out; omega
    clear hck
    go_wp2_with fail
    refine (rWithin _ _ _ _).mono ?_
    rintro e w2 ⟨rfl, rfl⟩
    cases hbt : btw los 0 4
    · have HE := Lib.hid (show mistE t l los = 1 by unfold mistE; rw [if_neg (by simp [HC.out]), if_pos hbt])
      go_wp2
      go_ret2
      exact ⟨.slice none 0 0, ret_val HE.out.symm, by unfold mistR; rw [if_neg (by rw [HE.out]; omega)]; exact OwnG.nil_, hB1⟩
    · have hlos : los ≤ 4 := (btw_iff.1 hbt).2
      have HE := Lib.hid (show mistE t l los = 0 by unfold mistE; rw [if_neg (by simp [HC.out]), if_neg (by simp [hbt])])
      clear hbt
      go_wp2_with fail
      have HB := Lib.hid (And.intro b21 hB1)
      have hs1 : w.heap.size < w1.heap.size := heap_lt b21
      clear b21 hB1 h0
      go_loopg [7, 8] n (fun g v i wr => ∃ k : Nat, k + g = n ∧ i = .int .i64 k ∧ OwnG wr w1.heap.size v (mistTo l t los k) ∧ Below w1.heap.size w1 wr)
      case atStart => exact ⟨0, by omega, rfl, OwnG.nil_, Below.refl _ _⟩
      case round =>
        obtain ⟨k, hk, rfl, hown, hbl⟩ := hrel
        obtain ⟨wo, rfl⟩ : ∃ wo : World, wo = wr := ⟨_, rfl⟩
        obtain ⟨g1, rfl⟩ : ∃ g1 : Nat, g1 = gk := ⟨_, rfl⟩
        have HK := Lib.hid (And.intro hk hown)
        have hkn : k ≤ n := by omega
        clear hk hown
        have hs0 := hbl.size
        clear r0 r1
        obtain ⟨r0, r1⟩ := blk2 (bheap HB.out.1 hbl (Nat.le_refl _))
        by_cases hlt : k < n
        · obtain ⟨x, hx⟩ : ∃ x, l[k]? = some x := ⟨_, List.getElem?_eq_getElem (by rw [HN.out]; exact hlt)⟩
          have HX := Lib.hid hx
          have hxv := (check_marks HC.out x (List.mem_of_getElem? hx)).1
          clear hx
          have i0 : (0 : Int) ≤ (k : Int) := by omega
          have i1 : (k : Int) < (n : Int) := by omega
          go_wp2_with fail
          have HM := Lib.hid (And.intro hbl HK.out.2)
          clear r0 r1
          go_loopg [7, 9] (n - (k + 1)) (fun g v j wr => ∃ q : Nat, q + g = n ∧ k < q ∧ j = .int .i64 q ∧ OwnG wr w1.heap.size v (mistTo l t los k ++ mistRow l t los k q) ∧ Below w1.heap.size w1 wr)
          case atStart => exact ⟨k + 1, by have := HK.out.1; omega, by omega, by go_num, by rw [mistRow_start, List.append_nil]; exact HM.out.2, HM.out.1⟩
          case round =>
            obtain ⟨q, hq, hkq, rfl, hown, hBi⟩ := hrel
            have HQ := Lib.hid (And.intro hq hown)
            have hqn : q ≤ n := by omega
            clear hq hown
            obtain ⟨r0, r1⟩ := blk2 (bheap HB.out.1 hBi (Nat.le_refl _))
            by_cases hqk : q < n
            · have hlw := (HL.out.below HB.out.2 (Nat.le_refl _)).below hBi (Nat.le_refl _)
              obtain ⟨b, off, x', rfl, hb, hx, p0, p1, p2⟩ := Marks.get hlw hlt
              obtain ⟨b', off', y, hA, hb', hy, d0, d1, d2⟩ := Marks.get hlw hqk
              obtain ⟨rfl, rfl⟩ : b' = b ∧ off' = off := by simpa [eq_comm] using hA
              obtain rfl : x = x' := Option.some.inj (HX.out.symm.trans hx)
              have HY := Lib.hid (mixAt_of (t := t) HX.out hy)
              have hyv := (check_marks HC.out y (List.mem_of_getElem? hy)).1
              clear hy hA hx hlw
              have j0 : (0 : Int) ≤ (q : Int) := by omega
              have j1 : (q : Int) < (n : Int) := by omega
              have cM : ∀ d os, Calls Try.prog 82 #[vMk x, vMk y, .int .i64 los, .int .i64 t] (Sort.grow (redrawn wr d) os) (fun e w'' => e = .returned (.bool (decide (mixedS x y t ≤ los))) ∧ ∃ p : Regrown, w'' = Sort.grow (redrawn wr p.d) p.os) := fun d os =>
                Calls.regrown_of (rMixed x y los t _ hxv.1 hxv.2 hyv.1 hyv.2 hlos)
              unfold vMk at cM
              have HCM := Lib.hid cM
              clear cM
              go_upto_region 13 with (fail)
              have k0 := cell_regrown p0
              have k1 := cell_regrown p1
              have k2 := cell_regrown p2
              have k3 := cell_regrown r0
              have k4 := cell_regrown r1
              have k5 := cell_regrown d0
              have k6 := cell_regrown d1
              have k7 := cell_regrown d2
              refine wp_region_quiet_below (by kernel_rfl) (by kernel_rfl) ?_
              repeat (quiet_step (exact HCM.out _ _))
              refine wpQuiet_nil ?_
              intro _ hw'
              obtain ⟨⟨dq, osq⟩, hw''⟩ := hw'
              subst hw''
              obtain ⟨W3, hW3⟩ : ∃ W3, W3 = Sort.grow (redrawn wr dq) osq := ⟨_, rfl⟩
              have hb3 : Below wr.heap.size wr W3 := by rw [hW3]; exact below_regrown wr dq osq
              rw [← hW3]
              have hbi3 := hBi.trans (hb3.mono hBi.size)
              have hs3 := hbi3.size
              have HO3 := Lib.hid (HQ.out.2.below hb3 (Nat.le_refl _))
              have hlen : (mistTo l t los k ++ mistRow l t los k q).length < 4294967296 := by
                have h1 := mistTo_len l t los k
                have h2 := mistRow_len l t los k q
                have h3 : k * l.length ≤ 5 * 5 := Nat.mul_le_mul (by omega) (by have := HN.out; omega)
                rw [List.length_append]; omega
              clear hW3 k0 k1 k2 k3 k4 k5 k6 k7 p0 p1 p2 d0 d1 d2 hb3
              by_cases hml : mixedS x y t ≤ los
              · have HL2 := Lib.hid hml
                rw [decide_eq_true hml]
                clear hml
                go_wp2_with (at_builtin; refine wp_app_row rfl (.tmp 48) (.tmp 52) rfl w1.heap.size _ _ (mistTo l t los k ++ mistRow l t los k q) [(k : Int), (q : Int)] rfl ?_ ((HO3.out).below (bal0 _ _) (Nat.le_refl _)) (own_pair _ _ _ _ (by omega)) hlen ?_ ?_)
                · simp [go_sem]
                · simp; omega
                intro v4 w4 ho4 hb4 hk4
                have HO4 := Lib.hid ho4
                have hb4' := (hbi3.trans ((bal0 W3 _).mono hs3)).trans hb4
                clear ho4 hk4
                go_wp2
                go_roundg (gk - 1)
                case measure => have := HQ.out.1; omega
                case rel => exact ⟨q + 1, by have := HQ.out.1; omega, by omega, by go_num, by rw [mistRow_succ _ _ _ hkq, if_pos (by rw [HY.out]; exact HL2.out)]; simpa [List.append_assoc] using HO4.out, hb4'⟩
              · have HL2 := Lib.hid hml
                rw [decide_eq_false hml]
                clear hml
                go_wp2
                go_roundg (gk - 1)
                case measure => have := HQ.out.1; omega
                case rel => exact ⟨q + 1, by have := HQ.out.1; omega, by omega, by go_num, by rw [mistRow_succ _ _ _ hkq, if_neg (by rw [HY.out]; have := HL2.out; omega), List.append_nil]; exact HO3.out, hbi3⟩
            · obtain rfl : q = n := by omega
              go_wp2
              go_roundg (g1 - 1)
              case measure => have := HK.out.1; omega
              case rel => exact ⟨k + 1, by have := HK.out.1; omega, by go_num, by rw [mistTo_succ, HN.out]; exact HQ.out.2, hBi⟩
        · obtain rfl : k = n := by omega
          go_wp2
          go_ret2
          exact ⟨_, ret_val HE.out.symm, by unfold mistR mistL; rw [if_pos HE.out, HN.out]; exact HK.out.2.mono HB.out.2.size, HB.out.2.trans (hbl.mono HB.out.2.size)⟩
  · have h0 : (check t l != 0) = true := by simp [hck]
    have HE := Lib.hid (show mistE t l los = check t l by unfold mistE; rw [if_pos hck])
    have HC := Lib.hid hck
    clear hck
    go_wp2
    go_ret2
    exact ⟨.slice none 0 0, ret_val HE.out.symm, by unfold mistR; rw [if_neg (by rw [HE.out]; exact HC.out)]; exact OwnG.nil_, hB1⟩
end Go.Proofs.Ytahlicinchehhaa
