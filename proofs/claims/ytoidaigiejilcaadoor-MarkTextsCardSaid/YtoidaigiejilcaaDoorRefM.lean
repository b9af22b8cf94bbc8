/- mestaref03.toMark: the mark that a line is. -/
import Derived.Test.YtoidaigiejilcaaDoorRefT
import Derived.Test.YtoidaigiejilcaaDoorMarkRd
namespace Go.Proofs.YtoidaigiejilcaaDoor
open Go.RowKit
set_option linter.unusedVariables false
set_option linter.unusedSimpArgs false

theorem getB {s : ByteArray} {i : Nat} (h : i < s.size) : s.data.toList.getD i 0 = s[i]'h := by
  have hl := Lib.size_eq s
  rw [List.getD_eq_getElem?_getD, List.getElem?_eq_getElem (by omega)]
  simp [ByteArray.getElem_eq_getElem_data]
theorem ext2 {s : ByteArray} {i : Nat} (h : i + 2 ≤ s.size) (a b : UInt8) : (s.extract i (i + 2)).toList = [a, b] ↔ s.data.toList.getD i 0 = a ∧ s.data.toList.getD (i + 1) 0 = b := by
  have hl := Lib.size_eq s
  have e : (s.extract i (i + 2)).toList = [s.data.toList.getD i 0, s.data.toList.getD (i + 1) 0] := by
    rw [Lib.toList_data, Lib.extract_data, show i + 2 - i = 1 + 1 by omega]
    rw [List.drop_eq_getElem_cons (by omega), List.take_succ_cons, List.drop_eq_getElem_cons (by omega), List.take_succ_cons, List.take_zero]
    rw [List.getD_eq_getElem?_getD, List.getD_eq_getElem?_getD, List.getElem?_eq_getElem (by omega), List.getElem?_eq_getElem (by omega)]
    rfl
  rw [e]
  constructor
  · intro h; injection h with h1 h2; injection h2 with h2 _; exact ⟨h1, h2⟩
  · rintro ⟨h1, h2⟩; rw [h1, h2]
theorem digI_ge {c : UInt8} : digI c < 0 ↔ isDg c = false := by
  unfold digI
  cases h : isDg c with
  | true => rw [if_pos rfl]; have := dgI_lo h; constructor <;> intro h <;> first | omega | cases h
  | false => simp
theorem digI_yes {c : UInt8} (h : isDg c = true) : digI c = dgI c := by unfold digI; rw [if_pos h]
theorem markL_no {s : List UInt8} (h : ¬ (s.length = 15 ∧ s.getD 4 0 = 47 ∧ s.getD 9 0 = 32 ∧ s.getD 10 0 = 98 ∧ s.getD 12 0 = 32 ∧ s.getD 13 0 = 112 ∧ isDg (s.getD 11 0) = true ∧ isDg (s.getD 14 0) = true ∧ (plsOf s).all isPl = true)) : markL s = none := by
  unfold markL; rw [if_neg h]

set_option maxRecDepth 100000 in
set_option maxHeartbeats 2000000 in
theorem rToMark (s : ByteArray) (w : World) :
    Calls Tryd.prog 36 #[.string s] w fun e w' => MarkOut (markL s.data.toList) e ∧ Below w.heap.size w w' := by
  have hl := Lib.size_eq s
  have hdig : ∀ (c : UInt8) (w : World), Calls Tryd.prog 37 #[.int .u8 (c.toNat : Int)] w fun e w' => e = .returned (.int .i64 (digI c)) ∧ w' = w := rDigit
  have hb0 : Below w.heap.size w (w.alloc (mkObj ⟨0, 0, 0⟩)) := bal0 w _
  have hblk : (w.alloc (mkObj ⟨0, 0, 0⟩)).heap[w.heap.size]? = some (mkObj ⟨0, 0, 0⟩) := alloc_at rfl
  by_cases h15 : s.size = 15
  · have x0 : ((s.size : Int) != 15) = false := by rw [h15]; rfl
    have g4 : 4 < s.size := by omega
    have g11 : 11 < s.size := by omega
    have g14 : 14 < s.size := by omega
    have l4 : 4 ≤ s.size := by omega
    have l9 : 9 ≤ s.size := by omega
    have l11 : 11 ≤ s.size := by omega
    have l14 : 14 ≤ s.size := by omega
    have t4 := getB g4
    have t11 := getB g11
    have t14 := getB g14
    have e3 := ext2 (s := s) (i := 9) (by omega) 32 98
    have e4 := ext2 (s := s) (i := 12) (by omega) 32 112
    simp only [Nat.reduceAdd] at e3 e4
    by_cases h4 : s.data.toList.getD 4 0 = 47
    · have x4 : (((s[4]'g4).toNat : Int) != 47) = false := by rw [← t4, h4]; rfl
      by_cases h9 : (s.extract 9 11).toList = [32, 98]
      · by_cases h12 : (s.extract 12 14).toList = [32, 112]
        · by_cases hd1 : digI (s[11]'g11) < 0
          · have HN := Lib.hid (show markL s.data.toList = none from markL_no (fun h => by have h1 := h.2.2.2.2.2.2.1; rw [t11, digI_ge.1 hd1] at h1; cases h1))
            clear e3 e4 t4 t11 t14 hl h4 h15
            go_enter Tryd.func36, Tryd.ntmps36
            go_wp2_with (go_at_call 37; refine (hdig _ _).mono ?_; rintro e w' ⟨rfl, rfl⟩)
            exact bodyPost_ret (v := .tuple #[vMk ⟨0, 0, 0⟩, .bool false]) (by simp [results, Tryd.f36, go_sem, vMk]) rfl ⟨MarkOut.no ⟨0, 0, 0⟩ HN.out, hb0⟩
          · by_cases hd2 : digI (s[14]'g14) < 0
            · have HN := Lib.hid (show markL s.data.toList = none from markL_no (fun h => by have h1 := h.2.2.2.2.2.2.2.1; rw [t14, digI_ge.1 hd2] at h1; cases h1))
              clear e3 e4 t4 t11 t14 hl h4 h15
              go_enter Tryd.func36, Tryd.ntmps36
              go_wp2_with (go_at_call 37; refine (hdig _ _).mono ?_; rintro e w' ⟨rfl, rfl⟩)
              exact bodyPost_ret (v := .tuple #[vMk ⟨0, 0, 0⟩, .bool false]) (by simp [results, Tryd.f36, go_sem, vMk]) rfl ⟨MarkOut.no ⟨0, 0, 0⟩ HN.out, hb0⟩
            · obtain ⟨pl, hpl⟩ : ∃ pl, pl = plsOf s.data.toList := ⟨_, rfl⟩
              obtain ⟨S, hS⟩ : ∃ S, S = s.extract 0 4 ++ s.extract 5 9 := ⟨_, rfl⟩
              have hpb : S.data.toList = pl := by
                rw [hpl, hS]
                unfold plsOf
                rw [ByteArray.data_append, Array.toList_append, Lib.extract_data, Lib.extract_data]
                simp
              have hp8 : pl.length = 8 := by rw [hpl]; unfold plsOf; rw [List.length_append, List.length_take, List.length_take, List.length_drop]; omega
              have hps : S.size = 8 := by rw [Lib.size_eq, hpb, hp8]
              have hg1 : isDg (s[11]'g11) = true := by cases h : isDg (s[11]'g11) with
                | true => rfl
                | false => exact absurd (digI_ge.2 h) hd1
              have hg2 : isDg (s[14]'g14) = true := by cases h : isDg (s[14]'g14) with
                | true => rfl
                | false => exact absurd (digI_ge.2 h) hd2
              have HY := Lib.hid (show markL s.data.toList = if pl.all isPl = true then some ⟨plNum pl 8, digI (s[11]'g11), digI (s[14]'g14)⟩ else none by
                unfold markL
                rw [← hpl, t11, t14, digI_yes hg1, digI_yes hg2]
                by_cases ha : pl.all isPl = true
                · rw [if_pos ha, if_pos ⟨by omega, h4, (e3.1 h9).1, (e3.1 h9).2, (e4.1 h12).1, (e4.1 h12).2, hg1, hg2, ha⟩]
                · rw [if_neg ha, if_neg (fun h => ha h.2.2.2.2.2.2.2.2)])
              have HP := Lib.hid (And.intro hpb (And.intro hps hp8))
              have hSS := Lib.hid hS
              clear e3 e4 t4 t11 t14 hl h4 h15 hpb hps hp8 hpl hg1 hg2 hS
              go_enter Tryd.func36, Tryd.ntmps36
              go_upto_region 3 with (first | (go_at_call 37; refine (hdig _ _).mono ?_; rintro e w' ⟨rfl, rfl⟩))
              go_region
              go_wp2_with fail
              rw [← hSS.out]
              obtain ⟨w1, hw1⟩ : ∃ w1, w1 = (w.alloc (Obj.cells #[Value.int .i64 0, .int .i64 0, .int .i64 0] 52)).drew := ⟨_, rfl⟩
              have b1 : w1.heap[w.heap.size]? = some (mkObj ⟨0, 0, 0⟩) := by rw [hw1]; exact alloc_at rfl
              have hb1 : Below w.heap.size w w1 := by rw [hw1]; exact bdraw (bal0 w _)
              rw [← hw1]
              clear hw1 hb0 hblk
              obtain ⟨r0, hr0⟩ : ∃ r, r = w.heap.size := ⟨_, rfl⟩
              have HR0 := Lib.hid hr0
              rw [← hr0] at b1 hb1 ⊢
              have HB1 := Lib.hid (And.intro b1 hb1)
              clear hr0 b1 hb1
              have hS8 : (S.size : Int) = 8 := by rw [HP.out.2.1]; rfl
              go_loopg [5, 6, 7] 8 (fun g nv bv iv wr => ∃ (k : Nat) (b : Int), k + g = 8 ∧ iv = .int .i64 k ∧ nv = .int .i64 (plNum pl k) ∧ bv = .int .i64 b ∧ b = 2 ^ k ∧ (pl.take k).all isPl = true ∧ wr = w1)
              case atStart => exact ⟨0, 1, rfl, rfl, rfl, rfl, rfl, rfl, rfl⟩
              case round =>
                obtain ⟨k, b, hk, rfl, rfl, rfl, hb, ha, rfl⟩ := hrel
                have HK := Lib.hid (And.intro hk (And.intro hb ha))
                have hpr := plNum_rg pl k
                have hp28 : (2 : Int) ^ k ≤ 2 ^ 8 := by
                  obtain rfl | rfl | rfl | rfl | rfl | rfl | rfl | rfl | rfl : k = 0 ∨ k = 1 ∨ k = 2 ∨ k = 3 ∨ k = 4 ∨ k = 5 ∨ k = 6 ∨ k = 7 ∨ k = 8 := by omega
                  all_goals decide
                obtain ⟨n, hn⟩ : ∃ n, n = plNum pl k := ⟨_, rfl⟩
                have n0 : 0 ≤ n := by rw [hn]; exact hpr.1
                have n1 : n < 256 := by rw [hn]; omega
                have b0 : 0 ≤ b := by omega
                have b1 : b ≤ 256 := by omega
                have HN := Lib.hid hn
                rw [← hn]
                clear hn hb ha hpr hp28
                by_cases hlt : k < 8
                · have hk8 : k < S.size := by omega
                  obtain ⟨c, hc⟩ : ∃ c, c = pl.getD k 0 := ⟨_, rfl⟩
                  have hcS : S[k]'hk8 = c := by rw [hc, ← HP.out.1, getB hk8]
                  have htk : pl.take (k + 1) = pl.take k ++ [c] := by
                    rw [List.take_add_one, hc, List.getD_eq_getElem?_getD, List.getElem?_eq_getElem (by have := HP.out.2.2; omega)]; rfl
                  have HC := Lib.hid (And.intro hc htk)
                  have hb2 : (2 : Int) ^ (k + 1) = 2 * b := by rw [HK.out.2.1, Int.pow_succ]; omega
                  have HB2 := Lib.hid hb2
                  clear hk htk hc hb2
                  by_cases h120 : c = 120
                  · have e1 : (((S[k]'hk8).toNat : Int) == 120) = true := by rw [hcS, h120]; rfl
                    have H120 := Lib.hid h120
                    clear h120 hcS
                    go_wp2_with fail
                    go_roundg (gk - 1)
                    case measure => have := HK.out.1; omega
                    case rel => exact ⟨k + 1, 2 * b, by have := HK.out.1; omega, by go_num, by unfold plNum; rw [← HC.out.1, if_pos H120.out, ← HN.out, HK.out.2.1], by go_num, HB2.out.symm, by rw [HC.out.2, List.all_append, HK.out.2.2, H120.out]; rfl, rfl⟩
                  · have e1 : (((S[k]'hk8).toNat : Int) == 120) = false := by rw [hcS]; exact beq_eq_false_iff_ne.2 fun e => h120 (UInt8.toNat_inj.1 (show c.toNat = 120 by omega))
                    have H120 := Lib.hid h120
                    clear h120
                    by_cases h46 : c = 46
                    · have e2 : (((S[k]'hk8).toNat : Int) != 46) = false := by rw [hcS, h46]; rfl
                      have H46 := Lib.hid h46
                      clear h46 hcS
                      go_wp2_with fail
                      go_roundg (gk - 1)
                      case measure => have := HK.out.1; omega
                      case rel => exact ⟨k + 1, 2 * b, by have := HK.out.1; omega, by go_num, by unfold plNum; rw [← HC.out.1, if_neg H120.out, ← HN.out], by go_num, HB2.out.symm, by rw [HC.out.2, List.all_append, HK.out.2.2, H46.out]; rfl, rfl⟩
                    · have e2 : (((S[k]'hk8).toNat : Int) != 46) = true := by rw [hcS]; exact bne_iff_ne.2 fun e => h46 (UInt8.toNat_inj.1 (show c.toNat = 46 by omega))
                      have hno : ¬ pl.all isPl = true := by
                        intro hp
                        have h8 := List.all_eq_true.1 hp c (by rw [HC.out.1, List.getD_eq_getElem?_getD, List.getElem?_eq_getElem (by have := HP.out.2.2; omega)]; exact List.getElem_mem _)
                        unfold isPl at h8
                        simp [H120.out, h46] at h8
                      have HNO := Lib.hid (HY.out.trans (if_neg hno))
                      clear hno h46 hcS
                      obtain ⟨z0, z1, z2⟩ := blk3 HB1.out.1
                      have zf := fun i => frz HB1.out.1 i
                      go_wp2_with fail
                      have hz : (((wr.setCell ⟨r0, 0, none⟩ (.int .i64 0)).setCell ⟨r0, 1, none⟩ (.int .i64 0)).setCell ⟨r0, 2, none⟩ (.int .i64 0)).heap[r0]? = some (mkObj ⟨0, 0, 0⟩) := set_blk (set_blk (set_blk HB1.out.1))
                      have hbz : Below r0 w (((wr.setCell ⟨r0, 0, none⟩ (.int .i64 0)).setCell ⟨r0, 1, none⟩ (.int .i64 0)).setCell ⟨r0, 2, none⟩ (.int .i64 0)) :=
                        Below.setCell (Below.setCell (Below.setCell HB1.out.2 (p := ⟨r0, 0, none⟩) (Nat.le_refl _) _) (p := ⟨r0, 1, none⟩) (Nat.le_refl _) _) (p := ⟨r0, 2, none⟩) (Nat.le_refl _) _
                      have HBZ := Lib.hid hbz
                      generalize (((wr.setCell ⟨r0, 0, none⟩ (.int .i64 0)).setCell ⟨r0, 1, none⟩ (.int .i64 0)).setCell ⟨r0, 2, none⟩ (.int .i64 0)) = Z at hz HBZ ⊢
                      obtain ⟨z0, z1, z2⟩ := blk3 hz
                      exact bodyPost_ret (v := .tuple #[vMk ⟨0, 0, 0⟩, .bool false]) (by simp [results, Tryd.f36, go_sem, vMk, z0, z1, z2]) rfl ⟨MarkOut.no ⟨0, 0, 0⟩ HNO.out, by rw [← HR0.out]; exact HBZ.out⟩
                · obtain rfl : k = 8 := by omega
                  have hall : pl.all isPl = true := by rw [← List.take_of_length_le (l := pl) (i := 8) (by have := HP.out.2.2; omega)]; exact HK.out.2.2
                  have HYY := Lib.hid (HY.out.trans (if_pos hall))
                  clear hall hk b0 b1
                  obtain ⟨z0, z1, z2⟩ := blk3 HB1.out.1
                  have zf := fun i => frz HB1.out.1 i
                  obtain ⟨d1, hd1'⟩ : ∃ d, d = digI (s[11]'g11) := ⟨_, rfl⟩
                  obtain ⟨d2, hd2'⟩ : ∃ d, d = digI (s[14]'g14) := ⟨_, rfl⟩
                  have cD1 : ∀ n, Calls Tryd.prog 37 #[.int .u8 ((s[11]'g11).toNat : Int)] (wr.drewN n) (fun e w'' => e = .returned (.int .i64 d1) ∧ ∃ n', w'' = wr.drewN n') := fun n => (hdig _ _).mono fun e w'' h => ⟨by rw [hd1']; exact h.1, n, h.2⟩
                  have cD2 : ∀ n, Calls Tryd.prog 37 #[.int .u8 ((s[14]'g14).toNat : Int)] (wr.drewN n) (fun e w'' => e = .returned (.int .i64 d2) ∧ ∃ n', w'' = wr.drewN n') := fun n => (hdig _ _).mono fun e w'' h => ⟨by rw [hd2']; exact h.1, n, h.2⟩
                  have HCC := Lib.hid (And.intro cD1 cD2)
                  rw [← hd1', ← hd2', ← HN.out] at HYY
                  clear cD1 cD2 hd1' hd2' hd1 hd2
                  go_upto_region 13 with (fail)
                  refine wp_region_quiet_call (C := fun w' => ∃ n, w' = wr.drewN n) 8 (by kernel_rfl) (by kernel_rfl) ⟨1, rfl⟩ ?_
                  simp only [List.take_succ_cons, List.take_zero, List.drop_succ_cons, List.drop_zero]
                  repeat (quiet_step (with_reducible first | exact HCC.out.1 _ | exact HCC.out.2 _))
                  refine wpQuiet_nil ?_
                  intro _ hw'
                  obtain ⟨nq, hw''⟩ := hw'
                  subst hw''
                  intro Q2 hQ2
                  go_wp2_with fail
                  repeat (quiet_step (fail))
                  refine wpQuiet_nil ?_
                  have hz : ((((wr.drewN nq).setCell ⟨r0, 0, none⟩ (.int .i64 n)).setCell ⟨r0, 1, none⟩ (.int .i64 d1)).setCell ⟨r0, 2, none⟩ (.int .i64 d2)).heap[r0]? = some (mkObj ⟨n, d1, d2⟩) := set_blk (set_blk (set_blk (w := wr.drewN nq) HB1.out.1))
                  have hbz : Below r0 w ((((wr.drewN nq).setCell ⟨r0, 0, none⟩ (.int .i64 n)).setCell ⟨r0, 1, none⟩ (.int .i64 d1)).setCell ⟨r0, 2, none⟩ (.int .i64 d2)) :=
                    Below.setCell (Below.setCell (Below.setCell (below_drewN HB1.out.2 nq) (p := ⟨r0, 0, none⟩) (Nat.le_refl _) _) (p := ⟨r0, 1, none⟩) (Nat.le_refl _) _) (p := ⟨r0, 2, none⟩) (Nat.le_refl _) _
                  have HBZ := Lib.hid hbz
                  generalize ((((wr.drewN nq).setCell ⟨r0, 0, none⟩ (.int .i64 n)).setCell ⟨r0, 1, none⟩ (.int .i64 d1)).setCell ⟨r0, 2, none⟩ (.int .i64 d2)) = Z at hz HBZ ⊢
                  clear hbz z0 z1 z2 zf
                  obtain ⟨z0, z1, z2⟩ := blk3 hz
                  go_wp2
                  exact bodyPost_ret (v := .tuple #[vMk ⟨n, d1, d2⟩, .bool true]) (by simp [results, Tryd.f36, go_sem, vMk, z0, z1, z2]) rfl ⟨MarkOut.yes HYY.out, by rw [← HR0.out]; exact HBZ.out⟩
        · have HN := Lib.hid (show markL s.data.toList = none from markL_no (fun h => h12 (e4.2 ⟨h.2.2.2.2.1, h.2.2.2.2.2.1⟩)))
          clear e3 e4 t4 t11 t14 hl h4 h15
          go_enter Tryd.func36, Tryd.ntmps36
          go_wp2
          exact bodyPost_ret (v := .tuple #[vMk ⟨0, 0, 0⟩, .bool false]) (by simp [results, Tryd.f36, go_sem, vMk]) rfl ⟨MarkOut.no ⟨0, 0, 0⟩ HN.out, hb0⟩
      · have HN := Lib.hid (show markL s.data.toList = none from markL_no (fun h => h9 (e3.2 ⟨h.2.2.1, h.2.2.2.1⟩)))
        clear e3 e4 t4 t11 t14 hl h4 h15
        go_enter Tryd.func36, Tryd.ntmps36
        go_wp2
        exact bodyPost_ret (v := .tuple #[vMk ⟨0, 0, 0⟩, .bool false]) (by simp [results, Tryd.f36, go_sem, vMk]) rfl ⟨MarkOut.no ⟨0, 0, 0⟩ HN.out, hb0⟩
    · have x4 : (((s[4]'g4).toNat : Int) != 47) = true := bne_iff_ne.2 fun e => h4 (by
        rw [t4]
        apply UInt8.toNat_inj.1
        show (s[4]'g4).toNat = 47
        omega)
      have HN := Lib.hid (show markL s.data.toList = none from markL_no (fun h => h4 h.2.1))
      clear e3 e4 t4 t11 t14 hl h4 h15
      go_enter Tryd.func36, Tryd.ntmps36
      go_wp2
      exact bodyPost_ret (v := .tuple #[vMk ⟨0, 0, 0⟩, .bool false]) (by simp [results, Tryd.f36, go_sem, vMk]) rfl ⟨MarkOut.no ⟨0, 0, 0⟩ HN.out, hb0⟩
  · have x0 : ((s.size : Int) != 15) = true := bne_iff_ne.2 (by omega)
    have HN := Lib.hid (show markL s.data.toList = none from markL_no (fun h => h15 (by rw [hl]; exact h.1)))
    clear hl h15
    go_enter Tryd.func36, Tryd.ntmps36
    go_wp2
    exact bodyPost_ret (v := .tuple #[vMk ⟨0, 0, 0⟩, .bool false]) (by simp [results, Tryd.f36, go_sem, vMk]) rfl ⟨MarkOut.no ⟨0, 0, 0⟩ HN.out, hb0⟩
end Go.Proofs.YtoidaigiejilcaaDoor
