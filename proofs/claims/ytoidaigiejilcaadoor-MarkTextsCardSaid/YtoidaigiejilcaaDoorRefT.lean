/- mestaref03: Itoa of one digit, digit, Ears, Write: a register as text. -/
import Derived.Test.YtoidaigiejilcaaDoorWriteA
import Derived.Test.YtoidaigiejilcaaDoorTextM
import Derived.Test.YtoidaigiejilcaaDoorRefA
import Derived.Test.YtoidaigiejilcaaDoorShelf
namespace Go.Proofs.YtoidaigiejilcaaDoor
open Go.RowKit
set_option linter.unusedVariables false
set_option linter.unusedSimpArgs false

theorem rItoa (n : Int) (w : World) (h0 : 0 ≤ n) (h1 : n ≤ 9) :
    Calls Tryd.prog 32 #[.int .i64 n] w fun e w' => e = .returned (.string (dgS n)) ∧ w' = w := by
  obtain ⟨k, rfl⟩ := Int.eq_ofNat_of_zero_le h0
  have h := YtoidaigiejilcaaDoor.itoa_at k (by omega) w
  have e : Lib.decDigits k = [dgB (k : Int)] := by
    rw [Lib.decDigits, dif_pos (by omega)]
    unfold dgB
    simp
  rw [e] at h
  exact h

/-- the number that a byte is, -1 if it is none -/
def digI (c : UInt8) : Int := if isDg c = true then dgI c else -1
theorem rDigit (c : UInt8) (w : World) :
    Calls Tryd.prog 37 #[.int .u8 (c.toNat : Int)] w fun e w' => e = .returned (.int .i64 (digI c)) ∧ w' = w := by
  have hc : c.toNat < 256 := c.toNat_lt
  by_cases h48 : (c.toNat : Int) < 48
  · have e : digI c = -1 := by unfold digI isDg; rw [if_neg]; simp; omega
    rw [e]
    clear e
    go_enter Tryd.func37, Tryd.ntmps37
    go_wp2
    go_ret
    exact ⟨rfl, rfl⟩
  · by_cases h57 : (57 : Int) < (c.toNat : Int)
    · have e : digI c = -1 := by unfold digI isDg; rw [if_neg]; simp; omega
      rw [e]
      clear e
      go_enter Tryd.func37, Tryd.ntmps37
      go_wp2
      go_ret
      exact ⟨rfl, rfl⟩
    · have e : digI c = (c.toNat : Int) - 48 := by unfold digI isDg dgI; rw [if_pos]; simp; omega
      have hw : IntKind.u8.wrap ((c.toNat : Int) - 48) = (c.toNat : Int) - 48 := IntWalk.u8_in _ (by omega)
      rw [e]
      clear e
      go_enter Tryd.func37, Tryd.ntmps37
      go_wp2
      go_ret
      exact ⟨rfl, rfl⟩

/-- the ears, place by place -/
def earTo (n : Int) : Nat → ByteArray
  | 0 => ⟨#[]⟩
  | k + 1 => (if k = 4 then earTo n k ++ slS else earTo n k) ++ (if bit n k = true then (⟨#[120]⟩ : ByteArray) else ⟨#[46]⟩)
theorem earTo_list (n : Int) : (earTo n 8).data.toList = plB n 0 ++ [47] ++ plB n 4 := by
  have h : ∀ i, (if bit n i = true then (⟨#[120]⟩ : ByteArray) else ⟨#[46]⟩).data.toList = [chB n i] := by
    intro i; unfold chB; split <;> rfl
  have h8 : earTo n 8 = (((((((((⟨#[]⟩ : ByteArray) ++ (if bit n 0 = true then (⟨#[120]⟩ : ByteArray) else ⟨#[46]⟩)) ++ (if bit n 1 = true then (⟨#[120]⟩ : ByteArray) else ⟨#[46]⟩)) ++ (if bit n 2 = true then (⟨#[120]⟩ : ByteArray) else ⟨#[46]⟩)) ++ (if bit n 3 = true then (⟨#[120]⟩ : ByteArray) else ⟨#[46]⟩)) ++ slS) ++ (if bit n 4 = true then (⟨#[120]⟩ : ByteArray) else ⟨#[46]⟩)) ++ (if bit n 5 = true then (⟨#[120]⟩ : ByteArray) else ⟨#[46]⟩)) ++ (if bit n 6 = true then (⟨#[120]⟩ : ByteArray) else ⟨#[46]⟩)) ++ (if bit n 7 = true then (⟨#[120]⟩ : ByteArray) else ⟨#[46]⟩) := rfl
  rw [h8]
  simp only [ByteArray.data_append, Array.toList_append, h]
  rfl
theorem earTo_size (n : Int) : ∀ k, (earTo n k).size ≤ 2 * k
  | 0 => Nat.le_refl _
  | k + 1 => by
    have ih := earTo_size n k
    unfold earTo
    have h1 : slS.size = 1 := rfl
    have h2 : (⟨#[120]⟩ : ByteArray).size = 1 := rfl
    have h3 : (⟨#[46]⟩ : ByteArray).size = 1 := rfl
    rw [ByteArray.size_append]
    split <;> split <;> (try rw [ByteArray.size_append]) <;> omega

set_option maxRecDepth 100000 in
set_option maxHeartbeats 4000000 in
theorem rEars (n : Int) (w : World) (h0 : 0 ≤ n) (h1 : n ≤ 255) :
    Calls Tryd.prog 33 #[.int .i64 n] w fun e w' => e = .returned (.string (earTo n 8)) ∧ w' = w := by
  go_enter Tryd.func33, Tryd.ntmps33
  go_wp2_with fail
  go_loopg [3, 4] 8 (fun g sv i wr => ∃ k : Nat, k + g = 8 ∧ i = .int .i64 k ∧ sv = .string (earTo n k) ∧ wr = w)
  case atStart => exact ⟨0, rfl, rfl, rfl, rfl⟩
  case round =>
    obtain ⟨k, hk, rfl, rfl, rfl⟩ := hrel
    have HK := Lib.hid hk
    have hsz := earTo_size n k
    by_cases hlt : k < 8
    · obtain ⟨T, hT⟩ : ∃ T, T = earTo n k := ⟨_, rfl⟩
      have HE := Lib.hid (show earTo n (k + 1) = (if k = 4 then T ++ slS else T) ++ (if bit n k = true then (⟨#[120]⟩ : ByteArray) else ⟨#[46]⟩) by rw [hT]; rfl)
      rw [← hT] at hsz ⊢
      have hs1 : T.size ≤ 100 := by omega
      clear hT hsz hk
      by_cases h4 : k = 4
      · subst h4
        have hh : ∀ w', Calls Tryd.prog 62 #[.int .i64 n, .int .i64 4] w' (fun e w'' => e = .returned (.bool (bit n 4)) ∧ w' = w'') := fun w' => rHas n 4 w' h0 h1 (by omega)
        cases hb : bit n 4
        all_goals
          rw [hb] at hh
          have HB := Lib.hid hb
          clear hb
          go_wp2_with (go_at_call 62; refine (hh _).mono ?_; rintro e w' ⟨rfl, rfl⟩)
          go_roundg (gk - 1)
          case measure => have := HK.out; omega
          case rel => exact ⟨5, by have := HK.out; omega, by go_num, by rw [HE.out, HB.out]; rfl, rfl⟩
      · have hh : ∀ w', Calls Tryd.prog 62 #[.int .i64 n, .int .i64 k] w' (fun e w'' => e = .returned (.bool (bit n k)) ∧ w' = w'') := fun w' => rHas n k w' h0 h1 (by omega)
        cases hb : bit n k
        all_goals
          rw [hb] at hh
          have HB := Lib.hid hb
          clear hb
          go_wp2_with (go_at_call 62; refine (hh _).mono ?_; rintro e w' ⟨rfl, rfl⟩)
          go_roundg (gk - 1)
          case measure => have := HK.out; omega
          case rel => exact ⟨k + 1, by have := HK.out; omega, by go_num, by rw [HE.out, HB.out, if_neg h4]; rfl, rfl⟩
    · obtain rfl : k = 8 := by omega
      clear hsz
      go_wp2
      go_ret
      exact ⟨rfl, rfl⟩

theorem rEars_b (n : Int) (w : World) (h0 : 0 ≤ n) (h1 : n ≤ 255) :
    Calls Tryd.prog 33 #[.int .i64 n] w fun e w' => e = .returned (.string (earTo n 8)) ∧ Below w.heap.size w w' :=
  (rEars n w h0 h1).mono fun e w' ⟨he, hw⟩ => ⟨he, by rw [hw]; exact Below.refl _ _⟩
theorem rItoa_b (n : Int) (w : World) (h0 : 0 ≤ n) (h1 : n ≤ 9) :
    Calls Tryd.prog 32 #[.int .i64 n] w fun e w' => e = .returned (.string (dgS n)) ∧ Below w.heap.size w w' :=
  (rItoa n w h0 h1).mono fun e w' ⟨he, hw⟩ => ⟨he, by rw [hw]; exact Below.refl _ _⟩
theorem wrM_ref (T : ByteArray) (m : Mk) : T ++ earTo m.n 8 ++ (⟨#[32, 98]⟩ : ByteArray) ++ dgS m.b ++ (⟨#[32, 112]⟩ : ByteArray) ++ dgS m.p ++ (⟨#[10]⟩ : ByteArray) = T ++ wrM m := by
  apply bytes_ext
  simp only [ByteArray.data_append, Array.toList_append, earTo_list, wrM_list]
  unfold markLine dgS
  simp

set_option maxRecDepth 100000 in
set_option maxHeartbeats 2000000 in
theorem rWrite (t : Int) (A : Option Addr) (n c : Nat) (l : List Mk) (w : World) (hc : Marks w A n l) (hlc : n ≤ c) (hcm : c ≤ maxLen) :
    Calls Tryd.prog 11 #[.agg #[.int .i64 t, .slice A n c]] w fun e w' => e = .returned (.tuple #[.string (wrS t l), .int .i64 (check t l)]) ∧ Below w.heap.size w w' := by
  have HL := Lib.hid hc
  have HN := Lib.hid hc.len
  have hb0 : Below w.heap.size w (w.alloc (Obj.cells #[Value.int IntKind.i64 t, Value.slice A n c] 26)) := (Below.refl _ _).alloc (Nat.le_refl _) _
  have HB0 := Lib.hid hb0
  have hblk : (w.alloc (Obj.cells #[Value.int IntKind.i64 t, Value.slice A n c] 26)).heap[w.heap.size]? = some (Obj.cells #[Value.int IntKind.i64 t, Value.slice A n c] 26 (0, 0)) := heap_alloc_new w _
  have HK0 := Lib.hid hblk
  clear hc hb0 hblk
  by_cases h0 : check t l = 0
  · have h0' : (check t l != 0) = false := by simp [h0]
    have HC := Lib.hid h0
    have ht := check_ok h0
    have t0 := ht.1
    have t1 := ht.2.1
    have HT := Lib.hid ht
    clear h0 ht
    go_enter Tryd.func11, Tryd.ntmps11
    go_upto_region 5 with (first
      | (go_at_call 31; refine (rCheck t A n c l _ (HL.out.below HB0.out (Nat.le_refl _)) hlc hcm).mono ?_; rintro e w1 ⟨rfl, hb1⟩; obtain ⟨hc1, hf1⟩ := bc hb1; have g1 : w.heap.size < w1.heap.size := (by have := hb1.size; simp at this; omega); have HB1 := Lib.hid hb1; clear hb1)
      | (go_at_call 32; refine (rItoa t _ t0 (by omega)).mono ?_; rintro e w2 ⟨rfl, hw2⟩; obtain rfl := hw2.symm))
    have HBW := Lib.hid (show Below w.heap.size w w1 from (HB0.out.trans (HB1.out.mono HB0.out.size)))
    have HLW := Lib.hid (HL.out.below HBW.out (Nat.le_refl _))
    have b2 := bheap HK0.out HB1.out (by simp)
    obtain ⟨r0, r1⟩ := blk2 b2
    clear hc1 hf1 b2
    have hn5 : n ≤ 5 := by have h1 := HT.out.2.2.1; have h2 := HN.out; omega
    go_wp2_with fail
    have hz0 : (wrTo t l 0).size ≤ 8 := by unfold wrTo; simp only [ByteArray.size_append]; exact Nat.le_refl _
    have HZ := Lib.hid hz0
    clear hz0
    go_loopg [5, 6] n (fun g sv i wr => ∃ k : Nat, k + g = n ∧ i = .int .i64 k ∧ sv = .string (wrTo t l k) ∧ (wrTo t l k).size ≤ 8 + 17 * k ∧ Below w1.heap.size w1 wr)
    case atStart => exact ⟨0, by omega, rfl, rfl, HZ.out, Below.refl _ _⟩
    case round =>
      obtain ⟨k, hk, rfl, rfl, hsz, hB⟩ := hrel
      have HBK := Lib.hid hB
      have hkn : k ≤ n := by omega
      have HK := Lib.hid hk
      have gw : w.heap.size < wr.heap.size := by have := hB.size; omega
      have q3 := bcell r0 hB (Nat.le_refl _)
      have q4 := bcell r1 hB (Nat.le_refl _)
      clear hk
      by_cases hlt : k < n
      · obtain ⟨b, off, m, rfl, hb, hm, m0, m1, m2⟩ := Marks.get HLW.out hlt
        have q0 := bcell m0 hB (Nat.le_refl _)
        have q1 := bcell m1 hB (Nat.le_refl _)
        have q2 := bcell m2 hB (Nat.le_refl _)
        have hbw : b < wr.heap.size := Nat.lt_of_lt_of_le hb hB.size
        have hmv := check_marks HC.out m (List.mem_of_getElem? hm)
        have HM := Lib.hid (show mkAt l (k : Int) = m by simp [mkAt, hm])
        have HM2 := Lib.hid hm
        clear hm m0 m1 m2 hB
        go_upto_region 9 with (fail)
        obtain ⟨W, hW⟩ : ∃ W, W = wr.alloc (Obj.cells #[Value.int .i64 m.n, .int .i64 m.b, .int .i64 m.p] 52) := ⟨_, rfl⟩
        have bW : W.heap[wr.heap.size]? = some (Obj.cells #[Value.int .i64 m.n, .int .i64 m.b, .int .i64 m.p] 52 (0, 0)) := by rw [hW]; exact alloc_at rfl
        have hBW : Below w1.heap.size w1 W := by rw [hW]; exact HBK.out.alloc HBK.out.size _
        rw [← hW]
        clear hW
        obtain ⟨p0, p1, p2⟩ := blk3 bW
        have hp := heap_lt bW
        have cP0 : ∀ d os, Calls Tryd.prog 33 #[.int .i64 m.n] (Sort.grow (redrawn W d) os) (fun e w'' => e = .returned (.string (earTo m.n 8)) ∧ ∃ p : Regrown, w'' = Sort.grow (redrawn W p.d) p.os) := fun d os => Calls.regrown_of (rEars_b m.n _ hmv.1.1 hmv.1.2)
        have cB : ∀ d os, Calls Tryd.prog 32 #[.int .i64 m.b] (Sort.grow (redrawn W d) os) (fun e w'' => e = .returned (.string (dgS m.b)) ∧ ∃ p : Regrown, w'' = Sort.grow (redrawn W p.d) p.os) := fun d os => Calls.regrown_of (rItoa_b m.b _ hmv.2.1.1 hmv.2.1.2)
        have cC : ∀ d os, Calls Tryd.prog 32 #[.int .i64 m.p] (Sort.grow (redrawn W d) os) (fun e w'' => e = .returned (.string (dgS m.p)) ∧ ∃ p : Regrown, w'' = Sort.grow (redrawn W p.d) p.os) := fun d os => Calls.regrown_of (rItoa_b m.p _ hmv.2.2.1 (by have := hmv.2.2.2; omega))
        have HCC := Lib.hid (And.intro cP0 (And.intro cB cC))
        clear cP0 cB cC
        have z0 := cell_regrown p0
        have z1 := cell_regrown p1
        have z2 := cell_regrown p2
        obtain ⟨T, hT⟩ : ∃ T, T = wrTo t l k := ⟨_, rfl⟩
        obtain ⟨P0, hP0⟩ : ∃ P, P = earTo m.n 8 := ⟨_, rfl⟩
        obtain ⟨DB, hDB⟩ : ∃ P, P = dgS m.b := ⟨_, rfl⟩
        obtain ⟨DP, hDP⟩ : ∃ P, P = dgS m.p := ⟨_, rfl⟩
        have sT : T.size ≤ 100 := by rw [hT]; omega
        have s0 : P0.size ≤ 16 := by rw [hP0]; exact earTo_size _ 8
        have sB : DB.size ≤ 1 := by rw [hDB]; exact Nat.le_refl 1
        have sP : DP.size ≤ 1 := by rw [hDP]; exact Nat.le_refl 1
        have HE := Lib.hid (And.intro hT (And.intro hP0 (And.intro hDB (And.intro hDP hsz))))
        rw [← hT] at hsz ⊢
        rw [← hP0, ← hDB, ← hDP] at HCC
        clear hT hP0 hDB hDP hsz
        have u1 : ¬ (9223372036854775807 < T.size + P0.size) := by omega
        have u2 : ¬ (9223372036854775807 < T.size + P0.size + 2) := by omega
        have u3 : ¬ (9223372036854775807 < T.size + P0.size + 2 + DB.size) := by omega
        have u4 : ¬ (9223372036854775807 < T.size + P0.size + 2 + DB.size + 2) := by omega
        have u5 : ¬ (9223372036854775807 < T.size + P0.size + 2 + DB.size + 2 + DP.size) := by omega
        have u6 : ¬ (9223372036854775807 < T.size + P0.size + 2 + DB.size + 2 + DP.size + 1) := by omega
        refine wp_region_quiet_below (by kernel_rfl) (by kernel_rfl) ?_
        repeat (quiet_step (with_reducible first | exact HCC.out.1 _ _ | exact HCC.out.2.1 _ _ | exact HCC.out.2.2 _ _))
        refine wpQuiet_nil ?_
        intro _ hw'
        obtain ⟨⟨dq, osq⟩, hw''⟩ := hw'
        subst hw''
        obtain ⟨W9, hW9⟩ : ∃ W9, W9 = Sort.grow (redrawn W dq) osq := ⟨_, rfl⟩
        have hB9 : Below w1.heap.size w1 W9 := by rw [hW9]; exact hBW.trans ((below_regrown W dq osq).mono hBW.size)
        have HB9 := Lib.hid hB9
        rw [← hW9]
        clear hW9 z0 z1 z2 u1 u2 u3 u4 u5 u6
        have hE2 : wrTo t l (k + 1) = T ++ P0 ++ (⟨#[32, 98]⟩ : ByteArray) ++ DB ++ (⟨#[32, 112]⟩ : ByteArray) ++ DP ++ (⟨#[10]⟩ : ByteArray) := by
          rw [HE.out.2.1, HE.out.2.2.1, HE.out.2.2.2.1, wrM_ref, HE.out.1, wrTo, HM.out]
        have hE3 : (wrTo t l (k + 1)).size ≤ 8 + 17 * (k + 1) := by
          rw [show wrTo t l (k + 1) = wrTo t l k ++ wrM (mkAt l k) from rfl, ByteArray.size_append, HM.out]
          have h1 : (wrTo t l k).size ≤ 8 + 17 * k := HE.out.2.2.2.2
          have h2 : (wrM m).size = 16 := by rw [Lib.size_eq, wrM_list]; rfl
          omega
        have HE2 := Lib.hid (And.intro hE2 hE3)
        clear hE2 hE3
        go_wp2
        go_roundg (gk - 1)
        case measure => have := HK.out; omega
        case rel => exact ⟨k + 1, by have := HK.out; omega, by go_num, by rw [HE2.out.1], HE2.out.2, HB9.out⟩
      · obtain rfl : k = n := by omega
        have sT : (wrTo t l k).size ≤ 100 := by omega
        have HS := Lib.hid (show wrS t l = wrTo t l k ++ ⟨#[109, 97, 114, 107, 115, 32, 101, 110, 100, 10]⟩ by unfold wrS; rw [if_pos HC.out, HN.out])
        clear hsz
        go_wp2
        refine bodyPost_ret (v := .tuple #[.string (wrS t l), .int .i64 0]) (by rw [HS.out]; simp [results, Tryd.f11, go_sem]) rfl ?_
        exact ⟨by rw [HC.out], HBW.out.trans (HBK.out.mono HBW.out.size)⟩
  · have h0' : (check t l != 0) = true := by simp [h0]
    have HC := Lib.hid (show wrS t l = ⟨#[]⟩ by unfold wrS; rw [if_neg h0])
    clear h0
    go_enter Tryd.func11, Tryd.ntmps11
    go_wp2_with (go_at_call 31; refine (rCheck t A n c l _ (HL.out.below HB0.out (Nat.le_refl _)) hlc hcm).mono ?_; rintro e w1 ⟨rfl, hb1⟩; obtain ⟨hc1, hf1⟩ := bc hb1; have HB1 := Lib.hid hb1; clear hb1)
    refine bodyPost_ret (v := .tuple #[.string (wrS t l), .int .i64 (check t l)]) (by rw [HC.out]; simp [results, Tryd.f11, go_sem]) rfl ?_
    exact ⟨rfl, HB0.out.trans (HB1.out.mono HB0.out.size)⟩
end Go.Proofs.YtoidaigiejilcaaDoor
