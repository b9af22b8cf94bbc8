/- mestakit.Words. -/
import Derived.Test.YtoidaigiejilcaaGridB
import Derived.Test.YtoidaigiejilcaaKit
namespace Go.Proofs.Ytoidaigiejilcaa
open Go.RowKit
set_option linter.unusedVariables false
set_option linter.unusedSimpArgs false

def wordsL (n : Nat) : Nat → List (List Int)
  | 0 => [[]]
  | m + 1 => (List.range n).flatMap fun (i : Nat) => (wordsL n m).map fun r => (i : Int) :: r
def wordsTo (n m i : Nat) : List (List Int) := (List.range i).flatMap fun (i : Nat) => (wordsL n m).map fun r => (i : Int) :: r
theorem wordsTo_succ (n m i : Nat) : wordsTo n m (i + 1) = wordsTo n m i ++ (wordsL n m).map fun r => (i : Int) :: r := by
  unfold wordsTo; rw [List.range_succ, List.flatMap_append]; simp
theorem wordsTo_len (n m : Nat) : ∀ i, (wordsTo n m i).length = i * (wordsL n m).length
  | 0 => by simp [wordsTo]
  | i + 1 => by rw [wordsTo_succ, List.length_append, wordsTo_len n m i, List.length_map, Nat.succ_mul]
theorem wordsL_len (n : Nat) (hn : n ≤ 5) : ∀ m, (wordsL n m).length ≤ 5 ^ m
  | 0 => by simp [wordsL]
  | m + 1 => by
    have h1 : (wordsL n (m + 1)).length = n * (wordsL n m).length := wordsTo_len n m n
    have h2 := wordsL_len n hn m
    rw [h1, Nat.pow_succ, Nat.mul_comm (5 ^ m)]
    exact Nat.mul_le_mul hn h2
theorem pow5_le {m : Nat} (hm : m ≤ 5) : 5 ^ m ≤ 3125 := by
  have := Nat.pow_le_pow_right (n := 5) (by omega) hm
  simpa using this
theorem wordsL_mem {n : Nat} : ∀ {m : Nat} {r : List Int}, r ∈ wordsL n m → r.length = m ∧ ∀ x ∈ r, 0 ≤ x ∧ x < n
  | 0, r, h => by simp [wordsL] at h; subst h; simp
  | m + 1, r, h => by
    obtain ⟨i, hi, h2⟩ := List.mem_flatMap.1 h
    obtain ⟨q, hq, rfl⟩ := List.mem_map.1 h2
    obtain ⟨h3, h4⟩ := wordsL_mem hq
    refine ⟨by simp [h3], fun x hx => ?_⟩
    rcases List.mem_cons.1 hx with rfl | hx
    · have := List.mem_range.1 hi; omega
    · exact h4 x hx
/-- a row of a slice of slices of the call's own -/
theorem OwnG.get {w : World} {base : Nat} {v : Value} {ls : List (List Int)} (h : OwnG w base v ls) {k : Nat} (hk : k < ls.length) :
    ∃ b off cap B l c, v = .slice (some ⟨b, off, none⟩) ls.length cap ∧ ls[k]? = some l ∧ w.cell? ⟨b, off + k, none⟩ = some (.slice B l.length c) ∧ Ints w B l.length l ∧ l.length ≤ c ∧ c ≤ maxLen ∧ (B = none → c = 0) := by
  obtain ⟨mv, h1, h2, h3⟩ := h
  obtain ⟨A, c0, hv, hs, _, _⟩ := h1.form lenVal
  rw [h2] at hs hv
  obtain ⟨b, off, x, hA, hb, hx, hc⟩ := Vals.get hs hk
  subst hA
  obtain ⟨l, hl, ho⟩ := h3 k x hx
  obtain ⟨B, c, hx', hi, h5, h6, h7⟩ := own_shape ho lenInt
  subst hx'
  exact ⟨b, off, c0, B, l, c, hv, hl, hc, hi, h5, h6, h7⟩
theorem OwnG.one (w : World) (base : Nat) (hb : base ≤ w.heap.size) : OwnG (w.alloc (.cells #[.slice none 0 0] 22)) base (.slice (some ⟨w.heap.size, 0, none⟩) 1 1) [[]] := by
  refine ⟨[.slice none 0 0], Own.lit w base _ [.slice none 0 0] rfl lenVal hb (by simp [maxLen]), rfl, fun i v hv => ?_⟩
  cases i with
  | zero => simp at hv; subst hv; exact ⟨[], rfl, Own.nil_⟩
  | succ i => simp at hv

set_option maxRecDepth 100000 in
set_option maxHeartbeats 2000000 in
theorem words_any (n : Nat) (hn : n ≤ 5) : ∀ (m : Nat), m ≤ 5 → ∀ w : World,
    Calls Try.prog 12 #[.int .i64 n, .int .i64 m] w fun e w' => ∃ v, e = .returned v ∧ OwnG w' w.heap.size v (wordsL n m) ∧ Below w.heap.size w w'
  | 0, _, w => by
    go_enter Try.func12, Try.ntmps12
    go_wp2
    go_ret
    exact ⟨_, rfl, OwnG.one w _ (Nat.le_refl _), bal0 w _⟩
  | m + 1, hm, w => by
    have ih := words_any n hn m (by omega) w
    have IH := Lib.hid ih
    have e1 : ((m + 1 : Nat) : Int) = (m : Int) + 1 := by omega
    rw [e1]
    have hlen : (wordsL n m).length ≤ 3125 := Nat.le_trans (wordsL_len n hn m) (pow5_le (by omega))
    obtain ⟨R, hR⟩ : ∃ R, R = wordsL n m := ⟨_, rfl⟩
    have HR := Lib.hid hR
    rw [← hR] at hlen
    clear ih e1 hR
    go_enter Try.func12, Try.ntmps12
    have hm0 : (((m : Int) + 1) == 0) = false := by rw [beq_eq_false_iff_ne]; omega
    go_wp2_with fail
    refine IH.out.mono ?_
    rintro e w1 ⟨v1, rfl, ho1, hb1⟩
    rw [← HR.out] at ho1
    have HO := Lib.hid (And.intro ho1 hb1)
    obtain ⟨A1, c1, rfl, -, hc1, hx1⟩ := ho1.form
    have hs1 := hb1.size
    have hRm : R.length ≤ 9223372036854775807 := by omega
    clear ho1 hb1
    go_wp2_with fail
    go_loopg [5, 7] n (fun g v i wr => ∃ k : Nat, k + g = n ∧ i = .int .i64 k ∧ OwnG wr w1.heap.size v (wordsTo n m k) ∧ Below w1.heap.size w1 wr)
    case atStart => exact ⟨0, by omega, rfl, OwnG.nil_, Below.refl _ _⟩
    case round =>
      obtain ⟨k, hk, rfl, hog, hbr⟩ := hrel
      have HK := Lib.hid (And.intro hk (And.intro hog hbr))
      have hkn : k ≤ n := by omega
      obtain ⟨g1, rfl⟩ : ∃ g1 : Nat, g1 = gk := ⟨_, rfl⟩
      obtain ⟨wo, rfl⟩ : ∃ wo : World, wo = wr := ⟨_, rfl⟩
      clear hk hog hbr
      by_cases hlt : k < n
      · have hlt' : (k : Int) < (n : Int) := by omega
        go_wp2_with fail
        go_loopg [5, 8] R.length (fun g v i wr => ∃ q : Nat, q + g = R.length ∧ i = .int .i64 q ∧ OwnG wr w1.heap.size v (wordsTo n m k ++ (R.take q).map fun r => (k : Int) :: r) ∧ Below w1.heap.size w1 wr)
        case atStart => exact ⟨0, by omega, rfl, by simpa using HK.out.2.1, HK.out.2.2⟩
        case round =>
          obtain ⟨q, hq, rfl, hog, hbr⟩ := hrel
          have HQ := Lib.hid (And.intro hq (And.intro hog hbr))
          have hqn : q ≤ R.length := by omega
          have hsr := hbr.size
          clear hq hog
          by_cases hlq : q < R.length
          · obtain ⟨b, off, cap, B, r, c, hv, hr, hc, hri, hrc, hrm, hrz⟩ := (HO.out.1.below hbr (Nat.le_refl _)).get hlq
            obtain ⟨rfl, rfl⟩ : A1 = some ⟨b, off, none⟩ ∧ c1 = cap := by simpa using hv
            have HX := Lib.hid (And.intro hr hri)
            have hbl : b < wr.heap.size := cell_lt hc
            have i0 : (0 : Int) ≤ (q : Int) := by omega
            have i1 : (q : Int) < (R.length : Int) := by omega
            have hrlen : r.length ≤ 5 := by have := (wordsL_mem (HR.out ▸ List.mem_of_getElem? hr)).1; omega
            have hll : (wordsTo n m k ++ (R.take q).map fun r => (k : Int) :: r).length < 4294967296 := by
              rw [List.length_append, wordsTo_len, List.length_map, List.length_take, ← HR.out]
              have : k * R.length ≤ 5 * 3125 := Nat.mul_le_mul (by omega) hlen
              omega
            have hbc : Below wr.heap.size wr (wr.alloc (Obj.cells #[Value.int .i64 (k : Int)] 3)) := bal0 wr _
            have HL := Lib.hid (And.intro (HX.out.2.below hbc (Nat.le_refl _)) (Own.lit (enc := eInt) (e := 3) wr wr.heap.size #[Value.int .i64 (k : Int)] [(k : Int)] rfl lenInt (Nat.le_refl _) (by simp [maxLen])))
            have HZ := Lib.hid hrz
            have HBC := Lib.hid hbc
            clear hv hr hri hbr hbc hrz
            go_wp2_with (first
              | (at_builtin; refine wp_apps okInt rfl (.tmp 29) (.tmp 33) rfl wr.heap.size (.slice (some ⟨wr.heap.size, 0, none⟩) 1 1) [(k : Int)] B r.length c r rfl rfl HL.out.1 HZ.out lenInt one_eInt HL.out.2 ?_ ?_ ?_ ?_; (simp; omega); (omega); (simp); intro v5 w5 hown5 hgr5 hb5; obtain ⟨A5, c5, hv5, hs5, hc5, hm5, hz5⟩ := own_shape hown5 lenInt; rw [hv5]; have hws : w1.heap.size ≤ w5.heap.size := (by have := hb5.size; simp at this; omega); have H5 := Lib.hid (And.intro (hv5 ▸ hown5) (HBC.out.trans hb5)); clear hown5 hgr5 hb5 hs5 hc5 hm5 hz5 hv5)
              | (at_builtin; refine wp_app_row rfl (.tmp 27) (.tmp 35) rfl w1.heap.size _ (.slice A5 ([(k : Int)] ++ r).length c5) (wordsTo n m k ++ (R.take q).map fun r => (k : Int) :: r) ([(k : Int)] ++ r) rfl ?_ (HQ.out.2.1.below H5.out.2 (Nat.le_refl _)) (H5.out.1.mono hsr) hll hws ?_; (simp [go_sem]); intro v6 w6 hog6 hb6 hk6; have H6 := Lib.hid (And.intro hog6 hb6); clear hog6 hb6 hk6))
            go_roundg (gk - 1)
            case measure => have := HQ.out.1; omega
            case rel =>
              refine ⟨q + 1, by have := HQ.out.1; omega, by go_num, ?_, (HQ.out.2.2.trans (H5.out.2.mono hsr)).trans H6.out.2⟩
              have h := H6.out.1
              rw [List.take_add_one, HX.out.1]
              simpa [List.append_assoc] using h
          · obtain rfl : q = R.length := by omega
            go_wp2
            go_roundg (g1 - 1)
            case measure => have := HK.out.1; omega
            case rel =>
              refine ⟨k + 1, by have := HK.out.1; omega, by go_num, ?_, HQ.out.2.2⟩
              have := HQ.out.2.1
              rw [List.take_of_length_le (Nat.le_refl _), HR.out] at this
              rw [wordsTo_succ]
              exact this
      · obtain rfl : k = n := by omega
        go_wp2
        go_ret
        exact ⟨_, rfl, HK.out.2.1.mono hs1, HO.out.2.trans (HK.out.2.2.mono hs1)⟩
end Go.Proofs.Ytoidaigiejilcaa
