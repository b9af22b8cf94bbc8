/- mark.Mistaken; mestaref03.Apart, Mistaken. -/
import Derived.Test.YtoidaigiejilcaaGridB
import Derived.Test.YtoidaigiejilcaaApart
namespace Go.Proofs.Ytoidaigiejilcaa
open Go.RowKit
set_option linter.unusedVariables false
set_option linter.unusedSimpArgs false

def mixAt (l : List Mk) (t : Int) (i j : Nat) : Int := mixedS (mkAt l (i : Int)) (mkAt l (j : Int)) t
def mistRow (l : List Mk) (t los : Int) (i k : Nat) : List (List Int) := ((List.range k).filter fun j => decide (i < j) && decide (mixAt l t i j ≤ los)).map fun (j : Nat) => [(i : Int), (j : Int)]
def mistTo (l : List Mk) (t los : Int) (i : Nat) : List (List Int) := (List.range i).flatMap fun i => mistRow l t los i l.length
def mistL (l : List Mk) (t los : Int) : List (List Int) := mistTo l t los l.length
theorem mistRow_start (l : List Mk) (t los : Int) (i : Nat) : mistRow l t los i (i + 1) = [] := by
  unfold mistRow
  rw [List.filter_eq_nil_iff.2, List.map_nil]
  intro j hj
  have : j < i + 1 := by simpa using hj
  simp; omega
theorem mistRow_succ (l : List Mk) (t los : Int) {i k : Nat} (h : i < k) : mistRow l t los i (k + 1) = mistRow l t los i k ++ if mixAt l t i k ≤ los then [[(i : Int), (k : Int)]] else [] := by
  unfold mistRow
  rw [List.range_succ, List.filter_append, List.map_append]
  congr 1
  by_cases h2 : mixAt l t i k ≤ los <;> simp [List.filter_cons, h, h2]
theorem mistTo_succ (l : List Mk) (t los : Int) (i : Nat) : mistTo l t los (i + 1) = mistTo l t los i ++ mistRow l t los i l.length := by
  unfold mistTo; rw [List.range_succ, List.flatMap_append]; simp
theorem mistRow_len (l : List Mk) (t los : Int) (i k : Nat) : (mistRow l t los i k).length ≤ k := by
  unfold mistRow; rw [List.length_map]
  have := List.length_filter_le (fun j => decide (i < j) && decide (mixAt l t i j ≤ los)) (List.range k)
  simpa using this
theorem mistTo_len (l : List Mk) (t los : Int) : ∀ i, (mistTo l t los i).length ≤ i * l.length
  | 0 => by simp [mistTo]
  | i + 1 => by
    rw [mistTo_succ, List.length_append, Nat.succ_mul]
    have := mistTo_len l t los i
    have := mistRow_len l t los i l.length
    omega
def mistE (t : Int) (l : List Mk) (los : Int) : Int := if check t l ≠ 0 then check t l else if btw los 0 4 = false then 1 else 0
def mistR (t : Int) (l : List Mk) (los : Int) : List (List Int) := if mistE t l los = 0 then mistL l t los else []
theorem mixAt_of {l : List Mk} {t : Int} {i k : Nat} {x y : Mk} (hx : l[i]? = some x) (hy : l[k]? = some y) : mixAt l t i k = mixedS x y t := by unfold mixAt mkAt; simp [hx, hy]

set_option maxRecDepth 100000 in
set_option maxHeartbeats 4000000 in
theorem Mistaken_any (t : Int) (A : Option Addr) (n c : Nat) (l : List Mk) (los : Int) (w : World) (hl : Marks w A n l) (hlc : n ≤ c) (hcm : c ≤ maxLen) :
    Calls Try.prog 49 #[.agg #[.int .i64 t, .slice A n c], .int .i64 los] w fun e w' => ∃ v, e = .returned (.tuple #[v, .int .i64 (mistE t l los)]) ∧ OwnG w' w.heap.size v (mistR t l los) ∧ Below w.heap.size w w' := by
  have HL := Lib.hid hl
  have HN := Lib.hid hl.len
  obtain ⟨W0, hW⟩ : ∃ W0, W0 = w.alloc (Obj.cells #[Value.int .i64 t, .slice A n c] 25) := ⟨_, rfl⟩
  have hB0 : Below w.heap.size w W0 := by rw [hW]; exact bal0 w _
  have b2 : W0.heap[w.heap.size]? = some (Obj.cells #[Value.int .i64 t, .slice A n c] 25 (0, 0)) := by rw [hW]; exact alloc_at rfl
  have hl0 := hl.below hB0 (Nat.le_refl _)
  clear hl
  go_enter Try.func49, Try.ntmps49
  go_upto_region 1 with (fail)
  rw [← hW]
  clear hW
  obtain ⟨r0, r1⟩ := blk2 b2
  go_wp2_with fail
  refine (check_any t A n c l _ hl0 hlc hcm).mono ?_
  rintro e w1 ⟨rfl, hb1⟩
  have hB1 := hB0.trans (hb1.mono hB0.size)
  have b21 := bheap b2 hb1 (Nat.le_refl _)
  clear r0 r1 b2 hB0 hb1 hl0
  obtain ⟨r0, r1⟩ := blk2 b21
  by_cases hck : check t l = 0
  · have h0 : (check t l != 0) = false := by simp [hck]
    have HC := Lib.hid hck
    have hn5 : n ≤ 5 := by have := (check_ok hck).2.2.1; have := HN.out; omega
    clear hck
    go_wp2_with fail
    refine (between_any _ _ _ _).mono ?_
    rintro e w2 ⟨rfl, rfl⟩
    cases hbt : btw los 0 4
    · have HE := Lib.hid (show mistE t l los = 1 by unfold mistE; rw [if_neg (by simp [HC.out]), if_pos hbt])
      go_wp2
      go_ret2
      exact ⟨.slice none 0 0, ret_val HE.out.symm, by unfold mistR; rw [if_neg (by rw [HE.out]; omega)]; exact OwnG.nil_, hB1⟩
    · have HE := Lib.hid (show mistE t l los = 0 by unfold mistE; rw [if_neg (by simp [HC.out]), if_neg (by simp [hbt])])
      clear hbt
      go_wp2_with fail
      have HB := Lib.hid (And.intro b21 hB1)
      have hs1 : w.heap.size < w1.heap.size := heap_lt b21
      clear b21 hB1 h0
      go_loopg [7, 22] n (fun g v i wr => ∃ k : Nat, k + g = n ∧ i = .int .i64 k ∧ OwnG wr w1.heap.size v (mistTo l t los k) ∧ Below w1.heap.size w1 wr)
      case atStart => exact ⟨0, by omega, rfl, OwnG.nil_, Below.refl _ _⟩
      case round =>
        obtain ⟨k, hk, rfl, hown, hbl⟩ := hrel
        obtain ⟨wo, rfl⟩ : ∃ wo : World, wo = wr := ⟨_, rfl⟩
        obtain ⟨g1, rfl⟩ : ∃ g1 : Nat, g1 = gk := ⟨_, rfl⟩
        have HK := Lib.hid (And.intro hk hown)
        have hkn : k ≤ n := by omega
        clear hk hown
        have hs0 := hbl.size
        by_cases hlt : k < n
        · obtain ⟨b, off, x, rfl, hb, hx, c0, c1, c2⟩ := Marks.get ((HL.out.below HB.out.2 (Nat.le_refl _)).below hbl (Nat.le_refl _)) hlt
          have HX := Lib.hid hx
          have hxv := (check_marks HC.out x (List.mem_of_getElem? hx)).1
          clear hx
          have i0 : (0 : Int) ≤ (k : Int) := by omega
          have i1 : (k : Int) < (n : Int) := by omega
          go_wp2_with fail
          obtain ⟨W2, hW2⟩ : ∃ W2, W2 = wo.alloc (Obj.cells #[Value.int .i64 x.n, .int .i64 x.b, .int .i64 x.p] 46) := ⟨_, rfl⟩
          rw [← hW2]
          have m2 : W2.heap[wo.heap.size]? = some (Obj.cells #[Value.int .i64 x.n, .int .i64 x.b, .int .i64 x.p] 46 (0, 0)) := by rw [hW2]; exact alloc_at rfl
          have hb2 : Below wo.heap.size wo W2 := by rw [hW2]; exact bal0 wo _
          clear hW2 c0 c1 c2 r0 r1
          have hB2 := hbl.trans (hb2.mono hbl.size)
          have HM := Lib.hid (And.intro m2 (And.intro hB2 (HK.out.2.below hb2 (Nat.le_refl _))))
          clear m2 hb2
          have hz2 := hB2.size
          go_loopg [7, 10] (n - (k + 1)) (fun g v j wr => ∃ q : Nat, q + g = n ∧ k < q ∧ j = .int .i64 q ∧ OwnG wr w1.heap.size v (mistTo l t los k ++ mistRow l t los k q) ∧ Below w1.heap.size w1 wr ∧ wr.heap[wo.heap.size]? = some (Obj.cells #[Value.int .i64 x.n, .int .i64 x.b, .int .i64 x.p] 46 (0, 0)))
          case atStart => exact ⟨k + 1, by have := HK.out.1; omega, by omega, by go_num, by rw [mistRow_start, List.append_nil]; exact HM.out.2.2, HM.out.2.1, HM.out.1⟩
          case round =>
            obtain ⟨q, hq, hkq, rfl, hown, hBi, hmk⟩ := hrel
            have HQ := Lib.hid (And.intro hq hown)
            have hqn : q ≤ n := by omega
            clear hq hown
            obtain ⟨p0, p1, p2⟩ := blk3 hmk
            obtain ⟨r0, r1⟩ := blk2 (bheap HB.out.1 hBi (Nat.le_refl _))
            by_cases hqk : q < n
            · obtain ⟨b', off', y, hA, hb', hy, d0, d1, d2⟩ := Marks.get ((HL.out.below HB.out.2 (Nat.le_refl _)).below hBi (Nat.le_refl _)) hqk
              obtain ⟨rfl, rfl⟩ : b' = b ∧ off' = off := by simpa [eq_comm] using hA
              have HY := Lib.hid (mixAt_of (t := t) HX.out hy)
              have hyv := (check_marks HC.out y (List.mem_of_getElem? hy)).1
              clear hy hA
              have j0 : (0 : Int) ≤ (q : Int) := by omega
              have j1 : (q : Int) < (n : Int) := by omega
              have cM : ∀ d os, Calls Try.prog 92 #[vMk x, vMk y, .int .i64 t] (Sort.grow (redrawn wr d) os) (fun e w'' => e = .returned (.int .i64 (mixedS x y t)) ∧ ∃ p : Regrown, w'' = Sort.grow (redrawn wr p.d) p.os) := fun d os =>
                Calls.regrown_of (mixed_any x y t _ hxv.1 hxv.2 hyv.1 hyv.2)
              unfold vMk at cM
              have HCM := Lib.hid cM
              clear cM
              go_upto_region 13 with (fail)
              have k0 := cell_regrown p0
              have k1 := cell_regrown p1
              have k2 := cell_regrown p2
              have k3 := cell_regrown r0
              have k4 := cell_regrown r1
              have k5 := cell_regrown d0
              have k6 := cell_regrown d1
              have k7 := cell_regrown d2
              refine wp_region_quiet_below (by kernel_rfl) (by kernel_rfl) ?_
              repeat (quiet_step (exact HCM.out _ _))
              refine wpQuiet_nil ?_
              intro _ hw'
              obtain ⟨⟨dq, osq⟩, hw''⟩ := hw'
              subst hw''
              obtain ⟨W3, hW3⟩ : ∃ W3, W3 = Sort.grow (redrawn wr dq) osq := ⟨_, rfl⟩
              have hb3 : Below wr.heap.size wr W3 := by rw [hW3]; exact below_regrown wr dq osq
              rw [← hW3]
              have hbi3 := hBi.trans (hb3.mono hBi.size)
              have hs3 := hbi3.size
              have hmk3 := bheap hmk hb3 (Nat.le_refl _)
              have HO3 := Lib.hid (HQ.out.2.below hb3 (Nat.le_refl _))
              have hlen : (mistTo l t los k ++ mistRow l t los k q).length < 4294967296 := by
                have h1 := mistTo_len l t los k
                have h2 := mistRow_len l t los k q
                have h3 : k * l.length ≤ 5 * 5 := Nat.mul_le_mul (by omega) (by have := HN.out; omega)
                rw [List.length_append]; omega
              clear hW3 k0 k1 k2 k3 k4 k5 k6 k7 p0 p1 p2 d0 d1 d2 hb3
              by_cases hml : mixedS x y t ≤ los
              · have HL2 := Lib.hid hml
                go_wp2_with (at_builtin; refine wp_app_row rfl (.tmp 47) (.tmp 51) rfl w1.heap.size _ _ (mistTo l t los k ++ mistRow l t los k q) [(k : Int), (q : Int)] rfl ?_ ((HO3.out).below (bal0 _ _) (Nat.le_refl _)) (own_pair _ _ _ _ (by omega)) hlen ?_ ?_)
                · simp [go_sem]
                · simp; omega
                intro v4 w4 ho4 hb4 hk4
                have HO4 := Lib.hid ho4
                have hb4' := (hbi3.trans ((bal0 W3 _).mono hs3)).trans hb4
                have hmk4 := hk4 _ _ _ (by decide) (hblk_alloc hmk3 _)
                clear ho4 hk4
                go_wp2
                go_roundg (gk - 1)
                case measure => have := HQ.out.1; omega
                case rel => exact ⟨q + 1, by have := HQ.out.1; omega, by omega, by go_num, by rw [mistRow_succ _ _ _ hkq, if_pos (by rw [HY.out]; exact HL2.out)]; simpa [List.append_assoc] using HO4.out, hb4', hmk4⟩
              · have HL2 := Lib.hid hml
                go_wp2
                go_roundg (gk - 1)
                case measure => have := HQ.out.1; omega
                case rel => exact ⟨q + 1, by have := HQ.out.1; omega, by omega, by go_num, by rw [mistRow_succ _ _ _ hkq, if_neg (by rw [HY.out]; have := HL2.out; omega), List.append_nil]; exact HO3.out, hbi3, hmk3⟩
            · obtain rfl : q = n := by omega
              go_wp2
              go_roundg (g1 - 1)
              case measure => have := HK.out.1; omega
              case rel => exact ⟨k + 1, by have := HK.out.1; omega, by go_num, by rw [mistTo_succ, HN.out]; exact HQ.out.2, hBi⟩
        · obtain rfl : k = n := by omega
          go_wp2
          go_ret2
          exact ⟨_, ret_val HE.out.symm, by unfold mistR mistL; rw [if_pos HE.out, HN.out]; exact HK.out.2.mono HB.out.2.size, HB.out.2.trans (hbl.mono HB.out.2.size)⟩
  · have h0 : (check t l != 0) = true := by simp [hck]
    have HE := Lib.hid (show mistE t l los = check t l by unfold mistE; rw [if_pos hck])
    have HC := Lib.hid hck
    clear hck
    go_wp2
    go_ret2
    exact ⟨.slice none 0 0, ret_val HE.out.symm, by unfold mistR; rw [if_neg (by rw [HE.out]; exact HC.out)]; exact OwnG.nil_, hB1⟩
end Go.Proofs.Ytoidaigiejilcaa
