/- mestaref03: within, has, torn, CheckMark, Check, CheckSight, isOwner: the reference's small functions compute what the program's do.
   mestaref03.Check, CheckSight.
   mestaref03.Fits, may, May, Verdict.
   mestaref03.Verdict. -/
import Derived.Test.YtoidaigiejilcaaCheck
import Derived.Test.YtoidaigiejilcaaBase
import Derived.Test.YtoidaigiejilcaaMay
import Derived.Test.YtoidaigiejilcaaLaw
namespace Go.Proofs.Ytoidaigiejilcaa
open Go.RowKit
set_option linter.unusedVariables false
set_option linter.unusedSimpArgs false

theorem rWithin (n lo hi : Int) (w : World) :
    Calls Try.prog 112 #[.int .i64 n, .int .i64 lo, .int .i64 hi] w fun e w' => e = .returned (.bool (btw n lo hi)) ∧ w = w' := by
  by_cases h1 : lo ≤ n <;> by_cases h2 : n ≤ hi
  all_goals
    go_enter Try.func112, Try.ntmps112
    go_wp2
    go_ret
    exact ⟨by simp [btw, h1, h2], rfl⟩

theorem rHas (n : Int) (b : Nat) (w : World) (hn : 0 ≤ n) (hn' : n ≤ 255) (hb : b ≤ 8) :
    Calls Try.prog 62 #[.int .i64 n, .int .i64 b] w fun e w' => e = .returned (.bool (bit n b)) ∧ w = w' := by
  obtain ⟨l, rfl⟩ := Int.eq_ofNat_of_zero_le hn
  have hl : l ≤ 255 := by omega
  go_enter Try.func62, Try.ntmps62
  go_wp2_with fail
  go_loopg [0, 5] b (fun g x i wr => ∃ k : Nat, k + g = b ∧ i = .int .i64 k ∧ ∃ q : Nat, x = .int .i64 q ∧ q = l / 2 ^ k ∧ w = wr)
  case atStart => exact ⟨0, by omega, rfl, l, rfl, by simp, rfl⟩
  case round =>
    obtain ⟨k, hk, rfl, q, rfl, hq, rfl⟩ := hrel
    have HK := Lib.hid (And.intro hk hq)
    have hkb : k ≤ b := by omega
    have hql : q ≤ 255 := by have := Nat.div_le_self l (2 ^ k); omega
    clear hk hq
    by_cases hlt : k < b
    · go_wp2
      go_roundg (gk - 1)
      case measure => have := HK.out.1; omega
      case rel =>
        refine ⟨k + 1, by have := HK.out.1; omega, by go_num, q / 2, ?_, by rw [HK.out.2, Nat.pow_succ, Nat.div_div_eq_div_mul], rfl⟩
        congr 1
    · obtain rfl : k = b := by omega
      go_wp2
      go_ret
      refine ⟨ret_bool ?_, rfl⟩
      unfold bit
      rw [Int.toNat_natCast, Nat.testBit_eq_decide_div_mod_eq, ← HK.out.2, Bool.eq_iff_iff]
      simp only [beq_iff_eq, decide_eq_true_eq]
      omega
theorem rTorn (s : Sg) (b : Nat) (w : World) (hb : b ≤ 8) :
    Calls Try.prog 61 #[vSg s, .int .i64 b] w fun e w' => e = .returned (.bool (tornB s.l s.r b)) ∧ Below w.heap.size w w' := by
  obtain ⟨sn, l, r, sb, sp⟩ := s
  unfold vSg
  by_cases h4 : b < 4
  · have h4' : (b : Int) < 4 := by omega
    have h4c : ¬ (4 : Int) ≤ (b : Int) := by omega
    have h4n : ¬ 4 ≤ b := by omega
    cases l
    all_goals
      go_enter Try.func61, Try.ntmps61
      go_wp2
      go_ret
      exact ⟨ret_bool (by simp [tornB, h4, h4n]), bal0 _ _⟩
  · have h4' : ¬ (b : Int) < 4 := by omega
    have h4c : (4 : Int) ≤ (b : Int) := by omega
    have h4n : 4 ≤ b := by omega
    cases r
    all_goals
      go_enter Try.func61, Try.ntmps61
      go_wp2
      go_ret
      exact ⟨ret_bool (by simp [tornB, h4, h4n]), bal0 _ _⟩
theorem rCheckMark (m : Mk) (w : World) :
    Calls Try.prog 123 #[vMk m] w fun e w' => e = .returned (.int .i64 (if mkOk m then 0 else 1)) ∧ Below w.heap.size w w' := by
  obtain ⟨n, b, p⟩ := m
  obtain ⟨R, hR⟩ : ∃ R : Int, R = if mkOk ⟨n, b, p⟩ then 0 else 1 := ⟨_, rfl⟩
  rw [← hR]
  have HR := Lib.hid hR
  clear hR
  unfold vMk
  cases h1 : btw n 0 255 <;> cases h2 : btw b 0 9 <;> cases h3 : btw p 0 6
  all_goals
    have HE := Lib.hid (And.intro h1 (And.intro h2 h3))
    go_enter Try.func123, Try.ntmps123
    go_wp2_with (go_at_call 112; refine (rWithin _ _ _ _).mono ?_; rintro e w' ⟨rfl, rfl⟩)
    go_ret
    refine ⟨ret_int ?_, bal0 _ _⟩
    rw [HR.out]
    simp [mkOk, HE.out.1, HE.out.2.1, HE.out.2.2]
end Go.Proofs.Ytoidaigiejilcaa

namespace Go.Proofs.Ytoidaigiejilcaa
open Go.RowKit
set_option linter.unusedVariables false
set_option linter.unusedSimpArgs false

set_option maxRecDepth 100000 in
set_option maxHeartbeats 2000000 in
theorem rCheck (t : Int) (A : Option Addr) (n c : Nat) (l : List Mk) (w : World) (hc : Marks w A n l) (hlc : n ≤ c) (hcm : c ≤ maxLen) :
    Calls Try.prog 110 #[.agg #[.int .i64 t, .slice A n c]] w fun e w' => e = .returned (.int .i64 (check t l)) ∧ Below w.heap.size w w' := by
  have hl := hc.len
  have HL := Lib.hid hl
  unfold maxLen at hcm
  have hb0 : Below w.heap.size w (w.alloc (Obj.cells #[Value.int .i64 t, Value.slice A n c] 25)) := bal0 w _
  by_cases h1 : btw t 0 2 = true
  · by_cases h2 : n ≤ 5
    · have hck : check t l = chk l (n - 0) 0 := by
        unfold check; rw [if_neg (by simp [h1]), if_neg (by omega), hl]; rfl
      have HC := Lib.hid hck
      clear hl hck
      have h3 : decide ((5 : Int) < (n : Int)) = false := by simp; omega
      go_enter Try.func110, Try.ntmps110
      go_wp2_with (go_at_call 112; refine (rWithin _ _ _ _).mono ?_; rintro e w' ⟨rfl, rfl⟩)
      obtain ⟨W0, hW⟩ : ∃ W0, W0 = w.alloc (Obj.cells #[Value.int .i64 t, Value.slice A n c] 25) := ⟨_, rfl⟩
      rw [← hW]
      have hblk : W0.heap[w.heap.size]? = some (Obj.cells #[Value.int .i64 t, Value.slice A n c] 25 (0, 0)) := by rw [hW]; exact alloc_at rfl
      rw [← hW] at hb0
      have hc0 := hc.below hb0 (Nat.le_refl _)
      clear hW hc
      have hw0 := heap_lt hblk
      have HC0 := Lib.hid (And.intro hc0 (And.intro hblk hb0))
      clear hc0 hblk hb0
      go_loopg [3] n (fun g i wr => ∃ k : Nat, k + g = n ∧ i = .int .i64 k ∧ chk l (n - 0) 0 = chk l (n - k) k ∧ Below W0.heap.size W0 wr)
      case atStart => exact ⟨0, by omega, rfl, rfl, Below.refl _ _⟩
      case round =>
        obtain ⟨k, hk, rfl, hchk, hbl⟩ := hrel
        obtain ⟨wo, rfl⟩ : ∃ wo : World, wo = wr := ⟨_, rfl⟩
        obtain ⟨g1, rfl⟩ : ∃ g1 : Nat, g1 = gk := ⟨_, rfl⟩
        have HK := Lib.hid (And.intro hk hchk)
        have hk' : k ≤ n := by omega
        clear hchk hk
        have hs0 := hbl.size
        obtain ⟨r0, r1⟩ := blk2 (bheap HC0.out.2.1 hbl (Nat.le_refl _))
        by_cases hlt : k < n
        · obtain ⟨b, off, m, rfl, hb, hm, c0, c1, c2⟩ := Marks.get (HC0.out.1.below hbl (Nat.le_refl _)) hlt
          have HM := Lib.hid hm
          have HS := Lib.hid (chk_step HL.out hlt hm)
          clear hm
          cases hmk : mkOk m
          · have HE := Lib.hid hmk
            clear hmk
            go_wp2_with fail
            have hcm2 := rCheckMark m wo
            rw [HE.out] at hcm2
            refine hcm2.mono ?_
            rintro e w2 ⟨rfl, hb2⟩
            have hbl2 := hbl.trans (hb2.mono hs0)
            go_wp2
            go_ret
            exact ⟨ret_int (by rw [HC.out, HK.out.2, HS.out, if_pos HE.out]), HC0.out.2.2.trans (hbl2.mono HC0.out.2.2.size)⟩
          · have HE := Lib.hid hmk
            clear hmk
            go_wp2_with fail
            have hcm2 := rCheckMark m wo
            rw [HE.out] at hcm2
            refine hcm2.mono ?_
            rintro e w2 ⟨rfl, hb2⟩
            have hbl2 := hbl.trans (hb2.mono hs0)
            clear r0 r1 c0 c1 c2 hb2 hcm2
            simp only [if_true]
            go_wp2_with fail
            go_loopg [5] k (fun g i wr => ∃ q : Nat, q + g = k ∧ i = .int .i64 q ∧ (l.take q).contains m = false ∧ ∃ d, wr = w2.drewN d)
            case atStart => exact ⟨0, by omega, rfl, by simp, 0, rfl⟩
            case round =>
              obtain ⟨q, hq, rfl, hno, d, rfl⟩ := hrel
              have HQ := Lib.hid (And.intro hq hno)
              have hq' : q ≤ k := by omega
              clear hno hq
              obtain ⟨r0, r1⟩ := blk2 (bheap HC0.out.2.1 hbl2 (Nat.le_refl _))
              by_cases hqk : q < k
              · obtain ⟨b1, off1, x, hA, hb1, hx, d0, d1, d2⟩ := Marks.get (HC0.out.1.below hbl2 (Nat.le_refl _)) (show q < n by omega)
                obtain ⟨b2, off2, y, hA2, hb2, hy, e0, e1, e2⟩ := Marks.get (HC0.out.1.below hbl2 (Nat.le_refl _)) hlt
                obtain ⟨rfl, rfl⟩ : b = b1 ∧ off = off1 := by simpa using hA
                obtain ⟨rfl, rfl⟩ : b = b2 ∧ off = off2 := by simpa using hA2
                obtain rfl : m = y := Option.some.inj (HM.out.symm.trans hy)
                have HX := Lib.hid hx
                clear hx hA hA2 hy
                have i0 : (0 : Int) ≤ (q : Int) := by omega
                have i1 : (q : Int) < (n : Int) := by omega
                have i2 : (0 : Int) ≤ (k : Int) := by omega
                have i3 : (k : Int) < (n : Int) := by omega
                by_cases hxm : x = m
                · subst hxm
                  go_upto_region 14 with (fail)
                  go_quiet (fail)
                  go_wp2
                  go_ret
                  refine ⟨ret_int ?_, ?_⟩
                  · rw [HC.out, HK.out.2, HS.out, if_neg (by simp [HE.out]), if_pos (take_yes HX.out hqk)]
                  · exact HC0.out.2.2.trans ((below_drewN (below_drewN hbl2 _) _).mono HC0.out.2.2.size)
                · have HNE := Lib.hid hxm
                  cases f1 : (x.n == m.n) <;> cases f2 : (x.b == m.b) <;> cases f3 : (x.p == m.p)
                  case true.true.true =>
                    exfalso
                    exact hxm (by cases x; cases m; simp at f1 f2 f3; simp [f1, f2, f3])
                  all_goals
                    clear hxm
                    go_upto_region 14 with (fail)
                    go_quiet (fail)
                    go_wp2
                    go_roundg (gk - 1)
                    case measure => have := HQ.out.1; omega
                    case rel => exact ⟨q + 1, by have := HQ.out.1; omega, by go_num, take_no HQ.out.2 HX.out HNE.out, _, rfl⟩
              · obtain rfl : q = k := by omega
                go_wp2
                go_roundg (g1 - 1)
                case measure => have := HK.out.1; omega
                case rel =>
                  refine ⟨q + 1, by have := HK.out.1; omega, by go_num, ?_, below_drewN hbl2 _⟩
                  rw [HK.out.2, HS.out, if_neg (by simp [HE.out]), if_neg (by rw [HQ.out.2]; simp)]
        · obtain rfl : k = n := by omega
          go_wp2
          go_ret
          exact ⟨ret_int (by rw [HC.out, HK.out.2, Nat.sub_self]; rfl), HC0.out.2.2.trans (hbl.mono HC0.out.2.2.size)⟩
    · have h3 : decide ((5 : Int) < (n : Int)) = true := by simp; omega
      have hck : check t l = 6 := by
        unfold check; rw [if_neg (by simp [h1]), if_pos (by omega)]
      have HC := Lib.hid hck
      clear hl hck
      go_enter Try.func110, Try.ntmps110
      go_wp2_with (go_at_call 112; refine (rWithin _ _ _ _).mono ?_; rintro e w' ⟨rfl, rfl⟩)
      go_ret
      exact ⟨ret_int HC.out.symm, hb0⟩
  · have h1' : btw t 0 2 = false := by simpa using h1
    have hck : check t l = 1 := by
      unfold check; rw [if_pos h1']
    have HC := Lib.hid hck
    clear hl hck h1
    go_enter Try.func110, Try.ntmps110
    go_wp2_with (go_at_call 112; refine (rWithin _ _ _ _).mono ?_; rintro e w' ⟨rfl, rfl⟩)
    go_ret
    exact ⟨ret_int HC.out.symm, hb0⟩

/-- a notch on an ear that is torn, among the first k places -/
def hasTorn (s : Sg) (k : Nat) : Bool := (List.range k).any fun i => tornB s.l s.r i && bit s.n i
theorem hasTorn_succ (s : Sg) (k : Nat) : hasTorn s (k + 1) = (hasTorn s k || (tornB s.l s.r k && bit s.n k)) := by
  unfold hasTorn; rw [List.range_succ, List.any_append]; simp
theorem hasTorn_on {s : Sg} (h0 : 0 ≤ s.n) (h1 : s.n ≤ 255) : hasTorn s 8 = false ↔ onI s.n s.l s.r = s.n := by
  constructor
  · intro h
    refine bits_ext (onI_lo _ _ _) (onI_hi _ _ _) h0 h1 fun i hi => ?_
    rw [bit_on _ _ _ _ hi]
    have := (List.any_eq_false.1 h) i (by simpa using hi)
    revert this
    cases tornB s.l s.r i <;> cases bit s.n i <;> simp
  · intro h
    refine List.any_eq_false.2 fun i hi => ?_
    have hi' : i < 8 := by simpa using hi
    have := bit_on s.n s.l s.r i hi'
    rw [h] at this
    revert this
    cases tornB s.l s.r i <;> cases bit s.n i <;> simp
theorem hasTorn_mono {s : Sg} {k : Nat} (hk : k < 8) (h : (tornB s.l s.r k && bit s.n k) = true) : hasTorn s 8 = true := by
  refine List.any_eq_true.2 ⟨k, by simpa using hk, h⟩
theorem seen_ref {s : Sg} : seen s 9 6 = if btw s.n 0 255 = false then 1 else if hasTorn s 8 then 8 else if btw s.b (-1) 9 && btw s.p (-1) 6 then 0 else 1 := by
  unfold seen
  by_cases h1 : btw s.n 0 255 = false
  · rw [if_pos h1, if_pos h1]
  · rw [if_neg h1, if_neg h1]
    rw [Bool.not_eq_false, btw_iff] at h1
    by_cases h2 : onI s.n s.l s.r = s.n
    · rw [if_neg (by simp [h2]), (hasTorn_on h1.1 h1.2).2 h2]
      simp only [Bool.false_eq_true, if_false]
      have e3 : (s.b ≠ -1 ∧ btw s.b 0 9 = false) ↔ btw s.b (-1) 9 = false := by rw [btw_no, btw_no]; omega
      have e4 : (s.p ≠ -1 ∧ btw s.p 0 6 = false) ↔ btw s.p (-1) 6 = false := by rw [btw_no, btw_no]; omega
      simp only [e3, e4]
      cases btw s.b (-1) 9 <;> cases btw s.p (-1) 6 <;> rfl
    · have h3 : hasTorn s 8 = true := by
        rw [← Bool.not_eq_false]; exact fun h => h2 ((hasTorn_on h1.1 h1.2).1 h)
      rw [if_pos h2, h3]; rfl
set_option maxRecDepth 100000 in
set_option maxHeartbeats 1000000 in
theorem rCheckSight (s : Sg) (w : World) :
    Calls Try.prog 111 #[vSg s] w fun e w' => e = .returned (.int .i64 (seen s 9 6)) ∧ Below w.heap.size w w' := by
  have HR := Lib.hid (seen_ref (s := s))
  obtain ⟨R, hR⟩ : ∃ R, R = seen s 9 6 := ⟨_, rfl⟩
  rw [← hR]
  have HRR := Lib.hid hR
  clear hR
  cases h1 : btw s.n 0 255
  · have HE := Lib.hid h1
    go_enter Try.func111, Try.ntmps111
    unfold vSg
    go_wp2_with (go_at_call 112; refine (rWithin _ _ _ _).mono ?_; rintro e w' ⟨rfl, rfl⟩)
    go_ret
    exact ⟨ret_int (by rw [HRR.out, HR.out, if_pos HE.out]), bal0 _ _⟩
  · have hn := btw_iff.1 h1
    have HE := Lib.hid h1
    obtain ⟨hn0, hn1⟩ := hn
    go_enter Try.func111, Try.ntmps111
    unfold vSg
    go_wp2_with (go_at_call 112; refine (rWithin _ _ _ _).mono ?_; rintro e w' ⟨rfl, rfl⟩)
    clear h1
    obtain ⟨W0, hW⟩ : ∃ W0, W0 = w.alloc (Obj.cells #[Value.int .i64 s.n, .bool s.l, .bool s.r, .int .i64 s.b, .int .i64 s.p] 44) := ⟨_, rfl⟩
    rw [← hW]
    have hblk : W0.heap[w.heap.size]? = some (Obj.cells #[Value.int .i64 s.n, .bool s.l, .bool s.r, .int .i64 s.b, .int .i64 s.p] 44 (0, 0)) := by rw [hW]; exact alloc_at rfl
    have hB0 : Below w.heap.size w W0 := by rw [hW]; exact bal0 w _
    clear hW
    have HB := Lib.hid (And.intro hblk hB0)
    clear hblk hB0
    go_loopg [3] 8 (fun g i wr => ∃ k : Nat, k + g = 8 ∧ i = .int .i64 k ∧ hasTorn s k = false ∧ Below W0.heap.size W0 wr)
    case atStart => exact ⟨0, by omega, rfl, rfl, Below.refl _ _⟩
    case round =>
      obtain ⟨k, hk, rfl, hno, hbl⟩ := hrel
      have HK := Lib.hid (And.intro hk hno)
      have hk8 : k ≤ 8 := by omega
      clear hk hno
      obtain ⟨s0, s1, s2, s3, s4⟩ := blk5 (bheap HB.out.1 hbl (Nat.le_refl _))
      by_cases hlt : k < 8
      · have hlt' : (k : Int) < 8 := by omega
        go_wp2_with fail
        refine (rTorn s k _ hk8).mono ?_
        rintro e w2 ⟨rfl, hb2⟩
        have hbl2 := hbl.trans (hb2.mono hbl.size)
        clear s0 s1 s2 s3 s4 hb2
        obtain ⟨s0, s1, s2, s3, s4⟩ := blk5 (bheap HB.out.1 hbl2 (Nat.le_refl _))
        cases ht : tornB s.l s.r k
        · have HT := Lib.hid ht
          go_wp2
          go_roundg (gk - 1)
          case measure => have := HK.out.1; omega
          case rel => exact ⟨k + 1, by have := HK.out.1; omega, by go_num, by rw [hasTorn_succ, HK.out.2, HT.out]; rfl, hbl2⟩
        · have HT := Lib.hid ht
          go_wp2_with fail
          refine (rHas s.n k _ hn0 hn1 hk8).mono ?_
          rintro e w3 ⟨rfl, rfl⟩
          cases hb : bit s.n k
          · have HBT := Lib.hid hb
            go_wp2
            go_roundg (gk - 1)
            case measure => have := HK.out.1; omega
            case rel => exact ⟨k + 1, by have := HK.out.1; omega, by go_num, by rw [hasTorn_succ, HK.out.2, HT.out, HBT.out]; rfl, hbl2⟩
          · have HBT := Lib.hid hb
            go_wp2
            go_ret
            have h8 := hasTorn_mono hlt (show (tornB s.l s.r k && bit s.n k) = true by rw [HT.out, HBT.out]; rfl)
            exact ⟨ret_int (by rw [HRR.out, HR.out, if_neg (by rw [HE.out]; simp), h8]; rfl), HB.out.2.trans (hbl2.mono HB.out.2.size)⟩
      · obtain rfl : k = 8 := by omega
        cases h2 : btw s.b (-1) 9 <;> cases h3 : btw s.p (-1) 6
        all_goals
          have H23 := Lib.hid (And.intro h2 h3)
          go_wp2_with (go_at_call 112; refine (rWithin _ _ _ _).mono ?_; rintro e w' ⟨rfl, rfl⟩)
          go_ret
          refine ⟨ret_int ?_, HB.out.2.trans (hbl.mono HB.out.2.size)⟩
          rw [HRR.out, HR.out, if_neg (by rw [HE.out]; simp), HK.out.2, H23.out.1, H23.out.2]
          rfl
end Go.Proofs.Ytoidaigiejilcaa

namespace Go.Proofs.Ytoidaigiejilcaa
open Go.RowKit
set_option linter.unusedVariables false
set_option linter.unusedSimpArgs false

def missB (s : Sg) (m : Mk) (i : Nat) : Bool := !tornB s.l s.r i && (bit m.n i && !bit s.n i)
def moreB (s : Sg) (m : Mk) (i : Nat) : Bool := !tornB s.l s.r i && (!bit m.n i && bit s.n i)
def anyTo (p : Nat → Bool) (k : Nat) : Bool := (List.range k).any p
def cntTo (p : Nat → Bool) (k : Nat) : Nat := (List.range k).countP p
theorem anyTo_succ (p : Nat → Bool) (k : Nat) : anyTo p (k + 1) = (anyTo p k || p k) := by unfold anyTo; rw [List.range_succ, List.any_append]; simp
theorem cntTo_succ (p : Nat → Bool) (k : Nat) : cntTo p (k + 1) = cntTo p k + if p k then 1 else 0 := by
  unfold cntTo; rw [List.range_succ, List.countP_append]; cases h : p k <;> simp [h]
theorem cntTo_le (p : Nat → Bool) (k : Nat) : cntTo p k ≤ k := by have := List.countP_le_length (p := p) (l := List.range k); simpa [cntTo] using this
theorem anyTo_at {p : Nat → Bool} {k : Nat} (hk : k < 8) (h : p k = true) : anyTo p 8 = true := List.any_eq_true.2 ⟨k, by simpa using hk, h⟩
theorem fits_ref {s : Sg} {m : Mk} {t : Int} (hm : m.n ≤ 255) (hs0 : 0 ≤ s.n) (hs1 : s.n ≤ 255) (ho : onI s.n s.l s.r = s.n) :
    fits s m t = (alikeBP s m && (!anyTo (missB s m) 8 && decide ((cntTo (moreB s m) 8 : Int) ≤ t))) := by
  have htorn : ∀ i, i < 8 → tornB s.l s.r i = true → bit s.n i = false := fun i hi h => by
    have := bit_on s.n s.l s.r i hi
    rw [ho, h] at this
    simpa using this
  have e1 : decide (butI (onI m.n s.l s.r) s.n = 0) = !anyTo (missB s m) 8 := by
    rw [Bool.eq_iff_iff, decide_eq_true_eq, eq_zero_iff (butI_lo _ _) (butI_hi _ _)]
    simp only [Bool.not_eq_true']
    constructor
    · intro h
      refine List.any_eq_false.2 fun i hi => ?_
      have hi' : i < 8 := by simpa using hi
      have := h i hi'
      rw [bit_but _ _ hs1 i hi', bit_on _ _ _ _ hi'] at this
      unfold missB
      revert this
      cases bit m.n i <;> cases bit s.n i <;> cases tornB s.l s.r i <;> simp
    · intro h i hi
      have := (List.any_eq_false.1 h) i (by simpa using hi)
      rw [bit_but _ _ hs1 i hi, bit_on _ _ _ _ hi]
      unfold missB at this
      revert this
      cases bit m.n i <;> cases bit s.n i <;> cases tornB s.l s.r i <;> simp
  have e2 : popI (butI s.n (onI m.n s.l s.r)) = cntTo (moreB s m) 8 := by
    unfold popI
    show cnt _ = cnt _
    refine cnt_congr fun i hi => ?_
    rw [bit_but _ _ (onI_hi _ _ _) i hi, bit_on _ _ _ _ hi]
    unfold moreB
    have := htorn i hi
    revert this
    cases bit m.n i <;> cases bit s.n i <;> cases tornB s.l s.r i <;> simp
  unfold fits
  rw [e1, e2, Bool.and_assoc]

set_option maxRecDepth 100000 in
set_option maxHeartbeats 2000000 in
theorem rFits (s : Sg) (m : Mk) (t : Int) (w : World) (hm0 : 0 ≤ m.n) (hm1 : m.n ≤ 255) (hs0 : 0 ≤ s.n) (hs1 : s.n ≤ 255) (ho : onI s.n s.l s.r = s.n) :
    Calls Try.prog 21 #[vSg s, vMk m, .int .i64 t] w fun e w' => e = .returned (.bool (fits s m t)) ∧ Below w.heap.size w w' := by
  have HF := Lib.hid (fits_ref (t := t) hm1 hs0 hs1 ho)
  obtain ⟨R, hR⟩ : ∃ R, R = fits s m t := ⟨_, rfl⟩
  rw [← hR]
  have HRR := Lib.hid hR
  clear hR ho
  go_enter Try.func21, Try.ntmps21
  unfold vSg vMk
  go_upto_region 1 with (fail)
  go_cut [30] (fun q wc => q = .bool (!alikeBP s m) ∧ ((w.alloc (Obj.cells #[Value.int .i64 s.n, .bool s.l, .bool s.r, .int .i64 s.b, .int .i64 s.p] 44)).alloc (Obj.cells #[Value.int .i64 m.n, .int .i64 m.b, .int .i64 m.p] 46)) = wc)
  case first =>
    cases e1 : (s.b != -1) <;> cases e2 : (s.b != m.b) <;> cases e3 : (s.p != -1) <;> cases e4 : (s.p != m.p)
    all_goals
      go_wp2
      go_meet
      exact ⟨by simp_all [alikeBP], rfl⟩
  case rest =>
    obtain ⟨rfl, rfl⟩ := hcut
    obtain ⟨W0, hW⟩ : ∃ W0, W0 = (w.alloc (Obj.cells #[Value.int .i64 s.n, .bool s.l, .bool s.r, .int .i64 s.b, .int .i64 s.p] 44)).alloc (Obj.cells #[Value.int .i64 m.n, .int .i64 m.b, .int .i64 m.p] 46) := ⟨_, rfl⟩
    rw [← hW]
    have hB0 : Below w.heap.size w W0 := by rw [hW]; exact bal (bal0 w _) (Nat.le_refl _) _
    have b0 : W0.heap[w.heap.size]? = some (Obj.cells #[Value.int .i64 s.n, .bool s.l, .bool s.r, .int .i64 s.b, .int .i64 s.p] 44 (0, 0)) := by rw [hW]; exact hblk_alloc (alloc_at rfl) _
    have b1 : W0.heap[w.heap.size + 1]? = some (Obj.cells #[Value.int .i64 m.n, .int .i64 m.b, .int .i64 m.p] 46 (0, 0)) := by rw [hW]; exact alloc_at (by simp)
    clear hW
    have HB := Lib.hid (And.intro b0 (And.intro b1 hB0))
    clear b0 b1 hB0
    cases hal : alikeBP s m
    · have HE := Lib.hid hal
      go_wp2
      go_ret
      exact ⟨ret_bool (by rw [HRR.out, HF.out, HE.out]; rfl), HB.out.2.2⟩
    · have HE := Lib.hid hal
      clear hal
      simp only [Bool.not_true]
      go_wp2_with fail
      go_loopg [7, 8] 8 (fun g x i wr => ∃ k : Nat, k + g = 8 ∧ i = .int .i64 k ∧ ∃ q : Nat, x = .int .i64 q ∧ q = cntTo (moreB s m) k ∧ anyTo (missB s m) k = false ∧ Below W0.heap.size W0 wr)
      case atStart => exact ⟨0, by omega, rfl, 0, rfl, rfl, rfl, Below.refl _ _⟩
      case round =>
        obtain ⟨k, hk, rfl, q, rfl, hq, hno, hbl⟩ := hrel
        have hqk : q ≤ k := by rw [hq]; exact cntTo_le _ _
        have HK := Lib.hid (And.intro hk (And.intro hq hno))
        have hk8 : k ≤ 8 := by omega
        clear hk hq hno
        obtain ⟨s0, s1, s2, s3, s4⟩ := blk5 (bheap HB.out.1 hbl (Nat.le_refl _))
        by_cases hlt : k < 8
        · have hlt' : (k : Int) < 8 := by omega
          go_wp2_with fail
          refine (rTorn s k _ hk8).mono ?_
          rintro e w2 ⟨rfl, hb2⟩
          have hbl2 := hbl.trans (hb2.mono hbl.size)
          clear s0 s1 s2 s3 s4 hb2
          obtain ⟨s0, s1, s2, s3, s4⟩ := blk5 (bheap HB.out.1 hbl2 (Nat.le_refl _))
          obtain ⟨m0, m1, m2⟩ := blk3 (bheap HB.out.2.1 hbl2 (Nat.le_refl _))
          cases ht : tornB s.l s.r k
          · cases hbm : bit m.n k <;> cases hbs : bit s.n k
            · have HT := Lib.hid (And.intro ht (And.intro hbm hbs))
              go_wp2_with (go_at_call 62; refine (rHas _ k _ (by assumption) (by assumption) hk8).mono ?_; rintro e w3 ⟨rfl, rfl⟩)
              go_roundg (gk - 1)
              case measure => have := HK.out.1; omega
              case rel => exact ⟨k + 1, by have := HK.out.1; omega, by go_num, q, rfl, by rw [cntTo_succ, HK.out.2.1]; simp [moreB, HT.out.1, HT.out.2.1, HT.out.2.2], by rw [anyTo_succ, HK.out.2.2]; simp [missB, HT.out.1, HT.out.2.1, HT.out.2.2], hbl2⟩
            · have HT := Lib.hid (And.intro ht (And.intro hbm hbs))
              go_wp2_with (go_at_call 62; refine (rHas _ k _ (by assumption) (by assumption) hk8).mono ?_; rintro e w3 ⟨rfl, rfl⟩)
              go_roundg (gk - 1)
              case measure => have := HK.out.1; omega
              case rel => exact ⟨k + 1, by have := HK.out.1; omega, by go_num, q + 1, by go_num, by rw [cntTo_succ, HK.out.2.1]; simp [moreB, HT.out.1, HT.out.2.1, HT.out.2.2], by rw [anyTo_succ, HK.out.2.2]; simp [missB, HT.out.1, HT.out.2.1, HT.out.2.2], hbl2⟩
            · have HT := Lib.hid (And.intro ht (And.intro hbm hbs))
              go_wp2_with (go_at_call 62; refine (rHas _ k _ (by assumption) (by assumption) hk8).mono ?_; rintro e w3 ⟨rfl, rfl⟩)
              go_ret
              have h8 := anyTo_at (p := missB s m) hlt (by simp [missB, HT.out.1, HT.out.2.1, HT.out.2.2])
              exact ⟨ret_bool (by rw [HRR.out, HF.out, h8]; simp), HB.out.2.2.trans (hbl2.mono HB.out.2.2.size)⟩
            · have HT := Lib.hid (And.intro ht (And.intro hbm hbs))
              go_wp2_with (go_at_call 62; refine (rHas _ k _ (by assumption) (by assumption) hk8).mono ?_; rintro e w3 ⟨rfl, rfl⟩)
              go_roundg (gk - 1)
              case measure => have := HK.out.1; omega
              case rel => exact ⟨k + 1, by have := HK.out.1; omega, by go_num, q, rfl, by rw [cntTo_succ, HK.out.2.1]; simp [moreB, HT.out.1, HT.out.2.1, HT.out.2.2], by rw [anyTo_succ, HK.out.2.2]; simp [missB, HT.out.1, HT.out.2.1, HT.out.2.2], hbl2⟩
          · have HT := Lib.hid ht
            go_wp2
            go_roundg (gk - 1)
            case measure => have := HK.out.1; omega
            case rel => exact ⟨k + 1, by have := HK.out.1; omega, by go_num, q, rfl, by rw [cntTo_succ, HK.out.2.1]; simp [moreB, HT.out], by rw [anyTo_succ, HK.out.2.2]; simp [missB, HT.out], hbl2⟩
        · obtain rfl : k = 8 := by omega
          go_wp2
          go_ret
          exact ⟨ret_bool (by rw [HRR.out, HF.out, HE.out, HK.out.2.2, ← HK.out.2.1]; simp), HB.out.2.2.trans (hbl.mono HB.out.2.2.size)⟩

set_option maxRecDepth 100000 in
set_option maxHeartbeats 2000000 in
theorem rMayB (t : Int) (A : Option Addr) (n c : Nat) (l : List Mk) (s : Sg) (w : World) (hl : Marks w A n l) (hn : n ≤ 4294967295) (hs : 0 ≤ s.n) (hs' : s.n ≤ 255) (ho : onI s.n s.l s.r = s.n) (hv : ∀ m ∈ l, 0 ≤ m.n ∧ m.n ≤ 255) :
    Calls Try.prog 113 #[.agg #[.int .i64 t, .slice A n c], vSg s] w fun e w' => ∃ v, e = .returned v ∧ OwnI w' w.heap.size v (mayL t l s) ∧ Below w.heap.size w w' := by
  have HV := Lib.hid (And.intro hv ho)
  have HL := Lib.hid hl.len
  obtain ⟨W0, hW⟩ : ∃ W0, W0 = (w.alloc (Obj.cells #[Value.int .i64 t, .slice A n c] 25)).alloc (Obj.cells #[Value.int .i64 s.n, .bool s.l, .bool s.r, .int .i64 s.b, .int .i64 s.p] 44) := ⟨_, rfl⟩
  have hB0 : Below w.heap.size w W0 := by rw [hW]; exact bal (bal0 w _) (Nat.le_refl _) _
  have b2 : W0.heap[w.heap.size]? = some (Obj.cells #[Value.int .i64 t, .slice A n c] 25 (0, 0)) := by rw [hW]; exact hblk_alloc (alloc_at rfl) _
  have b3 : W0.heap[w.heap.size + 1]? = some (Obj.cells #[Value.int .i64 s.n, .bool s.l, .bool s.r, .int .i64 s.b, .int .i64 s.p] 44 (0, 0)) := by rw [hW]; exact alloc_at (by simp)
  have hl0 := hl.below hB0 (Nat.le_refl _)
  clear hv ho hl
  go_enter Try.func113, Try.ntmps113
  unfold vSg
  go_wp2_with fail
  rw [← hW]
  clear hW
  have hw0 : w.heap.size + 1 < W0.heap.size := heap_lt b3
  have HB := Lib.hid (And.intro b2 (And.intro b3 (And.intro hB0 hl0)))
  clear b2 b3 hB0 hl0
  go_loopg [5, 6] n (fun g v i wr => ∃ k : Nat, k + g = n ∧ i = .int .i64 k ∧ OwnI wr W0.heap.size v (mayTo t l s k) ∧ Below W0.heap.size W0 wr)
  case atStart => exact ⟨0, by omega, rfl, Own.nil_, Below.refl _ _⟩
  case round =>
    obtain ⟨k, hk, rfl, hown, hbl⟩ := hrel
    have HK := Lib.hid (And.intro hk hown)
    have hkn : k ≤ n := by omega
    clear hk hown
    have hz := hbl.size
    obtain ⟨r0, r1⟩ := blk2 (bheap HB.out.1 hbl (Nat.le_refl _))
    obtain ⟨s0, s1, s2, s3, s4⟩ := blk5 (bheap HB.out.2.1 hbl (Nat.le_refl _))
    by_cases hlt : k < n
    · obtain ⟨b, off, m, rfl, hb, hm, c0, c1, c2⟩ := Marks.get (HB.out.2.2.2.below hbl (Nat.le_refl _)) hlt
      have HM := Lib.hid hm
      have hmv := HV.out.1 m (List.mem_of_getElem? hm)
      clear hm
      have i0 : (0 : Int) ≤ (k : Int) := by omega
      have i1 : (k : Int) < (n : Int) := by omega
      go_upto_region 5 with (fail)
      have k0 := cell_regrown r0
      have k1 := cell_regrown r1
      have k2 := cell_regrown s0
      have k3 := cell_regrown s1
      have k4 := cell_regrown s2
      have k5 := cell_regrown s3
      have k6 := cell_regrown s4
      have k7 := cell_regrown c0
      have k8 := cell_regrown c1
      have k9 := cell_regrown c2
      have cF : ∀ d os, Calls Try.prog 21 #[vSg s, vMk m, .int .i64 t] (Sort.grow (redrawn wr d) os) (fun e w'' => e = .returned (.bool (fits s m t)) ∧ ∃ p : Regrown, w'' = Sort.grow (redrawn wr p.d) p.os) := fun d os =>
        Calls.regrown_of (rFits s m t _ hmv.1 hmv.2 hs hs' HV.out.2)
      unfold vMk vSg at cF
      have HCF := Lib.hid cF
      clear cF
      refine wp_region_quiet_below (by kernel_rfl) (by kernel_rfl) ?_
      repeat (quiet_step (exact HCF.out _ _))
      refine wpQuiet_nil ?_
      intro _ hw'
      obtain ⟨⟨dq, osq⟩, hw''⟩ := hw'
      subst hw''
      obtain ⟨w1, hW1⟩ : ∃ w1, w1 = Sort.grow (redrawn wr dq) osq := ⟨_, rfl⟩
      have hb1 : Below wr.heap.size wr w1 := by rw [hW1]; exact below_regrown wr dq osq
      rw [← hW1]
      clear hW1 k0 k1 k2 k3 k4 k5 k6 k7 k8 k9
      have hbl1 : Below W0.heap.size W0 w1 := hbl.trans (hb1.mono hz)
      have hown1 := Lib.hid (HK.out.2.below hb1 (Nat.le_refl _))
      have hlen := mayTo_len t l s k
      have HS := Lib.hid (mayTo_succ (t := t) (s := s) HM.out)
      have hz1' := hbl1.size
      cases hf : fits s m t
      all_goals
        go_wp2_with (at_builtin; refine wp_app okInt rfl (.tmp 23) (.tmp 25) rfl W0.heap.size _ (mayTo t l s k) (k : Int) _ rfl rfl rfl rfl (one_eInt _) hown1.out ?_ ?_ ?_ ?_; (omega); (omega); (omega); intro v' w2 hown2 hb2 _ hz2; have HO2 := Lib.hid hown2; clear hown2)
        go_roundg (gk - 1)
        case measure => have := HK.out.1; omega
      · exact ⟨k + 1, by have := HK.out.1; omega, by go_num, by rw [HS.out, hf]; simpa using hown1.out, hbl1⟩
      · exact ⟨k + 1, by have := HK.out.1; omega, by go_num, by rw [HS.out, hf]; simpa using HO2.out, hbl1.trans hb2⟩
    · obtain rfl : k = n := by omega
      go_wp2
      go_ret
      exact ⟨_, rfl, by unfold mayL; rw [HL.out]; exact HK.out.2.mono (by omega), HB.out.2.2.1.trans (hbl.mono (by omega))⟩

end Go.Proofs.Ytoidaigiejilcaa
