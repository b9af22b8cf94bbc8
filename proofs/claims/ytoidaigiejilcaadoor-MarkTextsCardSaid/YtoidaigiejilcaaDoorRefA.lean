/- mestaref03: within, has, torn, CheckMark, Check, CheckSight, isOwner: the reference's small functions compute what the program's do.
   mestaref03.Check, CheckSight.
   mestaref03.Fits, may, May, Verdict.
   mestaref03.Verdict. -/
import Derived.Test.YtoidaigiejilcaaDoorCheck
import Derived.Test.YtoidaigiejilcaaDoorBase
import Derived.Test.YtoidaigiejilcaaDoorMay
import Derived.Test.YtoidaigiejilcaaDoorLaw
namespace Go.Proofs.YtoidaigiejilcaaDoor
open Go.RowKit
set_option linter.unusedVariables false
set_option linter.unusedSimpArgs false

theorem rWithin (n lo hi : Int) (w : World) :
    Calls Tryd.prog 59 #[.int .i64 n, .int .i64 lo, .int .i64 hi] w fun e w' => e = .returned (.bool (btw n lo hi)) ∧ w = w' := by
  by_cases h1 : lo ≤ n <;> by_cases h2 : n ≤ hi
  all_goals
    go_enter Tryd.func59, Tryd.ntmps59
    go_wp2
    go_ret
    exact ⟨by simp [btw, h1, h2], rfl⟩

theorem rHas (n : Int) (b : Nat) (w : World) (hn : 0 ≤ n) (hn' : n ≤ 255) (hb : b ≤ 8) :
    Calls Tryd.prog 62 #[.int .i64 n, .int .i64 b] w fun e w' => e = .returned (.bool (bit n b)) ∧ w = w' := by
  obtain ⟨l, rfl⟩ := Int.eq_ofNat_of_zero_le hn
  have hl : l ≤ 255 := by omega
  go_enter Tryd.func62, Tryd.ntmps62
  go_wp2_with fail
  go_loopg [0, 5] b (fun g x i wr => ∃ k : Nat, k + g = b ∧ i = .int .i64 k ∧ ∃ q : Nat, x = .int .i64 q ∧ q = l / 2 ^ k ∧ w = wr)
  case atStart => exact ⟨0, by omega, rfl, l, rfl, by simp, rfl⟩
  case round =>
    obtain ⟨k, hk, rfl, q, rfl, hq, rfl⟩ := hrel
    have HK := Lib.hid (And.intro hk hq)
    have hkb : k ≤ b := by omega
    have hql : q ≤ 255 := by have := Nat.div_le_self l (2 ^ k); omega
    clear hk hq
    by_cases hlt : k < b
    · go_wp2
      go_roundg (gk - 1)
      case measure => have := HK.out.1; omega
      case rel =>
        refine ⟨k + 1, by have := HK.out.1; omega, by go_num, q / 2, ?_, by rw [HK.out.2, Nat.pow_succ, Nat.div_div_eq_div_mul], rfl⟩
        congr 1
    · obtain rfl : k = b := by omega
      go_wp2
      go_ret
      refine ⟨ret_bool ?_, rfl⟩
      unfold bit
      rw [Int.toNat_natCast, Nat.testBit_eq_decide_div_mod_eq, ← HK.out.2, Bool.eq_iff_iff]
      simp only [beq_iff_eq, decide_eq_true_eq]
      omega
theorem rCheckMark (m : Mk) (w : World) :
    Calls Tryd.prog 60 #[vMk m] w fun e w' => e = .returned (.int .i64 (if mkOk m then 0 else 1)) ∧ Below w.heap.size w w' := by
  obtain ⟨n, b, p⟩ := m
  obtain ⟨R, hR⟩ : ∃ R : Int, R = if mkOk ⟨n, b, p⟩ then 0 else 1 := ⟨_, rfl⟩
  rw [← hR]
  have HR := Lib.hid hR
  clear hR
  unfold vMk
  cases h1 : btw n 0 255 <;> cases h2 : btw b 0 9 <;> cases h3 : btw p 0 6
  all_goals
    have HE := Lib.hid (And.intro h1 (And.intro h2 h3))
    go_enter Tryd.func60, Tryd.ntmps60
    go_wp2_with (go_at_call 59; refine (rWithin _ _ _ _).mono ?_; rintro e w' ⟨rfl, rfl⟩)
    go_ret
    refine ⟨ret_int ?_, bal0 _ _⟩
    rw [HR.out]
    simp [mkOk, HE.out.1, HE.out.2.1, HE.out.2.2]
end Go.Proofs.YtoidaigiejilcaaDoor

namespace Go.Proofs.YtoidaigiejilcaaDoor
open Go.RowKit
set_option linter.unusedVariables false
set_option linter.unusedSimpArgs false

set_option maxRecDepth 100000 in
set_option maxHeartbeats 2000000 in
theorem rCheck (t : Int) (A : Option Addr) (n c : Nat) (l : List Mk) (w : World) (hc : Marks w A n l) (hlc : n ≤ c) (hcm : c ≤ maxLen) :
    Calls Tryd.prog 31 #[.agg #[.int .i64 t, .slice A n c]] w fun e w' => e = .returned (.int .i64 (check t l)) ∧ Below w.heap.size w w' := by
  have hl := hc.len
  have HL := Lib.hid hl
  unfold maxLen at hcm
  have hb0 : Below w.heap.size w (w.alloc (Obj.cells #[Value.int .i64 t, Value.slice A n c] 26)) := bal0 w _
  by_cases h1 : btw t 0 2 = true
  · by_cases h2 : n ≤ 5
    · have hck : check t l = chk l (n - 0) 0 := by
        unfold check; rw [if_neg (by simp [h1]), if_neg (by omega), hl]; rfl
      have HC := Lib.hid hck
      clear hl hck
      have h3 : decide ((5 : Int) < (n : Int)) = false := by simp; omega
      go_enter Tryd.func31, Tryd.ntmps31
      go_wp2_with (go_at_call 59; refine (rWithin _ _ _ _).mono ?_; rintro e w' ⟨rfl, rfl⟩)
      obtain ⟨W0, hW⟩ : ∃ W0, W0 = w.alloc (Obj.cells #[Value.int .i64 t, Value.slice A n c] 26) := ⟨_, rfl⟩
      rw [← hW]
      have hblk : W0.heap[w.heap.size]? = some (Obj.cells #[Value.int .i64 t, Value.slice A n c] 26 (0, 0)) := by rw [hW]; exact alloc_at rfl
      rw [← hW] at hb0
      have hc0 := hc.below hb0 (Nat.le_refl _)
      clear hW hc
      have hw0 := heap_lt hblk
      have HC0 := Lib.hid (And.intro hc0 (And.intro hblk hb0))
      clear hc0 hblk hb0
      go_loopg [3] n (fun g i wr => ∃ k : Nat, k + g = n ∧ i = .int .i64 k ∧ chk l (n - 0) 0 = chk l (n - k) k ∧ Below W0.heap.size W0 wr)
      case atStart => exact ⟨0, by omega, rfl, rfl, Below.refl _ _⟩
      case round =>
        obtain ⟨k, hk, rfl, hchk, hbl⟩ := hrel
        obtain ⟨wo, rfl⟩ : ∃ wo : World, wo = wr := ⟨_, rfl⟩
        obtain ⟨g1, rfl⟩ : ∃ g1 : Nat, g1 = gk := ⟨_, rfl⟩
        have HK := Lib.hid (And.intro hk hchk)
        have hk' : k ≤ n := by omega
        clear hchk hk
        have hs0 := hbl.size
        obtain ⟨r0, r1⟩ := blk2 (bheap HC0.out.2.1 hbl (Nat.le_refl _))
        by_cases hlt : k < n
        · obtain ⟨b, off, m, rfl, hb, hm, c0, c1, c2⟩ := Marks.get (HC0.out.1.below hbl (Nat.le_refl _)) hlt
          have HM := Lib.hid hm
          have HS := Lib.hid (chk_step HL.out hlt hm)
          clear hm
          cases hmk : mkOk m
          · have HE := Lib.hid hmk
            clear hmk
            go_wp2_with fail
            have hcm2 := rCheckMark m wo
            rw [HE.out] at hcm2
            refine hcm2.mono ?_
            rintro e w2 ⟨rfl, hb2⟩
            have hbl2 := hbl.trans (hb2.mono hs0)
            go_wp2
            go_ret
            exact ⟨ret_int (by rw [HC.out, HK.out.2, HS.out, if_pos HE.out]), HC0.out.2.2.trans (hbl2.mono HC0.out.2.2.size)⟩
          · have HE := Lib.hid hmk
            clear hmk
            go_wp2_with fail
            have hcm2 := rCheckMark m wo
            rw [HE.out] at hcm2
            refine hcm2.mono ?_
            rintro e w2 ⟨rfl, hb2⟩
            have hbl2 := hbl.trans (hb2.mono hs0)
            clear r0 r1 c0 c1 c2 hb2 hcm2
            simp only [if_true]
            go_wp2_with fail
            go_loopg [5] k (fun g i wr => ∃ q : Nat, q + g = k ∧ i = .int .i64 q ∧ (l.take q).contains m = false ∧ ∃ d, wr = w2.drewN d)
            case atStart => exact ⟨0, by omega, rfl, by simp, 0, rfl⟩
            case round =>
              obtain ⟨q, hq, rfl, hno, d, rfl⟩ := hrel
              have HQ := Lib.hid (And.intro hq hno)
              have hq' : q ≤ k := by omega
              clear hno hq
              obtain ⟨r0, r1⟩ := blk2 (bheap HC0.out.2.1 hbl2 (Nat.le_refl _))
              by_cases hqk : q < k
              · obtain ⟨b1, off1, x, hA, hb1, hx, d0, d1, d2⟩ := Marks.get (HC0.out.1.below hbl2 (Nat.le_refl _)) (show q < n by omega)
                obtain ⟨b2, off2, y, hA2, hb2, hy, e0, e1, e2⟩ := Marks.get (HC0.out.1.below hbl2 (Nat.le_refl _)) hlt
                obtain ⟨rfl, rfl⟩ : b = b1 ∧ off = off1 := by simpa using hA
                obtain ⟨rfl, rfl⟩ : b = b2 ∧ off = off2 := by simpa using hA2
                obtain rfl : m = y := Option.some.inj (HM.out.symm.trans hy)
                have HX := Lib.hid hx
                clear hx hA hA2 hy
                have i0 : (0 : Int) ≤ (q : Int) := by omega
                have i1 : (q : Int) < (n : Int) := by omega
                have i2 : (0 : Int) ≤ (k : Int) := by omega
                have i3 : (k : Int) < (n : Int) := by omega
                by_cases hxm : x = m
                · subst hxm
                  go_upto_region 14 with (fail)
                  go_quiet (fail)
                  go_wp2
                  go_ret
                  refine ⟨ret_int ?_, ?_⟩
                  · rw [HC.out, HK.out.2, HS.out, if_neg (by simp [HE.out]), if_pos (take_yes HX.out hqk)]
                  · exact HC0.out.2.2.trans ((below_drewN (below_drewN hbl2 _) _).mono HC0.out.2.2.size)
                · have HNE := Lib.hid hxm
                  cases f1 : (x.n == m.n) <;> cases f2 : (x.b == m.b) <;> cases f3 : (x.p == m.p)
                  case true.true.true =>
                    exfalso
                    exact hxm (by cases x; cases m; simp at f1 f2 f3; simp [f1, f2, f3])
                  all_goals
                    clear hxm
                    go_upto_region 14 with (fail)
                    go_quiet (fail)
                    go_wp2
                    go_roundg (gk - 1)
                    case measure => have := HQ.out.1; omega
                    case rel => exact ⟨q + 1, by have := HQ.out.1; omega, by go_num, take_no HQ.out.2 HX.out HNE.out, _, rfl⟩
              · obtain rfl : q = k := by omega
                go_wp2
                go_roundg (g1 - 1)
                case measure => have := HK.out.1; omega
                case rel =>
                  refine ⟨q + 1, by have := HK.out.1; omega, by go_num, ?_, below_drewN hbl2 _⟩
                  rw [HK.out.2, HS.out, if_neg (by simp [HE.out]), if_neg (by rw [HQ.out.2]; simp)]
        · obtain rfl : k = n := by omega
          go_wp2
          go_ret
          exact ⟨ret_int (by rw [HC.out, HK.out.2, Nat.sub_self]; rfl), HC0.out.2.2.trans (hbl.mono HC0.out.2.2.size)⟩
    · have h3 : decide ((5 : Int) < (n : Int)) = true := by simp; omega
      have hck : check t l = 6 := by
        unfold check; rw [if_neg (by simp [h1]), if_pos (by omega)]
      have HC := Lib.hid hck
      clear hl hck
      go_enter Tryd.func31, Tryd.ntmps31
      go_wp2_with (go_at_call 59; refine (rWithin _ _ _ _).mono ?_; rintro e w' ⟨rfl, rfl⟩)
      go_ret
      exact ⟨ret_int HC.out.symm, hb0⟩
  · have h1' : btw t 0 2 = false := by simpa using h1
    have hck : check t l = 1 := by
      unfold check; rw [if_pos h1']
    have HC := Lib.hid hck
    clear hl hck h1
    go_enter Tryd.func31, Tryd.ntmps31
    go_wp2_with (go_at_call 59; refine (rWithin _ _ _ _).mono ?_; rintro e w' ⟨rfl, rfl⟩)
    go_ret
    exact ⟨ret_int HC.out.symm, hb0⟩

/-- a notch on an ear that is torn, among the first k places -/
def hasTorn (s : Sg) (k : Nat) : Bool := (List.range k).any fun i => tornB s.l s.r i && bit s.n i
theorem hasTorn_succ (s : Sg) (k : Nat) : hasTorn s (k + 1) = (hasTorn s k || (tornB s.l s.r k && bit s.n k)) := by
  unfold hasTorn; rw [List.range_succ, List.any_append]; simp
theorem hasTorn_on {s : Sg} (h0 : 0 ≤ s.n) (h1 : s.n ≤ 255) : hasTorn s 8 = false ↔ onI s.n s.l s.r = s.n := by
  constructor
  · intro h
    refine bits_ext (onI_lo _ _ _) (onI_hi _ _ _) h0 h1 fun i hi => ?_
    rw [bit_on _ _ _ _ hi]
    have := (List.any_eq_false.1 h) i (by simpa using hi)
    revert this
    cases tornB s.l s.r i <;> cases bit s.n i <;> simp
  · intro h
    refine List.any_eq_false.2 fun i hi => ?_
    have hi' : i < 8 := by simpa using hi
    have := bit_on s.n s.l s.r i hi'
    rw [h] at this
    revert this
    cases tornB s.l s.r i <;> cases bit s.n i <;> simp
theorem hasTorn_mono {s : Sg} {k : Nat} (hk : k < 8) (h : (tornB s.l s.r k && bit s.n k) = true) : hasTorn s 8 = true := by
  refine List.any_eq_true.2 ⟨k, by simpa using hk, h⟩
theorem seen_ref {s : Sg} : seen s 9 6 = if btw s.n 0 255 = false then 1 else if hasTorn s 8 then 8 else if btw s.b (-1) 9 && btw s.p (-1) 6 then 0 else 1 := by
  unfold seen
  by_cases h1 : btw s.n 0 255 = false
  · rw [if_pos h1, if_pos h1]
  · rw [if_neg h1, if_neg h1]
    rw [Bool.not_eq_false, btw_iff] at h1
    by_cases h2 : onI s.n s.l s.r = s.n
    · rw [if_neg (by simp [h2]), (hasTorn_on h1.1 h1.2).2 h2]
      simp only [Bool.false_eq_true, if_false]
      have e3 : (s.b ≠ -1 ∧ btw s.b 0 9 = false) ↔ btw s.b (-1) 9 = false := by rw [btw_no, btw_no]; omega
      have e4 : (s.p ≠ -1 ∧ btw s.p 0 6 = false) ↔ btw s.p (-1) 6 = false := by rw [btw_no, btw_no]; omega
      simp only [e3, e4]
      cases btw s.b (-1) 9 <;> cases btw s.p (-1) 6 <;> rfl
    · have h3 : hasTorn s 8 = true := by
        rw [← Bool.not_eq_false]; exact fun h => h2 ((hasTorn_on h1.1 h1.2).1 h)
      rw [if_pos h2, h3]; rfl
end Go.Proofs.YtoidaigiejilcaaDoor

namespace Go.Proofs.YtoidaigiejilcaaDoor
open Go.RowKit
set_option linter.unusedVariables false
set_option linter.unusedSimpArgs false

def missB (s : Sg) (m : Mk) (i : Nat) : Bool := !tornB s.l s.r i && (bit m.n i && !bit s.n i)
def moreB (s : Sg) (m : Mk) (i : Nat) : Bool := !tornB s.l s.r i && (!bit m.n i && bit s.n i)
def anyTo (p : Nat → Bool) (k : Nat) : Bool := (List.range k).any p
def cntTo (p : Nat → Bool) (k : Nat) : Nat := (List.range k).countP p
theorem anyTo_succ (p : Nat → Bool) (k : Nat) : anyTo p (k + 1) = (anyTo p k || p k) := by unfold anyTo; rw [List.range_succ, List.any_append]; simp
theorem cntTo_succ (p : Nat → Bool) (k : Nat) : cntTo p (k + 1) = cntTo p k + if p k then 1 else 0 := by
  unfold cntTo; rw [List.range_succ, List.countP_append]; cases h : p k <;> simp [h]
theorem cntTo_le (p : Nat → Bool) (k : Nat) : cntTo p k ≤ k := by have := List.countP_le_length (p := p) (l := List.range k); simpa [cntTo] using this
theorem anyTo_at {p : Nat → Bool} {k : Nat} (hk : k < 8) (h : p k = true) : anyTo p 8 = true := List.any_eq_true.2 ⟨k, by simpa using hk, h⟩
theorem fits_ref {s : Sg} {m : Mk} {t : Int} (hm : m.n ≤ 255) (hs0 : 0 ≤ s.n) (hs1 : s.n ≤ 255) (ho : onI s.n s.l s.r = s.n) :
    fits s m t = (alikeBP s m && (!anyTo (missB s m) 8 && decide ((cntTo (moreB s m) 8 : Int) ≤ t))) := by
  have htorn : ∀ i, i < 8 → tornB s.l s.r i = true → bit s.n i = false := fun i hi h => by
    have := bit_on s.n s.l s.r i hi
    rw [ho, h] at this
    simpa using this
  have e1 : decide (butI (onI m.n s.l s.r) s.n = 0) = !anyTo (missB s m) 8 := by
    rw [Bool.eq_iff_iff, decide_eq_true_eq, eq_zero_iff (butI_lo _ _) (butI_hi _ _)]
    simp only [Bool.not_eq_true']
    constructor
    · intro h
      refine List.any_eq_false.2 fun i hi => ?_
      have hi' : i < 8 := by simpa using hi
      have := h i hi'
      rw [bit_but _ _ hs1 i hi', bit_on _ _ _ _ hi'] at this
      unfold missB
      revert this
      cases bit m.n i <;> cases bit s.n i <;> cases tornB s.l s.r i <;> simp
    · intro h i hi
      have := (List.any_eq_false.1 h) i (by simpa using hi)
      rw [bit_but _ _ hs1 i hi, bit_on _ _ _ _ hi]
      unfold missB at this
      revert this
      cases bit m.n i <;> cases bit s.n i <;> cases tornB s.l s.r i <;> simp
  have e2 : popI (butI s.n (onI m.n s.l s.r)) = cntTo (moreB s m) 8 := by
    unfold popI
    show cnt _ = cnt _
    refine cnt_congr fun i hi => ?_
    rw [bit_but _ _ (onI_hi _ _ _) i hi, bit_on _ _ _ _ hi]
    unfold moreB
    have := htorn i hi
    revert this
    cases bit m.n i <;> cases bit s.n i <;> cases tornB s.l s.r i <;> simp
  unfold fits
  rw [e1, e2, Bool.and_assoc]

end Go.Proofs.YtoidaigiejilcaaDoor
