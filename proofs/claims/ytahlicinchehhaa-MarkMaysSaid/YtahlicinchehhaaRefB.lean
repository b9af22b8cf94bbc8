/- mestaref03.Check, CheckSight. -/
import Derived.Test.YtahlicinchehhaaRefA
import Derived.Test.YtahlicinchehhaaSeen
namespace Go.Proofs.Ytahlicinchehhaa
open Go.RowKit
set_option linter.unusedVariables false
set_option linter.unusedSimpArgs false

set_option maxRecDepth 100000 in
set_option maxHeartbeats 2000000 in
theorem rCheck (t : Int) (A : Option Addr) (n c : Nat) (l : List Mk) (w : World) (hc : Marks w A n l) (hlc : n ≤ c) (hcm : c ≤ maxLen) :
    Calls Try.prog 24 #[.agg #[.int .i64 t, .slice A n c]] w fun e w' => e = .returned (.int .i64 (check t l)) ∧ Below w.heap.size w w' := by
  have hl := hc.len
  have HL := Lib.hid hl
  unfold maxLen at hcm
  have hb0 : Below w.heap.size w (w.alloc (Obj.cells #[Value.int .i64 t, Value.slice A n c] 24)) := bal0 w _
  by_cases h1 : btw t 0 2 = true
  · by_cases h2 : n ≤ 5
    · have hck : check t l = chk l (n - 0) 0 := by
        unfold check; rw [if_neg (by simp [h1]), if_neg (by omega), hl]; rfl
      have HC := Lib.hid hck
      clear hl hck
      have h3 : decide ((5 : Int) < (n : Int)) = false := by simp; omega
      go_enter Try.func24, Try.ntmps24
      go_wp2_with (go_at_call 73; refine (rWithin _ _ _ _).mono ?_; rintro e w' ⟨rfl, rfl⟩)
      obtain ⟨W0, hW⟩ : ∃ W0, W0 = w.alloc (Obj.cells #[Value.int .i64 t, Value.slice A n c] 24) := ⟨_, rfl⟩
      rw [← hW]
      have hblk : W0.heap[w.heap.size]? = some (Obj.cells #[Value.int .i64 t, Value.slice A n c] 24 (0, 0)) := by rw [hW]; exact alloc_at rfl
      rw [← hW] at hb0
      have hc0 := hc.below hb0 (Nat.le_refl _)
      clear hW hc
      have hw0 := heap_lt hblk
      have HC0 := Lib.hid (And.intro hc0 (And.intro hblk hb0))
      clear hc0 hblk hb0
      go_loopg [3] n (fun g i wr => ∃ k : Nat, k + g = n ∧ i = .int .i64 k ∧ chk l (n - 0) 0 = chk l (n - k) k ∧ Below W0.heap.size W0 wr)
      case atStart => exact ⟨0, by omega, rfl, rfl, Below.refl _ _⟩
      case round =>
        obtain ⟨k, hk, rfl, hchk, hbl⟩ := hrel
        obtain ⟨wo, rfl⟩ : ∃ wo : World, wo = wr := ⟨_, rfl⟩
        obtain ⟨g1, rfl⟩ : ∃ g1 : Nat, g1 = gk := ⟨_, rfl⟩
        have HK := Lib.hid (And.intro hk hchk)
        have hk' : k ≤ n := by omega
        clear hchk hk
        have hs0 := hbl.size
        obtain ⟨r0, r1⟩ := blk2 (bheap HC0.out.2.1 hbl (Nat.le_refl _))
        by_cases hlt : k < n
        · obtain ⟨b, off, m, rfl, hb, hm, c0, c1, c2⟩ := Marks.get (HC0.out.1.below hbl (Nat.le_refl _)) hlt
          have HM := Lib.hid hm
          have HS := Lib.hid (chk_step HL.out hlt hm)
          clear hm
          cases hmk : mkOk m
          · have HE := Lib.hid hmk
            clear hmk
            go_wp2_with fail
            have hcm2 := rCheckMark m wo
            rw [HE.out] at hcm2
            refine hcm2.mono ?_
            rintro e w2 ⟨rfl, hb2⟩
            have hbl2 := hbl.trans (hb2.mono hs0)
            go_wp2
            go_ret
            exact ⟨ret_int (by rw [HC.out, HK.out.2, HS.out, if_pos HE.out]), HC0.out.2.2.trans (hbl2.mono HC0.out.2.2.size)⟩
          · have HE := Lib.hid hmk
            clear hmk
            go_wp2_with fail
            have hcm2 := rCheckMark m wo
            rw [HE.out] at hcm2
            refine hcm2.mono ?_
            rintro e w2 ⟨rfl, hb2⟩
            have hbl2 := hbl.trans (hb2.mono hs0)
            clear r0 r1 c0 c1 c2 hb2 hcm2
            simp only [if_true]
            go_wp2_with fail
            go_loopg [5] k (fun g i wr => ∃ q : Nat, q + g = k ∧ i = .int .i64 q ∧ (l.take q).contains m = false ∧ ∃ d, wr = w2.drewN d)
            case atStart => exact ⟨0, by omega, rfl, by simp, 0, rfl⟩
            case round =>
              obtain ⟨q, hq, rfl, hno, d, rfl⟩ := hrel
              have HQ := Lib.hid (And.intro hq hno)
              have hq' : q ≤ k := by omega
              clear hno hq
              obtain ⟨r0, r1⟩ := blk2 (bheap HC0.out.2.1 hbl2 (Nat.le_refl _))
              by_cases hqk : q < k
              · obtain ⟨b1, off1, x, hA, hb1, hx, d0, d1, d2⟩ := Marks.get (HC0.out.1.below hbl2 (Nat.le_refl _)) (show q < n by omega)
                obtain ⟨b2, off2, y, hA2, hb2, hy, e0, e1, e2⟩ := Marks.get (HC0.out.1.below hbl2 (Nat.le_refl _)) hlt
                obtain ⟨rfl, rfl⟩ : b = b1 ∧ off = off1 := by simpa using hA
                obtain ⟨rfl, rfl⟩ : b = b2 ∧ off = off2 := by simpa using hA2
                obtain rfl : m = y := Option.some.inj (HM.out.symm.trans hy)
                have HX := Lib.hid hx
                clear hx hA hA2 hy
                have i0 : (0 : Int) ≤ (q : Int) := by omega
                have i1 : (q : Int) < (n : Int) := by omega
                have i2 : (0 : Int) ≤ (k : Int) := by omega
                have i3 : (k : Int) < (n : Int) := by omega
                by_cases hxm : x = m
                · subst hxm
                  go_upto_region 14 with (fail)
                  go_quiet (fail)
                  go_wp2
                  go_ret
                  refine ⟨ret_int ?_, ?_⟩
                  · rw [HC.out, HK.out.2, HS.out, if_neg (by simp [HE.out]), if_pos (take_yes HX.out hqk)]
                  · exact HC0.out.2.2.trans ((below_drewN (below_drewN hbl2 _) _).mono HC0.out.2.2.size)
                · have HNE := Lib.hid hxm
                  cases f1 : (x.n == m.n) <;> cases f2 : (x.b == m.b) <;> cases f3 : (x.p == m.p)
                  case true.true.true =>
                    exfalso
                    exact hxm (by cases x; cases m; simp at f1 f2 f3; simp [f1, f2, f3])
                  all_goals
                    clear hxm
                    go_upto_region 14 with (fail)
                    go_quiet (fail)
                    go_wp2
                    go_roundg (gk - 1)
                    case measure => have := HQ.out.1; omega
                    case rel => exact ⟨q + 1, by have := HQ.out.1; omega, by go_num, take_no HQ.out.2 HX.out HNE.out, _, rfl⟩
              · obtain rfl : q = k := by omega
                go_wp2
                go_roundg (g1 - 1)
                case measure => have := HK.out.1; omega
                case rel =>
                  refine ⟨q + 1, by have := HK.out.1; omega, by go_num, ?_, below_drewN hbl2 _⟩
                  rw [HK.out.2, HS.out, if_neg (by simp [HE.out]), if_neg (by rw [HQ.out.2]; simp)]
        · obtain rfl : k = n := by omega
          go_wp2
          go_ret
          exact ⟨ret_int (by rw [HC.out, HK.out.2, Nat.sub_self]; rfl), HC0.out.2.2.trans (hbl.mono HC0.out.2.2.size)⟩
    · have h3 : decide ((5 : Int) < (n : Int)) = true := by simp; omega
      have hck : check t l = 6 := by
        unfold check; rw [if_neg (by simp [h1]), if_pos (by omega)]
      have HC := Lib.hid hck
      clear hl hck
      go_enter Try.func24, Try.ntmps24
      go_wp2_with (go_at_call 73; refine (rWithin _ _ _ _).mono ?_; rintro e w' ⟨rfl, rfl⟩)
      go_ret
      exact ⟨ret_int HC.out.symm, hb0⟩
  · have h1' : btw t 0 2 = false := by simpa using h1
    have hck : check t l = 1 := by
      unfold check; rw [if_pos h1']
    have HC := Lib.hid hck
    clear hl hck h1
    go_enter Try.func24, Try.ntmps24
    go_wp2_with (go_at_call 73; refine (rWithin _ _ _ _).mono ?_; rintro e w' ⟨rfl, rfl⟩)
    go_ret
    exact ⟨ret_int HC.out.symm, hb0⟩

/-- a notch on an ear that is torn, among the first k places -/
def hasTorn (s : Sg) (k : Nat) : Bool := (List.range k).any fun i => tornB s.l s.r i && bit s.n i
theorem hasTorn_succ (s : Sg) (k : Nat) : hasTorn s (k + 1) = (hasTorn s k || (tornB s.l s.r k && bit s.n k)) := by
  unfold hasTorn; rw [List.range_succ, List.any_append]; simp
theorem hasTorn_on {s : Sg} (h0 : 0 ≤ s.n) (h1 : s.n ≤ 255) : hasTorn s 8 = false ↔ onI s.n s.l s.r = s.n := by
  constructor
  · intro h
    refine bits_ext (onI_lo _ _ _) (onI_hi _ _ _) h0 h1 fun i hi => ?_
    rw [bit_on _ _ _ _ hi]
    have := (List.any_eq_false.1 h) i (by simpa using hi)
    revert this
    cases tornB s.l s.r i <;> cases bit s.n i <;> simp
  · intro h
    refine List.any_eq_false.2 fun i hi => ?_
    have hi' : i < 8 := by simpa using hi
    have := bit_on s.n s.l s.r i hi'
    rw [h] at this
    revert this
    cases tornB s.l s.r i <;> cases bit s.n i <;> simp
theorem hasTorn_mono {s : Sg} {k : Nat} (hk : k < 8) (h : (tornB s.l s.r k && bit s.n k) = true) : hasTorn s 8 = true := by
  refine List.any_eq_true.2 ⟨k, by simpa using hk, h⟩
theorem seen_ref {s : Sg} : seen s 9 6 = if btw s.n 0 255 = false then 1 else if hasTorn s 8 then 8 else if btw s.b (-1) 9 && btw s.p (-1) 6 then 0 else 1 := by
  unfold seen
  by_cases h1 : btw s.n 0 255 = false
  · rw [if_pos h1, if_pos h1]
  · rw [if_neg h1, if_neg h1]
    rw [Bool.not_eq_false, btw_iff] at h1
    by_cases h2 : onI s.n s.l s.r = s.n
    · rw [if_neg (by simp [h2]), (hasTorn_on h1.1 h1.2).2 h2]
      simp only [Bool.false_eq_true, if_false]
      have e3 : (s.b ≠ -1 ∧ btw s.b 0 9 = false) ↔ btw s.b (-1) 9 = false := by rw [btw_no, btw_no]; omega
      have e4 : (s.p ≠ -1 ∧ btw s.p 0 6 = false) ↔ btw s.p (-1) 6 = false := by rw [btw_no, btw_no]; omega
      simp only [e3, e4]
      cases btw s.b (-1) 9 <;> cases btw s.p (-1) 6 <;> rfl
    · have h3 : hasTorn s 8 = true := by
        rw [← Bool.not_eq_false]; exact fun h => h2 ((hasTorn_on h1.1 h1.2).1 h)
      rw [if_pos h2, h3]; rfl
set_option maxRecDepth 100000 in
set_option maxHeartbeats 1000000 in
theorem rCheckSight (s : Sg) (w : World) :
    Calls Try.prog 69 #[vSg s] w fun e w' => e = .returned (.int .i64 (seen s 9 6)) ∧ Below w.heap.size w w' := by
  have HR := Lib.hid (seen_ref (s := s))
  obtain ⟨R, hR⟩ : ∃ R, R = seen s 9 6 := ⟨_, rfl⟩
  rw [← hR]
  have HRR := Lib.hid hR
  clear hR
  cases h1 : btw s.n 0 255
  · have HE := Lib.hid h1
    go_enter Try.func69, Try.ntmps69
    unfold vSg
    go_wp2_with (go_at_call 73; refine (rWithin _ _ _ _).mono ?_; rintro e w' ⟨rfl, rfl⟩)
    go_ret
    exact ⟨ret_int (by rw [HRR.out, HR.out, if_pos HE.out]), bal0 _ _⟩
  · have hn := btw_iff.1 h1
    have HE := Lib.hid h1
    obtain ⟨hn0, hn1⟩ := hn
    go_enter Try.func69, Try.ntmps69
    unfold vSg
    go_wp2_with (go_at_call 73; refine (rWithin _ _ _ _).mono ?_; rintro e w' ⟨rfl, rfl⟩)
    clear h1
    obtain ⟨W0, hW⟩ : ∃ W0, W0 = w.alloc (Obj.cells #[Value.int .i64 s.n, .bool s.l, .bool s.r, .int .i64 s.b, .int .i64 s.p] 28) := ⟨_, rfl⟩
    rw [← hW]
    have hblk : W0.heap[w.heap.size]? = some (Obj.cells #[Value.int .i64 s.n, .bool s.l, .bool s.r, .int .i64 s.b, .int .i64 s.p] 28 (0, 0)) := by rw [hW]; exact alloc_at rfl
    have hB0 : Below w.heap.size w W0 := by rw [hW]; exact bal0 w _
    clear hW
    have HB := Lib.hid (And.intro hblk hB0)
    clear hblk hB0
    go_loopg [3] 8 (fun g i wr => ∃ k : Nat, k + g = 8 ∧ i = .int .i64 k ∧ hasTorn s k = false ∧ Below W0.heap.size W0 wr)
    case atStart => exact ⟨0, by omega, rfl, rfl, Below.refl _ _⟩
    case round =>
      obtain ⟨k, hk, rfl, hno, hbl⟩ := hrel
      have HK := Lib.hid (And.intro hk hno)
      have hk8 : k ≤ 8 := by omega
      clear hk hno
      obtain ⟨s0, s1, s2, s3, s4⟩ := blk5 (bheap HB.out.1 hbl (Nat.le_refl _))
      by_cases hlt : k < 8
      · have hlt' : (k : Int) < 8 := by omega
        go_wp2_with fail
        refine (rTorn s k _ hk8).mono ?_
        rintro e w2 ⟨rfl, hb2⟩
        have hbl2 := hbl.trans (hb2.mono hbl.size)
        clear s0 s1 s2 s3 s4 hb2
        obtain ⟨s0, s1, s2, s3, s4⟩ := blk5 (bheap HB.out.1 hbl2 (Nat.le_refl _))
        cases ht : tornB s.l s.r k
        · have HT := Lib.hid ht
          go_wp2
          go_roundg (gk - 1)
          case measure => have := HK.out.1; omega
          case rel => exact ⟨k + 1, by have := HK.out.1; omega, by go_num, by rw [hasTorn_succ, HK.out.2, HT.out]; rfl, hbl2⟩
        · have HT := Lib.hid ht
          go_wp2_with fail
          refine (rHas s.n k _ hn0 hn1 hk8).mono ?_
          rintro e w3 ⟨rfl, rfl⟩
          cases hb : bit s.n k
          · have HBT := Lib.hid hb
            go_wp2
            go_roundg (gk - 1)
            case measure => have := HK.out.1; omega
            case rel => exact ⟨k + 1, by have := HK.out.1; omega, by go_num, by rw [hasTorn_succ, HK.out.2, HT.out, HBT.out]; rfl, hbl2⟩
          · have HBT := Lib.hid hb
            go_wp2
            go_ret
            have h8 := hasTorn_mono hlt (show (tornB s.l s.r k && bit s.n k) = true by rw [HT.out, HBT.out]; rfl)
            exact ⟨ret_int (by rw [HRR.out, HR.out, if_neg (by rw [HE.out]; simp), h8]; rfl), HB.out.2.trans (hbl2.mono HB.out.2.size)⟩
      · obtain rfl : k = 8 := by omega
        cases h2 : btw s.b (-1) 9 <;> cases h3 : btw s.p (-1) 6
        all_goals
          have H23 := Lib.hid (And.intro h2 h3)
          go_wp2_with (go_at_call 73; refine (rWithin _ _ _ _).mono ?_; rintro e w' ⟨rfl, rfl⟩)
          go_ret
          refine ⟨ret_int ?_, HB.out.2.trans (hbl.mono HB.out.2.size)⟩
          rw [HRR.out, HR.out, if_neg (by rw [HE.out]; simp), HK.out.2, H23.out.1, H23.out.2]
          rfl
end Go.Proofs.Ytahlicinchehhaa
