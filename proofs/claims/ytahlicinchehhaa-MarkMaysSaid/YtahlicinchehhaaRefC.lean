/- mestaref03.Fits, may, May, Verdict. -/
import Derived.Test.YtahlicinchehhaaRefB
import Derived.Test.YtahlicinchehhaaVerdict
namespace Go.Proofs.Ytahlicinchehhaa
open Go.RowKit
set_option linter.unusedVariables false
set_option linter.unusedSimpArgs false

def missB (s : Sg) (m : Mk) (i : Nat) : Bool := !tornB s.l s.r i && (bit m.n i && !bit s.n i)
def moreB (s : Sg) (m : Mk) (i : Nat) : Bool := !tornB s.l s.r i && (!bit m.n i && bit s.n i)
def anyTo (p : Nat → Bool) (k : Nat) : Bool := (List.range k).any p
def cntTo (p : Nat → Bool) (k : Nat) : Nat := (List.range k).countP p
theorem anyTo_succ (p : Nat → Bool) (k : Nat) : anyTo p (k + 1) = (anyTo p k || p k) := by unfold anyTo; rw [List.range_succ, List.any_append]; simp
theorem cntTo_succ (p : Nat → Bool) (k : Nat) : cntTo p (k + 1) = cntTo p k + if p k then 1 else 0 := by
  unfold cntTo; rw [List.range_succ, List.countP_append]; cases h : p k <;> simp [h]
theorem cntTo_le (p : Nat → Bool) (k : Nat) : cntTo p k ≤ k := by have := List.countP_le_length (p := p) (l := List.range k); simpa [cntTo] using this
theorem anyTo_at {p : Nat → Bool} {k : Nat} (hk : k < 8) (h : p k = true) : anyTo p 8 = true := List.any_eq_true.2 ⟨k, by simpa using hk, h⟩
theorem fits_ref {s : Sg} {m : Mk} {t : Int} (hm : m.n ≤ 255) (hs0 : 0 ≤ s.n) (hs1 : s.n ≤ 255) (ho : onI s.n s.l s.r = s.n) :
    fits s m t = (alikeBP s m && (!anyTo (missB s m) 8 && decide ((cntTo (moreB s m) 8 : Int) ≤ t))) := by
  have htorn : ∀ i, i < 8 → tornB s.l s.r i = true → bit s.n i = false := fun i hi h => by
    have := bit_on s.n s.l s.r i hi
    rw [ho, h] at this
    simpa using this
  have e1 : decide (butI (onI m.n s.l s.r) s.n = 0) = !anyTo (missB s m) 8 := by
    rw [Bool.eq_iff_iff, decide_eq_true_eq, eq_zero_iff (butI_lo _ _) (butI_hi _ _)]
    simp only [Bool.not_eq_true']
    constructor
    · intro h
      refine List.any_eq_false.2 fun i hi => ?_
      have hi' : i < 8 := by simpa using hi
      have := h i hi'
      rw [bit_but _ _ hs1 i hi', bit_on _ _ _ _ hi'] at this
      unfold missB
      revert this
      cases bit m.n i <;> cases bit s.n i <;> cases tornB s.l s.r i <;> simp
    · intro h i hi
      have := (List.any_eq_false.1 h) i (by simpa using hi)
      rw [bit_but _ _ hs1 i hi, bit_on _ _ _ _ hi]
      unfold missB at this
      revert this
      cases bit m.n i <;> cases bit s.n i <;> cases tornB s.l s.r i <;> simp
  have e2 : popI (butI s.n (onI m.n s.l s.r)) = cntTo (moreB s m) 8 := by
    unfold popI
    show cnt _ = cnt _
    refine cnt_congr fun i hi => ?_
    rw [bit_but _ _ (onI_hi _ _ _) i hi, bit_on _ _ _ _ hi]
    unfold moreB
    have := htorn i hi
    revert this
    cases bit m.n i <;> cases bit s.n i <;> cases tornB s.l s.r i <;> simp
  unfold fits
  rw [e1, e2, Bool.and_assoc]

set_option maxRecDepth 100000 in
set_option maxHeartbeats 2000000 in
theorem rFits (s : Sg) (m : Mk) (t : Int) (w : World) (hm0 : 0 ≤ m.n) (hm1 : m.n ≤ 255) (hs0 : 0 ≤ s.n) (hs1 : s.n ≤ 255) (ho : onI s.n s.l s.r = s.n) :
    Calls Try.prog 84 #[vSg s, vMk m, .int .i64 t] w fun e w' => e = .returned (.bool (fits s m t)) ∧ Below w.heap.size w w' := by
  have HF := Lib.hid (fits_ref (t := t) hm1 hs0 hs1 ho)
  obtain ⟨R, hR⟩ : ∃ R, R = fits s m t := ⟨_, rfl⟩
  rw [← hR]
  have HRR := Lib.hid hR
  clear hR ho
  go_enter Try.func84, Try.ntmps84
  unfold vSg vMk
  go_upto_region 1 with (fail)
  go_cut [30] (fun q wc => q = .bool (!alikeBP s m) ∧ ((w.alloc (Obj.cells #[Value.int .i64 s.n, .bool s.l, .bool s.r, .int .i64 s.b, .int .i64 s.p] 28)).alloc (Obj.cells #[Value.int .i64 m.n, .int .i64 m.b, .int .i64 m.p] 26)) = wc)
  case first =>
    cases e1 : (s.b != -1) <;> cases e2 : (s.b != m.b) <;> cases e3 : (s.p != -1) <;> cases e4 : (s.p != m.p)
    all_goals
      go_wp2
      go_meet
      exact ⟨by simp_all [alikeBP], rfl⟩
  case rest =>
    obtain ⟨rfl, rfl⟩ := hcut
    obtain ⟨W0, hW⟩ : ∃ W0, W0 = (w.alloc (Obj.cells #[Value.int .i64 s.n, .bool s.l, .bool s.r, .int .i64 s.b, .int .i64 s.p] 28)).alloc (Obj.cells #[Value.int .i64 m.n, .int .i64 m.b, .int .i64 m.p] 26) := ⟨_, rfl⟩
    rw [← hW]
    have hB0 : Below w.heap.size w W0 := by rw [hW]; exact bal (bal0 w _) (Nat.le_refl _) _
    have b0 : W0.heap[w.heap.size]? = some (Obj.cells #[Value.int .i64 s.n, .bool s.l, .bool s.r, .int .i64 s.b, .int .i64 s.p] 28 (0, 0)) := by rw [hW]; exact hblk_alloc (alloc_at rfl) _
    have b1 : W0.heap[w.heap.size + 1]? = some (Obj.cells #[Value.int .i64 m.n, .int .i64 m.b, .int .i64 m.p] 26 (0, 0)) := by rw [hW]; exact alloc_at (by simp)
    clear hW
    have HB := Lib.hid (And.intro b0 (And.intro b1 hB0))
    clear b0 b1 hB0
    cases hal : alikeBP s m
    · have HE := Lib.hid hal
      go_wp2
      go_ret
      exact ⟨ret_bool (by rw [HRR.out, HF.out, HE.out]; rfl), HB.out.2.2⟩
    · have HE := Lib.hid hal
      clear hal
      simp only [Bool.not_true]
      go_wp2_with fail
      go_loopg [7, 8] 8 (fun g x i wr => ∃ k : Nat, k + g = 8 ∧ i = .int .i64 k ∧ ∃ q : Nat, x = .int .i64 q ∧ q = cntTo (moreB s m) k ∧ anyTo (missB s m) k = false ∧ Below W0.heap.size W0 wr)
      case atStart => exact ⟨0, by omega, rfl, 0, rfl, rfl, rfl, Below.refl _ _⟩
      case round =>
        obtain ⟨k, hk, rfl, q, rfl, hq, hno, hbl⟩ := hrel
        have hqk : q ≤ k := by rw [hq]; exact cntTo_le _ _
        have HK := Lib.hid (And.intro hk (And.intro hq hno))
        have hk8 : k ≤ 8 := by omega
        clear hk hq hno
        obtain ⟨s0, s1, s2, s3, s4⟩ := blk5 (bheap HB.out.1 hbl (Nat.le_refl _))
        by_cases hlt : k < 8
        · have hlt' : (k : Int) < 8 := by omega
          go_wp2_with fail
          refine (rTorn s k _ hk8).mono ?_
          rintro e w2 ⟨rfl, hb2⟩
          have hbl2 := hbl.trans (hb2.mono hbl.size)
          clear s0 s1 s2 s3 s4 hb2
          obtain ⟨s0, s1, s2, s3, s4⟩ := blk5 (bheap HB.out.1 hbl2 (Nat.le_refl _))
          obtain ⟨m0, m1, m2⟩ := blk3 (bheap HB.out.2.1 hbl2 (Nat.le_refl _))
          cases ht : tornB s.l s.r k
          · cases hbm : bit m.n k <;> cases hbs : bit s.n k
            · have HT := Lib.hid (And.intro ht (And.intro hbm hbs))
              go_wp2_with (go_at_call 70; refine (rHas _ k _ (by assumption) (by assumption) hk8).mono ?_; rintro e w3 ⟨rfl, rfl⟩)
              go_roundg (gk - 1)
              case measure => have := HK.out.1; omega
              case rel => exact ⟨k + 1, by have := HK.out.1; omega, by go_num, q, rfl, by rw [cntTo_succ, HK.out.2.1]; simp [moreB, HT.out.1, HT.out.2.1, HT.out.2.2], by rw [anyTo_succ, HK.out.2.2]; simp [missB, HT.out.1, HT.out.2.1, HT.out.2.2], hbl2⟩
            · have HT := Lib.hid (And.intro ht (And.intro hbm hbs))
              go_wp2_with (go_at_call 70; refine (rHas _ k _ (by assumption) (by assumption) hk8).mono ?_; rintro e w3 ⟨rfl, rfl⟩)
              go_roundg (gk - 1)
              case measure => have := HK.out.1; omega
              case rel => exact ⟨k + 1, by have := HK.out.1; omega, by go_num, q + 1, by go_num, by rw [cntTo_succ, HK.out.2.1]; simp [moreB, HT.out.1, HT.out.2.1, HT.out.2.2], by rw [anyTo_succ, HK.out.2.2]; simp [missB, HT.out.1, HT.out.2.1, HT.out.2.2], hbl2⟩
            · have HT := Lib.hid (And.intro ht (And.intro hbm hbs))
              go_wp2_with (go_at_call 70; refine (rHas _ k _ (by assumption) (by assumption) hk8).mono ?_; rintro e w3 ⟨rfl, rfl⟩)
              go_ret
              have h8 := anyTo_at (p := missB s m) hlt (by simp [missB, HT.out.1, HT.out.2.1, HT.out.2.2])
              exact ⟨ret_bool (by rw [HRR.out, HF.out, h8]; simp), HB.out.2.2.trans (hbl2.mono HB.out.2.2.size)⟩
            · have HT := Lib.hid (And.intro ht (And.intro hbm hbs))
              go_wp2_with (go_at_call 70; refine (rHas _ k _ (by assumption) (by assumption) hk8).mono ?_; rintro e w3 ⟨rfl, rfl⟩)
              go_roundg (gk - 1)
              case measure => have := HK.out.1; omega
              case rel => exact ⟨k + 1, by have := HK.out.1; omega, by go_num, q, rfl, by rw [cntTo_succ, HK.out.2.1]; simp [moreB, HT.out.1, HT.out.2.1, HT.out.2.2], by rw [anyTo_succ, HK.out.2.2]; simp [missB, HT.out.1, HT.out.2.1, HT.out.2.2], hbl2⟩
          · have HT := Lib.hid ht
            go_wp2
            go_roundg (gk - 1)
            case measure => have := HK.out.1; omega
            case rel => exact ⟨k + 1, by have := HK.out.1; omega, by go_num, q, rfl, by rw [cntTo_succ, HK.out.2.1]; simp [moreB, HT.out], by rw [anyTo_succ, HK.out.2.2]; simp [missB, HT.out], hbl2⟩
        · obtain rfl : k = 8 := by omega
          go_wp2
          go_ret
          exact ⟨ret_bool (by rw [HRR.out, HF.out, HE.out, HK.out.2.2, ← HK.out.2.1]; simp), HB.out.2.2.trans (hbl.mono HB.out.2.2.size)⟩

set_option maxRecDepth 100000 in
set_option maxHeartbeats 2000000 in
theorem rMayB (t : Int) (A : Option Addr) (n c : Nat) (l : List Mk) (s : Sg) (w : World) (hl : Marks w A n l) (hn : n ≤ 4294967295) (hs : 0 ≤ s.n) (hs' : s.n ≤ 255) (ho : onI s.n s.l s.r = s.n) (hv : ∀ m ∈ l, 0 ≤ m.n ∧ m.n ≤ 255) :
    Calls Try.prog 83 #[.agg #[.int .i64 t, .slice A n c], vSg s] w fun e w' => ∃ v, e = .returned v ∧ OwnI w' w.heap.size v (mayL t l s) ∧ Below w.heap.size w w' := by
  have HV := Lib.hid (And.intro hv ho)
  have HL := Lib.hid hl.len
  obtain ⟨W0, hW⟩ : ∃ W0, W0 = (w.alloc (Obj.cells #[Value.int .i64 t, .slice A n c] 24)).alloc (Obj.cells #[Value.int .i64 s.n, .bool s.l, .bool s.r, .int .i64 s.b, .int .i64 s.p] 28) := ⟨_, rfl⟩
  have hB0 : Below w.heap.size w W0 := by rw [hW]; exact bal (bal0 w _) (Nat.le_refl _) _
  have b2 : W0.heap[w.heap.size]? = some (Obj.cells #[Value.int .i64 t, .slice A n c] 24 (0, 0)) := by rw [hW]; exact hblk_alloc (alloc_at rfl) _
  have b3 : W0.heap[w.heap.size + 1]? = some (Obj.cells #[Value.int .i64 s.n, .bool s.l, .bool s.r, .int .i64 s.b, .int .i64 s.p] 28 (0, 0)) := by rw [hW]; exact alloc_at (by simp)
  have hl0 := hl.below hB0 (Nat.le_refl _)
  clear hv ho hl
  go_enter Try.func83, Try.ntmps83
  unfold vSg
  go_wp2_with fail
  rw [← hW]
  clear hW
  have hw0 : w.heap.size + 1 < W0.heap.size := heap_lt b3
  have HB := Lib.hid (And.intro b2 (And.intro b3 (And.intro hB0 hl0)))
  clear b2 b3 hB0 hl0
  go_loopg [5, 6] n (fun g v i wr => ∃ k : Nat, k + g = n ∧ i = .int .i64 k ∧ OwnI wr W0.heap.size v (mayTo t l s k) ∧ Below W0.heap.size W0 wr)
  case atStart => exact ⟨0, by omega, rfl, Own.nil_, Below.refl _ _⟩
  case round =>
    obtain ⟨k, hk, rfl, hown, hbl⟩ := hrel
    have HK := Lib.hid (And.intro hk hown)
    have hkn : k ≤ n := by omega
    clear hk hown
    have hz := hbl.size
    obtain ⟨r0, r1⟩ := blk2 (bheap HB.out.1 hbl (Nat.le_refl _))
    obtain ⟨s0, s1, s2, s3, s4⟩ := blk5 (bheap HB.out.2.1 hbl (Nat.le_refl _))
    by_cases hlt : k < n
    · obtain ⟨b, off, m, rfl, hb, hm, c0, c1, c2⟩ := Marks.get (HB.out.2.2.2.below hbl (Nat.le_refl _)) hlt
      have HM := Lib.hid hm
      have hmv := HV.out.1 m (List.mem_of_getElem? hm)
      clear hm
      have i0 : (0 : Int) ≤ (k : Int) := by omega
      have i1 : (k : Int) < (n : Int) := by omega
      go_upto_region 5 with (fail)
      have k0 := cell_regrown r0
      have k1 := cell_regrown r1
      have k2 := cell_regrown s0
      have k3 := cell_regrown s1
      have k4 := cell_regrown s2
      have k5 := cell_regrown s3
      have k6 := cell_regrown s4
      have k7 := cell_regrown c0
      have k8 := cell_regrown c1
      have k9 := cell_regrown c2
      have cF : ∀ d os, Calls Try.prog 84 #[vSg s, vMk m, .int .i64 t] (Sort.grow (redrawn wr d) os) (fun e w'' => e = .returned (.bool (fits s m t)) ∧ ∃ p : Regrown, w'' = Sort.grow (redrawn wr p.d) p.os) := fun d os =>
        Calls.regrown_of (rFits s m t _ hmv.1 hmv.2 hs hs' HV.out.2)
      unfold vMk vSg at cF
      have HCF := Lib.hid cF
      clear cF
      refine wp_region_quiet_below (by kernel_rfl) (by kernel_rfl) ?_
      repeat (quiet_step (exact HCF.out _ _))
      refine wpQuiet_nil ?_
      intro _ hw'
      obtain ⟨⟨dq, osq⟩, hw''⟩ := hw'
      subst hw''
      obtain ⟨w1, hW1⟩ : ∃ w1, w1 = Sort.grow (redrawn wr dq) osq := ⟨_, rfl⟩
      have hb1 : Below wr.heap.size wr w1 := by rw [hW1]; exact below_regrown wr dq osq
      rw [← hW1]
      clear hW1 k0 k1 k2 k3 k4 k5 k6 k7 k8 k9
      have hbl1 : Below W0.heap.size W0 w1 := hbl.trans (hb1.mono hz)
      have hown1 := Lib.hid (HK.out.2.below hb1 (Nat.le_refl _))
      have hlen := mayTo_len t l s k
      have HS := Lib.hid (mayTo_succ (t := t) (s := s) HM.out)
      have hz1' := hbl1.size
      cases hf : fits s m t
      all_goals
        go_wp2_with (at_builtin; refine wp_app okInt rfl (.tmp 23) (.tmp 25) rfl W0.heap.size _ (mayTo t l s k) (k : Int) _ rfl rfl rfl rfl (one_eInt _) hown1.out ?_ ?_ ?_ ?_; (omega); (omega); (omega); intro v' w2 hown2 hb2 _ hz2; have HO2 := Lib.hid hown2; clear hown2)
        go_roundg (gk - 1)
        case measure => have := HK.out.1; omega
      · exact ⟨k + 1, by have := HK.out.1; omega, by go_num, by rw [HS.out, hf]; simpa using hown1.out, hbl1⟩
      · exact ⟨k + 1, by have := HK.out.1; omega, by go_num, by rw [HS.out, hf]; simpa using HO2.out, hbl1.trans hb2⟩
    · obtain rfl : k = n := by omega
      go_wp2
      go_ret
      exact ⟨_, rfl, by unfold mayL; rw [HL.out]; exact HK.out.2.mono (by omega), HB.out.2.2.1.trans (hbl.mono (by omega))⟩

set_option maxRecDepth 100000 in
set_option maxHeartbeats 1000000 in
theorem rMay (t : Int) (A : Option Addr) (n c : Nat) (l : List Mk) (s : Sg) (w : World) (hl : Marks w A n l) (hlc : n ≤ c) (hcm : c ≤ maxLen) :
    Calls Try.prog 44 #[.agg #[.int .i64 t, .slice A n c], vSg s] w fun e w' => ∃ v, e = .returned (.tuple #[v, .int .i64 (mayE t l s)]) ∧ OwnI w' w.heap.size v (mayR t l s) ∧ Below w.heap.size w w' := by
  have HL := Lib.hid (And.intro hl hl.len)
  obtain ⟨W0, hW⟩ : ∃ W0, W0 = (w.alloc (Obj.cells #[Value.int .i64 t, .slice A n c] 24)).alloc (Obj.cells #[Value.int .i64 s.n, .bool s.l, .bool s.r, .int .i64 s.b, .int .i64 s.p] 28) := ⟨_, rfl⟩
  have hB0 : Below w.heap.size w W0 := by rw [hW]; exact bal (bal0 w _) (Nat.le_refl _) _
  have b2 : W0.heap[w.heap.size]? = some (Obj.cells #[Value.int .i64 t, .slice A n c] 24 (0, 0)) := by rw [hW]; exact hblk_alloc (alloc_at rfl) _
  have b3 : W0.heap[w.heap.size + 1]? = some (Obj.cells #[Value.int .i64 s.n, .bool s.l, .bool s.r, .int .i64 s.b, .int .i64 s.p] 28 (0, 0)) := by rw [hW]; exact alloc_at (by simp)
  have hl0 := hl.below hB0 (Nat.le_refl _)
  clear hl
  go_enter Try.func44, Try.ntmps44
  unfold vSg
  go_upto_region 1 with (fail)
  rw [← hW]
  clear hW
  obtain ⟨r0, r1⟩ := blk2 b2
  go_wp2_with fail
  refine (rCheck t A n c l _ hl0 hlc hcm).mono ?_
  rintro e w1 ⟨rfl, hb1⟩
  have hB1 := hB0.trans (hb1.mono hB0.size)
  have b21 := bheap b2 hb1 (Nat.le_refl _)
  have b31 := bheap b3 hb1 (Nat.le_refl _)
  clear r0 r1 b2 b3 hB0 hb1 hl0
  obtain ⟨r0, r1⟩ := blk2 b21
  obtain ⟨s0, s1, s2, s3, s4⟩ := blk5 b31
  by_cases hck : check t l = 0
  · have h0 : (check t l != 0) = false := by simp [hck]
    have HC := Lib.hid hck
    clear hck
    go_wp2_with fail
    refine (rCheckSight s _).mono ?_
    rintro e w2 ⟨rfl, hb2⟩
    have hB2 := hB1.trans (hb2.mono hB1.size)
    have b22 := bheap b21 hb2 (Nat.le_refl _)
    have b32 := bheap b31 hb2 (Nat.le_refl _)
    clear r0 r1 s0 s1 s2 s3 s4 b21 b31 hB1 hb2
    obtain ⟨r0, r1⟩ := blk2 b22
    obtain ⟨s0, s1, s2, s3, s4⟩ := blk5 b32
    by_cases hse : seen s 9 6 = 0
    · have h1 : (seen s 9 6 != 0) = false := by simp [hse]
      have HS := Lib.hid hse
      have hv := (seen_ok hse).1
      have hon := (seen_ok hse).2.1
      have hm : ∀ m ∈ l, 0 ≤ m.n ∧ m.n ≤ 255 := fun m hm => (check_marks HC.out m hm).1
      have HM := Lib.hid (And.intro hm hon)
      have hn5 : n ≤ 4294967295 := by have := (check_ok HC.out).2.2.1; have := HL.out.2; omega
      clear hse hm hon
      go_wp2_with fail
      refine (rMayB t A n c l s _ (HL.out.1.below hB2 (Nat.le_refl _)) hn5 hv.1 hv.2 HM.out.2 HM.out.1).mono ?_
      rintro e w3 ⟨v, rfl, ho3, hb3⟩
      have HO := Lib.hid (And.intro ho3 hb3)
      clear ho3 hb3
      go_wp2
      go_ret2
      exact ⟨v, ret_val (by unfold mayE; rw [if_neg (by simp [HC.out]), HS.out]), by unfold mayR mayE; rw [if_pos (by rw [if_neg (by simp [HC.out]), HS.out])]; exact HO.out.1.mono hB2.size, hB2.trans (HO.out.2.mono hB2.size)⟩
    · have h1 : (seen s 9 6 != 0) = true := by simp [hse]
      have HS := Lib.hid hse
      clear hse
      go_wp2
      go_ret2
      exact ⟨.slice none 0 0, ret_val (by unfold mayE; rw [if_neg (by simp [HC.out])]), by unfold mayR mayE; rw [if_neg (by rw [if_neg (by simp [HC.out])]; exact HS.out)]; exact Own.nil_, hB2⟩
  · have h0 : (check t l != 0) = true := by simp [hck]
    have HC := Lib.hid hck
    clear hck
    go_wp2
    go_ret2
    exact ⟨.slice none 0 0, ret_val (by unfold mayE; rw [if_pos HC.out]), by unfold mayR mayE; rw [if_neg (by rw [if_pos HC.out]; exact HC.out)]; exact Own.nil_, hB1⟩
end Go.Proofs.Ytahlicinchehhaa
