/- mestaref03.Show. -/
import Derived.Test.YtahlicinchehhaaRefA
import Derived.Test.YtahlicinchehhaaShow
import Derived.Test.YtahlicinchehhaaSightOf
namespace Go.Proofs.Ytahlicinchehhaa
open Go.RowKit
set_option linter.unusedVariables false
set_option linter.unusedSimpArgs false

def sumTo (q : Nat → Bool) (k : Nat) : Nat := ((List.range k).map fun i => if q i then 2 ^ i else 0).sum
theorem sumTo_succ (q : Nat → Bool) (k : Nat) : sumTo q (k + 1) = sumTo q k + if q k then 2 ^ k else 0 := by
  unfold sumTo; rw [List.range_succ, List.map_append, List.sum_append]; simp
theorem sumTo_congr {p q : Nat → Bool} (h : ∀ i, i < 8 → p i = q i) : sumTo p 8 = sumTo q 8 := by
  unfold sumTo
  congr 1
  exact List.map_congr_left fun i hi => by rw [h i (by simpa using hi)]
theorem sumTo_bits : ∀ n, n < 256 → sumTo (fun i => n.testBit i) 8 = n := by decide +kernel
theorem sumTo_le (q : Nat → Bool) : ∀ k, sumTo q k < 2 ^ k
  | 0 => by simp [sumTo]
  | k + 1 => by
    have ih := sumTo_le q k
    rw [sumTo_succ, Nat.pow_succ]
    split <;> omega
def outB (m : Mk) (s : Sg) (i : Nat) : Bool := !tornB s.l s.r i && (bit s.n i || bit m.n i)
def newB (m : Mk) (s : Sg) (i : Nat) : Bool := bit s.n i && !bit m.n i
theorem outB_sum {m : Mk} {s : Sg} : ((sumTo (outB m s) 8 : Nat) : Int) = onI (orI m.n s.n) s.l s.r := by
  have h0 := onI_lo (orI m.n s.n) s.l s.r
  have h1 := onI_hi (orI m.n s.n) s.l s.r
  have h2 := sumTo_bits (onI (orI m.n s.n) s.l s.r).toNat (by omega)
  have h3 : sumTo (outB m s) 8 = sumTo (fun i => (onI (orI m.n s.n) s.l s.r).toNat.testBit i) 8 := sumTo_congr fun i hi => by
    show outB m s i = bit (onI (orI m.n s.n) s.l s.r) i
    rw [bit_on _ _ _ _ hi, bit_or]
    unfold outB
    cases bit m.n i <;> cases bit s.n i <;> cases tornB s.l s.r i <;> rfl
  rw [h3, h2]
  omega
theorem newB_cnt {m : Mk} {s : Sg} (hm : m.n ≤ 255) : cntTo (newB m s) 8 = popI (butI s.n m.n) := by
  unfold popI
  show cnt _ = cnt _
  refine cnt_congr fun i hi => ?_
  rw [bit_but _ _ hm i hi]; rfl
theorem ownerE_btw' (o : Int) (n : Nat) : ownerE [o] n = if btw o 0 ((n : Int) - 1) then 0 else 3 := by
  unfold ownerE; simp
theorem seen_plain (s : Sg) : seen ⟨s.n, s.l, s.r, if 0 < s.b then 10 else s.b, if 0 < s.p then 7 else s.p⟩ 9 6 = seen s 0 0 := by
  unfold seen
  dsimp only
  by_cases h1 : btw s.n 0 255 = false
  · rw [if_pos h1, if_pos h1]
  · rw [if_neg h1, if_neg h1]
    by_cases h2 : onI s.n s.l s.r ≠ s.n
    · rw [if_pos h2, if_pos h2]
    · rw [if_neg h2, if_neg h2]
      have e3 : ((if 0 < s.b then (10 : Int) else s.b) ≠ -1 ∧ btw (if 0 < s.b then (10 : Int) else s.b) 0 9 = false) ↔ (s.b ≠ -1 ∧ btw s.b 0 0 = false) := by
        rw [btw_no, btw_no]; split <;> omega
      have e4 : ((if 0 < s.p then (7 : Int) else s.p) ≠ -1 ∧ btw (if 0 < s.p then (7 : Int) else s.p) 0 6 = false) ↔ (s.p ≠ -1 ∧ btw s.p 0 0 = false) := by
        rw [btw_no, btw_no]; split <;> omega
      simp only [e3, e4]
/-- five stores into a block leave what lies below -/
theorem below_set5 {base : Nat} {w w' : World} (h : Below base w w') {b : Nat} (hb : base ≤ b) (x y z u v : Value) : Below base w (((((w'.setCell ⟨b, 0, none⟩ x).setCell ⟨b, 1, none⟩ y).setCell ⟨b, 2, none⟩ z).setCell ⟨b, 3, none⟩ u).setCell ⟨b, 4, none⟩ v) :=
  ((((h.setCell hb x).setCell hb y).setCell hb z).setCell hb u).setCell hb v

set_option maxRecDepth 100000 in
set_option maxHeartbeats 4000000 in
theorem rShow (t : Int) (A : Option Addr) (n c : Nat) (l : List Mk) (o : Int) (s : Sg) (w : World) (hl : Marks w A n l) (hlc : n ≤ c) (hcm : c ≤ maxLen) :
    Calls Try.prog 22 #[.agg #[.int .i64 t, .slice A n c], .int .i64 o, vSg s] w fun e w' => e = .returned (.tuple #[vSg (showS t l o s), .int .i64 (showE t l o s)]) ∧ Below w.heap.size w w' := by
  have HL := Lib.hid (And.intro hl hl.len)
  have hnm : n ≤ maxLen := by omega
  obtain ⟨RE, hRE⟩ : ∃ R, R = showE t l o s := ⟨_, rfl⟩
  obtain ⟨RS, hRS⟩ : ∃ R, R = showS t l o s := ⟨_, rfl⟩
  rw [← hRE, ← hRS]
  have HR := Lib.hid (And.intro hRE hRS)
  clear hRE hRS
  obtain ⟨W0, hW⟩ : ∃ W0, W0 = ((w.alloc (Obj.cells #[Value.int .i64 t, .slice A n c] 24)).alloc (Obj.cells #[Value.int .i64 s.n, .bool s.l, .bool s.r, .int .i64 s.b, .int .i64 s.p] 28)).alloc (Obj.cells #[Value.int .i64 0, .bool false, .bool false, .int .i64 0, .int .i64 0] 28) := ⟨_, rfl⟩
  have hB0 : Below w.heap.size w W0 := by rw [hW]; exact bal (bal (bal0 w _) (Nat.le_refl _) _) (Nat.le_refl _) _
  have b2 : W0.heap[w.heap.size]? = some (Obj.cells #[Value.int .i64 t, .slice A n c] 24 (0, 0)) := by rw [hW]; exact hblk_alloc (hblk_alloc (alloc_at rfl) _) _
  have b3 : W0.heap[w.heap.size + 1]? = some (Obj.cells #[Value.int .i64 s.n, .bool s.l, .bool s.r, .int .i64 s.b, .int .i64 s.p] 28 (0, 0)) := by rw [hW]; exact hblk_alloc (alloc_at (by simp)) _
  have b4 : W0.heap[w.heap.size + 1 + 1]? = some (Obj.cells #[Value.int .i64 0, .bool false, .bool false, .int .i64 0, .int .i64 0] 28 (0, 0)) := by rw [hW]; exact alloc_at (by simp)
  clear hl
  go_enter Try.func22, Try.ntmps22
  unfold vSg
  go_upto_region 1 with (fail)
  rw [← hW]
  clear hW
  obtain ⟨r0, r1⟩ := blk2 b2
  go_wp2_with fail
  refine (rCheck t A n c l _ (HL.out.1.below hB0 (Nat.le_refl _)) hlc hcm).mono ?_
  rintro e w1 ⟨rfl, hb1⟩
  have hB1 := hB0.trans (hb1.mono hB0.size)
  have c2 := bheap b2 hb1 (Nat.le_refl _)
  have c3 := bheap b3 hb1 (Nat.le_refl _)
  have c4 := bheap b4 hb1 (Nat.le_refl _)
  clear r0 r1 b2 b3 b4 hB0 hb1
  have zend : ∀ (wx : World), wx.heap[w.heap.size + 1 + 1]? = some (Obj.cells #[Value.int .i64 0, .bool false, .bool false, .int .i64 0, .int .i64 0] 28 (0, 0)) → True := fun _ _ => trivial
  clear zend
  by_cases hck : check t l = 0
  · have h0 : (check t l != 0) = false := by simp [hck]
    have HC := Lib.hid hck
    clear hck
    obtain ⟨r0, r1⟩ := blk2 c2
    go_wp2_with fail
    refine (rIsOwner t A n c o _ hnm).mono ?_
    rintro e w2 ⟨rfl, hb2⟩
    have hB2 := hB1.trans (hb2.mono hB1.size)
    have d2 := bheap c2 hb2 (Nat.le_refl _)
    have d3 := bheap c3 hb2 (Nat.le_refl _)
    have d4 := bheap c4 hb2 (Nat.le_refl _)
    clear r0 r1 c2 c3 c4 hB1 hb2
    cases how : btw o 0 ((n : Int) - 1)
    · have HE := Lib.hid (show RE = 3 by rw [HR.out.1]; unfold showE; rw [if_neg (by simp [HC.out]), HL.out.2, ownerE_btw', how]; rfl)
      have HS := Lib.hid (show RS = ⟨0, false, false, 0, 0⟩ by rw [HR.out.2]; unfold showS; rw [if_neg (by rw [← HR.out.1, HE.out]; omega)])
      clear how
      obtain ⟨q0, q1, q2, q3, q4⟩ := blk5 d4
      have f0 := frz d4 0
      have f1 := frz d4 1
      have f2 := frz d4 2
      have f3 := frz d4 3
      have f4 := frz d4 4
      have z4 := heap_lt d4
      go_wp2
      refine bodyPost_ret (v := .tuple #[vSg ⟨0, false, false, 0, 0⟩, .int .i64 3]) (by simp [results, Try.f22, go_sem, vSg, q0, q1, q2, q3, q4, z4]) rfl ⟨by rw [HE.out, HS.out]; rfl, below_set5 hB2 (by omega) _ _ _ _ _⟩
    · have hoo := btw_iff.1 how
      obtain ⟨k, rfl⟩ := Int.eq_ofNat_of_zero_le hoo.1
      have hkn : k < n := by omega
      have hown := Lib.hid (show ¬ ownerE [(k : Int)] l.length ≠ 0 by rw [HL.out.2, ownerE_btw', how]; simp)
      clear how hoo
      obtain ⟨r0, r1⟩ := blk2 d2
      obtain ⟨s0, s1, s2, s3, s4⟩ := blk5 d3
      go_upto_region 7 with (fail)
      obtain ⟨W3, hW⟩ : ∃ W3, W3 = w2.alloc (Obj.cells #[Value.int .i64 s.n, .bool s.l, .bool s.r, .int .i64 s.b, .int .i64 s.p] 28) := ⟨_, rfl⟩
      rw [← hW]
      have e5 : W3.heap[w2.heap.size]? = some (Obj.cells #[Value.int .i64 s.n, .bool s.l, .bool s.r, .int .i64 s.b, .int .i64 s.p] 28 (0, 0)) := by rw [hW]; exact alloc_at rfl
      have e2 : W3.heap[w.heap.size]? = some (Obj.cells #[Value.int .i64 t, .slice A n c] 24 (0, 0)) := by rw [hW]; exact hblk_alloc d2 _
      have e3 : W3.heap[w.heap.size + 1]? = some (Obj.cells #[Value.int .i64 s.n, .bool s.l, .bool s.r, .int .i64 s.b, .int .i64 s.p] 28 (0, 0)) := by rw [hW]; exact hblk_alloc d3 _
      have e4 : W3.heap[w.heap.size + 1 + 1]? = some (Obj.cells #[Value.int .i64 0, .bool false, .bool false, .int .i64 0, .int .i64 0] 28 (0, 0)) := by rw [hW]; exact hblk_alloc d4 _
      have hB3 : Below w.heap.size w W3 := by rw [hW]; exact bal hB2 (Nat.le_refl _) _
      have hz2 : w.heap.size + 1 + 1 < w2.heap.size := heap_lt d4
      have hzb := hB2.size
      clear hW r0 r1 s0 s1 s2 s3 s4 d2 d3 d4 hB2
      obtain ⟨s0, s1, s2, s3, s4⟩ := blk5 e3
      obtain ⟨PB, hPB⟩ : ∃ PB : Int, PB = if 0 < s.b then 10 else s.b := ⟨_, rfl⟩
      obtain ⟨PP, hPP⟩ : ∃ PP : Int, PP = if 0 < s.p then 7 else s.p := ⟨_, rfl⟩
      have HP := Lib.hid (And.intro hPB hPP)
      clear hPB hPP
      have f53 := frz e5 3
      have p53 := (blk5 e5).2.2.2.1
      have HE5 := Lib.hid (And.intro e5 (And.intro e2 (And.intro e3 (And.intro e4 hB3))))
      clear e5 e2 e3 e4 hB3
      go_upto_if 30 with (fail)
      go_cut [31] (fun _ wx => wx.heap[w2.heap.size]? = some (Obj.cells #[Value.int .i64 s.n, .bool s.l, .bool s.r, .int .i64 PB, .int .i64 s.p] 28 (0, 0)) ∧ (∀ j, j ≠ w2.heap.size → wx.heap[j]? = W3.heap[j]?) ∧ Below w.heap.size w wx)
      case first =>
        by_cases hb : 0 < s.b
        · have e : Hid (PB = 10) := Lib.hid (by rw [HP.out.1, if_pos hb])
          go_wp2
          go_meet
          exact ⟨by rw [e.out]; exact set5_3 HE5.out.1, fun j hj => Below.heap_setCell _ ⟨w2.heap.size, 3, none⟩ _ _ hj, HE5.out.2.2.2.2.setCell (by dsimp; omega) _⟩
        · have e : Hid (PB = s.b) := Lib.hid (by rw [HP.out.1, if_neg hb])
          go_wp2
          go_meet
          exact ⟨by rw [e.out]; exact HE5.out.1, fun j hj => rfl, HE5.out.2.2.2.2⟩
      case rest =>
        obtain ⟨g5, gfar, hBx⟩ := hcut
        obtain ⟨w4, rfl⟩ : ∃ w4 : World, w4 = wc := ⟨_, rfl⟩
        have f54 := frz g5 4
        have p54 := (blk5 g5).2.2.2.2
        have g3 := (gfar (w.heap.size + 1) (by omega)).trans HE5.out.2.2.1
        obtain ⟨s0, s1, s2, s3, s4⟩ := blk5 g3
        have HG := Lib.hid (And.intro g5 (And.intro gfar hBx))
        clear g5 gfar hBx g3 f53 p53
        go_upto_if 34 with (fail)
        go_cut [35] (fun _ wx => wx.heap[w2.heap.size]? = some (Obj.cells #[Value.int .i64 s.n, .bool s.l, .bool s.r, .int .i64 PB, .int .i64 PP] 28 (0, 0)) ∧ (∀ j, j ≠ w2.heap.size → wx.heap[j]? = W3.heap[j]?) ∧ Below w.heap.size w wx)
        case first =>
          by_cases hb : 0 < s.p
          · have e : Hid (PP = 7) := Lib.hid (by rw [HP.out.2, if_pos hb])
            go_wp2
            go_meet
            exact ⟨by rw [e.out]; exact set5_4 HG.out.1, fun j hj => (Below.heap_setCell _ ⟨w2.heap.size, 4, none⟩ _ _ hj).trans (HG.out.2.1 j hj), HG.out.2.2.setCell (by dsimp; omega) _⟩
          · have e : Hid (PP = s.p) := Lib.hid (by rw [HP.out.2, if_neg hb])
            go_wp2
            go_meet
            exact ⟨by rw [e.out]; exact HG.out.1, HG.out.2.1, HG.out.2.2⟩
        case rest =>
          obtain ⟨g5, gfar, hBx⟩ := hcut
          obtain ⟨w5, rfl⟩ : ∃ w5 : World, w5 = wc := ⟨_, rfl⟩
          have g3 := (gfar (w.heap.size + 1) (by omega)).trans HE5.out.2.2.1
          have g2 := (gfar w.heap.size (by omega)).trans HE5.out.2.1
          have g4 := (gfar (w.heap.size + 1 + 1) (by omega)).trans HE5.out.2.2.2.1
          clear f54 p54 s0 s1 s2 s3 s4 gfar
          obtain ⟨p0, p1, p2, p3, p4⟩ := blk5 g5
          go_wp2_with fail
          have hsp := rCheckSight ⟨s.n, s.l, s.r, PB, PP⟩ w5
          rw [HP.out.1, HP.out.2, seen_plain, ← HP.out.1, ← HP.out.2] at hsp
          refine hsp.mono ?_
          rintro e w6 ⟨rfl, hb6⟩
          have h2 := bheap g2 hb6 (Nat.le_refl _)
          have h3 := bheap g3 hb6 (Nat.le_refl _)
          have h4 := bheap g4 hb6 (Nat.le_refl _)
          have hB6 := hBx.trans (hb6.mono hBx.size)
          have hz6 := hb6.size
          have hz5 := heap_lt g5
          clear g2 g3 g4 hb6 hBx p0 p1 p2 p3 p4 g5 hsp
          have hat : HL.out = HL.out := rfl
          clear hat
          by_cases hse : seen s 0 0 = 0
          · have hs1 : (seen s 0 0 != 0) = false := by simp [hse]
            have HSE := Lib.hid hse
            have hsv := (seen_ok hse).1
            clear hse
            obtain ⟨r0, r1⟩ := blk2 h2
            obtain ⟨s0, s1, s2, s3, s4⟩ := blk5 h3
            have z3 := heap_lt h3
            have z2 := heap_lt h2
            have z4 := heap_lt h4
            obtain ⟨b, off, m, rfl, hb, hm, m0, m1, m2⟩ := Marks.get (HL.out.1.below hB6 (Nat.le_refl _)) hkn
            have hmv := (check_marks HC.out m (List.mem_of_getElem? hm)).1
            have HM := Lib.hid (show mkAt l (k : Int) = m by unfold mkAt; simp [hm])
            clear hm
            dsimp only
            go_upto_region 17 with (fail)
            obtain ⟨W7, hW⟩ : ∃ W7, W7 = (w6.alloc (Obj.cells #[Value.int .i64 m.n, .int .i64 m.b, .int .i64 m.p] 26)).alloc (Obj.cells #[Value.int .i64 0, .bool s.l, .bool s.r, .int .i64 s.b, .int .i64 s.p] 28) := ⟨_, rfl⟩
            have j2 : W7.heap[w.heap.size]? = some (Obj.cells #[Value.int .i64 t, .slice (some ⟨b, off, none⟩) n c] 24 (0, 0)) := by rw [hW]; exact hblk_alloc (hblk_alloc h2 _) _
            have j3 : W7.heap[w.heap.size + 1]? = some (Obj.cells #[Value.int .i64 s.n, .bool s.l, .bool s.r, .int .i64 s.b, .int .i64 s.p] 28 (0, 0)) := by rw [hW]; exact hblk_alloc (hblk_alloc h3 _) _
            have j4 : W7.heap[w.heap.size + 1 + 1]? = some (Obj.cells #[Value.int .i64 0, .bool false, .bool false, .int .i64 0, .int .i64 0] 28 (0, 0)) := by rw [hW]; exact hblk_alloc (hblk_alloc h4 _) _
            have j5 : W7.heap[w6.heap.size]? = some (Obj.cells #[Value.int .i64 m.n, .int .i64 m.b, .int .i64 m.p] 26 (0, 0)) := by rw [hW]; exact hblk_alloc (alloc_at rfl) _
            have j6 : W7.heap[w6.heap.size + 1]? = some (Obj.cells #[Value.int .i64 0, .bool s.l, .bool s.r, .int .i64 s.b, .int .i64 s.p] 28 (0, 0)) := by rw [hW]; exact alloc_at (by simp)
            have hB7 : Below w.heap.size w W7 := by rw [hW]; exact bal (bal hB6 (Nat.le_refl _) _) (Nat.le_refl _) _
            rw [← hW]
            clear hW r0 r1 s0 s1 s2 s3 s4 m0 m1 m2 h2 h3 h4 hB6
            have hmN : m.n ≤ 255 := hmv.2
            have hmZ : 0 ≤ m.n := hmv.1
            have hsN : s.n ≤ 255 := hsv.2
            have hsZ : 0 ≤ s.n := hsv.1
            have HJ := Lib.hid (And.intro j2 (And.intro j3 (And.intro j4 (And.intro j5 (And.intro j6 hB7)))))
            clear j2 j3 j4 j5 j6 hB7 hmv hsv
            go_wp2_with fail
            go_loopg [13, 14, 15] 8 (fun g mo bi i wr => ∃ j : Nat, j + g = 8 ∧ i = .int .i64 j ∧ ∃ q z : Nat, mo = .int .i64 q ∧ q = cntTo (newB m s) j ∧ z = sumTo (outB m s) j ∧ (∃ p2 : Nat, bi = .int .i64 p2 ∧ p2 = 2 ^ j) ∧
              wr.heap[w6.heap.size + 1]? = some (Obj.cells #[Value.int .i64 z, .bool s.l, .bool s.r, .int .i64 s.b, .int .i64 s.p] 28 (0, 0)) ∧ (∀ jj, jj < W7.heap.size → jj ≠ w6.heap.size + 1 → wr.heap[jj]? = W7.heap[jj]?) ∧ Below w.heap.size w wr ∧ W7.heap.size ≤ wr.heap.size)
            case atStart => exact ⟨0, by omega, rfl, 0, 0, rfl, rfl, rfl, ⟨1, rfl, rfl⟩, HJ.out.2.2.2.2.1, fun _ _ _ => rfl, HJ.out.2.2.2.2.2, Nat.le_refl _⟩
            case round =>
              obtain ⟨j, hj, rfl, q, z, rfl, hq, hzz, ⟨p2, rfl, hp2⟩, g6, gfar, hBr, hzr⟩ := hrel
              have hqj : q ≤ j := by rw [hq]; exact cntTo_le _ _
              have hj8 : j ≤ 8 := by omega
              have hp256 : p2 ≤ 256 := by rw [hp2]; exact Nat.le_trans (Nat.pow_le_pow_right (n := 2) (by omega) hj8) (by decide)
              have hz256 : z + p2 ≤ 512 := by
                have h1 := sumTo_le (outB m s) j
                rw [hzz, hp2]
                have h2 : 2 ^ j ≤ 2 ^ 8 := Nat.pow_le_pow_right (n := 2) (by omega) hj8
                have h3 : (2 : Nat) ^ 8 = 256 := rfl
                omega
              have HK := Lib.hid (And.intro hj (And.intro hq (And.intro hzz (And.intro hp2 (And.intro g6 (And.intro gfar hBr))))))
              have z3 := heap_lt HJ.out.2.1
              have z5 := heap_lt HJ.out.2.2.2.1
              have z6 := heap_lt HJ.out.2.2.2.2.1
              have z2 := heap_lt HJ.out.1
              obtain ⟨s0, s1, s2, s3, s4⟩ := blk5 ((gfar (w.heap.size + 1) z3 (by omega)).trans HJ.out.2.1)
              obtain ⟨m0, m1, m2⟩ := blk3 ((gfar w6.heap.size z5 (by omega)).trans HJ.out.2.2.2.1)
              obtain ⟨u0, u1, u2, u3, u4⟩ := blk5 g6
              have fu := frz g6 0
              have x3 : w.heap.size + 1 < wr.heap.size := by omega
              have x5 : w6.heap.size < wr.heap.size := by omega
              have x6 : w6.heap.size + 1 < wr.heap.size := by omega
              clear hj hq hzz hp2 gfar
              by_cases hlt : j < 8
              · have hlt' : (j : Int) < 8 := by omega
                have hjle : j ≤ 8 := hj8
                cases hbs : bit s.n j <;> cases hbm : bit m.n j <;> cases ht : tornB s.l s.r j
                · have HT := Lib.hid (And.intro hbs (And.intro hbm ht))
                  go_wp2_with (first
                    | (go_at_call 70; refine (rHas _ j _ (by assumption) (by assumption) hjle).mono ?_; rintro e wx ⟨rfl, rfl⟩)
                    | (go_at_call 71; refine (rTorn s j _ hjle).mono ?_; rintro e w8 ⟨rfl, hb8⟩; have hz8 := hb8.size; obtain ⟨hc8, hf8⟩ := bc hb8; have y3 : w.heap.size + 1 < w8.heap.size := (by omega); have y5 : w6.heap.size < w8.heap.size := (by omega); have y6 : w6.heap.size + 1 < w8.heap.size := (by omega); have HB8 := Lib.hid hb8; clear hb8))
                  go_roundg (gk - 1)
                  case measure => have := HK.out.1; omega
                  case rel =>
                    refine ⟨j + 1, by have := HK.out.1; omega, by go_num, q, z, rfl, ?_, ?_, ⟨2 * p2, by congr 1, ?_⟩, bheap HK.out.2.2.2.2.1 HB8.out (Nat.le_refl _), fun jj h1 h2 => ((HB8.out.block jj (by omega)).trans (HK.out.2.2.2.2.2.1 jj h1 h2)), (HK.out.2.2.2.2.2.2.trans (HB8.out.mono HK.out.2.2.2.2.2.2.size)), by omega⟩
                    · rw [cntTo_succ, HK.out.2.1]; simp [newB, HT.out.1, HT.out.2.1]
                    · rw [sumTo_succ, HK.out.2.2.1]; simp [outB, HT.out.1, HT.out.2.1, HT.out.2.2]
                    · rw [Nat.pow_succ, HK.out.2.2.2.1]; omega
                · have HT := Lib.hid (And.intro hbs (And.intro hbm ht))
                  go_wp2_with (first
                    | (go_at_call 70; refine (rHas _ j _ (by assumption) (by assumption) hjle).mono ?_; rintro e wx ⟨rfl, rfl⟩)
                    | (go_at_call 71; refine (rTorn s j _ hjle).mono ?_; rintro e w8 ⟨rfl, hb8⟩; have hz8 := hb8.size; obtain ⟨hc8, hf8⟩ := bc hb8; have y3 : w.heap.size + 1 < w8.heap.size := (by omega); have y5 : w6.heap.size < w8.heap.size := (by omega); have y6 : w6.heap.size + 1 < w8.heap.size := (by omega); have HB8 := Lib.hid hb8; clear hb8))
                  go_roundg (gk - 1)
                  case measure => have := HK.out.1; omega
                  case rel =>
                    refine ⟨j + 1, by have := HK.out.1; omega, by go_num, q, z, rfl, ?_, ?_, ⟨2 * p2, by congr 1, ?_⟩, bheap HK.out.2.2.2.2.1 HB8.out (Nat.le_refl _), fun jj h1 h2 => ((HB8.out.block jj (by omega)).trans (HK.out.2.2.2.2.2.1 jj h1 h2)), (HK.out.2.2.2.2.2.2.trans (HB8.out.mono HK.out.2.2.2.2.2.2.size)), by omega⟩
                    · rw [cntTo_succ, HK.out.2.1]; simp [newB, HT.out.1, HT.out.2.1]
                    · rw [sumTo_succ, HK.out.2.2.1]; simp [outB, HT.out.1, HT.out.2.1, HT.out.2.2]
                    · rw [Nat.pow_succ, HK.out.2.2.2.1]; omega
                · have HT := Lib.hid (And.intro hbs (And.intro hbm ht))
                  go_wp2_with (first
                    | (go_at_call 70; refine (rHas _ j _ (by assumption) (by assumption) hjle).mono ?_; rintro e wx ⟨rfl, rfl⟩)
                    | (go_at_call 71; refine (rTorn s j _ hjle).mono ?_; rintro e w8 ⟨rfl, hb8⟩; have hz8 := hb8.size; obtain ⟨hc8, hf8⟩ := bc hb8; have y3 : w.heap.size + 1 < w8.heap.size := (by omega); have y5 : w6.heap.size < w8.heap.size := (by omega); have y6 : w6.heap.size + 1 < w8.heap.size := (by omega); have HB8 := Lib.hid hb8; clear hb8))
                  go_roundg (gk - 1)
                  case measure => have := HK.out.1; omega
                  case rel =>
                    refine ⟨j + 1, by have := HK.out.1; omega, by go_num, q, z + p2, rfl, ?_, ?_, ⟨2 * p2, by congr 1, ?_⟩, ?_, fun jj h1 h2 => (Below.heap_setCell _ ⟨w6.heap.size + 1, 0, none⟩ _ _ h2).trans ((HB8.out.block jj (by omega)).trans (HK.out.2.2.2.2.2.1 jj h1 h2)), (HK.out.2.2.2.2.2.2.trans (HB8.out.mono HK.out.2.2.2.2.2.2.size)).setCell (by dsimp; omega) _, by simp; omega⟩
                    · rw [cntTo_succ, HK.out.2.1]; simp [newB, HT.out.1, HT.out.2.1]
                    · rw [sumTo_succ, HK.out.2.2.1, HK.out.2.2.2.1]; simp [outB, HT.out.1, HT.out.2.1, HT.out.2.2]
                    · rw [Nat.pow_succ, HK.out.2.2.2.1]; omega
                    · have h := set5_0 (z := Value.int .i64 ((z : Int) + (p2 : Int))) (bheap HK.out.2.2.2.2.1 HB8.out (Nat.le_refl _))
                      simpa using h
                · have HT := Lib.hid (And.intro hbs (And.intro hbm ht))
                  go_wp2_with (first
                    | (go_at_call 70; refine (rHas _ j _ (by assumption) (by assumption) hjle).mono ?_; rintro e wx ⟨rfl, rfl⟩)
                    | (go_at_call 71; refine (rTorn s j _ hjle).mono ?_; rintro e w8 ⟨rfl, hb8⟩; have hz8 := hb8.size; obtain ⟨hc8, hf8⟩ := bc hb8; have y3 : w.heap.size + 1 < w8.heap.size := (by omega); have y5 : w6.heap.size < w8.heap.size := (by omega); have y6 : w6.heap.size + 1 < w8.heap.size := (by omega); have HB8 := Lib.hid hb8; clear hb8))
                  go_roundg (gk - 1)
                  case measure => have := HK.out.1; omega
                  case rel =>
                    refine ⟨j + 1, by have := HK.out.1; omega, by go_num, q, z, rfl, ?_, ?_, ⟨2 * p2, by congr 1, ?_⟩, bheap HK.out.2.2.2.2.1 HB8.out (Nat.le_refl _), fun jj h1 h2 => ((HB8.out.block jj (by omega)).trans (HK.out.2.2.2.2.2.1 jj h1 h2)), (HK.out.2.2.2.2.2.2.trans (HB8.out.mono HK.out.2.2.2.2.2.2.size)), by omega⟩
                    · rw [cntTo_succ, HK.out.2.1]; simp [newB, HT.out.1, HT.out.2.1]
                    · rw [sumTo_succ, HK.out.2.2.1]; simp [outB, HT.out.1, HT.out.2.1, HT.out.2.2]
                    · rw [Nat.pow_succ, HK.out.2.2.2.1]; omega
                · have HT := Lib.hid (And.intro hbs (And.intro hbm ht))
                  go_wp2_with (first
                    | (go_at_call 70; refine (rHas _ j _ (by assumption) (by assumption) hjle).mono ?_; rintro e wx ⟨rfl, rfl⟩)
                    | (go_at_call 71; refine (rTorn s j _ hjle).mono ?_; rintro e w8 ⟨rfl, hb8⟩; have hz8 := hb8.size; obtain ⟨hc8, hf8⟩ := bc hb8; have y3 : w.heap.size + 1 < w8.heap.size := (by omega); have y5 : w6.heap.size < w8.heap.size := (by omega); have y6 : w6.heap.size + 1 < w8.heap.size := (by omega); have HB8 := Lib.hid hb8; clear hb8))
                  go_roundg (gk - 1)
                  case measure => have := HK.out.1; omega
                  case rel =>
                    refine ⟨j + 1, by have := HK.out.1; omega, by go_num, q + 1, z + p2, by go_num, ?_, ?_, ⟨2 * p2, by congr 1, ?_⟩, ?_, fun jj h1 h2 => (Below.heap_setCell _ ⟨w6.heap.size + 1, 0, none⟩ _ _ h2).trans ((HB8.out.block jj (by omega)).trans (HK.out.2.2.2.2.2.1 jj h1 h2)), (HK.out.2.2.2.2.2.2.trans (HB8.out.mono HK.out.2.2.2.2.2.2.size)).setCell (by dsimp; omega) _, by simp; omega⟩
                    · rw [cntTo_succ, HK.out.2.1]; simp [newB, HT.out.1, HT.out.2.1]
                    · rw [sumTo_succ, HK.out.2.2.1, HK.out.2.2.2.1]; simp [outB, HT.out.1, HT.out.2.1, HT.out.2.2]
                    · rw [Nat.pow_succ, HK.out.2.2.2.1]; omega
                    · have h := set5_0 (z := Value.int .i64 ((z : Int) + (p2 : Int))) (bheap HK.out.2.2.2.2.1 HB8.out (Nat.le_refl _))
                      simpa using h
                · have HT := Lib.hid (And.intro hbs (And.intro hbm ht))
                  go_wp2_with (first
                    | (go_at_call 70; refine (rHas _ j _ (by assumption) (by assumption) hjle).mono ?_; rintro e wx ⟨rfl, rfl⟩)
                    | (go_at_call 71; refine (rTorn s j _ hjle).mono ?_; rintro e w8 ⟨rfl, hb8⟩; have hz8 := hb8.size; obtain ⟨hc8, hf8⟩ := bc hb8; have y3 : w.heap.size + 1 < w8.heap.size := (by omega); have y5 : w6.heap.size < w8.heap.size := (by omega); have y6 : w6.heap.size + 1 < w8.heap.size := (by omega); have HB8 := Lib.hid hb8; clear hb8))
                  go_roundg (gk - 1)
                  case measure => have := HK.out.1; omega
                  case rel =>
                    refine ⟨j + 1, by have := HK.out.1; omega, by go_num, q + 1, z, by go_num, ?_, ?_, ⟨2 * p2, by congr 1, ?_⟩, bheap HK.out.2.2.2.2.1 HB8.out (Nat.le_refl _), fun jj h1 h2 => ((HB8.out.block jj (by omega)).trans (HK.out.2.2.2.2.2.1 jj h1 h2)), (HK.out.2.2.2.2.2.2.trans (HB8.out.mono HK.out.2.2.2.2.2.2.size)), by omega⟩
                    · rw [cntTo_succ, HK.out.2.1]; simp [newB, HT.out.1, HT.out.2.1]
                    · rw [sumTo_succ, HK.out.2.2.1]; simp [outB, HT.out.1, HT.out.2.1, HT.out.2.2]
                    · rw [Nat.pow_succ, HK.out.2.2.2.1]; omega
                · have HT := Lib.hid (And.intro hbs (And.intro hbm ht))
                  go_wp2_with (first
                    | (go_at_call 70; refine (rHas _ j _ (by assumption) (by assumption) hjle).mono ?_; rintro e wx ⟨rfl, rfl⟩)
                    | (go_at_call 71; refine (rTorn s j _ hjle).mono ?_; rintro e w8 ⟨rfl, hb8⟩; have hz8 := hb8.size; obtain ⟨hc8, hf8⟩ := bc hb8; have y3 : w.heap.size + 1 < w8.heap.size := (by omega); have y5 : w6.heap.size < w8.heap.size := (by omega); have y6 : w6.heap.size + 1 < w8.heap.size := (by omega); have HB8 := Lib.hid hb8; clear hb8))
                  go_roundg (gk - 1)
                  case measure => have := HK.out.1; omega
                  case rel =>
                    refine ⟨j + 1, by have := HK.out.1; omega, by go_num, q, z + p2, rfl, ?_, ?_, ⟨2 * p2, by congr 1, ?_⟩, ?_, fun jj h1 h2 => (Below.heap_setCell _ ⟨w6.heap.size + 1, 0, none⟩ _ _ h2).trans ((HB8.out.block jj (by omega)).trans (HK.out.2.2.2.2.2.1 jj h1 h2)), (HK.out.2.2.2.2.2.2.trans (HB8.out.mono HK.out.2.2.2.2.2.2.size)).setCell (by dsimp; omega) _, by simp; omega⟩
                    · rw [cntTo_succ, HK.out.2.1]; simp [newB, HT.out.1, HT.out.2.1]
                    · rw [sumTo_succ, HK.out.2.2.1, HK.out.2.2.2.1]; simp [outB, HT.out.1, HT.out.2.1, HT.out.2.2]
                    · rw [Nat.pow_succ, HK.out.2.2.2.1]; omega
                    · have h := set5_0 (z := Value.int .i64 ((z : Int) + (p2 : Int))) (bheap HK.out.2.2.2.2.1 HB8.out (Nat.le_refl _))
                      simpa using h
                · have HT := Lib.hid (And.intro hbs (And.intro hbm ht))
                  go_wp2_with (first
                    | (go_at_call 70; refine (rHas _ j _ (by assumption) (by assumption) hjle).mono ?_; rintro e wx ⟨rfl, rfl⟩)
                    | (go_at_call 71; refine (rTorn s j _ hjle).mono ?_; rintro e w8 ⟨rfl, hb8⟩; have hz8 := hb8.size; obtain ⟨hc8, hf8⟩ := bc hb8; have y3 : w.heap.size + 1 < w8.heap.size := (by omega); have y5 : w6.heap.size < w8.heap.size := (by omega); have y6 : w6.heap.size + 1 < w8.heap.size := (by omega); have HB8 := Lib.hid hb8; clear hb8))
                  go_roundg (gk - 1)
                  case measure => have := HK.out.1; omega
                  case rel =>
                    refine ⟨j + 1, by have := HK.out.1; omega, by go_num, q, z, rfl, ?_, ?_, ⟨2 * p2, by congr 1, ?_⟩, bheap HK.out.2.2.2.2.1 HB8.out (Nat.le_refl _), fun jj h1 h2 => ((HB8.out.block jj (by omega)).trans (HK.out.2.2.2.2.2.1 jj h1 h2)), (HK.out.2.2.2.2.2.2.trans (HB8.out.mono HK.out.2.2.2.2.2.2.size)), by omega⟩
                    · rw [cntTo_succ, HK.out.2.1]; simp [newB, HT.out.1, HT.out.2.1]
                    · rw [sumTo_succ, HK.out.2.2.1]; simp [outB, HT.out.1, HT.out.2.1, HT.out.2.2]
                    · rw [Nat.pow_succ, HK.out.2.2.2.1]; omega
              · obtain rfl : j = 8 := by omega
                obtain ⟨_, hq, hzz, _, _, gfar, hBr⟩ := HK.out
                have hqp : q = popI (butI s.n m.n) := by rw [hq, newB_cnt hmN]
                have hzo : (z : Int) = onI (orI m.n s.n) s.l s.r := by rw [hzz, outB_sum]
                have z4 := heap_lt HJ.out.2.2.1
                have h4 := (gfar (w.heap.size + 1 + 1) z4 (by omega)).trans HJ.out.2.2.1
                have h2 := (gfar w.heap.size z2 (by omega)).trans HJ.out.1
                have zr := heap_lt h4
                obtain ⟨r0, r1⟩ := blk2 h2
                obtain ⟨q0, q1, q2, q3, q4⟩ := blk5 h4
                have f0 := frz h4 0
                have f1 := frz h4 1
                have f2 := frz h4 2
                have f3 := frz h4 3
                have f4 := frz h4 4
                have fu3 := frz g6 3
                have fu4 := frz g6 4
                have HQ := Lib.hid (And.intro hqp (And.intro hzo hBr))
                clear hq hzz gfar hBr hqp hzo
                by_cases hbar : t < (q : Int)
                · have HE := Lib.hid (show RE = 9 by rw [HR.out.1]; unfold showE; rw [if_neg (by simp [HC.out]), if_neg hown.out, if_neg (by simp [HSE.out]), HM.out, if_pos (by rw [← HQ.out.1]; exact hbar)])
                  have HS := Lib.hid (show RS = ⟨0, false, false, 0, 0⟩ by rw [HR.out.2]; unfold showS; rw [if_neg (by rw [← HR.out.1, HE.out]; omega)])
                  go_wp2
                  refine bodyPost_ret (v := .tuple #[vSg ⟨0, false, false, 0, 0⟩, .int .i64 9]) (by simp [results, Try.f22, go_sem, vSg, q0, q1, q2, q3, q4, zr]) rfl ⟨by rw [HE.out, HS.out]; rfl, below_set5 HQ.out.2.2 (by omega) _ _ _ _ _⟩
                · have HE := Lib.hid (show RE = 0 by rw [HR.out.1]; unfold showE; rw [if_neg (by simp [HC.out]), if_neg hown.out, if_neg (by simp [HSE.out]), HM.out, if_neg (by rw [← HQ.out.1]; exact hbar)])
                  have HS := Lib.hid (show RS = wornS m s by rw [HR.out.2]; unfold showS; rw [if_pos (by rw [← HR.out.1, HE.out]), HM.out])
                  cases e3 : (s.b != -1) <;> cases e4 : (s.p != -1)
                  all_goals
                    have HEE := Lib.hid (And.intro e3 e4)
                    go_wp2
                    refine bodyPost_ret (v := .tuple #[.agg #[.int .i64 _, .bool _, .bool _, .int .i64 _, .int .i64 _], .int .i64 0]) (by simp [results, Try.f22, go_sem, q0, q1, q2, q3, q4, u0, u1, u2, u3, u4, zr, x6]; exact ⟨rfl, rfl, rfl, rfl, rfl⟩) rfl ⟨?_, ?_⟩
                    · have h3 := HEE.out.1
                      have h4' := HEE.out.2
                      simp only [bne_iff_ne, ne_eq, bne_eq_false_iff_eq] at h3 h4'
                      rw [HE.out, HS.out]
                      unfold wornS
                      simp [h3, h4', ← HQ.out.2.1]
                    · have hb := HQ.out.2.2
                      repeat' (first | (with_reducible exact hb) | refine Below.setCell ?_ (by dsimp; omega) _)
          · have hs1 : (seen s 0 0 != 0) = true := by simp [hse]
            have HE := Lib.hid (show RE = seen s 0 0 by rw [HR.out.1]; unfold showE; rw [if_neg (by simp [HC.out]), if_neg hown.out, if_pos hse])
            have HS := Lib.hid (show RS = ⟨0, false, false, 0, 0⟩ by rw [HR.out.2]; unfold showS; rw [if_neg (by rw [← HR.out.1, HE.out]; exact hse)])
            clear hse
            obtain ⟨q0, q1, q2, q3, q4⟩ := blk5 h4
            have f0 := frz h4 0
            have f1 := frz h4 1
            have f2 := frz h4 2
            have f3 := frz h4 3
            have f4 := frz h4 4
            have z4 := heap_lt h4
            dsimp only
            go_wp2
            refine bodyPost_ret (v := .tuple #[vSg ⟨0, false, false, 0, 0⟩, .int .i64 (seen s 0 0)]) (by simp [results, Try.f22, go_sem, vSg, q0, q1, q2, q3, q4, z4]) rfl ⟨by rw [HE.out, HS.out]; rfl, below_set5 hB6 (by omega) _ _ _ _ _⟩
  · have h0 : (check t l != 0) = true := by simp [hck]
    have HE := Lib.hid (show RE = check t l by rw [HR.out.1]; unfold showE; rw [if_pos hck])
    have HS := Lib.hid (show RS = ⟨0, false, false, 0, 0⟩ by rw [HR.out.2]; unfold showS; rw [if_neg (by rw [← HR.out.1, HE.out]; exact hck)])
    clear hck
    obtain ⟨q0, q1, q2, q3, q4⟩ := blk5 c4
    have f0 := frz c4 0
    have f1 := frz c4 1
    have f2 := frz c4 2
    have f3 := frz c4 3
    have f4 := frz c4 4
    have z4 := heap_lt c4
    go_wp2
    refine bodyPost_ret (v := .tuple #[vSg ⟨0, false, false, 0, 0⟩, .int .i64 (check t l)]) (by simp [results, Try.f22, go_sem, vSg, q0, q1, q2, q3, q4, z4]) rfl ⟨by rw [HE.out, HS.out]; rfl, below_set5 hB1 (by omega) _ _ _ _ _⟩
end Go.Proofs.Ytahlicinchehhaa
