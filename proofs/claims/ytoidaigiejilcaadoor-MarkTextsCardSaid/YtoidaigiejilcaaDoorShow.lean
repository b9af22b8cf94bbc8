/- mark.Show. -/
import Derived.Test.YtoidaigiejilcaaDoorCheck
import Derived.Test.YtoidaigiejilcaaDoorBase
namespace Go.Proofs.YtoidaigiejilcaaDoor
open Go.RowKit
set_option linter.unusedVariables false
set_option linter.unusedSimpArgs false

def mkAt (l : List Mk) (o : Int) : Mk := (l[o.toNat]?).getD ⟨0, 0, 0⟩
def showE (t : Int) (l : List Mk) (o : Int) (s : Sg) : Int :=
  if check t l ≠ 0 then check t l else if ownerE [o] l.length ≠ 0 then 3 else if seen s 0 0 ≠ 0 then seen s 0 0 else
  if t < (popI (butI s.n (mkAt l o).n) : Int) then 9 else 0
def wornS (m : Mk) (s : Sg) : Sg := ⟨onI (orI m.n s.n) s.l s.r, s.l, s.r, if s.b = -1 then -1 else m.b, if s.p = -1 then -1 else m.p⟩
def showS (t : Int) (l : List Mk) (o : Int) (s : Sg) : Sg := if showE t l o s = 0 then wornS (mkAt l o) s else ⟨0, false, false, 0, 0⟩
theorem ownerE_or (L : List Int) (n : Nat) : ownerE L n = 0 ∨ ownerE L n = 3 := by unfold ownerE; split <;> simp
theorem ownerE_one {o : Int} {n : Nat} : ownerE [o] n = 0 ↔ 0 ≤ o ∧ o < n := by
  unfold ownerE
  by_cases h : btw o 0 ((n : Int) - 1) = true
  · simp [h]; rw [btw_iff] at h; omega
  · simp [h]
    rw [btw_iff] at h
    omega

set_option maxHeartbeats 2000000 in
theorem Show_ok (t : Int) (A : Option Addr) (n c : Nat) (l : List Mk) (o : Int) (s : Sg) (w : World) (HL : Hid (Marks w A n l)) (HN : Hid (l.length = n)) (hlc : n ≤ c) (hcm : c ≤ maxLen) (hnm : n ≤ maxLen)
    (hb0 : Below w.heap.size w (((w.alloc (Obj.cells #[Value.int .i64 t, .slice A n c] 26)).alloc (Obj.cells #[Value.int .i64 s.n, .bool s.l, .bool s.r, .int .i64 s.b, .int .i64 s.p] 42)).alloc (Obj.cells #[Value.int .i64 0, .bool false, .bool false, .int .i64 0, .int .i64 0] 42)))
    (h0 : (check t l != 0) = false) (HC : Hid (check t l = 0)) (h1 : (ownerE [o] n != 0) = false) (HO : Hid (ownerE [o] n = 0)) (hse : seen s 0 0 = 0) :
    Calls Tryd.prog 14 #[.agg #[.int .i64 t, .slice A n c], .int .i64 o, vSg s] w fun e w' => e = .returned (.tuple #[vSg (showS t l o s), .int .i64 (showE t l o s)]) ∧ Below w.heap.size w w' := by
  have h2 : (seen s 0 0 != 0) = false := by simp [hse]
  have HS := Lib.hid hse
  clear hse
  go_enter Tryd.func14, Tryd.ntmps14
  unfold vSg
  go_wp2_with (first
    | (go_at_call 26; refine (check_any t A n c l _ (((HL.out.alloc _).alloc _).alloc _) hlc hcm).mono ?_; rintro e w1 ⟨rfl, hb1⟩; obtain ⟨hc1, hf1⟩ := bc hb1; have hz1 := hb1.size; simp at hz1; have g1 : w.heap.size < w1.heap.size := (by omega); have g2 : w.heap.size + 1 < w1.heap.size := (by omega); have g3 : w.heap.size + 1 + 1 < w1.heap.size := (by omega); have HB1 := Lib.hid hb1; clear hb1)
    | (go_at_call 38; refine (owner_any t A n c [o] (some ⟨w1.heap.size + 1, 0, none⟩) 1 1 _ ?_ hnm (by decide)).mono ?_; (have := ints1 (w1.alloc (Obj.cells #[Value.int .i64 t, .slice A n c] 79)) 3 o; simpa using this); rintro e w2 ⟨rfl, hb2⟩; obtain ⟨hc2, hf2⟩ := bc hb2; have hz2 := hb2.size; simp at hz2; have i1 : w.heap.size < w2.heap.size := (by omega); have i2 : w.heap.size + 1 < w2.heap.size := (by omega); have i3 : w.heap.size + 1 + 1 < w2.heap.size := (by omega); have i4 : w1.heap.size < w2.heap.size := (by omega); have HB2 := Lib.hid hb2; clear hb2)
    | (go_at_call 39; refine (seen_any s 0 0 _).mono ?_; rintro e w3 ⟨rfl, hb3⟩; obtain ⟨hc3, hf3⟩ := bc hb3; have hz3 := hb3.size; have j1 : w.heap.size < w3.heap.size := (by omega); have j2 : w.heap.size + 1 < w3.heap.size := (by omega); have j3 : w.heap.size + 1 + 1 < w3.heap.size := (by omega); have j4 : w1.heap.size < w3.heap.size := (by omega); have HB3 := Lib.hid hb3; clear hb3))
  have b5 := bheap (bheap (hblk_alloc (hblk_alloc (bheap (hblk_alloc (alloc_at (w := w.alloc (Obj.cells #[Value.int .i64 t, .slice A n c] 26)) (o := Obj.cells #[Value.int .i64 s.n, .bool s.l, .bool s.r, .int .i64 s.b, .int .i64 s.p] 42) (n := w.heap.size + 1) (by simp)) _) HB1.out (Nat.le_refl _)) _) _) HB2.out (Nat.le_refl _)) HB3.out (Nat.le_refl _)
  have b6 := bheap (bheap (hblk_alloc (hblk_alloc (bheap (alloc_at (w := (w.alloc (Obj.cells #[Value.int .i64 t, .slice A n c] 26)).alloc (Obj.cells #[Value.int .i64 s.n, .bool s.l, .bool s.r, .int .i64 s.b, .int .i64 s.p] 42)) (o := Obj.cells #[Value.int .i64 0, .bool false, .bool false, .int .i64 0, .int .i64 0] 42) (n := w.heap.size + 1 + 1) (by simp)) HB1.out (Nat.le_refl _)) _) _) HB2.out (Nat.le_refl _)) HB3.out (Nat.le_refl _)
  have b9 := bheap (bheap (hblk_alloc (alloc_at (w := w1) (o := Obj.cells #[Value.int .i64 t, .slice A n c] 79) rfl) _) HB2.out (Nat.le_refl _)) HB3.out (Nat.le_refl _)
  have hm3 : Marks w3 A n l := (((((((HL.out.alloc _).alloc _).alloc _).below HB1.out (Nat.le_refl _)).alloc _).alloc _).below HB2.out (Nat.le_refl _)).below HB3.out (Nat.le_refl _)
  have HB := Lib.hid (show Below w.heap.size w w3 from (hb0.trans (HB1.out.mono (by simp; omega))).trans ((((Below.refl _ w1).alloc (Nat.le_refl _) _).alloc (by simp) _).mono (by omega) |>.trans ((HB2.out.mono (by simp; omega)).trans (HB3.out.mono (by omega)))))
  obtain ⟨ho0, ho1⟩ := ownerE_one.1 HO.out
  obtain ⟨k, rfl⟩ := Int.eq_ofNat_of_zero_le ho0
  have hkn : k < n := by omega
  have hkl : (k : Int) < (n : Int) := by omega
  obtain ⟨b, off, m, rfl, hb, hm, m0, m1, m2⟩ := Marks.get hm3 hkn
  have HM := Lib.hid (show mkAt l (k : Int) = m by simp [mkAt, hm])
  have hmv := (check_marks HC.out m (List.mem_of_getElem? hm)).1
  have hsv := (seen_ok HS.out).1
  clear hm hc1 hf1 hc2 hf2 hc3 hf3 hm3 hb0 HB1 HB2 HB3 h0 h1 h2 ho0 ho1
  obtain ⟨s0, s1, s2, s3, s4⟩ := blk5 b5
  obtain ⟨z0, z1, z2, z3, z4⟩ := blk5 b6
  obtain ⟨r0, r1⟩ := blk2 b9
  have HBK := Lib.hid (And.intro b5 (And.intro b6 b9))
  clear b5 b6 b9
  go_region
  have hq1 := butI_lo s.n m.n
  have hq2 := butI_hi s.n m.n
  go_wp2_with fail
  obtain ⟨W4, hW4⟩ : ∃ W4, W4 = (w3.alloc (Obj.cells #[Value.int .i64 m.n, .int .i64 m.b, .int .i64 m.p] 52)).drew := ⟨_, rfl⟩
  have hB4 : Below w3.heap.size w3 W4 := by rw [hW4]; exact ((Below.refl _ _).alloc (Nat.le_refl _) _).drew
  have b12 : W4.heap[w3.heap.size]? = some (Obj.cells #[Value.int .i64 m.n, .int .i64 m.b, .int .i64 m.p] 52 (0, 0)) := by rw [hW4]; exact alloc_at rfl
  rw [← hW4]
  clear hW4
  have m0 := bcell m0 hB4 (Nat.le_refl _)
  have r0 := bcell r0 hB4 (Nat.le_refl _)
  have r1 := bcell r1 hB4 (Nat.le_refl _)
  have b5 := bheap HBK.out.1 hB4 (Nat.le_refl _)
  have b6 := bheap HBK.out.2.1 hB4 (Nat.le_refl _)
  have HB4 := Lib.hid (show Below w.heap.size w W4 from HB.out.trans (hB4.mono HB.out.size))
  have HBK4 := Lib.hid (And.intro b5 (And.intro b6 b12))
  have e6 : w.heap.size + 1 + 1 < W4.heap.size := heap_lt b6
  have e5 : w.heap.size + 1 < W4.heap.size := by omega
  have e12 : w3.heap.size < W4.heap.size := heap_lt b12
  clear m1 m2 s0 s1 s2 s3 s4 z0 z1 z2 z3 z4 HBK HB hB4 b5 b6 b12
  go_quiet ((first
    | (go_at_call 40; exact quiet_left (but_any _ _ _ (by exact hsv.1) (by exact hsv.2) (by exact hmv.1) (by exact hmv.2)))
    | (go_at_call 41; exact quiet_left (count_any _ _ (by assumption) (by assumption)))))
  have HE := Lib.hid (show showE t l (k : Int) s = if t < (popI (butI s.n m.n) : Int) then 9 else 0 by
    unfold showE; rw [if_neg (by simp [HC.out]), if_neg (by rw [HN.out]; simp [HO.out]), if_neg (by simp [HS.out]), HM.out])
  obtain ⟨W5, hW5⟩ : ∃ W5, W5 = W4.drewN nq := ⟨_, rfl⟩
  have hB5 : Below W4.heap.size W4 W5 := by rw [hW5]; exact below_drewN (Below.refl _ _) _
  have hBK5 : _ ∧ _ ∧ _ := ⟨bheap HBK4.out.1 hB5 (Nat.le_refl _), bheap HBK4.out.2.1 hB5 (Nat.le_refl _), bheap HBK4.out.2.2 hB5 (Nat.le_refl _)⟩
  have hB5' : Below w.heap.size w W5 := HB4.out.trans (hB5.mono HB4.out.size)
  rw [← hW5]
  clear hW5 HB4 HBK4 e6 e5 e12 hB5
  obtain ⟨W4', rfl⟩ : ∃ W4', W4' = W4 := ⟨_, rfl⟩
  obtain ⟨W4, rfl⟩ : ∃ W4, W4 = W5 := ⟨_, rfl⟩
  have HBK4 := Lib.hid hBK5
  have HB4 := Lib.hid hB5'
  have e6 : w.heap.size + 1 + 1 < W4.heap.size := heap_lt HBK4.out.2.1
  have e5 : w.heap.size + 1 < W4.heap.size := by omega
  have e12 : w3.heap.size < W4.heap.size := heap_lt HBK4.out.2.2
  clear hBK5 hB5' m0
  obtain ⟨s0, s1, s2, s3, s4⟩ := blk5 HBK4.out.1
  obtain ⟨z0, z1, z2, z3, z4⟩ := blk5 HBK4.out.2.1
  obtain ⟨m0, m1, m2⟩ := blk3 HBK4.out.2.2
  have fz : ∀ i, W4.frozen? ⟨w.heap.size + 1 + 1, i, none⟩ = false := fun i => by simp [World.frozen?, HBK4.out.2.1]
  by_cases hbar : t < (popI (butI s.n m.n) : Int)
  · have HBA := Lib.hid hbar
    have hbar' : decide (t < (popI (butI s.n m.n) : Int)) = true := by simp [hbar]
    clear hbar
    simp only [hbar']
    go_wp2
    refine bodyPost_ret (v := .tuple #[vSg ⟨0, false, false, 0, 0⟩, .int .i64 9]) (by simp [results, Tryd.f14, go_sem, vSg, z0, z1, z2, z3, z4]) rfl ?_
    have hE := HE.out
    rw [if_pos HBA.out] at hE
    have hS : showS t l (k : Int) s = ⟨0, false, false, 0, 0⟩ := by unfold showS; rw [if_neg (by rw [hE]; decide)]
    refine ⟨by rw [hS, hE]; rfl, ?_⟩
    exact (((((HB4.out.setCell (by dsimp; omega) _).setCell (by dsimp; omega) _).setCell (by dsimp; omega) _).setCell (by dsimp; omega) _).setCell (by dsimp; omega) _)
  · have HBA := Lib.hid hbar
    have hbar' : decide (t < (popI (butI s.n m.n) : Int)) = false := by simp [hbar]
    clear hbar
    have hor := bits_or m.n s.n hmv.1 hmv.2 hsv.1 hsv.2
    have hol := orI_lo m.n s.n
    have hoh := orI_hi hmv.2 hsv.2
    simp only [hbar']
    go_upto_if 72 with (go_at_call 42; refine (on_any (orI m.n s.n) s _ hol hoh).mono ?_; rintro e w5 ⟨rfl, hb5⟩; obtain ⟨hc5, hf5⟩ := bc hb5; have hz5 := hb5.size; simp at hz5; have l1 : w.heap.size + 1 < w5.heap.size := (by omega); have l2 : w.heap.size + 1 + 1 < w5.heap.size := (by omega); have l3 : w3.heap.size < w5.heap.size := (by omega); have l4 : W4.heap.size < w5.heap.size := (by omega); have HB5 := Lib.hid hb5; clear hb5)
    have d14 := bheap (alloc_at (w := W4) (o := Obj.cells #[Value.int .i64 s.n, .bool s.l, .bool s.r, .int .i64 s.b, .int .i64 s.p] 42) rfl) HB5.out (Nat.le_refl _)
    have d12 := bheap (hblk_alloc HBK4.out.2.2 (Obj.cells #[Value.int .i64 s.n, .bool s.l, .bool s.r, .int .i64 s.b, .int .i64 s.p] 42)) HB5.out (Nat.le_refl _)
    have d6 := bheap (hblk_alloc HBK4.out.2.1 (Obj.cells #[Value.int .i64 s.n, .bool s.l, .bool s.r, .int .i64 s.b, .int .i64 s.p] 42)) HB5.out (Nat.le_refl _)
    have hbw5 : Below w.heap.size w w5 := HB4.out.trans (((Below.refl _ _).alloc (Nat.le_refl _) _).mono HB4.out.size |>.trans (HB5.out.mono (by simp; omega)))
    obtain ⟨W6, hW6⟩ : ∃ W6, W6 = w5.setCell ⟨W4.heap.size, 0, none⟩ (.int .i64 (onI (orI m.n s.n) s.l s.r)) := ⟨_, rfl⟩
    have k14 : W6.heap[W4.heap.size]? = some (Obj.cells #[Value.int .i64 (onI (orI m.n s.n) s.l s.r), .bool s.l, .bool s.r, .int .i64 s.b, .int .i64 s.p] 42 (0, 0)) := by rw [hW6]; simp [World.setCell, Array.getElem?_modify, d14]
    have k12 : W6.heap[w3.heap.size]? = some (Obj.cells #[Value.int .i64 m.n, .int .i64 m.b, .int .i64 m.p] 52 (0, 0)) := by rw [hW6]; exact (Below.heap_setCell w5 ⟨W4.heap.size, 0, none⟩ _ _ (by dsimp; omega)).trans d12
    have k6 : W6.heap[w.heap.size + 1 + 1]? = some (Obj.cells #[Value.int .i64 0, .bool false, .bool false, .int .i64 0, .int .i64 0] 42 (0, 0)) := by rw [hW6]; exact (Below.heap_setCell w5 ⟨W4.heap.size, 0, none⟩ _ _ (by dsimp; omega)).trans d6
    have hbw6 : Below w.heap.size w W6 := by rw [hW6]; exact hbw5.setCell (by dsimp; omega) _
    rw [← hW6]
    have hz6 : W4.heap.size < W6.heap.size := heap_lt k14
    clear hW6 d14 d12 d6 hbw5 hc5 hf5 HB5 l1 l2 l3 l4 hz5 s0 s1 s2 s3 s4 z0 z1 z2 z3 z4 m0 m1 m2 fz
    obtain ⟨s0, s1, s2, s3, s4⟩ := blk5 k14
    obtain ⟨m0, m1, m2⟩ := blk3 k12
    obtain ⟨z0, z1, z2, z3, z4⟩ := blk5 k6
    have fz : ∀ i, W6.frozen? ⟨w.heap.size + 1 + 1, i, none⟩ = false := fun i => by simp [World.frozen?, k6]
    have fs : ∀ i, W6.frozen? ⟨W4.heap.size, i, none⟩ = false := fun i => by simp [World.frozen?, k14]
    have HK6 := Lib.hid (And.intro k6 (And.intro k12 (And.intro k14 hbw6)))
    have hE := HE.out
    rw [if_neg (by have := HBA.out; omega)] at hE
    have HE2 := Lib.hid hE
    clear k6 k12 k14 hbw6 hE HE hor
    cases hb1 : (s.b != -1) <;> cases hb2 : (s.p != -1)
    all_goals go_wp2
    · refine bodyPost_ret (v := .tuple #[vSg ⟨onI (orI m.n s.n) s.l s.r, s.l, s.r, s.b, s.p⟩, .int .i64 0]) (by simp [results, Tryd.f14, go_sem, vSg, z0, z1, z2, z3, z4]) rfl ?_
      have hbb : s.b = -1 := by simpa using hb1
      have hpp : s.p = -1 := by simpa using hb2
      have hS : showS t l (k : Int) s = ⟨onI (orI m.n s.n) s.l s.r, s.l, s.r, s.b, s.p⟩ := by
        unfold showS; rw [if_pos HE2.out, HM.out]; unfold wornS; simp [hbb, hpp]
      refine ⟨by rw [hS, HE2.out]; rfl, ?_⟩
      have hb6 := HK6.out.2.2.2
      repeat' (first | (with_reducible exact hb6) | refine Below.setCell ?_ (by dsimp; omega) _)
    · refine bodyPost_ret (v := .tuple #[vSg ⟨onI (orI m.n s.n) s.l s.r, s.l, s.r, s.b, m.p⟩, .int .i64 0]) (by simp [results, Tryd.f14, go_sem, vSg, z0, z1, z2, z3, z4]) rfl ?_
      have hbb : s.b = -1 := by simpa using hb1
      have hpp : ¬ s.p = -1 := by simpa using hb2
      have hS : showS t l (k : Int) s = ⟨onI (orI m.n s.n) s.l s.r, s.l, s.r, s.b, m.p⟩ := by
        unfold showS; rw [if_pos HE2.out, HM.out]; unfold wornS; simp [hbb, hpp]
      refine ⟨by rw [hS, HE2.out]; rfl, ?_⟩
      have hb6 := HK6.out.2.2.2
      repeat' (first | (with_reducible exact hb6) | refine Below.setCell ?_ (by dsimp; omega) _)
    · refine bodyPost_ret (v := .tuple #[vSg ⟨onI (orI m.n s.n) s.l s.r, s.l, s.r, m.b, s.p⟩, .int .i64 0]) (by simp [results, Tryd.f14, go_sem, vSg, z0, z1, z2, z3, z4]) rfl ?_
      have hbb : ¬ s.b = -1 := by simpa using hb1
      have hpp : s.p = -1 := by simpa using hb2
      have hS : showS t l (k : Int) s = ⟨onI (orI m.n s.n) s.l s.r, s.l, s.r, m.b, s.p⟩ := by
        unfold showS; rw [if_pos HE2.out, HM.out]; unfold wornS; simp [hbb, hpp]
      refine ⟨by rw [hS, HE2.out]; rfl, ?_⟩
      have hb6 := HK6.out.2.2.2
      repeat' (first | (with_reducible exact hb6) | refine Below.setCell ?_ (by dsimp; omega) _)
    · refine bodyPost_ret (v := .tuple #[vSg ⟨onI (orI m.n s.n) s.l s.r, s.l, s.r, m.b, m.p⟩, .int .i64 0]) (by simp [results, Tryd.f14, go_sem, vSg, z0, z1, z2, z3, z4]) rfl ?_
      have hbb : ¬ s.b = -1 := by simpa using hb1
      have hpp : ¬ s.p = -1 := by simpa using hb2
      have hS : showS t l (k : Int) s = ⟨onI (orI m.n s.n) s.l s.r, s.l, s.r, m.b, m.p⟩ := by
        unfold showS; rw [if_pos HE2.out, HM.out]; unfold wornS; simp [hbb, hpp]
      refine ⟨by rw [hS, HE2.out]; rfl, ?_⟩
      have hb6 := HK6.out.2.2.2
      repeat' (first | (with_reducible exact hb6) | refine Below.setCell ?_ (by dsimp; omega) _)

set_option maxHeartbeats 2000000 in
theorem Show_any (t : Int) (A : Option Addr) (n c : Nat) (l : List Mk) (o : Int) (s : Sg) (w : World) (hl : Marks w A n l) (hlc : n ≤ c) (hcm : c ≤ maxLen) :
    Calls Tryd.prog 14 #[.agg #[.int .i64 t, .slice A n c], .int .i64 o, vSg s] w fun e w' => e = .returned (.tuple #[vSg (showS t l o s), .int .i64 (showE t l o s)]) ∧ Below w.heap.size w w' := by
  have HL := Lib.hid hl
  have HN := Lib.hid hl.len
  have hnm : n ≤ maxLen := by omega
  have hb0 : Below w.heap.size w (((w.alloc (Obj.cells #[Value.int .i64 t, .slice A n c] 26)).alloc (Obj.cells #[Value.int .i64 s.n, .bool s.l, .bool s.r, .int .i64 s.b, .int .i64 s.p] 42)).alloc (Obj.cells #[Value.int .i64 0, .bool false, .bool false, .int .i64 0, .int .i64 0] 42)) := (((Below.refl _ _).alloc (Nat.le_refl _) _).alloc (by simp) _).alloc (by simp; omega) _
  clear hl
  by_cases hck : check t l = 0
  · have h0 : (check t l != 0) = false := by simp [hck]
    have HC := Lib.hid hck
    clear hck
    by_cases how : ownerE [o] n = 0
    · have h1 : (ownerE [o] n != 0) = false := by simp [how]
      have HO := Lib.hid how
      clear how
      by_cases hse : seen s 0 0 = 0
      · exact Show_ok t A n c l o s w HL HN hlc hcm hnm hb0 h0 HC h1 HO hse
      · have h2 : (seen s 0 0 != 0) = true := by simp [hse]
        have HE := Lib.hid (show showE t l o s = seen s 0 0 by unfold showE; rw [if_neg (by simp [HC.out]), if_neg (by rw [HN.out]; simp [HO.out]), if_pos hse])
        have HS := Lib.hid hse
        clear hse
        go_enter Tryd.func14, Tryd.ntmps14
        unfold vSg
        go_wp2_with (first
          | (go_at_call 26; refine (check_any t A n c l _ (((HL.out.alloc _).alloc _).alloc _) hlc hcm).mono ?_; rintro e w1 ⟨rfl, hb1⟩; obtain ⟨hc1, hf1⟩ := bc hb1; have hz1 := hb1.size; simp at hz1; have g1 : w.heap.size < w1.heap.size := (by omega); have g2 : w.heap.size + 1 < w1.heap.size := (by omega); have g3 : w.heap.size + 1 + 1 < w1.heap.size := (by omega); have HB1 := Lib.hid hb1; clear hb1)
          | (go_at_call 38; refine (owner_any t A n c [o] (some ⟨w1.heap.size + 1, 0, none⟩) 1 1 _ ?_ hnm (by decide)).mono ?_; (have := ints1 (w1.alloc (Obj.cells #[Value.int .i64 t, .slice A n c] 79)) 3 o; simpa using this); rintro e w2 ⟨rfl, hb2⟩; obtain ⟨hc2, hf2⟩ := bc hb2; have hz2 := hb2.size; simp at hz2; have i1 : w.heap.size < w2.heap.size := (by omega); have i2 : w.heap.size + 1 < w2.heap.size := (by omega); have i3 : w.heap.size + 1 + 1 < w2.heap.size := (by omega); have i4 : w1.heap.size < w2.heap.size := (by omega); have HB2 := Lib.hid hb2; clear hb2)
          | (go_at_call 39; refine (seen_any s 0 0 _).mono ?_; rintro e w3 ⟨rfl, hb3⟩; obtain ⟨hc3, hf3⟩ := bc hb3; have hz3 := hb3.size; have j1 : w.heap.size < w3.heap.size := (by omega); have j2 : w.heap.size + 1 < w3.heap.size := (by omega); have j3 : w.heap.size + 1 + 1 < w3.heap.size := (by omega); have j4 : w1.heap.size < w3.heap.size := (by omega); have HB3 := Lib.hid hb3; clear hb3))
        refine bodyPost_ret (v := .tuple #[vSg ⟨0, false, false, 0, 0⟩, .int .i64 (seen s 0 0)]) (by simp [results, Tryd.f14, go_sem, vSg, g1, g2, g3, hc1, hc2, hc3, i1, i2, i3, i4, j1, j2, j3, j4]) rfl ?_
        have hE := HE.out
        have hS : showS t l o s = ⟨0, false, false, 0, 0⟩ := by unfold showS; rw [if_neg (by rw [hE]; exact HS.out)]
        refine ⟨by rw [hS, hE]; rfl, ?_⟩
        have hbb : Below w.heap.size w w3 := (hb0.trans (HB1.out.mono (by simp; omega))).trans ((((Below.refl _ w1).alloc (Nat.le_refl _) _).alloc (by simp) _).mono (by omega) |>.trans ((HB2.out.mono (by simp; omega)).trans (HB3.out.mono (by omega))))
        repeat' (first | (with_reducible exact hbb) | refine Below.setCell ?_ (by dsimp; omega) _)
    · have h1 : (ownerE [o] n != 0) = true := by simp [how]
      have hw3 : ownerE [o] n = 3 := (ownerE_or _ _).resolve_left how
      have HE := Lib.hid (show showE t l o s = ownerE [o] n by unfold showE; rw [if_neg (by simp [HC.out]), if_pos (by rw [HN.out]; exact how), hw3])
      have HS := Lib.hid how
      clear how hw3
      go_enter Tryd.func14, Tryd.ntmps14
      unfold vSg
      go_wp2_with (first
        | (go_at_call 26; refine (check_any t A n c l _ (((HL.out.alloc _).alloc _).alloc _) hlc hcm).mono ?_; rintro e w1 ⟨rfl, hb1⟩; obtain ⟨hc1, hf1⟩ := bc hb1; have hz1 := hb1.size; simp at hz1; have g1 : w.heap.size < w1.heap.size := (by omega); have g2 : w.heap.size + 1 < w1.heap.size := (by omega); have g3 : w.heap.size + 1 + 1 < w1.heap.size := (by omega); have HB1 := Lib.hid hb1; clear hb1)
        | (go_at_call 38; refine (owner_any t A n c [o] (some ⟨w1.heap.size + 1, 0, none⟩) 1 1 _ ?_ hnm (by decide)).mono ?_; (have := ints1 (w1.alloc (Obj.cells #[Value.int .i64 t, .slice A n c] 79)) 3 o; simpa using this); rintro e w2 ⟨rfl, hb2⟩; obtain ⟨hc2, hf2⟩ := bc hb2; have hz2 := hb2.size; simp at hz2; have i1 : w.heap.size < w2.heap.size := (by omega); have i2 : w.heap.size + 1 < w2.heap.size := (by omega); have i3 : w.heap.size + 1 + 1 < w2.heap.size := (by omega); have i4 : w1.heap.size < w2.heap.size := (by omega); have HB2 := Lib.hid hb2; clear hb2))
      refine bodyPost_ret (v := .tuple #[vSg ⟨0, false, false, 0, 0⟩, .int .i64 (ownerE [o] n)]) (by simp [results, Tryd.f14, go_sem, vSg, g1, g2, g3, hc1, hc2, i1, i2, i3, i4]) rfl ?_
      have hE := HE.out
      have hS : showS t l o s = ⟨0, false, false, 0, 0⟩ := by unfold showS; rw [if_neg (by rw [hE]; exact HS.out)]
      refine ⟨by rw [hS, hE]; rfl, ?_⟩
      have hbb : Below w.heap.size w w2 := (hb0.trans (HB1.out.mono (by simp; omega))).trans ((((Below.refl _ w1).alloc (Nat.le_refl _) _).alloc (by simp) _).mono (by omega) |>.trans (HB2.out.mono (by simp; omega)))
      repeat' (first | (with_reducible exact hbb) | refine Below.setCell ?_ (by dsimp; omega) _)
  · have h0 : (check t l != 0) = true := by simp [hck]
    have HE := Lib.hid (show showE t l o s = check t l by unfold showE; rw [if_pos hck])
    have HS := Lib.hid hck
    clear hck
    go_enter Tryd.func14, Tryd.ntmps14
    unfold vSg
    go_wp2_with (first
      | (go_at_call 26; refine (check_any t A n c l _ (((HL.out.alloc _).alloc _).alloc _) hlc hcm).mono ?_; rintro e w1 ⟨rfl, hb1⟩; obtain ⟨hc1, hf1⟩ := bc hb1; have hz1 := hb1.size; simp at hz1; have g1 : w.heap.size < w1.heap.size := (by omega); have g2 : w.heap.size + 1 < w1.heap.size := (by omega); have g3 : w.heap.size + 1 + 1 < w1.heap.size := (by omega); have HB1 := Lib.hid hb1; clear hb1))
    refine bodyPost_ret (v := .tuple #[vSg ⟨0, false, false, 0, 0⟩, .int .i64 (check t l)]) (by simp [results, Tryd.f14, go_sem, vSg, g1, g2, g3, hc1]) rfl ?_
    have hE := HE.out
    have hS : showS t l o s = ⟨0, false, false, 0, 0⟩ := by unfold showS; rw [if_neg (by rw [hE]; exact HS.out)]
    refine ⟨by rw [hS, hE]; rfl, ?_⟩
    have hbb : Below w.heap.size w w1 := hb0.trans (HB1.out.mono (by simp; omega))
    repeat' (first | (with_reducible exact hbb) | refine Below.setCell ?_ (by dsimp; omega) _)
end Go.Proofs.YtoidaigiejilcaaDoor
