/- mestaref03: forge, Forge, Prey. -/
import Derived.Test.YtahlicinchehhaaPairB
import Derived.Test.YtahlicinchehhaaForge
namespace Go.Proofs.Ytahlicinchehhaa
open Go.RowKit
set_option linter.unusedVariables false
set_option linter.unusedSimpArgs false

theorem less_plain {a b : Mk} (ha : 0 ≤ a.n) (ha' : a.n ≤ 255) (hb : 0 ≤ b.n) (hb' : b.n ≤ 255) : lessN a b false false = popI (butI a.n b.n) := by
  rw [lessN_pop, onI_ff _ ha ha', onI_ff _ hb hb']
theorem pop_zero {x : Int} (h0 : 0 ≤ x) (h1 : x ≤ 255) : popI x = 0 ↔ x = 0 := by
  rw [eq_zero_iff h0 h1]
  unfold popI cnt
  rw [List.countP_eq_zero]
  constructor
  · intro h i hi
    have := h i (by simpa using hi)
    simpa using this
  · intro h i hi
    rw [h i (by simpa using hi)]; simp
theorem forgeS_ref {a b : Mk} (ha : 0 ≤ a.n) (ha' : a.n ≤ 255) (hb : 0 ≤ b.n) (hb' : b.n ≤ 255) :
    forgeS a b = if 0 < lessN a b false false ∨ (a.b ≠ b.b ∧ a.b ≠ 0) then -1 else (lessN b a false false : Int) + (if a.b = b.b then 0 else 1) + (if a.p = b.p then 0 else 1) := by
  rw [less_plain ha ha' hb hb', less_plain hb hb' ha ha']
  unfold forgeS
  have hz := pop_zero (butI_lo a.n b.n) (butI_hi a.n b.n)
  by_cases h : a = b
  · subst h
    have h0 : butI a.n a.n = 0 := by
      rw [eq_zero_iff (butI_lo _ _) (butI_hi _ _)]
      intro i hi
      rw [bit_but _ _ ha' i hi]
      cases bit a.n i <;> rfl
    have h1 : popI (0 : Int) = 0 := by decide
    rw [if_pos rfl, h0, h1]
    simp
  · rw [if_neg h]
    by_cases h2 : butI a.n b.n = 0
    · have h3 : popI (butI a.n b.n) = 0 := hz.2 h2
      rw [h3, h2]
      simp only [ne_eq, not_true_eq_false, false_or, Nat.lt_irrefl]
      by_cases h4 : a.b = 0 <;> by_cases h5 : a.b = b.b <;> simp [h4, h5]
    · have h3 : 0 < popI (butI a.n b.n) := by
        rcases Nat.eq_zero_or_pos (popI (butI a.n b.n)) with h | h
        · exact absurd (hz.1 h) h2
        · exact h
      rw [if_pos (.inl h2), if_pos (.inl h3)]
theorem ret_ib {k : IntKind} {a a' : Int} {b b' : Bool} (h : a = a') (h' : b = b') : Ending.returned (.tuple #[.int k a, .bool b]) = .returned (.tuple #[.int k a', .bool b']) := by rw [h, h']
theorem ownerE_two_b {a b : Int} {n : Nat} : ownerE [a, b] n = if btw a 0 ((n : Int) - 1) && btw b 0 ((n : Int) - 1) then 0 else 3 := by
  unfold ownerE; simp

set_option maxRecDepth 100000 in
set_option maxHeartbeats 4000000 in
theorem rforge (a b : Mk) (w : World) (ha : 0 ≤ a.n) (ha' : a.n ≤ 255) (hb : 0 ≤ b.n) (hb' : b.n ≤ 255) :
    Calls Try.prog 92 #[vMk a, vMk b] w fun e w' => e = .returned (.tuple #[.int .i64 (if forgeS a b < 0 then 0 else forgeS a b), .bool (decide (0 ≤ forgeS a b))]) ∧ Below w.heap.size w w' := by
  have HS := Lib.hid (forgeS_ref ha ha' hb hb')
  obtain ⟨F, hF⟩ : ∃ F, F = forgeS a b := ⟨_, rfl⟩
  rw [← hF]
  obtain ⟨G, hG⟩ : ∃ G, G = if F < 0 then 0 else F := ⟨_, rfl⟩
  obtain ⟨C, hC⟩ : ∃ C, C = decide (0 ≤ F) := ⟨_, rfl⟩
  rw [← hG, ← hC]
  have HG := Lib.hid (And.intro hG hC)
  have HF := Lib.hid (hF.trans (forgeS_ref ha ha' hb hb'))
  clear hF HS hG hC
  go_enter Try.func92, Try.ntmps92
  unfold vMk
  go_upto_region 1 with (fail)
  obtain ⟨W0, hW⟩ : ∃ W0, W0 = (w.alloc (Obj.cells #[Value.int .i64 a.n, .int .i64 a.b, .int .i64 a.p] 26)).alloc (Obj.cells #[Value.int .i64 b.n, .int .i64 b.b, .int .i64 b.p] 26) := ⟨_, rfl⟩
  rw [← hW]
  have hB0 : Below w.heap.size w W0 := by rw [hW]; exact bal (bal0 w _) (Nat.le_refl _) _
  have a0 : W0.heap[w.heap.size]? = some (Obj.cells #[Value.int .i64 a.n, .int .i64 a.b, .int .i64 a.p] 26 (0, 0)) := by rw [hW]; exact hblk_alloc (alloc_at rfl) _
  have a1 : W0.heap[w.heap.size + 1]? = some (Obj.cells #[Value.int .i64 b.n, .int .i64 b.b, .int .i64 b.p] 26 (0, 0)) := by rw [hW]; exact alloc_at (by simp)
  clear hW
  obtain ⟨m0, m1, m2⟩ := blk3 a0
  obtain ⟨n0, n1, n2⟩ := blk3 a1
  obtain ⟨s, hs⟩ : ∃ s : Sg, s = ⟨0, false, false, 0, 0⟩ := ⟨_, rfl⟩
  have L1 : ∀ w', Calls Try.prog 101 #[.agg #[.int .i64 a.n, .int .i64 a.b, .int .i64 a.p], .agg #[.int .i64 b.n, .int .i64 b.b, .int .i64 b.p], .agg #[.int .i64 0, .bool false, .bool false, .int .i64 0, .int .i64 0]] w' fun e w'' => e = .returned (.int .i64 (lessN a b false false)) ∧ Below w'.heap.size w' w'' := fun w' => rLess a b ⟨0, false, false, 0, 0⟩ w' ha ha' hb hb'
  have L2 : ∀ w', Calls Try.prog 101 #[.agg #[.int .i64 b.n, .int .i64 b.b, .int .i64 b.p], .agg #[.int .i64 a.n, .int .i64 a.b, .int .i64 a.p], .agg #[.int .i64 0, .bool false, .bool false, .int .i64 0, .int .i64 0]] w' fun e w'' => e = .returned (.int .i64 (lessN b a false false)) ∧ Below w'.heap.size w' w'' := fun w' => rLess b a ⟨0, false, false, 0, 0⟩ w' hb hb' ha ha'
  have hl1 : lessN a b false false ≤ 8 := cntTo_le _ _
  have hl2 : lessN b a false false ≤ 8 := cntTo_le _ _
  obtain ⟨P1, hP1⟩ : ∃ P, P = lessN a b false false := ⟨_, rfl⟩
  obtain ⟨P2, hP2⟩ : ∃ P, P = lessN b a false false := ⟨_, rfl⟩
  rw [← hP1] at L1 hl1
  rw [← hP2] at L2 hl2
  have HF2 := Lib.hid (show F = if 0 < P1 ∨ (a.b ≠ b.b ∧ a.b ≠ 0) then -1 else (P2 : Int) + (if a.b = b.b then 0 else 1) + (if a.p = b.p then 0 else 1) by rw [hP1, hP2]; exact HF.out)
  have HL := Lib.hid (And.intro L1 L2)
  clear L1 L2 hP1 hP2 hs s HF
  go_wp2_with fail
  refine (HL.out.1 _).mono ?_
  rintro e w1 ⟨rfl, hb1⟩
  have hB1 := hB0.trans (hb1.mono hB0.size)
  replace a0 := bheap a0 hb1 (Nat.le_refl _)
  replace a1 := bheap a1 hb1 (Nat.le_refl _)
  clear m0 m1 m2 n0 n1 n2 hb1
  obtain ⟨m0, m1, m2⟩ := blk3 a0
  obtain ⟨n0, n1, n2⟩ := blk3 a1
  rcases Nat.eq_zero_or_pos P1 with h0 | h0
  case inl =>
   subst h0
   cases e1 : (a.b != b.b) <;> cases e2 : (a.b != 0) <;> cases e3 : (a.p != b.p)
   all_goals
    have HE := Lib.hid (And.intro e1 (And.intro e2 e3))
    go_wp2_with (go_at_call 101; refine (HL.out.2 _).mono ?_; rintro e w2 ⟨rfl, hb2⟩; replace a0 := bheap a0 hb2 (Nat.le_refl _); replace a1 := bheap a1 hb2 (Nat.le_refl _); have hB2 := hB1.trans (hb2.mono hB1.size); clear m0 m1 m2 n0 n1 n2 hb2; obtain ⟨m0, m1, m2⟩ := blk3 a0; obtain ⟨n0, n1, n2⟩ := blk3 a1)
    go_ret2
    obtain ⟨f1, f2, f3⟩ := HE.out
    have hFF := HF2.out
    obtain ⟨hG, hC⟩ := HG.out
    simp only [decide_eq_true_eq, decide_eq_false_iff_not, bne_iff_ne, ne_eq, bne_eq_false_iff_eq] at f1 f2 f3
    first
      | (rw [if_pos (.inr ⟨f1, f2⟩)] at hFF; subst hFF; exact ⟨ret_ib (by rw [hG]; rfl) (by rw [hC]; rfl), hB1⟩)
      | (rw [if_neg (by rintro (h | h)
                        · omega
                        · first | exact h.1 f1 | exact h.2 f2)] at hFF
         first | rw [if_pos f1, if_pos f3] at hFF | rw [if_pos f1, if_neg f3] at hFF | rw [if_neg f1, if_pos f3] at hFF | rw [if_neg f1, if_neg f3] at hFF
         refine ⟨ret_ib ?_ ?_, hB2⟩
         · rw [hG, if_neg (by omega)]; omega
         · rw [hC]; exact (decide_eq_true (by omega)).symm)
  case inr =>
   have h0' : (0 : Int) < (P1 : Int) := by omega
   go_wp2_with fail
   go_ret2
   obtain ⟨hG, hC⟩ := HG.out
   have hFF := HF2.out
   rw [if_pos (.inl h0)] at hFF
   subst hFF
   exact ⟨ret_ib (by rw [hG]; rfl) (by rw [hC]; rfl), hB1⟩

set_option maxRecDepth 100000 in
set_option maxHeartbeats 4000000 in
theorem rForge (t : Int) (A : Option Addr) (n c : Nat) (l : List Mk) (a b : Int) (w : World) (hl : Marks w A n l) (hlc : n ≤ c) (hcm : c ≤ maxLen) :
    Calls Try.prog 54 #[.agg #[.int .i64 t, .slice A n c], .int .i64 a, .int .i64 b] w fun e w' => e = .returned (.tuple #[.int .i64 (forgeV t l a b), .int .i64 (forgeE t l a b)]) ∧ Below w.heap.size w w' := by
  have HL := Lib.hid hl
  have HN := Lib.hid hl.len
  have hnm : n ≤ maxLen := by omega
  clear hl
  go_enter Try.func54, Try.ntmps54
  go_wp2_with fail
  have hbw : Below w.heap.size w (w.alloc (Obj.cells #[Value.int .i64 t, .slice A n c] 24)) := bal0 w _
  refine (rCheck t A n c l _ (HL.out.below hbw (Nat.le_refl _)) hlc hcm).mono ?_
  rintro e w1 ⟨rfl, hb1⟩
  have e0 := bheap (show (w.alloc (Obj.cells #[Value.int .i64 t, .slice A n c] 24)).heap[w.heap.size]? = some (Obj.cells #[Value.int .i64 t, .slice A n c] 24 (0, 0)) from alloc_at rfl) hb1 (Nat.le_refl _)
  have hB1 : Below w.heap.size w w1 := hbw.trans (hb1.mono (by simp))
  clear hb1 hbw
  obtain ⟨r0, r1⟩ := blk2 e0
  have z0 := heap_lt e0
  by_cases hck : check t l = 0
  · have h0 : (check t l != 0) = false := by simp [hck]
    have HC := Lib.hid hck
    clear hck
    cases hoa : btw a 0 ((n : Int) - 1)
    · have HO := Lib.hid hoa
      have HE := Lib.hid (show forgeE t l a b = 3 by unfold forgeE; rw [if_neg (by simp [HC.out]), if_pos (by rw [HN.out, ownerE_two_b, hoa]; simp)])
      have HV := Lib.hid (show forgeV t l a b = 0 by unfold forgeV; rw [if_neg (by rw [HE.out]; omega)])
      have HI := Lib.hid (fun w => hoa ▸ rIsOwner t A n c a w hnm)
      clear hoa
      go_wp2_with fail
      refine (HI.out _).mono ?_
      rintro e w2 ⟨rfl, hb2⟩
      have hB2 := hB1.trans (hb2.mono hB1.size)
      clear hb2
      go_wp2
      go_ret2
      exact ⟨ret_int2 HV.out.symm HE.out.symm, hB2⟩
    · have HI := Lib.hid (fun w => hoa ▸ rIsOwner t A n c a w hnm)
      have HO := Lib.hid hoa
      clear hoa
      go_wp2_with fail
      refine (HI.out _).mono ?_
      rintro e w2 ⟨rfl, hb2⟩
      have hB2 := hB1.trans (hb2.mono hB1.size)
      have e02 := bheap e0 hb2 (Nat.le_refl _)
      clear hb2 r0 r1
      obtain ⟨r0, r1⟩ := blk2 e02
      cases hob : btw b 0 ((n : Int) - 1)
      · have HE := Lib.hid (show forgeE t l a b = 3 by unfold forgeE; rw [if_neg (by simp [HC.out]), if_pos (by rw [HN.out, ownerE_two_b, hob]; simp)])
        have HV := Lib.hid (show forgeV t l a b = 0 by unfold forgeV; rw [if_neg (by rw [HE.out]; omega)])
        have HI2 := Lib.hid (fun w => hob ▸ rIsOwner t A n c b w hnm)
        clear hob
        go_wp2_with fail
        refine (HI2.out _).mono ?_
        rintro e w3 ⟨rfl, hb3⟩
        have hB3 := hB2.trans (hb3.mono hB2.size)
        clear hb3
        go_wp2
        go_ret2
        exact ⟨ret_int2 HV.out.symm HE.out.symm, hB3⟩
      · have HI2 := Lib.hid (fun w => hob ▸ rIsOwner t A n c b w hnm)
        have HO2 := Lib.hid (show ownerE [a, b] n = 0 by rw [ownerE_two_b, HO.out, hob]; rfl)
        have hab := ownerE_two.1 HO2.out
        clear hob
        go_wp2_with fail
        refine (HI2.out _).mono ?_
        rintro e w3 ⟨rfl, hb3⟩
        have hB3 := hB2.trans (hb3.mono hB2.size)
        have e03 := bheap e02 hb3 (Nat.le_refl _)
        clear hb3 r0 r1 e02 e0
        obtain ⟨r0, r1⟩ := blk2 e03
        obtain ⟨i, rfl⟩ := Int.eq_ofNat_of_zero_le hab.1.1
        obtain ⟨j, rfl⟩ := Int.eq_ofNat_of_zero_le hab.2.1
        have hin : i < n := by omega
        have hjn : j < n := by omega
        have i0 : (0 : Int) ≤ (i : Int) := by omega
        have i1 : (i : Int) < (n : Int) := by omega
        have j0 : (0 : Int) ≤ (j : Int) := by omega
        have j1 : (j : Int) < (n : Int) := by omega
        obtain ⟨b0, off, x, rfl, hb0, hx, p0, p1, p2⟩ := Marks.get (HL.out.below hB3 (Nat.le_refl _)) hin
        obtain ⟨b1, off1, y, hA, hb1, hy, q0, q1, q2⟩ := Marks.get (HL.out.below hB3 (Nat.le_refl _)) hjn
        obtain ⟨rfl, rfl⟩ : b1 = b0 ∧ off1 = off := by simpa [eq_comm] using hA
        clear hA
        have hxm := (check_marks HC.out x (List.mem_of_getElem? hx)).1
        have hym := (check_marks HC.out y (List.mem_of_getElem? hy)).1
        have HX := Lib.hid (show mkAt l (i : Int) = x ∧ mkAt l (j : Int) = y by unfold mkAt; simp [hx, hy])
        clear hx hy
        obtain ⟨F, hF⟩ : ∃ F, F = forgeS x y := ⟨_, rfl⟩
        obtain ⟨G, hG⟩ : ∃ G, G = if forgeS x y < 0 then 0 else forgeS x y := ⟨_, rfl⟩
        have cM : ∀ d os, Calls Try.prog 92 #[vMk x, vMk y] (Sort.grow (redrawn w3 d) os) (fun e w'' => e = .returned (.tuple #[.int .i64 (if forgeS x y < 0 then 0 else forgeS x y), .bool (decide (0 ≤ forgeS x y))]) ∧ ∃ p : Regrown, w'' = Sort.grow (redrawn w3 p.d) p.os) := fun d os =>
          Calls.regrown_of (rforge x y _ hxm.1 hxm.2 hym.1 hym.2)
        rw [← hG, ← hF] at cM
        rw [← hF] at hG
        unfold vMk at cM
        have HE := Lib.hid (show forgeE t l i j = if F < 0 then 11 else 0 by unfold forgeE; rw [if_neg (by simp [HC.out]), if_neg (by rw [HN.out]; simp [HO2.out]), HX.out.1, HX.out.2, ← hF])
        have HV := Lib.hid (show forgeV t l i j = if F < 0 then 0 else F by
          unfold forgeV; rw [HE.out, HX.out.1, HX.out.2, ← hF]
          by_cases h : F < 0 <;> simp [h])
        cases hc : decide (0 ≤ F)
        all_goals
          rw [hc] at cM
          have HCM := Lib.hid cM
          have HG := Lib.hid (And.intro hG hc)
          clear cM hF hG hc
          go_upto_region 6 with (fail)
          have k0 := cell_regrown r0
          have k1 := cell_regrown r1
          have k2 := cell_regrown p0
          have k3 := cell_regrown p1
          have k4 := cell_regrown p2
          have k5 := cell_regrown q0
          have k6 := cell_regrown q1
          have k7 := cell_regrown q2
          refine wp_region_quiet_below (by kernel_rfl) (by kernel_rfl) ?_
          repeat (quiet_step (exact HCM.out _ _))
          refine wpQuiet_nil ?_
          intro _ hw'
          obtain ⟨⟨dq, osq⟩, hw''⟩ := hw'
          subst hw''
          obtain ⟨W4, hW3⟩ : ∃ W4, W4 = Sort.grow (redrawn w3 dq) osq := ⟨_, rfl⟩
          have hB4 : Below w.heap.size w W4 := by rw [hW3]; exact hB3.trans ((below_regrown w3 dq osq).mono hB3.size)
          rw [← hW3]
          clear hW3 k0 k1 k2 k3 k4 k5 k6 k7
          go_wp2
          go_ret2
          have hd := HG.out.2
          simp only [decide_eq_true_eq, decide_eq_false_iff_not] at hd
        · exact ⟨ret_int2 (by rw [HV.out, if_pos (by omega)]) (by rw [HE.out, if_pos (by omega)]), hB4⟩
        · exact ⟨ret_int2 (by rw [HV.out, HG.out.1]) (by rw [HE.out, if_neg (by omega)]), hB4⟩
  · have h0 : (check t l != 0) = true := by simp [hck]
    have HE := Lib.hid (show forgeE t l a b = check t l by unfold forgeE; rw [if_pos hck])
    have HV := Lib.hid (show forgeV t l a b = 0 by unfold forgeV; rw [if_neg (by rw [HE.out]; exact hck)])
    clear hck
    go_wp2
    go_ret2
    exact ⟨ret_int2 HV.out.symm HE.out.symm, hB1⟩
set_option maxRecDepth 100000 in
set_option maxHeartbeats 4000000 in
theorem rPrey (t : Int) (A : Option Addr) (n c : Nat) (l : List Mk) (o ch : Int) (w : World) (hl : Marks w A n l) (hlc : n ≤ c) (hcm : c ≤ maxLen) :
    Calls Try.prog 56 #[.agg #[.int .i64 t, .slice A n c], .int .i64 o, .int .i64 ch] w fun e w' => ∃ v, e = .returned (.tuple #[v, .int .i64 (preyE t l o ch)]) ∧ OwnI w' w.heap.size v (preyR t l o ch) ∧ Below w.heap.size w w' := by
  have HL := Lib.hid hl
  have HN := Lib.hid hl.len
  have hnm : n ≤ maxLen := by omega
  clear hl
  go_enter Try.func56, Try.ntmps56
  go_wp2_with fail
  have hbw : Below w.heap.size w (w.alloc (Obj.cells #[Value.int .i64 t, .slice A n c] 24)) := bal0 w _
  refine (rCheck t A n c l _ (HL.out.below hbw (Nat.le_refl _)) hlc hcm).mono ?_
  rintro e w1 ⟨rfl, hb1⟩
  have e0 := bheap (show (w.alloc (Obj.cells #[Value.int .i64 t, .slice A n c] 24)).heap[w.heap.size]? = some (Obj.cells #[Value.int .i64 t, .slice A n c] 24 (0, 0)) from alloc_at rfl) hb1 (Nat.le_refl _)
  have hB1 : Below w.heap.size w w1 := hbw.trans (hb1.mono (by simp))
  clear hb1 hbw
  obtain ⟨r0, r1⟩ := blk2 e0
  have z0 := heap_lt e0
  by_cases hck : check t l = 0
  · have h0 : (check t l != 0) = false := by simp [hck]
    have HC := Lib.hid hck
    have hn5 : n ≤ 5 := by have := (check_ok hck).2.2.1; have := HN.out; omega
    clear hck
    cases hoo : btw o 0 ((n : Int) - 1)
    case true =>
      have HI := Lib.hid (fun w => hoo ▸ rIsOwner t A n c o w hnm)
      have HO := Lib.hid (show ownerE [o] n = 0 by rw [ownerE_btw, hoo]; rfl)
      have hab := ownerE_one.1 HO.out
      clear hoo
      go_wp2_with fail
      refine (HI.out _).mono ?_
      rintro e w2 ⟨rfl, hb2⟩
      have e02 := bheap e0 hb2 (Nat.le_refl _)
      have hB2 : Below w.heap.size w w2 := hB1.trans (hb2.mono hB1.size)
      clear hb2 r0 r1
      obtain ⟨r0, r1⟩ := blk2 e02
      obtain ⟨j, rfl⟩ := Int.eq_ofNat_of_zero_le hab.1
      have hjn : j < n := by omega
      by_cases hch : ch < 0
      · have HE := Lib.hid (show preyE t l j ch = 1 by unfold preyE; rw [if_neg (by simp [HC.out]), if_neg (by rw [HN.out]; simp [HO.out]), if_pos hch])
        go_wp2
        go_ret2
        exact ⟨.slice none 0 0, ret_val HE.out.symm, by unfold preyR; rw [if_neg (by rw [HE.out]; omega)]; exact Own.nil_, hB2⟩
      · have HE := Lib.hid (show preyE t l j ch = 0 by unfold preyE; rw [if_neg (by simp [HC.out]), if_neg (by rw [HN.out]; simp [HO.out]), if_neg hch])
        go_wp2_with fail
        have HB := Lib.hid (And.intro e02 hB2)
        have hz2 := hB2.size
        clear e02
        go_loopg [9, 10] n (fun g v i wr => ∃ k : Nat, k + g = n ∧ i = .int .i64 k ∧ OwnI wr w2.heap.size v (preyTo l j ch k) ∧ Below w2.heap.size w2 wr)
        case atStart => exact ⟨0, by omega, rfl, Own.nil_, Below.refl _ _⟩
        case round =>
          obtain ⟨k, hk, rfl, hown, hbl⟩ := hrel
          have HK := Lib.hid (And.intro hk hown)
          have hkn : k ≤ n := by omega
          clear hk hown
          have hs0 := hbl.size
          clear r0 r1
          obtain ⟨r0, r1⟩ := blk2 (bheap HB.out.1 hbl (Nat.le_refl _))
          by_cases hlt : k < n
          · obtain ⟨b, off, x, rfl, hb, hx, c0, c1, c2⟩ := Marks.get ((HL.out.below HB.out.2 (Nat.le_refl _)).below hbl (Nat.le_refl _)) hlt
            have hxv := (check_marks HC.out x (List.mem_of_getElem? hx)).1
            have HX := Lib.hid (show mkAt l (k : Int) = x by unfold mkAt; simp [hx])
            clear hx
            have i0 : (0 : Int) ≤ (k : Int) := by omega
            have i1 : (k : Int) < (n : Int) := by omega
            obtain ⟨b', off', y, hA, hb', hy, d0, d1, d2⟩ := Marks.get ((HL.out.below HB.out.2 (Nat.le_refl _)).below hbl (Nat.le_refl _)) hjn
            obtain ⟨rfl, rfl⟩ : b' = b ∧ off' = off := by simpa [eq_comm] using hA
            have HY := Lib.hid (show mkAt l (j : Int) = y by unfold mkAt; simp [hy])
            have hyv := (check_marks HC.out y (List.mem_of_getElem? hy)).1
            clear hy hA
            have j0 : (0 : Int) ≤ (j : Int) := by omega
            have j1 : (j : Int) < (n : Int) := by omega
            obtain ⟨F, hF⟩ : ∃ F, F = forgeS x y := ⟨_, rfl⟩
            obtain ⟨G, hG⟩ : ∃ G, G = if forgeS x y < 0 then 0 else forgeS x y := ⟨_, rfl⟩
            have cM : ∀ d os, Calls Try.prog 92 #[vMk x, vMk y] (Sort.grow (redrawn wr d) os) (fun e w'' => e = .returned (.tuple #[.int .i64 (if forgeS x y < 0 then 0 else forgeS x y), .bool (decide (0 ≤ forgeS x y))]) ∧ ∃ p : Regrown, w'' = Sort.grow (redrawn wr p.d) p.os) := fun d os =>
              Calls.regrown_of (rforge x y _ hxv.1 hxv.2 hyv.1 hyv.2)
            rw [← hG, ← hF] at cM
            rw [← hF] at hG
            unfold vMk at cM
            have HS := Lib.hid (preyTo_succ l (j : Int) ch k)
            have HP := Lib.hid (show preyB l (j : Int) ch k = ((decide ((k : Int) ≠ (j : Int)) && decide (0 ≤ F)) && decide (F ≤ ch)) by unfold preyB; rw [HX.out, HY.out, ← hF])
            have HG := Lib.hid hG
            clear hF hG
            cases e2 : decide (0 ≤ F)
            all_goals
              rw [e2] at cM
              have HCM := Lib.hid cM
              clear cM
              go_upto_region 12 with (fail)
              have k0 := cell_regrown r0
              have k1 := cell_regrown r1
              have k2 := cell_regrown c0
              have k3 := cell_regrown c1
              have k4 := cell_regrown c2
              have k5 := cell_regrown d0
              have k6 := cell_regrown d1
              have k7 := cell_regrown d2
              refine wp_region_quiet_below (by kernel_rfl) (by kernel_rfl) ?_
              repeat (quiet_step (exact HCM.out _ _))
              refine wpQuiet_nil ?_
              intro _ hw'
              obtain ⟨⟨dq, osq⟩, hw''⟩ := hw'
              subst hw''
              obtain ⟨W3, hW3⟩ : ∃ W3, W3 = Sort.grow (redrawn wr dq) osq := ⟨_, rfl⟩
              have hb3 : Below wr.heap.size wr W3 := by rw [hW3]; exact below_regrown wr dq osq
              rw [← hW3]
              have hbl3 := hbl.trans (hb3.mono hbl.size)
              have hs3 := hbl3.size
              have HO3 := Lib.hid (HK.out.2.below hb3 (Nat.le_refl _))
              have hlen := preyTo_len l (j : Int) ch k
              clear hW3 k0 k1 k2 k3 k4 k5 k6 k7 c0 c1 c2 d0 d1 d2 hb3
              cases e1 : ((k : Int) != (j : Int)) <;> cases e3 : decide (G ≤ ch)
            all_goals
              have HEE := Lib.hid (And.intro e1 (And.intro e2 e3))
              clear e2
              go_wp2_with (at_builtin; refine wp_app okInt rfl (.tmp 56) (.tmp 58) rfl w2.heap.size _ (preyTo l (j : Int) ch k) (k : Int) _ rfl rfl rfl rfl (one_eInt _) HO3.out ?_ ?_ ?_ ?_; (omega); (omega); (omega); intro v' w4 hown4 hb4 _ hz4; have HO4 := Lib.hid hown4; clear hown4)
              go_roundg (gk - 1)
              case measure => have := HK.out.1; omega
              case rel =>
                obtain ⟨f1, f2, f3⟩ := HEE.out
                have f1' : decide ((k : Int) ≠ (j : Int)) = ((k : Int) != (j : Int)) := by rw [Bool.eq_iff_iff]; simp [bne]
                have hP := HP.out
                have hG := HG.out
                have f2' := f2
                simp only [decide_eq_true_eq, decide_eq_false_iff_not] at f2'
                rw [f1', f1, f2] at hP
                first
                  | (rw [if_neg (by omega)] at hG; subst hG; rw [f3] at hP)
                  | simp only [Bool.and_false, Bool.false_and] at hP
                first
                  | exact ⟨k + 1, by have := HK.out.1; omega, by go_num, by rw [HS.out, hP]; exact HO4.out, hbl3.trans hb4⟩
                  | exact ⟨k + 1, by have := HK.out.1; omega, by go_num, by rw [HS.out, hP]; simpa using HO3.out, hbl3⟩
          · obtain rfl : k = n := by omega
            go_wp2
            go_ret2
            exact ⟨_, ret_val HE.out.symm, by unfold preyR; rw [if_pos HE.out, HN.out]; exact HK.out.2.mono hz2, HB.out.2.trans (hbl.mono HB.out.2.size)⟩
    case false =>
      have HI := Lib.hid (fun w => hoo ▸ rIsOwner t A n c o w hnm)
      have HO := Lib.hid (show ownerE [o] n = 3 by rw [ownerE_btw, hoo]; rfl)
      have HE := Lib.hid (show preyE t l o ch = 3 by unfold preyE; rw [if_neg (by simp [HC.out]), if_pos (by rw [HN.out, HO.out]; omega)])
      clear hoo
      go_wp2_with fail
      refine (HI.out _).mono ?_
      rintro e w2 ⟨rfl, hb2⟩
      have hB2 : Below w.heap.size w w2 := hB1.trans (hb2.mono hB1.size)
      clear hb2
      go_wp2
      go_ret2
      exact ⟨.slice none 0 0, ret_val HE.out.symm, by unfold preyR; rw [if_neg (by rw [HE.out]; omega)]; exact Own.nil_, hB2⟩
  · have h0 : (check t l != 0) = true := by simp [hck]
    have HE := Lib.hid (show preyE t l o ch = check t l by unfold preyE; rw [if_pos hck])
    have HC := Lib.hid hck
    clear hck
    go_wp2
    go_ret2
    exact ⟨.slice none 0 0, ret_val HE.out.symm, by unfold preyR; rw [if_neg (by rw [HE.out]; exact HC.out)]; exact Own.nil_, hB1⟩
end Go.Proofs.Ytahlicinchehhaa
