/- mestalaw03.MarkMixes returns true. -/
import Derived.Test.YtahlicinchehhaaMarking
import Derived.Test.YtahlicinchehhaaRegs
import Derived.Test.YtahlicinchehhaaDraw
import Derived.Test.YtahlicinchehhaaMista
import Derived.Test.YtahlicinchehhaaRefP
namespace Go.Proofs.Ytahlicinchehhaa
open Go.RowKit
set_option linter.unusedVariables false
set_option linter.unusedSimpArgs false

set_option maxRecDepth 100000 in
set_option maxHeartbeats 4000000 in
theorem MarkMixes_any (t : Int) (A : Option Addr) (n c : Nat) (l : List Mk) (o1 o2 o3 : Int) (A0 : Option Addr) (n0 c0 : Nat) (nums : List Int) (w : World) (hlm : Marks w A n l) (hnc : n ≤ c) (hcmx : c ≤ maxLen) (hzn : A = none → c = 0) (hl : Ints w A0 n0 nums) (hn0 : n0 ≤ 9223372036854775807) :
    Calls Try.prog 7 #[.agg #[.int .i64 t, .slice A n c], .int .i64 o1, .int .i64 o2, .int .i64 o3, .slice A0 n0 c0] w fun e w' => e = .returned (.bool true) ∧ Below w.heap.size w w' := by
  have hg20 : n ≤ 9223372036854775807 := Nat.le_trans hnc hcmx
  have HG := Lib.hid (show n ≤ 4294967295 → RgOk w ⟨t, A, n, c, l⟩ from fun h => ⟨hlm, hnc, hcmx, hzn, h⟩)
  have HN := Lib.hid hl
  clear hlm hnc hcmx hzn hl
  go_enter Try.func7, Try.ntmps7
  go_upto_region 1 with (fail)
  obtain ⟨W0, hW⟩ : ∃ W0, W0 = w.alloc (Obj.cells #[Value.int .i64 t, .slice A n c] 24) := ⟨_, rfl⟩
  rw [← hW]
  have hB0 : Below w.heap.size w W0 := by rw [hW]; exact bal0 w _
  have a0 : W0.heap[w.heap.size]? = some (Obj.cells #[Value.int .i64 t, .slice A n c] 24 (0, 0)) := by rw [hW]; exact alloc_at rfl
  have hz0 : w.heap.size < W0.heap.size := heap_lt a0
  clear hW
  obtain ⟨r0, r1⟩ := blk2 a0
  by_cases h20 : 20 < n
  · have h1 : decide ((20 : Int) < (n : Int)) = true := by simp; omega
    go_wp2_with fail
    refine (marking_any _).mono ?_
    rintro e w3 ⟨rfl, hb3⟩
    go_wp2
    go_ret
    exact ⟨rfl, hB0.trans (hb3.mono hB0.size)⟩
  · have h1 : decide ((20 : Int) < (n : Int)) = false := by simp; omega
    go_wp2_with fail
    refine (newHand_any A0 n0 c0 nums _ (HN.out.below hB0 (Nat.le_refl _)) hn0).mono ?_
    rintro e w1 ⟨rfl, hh, hb1, hz1⟩
    have HZ1 := Lib.hid hz1
    have hz1l : W0.heap.size < w1.heap.size := by omega
    clear hz1
    have a01 := bheap a0 hb1 (Nat.le_refl _)
    have hB1 := hB0.trans (hb1.mono hB0.size)
    clear r0 r1 a0 hb1
    go_wp2_with fail
    refine (registerOf_any W0.heap.size 0 5 _ hh (by omega) (by omega)).mono ?_
    rintro e w2 ⟨t2, l2, A2, c2, rfl, hck, hl5, hown, hms, hlc, hcm, hd2⟩
    obtain ⟨ht0, ht2, _, _⟩ := check_ok hck
    obtain ⟨tn, rfl⟩ := Int.eq_ofNat_of_zero_le ht0
    have a02 := hd2.blk a01 (by omega)
    have hB2 := hB1.trans ((hd2.below (B := w.heap.size) (by omega) hB1.size))
    have hhd := hd2.hd
    have hz2 := hd2.size
    clear hms hd2 hh a01
    go_upto_region 5 with (fail)
    obtain ⟨W, hW⟩ : ∃ W, W = w2.alloc (Obj.cells #[Value.int .i64 (tn : Int), .slice A2 l2.length c2] 24) := ⟨_, rfl⟩
    rw [← hW]
    have aM : W.heap[w2.heap.size]? = some (Obj.cells #[Value.int .i64 (tn : Int), .slice A2 l2.length c2] 24 (0, 0)) := by rw [hW]; exact alloc_at rfl
    have a0W : W.heap[w.heap.size]? = some (Obj.cells #[Value.int .i64 t, .slice A n c] 24 (0, 0)) := by rw [hW]; exact hblk_alloc a02 _
    have hBW : Below w.heap.size w W := by rw [hW]; exact bal hB2 (Nat.le_refl _) _
    have hOW : OwnM W (W0.heap.size + 1) (.slice A2 l2.length c2) l2 := by rw [hW, ← HZ1.out]; exact hown.alloc _
    have hHW : Hd W W0.heap.size 100 := by rw [hW]; exact hhd.alloc _
    clear hW hB2 hown hhd a02 hB1 hB0
    have hoff : OffH A2 W0.heap.size := fun b off e => by
      have := hOW.lt b (by rw [e]; rfl)
      omega
    obtain ⟨hmsW, hcW, hmW⟩ := hOW.sl lenMk
    have hzA2 : A2 = none → c2 = 0 := by
      obtain ⟨A', c', hv, _, _, _, h3⟩ := own_shape hOW lenMk
      cases hv
      exact h3
    obtain ⟨r0, r1⟩ := blk2 a0W
    obtain ⟨m0, m1⟩ := blk2 aM
    have hszM := heap_lt aM
    have hwr : IntKind.i64.wrap ((l2.length : Int) - 1) = (l2.length : Int) - 1 := IntWalk.i64_in _ (by omega)
    have HC : Hid (∀ k w', TH W0.heap.size k W w' → w'.cell? ⟨w.heap.size, 0, none⟩ = some (.int .i64 t) ∧ w'.cell? ⟨w.heap.size, 1, none⟩ = some (.slice A n c) ∧
        w'.cell? ⟨w2.heap.size, 0, none⟩ = some (.int .i64 (tn : Int)) ∧ w'.cell? ⟨w2.heap.size, 1, none⟩ = some (.slice A2 l2.length c2)) :=
      Lib.hid fun k w' h => ⟨gb_cell h.1 (by omega) r0, gb_cell h.1 (by omega) r1, gb_cell h.1 (by omega) m0, gb_cell h.1 (by omega) m1⟩
    have HH := Lib.hid (And.intro hHW hHW.lt)
    have HO := Lib.hid (And.intro hBW (And.intro hmsW hoff))
    clear r0 r1 m0 m1 hBW hHW hOW hmsW hoff
    refine wp_region_inv (TH W0.heap.size) (by kernel_rfl) (by kernel_rfl) TH.tr (TH.draw _) ?_
    apply Exists.intro
    refine ⟨fun ys => ?_, fun ops K hK => ?_⟩
    · simp only [dstsOf, List.filterMap_cons, List.filterMap_nil, putAll]
      go_simp
      rfl
    repeat
      refine LexI.const TH.rf ?_
      apply Exists.intro
      refine ⟨fun n' ys w' hn' hT hd => ?_, ?_⟩
      · try simp [DepsOf, depsGo, DF.holds, Region.binds, EqF] at hd
        obtain ⟨y0, y1, y2, y3⟩ := HC.out n' w' hT
        intro Q2 hQ2
        go_wp2_with fail
        rfl
      try simp only [List.nil_append, List.cons_append]
    -- the registers
    refine LexI.some (SlF W0.heap.size 24 3 (fun cs => cs = #[Value.int .i64 t, .slice A n c, .int .i64 (tn : Int), .slice A2 l2.length c2, .int .i64 (tn : Int), .slice A2 l2.length c2])) (SlF.st) (fun n' ys w' hn' hT hd => ?_) ?_
    · try simp [DepsOf, depsGo, DF.holds, Region.binds, EqF] at hd
      try simp only [hd]
      intro Q2 hQ2
      have hl := (hT.2 _ HH.out.1).lt
      go_wp2_with fail
      exact SlF.new hl rfl
    try simp only [List.nil_append, List.cons_append]
    repeat
      refine LexI.const TH.rf ?_
      apply Exists.intro
      refine ⟨fun n' ys w' hn' hT hd => ?_, ?_⟩
      · try simp [DepsOf, depsGo, DF.holds, Region.binds, EqF] at hd
        obtain ⟨y0, y1, y2, y3⟩ := HC.out n' w' hT
        intro Q2 hQ2
        go_wp2_with fail
        rfl
      try simp only [List.nil_append, List.cons_append]
    refine LexI.some (NatLe (l2.length - 1)) (NatLe.st) (fun n' ys w' hn' hT hd => ?_) ?_
    · try simp [DepsOf, depsGo, DF.holds, Region.binds, EqF] at hd
      try simp only [hd]
      intro Q2 hQ2
      obtain ⟨N0, hN0, hN1, hN2⟩ := (hT.2 _ HH.out.1).least
      go_wp2_with fail
      refine (upto_any W0.heap.size N0 (l2.length - 1) w' hN1 (by omega) (by omega)).mono ?_
      rintro e wU ⟨k, rfl, hk, hU⟩
      go_wp2
      exact ⟨_, rfl, TH.of hN2 hU (by omega), k, rfl, hk⟩
    try simp only [List.nil_append, List.cons_append]
    repeat
      refine LexI.const TH.rf ?_
      apply Exists.intro
      refine ⟨fun n' ys w' hn' hT hd => ?_, ?_⟩
      · try simp [DepsOf, depsGo, DF.holds, Region.binds, EqF] at hd
        obtain ⟨y0, y1, y2, y3⟩ := HC.out n' w' hT
        intro Q2 hQ2
        go_wp2_with fail
        rfl
      try simp only [List.nil_append, List.cons_append]
    refine LexI.some (SlF W0.heap.size 3 3 (fun cs => ∃ k : Nat, cs = #[Value.int .i64 o1, .int .i64 k, .int .i64 o1])) (SlF.st) (fun n' ys w' hn' hT hd => ?_) ?_
    · try simp [DepsOf, depsGo, DF.holds, Region.binds, EqF] at hd
      try simp only [hd]
      obtain ⟨h1, ⟨k, h2, _⟩, h3⟩ := hd
      intro Q2 hQ2
      have hl := (hT.2 _ HH.out.1).lt
      go_wp2_with fail
      exact SlF.new hl ⟨k, rfl⟩
    try simp only [List.nil_append, List.cons_append]
    repeat
      refine LexI.const TH.rf ?_
      apply Exists.intro
      refine ⟨fun n' ys w' hn' hT hd => ?_, ?_⟩
      · try simp [DepsOf, depsGo, DF.holds, Region.binds, EqF] at hd
        obtain ⟨y0, y1, y2, y3⟩ := HC.out n' w' hT
        intro Q2 hQ2
        go_wp2_with fail
        rfl
      try simp only [List.nil_append, List.cons_append]
    refine LexI.some (NatLe (l2.length - 1)) (NatLe.st) (fun n' ys w' hn' hT hd => ?_) ?_
    · try simp [DepsOf, depsGo, DF.holds, Region.binds, EqF] at hd
      try simp only [hd]
      intro Q2 hQ2
      obtain ⟨N0, hN0, hN1, hN2⟩ := (hT.2 _ HH.out.1).least
      go_wp2_with fail
      refine (upto_any W0.heap.size N0 (l2.length - 1) w' hN1 (by omega) (by omega)).mono ?_
      rintro e wU ⟨k, rfl, hk, hU⟩
      go_wp2
      exact ⟨_, rfl, TH.of hN2 hU (by omega), k, rfl, hk⟩
    try simp only [List.nil_append, List.cons_append]
    repeat
      refine LexI.const TH.rf ?_
      apply Exists.intro
      refine ⟨fun n' ys w' hn' hT hd => ?_, ?_⟩
      · try simp [DepsOf, depsGo, DF.holds, Region.binds, EqF] at hd
        obtain ⟨y0, y1, y2, y3⟩ := HC.out n' w' hT
        intro Q2 hQ2
        go_wp2_with fail
        rfl
      try simp only [List.nil_append, List.cons_append]
    refine LexI.some (SlF W0.heap.size 3 3 (fun cs => ∃ k : Nat, cs = #[Value.int .i64 o2, .int .i64 k, .int .i64 o2])) (SlF.st) (fun n' ys w' hn' hT hd => ?_) ?_
    · try simp [DepsOf, depsGo, DF.holds, Region.binds, EqF] at hd
      try simp only [hd]
      obtain ⟨h1, ⟨k, h2, _⟩, h3⟩ := hd
      intro Q2 hQ2
      have hl := (hT.2 _ HH.out.1).lt
      go_wp2_with fail
      exact SlF.new hl ⟨k, rfl⟩
    try simp only [List.nil_append, List.cons_append]
    repeat
      refine LexI.const TH.rf ?_
      apply Exists.intro
      refine ⟨fun n' ys w' hn' hT hd => ?_, ?_⟩
      · try simp [DepsOf, depsGo, DF.holds, Region.binds, EqF] at hd
        obtain ⟨y0, y1, y2, y3⟩ := HC.out n' w' hT
        intro Q2 hQ2
        go_wp2_with fail
        rfl
      try simp only [List.nil_append, List.cons_append]
    refine LexI.some (NatLe (4)) (NatLe.st) (fun n' ys w' hn' hT hd => ?_) ?_
    · try simp [DepsOf, depsGo, DF.holds, Region.binds, EqF] at hd
      try simp only [hd]
      intro Q2 hQ2
      obtain ⟨N0, hN0, hN1, hN2⟩ := (hT.2 _ HH.out.1).least
      go_wp2_with fail
      refine (upto_any W0.heap.size N0 (4) w' hN1 (by omega) (by omega)).mono ?_
      rintro e wU ⟨k, rfl, hk, hU⟩
      go_wp2
      exact ⟨_, rfl, TH.of hN2 hU (by omega), k, rfl, hk⟩
    try simp only [List.nil_append, List.cons_append]
    repeat
      refine LexI.const TH.rf ?_
      apply Exists.intro
      refine ⟨fun n' ys w' hn' hT hd => ?_, ?_⟩
      · try simp [DepsOf, depsGo, DF.holds, Region.binds, EqF] at hd
        obtain ⟨y0, y1, y2, y3⟩ := HC.out n' w' hT
        intro Q2 hQ2
        go_wp2_with fail
        rfl
      try simp only [List.nil_append, List.cons_append]
    refine LexI.some (SlF W0.heap.size 3 3 (fun cs => ∃ k : Nat, cs = #[Value.int .i64 o3, .int .i64 k, .int .i64 o3])) (SlF.st) (fun n' ys w' hn' hT hd => ?_) ?_
    · try simp [DepsOf, depsGo, DF.holds, Region.binds, EqF] at hd
      try simp only [hd]
      obtain ⟨h1, ⟨k, h2, _⟩, h3⟩ := hd
      intro Q2 hQ2
      have hl := (hT.2 _ HH.out.1).lt
      go_wp2_with fail
      exact SlF.new hl ⟨k, rfl⟩
    try simp only [List.nil_append, List.cons_append]
    refine LexI.some (SlF W0.heap.size 24 3 (fun cs => cs = #[Value.int .i64 t, .slice A n c, .int .i64 (tn : Int), .slice A2 l2.length c2, .int .i64 (tn : Int), .slice A2 l2.length c2])) (SlF.st) (fun n' ys w' hn' hT hd => ?_) ?_
    · try simp [DepsOf, depsGo, DF.holds, Region.binds, EqF] at hd
      try simp only [hd]
      intro Q2 hQ2
      go_wp2_with fail
      exact TH.rf _
    try simp only [List.nil_append, List.cons_append]
    refine LexI.some (SlF W0.heap.size 3 3 (fun cs => ∃ k : Nat, cs = #[Value.int .i64 o1, .int .i64 k, .int .i64 o1])) (SlF.st) (fun n' ys w' hn' hT hd => ?_) ?_
    · try simp [DepsOf, depsGo, DF.holds, Region.binds, EqF] at hd
      try simp only [hd]
      intro Q2 hQ2
      go_wp2_with fail
      exact TH.rf _
    try simp only [List.nil_append, List.cons_append]
    refine LexI.some (SlF W0.heap.size 3 3 (fun cs => ∃ k : Nat, cs = #[Value.int .i64 o2, .int .i64 k, .int .i64 o2])) (SlF.st) (fun n' ys w' hn' hT hd => ?_) ?_
    · try simp [DepsOf, depsGo, DF.holds, Region.binds, EqF] at hd
      try simp only [hd]
      intro Q2 hQ2
      go_wp2_with fail
      exact TH.rf _
    try simp only [List.nil_append, List.cons_append]
    refine LexI.some (SlF W0.heap.size 3 3 (fun cs => ∃ k : Nat, cs = #[Value.int .i64 o3, .int .i64 k, .int .i64 o3])) (SlF.st) (fun n' ys w' hn' hT hd => ?_) ?_
    · try simp [DepsOf, depsGo, DF.holds, Region.binds, EqF] at hd
      try simp only [hd]
      intro Q2 hQ2
      go_wp2_with fail
      exact TH.rf _
    try simp only [List.nil_append, List.cons_append]
    refine hK _ (fun n' ys wc hn' hT hF => ?_)
    simp only [AllF, DF.holds] at hF
    obtain ⟨-, -, -, -, -, -, -, -, -, -, -, -, -, -, -, -, -, -, -, -, -, -, -, -, -, -, -, ⟨q1, cs1, e13, hq1, hb1, rfl⟩, ⟨q2, cs2, e14, hq2, hb2, k1, rfl⟩, ⟨q3, cs3, e15, hq3, hb3, k2, rfl⟩, ⟨q4, cs4, e16, hq4, hb4, k3, rfl⟩, -⟩ := hF
    have hgr := hT.1
    have hBx : Below w.heap.size w wc := HO.out.1.grown hgr HO.out.1.size (fun k hk => by cases hk; omega)
    have hRs : Sl eRg 2 wc (some ⟨q1, 0, none⟩) 3 [⟨t, A, n, c, l⟩, ⟨(tn : Int), A2, l2.length, c2, l2⟩, ⟨(tn : Int), A2, l2.length, c2, l2⟩] := Sl.of_blk hb1 rfl lenRg
    have hO1 : Ints wc (some ⟨q2, 0, none⟩) 3 [o1, k1, o1] := Sl.of_blk hb2 rfl lenInt
    have hO2 : Ints wc (some ⟨q3, 0, none⟩) 3 [o2, k2, o2] := Sl.of_blk hb3 rfl lenInt
    have hO3 : Ints wc (some ⟨q4, 0, none⟩) 3 [o3, k3, o3] := Sl.of_blk hb4 rfl lenInt
    have hr0 : RgOk wc ⟨t, A, n, c, l⟩ := (HG.out (by omega)).below hBx (Nat.le_refl _)
    have hr1 : RgOk wc ⟨(tn : Int), A2, l2.length, c2, l2⟩ := ⟨Sl.gb HO.out.2.1 hgr HO.out.2.2, hcW, hmW, hzA2, by dsimp; omega⟩
    obtain ⟨R, hR⟩ : ∃ R : List Rg, R = [⟨t, A, n, c, l⟩, ⟨(tn : Int), A2, l2.length, c2, l2⟩, ⟨(tn : Int), A2, l2.length, c2, l2⟩] := ⟨_, rfl⟩
    have hok : ∀ g ∈ R, RgOk wc g := by
      rw [hR]
      intro g hg
      simp only [List.mem_cons, List.not_mem_nil, or_false] at hg
      rcases hg with rfl | rfl | rfl <;> assumption
    rw [← hR] at hRs
    obtain ⟨O1, hOO1⟩ : ∃ OO : List Int, OO = [o1, k1, o1] := ⟨_, rfl⟩
    rw [← hOO1] at hO1
    obtain ⟨O2, hOO2⟩ : ∃ OO : List Int, OO = [o2, k2, o2] := ⟨_, rfl⟩
    rw [← hOO2] at hO2
    obtain ⟨O3, hOO3⟩ : ∃ OO : List Int, OO = [o3, k3, o3] := ⟨_, rfl⟩
    rw [← hOO3] at hO3
    have HRS := Lib.hid (And.intro hRs (And.intro hO1 (And.intro hO2 (And.intro hO3 (And.intro hok hBx)))))
    simp only [e13, e14, e15, e16]
    clear hRs hO1 hO2 hO3 hok hBx hR hOO1 hOO2 hOO3 hr0 hr1 hgr e13 e14 e15 e16 hb1 hb2 hb3 hb4 hT hq1 hq2 hq3 hq4 HC HH HO a0W aM
    go_wp2_with fail
    go_loopg [17] 3 (fun g i wr => ∃ k : Nat, k + g = 3 ∧ i = .int .i64 k ∧ Below wc.heap.size wc wr)
    case atStart => exact ⟨0, rfl, rfl, Below.refl _ _⟩
    case round =>
      obtain ⟨k, hk, rfl, hbr⟩ := hrel
      have HK := Lib.hid hk
      have hk3 : k ≤ 3 := by omega
      clear hk
      by_cases hlt : k < 3
      · obtain ⟨b1, f1, g, h1, hb1, hg, g0, g1⟩ := Regs.get (HRS.out.1.below hbr (Nat.le_refl _)) hlt
        cases h1
        obtain ⟨b2, f2, x, h2, hb2, hx, x0⟩ := Ints.get (HRS.out.2.1.below hbr (Nat.le_refl _)) hlt
        cases h2
        obtain ⟨b3, f3, y, h3, hb3, hy, y0⟩ := Ints.get (HRS.out.2.2.1.below hbr (Nat.le_refl _)) hlt
        cases h3
        obtain ⟨b4, f4, z, h4, hb4, hz, z0⟩ := Ints.get (HRS.out.2.2.2.1.below hbr (Nat.le_refl _)) hlt
        cases h4
        rw [Nat.zero_add] at g0 g1 x0 y0 z0
        have hgo : RgOk wc g := HRS.out.2.2.2.2.1 g (List.mem_of_getElem? hg)
        have hgr := hgo.below hbr (Nat.le_refl _)
        have HGO := Lib.hid hgo
        clear hgo hg hx hy hz
        have i0 : (0 : Int) ≤ (k : Int) := by omega
        have i1 : (k : Int) < 3 := by omega
        go_wp2_with fail
        refine (copyRegister_any g.t g.A g.n g.c g.l _ hgr.m hgr.z hgr.s).mono ?_
        rintro e w3 ⟨⟨A3, c3, rfl, hown3, hm3, hlc3, hcm3, hz3⟩, hb3w⟩
        have hbr3 := hbr.trans (hb3w.mono hbr.size)
        replace g0 := bcell g0 hb3w (Nat.le_refl _)
        replace g1 := bcell g1 hb3w (Nat.le_refl _)
        replace x0 := bcell x0 hb3w (Nat.le_refl _)
        replace y0 := bcell y0 hb3w (Nat.le_refl _)
        replace z0 := bcell z0 hb3w (Nat.le_refl _)
        clear hown3 hgr hbr hb3w hz3
        go_upto_region 10 with (fail)
        obtain ⟨W4, hW4⟩ : ∃ W4, W4 = w3.alloc (Obj.cells #[Value.int .i64 g.t, .slice A3 g.l.length c3] 24) := ⟨_, rfl⟩
        rw [← hW4]
        have a4 : W4.heap[w3.heap.size]? = some (Obj.cells #[Value.int .i64 g.t, .slice A3 g.l.length c3] 24 (0, 0)) := by rw [hW4]; exact alloc_at rfl
        have hb4 : Below w3.heap.size w3 W4 := by rw [hW4]; exact bal0 w3 _
        clear hW4
        replace hm3 := hm3.below hb4 (Nat.le_refl _)
        replace g0 := bcell g0 hb4 (Nat.le_refl _)
        replace g1 := bcell g1 hb4 (Nat.le_refl _)
        replace x0 := bcell x0 hb4 (Nat.le_refl _)
        replace y0 := bcell y0 hb4 (Nat.le_refl _)
        replace z0 := bcell z0 hb4 (Nat.le_refl _)
        have hbr4 := hbr3.trans (hb4.mono hbr3.size)
        clear hb4 hbr3
        obtain ⟨p0, p1⟩ := blk2 a4
        -- the program's first
        refine wp_region_quiet_call (C := fun w' => ∃ n, w' = W4.drewN n) 9 (by kernel_rfl) (by kernel_rfl) ⟨1, rfl⟩ ?_
        simp only [List.take_succ_cons, List.take_zero, List.drop_succ_cons, List.drop_zero]
        repeat (quiet_step (fail))
        refine wpQuiet_nil ?_
        intro _ hw'
        obtain ⟨nq, hw''⟩ := hw'
        subst hw''
        intro Q2 hQ2
        go_wp2_with fail
        refine (Apart_any g.t A3 g.l.length c3 g.l x y (W4.drewN nq) hm3 hlc3 hcm3).mono ?_
        rintro e w5 ⟨rfl, hb5⟩
        replace hb5 : Below W4.heap.size W4 w5 := ⟨hb5.os, hb5.tape, hb5.output, hb5.size, hb5.block⟩
        go_wp2
        repeat (quiet_step (fail))
        refine wpQuiet_nil ?_
        have hbr5 := hbr4.trans (hb5.mono hbr4.size)
        replace hm3 := hm3.below hb5 (Nat.le_refl _)
        have a5 := bheap a4 hb5 (Nat.le_refl _)
        replace g0 := bcell g0 hb5 (Nat.le_refl _)
        replace g1 := bcell g1 hb5 (Nat.le_refl _)
        replace x0 := bcell x0 hb5 (Nat.le_refl _)
        replace y0 := bcell y0 hb5 (Nat.le_refl _)
        replace z0 := bcell z0 hb5 (Nat.le_refl _)
        have hgm5 := (HGO.out.below hbr5 (Nat.le_refl _)).m
        obtain ⟨hgc, hgx⟩ := And.intro HGO.out.nc HGO.out.cm
        clear hb5 hbr4 a4 p0 p1
        go_upto_region 11 with (fail)
        refine wp_region_quiet_call (C := fun w' => ∃ n, w' = w5.drewN n) 12 (by kernel_rfl) (by kernel_rfl) ⟨1, rfl⟩ ?_
        simp only [List.take_succ_cons, List.take_zero, List.drop_succ_cons, List.drop_zero]
        repeat (quiet_step (fail))
        refine wpQuiet_nil ?_
        intro _ hw'
        obtain ⟨nq, hw''⟩ := hw'
        subst hw''
        intro Q2 hQ2
        go_wp2_with fail
        refine (rApart g.t g.A g.n g.c g.l x y (w5.drewN nq) hgm5 hgc hgx).mono ?_
        rintro e w6 ⟨rfl, hb6⟩
        replace hb6 : Below w5.heap.size w5 w6 := ⟨hb6.os, hb6.tape, hb6.output, hb6.size, hb6.block⟩
        go_wp2
        repeat (quiet_step (fail))
        refine wpQuiet_nil ?_
        have hbr6 := hbr5.trans (hb6.mono hbr5.size)
        replace hm3 := hm3.below hb6 (Nat.le_refl _)
        have a6 := bheap a5 hb6 (Nat.le_refl _)
        replace g0 := bcell g0 hb6 (Nat.le_refl _)
        replace g1 := bcell g1 hb6 (Nat.le_refl _)
        replace x0 := bcell x0 hb6 (Nat.le_refl _)
        replace y0 := bcell y0 hb6 (Nat.le_refl _)
        replace z0 := bcell z0 hb6 (Nat.le_refl _)
        obtain ⟨p0, p1⟩ := blk2 a6
        clear hb6 hbr5 a5 hgm5
        go_upto_region 12 with (fail)
        refine wp_region_quiet_call (C := fun w' => ∃ n, w' = w6.drewN n) 5 (by kernel_rfl) (by kernel_rfl) ⟨1, rfl⟩ ?_
        simp only [List.take_succ_cons, List.take_zero, List.drop_succ_cons, List.drop_zero]
        repeat (quiet_step (fail))
        refine wpQuiet_nil ?_
        intro _ hw'
        obtain ⟨nq, hw''⟩ := hw'
        subst hw''
        intro Q2 hQ2
        go_wp2_with fail
        refine (Mistaken_any g.t A3 g.l.length c3 g.l z (w6.drewN nq) hm3 hlc3 hcm3).mono ?_
        rintro e w7 ⟨v7, rfl, ho7, hb7⟩
        replace hb7 : Below w6.heap.size w6 w7 := ⟨hb7.os, hb7.tape, hb7.output, hb7.size, hb7.block⟩
        go_wp2
        repeat (quiet_step (fail))
        refine wpQuiet_nil ?_
        have hbr7 := hbr6.trans (hb7.mono hbr6.size)
        replace hm3 := hm3.below hb7 (Nat.le_refl _)
        have a7 := bheap a6 hb7 (Nat.le_refl _)
        replace g0 := bcell g0 hb7 (Nat.le_refl _)
        replace g1 := bcell g1 hb7 (Nat.le_refl _)
        replace x0 := bcell x0 hb7 (Nat.le_refl _)
        replace y0 := bcell y0 hb7 (Nat.le_refl _)
        replace z0 := bcell z0 hb7 (Nat.le_refl _)
        have hgm7 := (HGO.out.below hbr7 (Nat.le_refl _)).m
        clear hb7 hbr6 a6 p0 p1
        go_upto_region 13 with (fail)
        refine wp_region_quiet_call (C := fun w' => ∃ n, w' = w7.drewN n) 8 (by kernel_rfl) (by kernel_rfl) ⟨1, rfl⟩ ?_
        simp only [List.take_succ_cons, List.take_zero, List.drop_succ_cons, List.drop_zero]
        repeat (quiet_step (fail))
        refine wpQuiet_nil ?_
        intro _ hw'
        obtain ⟨nq, hw''⟩ := hw'
        subst hw''
        intro Q2 hQ2
        go_wp2_with fail
        refine (rMistaken g.t g.A g.n g.c g.l z (w7.drewN nq) hgm7 hgc hgx).mono ?_
        rintro e w8 ⟨v8, rfl, ho8, hb8⟩
        replace hb8 : Below w7.heap.size w7 w8 := ⟨hb8.os, hb8.tape, hb8.output, hb8.size, hb8.block⟩
        go_wp2
        repeat (quiet_step (fail))
        refine wpQuiet_nil ?_
        have hbr8 := hbr7.trans (hb8.mono hbr7.size)
        replace hm3 := hm3.below hb8 (Nat.le_refl _)
        replace ho7 := ho7.below hb8 (Nat.le_refl _)
        have a8 := bheap a7 hb8 (Nat.le_refl _)
        replace g0 := bcell g0 hb8 (Nat.le_refl _)
        replace g1 := bcell g1 hb8 (Nat.le_refl _)
        have hgm8 := (HGO.out.below hbr8 (Nat.le_refl _)).m
        clear hb8 hbr7 a7 hgm7 x0 y0 z0
        obtain ⟨p0, p1⟩ := blk2 a8
        obtain ⟨A5, c5, rfl, hs5, hc5, hm5⟩ := ho7.form
        obtain ⟨A6, c6, rfl, hs6, hc6, hm6⟩ := ho8.form
        obtain ⟨E1, hE1⟩ : ∃ E1, E1 = apartE g.t g.l x y := ⟨_, rfl⟩
        rw [← hE1]
        obtain ⟨V1, hV1⟩ : ∃ V1, V1 = apartV g.t g.l x y := ⟨_, rfl⟩
        rw [← hV1]
        obtain ⟨E2, hE2⟩ : ∃ E2, E2 = mistE g.t g.l z := ⟨_, rfl⟩
        rw [← hE2]
        obtain ⟨L, hL⟩ : ∃ L, L = mistR g.t g.l z := ⟨_, rfl⟩
        rw [← hL] at hs5 hs6 hc5 hc6 ⊢
        have j0 : (E1 != E1) = false := by simp
        have j1 : (E2 != E2) = false := by simp
        have j2 : (V1 != V1) = false := by simp
        clear hE1 hE2 hV1 hL ho7 ho8 a8
        have hLm : L.length ≤ maxLen := Nat.le_trans hc5 hm5
        have cI : ∀ d os, Calls Try.prog 39 #[.slice A5 L.length c5, .slice A6 L.length c6] (Sort.grow (redrawn w8 d) os) (fun e w'' => e = .returned (.bool true) ∧ ∃ p : Regrown, w'' = Sort.grow (redrawn w8 p.d) p.os) := fun d os => by
          have h := sameGrids_any A5 L.length c5 L A6 L.length c6 L (Sort.grow (redrawn w8 d) os) (hs5.below (below_regrown w8 d os) (Nat.le_refl _)) (hs6.below (below_regrown w8 d os) (Nat.le_refl _)) hLm hLm
          rw [show sameL L L = true from decide_eq_true rfl] at h
          exact Calls.regrown_of h
        have cR : ∀ d os, Calls Try.prog 25 #[.agg #[.int .i64 g.t, .slice A3 g.l.length c3], .agg #[.int .i64 g.t, .slice g.A g.n g.c]] (Sort.grow (redrawn w8 d) os) (fun e w'' => e = .returned (.bool true) ∧ ∃ p : Regrown, w'' = Sort.grow (redrawn w8 p.d) p.os) := fun d os => by
          have h := sameRegisters_any g.t g.t A3 g.l.length c3 g.l g.A g.n g.c g.l (Sort.grow (redrawn w8 d) os) (hm3.below (below_regrown w8 d os) (Nat.le_refl _)) (hgm8.below (below_regrown w8 d os) (Nat.le_refl _)) (Nat.le_trans hlc3 hcm3) (Nat.le_trans hgc hgx)
          rw [show (decide (g.t = g.t) && sameL g.l g.l) = true by simp [sameL]] at h
          exact Calls.regrown_of h
        have HCC := Lib.hid (And.intro cI cR)
        clear cI cR hgm8
        go_upto_region 14 with (fail)
        have z0 := cell_regrown p0
        have z1 := cell_regrown p1
        have z2 := cell_regrown g0
        have z3 := cell_regrown g1
        refine wp_region_quiet_below (by kernel_rfl) (by kernel_rfl) ?_
        repeat
          with_reducible refine wpQuiet_step (fun K hK => ?_)
          go_simp
          first
            | (with_reducible refine hK _ ?_
               clear hK K)
            | (apply Exists.intro
               refine ⟨fun _ => ?_, ?_⟩
               (first | exact HCC.out.1 _ _ | exact HCC.out.2 _ _)
               with_reducible refine hK _ ?_
               clear hK K)
        with_reducible refine wpQuiet_nil ?_
        intro _ hw'
        obtain ⟨⟨dq, osq⟩, hw''⟩ := hw'
        subst hw''
        obtain ⟨W9, hW9⟩ : ∃ W9, W9 = Sort.grow (redrawn w8 dq) osq := ⟨_, rfl⟩
        have hB9 : Below w8.heap.size w8 W9 := by rw [hW9]; exact below_regrown w8 dq osq
        rw [← hW9]
        clear hW9 z0 z1 z2 z3
        go_wp2
        go_roundg (gk - 1)
        case measure => have := HK.out; omega
        case rel => exact ⟨k + 1, by have := HK.out; omega, by go_num, hbr8.trans (hB9.mono hbr8.size)⟩
      · obtain rfl : k = 3 := by omega
        go_wp2_with fail
        refine (marking_any _).mono ?_
        rintro e w3 ⟨rfl, hb3⟩
        go_wp2
        go_ret
        have hBx := HRS.out.2.2.2.2.2
        have hBr := hBx.trans (hbr.mono hBx.size)
        exact ⟨rfl, hBr.trans (hb3.mono hBr.size)⟩
end Go.Proofs.Ytahlicinchehhaa
