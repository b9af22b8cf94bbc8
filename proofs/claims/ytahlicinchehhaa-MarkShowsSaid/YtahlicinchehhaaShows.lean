/- mestalaw03.MarkShows returns true. -/
import Derived.Test.YtahlicinchehhaaMarking
import Derived.Test.YtahlicinchehhaaRegs
import Derived.Test.YtahlicinchehhaaRefE
import Derived.Test.YtahlicinchehhaaRefA
import Derived.Test.YtahlicinchehhaaDraw
import Derived.Test.YtahlicinchehhaaGrid
import Derived.Test.YtahlicinchehhaaWearOf
namespace Go.Proofs.Ytahlicinchehhaa
open Go.RowKit
set_option linter.unusedVariables false
set_option linter.unusedSimpArgs false

theorem Own.ne {α : Type} {enc : α → List Value} {e e' : TypeId} {sz : Nat} {w : World} {base g n c : Nat} {l : List α} {b : Nat} {cs : Array Value} {x : Nat × Nat} (h : Own enc e sz w base (.slice (some ⟨g, 0, none⟩) n c) l) (hb : w.heap[b]? = some (.cells cs e' x)) (hne : e ≠ e') : g ≠ b := by
  intro hgb
  subst hgb
  rcases h.2 with ⟨hv, _⟩ | ⟨g', cap, cur, hv, hg, hh, _⟩
  · cases hv
  · cases hv
    rw [hh] at hb
    cases hb
    exact hne rfl

theorem Own.ne' {α : Type} {enc : α → List Value} {e e' : TypeId} {sz : Nat} {w : World} {base : Nat} {v : Value} {l : List α} {b : Nat} {cs : Array Value} {x : Nat × Nat} (h : Own enc e sz w base v l) (hb : w.heap[b]? = some (.cells cs e' x)) (hne : e ≠ e') : v.ownBlock ≠ some b := by
  intro hgb
  rcases h.2 with ⟨hv, _⟩ | ⟨g', cap, cur, hv, hg, hh, _⟩
  · rw [hv] at hgb; cases hgb
  · rw [hv] at hgb
    cases hgb
    rw [hh] at hb
    cases hb
    exact hne rfl

set_option maxRecDepth 100000 in
set_option maxHeartbeats 4000000 in
theorem MarkShows_any (t : Int) (A : Option Addr) (n c : Nat) (l : List Mk) (m : Mk) (o : Int) (s : Sg) (A0 : Option Addr) (n0 c0 : Nat) (nums : List Int) (w : World) (hlm : Marks w A n l) (hnc : n ≤ c) (hcmx : c ≤ maxLen) (hzn : A = none → c = 0) (hl : Ints w A0 n0 nums) (hn0 : n0 ≤ 9223372036854775807) :
    Calls Try.prog 3 #[.agg #[.int .i64 t, .slice A n c], vMk m, .int .i64 o, vSg s, .slice A0 n0 c0] w fun e w' => e = .returned (.bool true) ∧ Below w.heap.size w w' := by
  have hg20 : n ≤ 9223372036854775807 := Nat.le_trans hnc hcmx
  have HG := Lib.hid (show n ≤ 4294967295 → RgOk w ⟨t, A, n, c, l⟩ from fun h => ⟨hlm, hnc, hcmx, hzn, h⟩)
  have HN := Lib.hid hl
  clear hlm hnc hcmx hzn hl
  go_enter Try.func3, Try.ntmps3
  unfold vSg vMk
  go_upto_region 1 with (fail)
  obtain ⟨W0, hW⟩ : ∃ W0, W0 = ((w.alloc (Obj.cells #[Value.int .i64 t, .slice A n c] 24)).alloc (Obj.cells #[Value.int .i64 m.n, .int .i64 m.b, .int .i64 m.p] 26)).alloc (Obj.cells #[Value.int .i64 s.n, .bool s.l, .bool s.r, .int .i64 s.b, .int .i64 s.p] 28) := ⟨_, rfl⟩
  rw [← hW]
  have hB0 : Below w.heap.size w W0 := by rw [hW]; exact bal (bal (bal0 w _) (Nat.le_refl _) _) (Nat.le_refl _) _
  have a0 : W0.heap[w.heap.size]? = some (Obj.cells #[Value.int .i64 t, .slice A n c] 24 (0, 0)) := by rw [hW]; exact hblk_alloc (hblk_alloc (alloc_at rfl) _) _
  have a1 : W0.heap[w.heap.size + 1]? = some (Obj.cells #[Value.int .i64 m.n, .int .i64 m.b, .int .i64 m.p] 26 (0, 0)) := by rw [hW]; exact hblk_alloc (alloc_at (by simp)) _
  have a2 : W0.heap[w.heap.size + 2]? = some (Obj.cells #[Value.int .i64 s.n, .bool s.l, .bool s.r, .int .i64 s.b, .int .i64 s.p] 28 (0, 0)) := by rw [hW]; exact alloc_at (by simp)
  have hz0 : w.heap.size + 2 < W0.heap.size := heap_lt a2
  clear hW
  obtain ⟨r0, r1⟩ := blk2 a0
  by_cases h20 : 20 < n
  · have h1 : decide ((20 : Int) < (n : Int)) = true := by simp; omega
    go_wp2_with fail
    refine (marking_any _).mono ?_
    rintro e w3 ⟨rfl, hb3⟩
    go_wp2
    go_ret
    exact ⟨rfl, hB0.trans (hb3.mono hB0.size)⟩
  · have h1 : decide ((20 : Int) < (n : Int)) = false := by simp; omega
    go_wp2_with fail
    refine (newHand_any A0 n0 c0 nums _ (HN.out.below hB0 (Nat.le_refl _)) hn0).mono ?_
    rintro e w1 ⟨rfl, hh, hb1, hz1⟩
    have HZ1 := Lib.hid hz1
    have hz1l : W0.heap.size < w1.heap.size := by omega
    clear hz1
    have a01 := bheap a0 hb1 (Nat.le_refl _)
    have a11 := bheap a1 hb1 (Nat.le_refl _)
    have a21 := bheap a2 hb1 (Nat.le_refl _)
    have hB1 := hB0.trans (hb1.mono hB0.size)
    clear r0 r1 a0 a1 a2 hb1
    go_wp2_with fail
    refine (registerOf_any W0.heap.size 0 5 _ hh (by omega) (by omega)).mono ?_
    rintro e w2 ⟨t2, l2, A2, c2, rfl, hck, hl5, hown, hms, hlc, hcm, hd2⟩
    obtain ⟨ht0, ht2, _, _⟩ := check_ok hck
    obtain ⟨tn, rfl⟩ := Int.eq_ofNat_of_zero_le ht0
    have a02 := hd2.blk a01 (by omega)
    have a12 := hd2.blk a11 (by omega)
    have a22 := hd2.blk a21 (by omega)
    have hB2 := hB1.trans ((hd2.below (B := w.heap.size) (by omega) hB1.size))
    have hhd := hd2.hd
    have hz2 := hd2.size
    clear hd2 hh a01 a11 a21
    go_upto_region 5 with (fail)
    obtain ⟨W2, hW⟩ : ∃ W, W = w2.alloc (Obj.cells #[Value.int .i64 (tn : Int), .slice A2 l2.length c2] 24) := ⟨_, rfl⟩
    rw [← hW]
    have aM : W2.heap[w2.heap.size]? = some (Obj.cells #[Value.int .i64 (tn : Int), .slice A2 l2.length c2] 24 (0, 0)) := by rw [hW]; exact alloc_at rfl
    have a0W : W2.heap[w.heap.size]? = some (Obj.cells #[Value.int .i64 t, .slice A n c] 24 (0, 0)) := by rw [hW]; exact hblk_alloc a02 _
    have a1W : W2.heap[w.heap.size + 1]? = some (Obj.cells #[Value.int .i64 m.n, .int .i64 m.b, .int .i64 m.p] 26 (0, 0)) := by rw [hW]; exact hblk_alloc a12 _
    have a2W : W2.heap[w.heap.size + 2]? = some (Obj.cells #[Value.int .i64 s.n, .bool s.l, .bool s.r, .int .i64 s.b, .int .i64 s.p] 28 (0, 0)) := by rw [hW]; exact hblk_alloc a22 _
    have hBW : Below w.heap.size w W2 := by rw [hW]; exact bal hB2 (Nat.le_refl _) _
    have hOW : OwnM W2 (W0.heap.size + 1) (.slice A2 l2.length c2) l2 := by rw [hW, ← HZ1.out]; exact hown.alloc _
    have hHW : Hd W2 W0.heap.size 100 := by rw [hW]; exact hhd.alloc _
    clear hW hB2 hown hhd a02 a12 a22 hB1 hB0 hms
    have hltA2 : ∀ b off, A2 = some ⟨b, off, none⟩ → b < W2.heap.size := fun b off e => (hOW.lt b (by rw [e]; rfl)).2
    have hoff : OffH A2 W0.heap.size := fun b off e => by
      have := hOW.lt b (by rw [e]; rfl)
      omega
    obtain ⟨hmsW, hcW, hmW⟩ := hOW.sl lenMk
    have hzA2 : A2 = none → c2 = 0 := by
      obtain ⟨A', c', hv, _, _, _, h3⟩ := own_shape hOW lenMk
      cases hv
      exact h3
    obtain ⟨m0, m1⟩ := blk2 aM
    have hszM := heap_lt aM
    go_wp2_with fail
    refine (copyRegister_any tn A2 l2.length c2 l2 _ hmsW hzA2 (by omega)).mono ?_
    rintro e w3 ⟨⟨A3, c3, rfl, hown3, hm3, hlc3, hcm3, hz3⟩, hb3⟩
    have a03 := bheap a0W hb3 (Nat.le_refl _)
    have a13 := bheap a1W hb3 (Nat.le_refl _)
    have a23 := bheap a2W hb3 (Nat.le_refl _)
    have aM3 := bheap aM hb3 (Nat.le_refl _)
    have hO3 := hOW.below hb3 (Nat.le_refl _)
    have hH3 := hHW.below hb3 hHW.lt
    have hB3 := hBW.trans (hb3.mono hBW.size)
    have hs3 := hb3.size
    clear a0W a1W a2W aM hOW hHW hBW hb3 hmsW hcW hmW m0 m1 hm3 hz3
    go_upto_region 6 with (fail)
    obtain ⟨W3, hW⟩ : ∃ W, W = w3.alloc (Obj.cells #[Value.int .i64 (tn : Int), .slice A3 l2.length c3] 24) := ⟨_, rfl⟩
    rw [← hW]
    have aL : W3.heap[w3.heap.size]? = some (Obj.cells #[Value.int .i64 (tn : Int), .slice A3 l2.length c3] 24 (0, 0)) := by rw [hW]; exact alloc_at rfl
    replace a03 : W3.heap[w.heap.size]? = some (Obj.cells #[Value.int .i64 t, .slice A n c] 24 (0, 0)) := by rw [hW]; exact hblk_alloc a03 _
    replace a13 : W3.heap[w.heap.size + 1]? = some (Obj.cells #[Value.int .i64 m.n, .int .i64 m.b, .int .i64 m.p] 26 (0, 0)) := by rw [hW]; exact hblk_alloc a13 _
    replace a23 : W3.heap[w.heap.size + 2]? = some (Obj.cells #[Value.int .i64 s.n, .bool s.l, .bool s.r, .int .i64 s.b, .int .i64 s.p] 28 (0, 0)) := by rw [hW]; exact hblk_alloc a23 _
    replace aM3 : W3.heap[w2.heap.size]? = some (Obj.cells #[Value.int .i64 (tn : Int), .slice A2 l2.length c2] 24 (0, 0)) := by rw [hW]; exact hblk_alloc aM3 _
    replace hown3 : OwnM W3 W2.heap.size (.slice A3 l2.length c3) l2 := by rw [hW]; exact hown3.alloc _
    replace hO3 : OwnM W3 (W0.heap.size + 1) (.slice A2 l2.length c2) l2 := by rw [hW]; exact hO3.alloc _
    replace hH3 : Hd W3 W0.heap.size 100 := by rw [hW]; exact hH3.alloc _
    replace hB3 : Below w.heap.size w W3 := by rw [hW]; exact bal hB3 (Nat.le_refl _) _
    clear hW
    have hs3' := heap_lt aL
    have hll : l2.length < 4294967296 := by omega
    obtain ⟨x0, x1⟩ := blk2 aL
    obtain ⟨m0, m1, m2⟩ := blk3 a13
    have HO := Lib.hid (And.intro hown3 (And.intro aL (And.intro a03 (And.intro a23 (And.intro aM3 (And.intro hO3 (And.intro hH3 hB3)))))))
    clear hown3 aL a03 a13 a23 aM3 hO3 hH3 hB3
    go_wp2_with (at_builtin; refine wp_appx okMark rfl (.tmp 35) (.tmp 37) rfl W2.heap.size (Value.slice A3 l2.length c3) l2 m _ rfl rfl rfl rfl (one_eMk _) HO.out.1 hll ?_ ?_ ?_; (omega); (omega); intro g5 c5 w5 hown5 hgr5 hb5; have bq5 := (hgr5.block _ (heap_lt HO.out.2.1) (fun e => by have h9 := HO.out.1.ne' HO.out.2.1 (by decide) e.symm; exact h9)).trans HO.out.2.1; have q5 := (blk2 bq5).2; have f5 := frz bq5 1; have H5 := Lib.hid (And.intro hown5 (And.intro hgr5 (And.intro hb5 bq5))); clear hown5 hgr5 hb5 bq5)
    have hne5 := H5.out.1.ne H5.out.2.2.2 (by decide)
    obtain ⟨W6, hW⟩ : ∃ W, W = w5.setCell ⟨w3.heap.size, 1, none⟩ (.slice (some ⟨g5, 0, none⟩) (l2.length + 1) c5) := ⟨_, rfl⟩
    rw [← hW]
    have hb6 : Below W2.heap.size W3 W6 := by rw [hW]; exact H5.out.2.2.1.setCell (show W2.heap.size ≤ w3.heap.size from hs3) _
    have aL6 : W6.heap[w3.heap.size]? = some (Obj.cells #[Value.int .i64 (tn : Int), .slice (some ⟨g5, 0, none⟩) (l2.length + 1) c5] 24 (0, 0)) := by rw [hW]; exact set2_1 H5.out.2.2.2
    have hOL : OwnM W6 W2.heap.size (.slice (some ⟨g5, 0, none⟩) (l2 ++ [m]).length c5) (l2 ++ [m]) := by
      rw [hW, List.length_append]
      exact Own.kept H5.out.1 (gb_set _ _ _ _) (.inr (by simpa [Value.ownBlock] using hne5))
    clear hW H5 q5 f5 x0 x1 m0 m1 m2
    have hz6 := heap_lt aL6
    have a06 := blk_b HO.out.2.2.1 hb6 (by omega)
    have a26 := blk_b HO.out.2.2.2.1 hb6 (by omega)
    have aM6 := blk_b HO.out.2.2.2.2.1 hb6 hszM
    have hB6 := HO.out.2.2.2.2.2.2.2.trans (hb6.mono (by omega))
    have hH6 := HO.out.2.2.2.2.2.2.1.bb hb6 (by omega)
    have hOM := HO.out.2.2.2.2.2.1
    have hwr : IntKind.i64.wrap ((l2.length : Int) - 1) = (l2.length : Int) - 1 := IntWalk.i64_in _ (by omega)
    obtain ⟨r0, r1⟩ := blk2 a06
    obtain ⟨s0, s1, s2, s3, s4⟩ := blk5 a26
    obtain ⟨m0, m1⟩ := blk2 aM6
    obtain ⟨x0, x1⟩ := blk2 aL6
    have HC : Hid (∀ k w', TH W0.heap.size k W6 w' → w'.cell? ⟨w.heap.size, 0, none⟩ = some (.int .i64 t) ∧ w'.cell? ⟨w.heap.size, 1, none⟩ = some (.slice A n c) ∧
        w'.cell? ⟨w.heap.size + 2, 0, none⟩ = some (.int .i64 s.n) ∧ w'.cell? ⟨w.heap.size + 2, 1, none⟩ = some (.bool s.l) ∧ w'.cell? ⟨w.heap.size + 2, 2, none⟩ = some (.bool s.r) ∧ w'.cell? ⟨w.heap.size + 2, 3, none⟩ = some (.int .i64 s.b) ∧ w'.cell? ⟨w.heap.size + 2, 4, none⟩ = some (.int .i64 s.p) ∧
        w'.cell? ⟨w2.heap.size, 0, none⟩ = some (.int .i64 (tn : Int)) ∧ w'.cell? ⟨w2.heap.size, 1, none⟩ = some (.slice A2 l2.length c2) ∧
        w'.cell? ⟨w3.heap.size, 0, none⟩ = some (.int .i64 (tn : Int)) ∧ w'.cell? ⟨w3.heap.size, 1, none⟩ = some (.slice (some ⟨g5, 0, none⟩) (l2.length + 1) c5)) :=
      Lib.hid fun k w' h => ⟨gb_cell h.1 (by omega) r0, gb_cell h.1 (by omega) r1, gb_cell h.1 (by omega) s0, gb_cell h.1 (by omega) s1, gb_cell h.1 (by omega) s2, gb_cell h.1 (by omega) s3, gb_cell h.1 (by omega) s4, gb_cell h.1 (by omega) m0, gb_cell h.1 (by omega) m1, gb_cell h.1 (by omega) x0, gb_cell h.1 (by omega) x1⟩
    have HH := Lib.hid (And.intro hH6 hH6.lt)
    clear r0 r1 s0 s1 s2 s3 s4 m0 m1 x0 x1
    obtain ⟨A5, hA5⟩ : ∃ A5 : Option Addr, A5 = some ⟨g5, 0, none⟩ := ⟨_, rfl⟩
    refine wp_region_inv (TH W0.heap.size) (by kernel_rfl) (by kernel_rfl) TH.tr (TH.draw _) ?_
    apply Exists.intro
    refine ⟨fun ys => ?_, fun ops K hK => ?_⟩
    · simp only [dstsOf, List.filterMap_cons, List.filterMap_nil, putAll]
      go_simp
      rfl
    repeat
      refine LexI.const TH.rf ?_
      apply Exists.intro
      refine ⟨fun n' ys w' hn' hT hd => ?_, ?_⟩
      · try simp [DepsOf, depsGo, DF.holds, Region.binds, EqF] at hd
        obtain ⟨y0, y1, y2, y3, y4, y5, y6, y7, y8, y9, y10⟩ := HC.out n' w' hT
        intro Q2 hQ2
        go_wp2_with fail
        rfl
      try simp only [List.nil_append, List.cons_append]
    -- the registers
    refine LexI.some (SlF W0.heap.size 24 4 (fun cs => cs = #[Value.int .i64 t, .slice A n c, .int .i64 (tn : Int), .slice A2 l2.length c2, .int .i64 (tn : Int), .slice (some ⟨g5, 0, none⟩) (l2.length + 1) c5, .int .i64 (tn : Int), .slice (some ⟨g5, 0, none⟩) (l2.length + 1) c5])) (SlF.st) (fun n' ys w' hn' hT hd => ?_) ?_
    · try simp [DepsOf, depsGo, DF.holds, Region.binds, EqF] at hd
      try simp only [hd]
      intro Q2 hQ2
      have hl := (hT.2 _ HH.out.1).lt
      go_wp2_with fail
      exact SlF.new hl rfl
    try simp only [List.nil_append, List.cons_append]
    repeat
      refine LexI.const TH.rf ?_
      apply Exists.intro
      refine ⟨fun n' ys w' hn' hT hd => ?_, ?_⟩
      · try simp [DepsOf, depsGo, DF.holds, Region.binds, EqF] at hd
        obtain ⟨y0, y1, y2, y3, y4, y5, y6, y7, y8, y9, y10⟩ := HC.out n' w' hT
        intro Q2 hQ2
        go_wp2_with fail
        rfl
      try simp only [List.nil_append, List.cons_append]
    -- Upto
    refine LexI.some (NatLe (l2.length - 1)) (NatLe.st) (fun n' ys w' hn' hT hd => ?_) ?_
    · try simp [DepsOf, depsGo, DF.holds, Region.binds, EqF] at hd
      try simp only [hd]
      intro Q2 hQ2
      obtain ⟨N0, hN0, hN1, hN2⟩ := (hT.2 _ HH.out.1).least
      go_wp2_with fail
      refine (upto_any W0.heap.size N0 (l2.length - 1) w' hN1 (by omega) (by omega)).mono ?_
      rintro e wU ⟨k, rfl, hk, hU⟩
      go_wp2
      exact ⟨_, rfl, TH.of hN2 hU (by omega), k, rfl, hk⟩
    try simp only [List.nil_append, List.cons_append]
    repeat
      refine LexI.const TH.rf ?_
      apply Exists.intro
      refine ⟨fun n' ys w' hn' hT hd => ?_, ?_⟩
      · try simp [DepsOf, depsGo, DF.holds, Region.binds, EqF] at hd
        obtain ⟨y0, y1, y2, y3, y4, y5, y6, y7, y8, y9, y10⟩ := HC.out n' w' hT
        intro Q2 hQ2
        go_wp2_with fail
        rfl
      try simp only [List.nil_append, List.cons_append]
    -- the owners
    refine LexI.some (SlF W0.heap.size 3 4 (fun cs => ∃ k : Nat, cs = #[Value.int .i64 o, .int .i64 k, .int .i64 l2.length, .int .i64 o])) (SlF.st) (fun n' ys w' hn' hT hd => ?_) ?_
    · try simp [DepsOf, depsGo, DF.holds, Region.binds, EqF] at hd
      try simp only [hd]
      obtain ⟨h1, ⟨k, h2, _⟩, h3, h4⟩ := hd
      intro Q2 hQ2
      have hl := (hT.2 _ HH.out.1).lt
      go_wp2_with fail
      exact SlF.new hl ⟨k, rfl⟩
    try simp only [List.nil_append, List.cons_append]
    repeat
      refine LexI.const TH.rf ?_
      apply Exists.intro
      refine ⟨fun n' ys w' hn' hT hd => ?_, ?_⟩
      · try simp [DepsOf, depsGo, DF.holds, Region.binds, EqF] at hd
        obtain ⟨y0, y1, y2, y3, y4, y5, y6, y7, y8, y9, y10⟩ := HC.out n' w' hT
        intro Q2 hQ2
        go_wp2_with fail
        rfl
      try simp only [List.nil_append, List.cons_append]
    -- WearOf, twice
    refine LexI.some (SgF) (SgF.st) (fun n' ys w' hn' hT hd => ?_) ?_
    · try simp [DepsOf, depsGo, DF.holds, Region.binds, EqF] at hd
      try simp only [hd]
      intro Q2 hQ2
      obtain ⟨N0, hN0, hN1, hN2⟩ := (hT.2 _ HH.out.1).least
      go_wp2_with fail
      refine (wearOf_any W0.heap.size N0 3 w' hN1 (by omega) (by omega)).mono ?_
      rintro e wU ⟨S, rfl, _, _, hU⟩
      go_wp2
      exact ⟨_, rfl, TH.of hN2 hU (by omega), S, rfl⟩
    try simp only [List.nil_append, List.cons_append]
    repeat
      refine LexI.const TH.rf ?_
      apply Exists.intro
      refine ⟨fun n' ys w' hn' hT hd => ?_, ?_⟩
      · try simp [DepsOf, depsGo, DF.holds, Region.binds, EqF] at hd
        obtain ⟨y0, y1, y2, y3, y4, y5, y6, y7, y8, y9, y10⟩ := HC.out n' w' hT
        intro Q2 hQ2
        go_wp2_with fail
        rfl
      try simp only [List.nil_append, List.cons_append]
    refine LexI.some (SgF) (SgF.st) (fun n' ys w' hn' hT hd => ?_) ?_
    · try simp [DepsOf, depsGo, DF.holds, Region.binds, EqF] at hd
      try simp only [hd]
      intro Q2 hQ2
      obtain ⟨N0, hN0, hN1, hN2⟩ := (hT.2 _ HH.out.1).least
      go_wp2_with fail
      refine (wearOf_any W0.heap.size N0 2 w' hN1 (by omega) (by omega)).mono ?_
      rintro e wU ⟨S, rfl, _, _, hU⟩
      go_wp2
      exact ⟨_, rfl, TH.of hN2 hU (by omega), S, rfl⟩
    try simp only [List.nil_append, List.cons_append]
    repeat
      refine LexI.const TH.rf ?_
      apply Exists.intro
      refine ⟨fun n' ys w' hn' hT hd => ?_, ?_⟩
      · try simp [DepsOf, depsGo, DF.holds, Region.binds, EqF] at hd
        obtain ⟨y0, y1, y2, y3, y4, y5, y6, y7, y8, y9, y10⟩ := HC.out n' w' hT
        intro Q2 hQ2
        go_wp2_with fail
        rfl
      try simp only [List.nil_append, List.cons_append]
    -- the wear
    refine LexI.some (SlF W0.heap.size 28 4 (fun cs => ∃ S1 S2 : Sg, cs.toList = [s, S1, S2, s].flatMap eSg)) (SlF.st) (fun n' ys w' hn' hT hd => ?_) ?_
    · try simp [DepsOf, depsGo, DF.holds, Region.binds, EqF] at hd
      try simp only [hd]
      obtain ⟨h1, ⟨S1, h2⟩, ⟨S2, h3⟩, h4⟩ := hd
      unfold vSg at h2 h3
      intro Q2 hQ2
      have hl := (hT.2 _ HH.out.1).lt
      go_wp2_with fail
      exact SlF.new hl ⟨S1, S2, rfl⟩
    try simp only [List.nil_append, List.cons_append]
    refine LexI.some (SlF W0.heap.size 24 4 (fun cs => cs = #[Value.int .i64 t, .slice A n c, .int .i64 (tn : Int), .slice A2 l2.length c2, .int .i64 (tn : Int), .slice (some ⟨g5, 0, none⟩) (l2.length + 1) c5, .int .i64 (tn : Int), .slice (some ⟨g5, 0, none⟩) (l2.length + 1) c5])) (SlF.st) (fun n' ys w' hn' hT hd => ?_) ?_
    · try simp [DepsOf, depsGo, DF.holds, Region.binds, EqF] at hd
      try simp only [hd]
      intro Q2 hQ2
      go_wp2_with fail
      exact TH.rf _
    try simp only [List.nil_append, List.cons_append]
    refine LexI.some (SlF W0.heap.size 3 4 (fun cs => ∃ k : Nat, cs = #[Value.int .i64 o, .int .i64 k, .int .i64 l2.length, .int .i64 o])) (SlF.st) (fun n' ys w' hn' hT hd => ?_) ?_
    · try simp [DepsOf, depsGo, DF.holds, Region.binds, EqF] at hd
      try simp only [hd]
      intro Q2 hQ2
      go_wp2_with fail
      exact TH.rf _
    try simp only [List.nil_append, List.cons_append]
    refine LexI.some (SlF W0.heap.size 28 4 (fun cs => ∃ S1 S2 : Sg, cs.toList = [s, S1, S2, s].flatMap eSg)) (SlF.st) (fun n' ys w' hn' hT hd => ?_) ?_
    · try simp [DepsOf, depsGo, DF.holds, Region.binds, EqF] at hd
      try simp only [hd]
      intro Q2 hQ2
      go_wp2_with fail
      exact TH.rf _
    try simp only [List.nil_append, List.cons_append]
    refine hK _ (fun n' ys wc hn' hT hF => ?_)
    simp only [AllF, DF.holds] at hF
    obtain ⟨-, -, -, -, -, -, -, -, -, -, -, -, -, -, -, -, -, -, -, -, -, -, -, -, ⟨q1, cs1, e14, hq1, hb1, rfl⟩, ⟨q2, cs2, e15, hq2, hb2, k1, rfl⟩, ⟨q3, cs3, e16, hq3, hb3, S1, S2, hc3⟩, -⟩ := hF
    have hgr := hT.1
    have hBx : Below w.heap.size w wc := hB6.grown hgr hB6.size (fun k hk => by cases hk; omega)
    have hRs : Sl eRg 2 wc (some ⟨q1, 0, none⟩) 4 [⟨t, A, n, c, l⟩, ⟨(tn : Int), A2, l2.length, c2, l2⟩, ⟨(tn : Int), some ⟨g5, 0, none⟩, l2.length + 1, c5, l2 ++ [m]⟩, ⟨(tn : Int), some ⟨g5, 0, none⟩, l2.length + 1, c5, l2 ++ [m]⟩] := Sl.of_blk hb1 rfl lenRg
    have hSs : Sights wc (some ⟨q3, 0, none⟩) 4 [s, S1, S2, s] := Sl.of_blk hb3 hc3 lenSg
    have hOs : Ints wc (some ⟨q2, 0, none⟩) 4 [o, k1, l2.length, o] := Sl.of_blk hb2 rfl lenInt
    have hr0 : RgOk wc ⟨t, A, n, c, l⟩ := (HG.out (by omega)).below hBx (Nat.le_refl _)
    have hr1 : RgOk wc ⟨(tn : Int), A2, l2.length, c2, l2⟩ := by
      obtain ⟨A', c', hv, h0, h1, h2, h3⟩ := own_shape hOM lenMk
      cases hv
      exact ⟨Sl.gb (h0.under hb6 hltA2) hgr hoff, h1, h2, h3, by dsimp; omega⟩
    have hr2 : RgOk wc ⟨(tn : Int), some ⟨g5, 0, none⟩, l2.length + 1, c5, l2 ++ [m]⟩ := by
      obtain ⟨A', c', hv, h0, h1, h2, h3⟩ := own_shape hOL lenMk
      have hlt := hOL.lt g5 rfl
      cases hv
      rw [List.length_append] at h0 h1
      exact ⟨Sl.gb h0 hgr (fun b off e => by cases e; omega), h1, h2, h3, by dsimp; omega⟩
    obtain ⟨R, hR⟩ : ∃ R : List Rg, R = [⟨t, A, n, c, l⟩, ⟨(tn : Int), A2, l2.length, c2, l2⟩, ⟨(tn : Int), some ⟨g5, 0, none⟩, l2.length + 1, c5, l2 ++ [m]⟩, ⟨(tn : Int), some ⟨g5, 0, none⟩, l2.length + 1, c5, l2 ++ [m]⟩] := ⟨_, rfl⟩
    have hok : ∀ g ∈ R, RgOk wc g := by
      rw [hR]
      intro g hg
      simp only [List.mem_cons, List.not_mem_nil, or_false] at hg
      rcases hg with rfl | rfl | rfl | rfl <;> assumption
    rw [← hR] at hRs
    obtain ⟨SS, hSS⟩ : ∃ SS : List Sg, SS = [s, S1, S2, s] := ⟨_, rfl⟩
    rw [← hSS] at hSs
    obtain ⟨OO, hOO⟩ : ∃ OO : List Int, OO = [o, k1, l2.length, o] := ⟨_, rfl⟩
    rw [← hOO] at hOs
    have HRS := Lib.hid (And.intro hRs (And.intro hSs (And.intro hOs (And.intro hok hBx))))
    simp only [e14, e15, e16]
    clear hRs hSs hOs hok hBx hR hSS hOO hr0 hr1 hr2 hgr e14 e15 e16 hb1 hb2 hb3 hc3 hT hq1 hq2 hq3 hOM hOL hH6 hB6 aM6 a26 a06 aL6 hb6 HC HH
    go_wp2_with fail
    go_loopg [17] 4 (fun g i wr => ∃ k : Nat, k + g = 4 ∧ i = .int .i64 k ∧ Below wc.heap.size wc wr)
    case atStart => exact ⟨0, rfl, rfl, Below.refl _ _⟩
    case round =>
      obtain ⟨k, hk, rfl, hbr⟩ := hrel
      have HK := Lib.hid hk
      have hk4 : k ≤ 4 := by omega
      clear hk
      by_cases hlt : k < 4
      · obtain ⟨b1, f1, g, h1, hb1, hg, g0, g1⟩ := Regs.get (HRS.out.1.below hbr (Nat.le_refl _)) hlt
        cases h1
        obtain ⟨b3, f3, x, h3, hb3, hx, x0, x1, x2, x3, x4⟩ := Sights.get (HRS.out.2.1.below hbr (Nat.le_refl _)) hlt
        cases h3
        obtain ⟨b2, f2, u, h2, hb2, hu, u0⟩ := Ints.get (HRS.out.2.2.1.below hbr (Nat.le_refl _)) hlt
        cases h2
        rw [Nat.zero_add] at g0 g1 x0 x1 x2 x3 x4 u0
        have hgo : RgOk wc g := HRS.out.2.2.2.1 g (List.mem_of_getElem? hg)
        have hgr := hgo.below hbr (Nat.le_refl _)
        have HGO := Lib.hid hgo
        clear hgo hg hx hu
        have i0 : (0 : Int) ≤ (k : Int) := by omega
        have i1 : (k : Int) < 4 := by omega
        go_wp2_with fail
        refine (copyRegister_any g.t g.A g.n g.c g.l _ hgr.m hgr.z hgr.s).mono ?_
        rintro e w7 ⟨⟨A3, c3, rfl, hown3, hm3, hlc3, hcm3, hz3⟩, hb3w⟩
        have hbr3 := hbr.trans (hb3w.mono hbr.size)
        replace g0 := bcell g0 hb3w (Nat.le_refl _)
        replace g1 := bcell g1 hb3w (Nat.le_refl _)
        replace x0 := bcell x0 hb3w (Nat.le_refl _)
        replace x1 := bcell x1 hb3w (Nat.le_refl _)
        replace x2 := bcell x2 hb3w (Nat.le_refl _)
        replace x3 := bcell x3 hb3w (Nat.le_refl _)
        replace x4 := bcell x4 hb3w (Nat.le_refl _)
        replace u0 := bcell u0 hb3w (Nat.le_refl _)
        clear hown3 hgr hbr hb3w hz3
        go_upto_region 12 with (fail)
        obtain ⟨W4, hW4⟩ : ∃ W4, W4 = w7.alloc (Obj.cells #[Value.int .i64 g.t, .slice A3 g.l.length c3] 24) := ⟨_, rfl⟩
        rw [← hW4]
        have a4 : W4.heap[w7.heap.size]? = some (Obj.cells #[Value.int .i64 g.t, .slice A3 g.l.length c3] 24 (0, 0)) := by rw [hW4]; exact alloc_at rfl
        have hb4 : Below w7.heap.size w7 W4 := by rw [hW4]; exact bal0 w7 _
        clear hW4
        replace hm3 := hm3.below hb4 (Nat.le_refl _)
        replace g0 := bcell g0 hb4 (Nat.le_refl _)
        replace g1 := bcell g1 hb4 (Nat.le_refl _)
        replace x0 := bcell x0 hb4 (Nat.le_refl _)
        replace x1 := bcell x1 hb4 (Nat.le_refl _)
        replace x2 := bcell x2 hb4 (Nat.le_refl _)
        replace x3 := bcell x3 hb4 (Nat.le_refl _)
        replace x4 := bcell x4 hb4 (Nat.le_refl _)
        replace u0 := bcell u0 hb4 (Nat.le_refl _)
        have hbr4 := hbr3.trans (hb4.mono hbr3.size)
        clear hb4 hbr3
        obtain ⟨p0, p1⟩ := blk2 a4
        obtain ⟨R, hR⟩ : ∃ R, R = showS g.t g.l u x := ⟨_, rfl⟩
        obtain ⟨E, hE⟩ : ∃ E, E = showE g.t g.l u x := ⟨_, rfl⟩
        have HRE := Lib.hid (And.intro hR hE)
        clear hR hE
        have HC : Hid (∀ k' w', TZ W4.heap.size (sgObj ⟨0, false, false, 0, 0⟩) (sgObj R) k' W4 w' → Below W4.heap.size W4 w' ∧ w'.cell? ⟨w7.heap.size, 0, none⟩ = some (.int .i64 g.t) ∧ w'.cell? ⟨w7.heap.size, 1, none⟩ = some (.slice A3 g.l.length c3) ∧
            w'.cell? ⟨q3, k * 5, none⟩ = some (.int .i64 x.n) ∧ w'.cell? ⟨q3, k * 5 + 1, none⟩ = some (.bool x.l) ∧ w'.cell? ⟨q3, k * 5 + 2, none⟩ = some (.bool x.r) ∧ w'.cell? ⟨q3, k * 5 + 3, none⟩ = some (.int .i64 x.b) ∧ w'.cell? ⟨q3, k * 5 + 4, none⟩ = some (.int .i64 x.p) ∧ w'.cell? ⟨q2, k, none⟩ = some (.int .i64 u)) :=
          Lib.hid fun k' w' h => by
            have hb := h.below (Nat.le_refl _)
            exact ⟨hb, bcell p0 hb (Nat.le_refl _), bcell p1 hb (Nat.le_refl _), bcell x0 hb (Nat.le_refl _), bcell x1 hb (Nat.le_refl _), bcell x2 hb (Nat.le_refl _), bcell x3 hb (Nat.le_refl _), bcell x4 hb (Nat.le_refl _), bcell u0 hb (Nat.le_refl _)⟩
        have HM := Lib.hid (And.intro hm3 (And.intro hlc3 hcm3))
        refine wp_region_inv (TZ W4.heap.size (sgObj ⟨0, false, false, 0, 0⟩) (sgObj R)) (by kernel_rfl) (by kernel_rfl) TZ.tr (TZ.draw _) ?_
        apply Exists.intro
        refine ⟨fun ys => ?_, fun ops K hK => ?_⟩
        · simp only [dstsOf, List.filterMap_cons, List.filterMap_nil, putAll]
          go_simp
          rfl
        repeat
          refine LexI.const TZ.rf ?_
          apply Exists.intro
          refine ⟨fun n' ys w' hn' hT hd => ?_, ?_⟩
          · try simp [DepsOf, depsGo, DF.holds, Region.binds, EqF] at hd
            obtain ⟨_, y0, y1, y2, y3, y4, y5, y6, y7⟩ := HC.out n' w' hT
            intro Q2 hQ2
            go_wp2_with fail
            rfl
          try simp only [List.nil_append, List.cons_append]
        refine LexI.some (EqF (.tuple #[vSg R, .int .i64 E])) (EqF.st) (fun n' ys w' hn' hT hd => ?_) ?_
        · try simp [DepsOf, depsGo, DF.holds, Region.binds, EqF] at hd
          try simp only [hd]
          have hbw := (HC.out n' w' hT).1
          intro Q2 hQ2
          go_wp2_with fail
          refine (Show_any g.t A3 g.l.length c3 g.l u x w' (HM.out.1.below hbw (Nat.le_refl _)) HM.out.2.1 HM.out.2.2).mono ?_
          rintro e wU ⟨rfl, hU⟩
          go_wp2
          exact ⟨_, rfl, TZ.of hU, by unfold EqF; rw [HRE.out.1, HRE.out.2]⟩
        try simp only [List.nil_append, List.cons_append]
        repeat
          refine LexI.const TZ.rf ?_
          apply Exists.intro
          refine ⟨fun n' ys w' hn' hT hd => ?_, ?_⟩
          · try simp [DepsOf, depsGo, DF.holds, Region.binds, EqF] at hd
            obtain ⟨_, y0, y1, y2, y3, y4, y5, y6, y7⟩ := HC.out n' w' hT
            intro Q2 hQ2
            go_wp2_with fail
            rfl
          try simp only [List.nil_append, List.cons_append]
        refine LexI.some (PtZ W4.heap.size (sgObj ⟨0, false, false, 0, 0⟩) (sgObj R)) (PtZ.st) (fun n' ys w' hn' hT hd => ?_) ?_
        · try simp [DepsOf, depsGo, DF.holds, Region.binds, EqF] at hd
          try simp only [hd]
          have hbw := (HC.out n' w' hT).1.size
          intro Q2 hQ2
          go_wp2_with fail
          exact PtZ.new _ hbw
        try simp only [List.nil_append, List.cons_append]
        refine LexI.ref 19 (PtT W4.heap.size (sgObj R)) (PtT.st) rfl rfl (fun n' ys w' hn' hT hd => ?_) ?_
        · try simp [DepsOf, depsGo, DF.holds, Region.binds, EqF] at hd
          try simp only [hd]
          obtain ⟨⟨kz, hy, hkz, ho⟩, h86, -⟩ := hd
          unfold vSg at h86 ⊢
          obtain ⟨s', hs'⟩ : ∃ s' : Sg, w'.heap[kz]? = some (sgObj s') := by rcases ho with ho | ho <;> exact ⟨_, ho⟩
          obtain ⟨z0, z1, z2, z3, z4⟩ := blk5 hs'
          obtain ⟨f0, f1, f2, f3, f4⟩ := And.intro (frz hs' 0) (And.intro (frz hs' 1) (And.intro (frz hs' 2) (And.intro (frz hs' 3) (frz hs' 4))))
          have HZ := Lib.hid (And.intro ho hs')
          clear ho hs'
          intro Q2 hQ2
          go_wp2_with fail
          exact sg_put hkz HZ.out
        try simp only [List.nil_append, List.cons_append]
        repeat
          refine LexI.const TZ.rf ?_
          apply Exists.intro
          refine ⟨fun n' ys w' hn' hT hd => ?_, ?_⟩
          · try simp [DepsOf, depsGo, DF.holds, Region.binds, EqF] at hd
            obtain ⟨_, y0, y1, y2, y3, y4, y5, y6, y7⟩ := HC.out n' w' hT
            intro Q2 hQ2
            go_wp2_with fail
            rfl
          try simp only [List.nil_append, List.cons_append]
        refine hK _ (fun n' ys w5 hn' hT hF => ?_)
        simp only [AllF, DF.holds] at hF
        obtain ⟨-, -, -, -, -, -, -, -, -, -, -, -, -, -, ⟨k19, e19, hk19, hb19⟩, e20, -⟩ := hF
        simp only [e19, e20]
        have hb5 := hT.below (Nat.le_refl _)
        replace hm3 := HM.out.1.below hb5 (Nat.le_refl _)
        have a5 := bheap a4 hb5 (Nat.le_refl _)
        replace g0 := bcell g0 hb5 (Nat.le_refl _)
        replace g1 := bcell g1 hb5 (Nat.le_refl _)
        replace x0 := bcell x0 hb5 (Nat.le_refl _)
        replace x1 := bcell x1 hb5 (Nat.le_refl _)
        replace x2 := bcell x2 hb5 (Nat.le_refl _)
        replace x3 := bcell x3 hb5 (Nat.le_refl _)
        replace x4 := bcell x4 hb5 (Nat.le_refl _)
        replace u0 := bcell u0 hb5 (Nat.le_refl _)
        have hbr5 := hbr4.trans (hb5.mono hbr4.size)
        clear hb5 hbr4 a4 p0 p1 hT HC e19 e20
        have hgm5 := (HGO.out.below hbr5 (Nat.le_refl _)).m
        have HM5 := Lib.hid (And.intro hgm5 (And.intro HGO.out.nc HGO.out.cm))
        clear hgm5
        go_upto_region 13 with (fail)
        have HC : Hid (∀ k' w', TZ w5.heap.size (sgObj ⟨0, false, false, 0, 0⟩) (sgObj R) k' w5 w' → Below w5.heap.size w5 w' ∧ w'.cell? ⟨q1, k * 2, none⟩ = some (.int .i64 g.t) ∧ w'.cell? ⟨q1, k * 2 + 1, none⟩ = some (.slice g.A g.n g.c) ∧
            w'.cell? ⟨q3, k * 5, none⟩ = some (.int .i64 x.n) ∧ w'.cell? ⟨q3, k * 5 + 1, none⟩ = some (.bool x.l) ∧ w'.cell? ⟨q3, k * 5 + 2, none⟩ = some (.bool x.r) ∧ w'.cell? ⟨q3, k * 5 + 3, none⟩ = some (.int .i64 x.b) ∧ w'.cell? ⟨q3, k * 5 + 4, none⟩ = some (.int .i64 x.p) ∧ w'.cell? ⟨q2, k, none⟩ = some (.int .i64 u)) :=
          Lib.hid fun k' w' h => by
            have hb := h.below (Nat.le_refl _)
            exact ⟨hb, bcell g0 hb (Nat.le_refl _), bcell g1 hb (Nat.le_refl _), bcell x0 hb (Nat.le_refl _), bcell x1 hb (Nat.le_refl _), bcell x2 hb (Nat.le_refl _), bcell x3 hb (Nat.le_refl _), bcell x4 hb (Nat.le_refl _), bcell u0 hb (Nat.le_refl _)⟩
        refine wp_region_inv (TZ w5.heap.size (sgObj ⟨0, false, false, 0, 0⟩) (sgObj R)) (by kernel_rfl) (by kernel_rfl) TZ.tr (TZ.draw _) ?_
        apply Exists.intro
        refine ⟨fun ys => ?_, fun ops K hK => ?_⟩
        · simp only [dstsOf, List.filterMap_cons, List.filterMap_nil, putAll]
          go_simp
          rfl
        repeat
          refine LexI.const TZ.rf ?_
          apply Exists.intro
          refine ⟨fun n' ys w' hn' hT hd => ?_, ?_⟩
          · try simp [DepsOf, depsGo, DF.holds, Region.binds, EqF] at hd
            obtain ⟨_, y0, y1, y2, y3, y4, y5, y6, y7⟩ := HC.out n' w' hT
            intro Q2 hQ2
            go_wp2_with fail
            rfl
          try simp only [List.nil_append, List.cons_append]
        refine LexI.some (EqF (.tuple #[vSg R, .int .i64 E])) (EqF.st) (fun n' ys w' hn' hT hd => ?_) ?_
        · try simp [DepsOf, depsGo, DF.holds, Region.binds, EqF] at hd
          try simp only [hd]
          have hbw := (HC.out n' w' hT).1
          intro Q2 hQ2
          go_wp2_with fail
          refine (rShow g.t g.A g.n g.c g.l u x w' (HM5.out.1.below hbw (Nat.le_refl _)) HM5.out.2.1 HM5.out.2.2).mono ?_
          rintro e wU ⟨rfl, hU⟩
          go_wp2
          exact ⟨_, rfl, TZ.of hU, by unfold EqF; rw [HRE.out.1, HRE.out.2]⟩
        try simp only [List.nil_append, List.cons_append]
        repeat
          refine LexI.const TZ.rf ?_
          apply Exists.intro
          refine ⟨fun n' ys w' hn' hT hd => ?_, ?_⟩
          · try simp [DepsOf, depsGo, DF.holds, Region.binds, EqF] at hd
            obtain ⟨_, y0, y1, y2, y3, y4, y5, y6, y7⟩ := HC.out n' w' hT
            intro Q2 hQ2
            go_wp2_with fail
            rfl
          try simp only [List.nil_append, List.cons_append]
        refine LexI.some (PtZ w5.heap.size (sgObj ⟨0, false, false, 0, 0⟩) (sgObj R)) (PtZ.st) (fun n' ys w' hn' hT hd => ?_) ?_
        · try simp [DepsOf, depsGo, DF.holds, Region.binds, EqF] at hd
          try simp only [hd]
          have hbw := (HC.out n' w' hT).1.size
          intro Q2 hQ2
          go_wp2_with fail
          exact PtZ.new _ hbw
        try simp only [List.nil_append, List.cons_append]
        refine LexI.ref 21 (PtT w5.heap.size (sgObj R)) (PtT.st) rfl rfl (fun n' ys w' hn' hT hd => ?_) ?_
        · try simp [DepsOf, depsGo, DF.holds, Region.binds, EqF] at hd
          try simp only [hd]
          obtain ⟨⟨kz, hy, hkz, ho⟩, h86, -⟩ := hd
          unfold vSg at h86 ⊢
          obtain ⟨s', hs'⟩ : ∃ s' : Sg, w'.heap[kz]? = some (sgObj s') := by rcases ho with ho | ho <;> exact ⟨_, ho⟩
          obtain ⟨z0, z1, z2, z3, z4⟩ := blk5 hs'
          obtain ⟨f0, f1, f2, f3, f4⟩ := And.intro (frz hs' 0) (And.intro (frz hs' 1) (And.intro (frz hs' 2) (And.intro (frz hs' 3) (frz hs' 4))))
          have HZ := Lib.hid (And.intro ho hs')
          clear ho hs'
          intro Q2 hQ2
          go_wp2_with fail
          exact sg_put hkz HZ.out
        try simp only [List.nil_append, List.cons_append]
        repeat
          refine LexI.const TZ.rf ?_
          apply Exists.intro
          refine ⟨fun n' ys w' hn' hT hd => ?_, ?_⟩
          · try simp [DepsOf, depsGo, DF.holds, Region.binds, EqF] at hd
            obtain ⟨_, y0, y1, y2, y3, y4, y5, y6, y7⟩ := HC.out n' w' hT
            intro Q2 hQ2
            go_wp2_with fail
            rfl
          try simp only [List.nil_append, List.cons_append]
        refine hK _ (fun n' ys w8 hn' hT hF => ?_)
        simp only [AllF, DF.holds] at hF
        obtain ⟨-, -, -, -, -, -, -, -, -, -, -, -, -, -, -, -, -, ⟨k21, e21, hk21, hb21⟩, e22, -⟩ := hF
        simp only [e21, e22]
        have hb8 := hT.below (Nat.le_refl _)
        replace hm3 := hm3.below hb8 (Nat.le_refl _)
        replace hb19 := bheap hb19 hb8 (Nat.le_refl _)
        have a8 := bheap a5 hb8 (Nat.le_refl _)
        replace g0 := bcell g0 hb8 (Nat.le_refl _)
        replace g1 := bcell g1 hb8 (Nat.le_refl _)
        have hbr8 := hbr5.trans (hb8.mono hbr5.size)
        clear hb8 hbr5 a5 hT HC e21 e22 x0 x1 x2 x3 x4 u0
        have hgm8 := (HGO.out.below hbr8 (Nat.le_refl _)).m
        obtain ⟨hgc, hgx⟩ := And.intro HGO.out.nc HGO.out.cm
        obtain ⟨p0, p1⟩ := blk2 a8
        obtain ⟨v0, v1, v2, v3, v4⟩ := blk5 hb19
        obtain ⟨u0, u1, u2, u3, u4⟩ := blk5 hb21
        obtain ⟨CK, hCK⟩ : ∃ CK, CK = check g.t g.l := ⟨_, rfl⟩
        have cK : ∀ d os, Calls Try.prog 23 #[.agg #[.int .i64 g.t, .slice A3 g.l.length c3]] (Sort.grow (redrawn w8 d) os) (fun e w'' => e = .returned (.int .i64 CK) ∧ ∃ p : Regrown, w'' = Sort.grow (redrawn w8 p.d) p.os) := fun d os => by
          have h := check_any g.t A3 g.l.length c3 g.l (Sort.grow (redrawn w8 d) os) (hm3.below (below_regrown w8 d os) (Nat.le_refl _)) HM.out.2.1 HM.out.2.2
          rw [← hCK] at h
          exact Calls.regrown_of h
        have cS : ∀ d os, Calls Try.prog 24 #[.agg #[.int .i64 g.t, .slice g.A g.n g.c]] (Sort.grow (redrawn w8 d) os) (fun e w'' => e = .returned (.int .i64 CK) ∧ ∃ p : Regrown, w'' = Sort.grow (redrawn w8 p.d) p.os) := fun d os => by
          have h := rCheck g.t g.A g.n g.c g.l (Sort.grow (redrawn w8 d) os) (hgm8.below (below_regrown w8 d os) (Nat.le_refl _)) hgc hgx
          rw [← hCK] at h
          exact Calls.regrown_of h
        have cR : ∀ d os, Calls Try.prog 25 #[.agg #[.int .i64 g.t, .slice A3 g.l.length c3], .agg #[.int .i64 g.t, .slice g.A g.n g.c]] (Sort.grow (redrawn w8 d) os) (fun e w'' => e = .returned (.bool true) ∧ ∃ p : Regrown, w'' = Sort.grow (redrawn w8 p.d) p.os) := fun d os => by
          have h := sameRegisters_any g.t g.t A3 g.l.length c3 g.l g.A g.n g.c g.l (Sort.grow (redrawn w8 d) os) (hm3.below (below_regrown w8 d os) (Nat.le_refl _)) (hgm8.below (below_regrown w8 d os) (Nat.le_refl _)) (Nat.le_trans HM.out.2.1 HM.out.2.2) (Nat.le_trans hgc hgx)
          rw [show (decide (g.t = g.t) && sameL g.l g.l) = true by simp [sameL]] at h
          exact Calls.regrown_of h
        have HC := Lib.hid (And.intro cK (And.intro cS cR))
        have j0 : (CK != CK) = false := by simp
        have j1 : (E != E) = false := by simp
        clear cK cS cR hgm8 hm3 hCK hb19 hb21 a8
        go_upto_region 14 with (fail)
        have z0 := cell_regrown p0
        have z1 := cell_regrown p1
        have z2 := cell_regrown g0
        have z3 := cell_regrown g1
        have z4 := And.intro (cell_regrown v0) (And.intro (cell_regrown v1) (And.intro (cell_regrown v2) (And.intro (cell_regrown v3) (cell_regrown v4))))
        have z5 := And.intro (cell_regrown u0) (And.intro (cell_regrown u1) (And.intro (cell_regrown u2) (And.intro (cell_regrown u3) (cell_regrown u4))))
        clear p0 p1 g0 g1 v0 v1 v2 v3 v4 u0 u1 u2 u3 u4
        refine wp_region_quiet_below (by kernel_rfl) (by kernel_rfl) ?_
        repeat (quiet_step (first | exact HC.out.1 _ _ | exact HC.out.2.1 _ _ | exact HC.out.2.2 _ _))
        refine wpQuiet_nil ?_
        intro _ hw'
        obtain ⟨⟨dq, osq⟩, hw''⟩ := hw'
        subst hw''
        obtain ⟨W9, hW9⟩ : ∃ W9, W9 = Sort.grow (redrawn w8 dq) osq := ⟨_, rfl⟩
        have hB9 : Below w8.heap.size w8 W9 := by rw [hW9]; exact below_regrown w8 dq osq
        rw [← hW9]
        clear hW9 z0 z1 z2 z3 z4 z5
        go_wp2
        go_roundg (gk - 1)
        case measure => have := HK.out; omega
        case rel => exact ⟨k + 1, by have := HK.out; omega, by go_num, hbr8.trans (hB9.mono hbr8.size)⟩
      · obtain rfl : k = 4 := by omega
        go_wp2_with fail
        refine (marking_any _).mono ?_
        rintro e w3 ⟨rfl, hb3⟩
        go_wp2
        go_ret
        have hBx := HRS.out.2.2.2.2
        have hBr := hBx.trans (hbr.mono hBx.size)
        exact ⟨rfl, hBr.trans (hb3.mono hBr.size)⟩
end Go.Proofs.Ytahlicinchehhaa
