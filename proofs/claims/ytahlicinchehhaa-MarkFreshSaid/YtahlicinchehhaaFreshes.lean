/- mestalaw03.MarkFresh returns true. -/
import Derived.Test.YtahlicinchehhaaMarking
import Derived.Test.YtahlicinchehhaaRegs
import Derived.Test.YtahlicinchehhaaRefFresh
import Derived.Test.YtahlicinchehhaaDraw
import Derived.Test.YtahlicinchehhaaRegOf
namespace Go.Proofs.Ytahlicinchehhaa
open Go.RowKit
set_option linter.unusedVariables false
set_option linter.unusedSimpArgs false

/-- a valid register that the hand has dealt -/
def RgIs (H : Nat) (t : Int) (l : List Mk) (A : Option Addr) (c : Nat) (w : World) : Prop := check t l = 0 ∧ l.length ≤ 5 ∧ Marks w A l.length l ∧ l.length ≤ c ∧ c ≤ maxLen ∧ (A = none → c = 0) ∧ OffH A H
theorem RgIs.st {H : Nat} {t : Int} {l : List Mk} {A : Option Addr} {c m : Nat} {w w' : World} (h : RgIs H t l A c w) (hT : TH H m w w') : RgIs H t l A c w' :=
  ⟨h.1, h.2.1, Sl.gb h.2.2.1 hT.1 h.2.2.2.2.2.2, h.2.2.2⟩
def RgF (H : Nat) : VF := fun v w => ∃ t l A c, v = .agg #[.int .i64 t, .slice A l.length c] ∧ RgIs H t l A c w
theorem RgF.st {H : Nat} : ∀ m v w w', TH H m w w' → RgF H v w → RgF H v w' := fun m v w w' h ⟨t, l, A, c, h1, h2⟩ => ⟨t, l, A, c, h1, h2.st h⟩
theorem RgF.of {w w' : World} {H N o : Nat} {t : Int} {l : List Mk} {A : Option Addr} {c : Nat} (hH : H < w.heap.size) (ho : o ≤ 5) (h1 : check t l = 0) (h2 : l.length ≤ o) (h3 : OwnM w' w.heap.size (.slice A l.length c) l) : RgF H (.agg #[.int .i64 t, .slice A l.length c]) w' := by
  obtain ⟨A', c', hv, h4, h5, h6, h7⟩ := own_shape h3 lenMk
  cases hv
  exact ⟨t, l, A, c, rfl, h1, by omega, h4, h5, h6, h7, fun b off e => by have := h3.lt b (by rw [e]; rfl); omega⟩
/-- the two registers -/
def RgsF (H : Nat) (v0 v1 : Value) : VF := fun v w => ∃ b t l A c, v = .slice (some ⟨b, 0, none⟩) 2 2 ∧ b ≠ H ∧ w.heap[b]? = some (.cells #[v0, v1, .int .i64 t, .slice A l.length c] 24 (0, 0)) ∧ RgIs H t l A c w
theorem RgsF.st {H : Nat} {v0 v1 : Value} : ∀ m v w w', TH H m w w' → RgsF H v0 v1 v w → RgsF H v0 v1 v w' := fun m v w w' h ⟨b, t, l, A, c, h1, h2, h3, h4⟩ => ⟨b, t, l, A, c, h1, h2, h.blk h2 h3, h4.st h⟩
theorem RgsF.new {H : Nat} {v0 v1 : Value} {w : World} {t : Int} {l : List Mk} {A : Option Addr} {c : Nat} (hH : H < w.heap.size) (h : RgIs H t l A c w) :
    TH H 1 w (w.alloc (.cells #[v0, v1, .int .i64 t, .slice A l.length c] 24)) ∧ RgsF H v0 v1 (.slice (some ⟨w.heap.size, 0, none⟩) 2 2) (w.alloc (.cells #[v0, v1, .int .i64 t, .slice A l.length c] 24)) :=
  ⟨TH.al _ _, w.heap.size, t, l, A, c, rfl, by omega, heap_alloc_new w _, h.st (TH.al w _)⟩

set_option maxRecDepth 100000 in
set_option maxHeartbeats 4000000 in
theorem MarkFresh_any (t : Int) (A : Option Addr) (n c : Nat) (l : List Mk) (o : Int) (A0 : Option Addr) (n0 c0 : Nat) (nums : List Int) (w : World) (hlm : Marks w A n l) (hnc : n ≤ c) (hcmx : c ≤ maxLen) (hzn : A = none → c = 0) (hl : Ints w A0 n0 nums) (hn0 : n0 ≤ 9223372036854775807) :
    Calls Try.prog 4 #[.agg #[.int .i64 t, .slice A n c], .int .i64 o, .slice A0 n0 c0] w fun e w' => e = .returned (.bool true) ∧ Below w.heap.size w w' := by
  have hg20 : n ≤ 9223372036854775807 := Nat.le_trans hnc hcmx
  have HG := Lib.hid (show n ≤ 4294967295 → RgOk w ⟨t, A, n, c, l⟩ from fun h => ⟨hlm, hnc, hcmx, hzn, h⟩)
  have HN := Lib.hid hl
  clear hlm hnc hcmx hzn hl
  go_enter Try.func4, Try.ntmps4
  go_upto_region 1 with (fail)
  obtain ⟨W0, hW⟩ : ∃ W0, W0 = w.alloc (Obj.cells #[Value.int .i64 t, .slice A n c] 24) := ⟨_, rfl⟩
  rw [← hW]
  have hB0 : Below w.heap.size w W0 := by rw [hW]; exact bal0 w _
  have a0 : W0.heap[w.heap.size]? = some (Obj.cells #[Value.int .i64 t, .slice A n c] 24 (0, 0)) := by rw [hW]; exact alloc_at rfl
  have hz0 : w.heap.size < W0.heap.size := heap_lt a0
  clear hW
  obtain ⟨r0, r1⟩ := blk2 a0
  by_cases h20 : 20 < n
  · have h1 : decide ((20 : Int) < (n : Int)) = true := by simp; omega
    go_wp2_with fail
    refine (marking_any _).mono ?_
    rintro e w3 ⟨rfl, hb3⟩
    go_wp2
    go_ret
    exact ⟨rfl, hB0.trans (hb3.mono hB0.size)⟩
  · have h1 : decide ((20 : Int) < (n : Int)) = false := by simp; omega
    go_wp2_with fail
    refine (newHand_any A0 n0 c0 nums _ (HN.out.below hB0 (Nat.le_refl _)) hn0).mono ?_
    rintro e W ⟨rfl, hh, hb1, hz1⟩
    have a0W := bheap a0 hb1 (Nat.le_refl _)
    have hBW := hB0.trans (hb1.mono hB0.size)
    clear r0 r1 a0 hb1 hB0 hz1
    go_upto_region 4 with (fail)
    obtain ⟨r0, r1⟩ := blk2 a0W
    have HC : Hid (∀ k w', TH W0.heap.size k W w' → w'.cell? ⟨w.heap.size, 0, none⟩ = some (.int .i64 t) ∧ w'.cell? ⟨w.heap.size, 1, none⟩ = some (.slice A n c)) :=
      Lib.hid fun k w' h => ⟨gb_cell h.1 (by omega) r0, gb_cell h.1 (by omega) r1⟩
    have HH := Lib.hid (And.intro hh hh.lt)
    have HO := Lib.hid hBW
    clear r0 r1 hBW hh
    refine wp_region_inv (TH W0.heap.size) (by kernel_rfl) (by kernel_rfl) TH.tr (TH.draw _) ?_
    apply Exists.intro
    refine ⟨fun ys => ?_, fun ops K hK => ?_⟩
    · simp only [dstsOf, List.filterMap_cons, List.filterMap_nil, putAll]
      go_simp
      rfl
    repeat
      refine LexI.const TH.rf ?_
      apply Exists.intro
      refine ⟨fun n' ys w' hn' hT hd => ?_, ?_⟩
      · try simp [DepsOf, depsGo, DF.holds, Region.binds, EqF] at hd
        obtain ⟨y0, y1⟩ := HC.out n' w' hT
        intro Q2 hQ2
        go_wp2_with fail
        rfl
      try simp only [List.nil_append, List.cons_append]
    -- the register dealt
    refine LexI.some (RgF W0.heap.size) (RgF.st) (fun n' ys w' hn' hT hd => ?_) ?_
    · try simp [DepsOf, depsGo, DF.holds, Region.binds, EqF] at hd
      try simp only [hd]
      intro Q2 hQ2
      obtain ⟨N0, hN0, hN1, hN2⟩ := (hT.2 _ HH.out.1).least
      have hl := (hT.2 _ HH.out.1).lt
      go_wp2_with fail
      refine (registerOf_any W0.heap.size N0 4 w' hN1 (by omega) (by omega)).mono ?_
      rintro e wU ⟨t2, l2, A2, c2, rfl, hck, hl5, hown, hms, hlc, hcm, hd2⟩
      have HX := Lib.hid (And.intro (TH.of hN2 hd2 (by omega)) (RgF.of (o := 4) (N := N0) hl (by omega) hck hl5 hown))
      clear hck hl5 hown hms hlc hcm hd2
      go_wp2
      exact ⟨_, rfl, HX.out⟩
    try simp only [List.nil_append, List.cons_append]
    -- the registers
    refine LexI.some (RgsF W0.heap.size (.int .i64 t) (.slice A n c)) (RgsF.st) (fun n' ys w' hn' hT hd => ?_) ?_
    · try simp [DepsOf, depsGo, DF.holds, Region.binds, EqF] at hd
      try simp only [hd]
      obtain ⟨h1, t2, l2, A2, c2, h2, hrg⟩ := hd
      intro Q2 hQ2
      have hl := (hT.2 _ HH.out.1).lt
      have HX := Lib.hid hrg
      clear hrg
      go_wp2_with fail
      exact RgsF.new hl HX.out
    try simp only [List.nil_append, List.cons_append]
    repeat
      refine LexI.const TH.rf ?_
      apply Exists.intro
      refine ⟨fun n' ys w' hn' hT hd => ?_, ?_⟩
      · try simp [DepsOf, depsGo, DF.holds, Region.binds, EqF] at hd
        obtain ⟨y0, y1⟩ := HC.out n' w' hT
        intro Q2 hQ2
        go_wp2_with fail
        rfl
      try simp only [List.nil_append, List.cons_append]
    refine LexI.some (SlF W0.heap.size 3 4 (fun cs => cs = #[Value.int .i64 1, .int .i64 2, .int .i64 2, .int .i64 3])) (SlF.st) (fun n' ys w' hn' hT hd => ?_) ?_
    · try simp [DepsOf, depsGo, DF.holds, Region.binds, EqF] at hd
      try simp only [hd]
      intro Q2 hQ2
      have hl := (hT.2 _ HH.out.1).lt
      go_wp2_with fail
      exact SlF.new hl rfl
    try simp only [List.nil_append, List.cons_append]
    refine LexI.some (NatF) (NatF.st) (fun n' ys w' hn' hT hd => ?_) ?_
    · try simp [DepsOf, depsGo, DF.holds, Region.binds, EqF] at hd
      try simp only [hd]
      obtain ⟨h1, ⟨b3, cs3, h2, hb3, hbb, rfl⟩, _⟩ := hd
      simp only [h2]
      intro Q2 hQ2
      obtain ⟨N0, hN0, hN1, hN2⟩ := (hT.2 _ HH.out.1).least
      have hI : Ints w' (some ⟨b3, 0, none⟩) 4 [1, 2, 2, 3] := Sl.of_blk hbb rfl lenInt
      clear hbb
      go_wp2_with fail
      refine (of_any W0.heap.size N0 0 (some ⟨b3, 0, none⟩) 4 4 [1, 2, 2, 3] w' hN1 (by omega) hI (fun b off e => by cases e; exact hb3) (by omega)).mono ?_
      rintro e wU ⟨k, rfl, hk, hU⟩
      have HX := Lib.hid (And.intro (TH.of hN2 hU (by omega)) (show NatF (.int .i64 k) wU from ⟨k.toNat, by
        have : 0 ≤ k := by rcases hk with rfl | hk; · omega
                           · simp at hk; omega
        rw [Int.toNat_of_nonneg this]⟩))
      clear hU hk
      go_wp2
      exact ⟨_, rfl, HX.out⟩
    try simp only [List.nil_append, List.cons_append]
    refine LexI.some (SlF W0.heap.size 3 2 (fun cs => ∃ k : Nat, cs = #[Value.int .i64 o, .int .i64 k])) (SlF.st) (fun n' ys w' hn' hT hd => ?_) ?_
    · try simp [DepsOf, depsGo, DF.holds, Region.binds, EqF] at hd
      try simp only [hd]
      obtain ⟨h1, k, h2⟩ := hd
      intro Q2 hQ2
      have hl := (hT.2 _ HH.out.1).lt
      go_wp2_with fail
      exact SlF.new hl ⟨k, rfl⟩
    try simp only [List.nil_append, List.cons_append]
    refine LexI.some (RgsF W0.heap.size (.int .i64 t) (.slice A n c)) (RgsF.st) (fun n' ys w' hn' hT hd => ?_) ?_
    · try simp [DepsOf, depsGo, DF.holds, Region.binds, EqF] at hd
      try simp only [hd]
      intro Q2 hQ2
      go_wp2_with fail
      exact TH.rf _
    try simp only [List.nil_append, List.cons_append]
    refine LexI.some (SlF W0.heap.size 3 2 (fun cs => ∃ k : Nat, cs = #[Value.int .i64 o, .int .i64 k])) (SlF.st) (fun n' ys w' hn' hT hd => ?_) ?_
    · try simp [DepsOf, depsGo, DF.holds, Region.binds, EqF] at hd
      try simp only [hd]
      intro Q2 hQ2
      go_wp2_with fail
      exact TH.rf _
    try simp only [List.nil_append, List.cons_append]
    refine hK _ (fun n' ys wc hn' hT hF => ?_)
    simp only [AllF, DF.holds] at hF
    obtain ⟨-, -, -, -, -, -, -, -, -, ⟨q1, t2, l2, A2, c2, e8, hq1, hb1, hrg⟩, ⟨q2, cs2, e9, hq2, hb2, k1, rfl⟩, -⟩ := hF
    have hgr := hT.1
    have hBx : Below w.heap.size w wc := HO.out.grown hgr HO.out.size (fun k hk => by cases hk; omega)
    have hRs : Sl eRg 2 wc (some ⟨q1, 0, none⟩) 2 [⟨t, A, n, c, l⟩, ⟨t2, A2, l2.length, c2, l2⟩] := Sl.of_blk hb1 rfl lenRg
    have hOs : Ints wc (some ⟨q2, 0, none⟩) 2 [o, k1] := Sl.of_blk hb2 rfl lenInt
    have hr0 : RgOk wc ⟨t, A, n, c, l⟩ := (HG.out (by omega)).below hBx (Nat.le_refl _)
    have hr1 : RgOk wc ⟨t2, A2, l2.length, c2, l2⟩ := ⟨hrg.2.2.1, hrg.2.2.2.1, hrg.2.2.2.2.1, hrg.2.2.2.2.2.1, by have := hrg.2.1; dsimp; omega⟩
    obtain ⟨R, hR⟩ : ∃ R : List Rg, R = [⟨t, A, n, c, l⟩, ⟨t2, A2, l2.length, c2, l2⟩] := ⟨_, rfl⟩
    have hok : ∀ g ∈ R, RgOk wc g := by
      rw [hR]
      intro g hg
      simp only [List.mem_cons, List.not_mem_nil, or_false] at hg
      rcases hg with rfl | rfl <;> assumption
    rw [← hR] at hRs
    obtain ⟨OO, hOO⟩ : ∃ OO : List Int, OO = [o, k1] := ⟨_, rfl⟩
    rw [← hOO] at hOs
    have HRS := Lib.hid (And.intro hRs (And.intro hOs (And.intro hok hBx)))
    simp only [e8, e9]
    clear hRs hOs hok hBx hR hOO hr0 hr1 hgr e8 e9 hb1 hb2 hT hq1 hq2 hrg HC HH a0W
    go_wp2_with fail
    go_loopg [10] 2 (fun g i wr => ∃ k : Nat, k + g = 2 ∧ i = .int .i64 k ∧ Below wc.heap.size wc wr)
    case atStart => exact ⟨0, rfl, rfl, Below.refl _ _⟩
    case round =>
      obtain ⟨k, hk, rfl, hbr⟩ := hrel
      have HK := Lib.hid hk
      have hk4 : k ≤ 2 := by omega
      clear hk
      by_cases hlt : k < 2
      · obtain ⟨b1, f1, g, h1, hb1, hg, g0, g1⟩ := Regs.get (HRS.out.1.below hbr (Nat.le_refl _)) hlt
        cases h1
        obtain ⟨b2, f2, u, h2, hb2, hu, u0⟩ := Ints.get (HRS.out.2.1.below hbr (Nat.le_refl _)) hlt
        cases h2
        rw [Nat.zero_add] at g0 g1 u0
        have hgo : RgOk wc g := HRS.out.2.2.1 g (List.mem_of_getElem? hg)
        have hgr := hgo.below hbr (Nat.le_refl _)
        have HGO := Lib.hid hgo
        clear hgo hg hu
        have i0 : (0 : Int) ≤ (k : Int) := by omega
        have i1 : (k : Int) < 2 := by omega
        go_wp2_with fail
        refine (copyRegister_any g.t g.A g.n g.c g.l _ hgr.m hgr.z hgr.s).mono ?_
        rintro e w7 ⟨⟨A3, c3, rfl, hown3, hm3, hlc3, hcm3, hz3⟩, hb3w⟩
        have hbr3 := hbr.trans (hb3w.mono hbr.size)
        replace g0 := bcell g0 hb3w (Nat.le_refl _)
        replace g1 := bcell g1 hb3w (Nat.le_refl _)
        replace u0 := bcell u0 hb3w (Nat.le_refl _)
        clear hown3 hgr hbr hb3w hz3
        go_upto_region 9 with (fail)
        obtain ⟨W4, hW4⟩ : ∃ W4, W4 = w7.alloc (Obj.cells #[Value.int .i64 g.t, .slice A3 g.l.length c3] 24) := ⟨_, rfl⟩
        rw [← hW4]
        have a4 : W4.heap[w7.heap.size]? = some (Obj.cells #[Value.int .i64 g.t, .slice A3 g.l.length c3] 24 (0, 0)) := by rw [hW4]; exact alloc_at rfl
        have hb4 : Below w7.heap.size w7 W4 := by rw [hW4]; exact bal0 w7 _
        clear hW4
        replace hm3 := hm3.below hb4 (Nat.le_refl _)
        replace g0 := bcell g0 hb4 (Nat.le_refl _)
        replace g1 := bcell g1 hb4 (Nat.le_refl _)
        replace u0 := bcell u0 hb4 (Nat.le_refl _)
        have hbr4 := hbr3.trans (hb4.mono hbr3.size)
        clear hb4 hbr3
        obtain ⟨p0, p1⟩ := blk2 a4
        obtain ⟨R, hR⟩ : ∃ R, R = freshM g.t g.l u := ⟨_, rfl⟩
        obtain ⟨E, hE⟩ : ∃ E, E = freshE g.t g.l u := ⟨_, rfl⟩
        have HRE := Lib.hid (And.intro hR hE)
        clear hR hE
        have HC : Hid (∀ k' w', TZ W4.heap.size (mkObj ⟨0, 0, 0⟩) (mkObj R) k' W4 w' → Below W4.heap.size W4 w' ∧ w'.cell? ⟨w7.heap.size, 0, none⟩ = some (.int .i64 g.t) ∧ w'.cell? ⟨w7.heap.size, 1, none⟩ = some (.slice A3 g.l.length c3) ∧
            w'.cell? ⟨q2, k, none⟩ = some (.int .i64 u)) :=
          Lib.hid fun k' w' h => by
            have hb := h.below (Nat.le_refl _)
            exact ⟨hb, bcell p0 hb (Nat.le_refl _), bcell p1 hb (Nat.le_refl _), bcell u0 hb (Nat.le_refl _)⟩
        have HM := Lib.hid (And.intro hm3 (And.intro hlc3 hcm3))
        refine wp_region_inv (TZ W4.heap.size (mkObj ⟨0, 0, 0⟩) (mkObj R)) (by kernel_rfl) (by kernel_rfl) TZ.tr (TZ.draw _) ?_
        apply Exists.intro
        refine ⟨fun ys => ?_, fun ops K hK => ?_⟩
        · simp only [dstsOf, List.filterMap_cons, List.filterMap_nil, putAll]
          go_simp
          rfl
        repeat
          refine LexI.const TZ.rf ?_
          apply Exists.intro
          refine ⟨fun n' ys w' hn' hT hd => ?_, ?_⟩
          · try simp [DepsOf, depsGo, DF.holds, Region.binds, EqF] at hd
            obtain ⟨_, y0, y1, y2⟩ := HC.out n' w' hT
            intro Q2 hQ2
            go_wp2_with fail
            rfl
          try simp only [List.nil_append, List.cons_append]
        refine LexI.some (EqF (.tuple #[vMk R, .int .i64 E])) (EqF.st) (fun n' ys w' hn' hT hd => ?_) ?_
        · try simp [DepsOf, depsGo, DF.holds, Region.binds, EqF] at hd
          try simp only [hd]
          have hbw := (HC.out n' w' hT).1
          intro Q2 hQ2
          go_wp2_with fail
          refine (Fresh_any g.t u A3 g.l.length c3 g.l w' (HM.out.1.below hbw (Nat.le_refl _)) HM.out.2.1 HM.out.2.2).mono ?_
          rintro e wU ⟨rfl, hU⟩
          go_wp2
          exact ⟨_, rfl, TZ.of hU, by unfold EqF; rw [HRE.out.1, HRE.out.2]⟩
        try simp only [List.nil_append, List.cons_append]
        repeat
          refine LexI.const TZ.rf ?_
          apply Exists.intro
          refine ⟨fun n' ys w' hn' hT hd => ?_, ?_⟩
          · try simp [DepsOf, depsGo, DF.holds, Region.binds, EqF] at hd
            obtain ⟨_, y0, y1, y2⟩ := HC.out n' w' hT
            intro Q2 hQ2
            go_wp2_with fail
            rfl
          try simp only [List.nil_append, List.cons_append]
        refine LexI.some (PtZ W4.heap.size (mkObj ⟨0, 0, 0⟩) (mkObj R)) (PtZ.st) (fun n' ys w' hn' hT hd => ?_) ?_
        · try simp [DepsOf, depsGo, DF.holds, Region.binds, EqF] at hd
          try simp only [hd]
          have hbw := (HC.out n' w' hT).1.size
          intro Q2 hQ2
          go_wp2_with fail
          exact PtZ.new _ hbw
        try simp only [List.nil_append, List.cons_append]
        refine LexI.ref 12 (PtT W4.heap.size (mkObj R)) (PtT.st) rfl rfl (fun n' ys w' hn' hT hd => ?_) ?_
        · try simp [DepsOf, depsGo, DF.holds, Region.binds, EqF] at hd
          try simp only [hd]
          obtain ⟨⟨kz, hy, hkz, ho⟩, h86, -⟩ := hd
          unfold vMk at h86 ⊢
          obtain ⟨s', hs'⟩ : ∃ s' : Mk, w'.heap[kz]? = some (mkObj s') := by rcases ho with ho | ho <;> exact ⟨_, ho⟩
          obtain ⟨z0, z1, z2⟩ := blk3 hs'
          obtain ⟨f0, f1, f2⟩ := And.intro (frz hs' 0) (And.intro (frz hs' 1) (frz hs' 2))
          have HZ := Lib.hid (And.intro ho hs')
          clear ho hs'
          intro Q2 hQ2
          go_wp2_with fail
          exact mk_put hkz HZ.out
        try simp only [List.nil_append, List.cons_append]
        repeat
          refine LexI.const TZ.rf ?_
          apply Exists.intro
          refine ⟨fun n' ys w' hn' hT hd => ?_, ?_⟩
          · try simp [DepsOf, depsGo, DF.holds, Region.binds, EqF] at hd
            obtain ⟨_, y0, y1, y2⟩ := HC.out n' w' hT
            intro Q2 hQ2
            go_wp2_with fail
            rfl
          try simp only [List.nil_append, List.cons_append]
        refine hK _ (fun n' ys w5 hn' hT hF => ?_)
        simp only [AllF, DF.holds] at hF
        obtain ⟨-, -, -, -, -, -, -, -, -, -, ⟨k19, e19, hk19, hb19⟩, e20, -⟩ := hF
        simp only [e19, e20]
        have hb5 := hT.below (Nat.le_refl _)
        replace hm3 := HM.out.1.below hb5 (Nat.le_refl _)
        have a5 := bheap a4 hb5 (Nat.le_refl _)
        replace g0 := bcell g0 hb5 (Nat.le_refl _)
        replace g1 := bcell g1 hb5 (Nat.le_refl _)
        replace u0 := bcell u0 hb5 (Nat.le_refl _)
        have hbr5 := hbr4.trans (hb5.mono hbr4.size)
        clear hb5 hbr4 a4 p0 p1 hT HC e19 e20
        have hgm5 := (HGO.out.below hbr5 (Nat.le_refl _)).m
        have HM5 := Lib.hid (And.intro hgm5 (And.intro HGO.out.nc HGO.out.cm))
        clear hgm5
        go_upto_region 10 with (fail)
        have HC : Hid (∀ k' w', TZ w5.heap.size (mkObj ⟨0, 0, 0⟩) (mkObj R) k' w5 w' → Below w5.heap.size w5 w' ∧ w'.cell? ⟨q1, k * 2, none⟩ = some (.int .i64 g.t) ∧ w'.cell? ⟨q1, k * 2 + 1, none⟩ = some (.slice g.A g.n g.c) ∧
            w'.cell? ⟨q2, k, none⟩ = some (.int .i64 u)) :=
          Lib.hid fun k' w' h => by
            have hb := h.below (Nat.le_refl _)
            exact ⟨hb, bcell g0 hb (Nat.le_refl _), bcell g1 hb (Nat.le_refl _), bcell u0 hb (Nat.le_refl _)⟩
        refine wp_region_inv (TZ w5.heap.size (mkObj ⟨0, 0, 0⟩) (mkObj R)) (by kernel_rfl) (by kernel_rfl) TZ.tr (TZ.draw _) ?_
        apply Exists.intro
        refine ⟨fun ys => ?_, fun ops K hK => ?_⟩
        · simp only [dstsOf, List.filterMap_cons, List.filterMap_nil, putAll]
          go_simp
          rfl
        repeat
          refine LexI.const TZ.rf ?_
          apply Exists.intro
          refine ⟨fun n' ys w' hn' hT hd => ?_, ?_⟩
          · try simp [DepsOf, depsGo, DF.holds, Region.binds, EqF] at hd
            obtain ⟨_, y0, y1, y2⟩ := HC.out n' w' hT
            intro Q2 hQ2
            go_wp2_with fail
            rfl
          try simp only [List.nil_append, List.cons_append]
        refine LexI.some (EqF (.tuple #[vMk R, .int .i64 E])) (EqF.st) (fun n' ys w' hn' hT hd => ?_) ?_
        · try simp [DepsOf, depsGo, DF.holds, Region.binds, EqF] at hd
          try simp only [hd]
          have hbw := (HC.out n' w' hT).1
          intro Q2 hQ2
          go_wp2_with fail
          refine (rFresh g.t u g.A g.n g.c g.l w' (HM5.out.1.below hbw (Nat.le_refl _)) HM5.out.2.1 HM5.out.2.2).mono ?_
          rintro e wU ⟨rfl, hU⟩
          go_wp2
          exact ⟨_, rfl, TZ.of hU, by unfold EqF; rw [HRE.out.1, HRE.out.2]⟩
        try simp only [List.nil_append, List.cons_append]
        repeat
          refine LexI.const TZ.rf ?_
          apply Exists.intro
          refine ⟨fun n' ys w' hn' hT hd => ?_, ?_⟩
          · try simp [DepsOf, depsGo, DF.holds, Region.binds, EqF] at hd
            obtain ⟨_, y0, y1, y2⟩ := HC.out n' w' hT
            intro Q2 hQ2
            go_wp2_with fail
            rfl
          try simp only [List.nil_append, List.cons_append]
        refine LexI.some (PtZ w5.heap.size (mkObj ⟨0, 0, 0⟩) (mkObj R)) (PtZ.st) (fun n' ys w' hn' hT hd => ?_) ?_
        · try simp [DepsOf, depsGo, DF.holds, Region.binds, EqF] at hd
          try simp only [hd]
          have hbw := (HC.out n' w' hT).1.size
          intro Q2 hQ2
          go_wp2_with fail
          exact PtZ.new _ hbw
        try simp only [List.nil_append, List.cons_append]
        refine LexI.ref 14 (PtT w5.heap.size (mkObj R)) (PtT.st) rfl rfl (fun n' ys w' hn' hT hd => ?_) ?_
        · try simp [DepsOf, depsGo, DF.holds, Region.binds, EqF] at hd
          try simp only [hd]
          obtain ⟨⟨kz, hy, hkz, ho⟩, h86, -⟩ := hd
          unfold vMk at h86 ⊢
          obtain ⟨s', hs'⟩ : ∃ s' : Mk, w'.heap[kz]? = some (mkObj s') := by rcases ho with ho | ho <;> exact ⟨_, ho⟩
          obtain ⟨z0, z1, z2⟩ := blk3 hs'
          obtain ⟨f0, f1, f2⟩ := And.intro (frz hs' 0) (And.intro (frz hs' 1) (frz hs' 2))
          have HZ := Lib.hid (And.intro ho hs')
          clear ho hs'
          intro Q2 hQ2
          go_wp2_with fail
          exact mk_put hkz HZ.out
        try simp only [List.nil_append, List.cons_append]
        repeat
          refine LexI.const TZ.rf ?_
          apply Exists.intro
          refine ⟨fun n' ys w' hn' hT hd => ?_, ?_⟩
          · try simp [DepsOf, depsGo, DF.holds, Region.binds, EqF] at hd
            obtain ⟨_, y0, y1, y2⟩ := HC.out n' w' hT
            intro Q2 hQ2
            go_wp2_with fail
            rfl
          try simp only [List.nil_append, List.cons_append]
        refine hK _ (fun n' ys w8 hn' hT hF => ?_)
        simp only [AllF, DF.holds] at hF
        obtain ⟨-, -, -, -, -, -, -, -, -, -, -, -, -, ⟨k21, e21, hk21, hb21⟩, e22, -⟩ := hF
        simp only [e21, e22]
        have hb8 := hT.below (Nat.le_refl _)
        replace hm3 := hm3.below hb8 (Nat.le_refl _)
        replace hb19 := bheap hb19 hb8 (Nat.le_refl _)
        have a8 := bheap a5 hb8 (Nat.le_refl _)
        replace g0 := bcell g0 hb8 (Nat.le_refl _)
        replace g1 := bcell g1 hb8 (Nat.le_refl _)
        have hbr8 := hbr5.trans (hb8.mono hbr5.size)
        clear hb8 hbr5 a5 hT HC e21 e22 u0
        have hgm8 := (HGO.out.below hbr8 (Nat.le_refl _)).m
        obtain ⟨hgc, hgx⟩ := And.intro HGO.out.nc HGO.out.cm
        obtain ⟨p0, p1⟩ := blk2 a8
        obtain ⟨v0, v1, v2⟩ := blk3 hb19
        obtain ⟨u0, u1, u2⟩ := blk3 hb21
        have cR : ∀ d os, Calls Try.prog 25 #[.agg #[.int .i64 g.t, .slice A3 g.l.length c3], .agg #[.int .i64 g.t, .slice g.A g.n g.c]] (Sort.grow (redrawn w8 d) os) (fun e w'' => e = .returned (.bool true) ∧ ∃ p : Regrown, w'' = Sort.grow (redrawn w8 p.d) p.os) := fun d os => by
          have h := sameRegisters_any g.t g.t A3 g.l.length c3 g.l g.A g.n g.c g.l (Sort.grow (redrawn w8 d) os) (hm3.below (below_regrown w8 d os) (Nat.le_refl _)) (hgm8.below (below_regrown w8 d os) (Nat.le_refl _)) (Nat.le_trans HM.out.2.1 HM.out.2.2) (Nat.le_trans hgc hgx)
          rw [show (decide (g.t = g.t) && sameL g.l g.l) = true by simp [sameL]] at h
          exact Calls.regrown_of h
        have HC := Lib.hid cR
        have j1 : (E != E) = false := by simp
        clear cR hgm8 hm3 hb19 hb21 a8
        go_upto_region 11 with (fail)
        have z0 := cell_regrown p0
        have z1 := cell_regrown p1
        have z2 := cell_regrown g0
        have z3 := cell_regrown g1
        have z4 := And.intro (cell_regrown v0) (And.intro (cell_regrown v1) (cell_regrown v2))
        have z5 := And.intro (cell_regrown u0) (And.intro (cell_regrown u1) (cell_regrown u2))
        clear p0 p1 g0 g1 v0 v1 v2 u0 u1 u2
        refine wp_region_quiet_below (by kernel_rfl) (by kernel_rfl) ?_
        repeat (quiet_step (exact HC.out _ _))
        refine wpQuiet_nil ?_
        intro _ hw'
        obtain ⟨⟨dq, osq⟩, hw''⟩ := hw'
        subst hw''
        obtain ⟨W9, hW9⟩ : ∃ W9, W9 = Sort.grow (redrawn w8 dq) osq := ⟨_, rfl⟩
        have hB9 : Below w8.heap.size w8 W9 := by rw [hW9]; exact below_regrown w8 dq osq
        rw [← hW9]
        clear hW9 z0 z1 z2 z3 z4 z5
        go_wp2
        go_roundg (gk - 1)
        case measure => have := HK.out; omega
        case rel => exact ⟨k + 1, by have := HK.out; omega, by go_num, hbr8.trans (hB9.mono hbr8.size)⟩
      · obtain rfl : k = 2 := by omega
        go_wp2_with fail
        refine (marking_any _).mono ?_
        rintro e w3 ⟨rfl, hb3⟩
        go_wp2
        go_ret
        have hBx := HRS.out.2.2.2
        have hBr := hBx.trans (hbr.mono hBx.size)
        exact ⟨rfl, hBr.trans (hb3.mono hBr.size)⟩
end Go.Proofs.Ytahlicinchehhaa
