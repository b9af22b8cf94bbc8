/- mestalaw03.MarkMays returns true. -/
import Derived.Test.YtahlicinchehhaaMarking
import Derived.Test.YtahlicinchehhaaRegs
import Derived.Test.YtahlicinchehhaaRefD
import Derived.Test.YtahlicinchehhaaQCall
namespace Go.Proofs.Ytahlicinchehhaa
open Go.RowKit
set_option linter.unusedVariables false
set_option linter.unusedSimpArgs false

set_option maxRecDepth 100000 in
set_option maxHeartbeats 4000000 in
theorem MarkMays_any (t : Int) (A : Option Addr) (n c : Nat) (l : List Mk) (s : Sg) (o : Int) (A0 : Option Addr) (n0 c0 : Nat) (nums : List Int) (w : World) (hlm : Marks w A n l) (hnc : n ≤ c) (hcmx : c ≤ maxLen) (hzn : A = none → c = 0) (hl : Ints w A0 n0 nums) (hn0 : n0 ≤ 9223372036854775807) :
    Calls Try.prog 10 #[.agg #[.int .i64 t, .slice A n c], vSg s, .int .i64 o, .slice A0 n0 c0] w fun e w' => e = .returned (.bool true) ∧ Below w.heap.size w w' := by
  have hg20 : n ≤ 9223372036854775807 := Nat.le_trans hnc hcmx
  have HG := Lib.hid (show n ≤ 4294967295 → RgOk w ⟨t, A, n, c, l⟩ from fun h => ⟨hlm, hnc, hcmx, hzn, h⟩)
  have HN := Lib.hid hl
  clear hlm hnc hcmx hzn hl
  go_enter Try.func10, Try.ntmps10
  unfold vSg
  go_upto_region 1 with (fail)
  obtain ⟨W0, hW⟩ : ∃ W0, W0 = (w.alloc (Obj.cells #[Value.int .i64 t, .slice A n c] 24)).alloc (Obj.cells #[Value.int .i64 s.n, .bool s.l, .bool s.r, .int .i64 s.b, .int .i64 s.p] 28) := ⟨_, rfl⟩
  rw [← hW]
  have hB0 : Below w.heap.size w W0 := by rw [hW]; exact bal (bal0 w _) (Nat.le_refl _) _
  have a0 : W0.heap[w.heap.size]? = some (Obj.cells #[Value.int .i64 t, .slice A n c] 24 (0, 0)) := by rw [hW]; exact hblk_alloc (alloc_at rfl) _
  have a1 : W0.heap[w.heap.size + 1]? = some (Obj.cells #[Value.int .i64 s.n, .bool s.l, .bool s.r, .int .i64 s.b, .int .i64 s.p] 28 (0, 0)) := by rw [hW]; exact alloc_at (by simp)
  have hz0 : w.heap.size + 1 < W0.heap.size := heap_lt a1
  clear hW
  obtain ⟨r0, r1⟩ := blk2 a0
  by_cases h20 : 20 < n
  · have h1 : decide ((20 : Int) < (n : Int)) = true := by simp; omega
    go_wp2_with fail
    refine (marking_any _).mono ?_
    rintro e w3 ⟨rfl, hb3⟩
    go_wp2
    go_ret
    exact ⟨rfl, hB0.trans (hb3.mono hB0.size)⟩
  · have h1 : decide ((20 : Int) < (n : Int)) = false := by simp; omega
    go_wp2_with fail
    refine (newHand_any A0 n0 c0 nums _ (HN.out.below hB0 (Nat.le_refl _)) hn0).mono ?_
    rintro e w1 ⟨rfl, hh, hb1, hz1⟩
    have HZ1 := Lib.hid hz1
    have hz1l : W0.heap.size < w1.heap.size := by omega
    clear hz1
    have a01 := bheap a0 hb1 (Nat.le_refl _)
    have a11 := bheap a1 hb1 (Nat.le_refl _)
    have hB1 := hB0.trans (hb1.mono hB0.size)
    clear r0 r1 a0 a1 hb1
    go_wp2_with fail
    refine (registerOf_any W0.heap.size 0 5 _ hh (by omega) (by omega)).mono ?_
    rintro e w2 ⟨t2, l2, A2, c2, rfl, hck, hl5, hown, hms, hlc, hcm, hd2⟩
    obtain ⟨ht0, ht2, _, _⟩ := check_ok hck
    obtain ⟨tn, rfl⟩ := Int.eq_ofNat_of_zero_le ht0
    have a02 := hd2.blk a01 (by omega)
    have a12 := hd2.blk a11 (by omega)
    have hB2 := hB1.trans ((hd2.below (B := w.heap.size) (by omega) hB1.size))
    have hhd := hd2.hd
    have hz2 := hd2.size
    clear hms hd2 hh a01 a11
    go_upto_region 5 with (fail)
    obtain ⟨W, hW⟩ : ∃ W, W = w2.alloc (Obj.cells #[Value.int .i64 (tn : Int), .slice A2 l2.length c2] 24) := ⟨_, rfl⟩
    rw [← hW]
    have aM : W.heap[w2.heap.size]? = some (Obj.cells #[Value.int .i64 (tn : Int), .slice A2 l2.length c2] 24 (0, 0)) := by rw [hW]; exact alloc_at rfl
    have a0W : W.heap[w.heap.size]? = some (Obj.cells #[Value.int .i64 t, .slice A n c] 24 (0, 0)) := by rw [hW]; exact hblk_alloc a02 _
    have a1W : W.heap[w.heap.size + 1]? = some (Obj.cells #[Value.int .i64 s.n, .bool s.l, .bool s.r, .int .i64 s.b, .int .i64 s.p] 28 (0, 0)) := by rw [hW]; exact hblk_alloc a12 _
    have hBW : Below w.heap.size w W := by rw [hW]; exact bal hB2 (Nat.le_refl _) _
    have hOW : OwnM W (W0.heap.size + 1) (.slice A2 l2.length c2) l2 := by rw [hW, ← HZ1.out]; exact hown.alloc _
    have hHW : Hd W W0.heap.size 100 := by rw [hW]; exact hhd.alloc _
    clear hW hB2 hown hhd a02 a12 hB1 hB0
    have hoff : OffH A2 W0.heap.size := fun b off e => by
      have := hOW.lt b (by rw [e]; rfl)
      omega
    obtain ⟨hmsW, hcW, hmW⟩ := hOW.sl lenMk
    have HW := Lib.hid (And.intro a0W (And.intro a1W (And.intro aM (And.intro hBW (And.intro hOW hHW)))))
    obtain ⟨r0, r1⟩ := blk2 a0W
    obtain ⟨s0, s1, s2, s3, s4⟩ := blk5 a1W
    obtain ⟨m0, m1⟩ := blk2 aM
    have HS9 := Lib.hid (And.intro r0 (And.intro r1 (And.intro s0 (And.intro s1 (And.intro s2 (And.intro s3 (And.intro s4 (And.intro m0 m1))))))))
    have HMS := Lib.hid (And.intro hmsW (And.intro hoff hck))
    have HHW := Lib.hid hHW
    have HMM := Lib.hid hmsW
    clear a0W a1W aM hBW hOW hHW hmsW hcW hmW hoff hck
    have hne0 : w.heap.size ≠ W0.heap.size := by omega
    have hne1 : w.heap.size + 1 ≠ W0.heap.size := by omega
    have hne2 : w2.heap.size ≠ W0.heap.size := by omega
    have hWl := HHW.out.lt
    have hwr : IntKind.i64.wrap ((l2.length : Int) - 1) = (l2.length : Int) - 1 := IntWalk.i64_in _ (by omega)
    go_cut [11, 12, 13] (fun v1 v2 v3 wx => ∃ (b1 b2 b3 : Nat) (S : Sg) (k : Int), v1 = .slice (some ⟨b1, 0, none⟩) 3 3 ∧ v2 = .slice (some ⟨b2, 0, none⟩) 3 3 ∧ v3 = .slice (some ⟨b3, 0, none⟩) 3 3 ∧
      wx.heap[b1]? = some (Obj.cells #[Value.int .i64 t, .slice A n c, .int .i64 (tn : Int), .slice A2 l2.length c2, .int .i64 (tn : Int), .slice A2 l2.length c2] 24 (0, 0)) ∧
      wx.heap[b2]? = some (Obj.cells #[Value.int .i64 s.n, .bool s.l, .bool s.r, .int .i64 s.b, .int .i64 s.p, .int .i64 S.n, .bool S.l, .bool S.r, .int .i64 S.b, .int .i64 S.p, .int .i64 s.n, .bool s.l, .bool s.r, .int .i64 s.b, .int .i64 s.p] 28 (0, 0)) ∧
      wx.heap[b3]? = some (Obj.cells #[Value.int .i64 o, .int .i64 k, .int .i64 o] 3 (0, 0)) ∧ W.grownBy wx (some W0.heap.size))
    case first =>
      go_region_held3 (fun w' => w'.cell? ⟨w.heap.size, 0, none⟩ = some (.int .i64 t) ∧ w'.cell? ⟨w.heap.size, 1, none⟩ = some (.slice A n c) ∧ w'.cell? ⟨w.heap.size + 1, 0, none⟩ = some (.int .i64 s.n) ∧ w'.cell? ⟨w.heap.size + 1, 1, none⟩ = some (.bool s.l) ∧ w'.cell? ⟨w.heap.size + 1, 2, none⟩ = some (.bool s.r) ∧ w'.cell? ⟨w.heap.size + 1, 3, none⟩ = some (.int .i64 s.b) ∧ w'.cell? ⟨w.heap.size + 1, 4, none⟩ = some (.int .i64 s.p) ∧ w'.cell? ⟨w2.heap.size, 0, none⟩ = some (.int .i64 (tn : Int)) ∧ w'.cell? ⟨w2.heap.size, 1, none⟩ = some (.slice A2 l2.length c2))
        ((refine keep9 (W := W) (H := W0.heap.size) ?_ hne0 hne1 hne2 HS9.out
          repeat' (first
            | (with_reducible refine World.grownBy.trans ?_ (gb_drew _ _))
            | (with_reducible exact World.grownBy.refl _ _)
            | (with_reducible refine World.grownBy.trans ?_ (World.grownBy_alloc _ _ _))
            | (with_reducible refine World.grownBy.trans ?_ hA.gr)
            | (with_reducible refine World.grownBy.trans ?_ hU.gr)
            | fail)))
        (first
          | (go_at_call 40; refine (sightOf_any W0.heap.size 100 tn A2 l2.length c2 l2 _ ?_ ?_ HMS.out.2.2 ?_ HMS.out.2.1 hl5).mono ?_; (repeat' (first | (with_reducible exact hA.hd) | (with_reducible exact HHW.out) | (with_reducible refine Hd.drew ?_) | (with_reducible refine Hd.alloc ?_ _) | fail)); (omega); (repeat' (first | (with_reducible exact HMM.out) | (with_reducible refine Sl.drew ?_) | (with_reducible refine Sl.alloc ?_ _) | fail)); rintro e wA ⟨S, rfl, hS, hA⟩; have hAl := hA.hd.lt; unfold vSg)
          | (go_at_call 19; refine (upto_any W0.heap.size (100 + 250) (l2.length - 1) _ ?_ ?_ ?_).mono ?_; (repeat' (first | (with_reducible exact hA.hd) | (with_reducible exact HHW.out) | (with_reducible refine Hd.drew ?_) | (with_reducible refine Hd.alloc ?_ _) | fail)); (omega); (omega); rintro e wU ⟨k, rfl, hk, hU⟩; have hUl := hU.hd.lt)
          | fail)
      all_goals
        go_wp2_with fail
        go_meet
        refine ⟨_, _, _, S, k, rfl, rfl, rfl, ?_, ?_, ?_, ?_⟩
        · repeat' (first
              | (with_reducible refine alloc_at ?_; simp; done)
              | (with_reducible refine hblk_alloc ?_ _)
              | (with_reducible refine hb_drew ?_)
              | (with_reducible refine hA.blk ?_ ?_)
              | (with_reducible refine hU.blk ?_ ?_)
              | omega
              | fail)
        · repeat' (first
              | (with_reducible refine alloc_at ?_; simp; done)
              | (with_reducible refine hblk_alloc ?_ _)
              | (with_reducible refine hb_drew ?_)
              | (with_reducible refine hA.blk ?_ ?_)
              | (with_reducible refine hU.blk ?_ ?_)
              | omega
              | fail)
        · repeat' (first
              | (with_reducible refine alloc_at ?_; simp; done)
              | (with_reducible refine hblk_alloc ?_ _)
              | (with_reducible refine hb_drew ?_)
              | (with_reducible refine hA.blk ?_ ?_)
              | (with_reducible refine hU.blk ?_ ?_)
              | omega
              | fail)
        · repeat' (first
              | (with_reducible refine World.grownBy.trans ?_ (gb_drew _ _))
              | (with_reducible exact World.grownBy.refl _ _)
              | (with_reducible refine World.grownBy.trans ?_ (World.grownBy_alloc _ _ _))
              | (with_reducible refine World.grownBy.trans ?_ hA.gr)
              | (with_reducible refine World.grownBy.trans ?_ hU.gr)
              | fail)
    case rest =>
      obtain ⟨q1, q2, q3, S, k1, rfl, rfl, rfl, e1, e2, e3, hgr⟩ := hcut
      have hBx : Below w.heap.size w wc := HW.out.2.2.2.1.grown hgr HW.out.2.2.2.1.size (fun k hk => by cases hk; omega)
      have hRs : Sl eRg 2 wc (some ⟨q1, 0, none⟩) 3 [⟨t, A, n, c, l⟩, ⟨(tn : Int), A2, l2.length, c2, l2⟩, ⟨(tn : Int), A2, l2.length, c2, l2⟩] := Sl.of_blk e1 rfl lenRg
      have hSs : Sights wc (some ⟨q2, 0, none⟩) 3 [s, S, s] := Sl.of_blk e2 rfl lenSg
      have hOs : Ints wc (some ⟨q3, 0, none⟩) 3 [o, k1, o] := Sl.of_blk e3 rfl lenInt
      have hr0 : RgOk wc ⟨t, A, n, c, l⟩ := (HG.out (by omega)).below hBx (Nat.le_refl _)
      have hr1 : RgOk wc ⟨(tn : Int), A2, l2.length, c2, l2⟩ := by
        obtain ⟨A', c', hv, _, h1, h2, h3⟩ := own_shape HW.out.2.2.2.2.1 lenMk
        cases hv
        exact ⟨HMS.out.1.gb hgr HMS.out.2.1, h1, h2, h3, by dsimp; omega⟩
      obtain ⟨R, hR⟩ : ∃ R : List Rg, R = [⟨t, A, n, c, l⟩, ⟨(tn : Int), A2, l2.length, c2, l2⟩, ⟨(tn : Int), A2, l2.length, c2, l2⟩] := ⟨_, rfl⟩
      have hok : ∀ g ∈ R, RgOk wc g := by
        rw [hR]
        intro g hg
        simp only [List.mem_cons, List.not_mem_nil, or_false] at hg
        rcases hg with rfl | rfl | rfl <;> assumption
      rw [← hR] at hRs
      obtain ⟨SS, hSS⟩ : ∃ SS : List Sg, SS = [s, S, s] := ⟨_, rfl⟩
      rw [← hSS] at hSs
      obtain ⟨OO, hOO⟩ : ∃ OO : List Int, OO = [o, k1, o] := ⟨_, rfl⟩
      rw [← hOO] at hOs
      have HRS := Lib.hid (And.intro hRs (And.intro hSs (And.intro hOs (And.intro hok hBx))))
      clear hRs hSs hOs hok hBx hR hSS hOO hr0 hr1 e1 e2 e3 hgr r0 r1 s0 s1 s2 s3 s4 m0 m1
      go_wp2_with fail
      go_loopg [14] 3 (fun g i wr => ∃ k : Nat, k + g = 3 ∧ i = .int .i64 k ∧ Below wc.heap.size wc wr)
      case atStart => exact ⟨0, rfl, rfl, Below.refl _ _⟩
      case round =>
        obtain ⟨k, hk, rfl, hbr⟩ := hrel
        have HK := Lib.hid hk
        have hk3 : k ≤ 3 := by omega
        clear hk
        by_cases hlt : k < 3
        · obtain ⟨b1, f1, g, h1, hb1, hg, g0, g1⟩ := Regs.get (HRS.out.1.below hbr (Nat.le_refl _)) hlt
          cases h1
          obtain ⟨b2, f2, x, h2, hb2, hx, x0, x1, x2, x3, x4⟩ := Sights.get (HRS.out.2.1.below hbr (Nat.le_refl _)) hlt
          cases h2
          obtain ⟨b3, f3, u, h3, hb3, hu, u0⟩ := Ints.get (HRS.out.2.2.1.below hbr (Nat.le_refl _)) hlt
          cases h3
          rw [Nat.zero_add] at g0 g1 x0 x1 x2 x3 x4 u0
          have hgo : RgOk wc g := HRS.out.2.2.2.1 g (List.mem_of_getElem? hg)
          have hgr := hgo.below hbr (Nat.le_refl _)
          have HGO := Lib.hid hgo
          clear hgo hg hx hu
          have i0 : (0 : Int) ≤ (k : Int) := by omega
          have i1 : (k : Int) < 3 := by omega
          go_wp2_with fail
          refine (copyRegister_any g.t g.A g.n g.c g.l _ hgr.m hgr.z hgr.s).mono ?_
          rintro e w3 ⟨⟨A3, c3, rfl, hown3, hm3, hlc3, hcm3, hz3⟩, hb3w⟩
          have hbr3 := hbr.trans (hb3w.mono hbr.size)
          have hg3 : Below w3.heap.size w3 w3 := Below.refl _ _
          replace g0 := bcell g0 hb3w (Nat.le_refl _)
          replace g1 := bcell g1 hb3w (Nat.le_refl _)
          replace x0 := bcell x0 hb3w (Nat.le_refl _)
          replace x1 := bcell x1 hb3w (Nat.le_refl _)
          replace x2 := bcell x2 hb3w (Nat.le_refl _)
          replace x3 := bcell x3 hb3w (Nat.le_refl _)
          replace x4 := bcell x4 hb3w (Nat.le_refl _)
          replace u0 := bcell u0 hb3w (Nat.le_refl _)
          clear hown3 hgr hbr hb3w hg3
          go_upto_region 10 with (fail)
          obtain ⟨W4, hW4⟩ : ∃ W4, W4 = w3.alloc (Obj.cells #[Value.int .i64 g.t, .slice A3 g.l.length c3] 24) := ⟨_, rfl⟩
          rw [← hW4]
          have a4 : W4.heap[w3.heap.size]? = some (Obj.cells #[Value.int .i64 g.t, .slice A3 g.l.length c3] 24 (0, 0)) := by rw [hW4]; exact alloc_at rfl
          have hb4 : Below w3.heap.size w3 W4 := by rw [hW4]; exact bal0 w3 _
          clear hW4
          replace hm3 := hm3.below hb4 (Nat.le_refl _)
          replace g0 := bcell g0 hb4 (Nat.le_refl _)
          replace g1 := bcell g1 hb4 (Nat.le_refl _)
          replace x0 := bcell x0 hb4 (Nat.le_refl _)
          replace x1 := bcell x1 hb4 (Nat.le_refl _)
          replace x2 := bcell x2 hb4 (Nat.le_refl _)
          replace x3 := bcell x3 hb4 (Nat.le_refl _)
          replace x4 := bcell x4 hb4 (Nat.le_refl _)
          replace u0 := bcell u0 hb4 (Nat.le_refl _)
          have hbr4 := hbr3.trans (hb4.mono hbr3.size)
          clear hb4 hbr3
          obtain ⟨p0, p1⟩ := blk2 a4
          refine wp_region_quiet_call (C := fun w' => ∃ n, w' = W4.drewN n) 5 (by kernel_rfl) (by kernel_rfl) ⟨1, rfl⟩ ?_
          simp only [List.take_succ_cons, List.take_zero, List.drop_succ_cons, List.drop_zero]
          repeat (quiet_step (fail))
          refine wpQuiet_nil ?_
          intro _ hw'
          obtain ⟨nq, hw''⟩ := hw'
          subst hw''
          intro Q2 hQ2
          go_wp2_with fail
          refine (May_any g.t A3 g.l.length c3 g.l x (W4.drewN nq) hm3 hlc3 hcm3).mono ?_
          rintro e w5 ⟨v5, rfl, ho5, hb5⟩
          replace hb5 : Below W4.heap.size W4 w5 := ⟨hb5.os, hb5.tape, hb5.output, hb5.size, hb5.block⟩
          go_wp2
          repeat (quiet_step (fail))
          refine wpQuiet_nil ?_
          have ho5' := ho5
          have hbr5 := hbr4.trans (hb5.mono hbr4.size)
          replace hm3 := hm3.below hb5 (Nat.le_refl _)
          have a5 := bheap a4 hb5 (Nat.le_refl _)
          replace g0 := bcell g0 hb5 (Nat.le_refl _)
          replace g1 := bcell g1 hb5 (Nat.le_refl _)
          replace x0 := bcell x0 hb5 (Nat.le_refl _)
          replace x1 := bcell x1 hb5 (Nat.le_refl _)
          replace x2 := bcell x2 hb5 (Nat.le_refl _)
          replace x3 := bcell x3 hb5 (Nat.le_refl _)
          replace x4 := bcell x4 hb5 (Nat.le_refl _)
          replace u0 := bcell u0 hb5 (Nat.le_refl _)
          have hgm5 := (HGO.out.below hbr5 (Nat.le_refl _)).m
          obtain ⟨hgc, hgx⟩ := And.intro HGO.out.nc HGO.out.cm
          clear hb5 hbr4 a4 p0 p1 ho5'
          go_upto_region 11 with (fail)
          refine wp_region_quiet_call (C := fun w' => ∃ n, w' = w5.drewN n) 8 (by kernel_rfl) (by kernel_rfl) ⟨1, rfl⟩ ?_
          simp only [List.take_succ_cons, List.take_zero, List.drop_succ_cons, List.drop_zero]
          repeat (quiet_step (fail))
          refine wpQuiet_nil ?_
          intro _ hw'
          obtain ⟨nq, hw''⟩ := hw'
          subst hw''
          intro Q2 hQ2
          go_wp2_with fail
          refine (rMay g.t g.A g.n g.c g.l x (w5.drewN nq) hgm5 hgc hgx).mono ?_
          rintro e w6 ⟨v6, rfl, ho6, hb6⟩
          replace hb6 : Below w5.heap.size w5 w6 := ⟨hb6.os, hb6.tape, hb6.output, hb6.size, hb6.block⟩
          go_wp2
          repeat (quiet_step (fail))
          refine wpQuiet_nil ?_
          have hbr6 := hbr5.trans (hb6.mono hbr5.size)
          replace hm3 := hm3.below hb6 (Nat.le_refl _)
          replace ho5 := ho5.below hb6 (Nat.le_refl _)
          have a6 := bheap a5 hb6 (Nat.le_refl _)
          replace g0 := bcell g0 hb6 (Nat.le_refl _)
          replace g1 := bcell g1 hb6 (Nat.le_refl _)
          replace x0 := bcell x0 hb6 (Nat.le_refl _)
          replace x1 := bcell x1 hb6 (Nat.le_refl _)
          replace x2 := bcell x2 hb6 (Nat.le_refl _)
          replace x3 := bcell x3 hb6 (Nat.le_refl _)
          replace x4 := bcell x4 hb6 (Nat.le_refl _)
          replace u0 := bcell u0 hb6 (Nat.le_refl _)
          obtain ⟨p0, p1⟩ := blk2 a6
          clear hb6 hbr5 a5 hgm5
          go_upto_region 12 with (fail)
          refine wp_region_quiet_call (C := fun w' => ∃ n, w' = w6.drewN n) 9 (by kernel_rfl) (by kernel_rfl) ⟨1, rfl⟩ ?_
          simp only [List.take_succ_cons, List.take_zero, List.drop_succ_cons, List.drop_zero]
          repeat (quiet_step (fail))
          refine wpQuiet_nil ?_
          intro _ hw'
          obtain ⟨nq, hw''⟩ := hw'
          subst hw''
          intro Q2 hQ2
          go_wp2_with fail
          refine (Verdict_any g.t A3 g.l.length c3 g.l x u (w6.drewN nq) hm3 hlc3 hcm3).mono ?_
          rintro e w7 ⟨rfl, hb7⟩
          replace hb7 : Below w6.heap.size w6 w7 := ⟨hb7.os, hb7.tape, hb7.output, hb7.size, hb7.block⟩
          go_wp2
          repeat (quiet_step (fail))
          refine wpQuiet_nil ?_
          have hbr7 := hbr6.trans (hb7.mono hbr6.size)
          replace hm3 := hm3.below hb7 (Nat.le_refl _)
          replace ho5 := ho5.below hb7 (Nat.le_refl _)
          replace ho6 := ho6.below hb7 (Nat.le_refl _)
          have a7 := bheap a6 hb7 (Nat.le_refl _)
          replace g0 := bcell g0 hb7 (Nat.le_refl _)
          replace g1 := bcell g1 hb7 (Nat.le_refl _)
          replace x0 := bcell x0 hb7 (Nat.le_refl _)
          replace x1 := bcell x1 hb7 (Nat.le_refl _)
          replace x2 := bcell x2 hb7 (Nat.le_refl _)
          replace x3 := bcell x3 hb7 (Nat.le_refl _)
          replace x4 := bcell x4 hb7 (Nat.le_refl _)
          replace u0 := bcell u0 hb7 (Nat.le_refl _)
          have hgm7 := (HGO.out.below hbr7 (Nat.le_refl _)).m
          clear hb7 hbr6 a6 p0 p1
          go_upto_region 13 with (fail)
          refine wp_region_quiet_call (C := fun w' => ∃ n, w' = w7.drewN n) 12 (by kernel_rfl) (by kernel_rfl) ⟨1, rfl⟩ ?_
          simp only [List.take_succ_cons, List.take_zero, List.drop_succ_cons, List.drop_zero]
          repeat (quiet_step (fail))
          refine wpQuiet_nil ?_
          intro _ hw'
          obtain ⟨nq, hw''⟩ := hw'
          subst hw''
          intro Q2 hQ2
          go_wp2_with fail
          refine (rVerdict g.t g.A g.n g.c g.l x u (w7.drewN nq) hgm7 hgc hgx).mono ?_
          rintro e w8 ⟨rfl, hb8⟩
          replace hb8 : Below w7.heap.size w7 w8 := ⟨hb8.os, hb8.tape, hb8.output, hb8.size, hb8.block⟩
          go_wp2
          repeat (quiet_step (fail))
          refine wpQuiet_nil ?_
          have hbr8 := hbr7.trans (hb8.mono hbr7.size)
          replace hm3 := hm3.below hb8 (Nat.le_refl _)
          replace ho5 := ho5.below hb8 (Nat.le_refl _)
          replace ho6 := ho6.below hb8 (Nat.le_refl _)
          have a8 := bheap a7 hb8 (Nat.le_refl _)
          replace g0 := bcell g0 hb8 (Nat.le_refl _)
          replace g1 := bcell g1 hb8 (Nat.le_refl _)
          have hgm8 := (HGO.out.below hbr8 (Nat.le_refl _)).m
          clear hb8 hbr7 a7 hgm7 x0 x1 x2 x3 x4 u0
          obtain ⟨p0, p1⟩ := blk2 a8
          obtain ⟨A5, c5, rfl, hs5, hc5, hm5⟩ := ho5.form lenInt
          obtain ⟨A6, c6, rfl, hs6, hc6, hm6⟩ := ho6.form lenInt
          obtain ⟨E1, hE1⟩ : ∃ E1, E1 = mayE g.t g.l x := ⟨_, rfl⟩
          rw [← hE1]
          obtain ⟨E2, hE2⟩ : ∃ E2, E2 = verE g.t g.l x u := ⟨_, rfl⟩
          rw [← hE2]
          obtain ⟨V2, hV2⟩ : ∃ V2, V2 = verV g.t g.l x u := ⟨_, rfl⟩
          rw [← hV2]
          obtain ⟨L, hL⟩ : ∃ L, L = mayR g.t g.l x := ⟨_, rfl⟩
          rw [← hL] at hs5 hs6 hc5 hc6 ⊢
          have j0 : (E1 != E1) = false := by simp
          have j1 : (E2 != E2) = false := by simp
          have j2 : (V2 != V2) = false := by simp
          clear hE1 hE2 hV2 hL ho5 ho6 a8
          have hLm : L.length ≤ maxLen := Nat.le_trans hc5 hm5
          have hgl : g.l.length = g.n := HGO.out.m.len
          have cI : ∀ d os, Calls Try.prog 47 #[.slice A5 L.length c5, .slice A6 L.length c6] (Sort.grow (redrawn w8 d) os) (fun e w'' => e = .returned (.bool true) ∧ ∃ p : Regrown, w'' = Sort.grow (redrawn w8 p.d) p.os) := fun d os => by
            have h := sameInts_any A5 L.length c5 L A6 L.length c6 L (Sort.grow (redrawn w8 d) os) (hs5.below (below_regrown w8 d os) (Nat.le_refl _)) (hs6.below (below_regrown w8 d os) (Nat.le_refl _)) hLm hLm
            rw [show sameL L L = true from decide_eq_true rfl] at h
            exact Calls.regrown_of h
          have hgm8 := (HGO.out.below hbr8 (Nat.le_refl _)).m
          have cR : ∀ d os, Calls Try.prog 25 #[.agg #[.int .i64 g.t, .slice A3 g.l.length c3], .agg #[.int .i64 g.t, .slice g.A g.n g.c]] (Sort.grow (redrawn w8 d) os) (fun e w'' => e = .returned (.bool true) ∧ ∃ p : Regrown, w'' = Sort.grow (redrawn w8 p.d) p.os) := fun d os => by
            have h := sameRegisters_any g.t g.t A3 g.l.length c3 g.l g.A g.n g.c g.l (Sort.grow (redrawn w8 d) os) (hm3.below (below_regrown w8 d os) (Nat.le_refl _)) (hgm8.below (below_regrown w8 d os) (Nat.le_refl _)) (Nat.le_trans hlc3 hcm3) (Nat.le_trans hgc hgx)
            rw [show (decide (g.t = g.t) && sameL g.l g.l) = true by simp [sameL]] at h
            exact Calls.regrown_of h
          have HC := Lib.hid (And.intro cI cR)
          clear cI cR hgm8 hgl
          go_upto_region 14 with (fail)
          have z0 := cell_regrown p0
          have z1 := cell_regrown p1
          have z2 := cell_regrown g0
          have z3 := cell_regrown g1
          refine wp_region_quiet_below (by kernel_rfl) (by kernel_rfl) ?_
          repeat (quiet_step (first | exact HC.out.1 _ _ | exact HC.out.2 _ _))
          refine wpQuiet_nil ?_
          intro _ hw'
          obtain ⟨⟨dq, osq⟩, hw''⟩ := hw'
          subst hw''
          obtain ⟨W9, hW9⟩ : ∃ W9, W9 = Sort.grow (redrawn w8 dq) osq := ⟨_, rfl⟩
          have hB9 : Below w8.heap.size w8 W9 := by rw [hW9]; exact below_regrown w8 dq osq
          rw [← hW9]
          clear hW9 z0 z1 z2 z3
          go_wp2
          go_roundg (gk - 1)
          case measure => have := HK.out; omega
          case rel => exact ⟨k + 1, by have := HK.out; omega, by go_num, hbr8.trans (hB9.mono hbr8.size)⟩
        · obtain rfl : k = 3 := by omega
          go_wp2_with fail
          refine (marking_any _).mono ?_
          rintro e w3 ⟨rfl, hb3⟩
          go_wp2
          go_ret
          have hBx := HRS.out.2.2.2.2
          have hBr := hBx.trans (hbr.mono hBx.size)
          exact ⟨rfl, hBr.trans (hb3.mono hBr.size)⟩
end Go.Proofs.Ytahlicinchehhaa
