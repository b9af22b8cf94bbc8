/- mestalaw03.MarkShown returns true. -/
import Derived.Test.YtahlicinchehhaaMarking
import Derived.Test.YtahlicinchehhaaKitB
import Derived.Test.YtahlicinchehhaaWornK
import Derived.Test.YtahlicinchehhaaWearOf
import Derived.Test.YtahlicinchehhaaRegOf
import Derived.Test.YtahlicinchehhaaLawA
namespace Go.Proofs.Ytahlicinchehhaa
open Go.RowKit
set_option linter.unusedVariables false
set_option linter.unusedSimpArgs false

set_option maxRecDepth 100000 in
set_option maxHeartbeats 2000000 in
theorem MarkShown_any (A : Option Addr) (n c : Nat) (nums : List Int) (w : World) (hl : Ints w A n nums) (hn : n ≤ 9223372036854775807) :
    Calls Try.prog 5 #[.slice A n c] w fun e w' => e = .returned (.bool true) ∧ Below w.heap.size w w' := by
  go_enter Try.func5, Try.ntmps5
  go_wp2_with fail
  refine (newHand_any A n c nums _ hl hn).mono ?_
  rintro e w1 ⟨rfl, hh, hb1, hz1⟩
  clear hl
  go_wp2_with fail
  refine (registerOf_any w.heap.size 0 5 _ hh (by omega) (by omega)).mono ?_
  rintro e w2 ⟨t, l, A1, c1, rfl, hck, hl5, hown, hms, hlc, hcm, hd2⟩
  have HR := Lib.hid (And.intro hck (And.intro hown (And.intro hms (And.intro hlc hcm))))
  obtain ⟨ht0, ht2, _, _⟩ := check_ok hck
  obtain ⟨tn, rfl⟩ := Int.eq_ofNat_of_zero_le ht0
  have hHM := Lib.hid (And.intro hck hlc)
  have hB2 := hb1.trans ((hd2.below (Nat.le_refl _) (by omega)))
  have hhd := hd2.hd
  have hz2 := hd2.size
  clear hck hms hlc hd2 hb1 hh
  go_wp2_with fail
  obtain ⟨W, hW⟩ : ∃ W, W = w2.alloc (Obj.cells #[Value.int .i64 (tn : Int), .slice A1 l.length c1] 24) := ⟨_, rfl⟩
  rw [← hW]
  have bW : W.heap[w2.heap.size]? = some (Obj.cells #[Value.int .i64 (tn : Int), .slice A1 l.length c1] 24 (0, 0)) := by rw [hW]; exact alloc_at rfl
  have hBW : Below w.heap.size w W := by rw [hW]; exact bal hB2 (Nat.le_refl _) _
  have hOW : OwnM W (w.heap.size + 1) (.slice A1 l.length c1) l := by rw [hW, ← hz1]; exact hown.alloc _
  have hHW : Hd W w.heap.size 100 := by rw [hW]; exact hhd.alloc _
  clear hW hB2 hown hhd
  go_loopg [5] l.length (fun g i wr => ∃ k : Nat, k + g = l.length ∧ i = .int .i64 k ∧ wr.heap[w2.heap.size]? = some (Obj.cells #[Value.int .i64 (tn : Int), .slice A1 l.length c1] 24 (0, 0)) ∧ OwnM wr (w.heap.size + 1) (.slice A1 l.length c1) l ∧ Hd wr w.heap.size (100 + 110 * k) ∧ Below w.heap.size w wr)
  case atStart => exact ⟨0, by omega, rfl, bW, hOW, hHW, hBW⟩
  case round =>
    obtain ⟨k, hk, rfl, br, hor, hhr, hBr⟩ := hrel
    have HK := Lib.hid hk
    have hkn : k ≤ l.length := by omega
    clear hk
    obtain ⟨r0, r1⟩ := blk2 br
    by_cases hlt : k < l.length
    · go_wp2_with fail
      refine (wearOf_any w.heap.size _ tn _ hhr (by omega) (by omega)).mono ?_
      rintro e w3 ⟨s, rfl, hs, hp, hd3⟩
      clear r0 r1
      unfold vSg
      go_upto_region 7 with (fail)
      obtain ⟨W3, hW⟩ : ∃ W3, W3 = w3.alloc (Obj.cells #[Value.int .i64 s.n, .bool s.l, .bool s.r, .int .i64 s.b, .int .i64 s.p] 28) := ⟨_, rfl⟩
      rw [← hW]
      have bs3 : W3.heap[w3.heap.size]? = some (Obj.cells #[Value.int .i64 s.n, .bool s.l, .bool s.r, .int .i64 s.b, .int .i64 s.p] 28 (0, 0)) := by rw [hW]; exact alloc_at rfl
      have hd3' : Dealt wr W3 w.heap.size (100 + 110 * k + 110) := by rw [hW]; exact hd3.alloc _
      have br3 := hd3'.blk br (by omega)
      have hor3 := hor.kept hd3'.gr (.inr (fun e => by have := hor.lt _ e; omega))
      have hB3 := hBr.trans (hd3'.below (Nat.le_refl _) hBr.size)
      have hh3 := hd3'.hd
      clear hW hd3 hd3' br hor hBr hhr
      obtain ⟨hms3, hc3, hm3⟩ := hor3.sl lenMk
      obtain ⟨r0, r1⟩ := blk2 br3
      obtain ⟨s0, s1, s2, s3, s4⟩ := blk5 bs3
      obtain ⟨b, off, m, rfl, hb, hm, c0, c1', c2⟩ := Marks.get hms3 hlt
      have hlaw := shown_law hHM.out.1 hm hs (by omega)
      have hmv := (check_marks hHM.out.1 m (List.mem_of_getElem? hm)).1
      have hsv := (seen_ok hs).1
      go_wp2_with fail
      refine (Show_any tn (some ⟨b, off, none⟩) l.length c1 l k s _ hms3 hc3 hm3).mono ?_
      rw [hlaw.1, hlaw.2.1]
      rintro e w4 ⟨rfl, hb4⟩
      have br4 := bheap br3 hb4 (Nat.le_refl _)
      have bs4 := bheap bs3 hb4 (Nat.le_refl _)
      have hor4 := hor3.below hb4 (Nat.le_refl _)
      have hB4 := hB3.trans (hb4.mono hB3.size)
      have hh4 := hh3.below hb4 hh3.lt
      clear hb4 br3 bs3 hor3 hB3 hh3 hms3 hc3 hm3 r0 r1 s0 s1 s2 s3 s4 c0 c1' c2
      obtain ⟨S, hS⟩ : ∃ S, S = wornS m s := ⟨_, rfl⟩
      rw [← hS] at hlaw ⊢
      have HS := Lib.hid (And.intro hS hlaw)
      have HM := Lib.hid (And.intro hm (And.intro hmv hsv))
      clear hS hlaw hm hmv hsv hs hp
      unfold vSg
      go_upto_region 8 with (fail)
      obtain ⟨W4, hW⟩ : ∃ W4, W4 = w4.alloc (Obj.cells #[Value.int .i64 S.n, .bool S.l, .bool S.r, .int .i64 S.b, .int .i64 S.p] 28) := ⟨_, rfl⟩
      rw [← hW]
      have bq4 : W4.heap[w4.heap.size]? = some (Obj.cells #[Value.int .i64 S.n, .bool S.l, .bool S.r, .int .i64 S.b, .int .i64 S.p] 28 (0, 0)) := by rw [hW]; exact alloc_at rfl
      have br5 : W4.heap[w2.heap.size]? = some (Obj.cells #[Value.int .i64 (tn : Int), .slice (some ⟨b, off, none⟩) l.length c1] 24 (0, 0)) := by rw [hW]; exact hblk_alloc br4 _
      have bs5 : W4.heap[w3.heap.size]? = some (Obj.cells #[Value.int .i64 s.n, .bool s.l, .bool s.r, .int .i64 s.b, .int .i64 s.p] 28 (0, 0)) := by rw [hW]; exact hblk_alloc bs4 _
      have hor5 : OwnM W4 (w.heap.size + 1) (.slice (some ⟨b, off, none⟩) l.length c1) l := by rw [hW]; exact hor4.alloc _
      have hB5 : Below w.heap.size w W4 := by rw [hW]; exact bal hB4 (Nat.le_refl _) _
      have hh5 : Hd W4 w.heap.size (100 + 110 * k + 110) := by rw [hW]; exact hh4.alloc _
      clear hW br4 bs4 hor4 hB4 hh4
      obtain ⟨hms5, hc5, hm5⟩ := hor5.sl lenMk
      obtain ⟨r0, r1⟩ := blk2 br5
      obtain ⟨s0, s1, s2, s3, s4⟩ := blk5 bq4
      go_wp2_with fail
      refine (May_any tn (some ⟨b, off, none⟩) l.length c1 l S _ hms5 hc5 hm5).mono ?_
      rw [HS.out.2.2.2.1]
      rintro e w6 ⟨v6, rfl, ho6, hb6⟩
      have br6 := bheap br5 hb6 (Nat.le_refl _)
      have bs6 := bheap bs5 hb6 (Nat.le_refl _)
      have bq6 := bheap bq4 hb6 (Nat.le_refl _)
      have hor6 := hor5.below hb6 (Nat.le_refl _)
      have hB6 := hB5.trans (hb6.mono hB5.size)
      have hh6 := hh5.below hb6 hh5.lt
      clear hb6 br5 bs5 bq4 hor5 hB5 hh5 hms5 hc5 hm5 r0 r1 s0 s1 s2 s3 s4
      obtain ⟨A6, c6, rfl, hs6, hc6, hm6⟩ := ho6.form lenInt
      obtain ⟨hms6, hcc6, hmm6⟩ := hor6.sl lenMk
      obtain ⟨bb, oo, m', hA', hb', hm', c0, c1', c2⟩ := Marks.get hms6 hlt
      obtain ⟨rfl, rfl⟩ : b = bb ∧ off = oo := by simpa using hA'
      obtain rfl : m = m' := Option.some.inj (HM.out.1.symm.trans hm')
      obtain ⟨r0, r1⟩ := blk2 br6
      obtain ⟨s0, s1, s2, s3, s4⟩ := blk5 bs6
      obtain ⟨q0, q1, q2, q3, q4⟩ := blk5 bq6
      have HO := Lib.hid (And.intro br6 (And.intro hor6 (And.intro hB6 hh6)))
      have hlen6 : (mayR (tn : Int) l S).length ≤ 9223372036854775807 := by unfold maxLen at hm6; omega
      have hb0 : b ≤ b := Nat.le_refl _
      clear br6 bs6 bq6 hor6 hB6 hh6 hms6 hcc6 hmm6 ho6 hA' hm' hb0
      have HM6 := Lib.hid hs6
      obtain ⟨L6, hL6⟩ : ∃ L, L = mayR (tn : Int) l S := ⟨_, rfl⟩
      rw [← hL6] at hs6 hc6 hlen6 ⊢
      have hin : (k : Int) ∈ L6 := by rw [hL6]; exact HS.out.2.2.2.2
      have HP := Lib.hid (show ¬ placeI L6 k < 0 from fun h => by rw [placeI_neg] at h; exact h hin)
      have HL6 := Lib.hid hL6
      clear hin hL6
      have hpl : decide (placeI L6 (k : Int) < 0) = false := decide_eq_false HP.out
      have i0 : (0 : Int) ≤ (k : Int) := by omega
      have i1 : (k : Int) < (l.length : Int) := by omega
      go_upto_region 9 with (fail)
      have k0 := cell_regrown r1
      have k1 := cell_regrown c0
      have k2 := cell_regrown c1'
      have k3 := cell_regrown c2
      have k4 := cell_regrown s0
      have k5 := cell_regrown s1
      have k6 := cell_regrown s2
      have k7 := cell_regrown s3
      have k8 := cell_regrown s4
      have j0 := cell_regrown q0
      have j1 := cell_regrown q1
      have j2 := cell_regrown q2
      have j3 := cell_regrown q3
      have j4 := cell_regrown q4
      have cW : ∀ d os, Calls Try.prog 30 #[vMk m, vSg s] (Sort.grow (redrawn w6 d) os) (fun e w'' => e = .returned (vSg S) ∧ ∃ p : Regrown, w'' = Sort.grow (redrawn w6 p.d) p.os) := fun d os => by
        have h := wornK_any m s (Sort.grow (redrawn w6 d) os) HM.out.2.1.1 HM.out.2.1.2 HM.out.2.2.1 HM.out.2.2.2
        rw [← HS.out.1] at h
        exact Calls.regrown_of h
      have cP : ∀ d os, Calls Try.prog 31 #[.slice A6 L6.length c6, .int .i64 k] (Sort.grow (redrawn w6 d) os) (fun e w'' => e = .returned (.int .i64 (placeI L6 k)) ∧ ∃ p : Regrown, w'' = Sort.grow (redrawn w6 p.d) p.os) := fun d os =>
        regrown_left (place_any A6 L6.length c6 L6 k _ (hs6.below (below_regrown w6 d os) (Nat.le_refl _)) (by unfold maxLen; exact hlen6))
      unfold vMk vSg at cW
      have HCW := Lib.hid (And.intro cW cP)
      clear cW cP
      refine wp_region_quiet_below (by kernel_rfl) (by kernel_rfl) ?_
      repeat (quiet_step (first | exact HCW.out.1 _ _ | exact HCW.out.2 _ _))
      refine wpQuiet_nil ?_
      intro _ hw'
      obtain ⟨⟨dq, osq⟩, hw''⟩ := hw'
      subst hw''
      obtain ⟨W7, hW7⟩ : ∃ W7, W7 = Sort.grow (redrawn w6 dq) osq := ⟨_, rfl⟩
      have hB7 : Below w6.heap.size w6 W7 := by rw [hW7]; exact below_regrown w6 dq osq
      rw [← hW7]
      clear hW7 k0 k1 k2 k3 k4 k5 k6 k7 k8 j0 j1 j2 j3 j4
      go_wp2
      go_roundg (gk - 1)
      case measure => have := HK.out; omega
      case rel =>
        obtain ⟨br6, hor6, hB6, hh6⟩ := HO.out
        exact ⟨k + 1, by have := HK.out; omega, by go_num, bheap br6 hB7 (Nat.le_refl _), hor6.below hB7 (Nat.le_refl _), (hh6.below hB7 hh6.lt).mono (by omega), hB6.trans (hB7.mono hB6.size)⟩
    · obtain rfl : k = l.length := by omega
      go_wp2_with fail
      refine (marking_any _).mono ?_
      rintro e w3 ⟨rfl, hb3⟩
      go_wp2
      go_ret
      exact ⟨rfl, hBr.trans (hb3.mono hBr.size)⟩
end Go.Proofs.Ytahlicinchehhaa
