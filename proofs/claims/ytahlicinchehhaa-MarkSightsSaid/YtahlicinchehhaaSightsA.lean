/- mestalaw03.MarkSights returns true. -/
import Derived.Test.YtahlicinchehhaaMarking
import Derived.Test.YtahlicinchehhaaMarkOf
import Derived.Test.YtahlicinchehhaaLawS
import Derived.Test.YtahlicinchehhaaLawT
import Derived.Test.YtahlicinchehhaaPairB
import Derived.Deep.CutBlock
import Derived.Test.YtahlicinchehhaaRegs
namespace Go.Proofs.Ytahlicinchehhaa
open Go.RowKit
set_option linter.unusedVariables false
set_option linter.unusedSimpArgs false

theorem blk6 {w : World} {b : Nat} {t : TypeId} {v0 v1 v2 v3 v4 v5 : Value} (h : w.heap[b]? = some (.cells #[v0, v1, v2, v3, v4, v5] t (0, 0))) :
    w.cell? ⟨b, 0, none⟩ = some v0 ∧ w.cell? ⟨b, 1, none⟩ = some v1 ∧ w.cell? ⟨b, 2, none⟩ = some v2 ∧ w.cell? ⟨b, 3, none⟩ = some v3 ∧ w.cell? ⟨b, 4, none⟩ = some v4 ∧ w.cell? ⟨b, 5, none⟩ = some v5 := by simp [World.cell?, h]
theorem wears_at {k : Nat} (hk : k < 16) : wearsL[k]? = some (wearOf k) := by
  unfold wearsL
  rw [List.getElem?_map, List.getElem?_range hk]
  rfl

set_option maxRecDepth 100000 in
set_option maxHeartbeats 4000000 in
theorem MarkSights_any (A : Option Addr) (n c : Nat) (nums : List Int) (w : World) (hl : Ints w A n nums) (hn : n ≤ 9223372036854775807) :
    Calls Try.prog 6 #[.slice A n c] w fun e w' => e = .returned (.bool true) ∧ Below w.heap.size w w' := by
  go_enter Try.func6, Try.ntmps6
  go_wp2_with fail
  refine (newHand_any A n c nums _ hl hn).mono ?_
  rintro e w1 ⟨rfl, hh, hb1, hz1⟩
  clear hl
  have hhl := hh.lt
  clear hz1
  go_wp2_with fail
  refine (of_any w.heap.size 0 0 (some ⟨w1.heap.size, 0, none⟩) 2 2 [1, 2] _ (hh.alloc _) (by omega) (ints2 w1 3 1 2) (fun b off e => by cases e; omega) (by omega)).mono ?_
  rintro e w2 ⟨t, rfl, ht, hd2⟩
  have ht' : 0 ≤ t ∧ t ≤ 2 := by
    simp only [List.mem_cons, List.not_mem_nil, or_false] at ht
    omega
  obtain ⟨tn, rfl⟩ := Int.eq_ofNat_of_zero_le ht'.1
  have hB2 : Below w.heap.size w w2 := (bal hb1 (Nat.le_refl _) _).trans (hd2.below (Nat.le_refl _) (by simp; omega))
  have hh2 := hd2.hd
  clear hd2 hb1 hh ht hhl
  go_wp2_with fail
  refine (markOf_any w.heap.size 1 _ hh2 (by omega)).mono ?_
  rintro e w3 ⟨a, rfl, ha, hd3⟩
  have hB3 := hB2.trans (hd3.below (Nat.le_refl _) hB2.size)
  have hh3 := hd3.hd
  clear hd3 hB2 hh2
  go_wp2_with fail
  refine (markOf_any w.heap.size 17 _ hh3 (by omega)).mono ?_
  rintro e w4 ⟨b, rfl, hb, hd4⟩
  have hB4 := hB3.trans (hd4.below (Nat.le_refl _) hB3.size)
  clear hd4 hB3 hh3
  unfold vMk
  go_upto_region 3 with (fail)
  obtain ⟨W, hW⟩ : ∃ W, W = (w4.alloc (Obj.cells #[Value.int .i64 a.n, .int .i64 a.b, .int .i64 a.p, .int .i64 b.n, .int .i64 b.b, .int .i64 b.p] 26)).alloc (Obj.cells #[Value.int .i64 (tn : Int), .slice (some ⟨w4.heap.size, 0, none⟩) 2 2] 24) := ⟨_, rfl⟩
  rw [← hW]
  have bm : W.heap[w4.heap.size]? = some (Obj.cells #[Value.int .i64 a.n, .int .i64 a.b, .int .i64 a.p, .int .i64 b.n, .int .i64 b.b, .int .i64 b.p] 26 (0, 0)) := by rw [hW]; exact hblk_alloc (alloc_at rfl) _
  have br : W.heap[w4.heap.size + 1]? = some (Obj.cells #[Value.int .i64 (tn : Int), .slice (some ⟨w4.heap.size, 0, none⟩) 2 2] 24 (0, 0)) := by rw [hW]; exact alloc_at (by simp)
  have hms : Marks W (some ⟨w4.heap.size, 0, none⟩) 2 [a, b] := Sl.of_blk bm rfl lenMk
  have hBW : Below w.heap.size w W := by rw [hW]; exact bal (bal hB4 (Nat.le_refl _) _) (Nat.le_refl _) _
  have HO := Lib.hid (And.intro bm (And.intro br (And.intro hms (And.intro hBW (And.intro ha hb)))))
  obtain ⟨p0, p1, p2, p3, p4, p5⟩ := blk6 bm
  obtain ⟨r0, r1⟩ := blk2 br
  have hlt := heap_lt br
  have hsz0 := hBW.size
  clear hW hB4 bm br hms hBW hb ha
  go_cut [35] (fun q wc => q = .bool (decide (a = b)) ∧ ∃ n, W.drewN n = wc)
  case first =>
    cases e1 : (a.n == b.n) <;> cases e2 : (a.b == b.b) <;> cases e3 : (a.p == b.p)
    all_goals
      have HE := Lib.hid (And.intro e1 (And.intro e2 e3))
      go_quiet (fail)
      go_wp2
      go_meet
      refine ⟨congrArg Value.bool ?_, _, rfl⟩
      obtain ⟨h1, h2, h3⟩ := HE.out
      simp only [beq_iff_eq, beq_eq_false_iff_ne] at h1 h2 h3
      have : (a = b) = (a.n = b.n ∧ a.b = b.b ∧ a.p = b.p) := by
        apply propext
        constructor
        · rintro rfl; exact ⟨rfl, rfl, rfl⟩
        · rintro ⟨x, y, z⟩; cases a; cases b; simp_all
      simp [this, h1, h2, h3]
  case rest =>
    obtain ⟨rfl, nq, hwc⟩ := hcut
    have hbw : Below W.heap.size W wc := by rw [← hwc]; exact below_drewN (Below.refl _ _) nq
    have HB := Lib.hid hbw
    have hsz := hbw.size
    clear hbw hwc p0 p1 p2 p3 p4 p5 r0 r1
    by_cases hab : a = b
    · have hd := decide_eq_true hab
      rw [hd]
      go_wp2_with fail
      refine (marking_any _).mono ?_
      rintro e w9 ⟨rfl, hb9⟩
      go_wp2
      go_ret
      exact ⟨rfl, HO.out.2.2.2.1.trans ((HB.out.trans (hb9.mono hsz)).mono HO.out.2.2.2.1.size)⟩
    · have hck := check_two ht' HO.out.2.2.2.2.1 HO.out.2.2.2.2.2 hab
      have hd := decide_eq_false hab
      rw [hd]
      obtain ⟨hav, hab0, hap0⟩ := mkOk_iff.1 HO.out.2.2.2.2.1
      have HCK := Lib.hid (And.intro hck hab)
      clear hd hck hab
      go_wp2_with fail
      refine (rWears _).mono ?_
      rintro e w6 ⟨v6, rfl, ho6, hb6⟩
      obtain ⟨Aw, cw, rfl, hsw, hcw, hmw⟩ := ho6.form lenSg
      rw [show wearsL.length = 16 from rfl] at hsw ⊢
      have hb6W := HB.out.trans (hb6.mono hsz)
      have HS := Lib.hid (And.intro hsw hb6W)
      have hs6 := hb6W.size
      clear ho6 hb6 hsw hb6W hcw hmw
      go_wp2_with fail
      go_loopg [5, 7] 16 (fun g x i wr => ∃ k : Nat, k + g = 16 ∧ i = .int .i64 k ∧ ∃ q : Nat, x = .int .i64 q ∧ q = leastTo a b tn k ∧ q ≤ 5 ∧ Below w6.heap.size w6 wr)
      case atStart => exact ⟨0, rfl, rfl, 5, rfl, rfl, by omega, Below.refl _ _⟩
      case round =>
        obtain ⟨k, hk, rfl, q, rfl, hq, hq5, hbr⟩ := hrel
        have HK := Lib.hid (And.intro hk (And.intro hq hbr))
        have hk16 : k ≤ 16 := by omega
        have hsr := hbr.size
        clear hk hq
        by_cases hlt' : k < 16
        · obtain ⟨g1, rfl⟩ : ∃ g1 : Nat, g1 = gk := ⟨_, rfl⟩
          obtain ⟨wo, rfl⟩ : ∃ wo : World, wo = wr := ⟨_, rfl⟩
          obtain ⟨b1, f1, s, rfl, hb1, hs, s0, s1, s2, s3, s4⟩ := Sights.get (HS.out.1.below hbr (Nat.le_refl _)) hlt'
          rw [wears_at hlt'] at hs
          have HSK := Lib.hid (show wearOf k = s from Option.some.inj hs)
          clear hs
          have i0 : (0 : Int) ≤ (k : Int) := by omega
          have i1 : (k : Int) < 16 := by omega
          obtain ⟨L, hL⟩ : ∃ L, L = lossN s := ⟨_, rfl⟩
          have HL := Lib.hid hL
          have hLo := rLosses s wo
          rw [← hL] at hLo
          have HLo := Lib.hid hLo
          clear hL hLo
          go_wp2_with fail
          refine HLo.out.mono ?_
          rintro e w7 ⟨rfl, hb7⟩
          have hbr7 := hbr.trans (hb7.mono hsr)
          have s0' := bcell s0 hb7 (Nat.le_refl _)
          have s1' := bcell s1 hb7 (Nat.le_refl _)
          have s2' := bcell s2 hb7 (Nat.le_refl _)
          have s3' := bcell s3 hb7 (Nat.le_refl _)
          have s4' := bcell s4 hb7 (Nat.le_refl _)
          have HB7 := Lib.hid (And.intro hbr7 (And.intro s0' (And.intro s1' (And.intro s2' (And.intro s3' s4')))))
          have hs7 := hbr7.size
          clear hb7 hbr7 s0 s1 s2 s3 s4 s0' s1' s2' s3' s4' hbr HLo hb1
          by_cases hge : q ≤ L
          · have hge' : decide (q ≤ L) = true := decide_eq_true hge
            go_wp2
            go_roundg (g1 - 1)
            case measure => have := HK.out.1; omega
            case rel =>
              refine ⟨k + 1, by have := HK.out.1; omega, by go_num, q, rfl, ?_, hq5, HB7.out.1⟩
              rw [leastTo_skip (by rw [← HK.out.2.1, HSK.out, ← HL.out]; exact hge)]
              exact HK.out.2.1
          · have hge' : decide (q ≤ L) = false := decide_eq_false hge
            go_wp2_with fail
            go_loopg [5, 8] 256 (fun g x i wr => ∃ nn : Nat, nn + g = 256 ∧ i = .int .i64 nn ∧ ∃ q2 : Nat, x = .int .i64 q2 ∧ q2 = leastIn a b tn k nn ∧ q2 ≤ 5 ∧ Below w7.heap.size w7 wr)
            case atStart => exact ⟨0, rfl, rfl, q, rfl, by rw [leastIn_zero]; exact HK.out.2.1, hq5, Below.refl _ _⟩
            case round =>
              obtain ⟨nn, hnk, rfl, q2, rfl, hq2, hq25, hbi⟩ := hrel
              have HN := Lib.hid (And.intro hnk (And.intro hq2 hbi))
              have hnn : nn ≤ 256 := by omega
              have hsi := hbi.size
              clear hnk hq2
              by_cases hln : nn ≤ 255
              · have hln' : (nn : Int) ≤ 255 := by omega
                have hln0 : (0 : Int) ≤ (nn : Int) := by omega
                have s0 := bcell HB7.out.2.1 hbi (Nat.le_refl _)
                have s1 := bcell HB7.out.2.2.1 hbi (Nat.le_refl _)
                have s2 := bcell HB7.out.2.2.2.1 hbi (Nat.le_refl _)
                have s3 := bcell HB7.out.2.2.2.2.1 hbi (Nat.le_refl _)
                have s4 := bcell HB7.out.2.2.2.2.2 hbi (Nat.le_refl _)
                go_upto_region 16 with (fail)
                obtain ⟨W8, hW8⟩ : ∃ W8, W8 = wr.alloc (Obj.cells #[Value.int .i64 (nn : Int), .bool s.l, .bool s.r, .int .i64 s.b, .int .i64 s.p] 28) := ⟨_, rfl⟩
                rw [← hW8]
                have b8 : W8.heap[wr.heap.size]? = some (Obj.cells #[Value.int .i64 (nn : Int), .bool s.l, .bool s.r, .int .i64 s.b, .int .i64 s.p] 28 (0, 0)) := by rw [hW8]; exact alloc_at rfl
                have hb8 : Below wr.heap.size wr W8 := by rw [hW8]; exact bal0 wr _
                clear hW8 s0 s1 s2 s3 s4
                obtain ⟨s0, s1, s2, s3, s4⟩ := blk5 b8
                obtain ⟨f0, f1, f2, f3, f4⟩ := And.intro (frz b8 0) (And.intro (frz b8 1) (And.intro (frz b8 2) (And.intro (frz b8 3) (frz b8 4))))
                have hl8 := heap_lt b8
                have HT := Lib.hid (ears_test ⟨nn, by omega⟩ s.l s.r)
                have HB8 := Lib.hid (And.intro b8 hb8)
                clear b8 hb8
                go_cut [76] (fun q wc => q = .bool (onI (nn : Int) s.l s.r != (nn : Int)) ∧ W8 = wc)
                case first =>
                  obtain ⟨bl, hbl⟩ : ∃ bl, bl = s.l := ⟨_, rfl⟩
                  obtain ⟨br, hbr'⟩ : ∃ br, br = s.r := ⟨_, rfl⟩
                  rw [← hbl] at s1
                  rw [← hbr'] at s2
                  have HLR := Lib.hid (And.intro hbl hbr')
                  clear hbl hbr'
                  cases e1 : (bits .and .i64 (nn : Int) 15 != 0) <;> cases e2 : (bits .and .i64 (nn : Int) 240 != 0) <;> cases bl <;> cases br
                  all_goals
                    have HE := Lib.hid (And.intro e1 e2)
                    go_wp2
                    go_meet
                    refine ⟨congrArg Value.bool ?_, rfl⟩
                    obtain ⟨h3, h4⟩ := HE.out
                    have hT := HT.out
                    rw [h3, h4] at hT
                    rw [← hT, ← HLR.out.1, ← HLR.out.2]
                    rfl
                case rest =>
                  obtain ⟨rfl, rfl⟩ := hcut
                  cases hon : (onI (nn : Int) s.l s.r != (nn : Int))
                  · have hoe : onI (nn : Int) s.l s.r = nn := by simpa using hon
                    have HON := Lib.hid hoe
                    have hsb : s.b = -1 ∨ s.b = 0 := by
                      have := (show ∀ k : Fin 16, (wearOf k.1).b = -1 ∨ (wearOf k.1).b = 0 by decide +kernel) ⟨k, hlt'⟩
                      dsimp only at this
                      rwa [HSK.out] at this
                    have hsp : s.p = -1 ∨ s.p = 0 := by
                      have := (show ∀ k : Fin 16, (wearOf k.1).p = -1 ∨ (wearOf k.1).p = 0 by decide +kernel) ⟨k, hlt'⟩
                      dsimp only at this
                      rwa [HSK.out] at this
                    clear hoe hon
                    have HSB := Lib.hid (And.intro hsb hsp)
                    clear hsb hsp
                    obtain ⟨B, hBe⟩ : ∃ B, B = (sightI a s nn).b := ⟨_, rfl⟩
                    obtain ⟨P, hPe⟩ : ∃ P, P = (sightI a s nn).p := ⟨_, rfl⟩
                    have HBP := Lib.hid (And.intro hBe hPe)
                    have hw8 : Below W.heap.size W W8 := HS.out.2.trans ((HB7.out.1.trans ((hbi.trans (HB8.out.2.mono hsi)).mono hs7)).mono hs6)
                    have HW8 := Lib.hid hw8
                    clear hBe hPe hw8
                    -- the brand
                    go_upto_if 79 with (fail)
                    go_cut [79] (fun q wc => wc.heap[wr.heap.size]? = some (sgObj ⟨(nn : Int), s.l, s.r, B, s.p⟩) ∧ Below wr.heap.size wr wc)
                    case first =>
                      obtain ⟨r0, r1⟩ := blk2 (bheap HO.out.2.1 HW8.out (Nat.le_refl _))
                      obtain ⟨p0, p1, p2, p3, p4, p5⟩ := blk6 (bheap HO.out.1 HW8.out (Nat.le_refl _))
                      cases e1 : (s.b != -1)
                      · have HE := Lib.hid e1
                        go_wp2
                        go_meet
                        refine ⟨?_, HB8.out.2⟩
                        have e2 : s.b = -1 := by simpa using HE.out
                        rw [show B = s.b by rw [HBP.out.1, sightI]; dsimp only; rw [if_pos e2, e2]]
                        exact HB8.out.1
                      · have HE := Lib.hid e1
                        go_wp2
                        go_meet
                        refine ⟨?_, HB8.out.2.setCell (by dsimp; omega) _⟩
                        have e2 : s.b ≠ -1 := by simpa using HE.out
                        rw [show B = a.b by rw [HBP.out.1, sightI]; dsimp only; rw [if_neg e2]]
                        exact set_blk HB8.out.1
                    case rest =>
                      obtain ⟨b9, hb9⟩ := hcut
                      obtain ⟨W9, rfl⟩ : ∃ W9 : World, W9 = wc := ⟨_, rfl⟩
                      have HB9 := Lib.hid (And.intro b9 hb9)
                      have HW9 := Lib.hid (show Below W.heap.size W W9 from HS.out.2.trans ((HB7.out.1.trans ((hbi.trans (hb9.mono hsi)).mono hs7)).mono hs6))
                      clear s0 s1 s2 s3 s4 f0 f1 f2 f3 f4 hb9
                      obtain ⟨s0, s1, s2, s3, s4⟩ := blk5 b9
                      obtain ⟨f0, f1, f2, f3, f4⟩ := And.intro (frz b9 0) (And.intro (frz b9 1) (And.intro (frz b9 2) (And.intro (frz b9 3) (frz b9 4))))
                      have hl9 := heap_lt b9
                      clear b9
                      -- the paint
                      go_upto_if 88 with (fail)
                      go_cut [88] (fun q wc => wc.heap[wr.heap.size]? = some (sgObj ⟨(nn : Int), s.l, s.r, B, P⟩) ∧ Below wr.heap.size wr wc)
                      case first =>
                        obtain ⟨r0, r1⟩ := blk2 (bheap HO.out.2.1 HW9.out (Nat.le_refl _))
                        obtain ⟨p0, p1, p2, p3, p4, p5⟩ := blk6 (bheap HO.out.1 HW9.out (Nat.le_refl _))
                        cases e1 : (s.p != -1)
                        · have HE := Lib.hid e1
                          go_wp2
                          go_meet
                          refine ⟨?_, HB9.out.2⟩
                          have e2 : s.p = -1 := by simpa using HE.out
                          rw [show P = s.p by rw [HBP.out.2, sightI]; dsimp only; rw [if_pos e2, e2]]
                          exact HB9.out.1
                        · have HE := Lib.hid e1
                          go_wp2
                          go_meet
                          refine ⟨?_, HB9.out.2.setCell (by dsimp; omega) _⟩
                          have e2 : s.p ≠ -1 := by simpa using HE.out
                          rw [show P = a.p by rw [HBP.out.2, sightI]; dsimp only; rw [if_neg e2]]
                          exact set_blk HB9.out.1
                      case rest =>
                        obtain ⟨b10, hb10⟩ := hcut
                        obtain ⟨W10, rfl⟩ : ∃ W10 : World, W10 = wc := ⟨_, rfl⟩
                        have hw10 : Below W.heap.size W W10 := HS.out.2.trans ((HB7.out.1.trans ((hbi.trans (hb10.mono hsi)).mono hs7)).mono hs6)
                        clear s0 s1 s2 s3 s4 f0 f1 f2 f3 f4
                        obtain ⟨s0, s1, s2, s3, s4⟩ := blk5 b10
                        obtain ⟨r0, r1⟩ := blk2 (bheap HO.out.2.1 hw10 (Nat.le_refl _))
                        have hmk := HO.out.2.2.1.below hw10 (Nat.le_refl _)
                        have HSX := Lib.hid (show (⟨(nn : Int), s.l, s.r, B, P⟩ : Sg) = sightI a s nn by rw [HBP.out.1, HBP.out.2]; rfl)
                        have hE : mayE tn [a, b] ⟨(nn : Int), s.l, s.r, B, P⟩ = 0 := by
                          unfold mayE
                          rw [if_neg (by simp [HCK.out.1]), HSX.out, ← HSK.out]
                          exact sightI_seen hlt' (by omega) hab0 hap0 (by rw [HSK.out]; exact HON.out)
                        have hhit : hitB a b tn s nn = ((mayL tn [a, b] ⟨(nn : Int), s.l, s.r, B, P⟩).length == 2) := by
                          rw [may_two, HSX.out]
                          unfold hitB
                          rw [decide_eq_true HON.out, Bool.true_and]
                        have hlos : lossN ⟨(nn : Int), s.l, s.r, B, P⟩ = L := by
                          rw [HSX.out, HL.out, ← HSK.out]
                          exact sightI_loss hlt' hab0.1 hap0.1
                        have HHL := Lib.hid (And.intro hhit hlos)
                        have HM := Lib.hid (May_any tn (some ⟨w4.heap.size, 0, none⟩) 2 2 [a, b] ⟨(nn : Int), s.l, s.r, B, P⟩ W10 hmk (Nat.le_refl _) (by decide))
                        have HB10 := Lib.hid (And.intro b10 hb10)
                        have hR : mayR tn [a, b] ⟨(nn : Int), s.l, s.r, B, P⟩ = mayL tn [a, b] ⟨(nn : Int), s.l, s.r, B, P⟩ := by unfold mayR; rw [if_pos hE]
                        have HER := Lib.hid (And.intro hE hR)
                        clear hhit hlos hmk hw10 hb10 b10 hE hR
                        go_wp2_with fail
                        refine HM.out.mono ?_
                        rw [HER.out.1, HER.out.2]
                        rintro e w11 ⟨v11, rfl, ho11, hb11⟩
                        obtain ⟨A11, c11, rfl, hs11, hc11, hm11⟩ := ho11.form lenInt
                        have b11 := bheap HB10.out.1 hb11 (Nat.le_refl _)
                        have HB11 := Lib.hid (And.intro b11 (HB10.out.2.trans (hb11.mono HB10.out.2.size)))
                        obtain ⟨LL, hLL⟩ : ∃ LL, LL = (mayL (tn : Int) [a, b] ⟨(nn : Int), s.l, s.r, B, P⟩).length := ⟨_, rfl⟩
                        rw [← hLL]
                        have HLL := Lib.hid hLL
                        clear ho11 hs11 hc11 hm11 s0 s1 s2 s3 s4 r0 r1 hb11 hLL
                        obtain ⟨s0, s1, s2, s3, s4⟩ := blk5 b11
                        clear b11
                        cases h2 : (LL == 2)
                        · have H2 := Lib.hid h2
                          have h2' : ((LL : Int) == 2) = false := by
                            rw [beq_eq_false_iff_ne] at h2 ⊢
                            omega
                          go_wp2
                          go_roundg (gk - 1)
                          case measure => have := HN.out.1; omega
                          case rel =>
                            refine ⟨nn + 1, by have := HN.out.1; omega, by go_num, q2, rfl, ?_, hq25, HN.out.2.2.trans (HB11.out.2.mono hsi)⟩
                            rw [leastIn_no (by rw [HSK.out, HHL.out.1, ← HLL.out]; exact H2.out)]
                            exact HN.out.2.1
                        · have H2 := Lib.hid h2
                          have h2' : ((LL : Int) == 2) = true := by
                            rw [beq_iff_eq] at h2 ⊢
                            omega
                          go_wp2_with fail
                          refine (rLosses ⟨(nn : Int), s.l, s.r, B, P⟩ w11).mono ?_
                          rw [HHL.out.2]
                          rintro e w12 ⟨rfl, hb12⟩
                          have hb12' := HB11.out.2.trans (hb12.mono HB11.out.2.size)
                          have hyes := leastIn_yes (a := a) (b := b) (t := tn) (k := k) (n := nn) (by rw [HSK.out, HHL.out.1, ← HLL.out]; exact H2.out)
                          rw [HSK.out, ← HL.out, ← HN.out.2.1] at hyes
                          have HY := Lib.hid hyes
                          clear hyes hb12
                          go_wp2
                          all_goals
                            go_roundg (gk - 1)
                            case measure => have := HN.out.1; omega
                            case rel =>
                              have hy := HY.out
                              first
                                | exact ⟨nn + 1, by have := HN.out.1; omega, by go_num, q2, rfl, by omega, hq25, HN.out.2.2.trans (hb12'.mono hsi)⟩
                                | exact ⟨nn + 1, by have := HN.out.1; omega, by go_num, L, rfl, by omega, by omega, HN.out.2.2.trans (hb12'.mono hsi)⟩
                  · have hno : hitB a b tn s nn = false := by
                      have h1 : onI (nn : Int) s.l s.r ≠ nn := by simpa using hon
                      unfold hitB
                      rw [decide_eq_false h1, Bool.false_and]
                    have HNO := Lib.hid hno
                    clear hno
                    go_wp2
                    go_roundg (gk - 1)
                    case measure => have := HN.out.1; omega
                    case rel =>
                      refine ⟨nn + 1, by have := HN.out.1; omega, by go_num, q2, rfl, ?_, hq25, HN.out.2.2.trans (HB8.out.2.mono hsi)⟩
                      rw [leastIn_no (by rw [HSK.out]; exact HNO.out)]
                      exact HN.out.2.1
              · obtain rfl : nn = 256 := by omega
                go_wp2
                go_roundg (g1 - 1)
                case measure => have := HK.out.1; omega
                case rel =>
                  refine ⟨k + 1, by have := HK.out.1; omega, by go_num, q2, rfl, ?_, hq25, HB7.out.1.trans (HN.out.2.2.mono hs7)⟩
                  rw [← leastIn_end hab0.1 hap0.1]
                  exact HN.out.2.1
        · obtain rfl : k = 16 := by omega
          have hww : Below W.heap.size W wr := HS.out.2.trans (hbr.mono hs6)
          obtain ⟨r0, r1⟩ := blk2 (bheap HO.out.2.1 hww (Nat.le_refl _))
          have hmk := HO.out.2.2.1.below hww (Nat.le_refl _)
          have brr := bheap HO.out.2.1 hww (Nat.le_refl _)
          have hqM : (q : Int) = mixedS a b tn := by rw [HK.out.2.1]; exact least_mixed a b tn
          have HQM := Lib.hid hqM.symm
          have C1 := Apart_any tn (some ⟨w4.heap.size, 0, none⟩) 2 2 [a, b] 0 1 wr hmk (Nat.le_refl _) (by decide)
          have C2 := fun w' (hb' : Below wr.heap.size wr w') => Apart_any tn (some ⟨w4.heap.size, 0, none⟩) 2 2 [a, b] 1 0 w' (hmk.below hb' (Nat.le_refl _)) (Nat.le_refl _) (by decide)
          have HBR := Lib.hid (And.intro brr hww)
          clear hqM hmk brr hww
          by_cases h5 : q = 5
          · subst h5
            obtain ⟨⟨e1, e2⟩, e3, e4⟩ := apart_no HCK.out.1 HQM.out
            rw [e1, e2] at C1
            rw [e3, e4] at C2
            have HC1 := Lib.hid C1
            have HC2 := Lib.hid C2
            clear C1 C2 e1 e2 e3 e4
            go_wp2_with fail
            refine HC1.out.mono ?_
            rintro e w7 ⟨rfl, hb7⟩
            obtain ⟨r0', r1'⟩ := blk2 (bheap HBR.out.1 hb7 (Nat.le_refl _))
            have HB7 := Lib.hid hb7
            clear hb7 r0 r1
            go_wp2_with fail
            refine (HC2.out _ HB7.out).mono ?_
            rintro e w8 ⟨rfl, hb8⟩
            have hb8' := HB7.out.trans (hb8.mono HB7.out.size)
            clear hb8 r0' r1'
            go_wp2_with fail
            refine (marking_any _).mono ?_
            rintro e w9 ⟨rfl, hb9⟩
            go_wp2
            go_ret
            exact ⟨rfl, HO.out.2.2.2.1.trans ((HBR.out.2.trans ((hb8'.trans (hb9.mono hb8'.size)).mono HBR.out.2.size)).mono hsz0)⟩
          · obtain ⟨⟨e1, e2⟩, e3, e4⟩ := apart_yes HCK.out.1 HQM.out (by omega)
            rw [e1, e2] at C1
            rw [e3, e4] at C2
            have HC1 := Lib.hid C1
            have HC2 := Lib.hid C2
            clear C1 C2 e1 e2 e3 e4
            have hq5' : ((q : Int) == 5) = false := by rw [beq_eq_false_iff_ne]; omega
            have H5 := Lib.hid h5
            clear h5
            go_wp2_with fail
            refine HC1.out.mono ?_
            rintro e w7 ⟨rfl, hb7⟩
            obtain ⟨r0', r1'⟩ := blk2 (bheap HBR.out.1 hb7 (Nat.le_refl _))
            have HB7 := Lib.hid hb7
            clear hb7 r0 r1
            go_wp2_with fail
            refine (HC2.out _ HB7.out).mono ?_
            rintro e w8 ⟨rfl, hb8⟩
            have hb8' := HB7.out.trans (hb8.mono HB7.out.size)
            clear hb8 r0' r1'
            go_wp2_with fail
            refine (marking_any _).mono ?_
            rintro e w9 ⟨rfl, hb9⟩
            go_wp2
            go_ret
            exact ⟨rfl, HO.out.2.2.2.1.trans ((HBR.out.2.trans ((hb8'.trans (hb9.mono hb8'.size)).mono HBR.out.2.size)).mono hsz0)⟩
end Go.Proofs.Ytahlicinchehhaa
