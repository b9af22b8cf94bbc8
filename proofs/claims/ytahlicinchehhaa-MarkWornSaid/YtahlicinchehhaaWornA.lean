/- mestalaw03.MarkWorn returns true. -/
import Derived.Test.YtahlicinchehhaaMarking
import Derived.Test.YtahlicinchehhaaSightOf
import Derived.Test.YtahlicinchehhaaLawW
import Derived.Test.YtahlicinchehhaaPairIn
import Derived.Test.YtahlicinchehhaaRegs
import Derived.Test.YtahlicinchehhaaOwn2
import Derived.Deep.CutBlock
namespace Go.Proofs.Ytahlicinchehhaa
open Go.RowKit
set_option linter.unusedVariables false
set_option linter.unusedSimpArgs false

/-- the pairs before the n-th number of losses -/
def befL (t : Int) (l : List Mk) (n : Nat) : List (List Int) := if n = 0 then [] else mistL l t ((n : Int) - 1)
theorem bef_mono {t : Int} {l : List Mk} {n : Nat} {x : List Int} (h : x ∈ befL t l n) : x ∈ mistL l t (n : Int) := by
  unfold befL at h
  split at h
  · cases h
  · exact mist_mono (by omega) h
theorem bef_succ {t : Int} {l : List Mk} {n : Nat} : befL t l (n + 1) = mistL l t (n : Int) := by
  unfold befL
  rw [if_neg (by omega)]
  congr 1
  omega

set_option maxRecDepth 100000 in
set_option maxHeartbeats 4000000 in
theorem MarkWorn_any (A : Option Addr) (n c : Nat) (nums : List Int) (w : World) (hl : Ints w A n nums) (hn : n ≤ 9223372036854775807) :
    Calls Try.prog 8 #[.slice A n c] w fun e w' => e = .returned (.bool true) ∧ Below w.heap.size w w' := by
  go_enter Try.func8, Try.ntmps8
  go_wp2_with fail
  refine (newHand_any A n c nums _ hl hn).mono ?_
  rintro e w1 ⟨rfl, hh, hb1, hz1⟩
  clear hl
  go_wp2_with fail
  refine (registerOf_any w.heap.size 0 5 _ hh (by omega) (by omega)).mono ?_
  rintro e w2 ⟨t, l, A1, c1, rfl, hck, hl5, hown, hms, hlc, hcm, hd2⟩
  obtain ⟨ht0, ht2, _, _⟩ := check_ok hck
  obtain ⟨tn, rfl⟩ := Int.eq_ofNat_of_zero_le ht0
  have hHM := Lib.hid (And.intro hck hlc)
  have hB2 := hb1.trans ((hd2.below (Nat.le_refl _) (by omega)))
  have hhd := hd2.hd
  have hz2 := hd2.size
  clear hck hms hlc hd2 hb1 hh
  go_upto_region 3 with (fail)
  obtain ⟨W, hW⟩ : ∃ W, W = w2.alloc (Obj.cells #[Value.int .i64 (tn : Int), .slice A1 l.length c1] 24) := ⟨_, rfl⟩
  rw [← hW]
  have bW : W.heap[w2.heap.size]? = some (Obj.cells #[Value.int .i64 (tn : Int), .slice A1 l.length c1] 24 (0, 0)) := by rw [hW]; exact alloc_at rfl
  have hBW : Below w.heap.size w W := by rw [hW]; exact bal hB2 (Nat.le_refl _) _
  have hOW : OwnM W (w.heap.size + 1) (.slice A1 l.length c1) l := by rw [hW, ← hz1]; exact hown.alloc _
  have hHW : Hd W w.heap.size 100 := by rw [hW]; exact hhd.alloc _
  clear hW hB2 hown hhd
  obtain ⟨r0, r1⟩ := blk2 bW
  obtain ⟨hmsW, hcW, hmW⟩ := hOW.sl lenMk
  have hoff : OffH A1 w.heap.size := fun b off e => by
    have := hOW.lt b (by rw [e]; rfl)
    omega
  go_wp2_with fail
  refine (sightOf_any w.heap.size _ tn A1 l.length c1 l _ hHW (by omega) hHM.out.1 hmsW hoff hl5).mono ?_
  rintro e w3 ⟨s, rfl, hs, hd3⟩
  clear r0 r1 hmsW hcW hmW
  unfold vSg
  go_upto_region 4 with (fail)
  go_upto_region 5 with (fail)
  obtain ⟨W3, hW⟩ : ∃ W3, W3 = (w3.alloc (Obj.cells #[Value.int .i64 s.n, .bool s.l, .bool s.r, .int .i64 s.b, .int .i64 s.p] 28)).alloc (Obj.cells #[Value.int .i64 s.n, .bool s.l, .bool s.r, .int .i64 s.b, .int .i64 s.p] 28) := ⟨_, rfl⟩
  rw [← hW]
  have bs3 : W3.heap[w3.heap.size]? = some (Obj.cells #[Value.int .i64 s.n, .bool s.l, .bool s.r, .int .i64 s.b, .int .i64 s.p] 28 (0, 0)) := by rw [hW]; exact hblk_alloc (alloc_at rfl) _
  have bu3 : W3.heap[w3.heap.size + 1]? = some (Obj.cells #[Value.int .i64 s.n, .bool s.l, .bool s.r, .int .i64 s.b, .int .i64 s.p] 28 (0, 0)) := by rw [hW]; exact alloc_at (by simp)
  have br3 : W3.heap[w2.heap.size]? = some (Obj.cells #[Value.int .i64 (tn : Int), .slice A1 l.length c1] 24 (0, 0)) := by rw [hW]; exact hblk_alloc (hblk_alloc (hd3.blk bW (by omega)) _) _
  have hor3 : OwnM W3 (w.heap.size + 1) (.slice A1 l.length c1) l := by rw [hW]; exact ((hOW.kept hd3.gr (.inr (fun e => by have := hOW.lt _ e; omega))).alloc _).alloc _
  have hh3 : Hd W3 w.heap.size 350 := by rw [hW]; exact (hd3.hd.alloc _).alloc _
  have hB3 : Below w.heap.size w W3 := by rw [hW]; exact bal (bal (hBW.trans (hd3.below (Nat.le_refl _) hBW.size)) (Nat.le_refl _) _) (Nat.le_refl _) _
  have hzw : w.heap.size < w2.heap.size := by omega
  have hz23 : w2.heap.size < w3.heap.size := Nat.lt_of_lt_of_le (heap_lt bW) hd3.size
  clear hW hd3 bW hOW hBW hHW
  go_wp2_with fail
  refine (upto_any w.heap.size 350 3 _ hh3 (by omega) (by omega)).mono ?_
  rintro e w4 ⟨kq, rfl, hkq, hd4⟩
  have bs4 := hd4.blk bs3 (by omega)
  have bu4 := hd4.blk bu3 (by omega)
  have br4 := hd4.blk br3 (by omega)
  have hor4 : OwnM w4 (w.heap.size + 1) (.slice A1 l.length c1) l := hor3.kept hd4.gr (.inr (fun e => by have := hor3.lt _ e; omega))
  have hB4 := hB3.trans (hd4.below (Nat.le_refl _) hB3.size)
  clear hd4 bs3 bu3 br3 hor3 hB3 hh3 hoff
  have hA1 : ∀ b off, A1 = some ⟨b, off, none⟩ → b ≠ w3.heap.size + 1 := fun b off e => by
    intro h
    exact Own.ne' hor4 bu4 (by decide) (by rw [e, ← h]; rfl)
  -- what is worn besides
  go_upto_block 0 with (fail)
  have HP := Lib.hid (And.intro bs4 (And.intro br4 (And.intro hor4 (And.intro hB4 (And.intro bu4 hs)))))
  obtain ⟨hsn, hso, -, -⟩ := seen_ok hs
  obtain ⟨v0, v1, v2, v3, v4⟩ := blk5 bu4
  obtain ⟨f0, f1, f2, f3, f4⟩ := And.intro (frz bu4 0) (And.intro (frz bu4 1) (And.intro (frz bu4 2) (And.intro (frz bu4 3) (frz bu4 4))))
  have hlu := heap_lt bu4
  have hand15 := bits_andNot s.n 15 hsn.1 hsn.2 (by omega) (by omega)
  have hand240 := bits_andNot s.n 240 hsn.1 hsn.2 (by omega) (by omega)
  clear bs4 br4 hor4 hB4 bu4 hs hso
  go_cut [28] (fun q wc => ∃ u : Sg, Less s u ∧ wc.heap[w3.heap.size + 1]? = some (sgObj u) ∧
      wc.heap[w3.heap.size]? = some (Obj.cells #[Value.int .i64 s.n, .bool s.l, .bool s.r, .int .i64 s.b, .int .i64 s.p] 28 (0, 0)) ∧
      wc.heap[w2.heap.size]? = some (Obj.cells #[Value.int .i64 (tn : Int), .slice A1 l.length c1] 24 (0, 0)) ∧ OwnM wc (w.heap.size + 1) (.slice A1 l.length c1) l ∧ Below w.heap.size w wc)
  case first =>
    have fin : ∀ (wc : World) (u : Sg), Less s u → wc.heap[w3.heap.size + 1]? = some (sgObj u) → (∀ j, j ≠ w3.heap.size + 1 → wc.heap[j]? = w4.heap[j]?) → Below w.heap.size w wc → ∃ u : Sg, Less s u ∧ wc.heap[w3.heap.size + 1]? = some (sgObj u) ∧
        wc.heap[w3.heap.size]? = some (Obj.cells #[Value.int .i64 s.n, .bool s.l, .bool s.r, .int .i64 s.b, .int .i64 s.p] 28 (0, 0)) ∧
        wc.heap[w2.heap.size]? = some (Obj.cells #[Value.int .i64 (tn : Int), .slice A1 l.length c1] 24 (0, 0)) ∧ OwnM wc (w.heap.size + 1) (.slice A1 l.length c1) l ∧ Below w.heap.size w wc := fun wc u h1 h2 h3 h4 => by
      refine ⟨u, h1, h2, (h3 _ (by omega)).trans HP.out.1, (h3 _ (by omega)).trans HP.out.2.1, ?_, h4⟩
      refine ⟨HP.out.2.2.1.1, ?_⟩
      rcases HP.out.2.2.1.2 with k2 | ⟨g, cap, cur, hv, hg, hh, r⟩
      · exact .inl k2
      · refine .inr ⟨g, cap, cur, hv, hg, (h3 g fun e => ?_).trans hh, r⟩
        have hb := HP.out.2.2.2.2.1
        rw [← e, hh] at hb
        simp at hb
    have hB9 := HP.out.2.2.2.1
    by_cases k0 : kq = 0
    · subst k0
      go_wp2
      go_meet
      refine fin _ _ (less_left HP.out.2.2.2.2.2) ?_ (fun j hj => ?_) ?_
      · exact set_blk (set_blk HP.out.2.2.2.2.1)
      · rw [Below.heap_setCell _ ⟨w3.heap.size + 1, _, none⟩ _ j hj, Below.heap_setCell _ ⟨w3.heap.size + 1, _, none⟩ _ j hj]
      · exact (hB9.setCell (by dsimp; omega) _).setCell (by dsimp; omega) _
    · by_cases k1 : kq = 1
      · subst k1
        go_wp2
        go_meet
        refine fin _ _ (less_right HP.out.2.2.2.2.2) ?_ (fun j hj => ?_) ?_
        · exact set_blk (set_blk HP.out.2.2.2.2.1)
        · rw [Below.heap_setCell _ ⟨w3.heap.size + 1, _, none⟩ _ j hj, Below.heap_setCell _ ⟨w3.heap.size + 1, _, none⟩ _ j hj]
        · exact (hB9.setCell (by dsimp; omega) _).setCell (by dsimp; omega) _
      · by_cases k2 : kq = 2
        · subst k2
          go_wp2
          go_meet
          refine fin _ _ (less_brand HP.out.2.2.2.2.2) ?_ (fun j hj => ?_) ?_
          · exact set_blk HP.out.2.2.2.2.1
          · rw [Below.heap_setCell _ ⟨w3.heap.size + 1, _, none⟩ _ j hj]
          · exact hB9.setCell (by dsimp; omega) _
        · have d0 : ((kq : Int) == 0) = false := by simp; omega
          have d1 : ((kq : Int) == 1) = false := by simp; omega
          have d2 : ((kq : Int) == 2) = false := by simp; omega
          go_wp2
          go_meet
          refine fin _ _ (less_paint HP.out.2.2.2.2.2) ?_ (fun j hj => ?_) ?_
          · exact set_blk HP.out.2.2.2.2.1
          · rw [Below.heap_setCell _ ⟨w3.heap.size + 1, _, none⟩ _ j hj]
          · exact hB9.setCell (by dsimp; omega) _
  case rest =>
    obtain ⟨u, hlu', bu5, bs5, br5, hor5, hB5⟩ := hcut
    have hsn2 := HP.out.2.2.2.2.2
    have hsu := less_seen hlu' hsn2
    clear v0 v1 v2 v3 v4 f0 f1 f2 f3 f4 hand15 hand240 HP hkq
    obtain ⟨hms5, hc5, hm5⟩ := hor5.sl lenMk
    obtain ⟨r0, r1⟩ := blk2 br5
    obtain ⟨s0, s1, s2, s3, s4⟩ := blk5 bs5
    have hE : mayE tn l s = 0 := by unfold mayE; rw [if_neg (by simp [hHM.out.1]), hsn2]
    have hEu : mayE tn l u = 0 := by unfold mayE; rw [if_neg (by simp [hHM.out.1]), hsu]
    go_wp2_with fail
    refine (May_any tn A1 l.length c1 l s _ hms5 hc5 hm5).mono ?_
    rw [hE, show mayR (tn : Int) l s = mayL tn l s by unfold mayR; rw [if_pos hE]]
    rintro e w5 ⟨va, rfl, hoa, hb5⟩
    have br6 := bheap br5 hb5 (Nat.le_refl _)
    have bu6 := bheap bu5 hb5 (Nat.le_refl _)
    have hor6 := hor5.below hb5 (Nat.le_refl _)
    have hB6 := hB5.trans (hb5.mono hB5.size)
    clear hb5 br5 bu5 bs5 hor5 hB5 hms5 hc5 hm5 r0 r1 s0 s1 s2 s3 s4 hE
    obtain ⟨Aa, ca, rfl, hsa, hca, hma⟩ := hoa.form lenInt
    obtain ⟨hms6, hc6, hm6⟩ := hor6.sl lenMk
    obtain ⟨r0, r1⟩ := blk2 br6
    obtain ⟨s0, s1, s2, s3, s4⟩ := blk5 bu6
    clear hoa
    go_wp2_with fail
    refine (May_any tn A1 l.length c1 l u _ hms6 hc6 hm6).mono ?_
    rw [hEu, show mayR (tn : Int) l u = mayL tn l u by unfold mayR; rw [if_pos hEu]]
    rintro e w6 ⟨vb, rfl, hob, hb6⟩
    have br7 := bheap br6 hb6 (Nat.le_refl _)
    have hor7 := hor6.below hb6 (Nat.le_refl _)
    have hB7 := hB6.trans (hb6.mono hB6.size)
    replace hsa := hsa.below hb6 (Nat.le_refl _)
    clear hb6 br6 bu6 hor6 hB6 hms6 hc6 hm6 r0 r1 s0 s1 s2 s3 s4 hEu
    obtain ⟨Ab, cb, rfl, hsb, hcb, hmb⟩ := hob.form lenInt
    clear hob
    obtain ⟨La, hLa⟩ : ∃ L, L = mayL (tn : Int) l s := ⟨_, rfl⟩
    obtain ⟨Lb, hLb⟩ : ∃ L, L = mayL (tn : Int) l u := ⟨_, rfl⟩
    rw [← hLa] at hsa hca ⊢
    rw [← hLb] at hsb hcb ⊢
    have HSub := Lib.hid (show ∀ o ∈ La, o ∈ Lb from fun o ho => by rw [hLa] at ho; rw [hLb]; exact less_may hlu' hsn2 ho)
    have hLal : La.length ≤ maxLen := Nat.le_trans hca hma
    have hLbl : Lb.length ≤ maxLen := Nat.le_trans hcb hmb
    have HS := Lib.hid (And.intro hsa (And.intro hsb (And.intro br7 (And.intro hor7 hB7))))
    have hLal' : La.length ≤ 9223372036854775807 := hLal
    have hs6 : w2.heap.size < w6.heap.size := heap_lt br7
    clear hLa hLb hsa hsb br7 hor7 hB7 hsu hsn2 hlu'
    go_wp2_with fail
    go_loopg [11] La.length (fun g i wr => ∃ k : Nat, k + g = La.length ∧ i = .int .i64 k ∧ Below w6.heap.size w6 wr)
    case atStart => exact ⟨0, by omega, rfl, Below.refl _ _⟩
    case round =>
      obtain ⟨k, hk, rfl, hbr⟩ := hrel
      have HK := Lib.hid hk
      have hkn : k ≤ La.length := by omega
      clear hk
      by_cases hlt : k < La.length
      · obtain ⟨bb, oo, x, rfl, hbb, hx, q0⟩ := Ints.get (HS.out.1.below hbr (Nat.le_refl _)) hlt
        have HSb := Lib.hid (HS.out.2.1.below hbr (Nat.le_refl _))
        have hpd : decide (placeI Lb x < 0) = false := decide_eq_false (fun h => by rw [placeI_neg] at h; exact h (HSub.out x (List.mem_of_getElem? hx)))
        have i0 : (0 : Int) ≤ (k : Int) := by omega
        have i1 : (k : Int) < (La.length : Int) := by omega
        clear hx hbb
        go_wp2_with fail
        refine (place_any Ab Lb.length cb Lb x _ HSb.out hLbl).mono ?_
        rintro e w7 ⟨rfl, rfl⟩
        go_wp2
        go_roundg (gk - 1)
        case measure => have := HK.out; omega
        case rel => exact ⟨k + 1, by have := HK.out; omega, by go_num, hbr⟩
      · obtain rfl : k = La.length := by omega
        obtain ⟨wo, rfl⟩ : ∃ wo : World, wo = wr := ⟨_, rfl⟩
        have HB := Lib.hid hbr
        have hso := hbr.size
        clear hbr
        go_wp2_with fail
        go_loopg [12, 13] 5 (fun g v i wr => ∃ q : Nat, q + g = 5 ∧ i = .int .i64 q ∧ OwnG wr w6.heap.size v (befL (tn : Int) l q) ∧ Below w6.heap.size w6 wr)
        case atStart => exact ⟨0, by omega, rfl, OwnG.nil_, HB.out⟩
        case round =>
          obtain ⟨q, hq, rfl, hog, hbr⟩ := hrel
          have HQ := Lib.hid (And.intro hq (And.intro hog hbr))
          have hq5 : q ≤ 5 := by omega
          obtain ⟨g1, rfl⟩ : ∃ g1 : Nat, g1 = gk := ⟨_, rfl⟩
          obtain ⟨wq, rfl⟩ : ∃ wq : World, wq = wr := ⟨_, rfl⟩
          obtain ⟨Ag, cg, rfl, hgr, hcg, hmg⟩ := hog.form
          have HG := Lib.hid hgr
          obtain ⟨r0, r1⟩ := blk2 (bheap HS.out.2.2.1 hbr (Nat.le_refl _))
          obtain ⟨hmsr, hcr, hmr⟩ := (HS.out.2.2.2.1.below hbr (Nat.le_refl _)).sl lenMk
          obtain ⟨P, hP⟩ : ∃ P, P = befL (tn : Int) l q := ⟨_, rfl⟩
          have HPP := Lib.hid hP
          rw [← hP] at hcg
          rw [← hP]
          have hPl : P.length ≤ maxLen := Nat.le_trans hcg hmg
          have hPl' : P.length ≤ 9223372036854775807 := hPl
          have hsq := hbr.size
          clear hq hog hbr hgr hP
          by_cases hql : q ≤ 4
          · have hql' : (q : Int) ≤ 4 := by omega
            have hme : mistE (tn : Int) l q = 0 := by unfold mistE; rw [if_neg (by simp [hHM.out.1]), if_neg (by rw [btw_no]; omega)]
            go_wp2_with fail
            refine (Mistaken_any tn A1 l.length c1 l q _ hmsr hcr hmr).mono ?_
            rw [hme, show mistR (tn : Int) l q = mistL l tn q by unfold mistR; rw [if_pos hme]]
            rintro e w7 ⟨vm, rfl, hom, hb7⟩
            have hbq7 := HQ.out.2.2.trans (hb7.mono hsq)
            obtain ⟨Am, cm, rfl, hgm, hcm, hmm⟩ := hom.form
            have HM := Lib.hid (And.intro hgm (And.intro hom (And.intro hbq7 hb7)))
            obtain ⟨M, hM⟩ : ∃ M, M = mistL l (tn : Int) q := ⟨_, rfl⟩
            have HMM := Lib.hid hM
            rw [← hM] at hcm
            rw [← hM]
            have hMl : M.length ≤ maxLen := Nat.le_trans hcm hmm
            clear hgm hom hbq7 hb7 hM hme hmsr hcr hmr r0 r1
            go_wp2_with fail
            go_loopg [16] P.length (fun g i wr => ∃ j : Nat, j + g = P.length ∧ i = .int .i64 j ∧ Below w7.heap.size w7 wr)
            case atStart => exact ⟨0, by omega, rfl, Below.refl _ _⟩
            case round =>
              obtain ⟨j, hj, rfl, hbi⟩ := hrel
              have HJ := Lib.hid hj
              have hjn : j ≤ P.length := by omega
              clear hj
              by_cases hjl : j < P.length
              · have hgp := (HG.out.below HM.out.2.2.2 (Nat.le_refl _)).below hbi (Nat.le_refl _)
                rw [← HPP.out] at hgp
                obtain ⟨bb, oo, C0, x, cx, rfl, hbb, hx, q0, hix, hcx, hmx⟩ := Grid.get hgp hjl
                have hxm : x ∈ M := by rw [HMM.out]; refine bef_mono ?_; rw [← HPP.out]; exact List.mem_of_getElem? hx
                have hdm : decide (x ∈ M) = true := decide_eq_true hxm
                have hgm2 := HM.out.1.below hbi (Nat.le_refl _)
                rw [← HMM.out] at hgm2
                have HPI := Lib.hid (pairIn_any Am M.length cm M C0 x.length cx x wr hgm2 hix hMl (Nat.le_trans hcx hmx))
                have i0 : (0 : Int) ≤ (j : Int) := by omega
                have i1 : (j : Int) < (P.length : Int) := by omega
                clear hgp hx hix hxm hgm2 hbb
                go_wp2_with fail
                refine HPI.out.mono ?_
                rintro e w8 ⟨rfl, hb8⟩
                have hbi8 := hbi.trans (hb8.mono hbi.size)
                clear hb8 q0
                go_wp2
                go_roundg (gk - 1)
                case measure => have := HJ.out; omega
                case rel => exact ⟨j + 1, by have := HJ.out; omega, by go_num, hbi8⟩
              · obtain rfl : j = P.length := by omega
                go_wp2
                go_roundg (g1 - 1)
                case measure => have := HQ.out.1; omega
                case rel =>
                  refine ⟨q + 1, by have := HQ.out.1; omega, by go_num, ?_, HM.out.2.2.1.trans (hbi.mono HM.out.2.2.1.size)⟩
                  rw [bef_succ, HMM.out]
                  exact (HM.out.2.1.below hbi (Nat.le_refl _)).mono hsq
          · obtain rfl : q = 5 := by omega
            have hPn : P = pairsN l.length := by
              rw [HPP.out]
              unfold befL
              rw [if_neg (by omega)]
              exact mist_four (by omega)
            have hPN : P.length = l.length * (l.length - 1) / 2 := by rw [hPn]; exact pairs_len ⟨l.length, by omega⟩
            have h5 : ¬ ((5 : Int) ≤ 4) := by omega
            have HPN := Lib.hid hPN
            clear hPn hPN
            have hlen5 : l.length = 0 ∨ l.length = 1 ∨ l.length = 2 ∨ l.length = 3 ∨ l.length = 4 ∨ l.length = 5 := by omega
            rcases hlen5 with hL | hL | hL | hL | hL | hL
            all_goals
              have hPl := HPN.out
              rw [hL] at hPl
              simp only [Nat.reduceMul, Nat.reduceSub, Nat.reduceDiv] at hPl
              go_wp2_with fail
              refine (marking_any _).mono ?_
              rintro e w8 ⟨rfl, hb8⟩
              go_wp2
              go_ret
              exact ⟨rfl, HS.out.2.2.2.2.trans ((HQ.out.2.2.trans (hb8.mono hsq)).mono HS.out.2.2.2.2.size)⟩
end Go.Proofs.Ytahlicinchehhaa
