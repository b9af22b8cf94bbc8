/- mestalaw03.MarkSure returns true. -/
import Derived.Test.YtahlicinchehhaaMarking
import Derived.Test.YtahlicinchehhaaSightOf
import Derived.Test.YtahlicinchehhaaLawB
namespace Go.Proofs.Ytahlicinchehhaa
open Go.RowKit
set_option linter.unusedVariables false
set_option linter.unusedSimpArgs false

set_option maxRecDepth 100000 in
set_option maxHeartbeats 4000000 in
theorem MarkSure_any (A : Option Addr) (n c : Nat) (nums : List Int) (w : World) (hl : Ints w A n nums) (hn : n ≤ 9223372036854775807) :
    Calls Try.prog 11 #[.slice A n c] w fun e w' => e = .returned (.bool true) ∧ Below w.heap.size w w' := by
  go_enter Try.func11, Try.ntmps11
  go_wp2_with fail
  refine (newHand_any A n c nums _ hl hn).mono ?_
  rintro e w1 ⟨rfl, hh, hb1, hz1⟩
  clear hl
  go_wp2_with fail
  refine (registerOf_any w.heap.size 0 5 _ hh (by omega) (by omega)).mono ?_
  rintro e w2 ⟨t, l, A1, c1, rfl, hck, hl5, hown, hms, hlc, hcm, hd2⟩
  obtain ⟨ht0, ht2, _, _⟩ := check_ok hck
  obtain ⟨tn, rfl⟩ := Int.eq_ofNat_of_zero_le ht0
  have hHM := Lib.hid (And.intro hck hlc)
  have hB2 := hb1.trans ((hd2.below (Nat.le_refl _) (by omega)))
  have hhd := hd2.hd
  have hz2 := hd2.size
  clear hck hms hlc hd2 hb1 hh
  go_upto_region 3 with (fail)
  obtain ⟨W, hW⟩ : ∃ W, W = w2.alloc (Obj.cells #[Value.int .i64 (tn : Int), .slice A1 l.length c1] 24) := ⟨_, rfl⟩
  rw [← hW]
  have bW : W.heap[w2.heap.size]? = some (Obj.cells #[Value.int .i64 (tn : Int), .slice A1 l.length c1] 24 (0, 0)) := by rw [hW]; exact alloc_at rfl
  have hBW : Below w.heap.size w W := by rw [hW]; exact bal hB2 (Nat.le_refl _) _
  have hOW : OwnM W (w.heap.size + 1) (.slice A1 l.length c1) l := by rw [hW, ← hz1]; exact hown.alloc _
  have hHW : Hd W w.heap.size 100 := by rw [hW]; exact hhd.alloc _
  clear hW hB2 hown hhd
  obtain ⟨r0, r1⟩ := blk2 bW
  obtain ⟨hmsW, hcW, hmW⟩ := hOW.sl lenMk
  have hoff : OffH A1 w.heap.size := fun b off e => by
    have := hOW.lt b (by rw [e]; rfl)
    omega
  go_wp2_with fail
  refine (sightOf_any w.heap.size _ tn A1 l.length c1 l _ hHW (by omega) hHM.out.1 hmsW hoff hl5).mono ?_
  rintro e w3 ⟨s, rfl, hs, hd3⟩
  clear r0 r1 hmsW hcW hmW
  unfold vSg
  go_upto_region 4 with (fail)
  obtain ⟨W3, hW⟩ : ∃ W3, W3 = w3.alloc (Obj.cells #[Value.int .i64 s.n, .bool s.l, .bool s.r, .int .i64 s.b, .int .i64 s.p] 28) := ⟨_, rfl⟩
  rw [← hW]
  have bs3 : W3.heap[w3.heap.size]? = some (Obj.cells #[Value.int .i64 s.n, .bool s.l, .bool s.r, .int .i64 s.b, .int .i64 s.p] 28 (0, 0)) := by rw [hW]; exact alloc_at rfl
  have br3 : W3.heap[w2.heap.size]? = some (Obj.cells #[Value.int .i64 (tn : Int), .slice A1 l.length c1] 24 (0, 0)) := by rw [hW]; exact hblk_alloc (hd3.blk bW (by omega)) _
  have hor3 : OwnM W3 (w.heap.size + 1) (.slice A1 l.length c1) l := by rw [hW]; exact (hOW.kept hd3.gr (.inr (fun e => by have := hOW.lt _ e; omega))).alloc _
  have hB3 : Below w.heap.size w W3 := by rw [hW]; exact bal (hBW.trans (hd3.below (Nat.le_refl _) hBW.size)) (Nat.le_refl _) _
  clear hW hd3 bW hOW hBW hHW hoff
  obtain ⟨hms3, hc3, hm3⟩ := hor3.sl lenMk
  obtain ⟨r0, r1⟩ := blk2 br3
  obtain ⟨s0, s1, s2, s3, s4⟩ := blk5 bs3
  have hE : mayE tn l s = 0 := by unfold mayE; rw [if_neg (by simp [hHM.out.1]), hs]
  go_wp2_with fail
  refine (May_any tn A1 l.length c1 l s _ hms3 hc3 hm3).mono ?_
  rw [hE]
  rintro e w4 ⟨v4, rfl, ho4, hb4⟩
  have hR : mayR (tn : Int) l s = mayL tn l s := by unfold mayR; rw [if_pos hE]
  rw [hR] at ho4
  have br4 := bheap br3 hb4 (Nat.le_refl _)
  have bs4 := bheap bs3 hb4 (Nat.le_refl _)
  have hor4 := hor3.below hb4 (Nat.le_refl _)
  have hB4 := hB3.trans (hb4.mono hB3.size)
  clear hb4 br3 bs3 hor3 hB3 hms3 hc3 hm3 r0 r1 s0 s1 s2 s3 s4
  obtain ⟨A4, c4, rfl, hs4, hc4, hm4⟩ := ho4.form lenInt
  have HE := Lib.hid (And.intro hE (And.intro hR hs))
  clear ho4 hE hR hs
  obtain ⟨L, hL⟩ : ∃ L, L = mayL (tn : Int) l s := ⟨_, rfl⟩
  rw [← hL] at hs4 hc4 ⊢
  have HL := Lib.hid hL
  have hLl : L.length ≤ l.length := by rw [hL]; exact mayTo_len _ _ _ _
  clear hL
  have HS4 := Lib.hid hs4
  have HW4 := Lib.hid (And.intro br4 (And.intro bs4 (And.intro hor4 hB4)))
  clear hs4 br4 bs4 hor4 hB4
  go_wp2_with fail
  go_loopg [8, 9] l.length (fun g a i wr => ∃ k : Nat, k + g = l.length ∧ i = .int .i64 k ∧ ∃ at_ : Nat, a = .int .i64 at_ ∧ at_ = (mayTo (tn : Int) l s k).length ∧ Below w4.heap.size w4 wr)
  case atStart => exact ⟨0, by omega, rfl, 0, rfl, by simp [mayTo], Below.refl _ _⟩
  case round =>
    obtain ⟨k, hk, rfl, at_, rfl, hat, hbr⟩ := hrel
    have HK := Lib.hid (And.intro hk hat)
    have hkn : k ≤ l.length := by omega
    have hatl : at_ ≤ k := by rw [hat]; exact mayTo_len _ _ _ _
    clear hk hat
    obtain ⟨r0, r1⟩ := blk2 (bheap HW4.out.1 hbr (Nat.le_refl _))
    obtain ⟨s0, s1, s2, s3, s4⟩ := blk5 (bheap HW4.out.2.1 hbr (Nat.le_refl _))
    by_cases hlt : k < l.length
    · have HLaw := Lib.hid (sure_law (s := s) (k := k) HE.out.1 hlt)
      obtain ⟨hmr, hcr, hmxr⟩ := (HW4.out.2.2.1.below hbr (Nat.le_refl _)).sl lenMk
      go_wp2_with fail
      refine (Verdict_any tn A1 l.length c1 l s k _ hmr hcr hmxr).mono ?_
      rw [HLaw.out.1]
      rintro e w5 ⟨rfl, hb5⟩
      have hbr5 := hbr.trans (hb5.mono hbr.size)
      have hs5 := HS4.out.below hbr5 (Nat.le_refl _)
      have HS5 := Lib.hid hs5
      have hlm : L.length ≤ maxLen := by omega
      clear hb5 hmr hcr hmxr r0 r1 s0 s1 s2 s3 s4 hbr hs5
      obtain ⟨V, hV⟩ : ∃ V, V = verV (tn : Int) l s k := ⟨_, rfl⟩
      rw [← hV]
      have HV := Lib.hid hV
      clear hV
      have hlaw := HLaw.out.2.2
      rw [← HV.out, ← HL.out] at hlaw
      rcases hlaw with ⟨hv, hp, hne, hlen⟩ | ⟨hv, hp, hxa, hlen⟩
      · have HH := Lib.hid (And.intro hne hlen)
        subst hv
        clear hne hlen
        go_wp2_with fail
        refine (place_any A4 L.length c4 L k _ HS5.out hlm).mono ?_
        rintro e w6 ⟨rfl, rfl⟩
        have hpd : decide (placeI L (k : Int) < 0) = true := decide_eq_true (by omega)
        go_wp2_with fail
        refine (sameInts_any A4 L.length c4 L (some ⟨w5.heap.size, 0, none⟩) 1 1 [(k : Int)] _ (HS5.out.alloc _) (ints1 _ _ _) hlm (by decide)).mono ?_
        have hsame : sameL L [(k : Int)] = false := decide_eq_false HH.out.1
        rw [hsame]
        rintro e w7 ⟨rfl, hb7⟩
        have hbr7 : Below w4.heap.size w4 w7 := (bal hbr5 (Nat.le_refl _) _).trans (hb7.mono (by have := hbr5.size; simp; omega))
        clear hb7
        go_wp2
        go_roundg (gk - 1)
        case measure => have := HK.out.1; omega
        case rel => exact ⟨k + 1, by have := HK.out.1; omega, by go_num, at_, rfl, by rw [HH.out.2]; exact HK.out.2, hbr7⟩
      · have hpd : decide (placeI L (k : Int) < 0) = false := decide_eq_false (by omega)
        have HH := Lib.hid (And.intro hxa hlen)
        have hatL : at_ < L.length := by
          have := (List.getElem?_eq_some_iff.1 hxa).1
          rw [HK.out.2]; exact this
        obtain ⟨bb, oo, x, rfl, hbb, hx, q0⟩ := Ints.get HS5.out hatL
        have hxk : x = k := by
          rw [← HK.out.2] at hxa
          rw [hxa] at hx
          cases hx; rfl
        subst hxk
        clear hxa hlen hx hbb
        rcases hv with ⟨hv, hL1⟩ | ⟨hv, hL1⟩
        · have hsame : sameL L [(k : Int)] = true := decide_eq_true hL1
          have hsv := Lib.hid hL1
          subst hv
          clear hL1
          go_wp2_with fail
          refine (place_any _ L.length c4 L k _ HS5.out hlm).mono ?_
          rintro e w6 ⟨rfl, rfl⟩
          go_wp2_with fail
          refine (sameInts_any _ L.length c4 L (some ⟨w5.heap.size, 0, none⟩) 1 1 [(k : Int)] _ (HS5.out.alloc _) (ints1 _ _ _) hlm (by decide)).mono ?_
          rw [hsame]
          rintro e w7 ⟨rfl, hb7⟩
          have hbr7 : Below w4.heap.size w4 w7 := (bal hbr5 (Nat.le_refl _) _).trans (hb7.mono (by have := hbr5.size; simp; omega))
          have q7 := bcell (show (w5.alloc (Obj.cells #[Value.int .i64 (k : Int)] 3)).cell? ⟨bb, oo + at_, none⟩ = some (.int .i64 (k : Int)) from bcell q0 (bal0 w5 _) (Nat.le_refl _)) hb7 (Nat.le_refl _)
          clear hb7 q0
          go_wp2
          go_roundg (gk - 1)
          case measure => have := HK.out.1; omega
          case rel => exact ⟨k + 1, by have := HK.out.1; omega, by go_num, at_ + 1, by go_num, by rw [HH.out.2, HK.out.2], hbr7⟩
        · have hsame : sameL L [(k : Int)] = false := decide_eq_false hL1
          subst hv
          clear hL1
          go_wp2_with fail
          refine (place_any _ L.length c4 L k _ HS5.out hlm).mono ?_
          rintro e w6 ⟨rfl, rfl⟩
          go_wp2_with fail
          refine (sameInts_any _ L.length c4 L (some ⟨w5.heap.size, 0, none⟩) 1 1 [(k : Int)] _ (HS5.out.alloc _) (ints1 _ _ _) hlm (by decide)).mono ?_
          rw [hsame]
          rintro e w7 ⟨rfl, hb7⟩
          have hbr7 : Below w4.heap.size w4 w7 := (bal hbr5 (Nat.le_refl _) _).trans (hb7.mono (by have := hbr5.size; simp; omega))
          have q7 := bcell (show (w5.alloc (Obj.cells #[Value.int .i64 (k : Int)] 3)).cell? ⟨bb, oo + at_, none⟩ = some (.int .i64 (k : Int)) from bcell q0 (bal0 w5 _) (Nat.le_refl _)) hb7 (Nat.le_refl _)
          clear hb7 q0
          go_wp2
          go_roundg (gk - 1)
          case measure => have := HK.out.1; omega
          case rel => exact ⟨k + 1, by have := HK.out.1; omega, by go_num, at_ + 1, by go_num, by rw [HH.out.2, HK.out.2], hbr7⟩
    · obtain rfl : k = l.length := by omega
      have hfin : at_ = L.length := by rw [HK.out.2, HL.out]; rfl
      subst hfin
      have h1 : (L.length == L.length) = true := by simp
      have h1' : ((L.length : Int) == (L.length : Int)) = true := by simp
      go_wp2_with fail
      refine (marking_any _).mono ?_
      rintro e w5 ⟨rfl, hb5⟩
      go_wp2
      go_ret
      exact ⟨rfl, HW4.out.2.2.2.trans ((hbr.trans (hb5.mono hbr.size)).mono HW4.out.2.2.2.size)⟩
end Go.Proofs.Ytahlicinchehhaa
