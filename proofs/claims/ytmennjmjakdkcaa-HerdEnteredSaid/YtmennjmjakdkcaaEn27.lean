/- HerdEntered 27: HdZ. -/
import Derived.Test.YtmennjmjakdkcaaEn26
namespace Go.Proofs.Ytmennjmjakdkcaa
open Go.RowKit Go.MapKept
set_option linter.unusedVariables false
set_option linter.unusedSimpArgs false

theorem deedsE_snoc (n nf : Nat) : ∀ (l : List De) (d : De), deedsE n nf l = 0 → deedsE n nf (l ++ [d]) = deedE n nf d
  | [], d, _ => by unfold deedsE; simp [deedsE]; intro h; exact h.symm
  | x :: l, d, h => by
    unfold deedsE at h
    split at h
    · rename_i h1; exact absurd h h1
    · rename_i h1
      rw [List.cons_append]
      conv => lhs; unfold deedsE
      rw [if_neg h1]
      exact deedsE_snoc n nf l d h
theorem deedsE_stop (n nf : Nat) : ∀ (l m : List De), deedsE n nf l ≠ 0 → deedsE n nf (l ++ m) = deedsE n nf l
  | [], m, h => absurd rfl h
  | x :: l, m, h => by
    rw [List.cons_append]
    unfold deedsE at h ⊢
    split
    · rfl
    · rename_i h1
      rw [if_neg h1] at h
      exact deedsE_stop n nf l m h
theorem blk5c {w : World} {b : Nat} {t : TypeId} {v0 v1 v2 v3 v4 : Value} (h : w.heap[b]? = some (.cells #[v0, v1, v2, v3, v4] t (0, 0))) : w.cell? ⟨b, 0, none⟩ = some v0 ∧ w.cell? ⟨b, 1, none⟩ = some v1 ∧ w.cell? ⟨b, 2, none⟩ = some v2 ∧ w.cell? ⟨b, 3, none⟩ = some v3 ∧ w.cell? ⟨b, 4, none⟩ = some v4 := blk5 h
/-- the block of a herd book -/
abbrev Hb.obj (b : Hb) : Obj := .cells #[.int .i64 b.t, .slice b.A b.l.length b.c, .slice b.Ak b.ks.length b.ck, .slice b.Ah b.hs.length b.ch, .slice b.Ad b.ds.length b.cd] 29 (0, 0)

set_option maxRecDepth 100000 in
set_option maxHeartbeats 1000000 in
theorem CheckH_any (b : Hb) (w : World) (hin : HbIn w b) :
    Calls Try.prog 94 #[b.v] w fun e w' => e = .returned (.int .i64 b.chk) ∧ Below w.heap.size w w' := by
  obtain ⟨V, hV⟩ : ∃ V, V = w.alloc b.obj := ⟨_, rfl⟩
  obtain ⟨g, hg⟩ : ∃ g, g = w.heap.size := ⟨_, rfl⟩
  have b0 : V.heap[g]? = some b.obj := by rw [hV, hg]; exact alloc_at rfl
  have hBV : Below w.heap.size w V := by rw [hV]; exact bal0 w _
  have hiV := hin.below hBV (Nat.le_refl _)
  obtain ⟨c0, c1, c2, c3, c4⟩ := blk5c b0
  have hmk := check_any b.t b.A b.l.length b.c b.l V hiV.m hiV.mc hiV.mm
  have HV := Lib.hid (And.intro hBV (And.intro b0 (And.intro hiV hg)))
  have hdm : b.ds.length ≤ maxLen := Nat.le_trans hin.dc hin.dm
  unfold maxLen at hdm
  unfold Hb.v
  go_enter Try.func94, Try.ntmps94
  go_upto_region 1 with (fail)
  rw [← hV, ← hg]
  clear hV hg hin hBV hiV b0
  obtain ⟨ck, hck⟩ : ∃ ck, ck = check b.t b.l := ⟨_, rfl⟩
  rw [← hck] at hmk
  by_cases h0 : ck = 0
  · subst h0
    have HCK := Lib.hid hck.symm
    clear hck
    go_upto_region 4 with (go_at_call 58; refine hmk.mono ?_; rintro e w2 ⟨rfl, hb2⟩)
    have x0 := bheap HV.out.2.1 hb2 (Nat.le_refl _)
    have hi2 := HV.out.2.2.1.below hb2 (Nat.le_refl _)
    have hB2 := HV.out.1.trans (hb2.mono HV.out.1.size)
    clear c0 c1 c2 c3 c4 hmk hb2
    obtain ⟨c0, c1, c2, c3, c4⟩ := blk5c x0
    have H2 := Lib.hid (And.intro hB2 (And.intro x0 hi2))
    clear x0 hi2 hB2
    have hbg := begin_any b w2
    unfold Hb.v at hbg
    go_upto_region 5 with (go_at_call 85; refine hbg.mono ?_; rintro e w3 ⟨p, rfl, hp, hpb, hb3⟩)
    have x0 := bheap H2.out.2.1 hb3 (Nat.le_refl _)
    have hi3 := H2.out.2.2.below hb3 (Nat.le_refl _)
    have hB3 := H2.out.1.trans (hb3.mono H2.out.1.size)
    have hfl := flocks_any p b (-1) 0 0 w3 hpb hi3
    clear c0 c1 c2 c3 c4 hbg hb3 hp
    obtain ⟨c0, c1, c2, c3, c4⟩ := blk5c x0
    have H3 := Lib.hid (And.intro hB3 (And.intro x0 (And.intro hi3 hpb)))
    clear x0 hi3 hB3 hpb
    obtain ⟨fe, hfe⟩ : ∃ fe, fe = flocksE b.l.length b.ks b.hs := ⟨_, rfl⟩
    rw [← hfe] at hfl
    by_cases hf0 : fe = 0
    · subst hf0
      have HFE := Lib.hid hfe.symm
      clear hfe
      have hchk : b.chk = if 6 < b.ds.length then 6 else deedsE b.l.length b.ks.length b.ds := by
        unfold Hb.chk checkH
        rw [if_neg (by rw [HCK.out]; simp), if_neg (by rw [HFE.out]; simp)]
      have HCH := Lib.hid hchk
      clear hchk
      by_cases h6 : 6 < b.ds.length
      · have x6 : decide (6 < (b.ds.length : Int)) = true := by simp; omega
        have HL := Lib.hid h6
        clear h6
        go_wp2_with (go_at_call 112; refine hfl.mono ?_; rintro e w' ⟨rfl, rfl⟩)
        go_ret
        exact ⟨ret_int (by rw [HCH.out, if_pos HL.out]), H3.out.1⟩
      · have x6 : decide (6 < (b.ds.length : Int)) = false := by simp; omega
        have HL := Lib.hid h6
        clear h6
        obtain ⟨Ad, hAd⟩ : ∃ Ad, Ad = b.Ad := ⟨_, rfl⟩
        rw [← hAd] at c4
        have hG := H3.out.2.2.1.d
        rw [← hAd] at hG
        obtain ⟨nd, hnd⟩ : ∃ nd, nd = b.ds.length := ⟨_, rfl⟩
        rw [← hnd] at c4 hG x6 hdm
        have HND := Lib.hid hnd
        have hg3 : p < w3.heap.size := heap_lt H3.out.2.2.2
        clear hAd hnd
        go_wp2_with (go_at_call 112; refine hfl.mono ?_; rintro e w' ⟨rfl, rfl⟩)
        go_loopg [29] nd (fun g v wr => ∃ k : Nat, k + g = nd ∧ v = .int .i64 k ∧ deedsE b.l.length b.ks.length (b.ds.take k) = 0 ∧ Below w3.heap.size w3 wr)
        case atStart => exact ⟨0, by omega, rfl, rfl, Below.refl _ _⟩
        case round =>
          obtain ⟨k, hk, rfl, hall, hBr⟩ := hrel
          have HK := Lib.hid (And.intro hk (And.intro hall hBr))
          by_cases hlt : k < nd
          · obtain ⟨bi, oi, d, hA, hbi, hdk, d0, d1, d2, d3, d4, d5, d6, d7, d8, d9, d10, d11⟩ := Deeds.get (hG.below hBr (Nat.le_refl _)) hlt
            subst hA
            have HD := Lib.hid hdk
            have bz : (wr.alloc dZ).heap[wr.heap.size]? = some dZ := alloc_at rfl
            clear hk hall hBr hbi hdk
            go_upto_region 13 with ((with_reducible apply wp_storeD bz rfl); (rfl); (rfl); (rfl); (rfl); intro w5 b5 g5 z5)
            obtain ⟨gx, hgx⟩ : ∃ gx, gx = wr.heap.size := ⟨_, rfl⟩
            have hg5 : wr.grownBy w5 none := ⟨g5.os, g5.tape, g5.output, by rw [z5]; simp, fun j hj _ => (g5.block j (by simp; omega) (fun e => by cases e; omega)).trans (Below.heap_alloc _ _ _ hj)⟩
            have hB5 : Below w3.heap.size w3 w5 := HK.out.2.2.trans ((Below.refl _ _).grown hg5 HK.out.2.2.size (fun k e => by cases e))
            have hcd := checkD_any p b (-1) 0 0 d w5 (bheap H3.out.2.2.2 hB5 (Nat.le_refl _)) (H3.out.2.2.1.below hB5 (Nat.le_refl _)) HCK.out
            unfold dv at hcd
            obtain ⟨de, hde⟩ : ∃ de, de = deedE b.l.length b.ks.length d := ⟨_, rfl⟩
            rw [← hde] at hcd
            rw [← hgx] at b5 ⊢
            obtain ⟨y0, y1, y2, y3, y4, y5, y6, y7, y8, y9, y10, y11⟩ := blkD b5
            have H5 := Lib.hid hB5
            clear hgx z5 g5 hg5 hB5 bz b5 d0 d1 d2 d3 d4 d5 d6 d7 d8 d9 d10 d11
            have htk : b.ds.take (k + 1) = b.ds.take k ++ [d] := by rw [List.take_add_one, HD.out]; rfl
            have HTK := Lib.hid htk
            clear htk
            by_cases hd0 : de = 0
            · subst hd0
              have HDE := Lib.hid hde.symm
              clear hde
              go_wp2_with (go_at_call 83; refine hcd.mono ?_; rintro e w6 ⟨rfl, hb6⟩)
              go_roundg (gk - 1)
              case measure => have := HK.out.1; omega
              case rel => exact ⟨k + 1, by have := HK.out.1; omega, by go_num, by rw [HTK.out, deedsE_snoc _ _ _ _ HK.out.2.1]; exact HDE.out, H5.out.trans (hb6.mono H5.out.size)⟩
            · have xd : (de != 0) = true := by simp [hd0]
              have HD0 := Lib.hid (And.intro hd0 hde)
              clear hd0 hde
              go_wp2_with (go_at_call 83; refine hcd.mono ?_; rintro e w6 ⟨rfl, hb6⟩)
              go_ret
              refine ⟨ret_int ?_, H3.out.1.trans ((H5.out.trans (hb6.mono H5.out.size)).mono H3.out.1.size)⟩
              rw [HCH.out, if_neg HL.out, ← List.take_append_drop (k + 1) b.ds, deedsE_stop, HTK.out, deedsE_snoc _ _ _ _ HK.out.2.1]
              · exact HD0.out.2
              · rw [HTK.out, deedsE_snoc _ _ _ _ HK.out.2.1, ← HD0.out.2]; exact HD0.out.1
          · obtain rfl : k = nd := by omega
            have HE := Lib.hid (show b.chk = 0 by rw [HCH.out, if_neg HL.out]; have := HK.out.2.1; rw [HND.out, List.take_length] at this; exact this)
            have HB := Lib.hid (H3.out.1.trans (hBr.mono H3.out.1.size))
            clear hk hall hBr
            go_wp2_with fail
            go_ret
            exact ⟨ret_int HE.out.symm, HB.out⟩
    · have xf : (fe != 0) = true := by simp [hf0]
      have HF0 := Lib.hid (And.intro hf0 hfe)
      clear hf0 hfe
      go_wp2_with (go_at_call 112; refine hfl.mono ?_; rintro e w' ⟨rfl, rfl⟩)
      go_ret
      refine ⟨ret_int ?_, H3.out.1⟩
      unfold Hb.chk checkH
      rw [if_neg (by rw [HCK.out]; simp), ← HF0.out.2, if_pos HF0.out.1]
  · have xf : (ck != 0) = true := by simp [h0]
    have HF0 := Lib.hid (And.intro h0 hck)
    clear h0 hck
    go_wp2_with (go_at_call 58; refine hmk.mono ?_; rintro e w2 ⟨rfl, hb2⟩)
    go_ret
    refine ⟨ret_int ?_, HV.out.1.trans (hb2.mono HV.out.1.size)⟩
    unfold Hb.chk checkH
    rw [← HF0.out.2, if_pos HF0.out.1]

def AskedR (b : Hb) (ck : Int) (w : World) (e : Ending) (w' : World) : Prop := (ck ≠ 0 ∧ e = .returned (.tuple #[.pointer none, .int .i64 ck]) ∧ Below w.heap.size w w') ∨
      (ck = 0 ∧ ∃ p, e = .returned (.tuple #[.pointer (some ⟨p, 0, none⟩), .int .i64 0]) ∧ Work w p b (-1) 0 w' ∧ Below w.heap.size w w')
set_option maxRecDepth 100000 in
set_option maxHeartbeats 1000000 in
theorem asked_any (b : Hb) (w : World) (hin : HbIn w b) :
    Calls Try.prog 55 #[b.v] w (AskedR b b.chk w) := by
  obtain ⟨V, hV⟩ : ∃ V, V = w.alloc b.obj := ⟨_, rfl⟩
  obtain ⟨g, hg⟩ : ∃ g, g = w.heap.size := ⟨_, rfl⟩
  have b0 : V.heap[g]? = some b.obj := by rw [hV, hg]; exact alloc_at rfl
  have hBV : Below w.heap.size w V := by rw [hV]; exact bal0 w _
  have hiV := hin.below hBV (Nat.le_refl _)
  obtain ⟨c0, c1, c2, c3, c4⟩ := blk5c b0
  have hck := CheckH_any b V hiV
  unfold Hb.v at hck
  obtain ⟨ce, hce⟩ : ∃ ce, ce = b.chk := ⟨_, rfl⟩
  rw [← hce] at hck ⊢
  have HV := Lib.hid (And.intro hBV (And.intro b0 (And.intro hin (And.intro hg hce.symm))))
  unfold Hb.v
  go_enter Try.func55, Try.ntmps55
  go_upto_region 1 with (fail)
  rw [← hV, ← hg]
  clear hV hg hin hBV hiV b0 hce
  by_cases h0 : ce = 0
  · subst h0
    go_upto_region 4 with (go_at_call 94; refine hck.mono ?_; rintro e w2 ⟨rfl, hb2⟩)
    have x0 := bheap HV.out.2.1 hb2 (Nat.le_refl _)
    have hB2 := HV.out.1.trans (hb2.mono HV.out.1.size)
    clear c0 c1 c2 c3 c4 hck hb2
    obtain ⟨c0, c1, c2, c3, c4⟩ := blk5c x0
    have H2 := Lib.hid hB2
    have hbg := begin_any b w2
    unfold Hb.v at hbg
    clear x0 hB2
    go_wp2_with (go_at_call 85; refine hbg.mono ?_; rintro e w3 ⟨p, rfl, hp, hpb, hb3⟩)
    go_ret2
    have hB3 := H2.out.trans (hb3.mono H2.out.size)
    exact .inr ⟨rfl, p, rfl, ⟨HV.out.2.2.1, Nat.le_trans H2.out.size hp, hB3, ⟨_, hpb⟩, HV.out.2.2.2.2⟩, hB3⟩
  · have xf : (ce != 0) = true := by simp [h0]
    have H0 := Lib.hid h0
    clear h0
    go_wp2_with (go_at_call 94; refine hck.mono ?_; rintro e w2 ⟨rfl, hb2⟩)
    go_ret2
    exact .inl ⟨H0.out, rfl, HV.out.1.trans (hb2.mono HV.out.1.size)⟩
end Go.Proofs.Ytmennjmjakdkcaa
