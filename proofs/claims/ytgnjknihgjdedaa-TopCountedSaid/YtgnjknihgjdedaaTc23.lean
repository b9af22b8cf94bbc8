/- TopCounted 23: Ent, HdD. -/
import Derived.Test.YtgnjknihgjdedaaTc14
import Derived.Test.YtgnjknihgjdedaaTc13
import Derived.Test.YtgnjknihgjdedaaTc22
namespace Go.Proofs.Ytgnjknihgjdedaa
open Go.RowKit
set_option linter.unusedVariables false
set_option linter.unusedSimpArgs false

theorem checkH_snoc {t : Int} {l : List Mk} {ks : List Int} {hs : List (List Int)} {ds : List De} {d : De} (h : checkH t l ks hs ds = 0) (h6 : ds.length < 6) (hd : deedE l.length ks.length d = 0) : checkH t l ks hs (ds ++ [d]) = 0 := by
  unfold checkH at h ⊢
  by_cases h1 : check t l = 0
  · rw [if_neg (by rw [h1]; simp)] at h ⊢
    by_cases h2 : flocksE l.length ks hs = 0
    · rw [if_neg (by rw [h2]; simp)] at h ⊢
      rw [if_neg (by omega)] at h
      rw [if_neg (by rw [List.length_append, List.length_singleton]; omega)]
      rw [deedsE_snoc _ _ ds d h]
      exact hd
    · rw [if_pos h2] at h; exact absurd h h2
  · rw [if_pos h1] at h; exact absurd h h1
def enterE (b : Hb) (d : De) : Int :=
  if b.chk ≠ 0 then b.chk else if 6 ≤ b.ds.length then 6 else if deedE b.l.length b.ks.length d ≠ 0 then deedE b.l.length b.ks.length d
  else if b.ends (-1) 0 ≠ [] ∧ endsL b.t b.l b.hs (b.ds ++ [d]) (-1) 0 = [] then 12 else 0
def EnterR (b : Hb) (d : De) (w : World) (e : Ending) (w' : World) : Prop :=
  ((enterE b d = 0 ∧ ∃ A c Ak ck Ah ch Ad cd, e = .returned (.tuple #[Hb.v ⟨b.t, A, c, b.l, Ak, ck, b.ks, Ah, ch, b.hs, Ad, cd, b.ds ++ [d]⟩, .int .i64 0]) ∧ HbO w' w.heap.size ⟨b.t, A, c, b.l, Ak, ck, b.ks, Ah, ch, b.hs, Ad, cd, b.ds ++ [d]⟩) ∨
    (enterE b d ≠ 0 ∧ e = .returned (.tuple #[.agg #[.int .i64 0, .slice none 0 0, .slice none 0 0, .slice none 0 0, .slice none 0 0], .int .i64 (enterE b d)]))) ∧ Below w.heap.size w w'
theorem enter_zero {q : Nat} {w W Z : World} (h : W.heap[q]? = some (boxO 0 (.slice none 0 0) (.slice none 0 0) (.slice none 0 0) (.slice none 0 0)))
    (hZ : Z = (((((W.setCell ⟨q, 0, none⟩ (.int .i64 0)).setCell ⟨q, 1, none⟩ (.slice none 0 0)).setCell ⟨q, 2, none⟩ (.slice none 0 0)).setCell ⟨q, 3, none⟩ (.slice none 0 0)).setCell ⟨q, 4, none⟩ (.slice none 0 0)))
    (hB : Below w.heap.size w W) (hq : w.heap.size ≤ q) : Z.heap[q]? = some (boxO 0 (.slice none 0 0) (.slice none 0 0) (.slice none 0 0) (.slice none 0 0)) ∧ Below w.heap.size w Z := by
  subst hZ
  refine ⟨(set_blk (set_blk (set_blk (set_blk (set_blk h))))).trans (by simp [boxO]), ?_⟩
  exact Below.setCell (Below.setCell (Below.setCell (Below.setCell (Below.setCell hB (p := ⟨q, 0, none⟩) hq _) (p := ⟨q, 1, none⟩) hq _) (p := ⟨q, 2, none⟩) hq _) (p := ⟨q, 3, none⟩) hq _) (p := ⟨q, 4, none⟩) hq _
theorem enter_put {q : Nat} {w W Z : World} {t : Int} {v1 v2 v3 v4 : Value} (h : W.heap[q]? = some (boxO 0 (.slice none 0 0) (.slice none 0 0) (.slice none 0 0) (.slice none 0 0)))
    (hZ : Z = (((((W.setCell ⟨q, 0, none⟩ (.int .i64 t)).setCell ⟨q, 1, none⟩ v1).setCell ⟨q, 2, none⟩ v2).setCell ⟨q, 3, none⟩ v3).setCell ⟨q, 4, none⟩ v4))
    (hB : Below w.heap.size w W) (hq : w.heap.size ≤ q) : Z.heap[q]? = some (boxO t v1 v2 v3 v4) ∧ Below w.heap.size w Z ∧ W.grownBy Z (some q) := by
  have hz : Z.heap[q]? = some (boxO t v1 v2 v3 v4) := by
    rw [hZ]
    have h0 := set_blk (i := 0) (v := .int .i64 t) h
    have h1 := set_blk (i := 1) (v := v1) h0
    have h2 := set_blk (i := 2) (v := v2) h1
    have h3 := set_blk (i := 3) (v := v3) h2
    have h4 := set_blk (i := 4) (v := v4) h3
    exact h4.trans (by simp [boxO])
  have hfar : ∀ j, j ≠ q → Z.heap[j]? = W.heap[j]? := fun j hj => by
    rw [hZ, Below.heap_setCell _ ⟨q, 4, none⟩ _ j hj, Below.heap_setCell _ ⟨q, 3, none⟩ _ j hj, Below.heap_setCell _ ⟨q, 2, none⟩ _ j hj, Below.heap_setCell _ ⟨q, 1, none⟩ _ j hj, Below.heap_setCell _ ⟨q, 0, none⟩ _ j hj]
  have hbl : Below W.heap.size W W := Below.refl _ _
  have hq0 : (0 : Nat) ≤ q := Nat.zero_le _
  have hb0 : Below 0 W Z := by
    rw [hZ]
    exact Below.setCell (Below.setCell (Below.setCell (Below.setCell (Below.setCell (hbl.mono (Nat.zero_le _)) (p := ⟨q, 0, none⟩) hq0 _) (p := ⟨q, 1, none⟩) hq0 _) (p := ⟨q, 2, none⟩) hq0 _) (p := ⟨q, 3, none⟩) hq0 _) (p := ⟨q, 4, none⟩) hq0 _
  have hg : W.grownBy Z (some q) := ⟨hb0.os, hb0.tape, hb0.output, hb0.size, fun j _ hne => hfar j fun e => hne (by rw [e])⟩
  exact ⟨hz, hB.grown hg hB.size (fun k e => by cases e; exact hq), hg⟩
theorem HbO.keptG {w w' : World} {base H : Nat} {b : Hb} (h : HbO w base b) (hg : w.grownBy w' (some H)) (hH : H < base) : HbO w' base b := ⟨h.m.keptH hg hH, h.k.keptH hg hH, h.h.keptH hg hH, h.d.keptH hg hH⟩
theorem HbO.now {w w' : World} {base p : Nat} {b : Hb} {O : Int → Obj} (h : HbO w base b) (hN : NowIn p O w w') (hp : p < base) : HbO w' base b :=
  h.keptG ⟨hN.os, hN.tape, hN.output, hN.size, fun j hj hne => hN.block j hj fun e => hne (by rw [e])⟩ hp
set_option maxRecDepth 100000 in
set_option maxHeartbeats 1000000 in
theorem Enter_any (b : Hb) (d : De) (w : World) (hin : HbIn w b) : Calls Try.prog 24 #[b.v, dv d] w (EnterR b d w) := by
  obtain ⟨V, hV⟩ : ∃ V, V = ((w.alloc b.obj).alloc (dObj d)).alloc (Obj.cells #[.int .i64 0, .slice none 0 0, .slice none 0 0, .slice none 0 0, .slice none 0 0] 64) := ⟨_, rfl⟩
  obtain ⟨g, hg⟩ : ∃ g, g = w.heap.size := ⟨_, rfl⟩
  have b0 : V.heap[g]? = some b.obj := by rw [hV, hg]; exact hblk_alloc (hblk_alloc (alloc_at rfl) _) _
  have b1 : V.heap[g + 1]? = some (dObj d) := by rw [hV, hg]; exact hblk_alloc (alloc_at (by simp)) _
  have b2 : V.heap[g + 1 + 1]? = some (boxO 0 (.slice none 0 0) (.slice none 0 0) (.slice none 0 0) (.slice none 0 0)) := by rw [hV, hg]; exact alloc_at (by simp)
  have hBV : Below w.heap.size w V := by rw [hV]; exact bal (bal (bal0 w _) (Nat.le_refl _) _) (Nat.le_refl _) _
  have hiV := hin.below hBV (Nat.le_refl _)
  have hzV : V.heap.size = g + 3 := by rw [hV, hg]; simp
  obtain ⟨c0, c1, c2, c3, c4⟩ := blk5c b0
  have hak := asked_any b V hiV
  unfold Hb.v at hak
  have HGW := Lib.hid hg
  have HV := Lib.hid (And.intro hBV (And.intro b0 (And.intro b1 (And.intro b2 (And.intro hiV (And.intro hzV hg))))))
  unfold Hb.v dv
  go_enter Try.func24, Try.ntmps24
  go_upto_region 1 with (fail)
  rw [← hV, ← hg]
  have hg0 := heap_lt b0
  have hg1 := heap_lt b1
  have hg2 := heap_lt b2
  clear hV hg hin hBV hiV b0 b1 b2 hzV
  obtain ⟨R, hR⟩ : ∃ R, R = AskedR b b.chk V := ⟨_, rfl⟩
  rw [← hR] at hak
  have HR := Lib.hid hR
  clear hR
  go_upto_region 2 with (go_at_call 54; refine hak.mono ?_; rintro e w2 hRR; rw [HR.out] at hRR; unfold AskedR at hRR; rcases hRR with ⟨h0, rfl, hb2⟩ | ⟨h0, p, rfl, hWk, hb2⟩)
  · have xf : (b.chk != 0) = true := by simp [h0]
    have y2 := bheap HV.out.2.2.2.1 hb2 (Nat.le_refl _)
    have hB2 := HV.out.1.trans (hb2.mono HV.out.1.size)
    have hee : enterE b d = b.chk := by unfold enterE; rw [if_pos h0]
    have HH0 := Lib.hid h0
    have HEE := Lib.hid hee
    clear h0 hee
    obtain ⟨d0, d1, d2, d3, d4⟩ := blk5 y2
    obtain ⟨e0, e1, e2, e3, e4⟩ := And.intro (frz y2 0) (And.intro (frz y2 1) (And.intro (frz y2 2) (And.intro (frz y2 3) (frz y2 4))))
    have hl2 := heap_lt y2
    have HY := Lib.hid (And.intro y2 hB2)
    clear y2
    go_wp2_with fail
    obtain ⟨Z, hZ⟩ : ∃ Z, Z = (((((w2.setCell ⟨g + 1 + 1, 0, none⟩ (.int .i64 0)).setCell ⟨g + 1 + 1, 1, none⟩ (.slice none 0 0)).setCell ⟨g + 1 + 1, 2, none⟩ (.slice none 0 0)).setCell ⟨g + 1 + 1, 3, none⟩ (.slice none 0 0)).setCell ⟨g + 1 + 1, 4, none⟩ (.slice none 0 0)) := ⟨_, rfl⟩
    rw [← hZ]
    obtain ⟨hzb, hBz⟩ := enter_zero HY.out.1 hZ HY.out.2 (by rw [← HGW.out]; omega)
    clear hZ
    obtain ⟨p0, p1, p2, p3, p4⟩ := blk5 hzb
    have hlz := heap_lt hzb
    have HZ := Lib.hid hBz
    have HE := Lib.hid (And.intro (HEE.out) (HH0.out))
    clear hzb hBz d0 d1 d2 d3 d4 e0 e1 e2 e3 e4
    refine bodyPost_ret (v := .tuple #[.agg #[.int .i64 0, .slice none 0 0, .slice none 0 0, .slice none 0 0, .slice none 0 0], .int .i64 (b.chk)]) (by simp [results, Try.f24, go_sem, p0, p1, p2, p3, p4, hlz]) rfl ⟨.inr ⟨by rw [HE.out.1]; exact HE.out.2, by rw [HE.out.1]⟩, HZ.out⟩
  have hB2 := HV.out.1.trans (hb2.mono HV.out.1.size)
  have x2 := bheap HV.out.2.1 hb2 (Nat.le_refl _)
  have z2 := bheap HV.out.2.2.1 hb2 (Nat.le_refl _)
  have y2 := bheap HV.out.2.2.2.1 hb2 (Nat.le_refl _)
  have hok := hWk.ok
  have hgp : g + 1 + 1 < p := by have := hWk.hz; omega
  have hpl := hWk.lt
  clear c0 c1 c2 c3 c4 hak
  obtain ⟨c0, c1, c2, c3, c4⟩ := blk5c x2
  have hd6 := hok.d6
  have hs2 := hb2.size
  have H2 := Lib.hid (And.intro hB2 (And.intro x2 (And.intro z2 (And.intro hWk (And.intro h0 hok)))))
  clear h0 hok x2 z2 hb2 hs2
  by_cases h6 : 6 ≤ b.ds.length
  · have hee : enterE b d = 6 := by unfold enterE; rw [if_neg (by rw [H2.out.2.2.2.2.1]; simp), if_pos h6]
    have HEE := Lib.hid hee
    have h6' : (6 : Int) ≤ (b.ds.length : Int) := by omega
    clear hee h6 hWk
    obtain ⟨d0, d1, d2, d3, d4⟩ := blk5 y2
    obtain ⟨e0, e1, e2, e3, e4⟩ := And.intro (frz y2 0) (And.intro (frz y2 1) (And.intro (frz y2 2) (And.intro (frz y2 3) (frz y2 4))))
    have hl2 := heap_lt y2
    have HY := Lib.hid (And.intro y2 hB2)
    clear y2
    go_wp2_with fail
    obtain ⟨Z, hZ⟩ : ∃ Z, Z = (((((w2.setCell ⟨g + 1 + 1, 0, none⟩ (.int .i64 0)).setCell ⟨g + 1 + 1, 1, none⟩ (.slice none 0 0)).setCell ⟨g + 1 + 1, 2, none⟩ (.slice none 0 0)).setCell ⟨g + 1 + 1, 3, none⟩ (.slice none 0 0)).setCell ⟨g + 1 + 1, 4, none⟩ (.slice none 0 0)) := ⟨_, rfl⟩
    rw [← hZ]
    obtain ⟨hzb, hBz⟩ := enter_zero HY.out.1 hZ HY.out.2 (by rw [← HGW.out]; omega)
    clear hZ
    obtain ⟨p0, p1, p2, p3, p4⟩ := blk5 hzb
    have hlz := heap_lt hzb
    have HZ := Lib.hid hBz
    have HE := Lib.hid (And.intro (HEE.out) (show (6 : Int) ≠ 0 by decide))
    clear hzb hBz d0 d1 d2 d3 d4 e0 e1 e2 e3 e4
    refine bodyPost_ret (v := .tuple #[.agg #[.int .i64 0, .slice none 0 0, .slice none 0 0, .slice none 0 0, .slice none 0 0], .int .i64 (6)]) (by simp [results, Try.f24, go_sem, p0, p1, p2, p3, p4, hlz]) rfl ⟨.inr ⟨by rw [HE.out.1]; exact HE.out.2, by rw [HE.out.1]⟩, HZ.out⟩
  obtain ⟨now, hpb⟩ := hWk.hp
  have hcd := checkD_any p b (-1) 0 now d w2 hpb hWk.inn H2.out.2.2.2.2.2.ck
  unfold dv at hcd
  obtain ⟨z0, z1, z2, z3, z4, z5, z6, z7, z8, z9, z10, z11⟩ := blkD H2.out.2.2.1
  have hlg0 := heap_lt H2.out.2.1
  have hlg1 := heap_lt H2.out.2.2.1
  have h6' : ¬ (6 : Int) ≤ (b.ds.length : Int) := by omega
  obtain ⟨E, hE⟩ : ∃ E, E = deedE b.l.length b.ks.length d := ⟨_, rfl⟩
  rw [← hE] at hcd
  have HE2 := Lib.hid hE
  have H6' := Lib.hid h6
  clear hE hpb hWk h6
  go_upto_region 7 with (go_at_call 55; refine hcd.mono ?_; rintro e w3 ⟨rfl, hb3⟩)
  have hB3 := hB2.trans (hb3.mono hB2.size)
  have y3 := bheap y2 hb3 (Nat.le_refl _)
  have x3 := bheap H2.out.2.1 hb3 (Nat.le_refl _)
  have u3 := bheap H2.out.2.2.1 hb3 (Nat.le_refl _)
  have hs3 := hb3.size
  have HB3 := Lib.hid hb3
  clear c0 c1 c2 c3 c4 z0 z1 z2 z3 z4 z5 z6 z7 z8 z9 z10 z11 hb3 y2 hcd
  by_cases hE0 : E = 0
  · subst hE0
    obtain ⟨c0, c1, c2, c3, c4⟩ := blk5c x3
    obtain ⟨z0, z1, z2, z3, z4, z5, z6, z7, z8, z9, z10, z11⟩ := blkD u3
    have hob := own_any b w3 (H2.out.2.2.2.1.inn.below HB3.out (Nat.le_refl _)) (by have := H2.out.2.2.2.2.2.n5; omega) (by have := H2.out.2.2.2.2.2.f3; omega) (by have := H2.out.2.2.2.2.2.f3; have := H2.out.2.2.2.2.2.hl; omega) (by omega) (fun r hr => by have := H2.out.2.2.2.2.2.n5; have := H2.out.2.2.2.2.2.rl r hr; omega)
    unfold Hb.v at hob
    have H3 := Lib.hid (And.intro x3 (And.intro u3 (And.intro y3 hB3)))
    clear x3 u3 y3 hB3 hB2
    go_upto_region 10 with (go_at_call 56; refine hob.mono ?_; rintro e w4 ⟨⟨A1, a1, Ak, ak, Ah, ah, Ad, ad, rfl, hO⟩, hb4⟩; unfold Hb.v; dsimp only)
    obtain ⟨q, hq⟩ : ∃ q, q = w4.heap.size := ⟨_, rfl⟩
    obtain ⟨w5, hw5⟩ : ∃ w5, w5 = w4.alloc (Obj.cells #[Value.int .i64 b.t, .slice A1 b.l.length a1, .slice Ak b.ks.length ak, .slice Ah b.hs.length ah, .slice Ad b.ds.length ad] 64) := ⟨_, rfl⟩
    rw [← hw5, ← hq]
    have q5 : w5.heap[q]? = some (boxO b.t (.slice A1 b.l.length a1) (.slice Ak b.ks.length ak) (.slice Ah b.hs.length ah) (.slice Ad b.ds.length ad)) := by rw [hw5, hq]; exact alloc_at rfl
    have hb5 : Below w3.heap.size w3 w5 := by rw [hw5]; exact bal hb4 (Nat.le_refl _) _
    have hO5 : HbO w5 w3.heap.size ⟨b.t, A1, a1, b.l, Ak, ak, b.ks, Ah, ah, b.hs, Ad, ad, b.ds⟩ := by rw [hw5]; exact hO.below (bal0 w4 _) (Nat.le_refl _)
    have hsq : w3.heap.size ≤ q := by rw [hq]; exact hb4.size
    clear hw5 hq hO hb4 hob c0 c1 c2 c3 c4 z0 z1 z2 z3 z4 z5 z6 z7 z8 z9 z10 z11
    have u5 := bheap H3.out.2.1 hb5 (Nat.le_refl _)
    obtain ⟨z0, z1, z2, z3, z4, z5, z6, z7, z8, z9, z10, z11⟩ := blkD u5
    obtain ⟨c0, c1, c2, c3, c4⟩ := blk5 q5
    have fq := frz q5 4
    have hlq := heap_lt q5
    have hlu := heap_lt u5
    have H5 := Lib.hid (And.intro q5 (And.intro hb5 hO5))
    clear q5 hb5 hO5 u5
    have hdl : b.ds.length < 4294967296 := by omega
    go_upto_region 11 with (at_builtin; refine wp_appx okDeed rfl (.tmp 34) (.tmp 36) rfl w3.heap.size _ b.ds d _ rfl rfl rfl rfl (one_eDe _) H5.out.2.2.d hdl ?_ ?_ ?_; (decide); (omega); intro gd cd w6 hod hgd hb6; have hqo : (Hb.vd ⟨b.t, A1, a1, b.l, Ak, ak, b.ks, Ah, ah, b.hs, Ad, ad, b.ds⟩).ownBlock ≠ some q := H5.out.2.2.d.ne' H5.out.1 (by decide); have q6 : w6.heap[q]? = _ := (hgd.block q hlq (fun e => hqo e.symm)).trans H5.out.1; have k4 := (blk5 q6).2.2.2.2; have fq6 := frz q6 4; have hlq6 := heap_lt q6; have H6 := Lib.hid (And.intro q6 (And.intro hod (And.intro hgd hb6))); clear q6 hod hgd hb6 hqo)
    obtain ⟨w7, hw7⟩ : ∃ w7, w7 = w6.setCell ⟨q, 4, none⟩ (.slice (some ⟨gd, 0, none⟩) (b.ds.length + 1) cd) := ⟨_, rfl⟩
    rw [← hw7]
    have q7 : w7.heap[q]? = some (boxO b.t (.slice A1 b.l.length a1) (.slice Ak b.ks.length ak) (.slice Ah b.hs.length ah) (.slice (some ⟨gd, 0, none⟩) (b.ds.length + 1) cd)) := by rw [hw7]; exact (set_blk H6.out.1).trans (by simp [boxO])
    have hg7 : w6.grownBy w7 (some q) := by rw [hw7]; exact ⟨rfl, rfl, rfl, by simp, fun j _ hne => Below.heap_setCell _ ⟨q, 4, none⟩ _ j (fun e => hne (by rw [e]))⟩
    have hb7 : Below w3.heap.size w3 w7 := by
      rw [hw7]
      exact Below.setCell (H5.out.2.1.trans H6.out.2.2.2) (p := ⟨q, 4, none⟩) hsq _
    have hO7 : HbO w7 w3.heap.size ⟨b.t, A1, a1, b.l, Ak, ak, b.ks, Ah, ah, b.hs, some ⟨gd, 0, none⟩, cd, b.ds ++ [d]⟩ := by
      have hd5 := H5.out.2.2.d
      have hg6 := H6.out.2.2.1
      refine ⟨?_, ?_, ?_, ?_⟩
      · have h := H5.out.2.2.m.kept hg6 (own_ne H5.out.2.2.m hd5 (by decide))
        exact h.kept hg7 (.inr (h.ne' H6.out.1 (by decide)))
      · have h := H5.out.2.2.k.kept hg6 (own_ne H5.out.2.2.k hd5 (by decide))
        exact h.kept hg7 (.inr (h.ne' H6.out.1 (by decide)))
      · obtain ⟨mv, h1, h2⟩ := H5.out.2.2.h
        have h : OwnG w6 w3.heap.size (Hb.vh ⟨b.t, A1, a1, b.l, Ak, ak, b.ks, Ah, ah, b.hs, Ad, ad, b.ds⟩) b.hs :=
          ⟨mv, h1.kept hg6 (own_ne h1 hd5 (by decide)), Rws.kept h2 hg6 (fun x hx => by
            obtain ⟨k, hk⟩ := List.getElem?_of_mem hx
            obtain ⟨l, _, ho⟩ := h2.2 k x hk
            exact own_ne ho hd5 (by decide))⟩
        exact h.keptB hg7 H6.out.1
      · have h := H6.out.2.1
        have h' := h.kept hg7 (.inr (h.ne' H6.out.1 (by decide)))
        unfold Hb.vd
        rw [List.length_append, List.length_singleton]
        exact h'
    have H7 := Lib.hid (And.intro q7 (And.intro hb7 hO7))
    clear hw7 q7 hg7 hb7 hO7 k4 fq6 hlq6 c0 c1 c2 c3 c4 z0 z1 z2 z3 z4 z5 z6 z7 z8 z9 z10 z11 hlq hlu fq
    have hW7 := H2.out.2.2.2.1.below (HB3.out.trans (H7.out.2.1.mono HB3.out.size)) (Nat.le_refl _)
    have htr := truth_any V p b (-1) 0 w7 hW7
    obtain ⟨tb, htb⟩ : ∃ tb, tb = !decide (b.ends (-1) 0 = []) := ⟨_, rfl⟩
    rw [← htb] at htr
    have HTB := Lib.hid htb
    have HW7 := Lib.hid hW7
    clear htb hW7
    have hqp : q ≠ p := by omega
    have hep : endsL b.t b.l b.hs (b.ds ++ [d]) (-1) 0 = Hb.ends ⟨b.t, A1, a1, b.l, Ak, ak, b.ks, Ah, ah, b.hs, some ⟨gd, 0, none⟩, cd, b.ds ++ [d]⟩ (-1) 0 := rfl
    have hck2 : Hb.chk ⟨b.t, A1, a1, b.l, Ak, ak, b.ks, Ah, ah, b.hs, some ⟨gd, 0, none⟩, cd, b.ds ++ [d]⟩ = 0 := checkH_snoc H2.out.2.2.2.2.1 (by omega) HE2.out.symm
    obtain ⟨b', hb'⟩ : ∃ b' : Hb, b' = ⟨b.t, A1, a1, b.l, Ak, ak, b.ks, Ah, ah, b.hs, some ⟨gd, 0, none⟩, cd, b.ds ++ [d]⟩ := ⟨_, rfl⟩
    have hbv : b'.v = .agg #[.int .i64 b.t, .slice A1 b.l.length a1, .slice Ak b.ks.length ak, .slice Ah b.hs.length ah, .slice (some ⟨gd, 0, none⟩) (b.ds.length + 1) cd] := by rw [hb']; unfold Hb.v; simp
    have hO7 := H7.out.2.2
    rw [← hb'] at hO7 hck2 hep
    have HB' := Lib.hid (And.intro hb' (And.intro hbv (And.intro hO7 (And.intro hck2 hep))))
    clear hb' hbv hO7 hck2 hep
    cases tb with
    | false =>
      have hee : enterE b d = 0 := by
        unfold enterE
        rw [if_neg (by rw [H2.out.2.2.2.2.1]; simp), if_neg H6'.out, if_neg (by rw [← HE2.out]; simp), if_neg]
        rintro ⟨h, -⟩
        have := HTB.out
        simp at this
        exact h this
      have HEE := Lib.hid hee
      clear hee
      go_wp2_with (go_at_call 57; refine htr.mono ?_; rintro e w8 ⟨rfl, hN⟩; have q10 := hN.blk H7.out.1 hqp; have y10 := hN.blk (bheap H3.out.2.2.1 H7.out.2.1 (Nat.le_refl _)) (show g + 1 + 1 ≠ p by omega); have hO10 := HB'.out.2.2.1.now hN (by omega); have hB10 := (H3.out.2.2.2.trans (H7.out.2.1.mono H3.out.2.2.2.size)).trans (hN.less (show w.heap.size ≤ p by have := HGW.out; omega) (by have := H3.out.2.2.2.size; have := H7.out.2.1.size; omega)); obtain ⟨c0, c1, c2, c3, c4⟩ := blk5 q10; obtain ⟨d0, d1, d2, d3, d4⟩ := blk5 y10; obtain ⟨e0, e1, e2, e3, e4⟩ := And.intro (frz y10 0) (And.intro (frz y10 1) (And.intro (frz y10 2) (And.intro (frz y10 3) (frz y10 4)))); have hl2 := heap_lt y10; have hl3 := heap_lt q10; have HY := Lib.hid (And.intro y10 (And.intro hO10 (And.intro hB10 HEE.out))); clear hN y10 q10 hO10 hB10)
      obtain ⟨Z, hZ⟩ : ∃ Z, Z = (((((w8.setCell ⟨g + 1 + 1, 0, none⟩ (.int .i64 b.t)).setCell ⟨g + 1 + 1, 1, none⟩ (.slice A1 b.l.length a1)).setCell ⟨g + 1 + 1, 2, none⟩ (.slice Ak b.ks.length ak)).setCell ⟨g + 1 + 1, 3, none⟩ (.slice Ah b.hs.length ah)).setCell ⟨g + 1 + 1, 4, none⟩ (.slice (some ⟨gd, 0, none⟩) (b.ds.length + 1) cd)) := ⟨_, rfl⟩
      rw [← hZ]
      obtain ⟨hzb, hBz, hgz⟩ := enter_put HY.out.1 hZ HY.out.2.2.1 (by rw [← HGW.out]; omega)
      clear hZ
      have hOz := (HY.out.2.1.keptG hgz (show g + 1 + 1 < w3.heap.size by omega)).mono (show w.heap.size ≤ w3.heap.size from H3.out.2.2.2.size)
      rw [HB'.out.1] at hOz
      obtain ⟨p0, p1, p2, p3, p4⟩ := blk5 hzb
      have hlz := heap_lt hzb
      have HZ := Lib.hid (And.intro hOz hBz)
      have hev := HB'.out.2.1
      rw [HB'.out.1] at hev
      clear hzb hBz hgz hOz
      refine bodyPost_ret (v := .tuple #[Hb.v ⟨b.t, A1, a1, b.l, Ak, ak, b.ks, Ah, ah, b.hs, some ⟨gd, 0, none⟩, cd, b.ds ++ [d]⟩, .int .i64 0]) (by rw [hev]; clear hev; simp [results, Try.f24, go_sem, p0, p1, p2, p3, p4, hlz]) rfl ⟨.inl ⟨HY.out.2.2.2, _, _, _, _, _, _, _, _, rfl, HZ.out.1⟩, HZ.out.2⟩
    | true =>
      go_wp2_with (first
        | (go_at_call 57; with_reducible refine htr.mono ?_; rintro e w8 ⟨rfl, hN⟩; have q8 := hN.blk H7.out.1 hqp; have x8 := hN.blk (bheap H3.out.2.2.1 H7.out.2.1 (Nat.le_refl _)) (show g + 1 + 1 ≠ p by omega); obtain ⟨c0, c1, c2, c3, c4⟩ := blk5 q8; have H8 := Lib.hid (And.intro hN (And.intro q8 x8)); clear hN q8 x8)
        | (go_at_call 58; rw [← HB'.out.2.1]; refine (begin_any b' _).mono ?_; rintro e w9 ⟨p2, rfl, hp2, hk2, hb9⟩)
        | (go_at_call 57; have hO8 := HB'.out.2.2.1.now H8.out.1 (show p < w3.heap.size by omega); have hW9 : Work w8 p2 b' (-1) 0 w9 := ⟨hO8.inn, hp2, hb9, ⟨0, hk2⟩, HB'.out.2.2.2.1⟩; have ht2 := truth_any w8 p2 b' (-1) 0 w9 hW9; refine ht2.mono ?_; rintro e w10 ⟨rfl, hN2⟩; obtain ⟨tb2, htb2⟩ : ∃ tb, tb = !decide (b'.ends (-1) 0 = []) := ⟨_, rfl⟩; rw [← htb2]; have HTB2 := Lib.hid htb2; have hb10 : Below w8.heap.size w8 w10 := hb9.trans (hN2.less hp2 hb9.size); have q10 := bheap H8.out.2.1 hb10 (Nat.le_refl _); have y10 := bheap H8.out.2.2 hb10 (Nat.le_refl _); have hO10 := hO8.below hb10 (Nat.le_refl _); have hB8 := (H3.out.2.2.2.trans (H7.out.2.1.mono H3.out.2.2.2.size)).trans (H8.out.1.less (show w.heap.size ≤ p by have := HGW.out; omega) (by have := H3.out.2.2.2.size; have := H7.out.2.1.size; omega)); have hB10 := hB8.trans (hb10.mono hB8.size); clear c0 c1 c2 c3 c4; obtain ⟨c0, c1, c2, c3, c4⟩ := blk5 q10; obtain ⟨d0, d1, d2, d3, d4⟩ := blk5 y10; obtain ⟨e0, e1, e2, e3, e4⟩ := And.intro (frz y10 0) (And.intro (frz y10 1) (And.intro (frz y10 2) (And.intro (frz y10 3) (frz y10 4)))); have hl2 := heap_lt y10; have hl3 := heap_lt q10; have H10 := Lib.hid (And.intro y10 (And.intro hO10 hB10)); clear htb2 hO8 hb10 hN2 hW9 hb9 hk2 hp2 ht2 y10 q10 hO10 hB10 hB8; cases tb2))
      · have hee : enterE b d = 12 := by
          unfold enterE
          rw [if_neg (by rw [H2.out.2.2.2.2.1]; simp), if_neg H6'.out, if_neg (by rw [← HE2.out]; simp), if_pos]
          refine ⟨?_, ?_⟩
          · have := HTB.out
            simp at this
            exact this
          · rw [HB'.out.2.2.2.2]
            have := HTB2.out
            simp at this
            exact this
        have HEE := Lib.hid hee
        have HY := Lib.hid (And.intro H10.out.1 H10.out.2.2)
        clear hee
        obtain ⟨Z, hZ⟩ : ∃ Z, Z = (((((w10.setCell ⟨g + 1 + 1, 0, none⟩ (.int .i64 0)).setCell ⟨g + 1 + 1, 1, none⟩ (.slice none 0 0)).setCell ⟨g + 1 + 1, 2, none⟩ (.slice none 0 0)).setCell ⟨g + 1 + 1, 3, none⟩ (.slice none 0 0)).setCell ⟨g + 1 + 1, 4, none⟩ (.slice none 0 0)) := ⟨_, rfl⟩
        rw [← hZ]
        obtain ⟨hzb, hBz⟩ := enter_zero HY.out.1 hZ HY.out.2 (by rw [← HGW.out]; omega)
        clear hZ
        obtain ⟨p0, p1, p2, p3, p4⟩ := blk5 hzb
        have hlz := heap_lt hzb
        have HZ := Lib.hid hBz
        have HE := Lib.hid (And.intro (HEE.out) (show (12 : Int) ≠ 0 by decide))
        clear hzb hBz
        refine bodyPost_ret (v := .tuple #[.agg #[.int .i64 0, .slice none 0 0, .slice none 0 0, .slice none 0 0, .slice none 0 0], .int .i64 (12)]) (by simp [results, Try.f24, go_sem, p0, p1, p2, p3, p4, hlz]) rfl ⟨.inr ⟨by rw [HE.out.1]; exact HE.out.2, by rw [HE.out.1]⟩, HZ.out⟩
      · have hee : enterE b d = 0 := by
          unfold enterE
          rw [if_neg (by rw [H2.out.2.2.2.2.1]; simp), if_neg H6'.out, if_neg (by rw [← HE2.out]; simp), if_neg]
          rintro ⟨-, h⟩
          rw [HB'.out.2.2.2.2] at h
          have := HTB2.out
          simp at this
          exact this h
        have HY := Lib.hid (And.intro H10.out.1 (And.intro H10.out.2.1 (And.intro H10.out.2.2 hee)))
        clear hee
        obtain ⟨Z, hZ⟩ : ∃ Z, Z = (((((w10.setCell ⟨g + 1 + 1, 0, none⟩ (.int .i64 b.t)).setCell ⟨g + 1 + 1, 1, none⟩ (.slice A1 b.l.length a1)).setCell ⟨g + 1 + 1, 2, none⟩ (.slice Ak b.ks.length ak)).setCell ⟨g + 1 + 1, 3, none⟩ (.slice Ah b.hs.length ah)).setCell ⟨g + 1 + 1, 4, none⟩ (.slice (some ⟨gd, 0, none⟩) (b.ds.length + 1) cd)) := ⟨_, rfl⟩
        rw [← hZ]
        obtain ⟨hzb, hBz, hgz⟩ := enter_put HY.out.1 hZ HY.out.2.2.1 (by rw [← HGW.out]; omega)
        clear hZ
        have hOz := (HY.out.2.1.keptG hgz (show g + 1 + 1 < w3.heap.size by omega)).mono (show w.heap.size ≤ w3.heap.size from H3.out.2.2.2.size)
        rw [HB'.out.1] at hOz
        obtain ⟨p0, p1, p2, p3, p4⟩ := blk5 hzb
        have hlz := heap_lt hzb
        have HZ := Lib.hid (And.intro hOz hBz)
        have hev := HB'.out.2.1
        rw [HB'.out.1] at hev
        clear hzb hBz hgz hOz
        refine bodyPost_ret (v := .tuple #[Hb.v ⟨b.t, A1, a1, b.l, Ak, ak, b.ks, Ah, ah, b.hs, some ⟨gd, 0, none⟩, cd, b.ds ++ [d]⟩, .int .i64 0]) (by rw [hev]; clear hev; simp [results, Try.f24, go_sem, p0, p1, p2, p3, p4, hlz]) rfl ⟨.inl ⟨HY.out.2.2.2, _, _, _, _, _, _, _, _, rfl, HZ.out.1⟩, HZ.out.2⟩
  · have hx : (E != 0) = true := by simp [hE0]
    have hee : enterE b d = E := by
      unfold enterE
      rw [if_neg (by rw [H2.out.2.2.2.2.1]; simp), if_neg H6'.out, if_pos (by rw [← HE2.out]; exact hE0), HE2.out]
    have HEE := Lib.hid hee
    have HE0 := Lib.hid hE0
    clear hee hE0 x3 u3 hB2
    obtain ⟨d0, d1, d2, d3, d4⟩ := blk5 y3
    obtain ⟨e0, e1, e2, e3, e4⟩ := And.intro (frz y3 0) (And.intro (frz y3 1) (And.intro (frz y3 2) (And.intro (frz y3 3) (frz y3 4))))
    have hl2 := heap_lt y3
    have HY := Lib.hid (And.intro y3 hB3)
    clear y3
    go_wp2_with fail
    obtain ⟨Z, hZ⟩ : ∃ Z, Z = (((((w3.setCell ⟨g + 1 + 1, 0, none⟩ (.int .i64 0)).setCell ⟨g + 1 + 1, 1, none⟩ (.slice none 0 0)).setCell ⟨g + 1 + 1, 2, none⟩ (.slice none 0 0)).setCell ⟨g + 1 + 1, 3, none⟩ (.slice none 0 0)).setCell ⟨g + 1 + 1, 4, none⟩ (.slice none 0 0)) := ⟨_, rfl⟩
    rw [← hZ]
    obtain ⟨hzb, hBz⟩ := enter_zero HY.out.1 hZ HY.out.2 (by rw [← HGW.out]; omega)
    clear hZ
    obtain ⟨p0, p1, p2, p3, p4⟩ := blk5 hzb
    have hlz := heap_lt hzb
    have HZ := Lib.hid hBz
    have HE := Lib.hid (And.intro (HEE.out) (HE0.out))
    clear hzb hBz d0 d1 d2 d3 d4 e0 e1 e2 e3 e4
    refine bodyPost_ret (v := .tuple #[.agg #[.int .i64 0, .slice none 0 0, .slice none 0 0, .slice none 0 0, .slice none 0 0], .int .i64 (E)]) (by simp [results, Try.f24, go_sem, p0, p1, p2, p3, p4, hlz]) rfl ⟨.inr ⟨by rw [HE.out.1]; exact HE.out.2, by rw [HE.out.1]⟩, HZ.out⟩
end Go.Proofs.Ytgnjknihgjdedaa
namespace Go.Proofs.Ytgnjknihgjdedaa
open Go.RowKit Go.MapKept
set_option linter.unusedVariables false
set_option linter.unusedSimpArgs false
attribute [local go_sem] Oper.semAt_some

def wideS (s : Rn) (some : Bool) (n : Int) : Rn := if some then ⟨min s.lo n, max s.hi n⟩ else ⟨n, n⟩
def vSp (s : Rn) (some : Bool) : Value := .agg #[.int .i64 s.lo, .int .i64 s.hi, .bool some]
abbrev spObj (s : Rn) (some : Bool) : Obj := .cells #[.int .i64 s.lo, .int .i64 s.hi, .bool some] 177 (0, 0)
set_option maxRecDepth 100000 in
theorem widen_any (s : Rn) (some : Bool) (n : Int) (w : World) :
    Calls Try.prog 101 #[vSp s some, .int .i64 n] w fun e w' => e = .returned (vSp (wideS s some n) true) ∧ Below w.heap.size w w' := by
  unfold vSp
  cases some
  · go_enter Try.func101, Try.ntmps101
    go_wp2
    obtain ⟨W, hW⟩ : ∃ W, W = (w.alloc (Obj.cells #[Value.int .i64 s.lo, .int .i64 s.hi, .bool false] 177)).alloc (Obj.cells #[Value.int .i64 n, .int .i64 n, .bool true] 177) := ⟨_, rfl⟩
    have b4 : W.heap[w.heap.size + 1]? = some (spObj ⟨n, n⟩ true) := by rw [hW]; exact alloc_at (by simp)
    obtain ⟨c0, c1, c2⟩ := blk3 b4
    rw [← hW]
    exact bodyPost_ret (v := vSp (wideS s false n) true) (by simp [results, Try.f101, go_sem, c0, c1, c2, vSp, wideS]) rfl ⟨rfl, by rw [hW]; exact bal (bal0 w _) (Nat.le_refl _) _⟩
  · go_enter Try.func101, Try.ntmps101
    go_wp2
    all_goals
      obtain ⟨W, hW⟩ : ∃ W, W = (w.alloc (Obj.cells #[Value.int .i64 s.lo, .int .i64 s.hi, .bool true] 177)).alloc (Obj.cells #[Value.int .i64 (min s.lo n), .int .i64 (max s.hi n), .bool true] 177) := ⟨_, rfl⟩
      have b4 : W.heap[w.heap.size + 1]? = some (spObj ⟨min s.lo n, max s.hi n⟩ true) := by rw [hW]; exact alloc_at (by simp)
      obtain ⟨c0, c1, c2⟩ := blk3 b4
      first
        | rw [← hW]
        | (rw [show min s.lo n = n by omega, show max s.hi n = n by omega] at hW; rw [← hW])
        | (rw [show min s.lo n = n by omega, show max s.hi n = s.hi by omega] at hW; rw [← hW])
        | (rw [show min s.lo n = s.lo by omega, show max s.hi n = n by omega] at hW; rw [← hW])
        | (rw [show min s.lo n = s.lo by omega, show max s.hi n = s.hi by omega] at hW; rw [← hW])
      exact bodyPost_ret (v := vSp (wideS s true n) true) (by simp [results, Try.f101, go_sem, c0, c1, c2, vSp, wideS]) rfl ⟨rfl, by rw [hW]; exact bal (bal0 w _) (Nat.le_refl _) _⟩

theorem run_storeH {w : World} {g : Nat} {x : List Int} {cur : Array Value} (hg : w.heap[g]? = some (.cells cur 126 (0, 0))) (hc : cur.size = 15) (hx : x.length = 15) :
    ∃ w2, (storeCells ⟨g, 0, none⟩ (hcs x).toList).run Try.prog w = .ok () w2 ∧ w2.heap[g]? = some (hObj x) ∧ w.grownBy w2 (some g) ∧ w2.heap.size = w.heap.size := by
  have hs := hcs_size x
  have h1 := run_storeCells_from (P := Try.prog) g 126 (hcs x).toList 0 cur w hg (by simp; omega) (fun v hv => Array.all_eq_true_iff_forall_mem.1 (hcs_one x) v (by simpa using hv))
  have e : (cur.toList.take 0 ++ (hcs x).toList).toArray = hcs x := by simp
  rw [e] at h1
  refine ⟨_, h1, setRow_heap _ _ _ _ _ _ hg, ⟨rfl, rfl, rfl, by simp [World.setRow], fun k hk hne => ?_⟩, by simp [World.setRow]⟩
  unfold World.setRow
  rw [Array.getElem?_modify, if_neg (fun e => hne (by rw [e]))]
set_option maxRecDepth 100000 in
set_option maxHeartbeats 1000000 in
theorem span_any (w0 : World) (p : Nat) (b : Hb) (deed owner : Int) (w : World) (hW : Work w0 p b deed owner w) (f : FuncId) (bd : Array Value) (g : List Int → Int)
    (hent : ∀ (args : Array Value) (w : World), (callFunc f args).run Try.prog w = .ok (.enter f args) w)
    (hof : ∀ x ∈ b.ends deed owner, ∀ W, NowIn p (b.bk deed owner) w W → Calls Try.prog f (#[.agg (hcs x)] ++ bd) W fun e W' => e = .returned (.int .i64 (g x)) ∧ Below W.heap.size W W') :
    Calls Try.prog 66 #[.pointer (some ⟨p, 0, none⟩), .func (.func f) #[] bd] w fun e w' => e = .returned (.tuple #[.agg #[.int .i64 (rangeE (b.ends deed owner) g).lo, .int .i64 (rangeE (b.ends deed owner) g).hi], .bool (!decide (b.ends deed owner = []))]) ∧ NowIn p (b.bk deed owner) w w' := by
  have hpl := hW.lt
  refine (callsIn_wide (n := 9)).1 ?_
  refine callsIn_of_wp_marks Try.func66 rfl trivial ?_ rfl
  simp only [Try.ntmps66, List.size_toArray, List.length_cons, List.length_nil, Nat.reduceAdd, Nat.reduceSub, Array.replicate_succ, Array.replicate_zero, List.push_toArray, List.append_toArray, List.nil_append, List.cons_append]
  refine wpIn_wide.2 ?_
  go_wp2_with (go_at_call 96; refine (ends_any p _).mono ?_; rintro e w' ⟨rfl, rfl⟩)
  obtain ⟨r, hr⟩ : ∃ r, r = w.heap.size := ⟨_, rfl⟩
  obtain ⟨w1, hw1⟩ : ∃ w1, w1 = (((w.alloc (Obj.cells #[Value.func (.func f) #[] bd] 137)).alloc (Obj.cells #[Value.int .i64 0, .int .i64 0] 26)).alloc (spObj ⟨0, 0⟩ false)).alloc (Obj.cells #[Value.pointer (some ⟨p, 0, none⟩)] 116) := ⟨_, rfl⟩
  have br : w1.heap[r]? = some (Obj.cells #[Value.func (.func f) #[] bd] 137 (0, 0)) := by rw [hw1, hr]; exact hblk_alloc (hblk_alloc (hblk_alloc (alloc_at rfl) _) _) _
  have br1 : w1.heap[r + 1]? = some (Obj.cells #[Value.int .i64 0, .int .i64 0] 26 (0, 0)) := by rw [hw1, hr]; exact hblk_alloc (hblk_alloc (alloc_at (by simp)) _) _
  have br2 : w1.heap[r + 1 + 1]? = some (spObj ⟨0, 0⟩ false) := by rw [hw1, hr]; exact hblk_alloc (alloc_at (by simp)) _
  have bq : w1.heap[r + 1 + 1 + 1]? = some (Obj.cells #[Value.pointer (some ⟨p, 0, none⟩)] 116 (0, 0)) := by rw [hw1, hr]; exact alloc_at (by simp)
  have hB1 : Below w.heap.size w w1 := by rw [hw1]; exact bal (bal (bal (bal0 w _) (Nat.le_refl _) _) (Nat.le_refl _) _) (Nat.le_refl _) _
  have hz1 : r + 3 < w1.heap.size := heap_lt bq
  have hpr : p < r := by omega
  have hxl15 : ∀ x ∈ b.ends deed owner, x.length = 15 := fun x hx => (endsTo_bd hW.ok.f3 hW.ok.n5 hW.ok.rb hW.ok.dI _ x hx).1
  have HW := Lib.hid (And.intro hW (And.intro hB1 hof))
  rw [← hw1, ← hr]
  have HR := Lib.hid hr
  clear hw1 hr hW hB1 hof
  refine wp_ends (HW.out.1.below HW.out.2.1 (Nat.le_refl _)) (NowIn.of_below HW.out.2.1 HW.out.1.hp (Nat.le_refl _)) hpl bq rfl rfl
    (fun pre W => w1.heap.size ≤ W.heap.size ∧ W.heap[r]? = some (Obj.cells #[Value.func (.func f) #[] bd] 137 (0, 0)) ∧ W.heap[r + 1]? = some (Obj.cells #[Value.int .i64 0, .int .i64 0] 26 (0, 0)) ∧ W.heap[r + 1 + 1]? = some (spObj (rangeE pre g) (!decide (pre = [])))) (fun _ _ _ => False)
    (fun s A B row hs hg hr => ⟨Nat.le_trans hs.1 hg.size, blk_kept hs.2.1 rfl hg (fun i e => (hr i e).2), blk_kept hs.2.2.1 rfl hg (fun i e => (hr i e).2), blk_kept hs.2.2.2 rfl hg (fun i e => (hr i e).2)⟩) (fun c s A B row hs hg hr => hs.elim)
    (fun s A B hs hx => by obtain ⟨i, rfl⟩ := hx; exact ⟨by simpa using hs.1, (Below.heap_setCell _ ⟨p, 7, none⟩ _ _ (show r ≠ p by omega)).trans hs.2.1, (Below.heap_setCell _ ⟨p, 7, none⟩ _ _ (show r + 1 ≠ p by omega)).trans hs.2.2.1, (Below.heap_setCell _ ⟨p, 7, none⟩ _ _ (show r + 1 + 1 ≠ p by omega)).trans hs.2.2.2⟩) ⟨Nat.le_refl _, br, br1, br2⟩
    (fun x a' W => ∃ Bx, w1.heap.size ≤ Bx ∧ W.heap[Bx]? = some (hObj x) ∧ a' = { tmps := #[.pointer (some ⟨p, 0, none⟩), .func (.func f) #[] bd, undef, .pointer (some ⟨r, 0, none⟩), .pointer (some ⟨r + 1, 0, none⟩), .bool false, .pointer (some ⟨r + 1 + 1, 0, none⟩), .pointer (some ⟨Bx, 0, none⟩), .pointer (some ⟨p, 0, none⟩), .func (.func 107) #[] #[.pointer (some ⟨r + 1 + 1 + 1, 0, none⟩)], .agg (hcs x), undef, undef, undef, undef, undef, undef, undef, undef, undef, undef, undef, undef], defers := [] })
    (fun x a' _ A B row hs hg hr => by obtain ⟨Bx, h1, h2, h3⟩ := hs; exact ⟨Bx, h1, blk_kept h2 rfl hg (fun r e => (hr r e).2), h3⟩) ?assign ?body ?done ?stop
  case assign =>
    intro l pre x W K hN hI hx hK
    have hxl := hxl15 x (sp_mem hx)
    obtain ⟨w2, hsc, b2, g2, z2⟩ := run_storeH (w := W.alloc (.cells #[.int .i64 0, .int .i64 0, .int .i64 0, .int .i64 0, .int .i64 0, .int .i64 0, .int .i64 0, .int .i64 0, .int .i64 0, .int .i64 0, .int .i64 0, .int .i64 0, .int .i64 0, .int .i64 0, .int .i64 0] 126)) (g := W.heap.size) (x := x) (alloc_at rfl) rfl hxl
    have hg2 : W.grownBy w2 none := ⟨g2.os, g2.tape, g2.output, by rw [z2]; simp, fun j hj _ => (g2.block j (by simp; omega) (fun e => by cases e; omega)).trans (Below.heap_alloc _ _ _ hj)⟩
    have HB := Lib.hid (And.intro b2 hg2)
    have HN := Lib.hid (And.intro hN hI)
    have hcsz : (hcs x).size = 15 := by rw [hcs_size, hxl]
    clear z2 g2 b2 hg2 hN hI hxl hx
    gi_wp2
    have hg2 := HB.out.2
    have hrr := HR.out
    refine hK _ w2 ((KeepsFrom.of_grownBy hg2 (fun j e => by cases e))) ⟨hg2.size, fun k o hk _ => (hg2.block k (heap_lt hk) (fun e => by cases e)).trans hk⟩ (HN.out.1.grown hpl hg2 (fun i e => by cases e)) ?_ ⟨W.heap.size, ?_, HB.out.1, rfl⟩
    · exact ⟨Nat.le_trans HN.out.2.1 hg2.size, (hg2.block _ (heap_lt HN.out.2.2.1) (fun e => by cases e)).trans HN.out.2.2.1, (hg2.block _ (heap_lt HN.out.2.2.2.1) (fun e => by cases e)).trans HN.out.2.2.2.1, (hg2.block _ (heap_lt HN.out.2.2.2.2) (fun e => by cases e)).trans HN.out.2.2.2.2⟩
    · exact HN.out.2.1
  case body =>
    rintro l pre x a' W hN hI ⟨Bx, hBx, hbx, rfl⟩ hx
    have hxl := hxl15 x (sp_mem hx)
    obtain ⟨a0, a1, a2, a3, a4, a5, a6, a7, a8, a9, a10, a11, a12, a13, a14, hc15, hcell⟩ := split15 hxl
    obtain ⟨y0, y1, y2, y3, y4, y5, y6, y7, y8, y9, y10, y11, y12, y13, y14⟩ := hcell _ _ hbx
    have c0 := blk1 hI.2.1
    obtain ⟨s0, s1, s2⟩ := blk3 hI.2.2.2
    have f0 := frz hI.2.2.2 0
    have f1 := frz hI.2.2.2 1
    have f2 := frz hI.2.2.2 2
    obtain ⟨sb, hsb⟩ : ∃ sb, sb = (!decide (pre = [])) := ⟨_, rfl⟩
    obtain ⟨sr, hsr⟩ : ∃ sr, sr = rangeE pre g := ⟨_, rfl⟩
    rw [← hsb] at s2
    rw [← hsr] at s0 s1
    have HS := Lib.hid (And.intro hsb hsr)
    have HN := Lib.hid (And.intro hN hI)
    have hofx := HW.out.2.2 x (sp_mem hx)
    have HX := Lib.hid hx
    clear hsb hsr hN hI hx hcell hxl hbx
    have HBW := Lib.hid (show W.heap[r + 1 + 1]? = some (spObj sr sb) by rw [HS.out.1, HS.out.2]; exact HN.out.2.2.2.2)
    have hmo : Try.prog.follows .mixedOrders = true := by kernel_rfl
    have hwid := fun w => widen_any sr sb (g x) w
    unfold vSp at hwid
    have HWD := Lib.hid hwid
    have hofd := hofx W.drew HN.out.1.drew
    clear hwid hofx
    gi_wp2_with fail
    gi_region_with_o (first
      | (refine ⟨trivial, ?_⟩; gi_at_call 101; refine (inRnd (HWD.out _)).mono ?_; rintro e w3 ⟨rfl, hb3⟩; have h3 := bheap HB2.out.1 hb3 (Nat.le_refl _); obtain ⟨z0, z1, z2⟩ := blk3 h3; have fz0 := frz h3 0; have fz1 := frz h3 1; have fz2 := frz h3 2; have HB3 := Lib.hid (And.intro h3 hb3); clear h3 hb3)
      | (refine ⟨trivial, ?_⟩; refine (inRnd hofd).mono ?_; rintro e w2 ⟨rfl, hb2⟩; have h2 := bheap (w := W.drew) HBW.out hb2 (Nat.le_refl _); obtain ⟨t0, t1, t2⟩ := blk3 h2; have HB2 := Lib.hid (And.intro h2 hb2); clear h2 hb2))
    all_goals
      have hrr := HR.out
      have hb2 : Below W.heap.size W w2 := ⟨HB2.out.2.os, HB2.out.2.tape, HB2.out.2.output, HB2.out.2.size, HB2.out.2.block⟩
      have hbw : Below W.heap.size W w3 := hb2.trans (HB3.out.2.mono hb2.size)
      have hoff : ∀ k, k ≠ r + 1 + 1 → (((w3.setCell ⟨r + 1 + 1, 0, none⟩ (.int .i64 (wideS sr sb (g x)).lo)).setCell ⟨r + 1 + 1, 1, none⟩ (.int .i64 (wideS sr sb (g x)).hi)).setCell ⟨r + 1 + 1, 2, none⟩ (.bool true)).heap[k]? = w3.heap[k]? := fun k hk => by
        rw [Below.heap_setCell _ ⟨r + 1 + 1, 2, none⟩ _ _ hk, Below.heap_setCell _ ⟨r + 1 + 1, 1, none⟩ _ _ hk, Below.heap_setCell _ ⟨r + 1 + 1, 0, none⟩ _ _ hk]
      have hon := set_blk (i := 2) (v := .bool true) (set_blk (i := 1) (v := .int .i64 (wideS sr sb (g x)).hi) (set_blk (i := 0) (v := .int .i64 (wideS sr sb (g x)).lo) HB3.out.1))
      have hkw : KeepsOthers w3 (((w3.setCell ⟨r + 1 + 1, 0, none⟩ (.int .i64 (wideS sr sb (g x)).lo)).setCell ⟨r + 1 + 1, 1, none⟩ (.int .i64 (wideS sr sb (g x)).hi)).setCell ⟨r + 1 + 1, 2, none⟩ (.bool true)) := ((KeepsOthers.setCell _ _ _).trans (KeepsOthers.setCell _ _ _)).trans (KeepsOthers.setCell _ _ _)
      refine ⟨(keepsFrom_below hbw).trans (hkw.from _), (below_walks hbw).trans hkw.walks, ?_, ?_, ?_, ?_, ?_⟩
      · exact HN.out.1.then hpl hbw.os hbw.tape hbw.output (by simpa using Nat.le_trans HN.out.1.size hbw.size) (fun k hk => (hoff k (by omega)).trans (hbw.block k (by have := HN.out.1.size; omega)))
      · simpa using Nat.le_trans HN.out.2.1 hbw.size
      · exact (hoff r (by omega)).trans ((hbw.block _ (heap_lt HN.out.2.2.1)).trans HN.out.2.2.1)
      · exact (hoff (r + 1) (by omega)).trans ((hbw.block _ (heap_lt HN.out.2.2.2.1)).trans HN.out.2.2.2.1)
      · refine hon.trans ?_
        have e1 : rangeE (pre ++ [x]) g = wideS sr sb (g x) := by rw [rangeE_snoc, HS.out.1, HS.out.2]; unfold wideS; by_cases h : pre = [] <;> simp [h]
        rw [e1]
        simp
  case done =>
    rintro D xs W hD hS hN hI hd
    obtain ⟨s0, s1, s2⟩ := blk3 hI.2.2.2
    obtain ⟨t0, t1⟩ := blk2 hI.2.2.1
    have f0 := frz hI.2.2.1 0
    have f1 := frz hI.2.2.1 1
    have HN := Lib.hid (And.intro hN (And.intro hS hI))
    have hdl := heap_lt hd
    clear hN hS hI
    go_wp2_with fail
    go_region
    all_goals
      obtain ⟨W5, hW5⟩ : ∃ W5, W5 = ((W.setCell ⟨r + 1, 0, none⟩ (Value.int .i64 (rangeE xs g).lo)).setCell ⟨r + 1, 1, none⟩ (Value.int .i64 (rangeE xs g).hi)).drew := ⟨_, rfl⟩
      have hoff : ∀ k, k ≠ r + 1 → W5.heap[k]? = W.heap[k]? := fun k hk => by
        rw [hW5]
        show ((W.setCell ⟨r + 1, 0, none⟩ (Value.int .i64 (rangeE xs g).lo)).setCell ⟨r + 1, 1, none⟩ (Value.int .i64 (rangeE xs g).hi)).heap[k]? = _
        rw [Below.heap_setCell _ ⟨r + 1, 1, none⟩ _ _ hk, Below.heap_setCell _ ⟨r + 1, 0, none⟩ _ _ hk]
      have hon : W5.heap[r + 1]? = some (Obj.cells #[.int .i64 (rangeE xs g).lo, .int .i64 (rangeE xs g).hi] 26 (0, 0)) := by
        rw [hW5]
        exact (set_blk (i := 1) (v := .int .i64 (rangeE xs g).hi) (set_blk (i := 0) (v := .int .i64 (rangeE xs g).lo) HN.out.2.2.2.2.1)).trans (by simp)
      have hrr := HR.out
      have hN5 : NowIn p (b.bk deed owner) w W5 := HN.out.1.then hpl (by rw [hW5]; rfl) (by rw [hW5]; rfl) (by rw [hW5]; rfl) (by rw [hW5]; simpa using HN.out.1.size) (fun k hk => hoff k (by omega))
      have hd5 : W5.heap[D]? = some (.deferred (some [])) := (hoff D (by omega)).trans hd
      have hrg := rangeE_perm (f := g) HN.out.2.1
      have hxe : decide (xs = []) = decide (b.ends deed owner = []) := by
        have := HN.out.2.1
        by_cases h : xs = []
        · subst h; rw [this.nil_eq.symm]
        · rw [decide_eq_false h, decide_eq_false (fun e => h (by rw [e] at this; exact this.eq_nil))]
      rw [← hW5]
      rw [hrg] at hon ⊢
      rw [hxe]
      clear hW5 s0 s1 s2 t0 t1 f0 f1 hoff hrg hxe
      have hon6 : (W5.putObj D (.deferred none)).heap[r + 1]? = _ := (World.putObj_heap_other (by omega)).trans hon
      obtain ⟨u0, u1⟩ := blk2 hon6
      have H5 := Lib.hid (And.intro hN5 hon6)
      clear hN5 hon hon6
      go_wp2
      refine ⟨by simp, .inl ⟨_, _, rfl, run_takeDeferred hd5, ?_⟩⟩
      refine ⟨.tuple #[.agg #[.int .i64 (rangeE (b.ends deed owner) g).lo, .int .i64 (rangeE (b.ends deed owner) g).hi], .bool (!decide (b.ends deed owner = []))], by simp [results, Try.f66, go_sem, u0, u1], rfl, ?_⟩
      exact H5.out.1.undo hpl (by have := HW.out.2.1.size; omega) _
  case stop => exact fun D c pre W _ _ _ h => h.elim
end Go.Proofs.Ytgnjknihgjdedaa
