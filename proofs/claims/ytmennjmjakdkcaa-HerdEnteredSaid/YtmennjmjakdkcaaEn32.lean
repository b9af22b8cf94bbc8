/- HerdEntered 32: Ent, EntE, HdOw, OwnsT, HdAb. -/
import Derived.Test.YtmennjmjakdkcaaEn31
import Derived.Test.YtmennjmjakdkcaaEn26
import Derived.Test.YtmennjmjakdkcaaEn29
import Derived.Test.YtmennjmjakdkcaaEn30
import Derived.Test.YtmennjmjakdkcaaEn15
import Derived.Test.YtmennjmjakdkcaaEn09
namespace Go.Proofs.Ytmennjmjakdkcaa
open Go.RowKit
set_option linter.unusedVariables false
set_option linter.unusedSimpArgs false

theorem checkH_snoc {t : Int} {l : List Mk} {ks : List Int} {hs : List (List Int)} {ds : List De} {d : De} (h : checkH t l ks hs ds = 0) (h6 : ds.length < 6) (hd : deedE l.length ks.length d = 0) : checkH t l ks hs (ds ++ [d]) = 0 := by
  unfold checkH at h ⊢
  by_cases h1 : check t l = 0
  · rw [if_neg (by rw [h1]; simp)] at h ⊢
    by_cases h2 : flocksE l.length ks hs = 0
    · rw [if_neg (by rw [h2]; simp)] at h ⊢
      rw [if_neg (by omega)] at h
      rw [if_neg (by rw [List.length_append, List.length_singleton]; omega)]
      rw [deedsE_snoc _ _ ds d h]
      exact hd
    · rw [if_pos h2] at h; exact absurd h h2
  · rw [if_pos h1] at h; exact absurd h h1
/-- the error of Enter -/
def enterE (b : Hb) (d : De) : Int :=
  if b.chk ≠ 0 then b.chk else if 6 ≤ b.ds.length then 6 else if deedE b.l.length b.ks.length d ≠ 0 then deedE b.l.length b.ks.length d
  else if b.ends (-1) 0 ≠ [] ∧ endsL b.t b.l b.hs (b.ds ++ [d]) (-1) 0 = [] then 12 else 0
def EnterR (b : Hb) (d : De) (w : World) (e : Ending) (w' : World) : Prop :=
  ((enterE b d = 0 ∧ ∃ A c Ak ck Ah ch Ad cd, e = .returned (.tuple #[Hb.v ⟨b.t, A, c, b.l, Ak, ck, b.ks, Ah, ch, b.hs, Ad, cd, b.ds ++ [d]⟩, .int .i64 0]) ∧ HbO w' w.heap.size ⟨b.t, A, c, b.l, Ak, ck, b.ks, Ah, ch, b.hs, Ad, cd, b.ds ++ [d]⟩) ∨
    (enterE b d ≠ 0 ∧ e = .returned (.tuple #[.agg #[.int .i64 0, .slice none 0 0, .slice none 0 0, .slice none 0 0, .slice none 0 0], .int .i64 (enterE b d)]))) ∧ Below w.heap.size w w'
theorem enter_zero {q : Nat} {w W Z : World} (h : W.heap[q]? = some (boxO 0 (.slice none 0 0) (.slice none 0 0) (.slice none 0 0) (.slice none 0 0)))
    (hZ : Z = (((((W.setCell ⟨q, 0, none⟩ (.int .i64 0)).setCell ⟨q, 1, none⟩ (.slice none 0 0)).setCell ⟨q, 2, none⟩ (.slice none 0 0)).setCell ⟨q, 3, none⟩ (.slice none 0 0)).setCell ⟨q, 4, none⟩ (.slice none 0 0)))
    (hB : Below w.heap.size w W) (hq : w.heap.size ≤ q) : Z.heap[q]? = some (boxO 0 (.slice none 0 0) (.slice none 0 0) (.slice none 0 0) (.slice none 0 0)) ∧ Below w.heap.size w Z := by
  subst hZ
  refine ⟨(set_blk (set_blk (set_blk (set_blk (set_blk h))))).trans (by simp [boxO]), ?_⟩
  exact Below.setCell (Below.setCell (Below.setCell (Below.setCell (Below.setCell hB (p := ⟨q, 0, none⟩) hq _) (p := ⟨q, 1, none⟩) hq _) (p := ⟨q, 2, none⟩) hq _) (p := ⟨q, 3, none⟩) hq _) (p := ⟨q, 4, none⟩) hq _
theorem enter_put {q : Nat} {w W Z : World} {t : Int} {v1 v2 v3 v4 : Value} (h : W.heap[q]? = some (boxO 0 (.slice none 0 0) (.slice none 0 0) (.slice none 0 0) (.slice none 0 0)))
    (hZ : Z = (((((W.setCell ⟨q, 0, none⟩ (.int .i64 t)).setCell ⟨q, 1, none⟩ v1).setCell ⟨q, 2, none⟩ v2).setCell ⟨q, 3, none⟩ v3).setCell ⟨q, 4, none⟩ v4))
    (hB : Below w.heap.size w W) (hq : w.heap.size ≤ q) : Z.heap[q]? = some (boxO t v1 v2 v3 v4) ∧ Below w.heap.size w Z ∧ W.grownBy Z (some q) := by
  have hz : Z.heap[q]? = some (boxO t v1 v2 v3 v4) := by
    rw [hZ]
    have h0 := set_blk (i := 0) (v := .int .i64 t) h
    have h1 := set_blk (i := 1) (v := v1) h0
    have h2 := set_blk (i := 2) (v := v2) h1
    have h3 := set_blk (i := 3) (v := v3) h2
    have h4 := set_blk (i := 4) (v := v4) h3
    exact h4.trans (by simp [boxO])
  have hfar : ∀ j, j ≠ q → Z.heap[j]? = W.heap[j]? := fun j hj => by
    rw [hZ, Below.heap_setCell _ ⟨q, 4, none⟩ _ j hj, Below.heap_setCell _ ⟨q, 3, none⟩ _ j hj, Below.heap_setCell _ ⟨q, 2, none⟩ _ j hj, Below.heap_setCell _ ⟨q, 1, none⟩ _ j hj, Below.heap_setCell _ ⟨q, 0, none⟩ _ j hj]
  have hbl : Below W.heap.size W W := Below.refl _ _
  have hq0 : (0 : Nat) ≤ q := Nat.zero_le _
  have hb0 : Below 0 W Z := by
    rw [hZ]
    exact Below.setCell (Below.setCell (Below.setCell (Below.setCell (Below.setCell (hbl.mono (Nat.zero_le _)) (p := ⟨q, 0, none⟩) hq0 _) (p := ⟨q, 1, none⟩) hq0 _) (p := ⟨q, 2, none⟩) hq0 _) (p := ⟨q, 3, none⟩) hq0 _) (p := ⟨q, 4, none⟩) hq0 _
  have hg : W.grownBy Z (some q) := ⟨hb0.os, hb0.tape, hb0.output, hb0.size, fun j _ hne => hfar j fun e => hne (by rw [e])⟩
  exact ⟨hz, hB.grown hg hB.size (fun k e => by cases e; exact hq), hg⟩
theorem HbO.keptG {w w' : World} {base H : Nat} {b : Hb} (h : HbO w base b) (hg : w.grownBy w' (some H)) (hH : H < base) : HbO w' base b := ⟨h.m.keptH hg hH, h.k.keptH hg hH, h.h.keptH hg hH, h.d.keptH hg hH⟩
theorem HbO.now {w w' : World} {base p : Nat} {b : Hb} {O : Int → Obj} (h : HbO w base b) (hN : NowIn p O w w') (hp : p < base) : HbO w' base b :=
  h.keptG ⟨hN.os, hN.tape, hN.output, hN.size, fun j hj hne => hN.block j hj fun e => hne (by rw [e])⟩ hp
set_option maxRecDepth 100000 in
set_option maxHeartbeats 1000000 in
theorem Enter_any (b : Hb) (d : De) (w : World) (hin : HbIn w b) : Calls Try.prog 37 #[b.v, dv d] w (EnterR b d w) := by
  obtain ⟨V, hV⟩ : ∃ V, V = ((w.alloc b.obj).alloc (dObj d)).alloc (Obj.cells #[.int .i64 0, .slice none 0 0, .slice none 0 0, .slice none 0 0, .slice none 0 0] 29) := ⟨_, rfl⟩
  obtain ⟨g, hg⟩ : ∃ g, g = w.heap.size := ⟨_, rfl⟩
  have b0 : V.heap[g]? = some b.obj := by rw [hV, hg]; exact hblk_alloc (hblk_alloc (alloc_at rfl) _) _
  have b1 : V.heap[g + 1]? = some (dObj d) := by rw [hV, hg]; exact hblk_alloc (alloc_at (by simp)) _
  have b2 : V.heap[g + 1 + 1]? = some (boxO 0 (.slice none 0 0) (.slice none 0 0) (.slice none 0 0) (.slice none 0 0)) := by rw [hV, hg]; exact alloc_at (by simp)
  have hBV : Below w.heap.size w V := by rw [hV]; exact bal (bal (bal0 w _) (Nat.le_refl _) _) (Nat.le_refl _) _
  have hiV := hin.below hBV (Nat.le_refl _)
  have hzV : V.heap.size = g + 3 := by rw [hV, hg]; simp
  obtain ⟨c0, c1, c2, c3, c4⟩ := blk5c b0
  have hak := asked_any b V hiV
  unfold Hb.v at hak
  have HGW := Lib.hid hg
  have HV := Lib.hid (And.intro hBV (And.intro b0 (And.intro b1 (And.intro b2 (And.intro hiV (And.intro hzV hg))))))
  unfold Hb.v dv
  go_enter Try.func37, Try.ntmps37
  go_upto_region 1 with (fail)
  rw [← hV, ← hg]
  have hg0 := heap_lt b0
  have hg1 := heap_lt b1
  have hg2 := heap_lt b2
  clear hV hg hin hBV hiV b0 b1 b2 hzV
  obtain ⟨R, hR⟩ : ∃ R, R = AskedR b b.chk V := ⟨_, rfl⟩
  rw [← hR] at hak
  have HR := Lib.hid hR
  clear hR
  go_upto_region 2 with (go_at_call 55; refine hak.mono ?_; rintro e w2 hRR; rw [HR.out] at hRR; unfold AskedR at hRR; rcases hRR with ⟨h0, rfl, hb2⟩ | ⟨h0, p, rfl, hWk, hb2⟩)
  · have xf : (b.chk != 0) = true := by simp [h0]
    have y2 := bheap HV.out.2.2.2.1 hb2 (Nat.le_refl _)
    have hB2 := HV.out.1.trans (hb2.mono HV.out.1.size)
    have hee : enterE b d = b.chk := by unfold enterE; rw [if_pos h0]
    have HH0 := Lib.hid h0
    have HEE := Lib.hid hee
    clear h0 hee
    obtain ⟨d0, d1, d2, d3, d4⟩ := blk5 y2
    obtain ⟨e0, e1, e2, e3, e4⟩ := And.intro (frz y2 0) (And.intro (frz y2 1) (And.intro (frz y2 2) (And.intro (frz y2 3) (frz y2 4))))
    have hl2 := heap_lt y2
    have HY := Lib.hid (And.intro y2 hB2)
    clear y2
    go_wp2_with fail
    obtain ⟨Z, hZ⟩ : ∃ Z, Z = (((((w2.setCell ⟨g + 1 + 1, 0, none⟩ (.int .i64 0)).setCell ⟨g + 1 + 1, 1, none⟩ (.slice none 0 0)).setCell ⟨g + 1 + 1, 2, none⟩ (.slice none 0 0)).setCell ⟨g + 1 + 1, 3, none⟩ (.slice none 0 0)).setCell ⟨g + 1 + 1, 4, none⟩ (.slice none 0 0)) := ⟨_, rfl⟩
    rw [← hZ]
    obtain ⟨hzb, hBz⟩ := enter_zero HY.out.1 hZ HY.out.2 (by rw [← HGW.out]; omega)
    clear hZ
    obtain ⟨p0, p1, p2, p3, p4⟩ := blk5 hzb
    have hlz := heap_lt hzb
    have HZ := Lib.hid hBz
    have HE := Lib.hid (And.intro (HEE.out) (HH0.out))
    clear hzb hBz d0 d1 d2 d3 d4 e0 e1 e2 e3 e4
    refine bodyPost_ret (v := .tuple #[.agg #[.int .i64 0, .slice none 0 0, .slice none 0 0, .slice none 0 0, .slice none 0 0], .int .i64 (b.chk)]) (by simp [results, Try.f37, go_sem, p0, p1, p2, p3, p4, hlz]) rfl ⟨.inr ⟨by rw [HE.out.1]; exact HE.out.2, by rw [HE.out.1]⟩, HZ.out⟩
  have hB2 := HV.out.1.trans (hb2.mono HV.out.1.size)
  have x2 := bheap HV.out.2.1 hb2 (Nat.le_refl _)
  have z2 := bheap HV.out.2.2.1 hb2 (Nat.le_refl _)
  have y2 := bheap HV.out.2.2.2.1 hb2 (Nat.le_refl _)
  have hok := hWk.ok
  have hgp : g + 1 + 1 < p := by have := hWk.hz; omega
  have hpl := hWk.lt
  clear c0 c1 c2 c3 c4 hak
  obtain ⟨c0, c1, c2, c3, c4⟩ := blk5c x2
  have hd6 := hok.d6
  have hs2 := hb2.size
  have H2 := Lib.hid (And.intro hB2 (And.intro x2 (And.intro z2 (And.intro hWk (And.intro h0 hok)))))
  clear h0 hok x2 z2 hb2 hs2
  by_cases h6 : 6 ≤ b.ds.length
  · have hee : enterE b d = 6 := by unfold enterE; rw [if_neg (by rw [H2.out.2.2.2.2.1]; simp), if_pos h6]
    have HEE := Lib.hid hee
    have h6' : (6 : Int) ≤ (b.ds.length : Int) := by omega
    clear hee h6 hWk
    obtain ⟨d0, d1, d2, d3, d4⟩ := blk5 y2
    obtain ⟨e0, e1, e2, e3, e4⟩ := And.intro (frz y2 0) (And.intro (frz y2 1) (And.intro (frz y2 2) (And.intro (frz y2 3) (frz y2 4))))
    have hl2 := heap_lt y2
    have HY := Lib.hid (And.intro y2 hB2)
    clear y2
    go_wp2_with fail
    obtain ⟨Z, hZ⟩ : ∃ Z, Z = (((((w2.setCell ⟨g + 1 + 1, 0, none⟩ (.int .i64 0)).setCell ⟨g + 1 + 1, 1, none⟩ (.slice none 0 0)).setCell ⟨g + 1 + 1, 2, none⟩ (.slice none 0 0)).setCell ⟨g + 1 + 1, 3, none⟩ (.slice none 0 0)).setCell ⟨g + 1 + 1, 4, none⟩ (.slice none 0 0)) := ⟨_, rfl⟩
    rw [← hZ]
    obtain ⟨hzb, hBz⟩ := enter_zero HY.out.1 hZ HY.out.2 (by rw [← HGW.out]; omega)
    clear hZ
    obtain ⟨p0, p1, p2, p3, p4⟩ := blk5 hzb
    have hlz := heap_lt hzb
    have HZ := Lib.hid hBz
    have HE := Lib.hid (And.intro (HEE.out) (show (6 : Int) ≠ 0 by decide))
    clear hzb hBz d0 d1 d2 d3 d4 e0 e1 e2 e3 e4
    refine bodyPost_ret (v := .tuple #[.agg #[.int .i64 0, .slice none 0 0, .slice none 0 0, .slice none 0 0, .slice none 0 0], .int .i64 (6)]) (by simp [results, Try.f37, go_sem, p0, p1, p2, p3, p4, hlz]) rfl ⟨.inr ⟨by rw [HE.out.1]; exact HE.out.2, by rw [HE.out.1]⟩, HZ.out⟩
  obtain ⟨now, hpb⟩ := hWk.hp
  have hcd := checkD_any p b (-1) 0 now d w2 hpb hWk.inn H2.out.2.2.2.2.2.ck
  unfold dv at hcd
  obtain ⟨z0, z1, z2, z3, z4, z5, z6, z7, z8, z9, z10, z11⟩ := blkD H2.out.2.2.1
  have hlg0 := heap_lt H2.out.2.1
  have hlg1 := heap_lt H2.out.2.2.1
  have h6' : ¬ (6 : Int) ≤ (b.ds.length : Int) := by omega
  obtain ⟨E, hE⟩ : ∃ E, E = deedE b.l.length b.ks.length d := ⟨_, rfl⟩
  rw [← hE] at hcd
  have HE2 := Lib.hid hE
  have H6' := Lib.hid h6
  clear hE hpb hWk h6
  go_upto_region 7 with (go_at_call 83; refine hcd.mono ?_; rintro e w3 ⟨rfl, hb3⟩)
  have hB3 := hB2.trans (hb3.mono hB2.size)
  have y3 := bheap y2 hb3 (Nat.le_refl _)
  have x3 := bheap H2.out.2.1 hb3 (Nat.le_refl _)
  have u3 := bheap H2.out.2.2.1 hb3 (Nat.le_refl _)
  have hs3 := hb3.size
  have HB3 := Lib.hid hb3
  clear c0 c1 c2 c3 c4 z0 z1 z2 z3 z4 z5 z6 z7 z8 z9 z10 z11 hb3 y2 hcd
  by_cases hE0 : E = 0
  · subst hE0
    obtain ⟨c0, c1, c2, c3, c4⟩ := blk5c x3
    obtain ⟨z0, z1, z2, z3, z4, z5, z6, z7, z8, z9, z10, z11⟩ := blkD u3
    have hob := own_any b w3 (H2.out.2.2.2.1.inn.below HB3.out (Nat.le_refl _)) (by have := H2.out.2.2.2.2.2.n5; omega) (by have := H2.out.2.2.2.2.2.f3; omega) (by have := H2.out.2.2.2.2.2.f3; have := H2.out.2.2.2.2.2.hl; omega) (by omega) (fun r hr => by have := H2.out.2.2.2.2.2.n5; have := H2.out.2.2.2.2.2.rl r hr; omega)
    unfold Hb.v at hob
    have H3 := Lib.hid (And.intro x3 (And.intro u3 (And.intro y3 hB3)))
    clear x3 u3 y3 hB3 hB2
    go_upto_region 10 with (go_at_call 84; refine hob.mono ?_; rintro e w4 ⟨⟨A1, a1, Ak, ak, Ah, ah, Ad, ad, rfl, hO⟩, hb4⟩; unfold Hb.v; dsimp only)
    obtain ⟨q, hq⟩ : ∃ q, q = w4.heap.size := ⟨_, rfl⟩
    obtain ⟨w5, hw5⟩ : ∃ w5, w5 = w4.alloc (Obj.cells #[Value.int .i64 b.t, .slice A1 b.l.length a1, .slice Ak b.ks.length ak, .slice Ah b.hs.length ah, .slice Ad b.ds.length ad] 29) := ⟨_, rfl⟩
    rw [← hw5, ← hq]
    have q5 : w5.heap[q]? = some (boxO b.t (.slice A1 b.l.length a1) (.slice Ak b.ks.length ak) (.slice Ah b.hs.length ah) (.slice Ad b.ds.length ad)) := by rw [hw5, hq]; exact alloc_at rfl
    have hb5 : Below w3.heap.size w3 w5 := by rw [hw5]; exact bal hb4 (Nat.le_refl _) _
    have hO5 : HbO w5 w3.heap.size ⟨b.t, A1, a1, b.l, Ak, ak, b.ks, Ah, ah, b.hs, Ad, ad, b.ds⟩ := by rw [hw5]; exact hO.below (bal0 w4 _) (Nat.le_refl _)
    have hsq : w3.heap.size ≤ q := by rw [hq]; exact hb4.size
    clear hw5 hq hO hb4 hob c0 c1 c2 c3 c4 z0 z1 z2 z3 z4 z5 z6 z7 z8 z9 z10 z11
    have u5 := bheap H3.out.2.1 hb5 (Nat.le_refl _)
    obtain ⟨z0, z1, z2, z3, z4, z5, z6, z7, z8, z9, z10, z11⟩ := blkD u5
    obtain ⟨c0, c1, c2, c3, c4⟩ := blk5 q5
    have fq := frz q5 4
    have hlq := heap_lt q5
    have hlu := heap_lt u5
    have H5 := Lib.hid (And.intro q5 (And.intro hb5 hO5))
    clear q5 hb5 hO5 u5
    have hdl : b.ds.length < 4294967296 := by omega
    go_upto_region 11 with (at_builtin; refine wp_appx okDeed rfl (.tmp 34) (.tmp 36) rfl w3.heap.size _ b.ds d _ rfl rfl rfl rfl (one_eDe _) H5.out.2.2.d hdl ?_ ?_ ?_; (decide); (omega); intro gd cd w6 hod hgd hb6; have hqo : (Hb.vd ⟨b.t, A1, a1, b.l, Ak, ak, b.ks, Ah, ah, b.hs, Ad, ad, b.ds⟩).ownBlock ≠ some q := H5.out.2.2.d.ne' H5.out.1 (by decide); have q6 : w6.heap[q]? = _ := (hgd.block q hlq (fun e => hqo e.symm)).trans H5.out.1; have k4 := (blk5 q6).2.2.2.2; have fq6 := frz q6 4; have hlq6 := heap_lt q6; have H6 := Lib.hid (And.intro q6 (And.intro hod (And.intro hgd hb6))); clear q6 hod hgd hb6 hqo)
    obtain ⟨w7, hw7⟩ : ∃ w7, w7 = w6.setCell ⟨q, 4, none⟩ (.slice (some ⟨gd, 0, none⟩) (b.ds.length + 1) cd) := ⟨_, rfl⟩
    rw [← hw7]
    have q7 : w7.heap[q]? = some (boxO b.t (.slice A1 b.l.length a1) (.slice Ak b.ks.length ak) (.slice Ah b.hs.length ah) (.slice (some ⟨gd, 0, none⟩) (b.ds.length + 1) cd)) := by rw [hw7]; exact (set_blk H6.out.1).trans (by simp [boxO])
    have hg7 : w6.grownBy w7 (some q) := by rw [hw7]; exact ⟨rfl, rfl, rfl, by simp, fun j _ hne => Below.heap_setCell _ ⟨q, 4, none⟩ _ j (fun e => hne (by rw [e]))⟩
    have hb7 : Below w3.heap.size w3 w7 := by
      rw [hw7]
      exact Below.setCell (H5.out.2.1.trans H6.out.2.2.2) (p := ⟨q, 4, none⟩) hsq _
    have hO7 : HbO w7 w3.heap.size ⟨b.t, A1, a1, b.l, Ak, ak, b.ks, Ah, ah, b.hs, some ⟨gd, 0, none⟩, cd, b.ds ++ [d]⟩ := by
      have hd5 := H5.out.2.2.d
      have hg6 := H6.out.2.2.1
      refine ⟨?_, ?_, ?_, ?_⟩
      · have h := H5.out.2.2.m.kept hg6 (own_ne H5.out.2.2.m hd5 (by decide))
        exact h.kept hg7 (.inr (h.ne' H6.out.1 (by decide)))
      · have h := H5.out.2.2.k.kept hg6 (own_ne H5.out.2.2.k hd5 (by decide))
        exact h.kept hg7 (.inr (h.ne' H6.out.1 (by decide)))
      · obtain ⟨mv, h1, h2⟩ := H5.out.2.2.h
        have h : OwnG w6 w3.heap.size (Hb.vh ⟨b.t, A1, a1, b.l, Ak, ak, b.ks, Ah, ah, b.hs, Ad, ad, b.ds⟩) b.hs :=
          ⟨mv, h1.kept hg6 (own_ne h1 hd5 (by decide)), Rws.kept h2 hg6 (fun x hx => by
            obtain ⟨k, hk⟩ := List.getElem?_of_mem hx
            obtain ⟨l, _, ho⟩ := h2.2 k x hk
            exact own_ne ho hd5 (by decide))⟩
        exact h.keptB hg7 H6.out.1
      · have h := H6.out.2.1
        have h' := h.kept hg7 (.inr (h.ne' H6.out.1 (by decide)))
        unfold Hb.vd
        rw [List.length_append, List.length_singleton]
        exact h'
    have H7 := Lib.hid (And.intro q7 (And.intro hb7 hO7))
    clear hw7 q7 hg7 hb7 hO7 k4 fq6 hlq6 c0 c1 c2 c3 c4 z0 z1 z2 z3 z4 z5 z6 z7 z8 z9 z10 z11 hlq hlu fq
    have hW7 := H2.out.2.2.2.1.below (HB3.out.trans (H7.out.2.1.mono HB3.out.size)) (Nat.le_refl _)
    have htr := truth_any V p b (-1) 0 w7 hW7
    obtain ⟨tb, htb⟩ : ∃ tb, tb = !decide (b.ends (-1) 0 = []) := ⟨_, rfl⟩
    rw [← htb] at htr
    have HTB := Lib.hid htb
    have HW7 := Lib.hid hW7
    clear htb hW7
    have hqp : q ≠ p := by omega
    have hep : endsL b.t b.l b.hs (b.ds ++ [d]) (-1) 0 = Hb.ends ⟨b.t, A1, a1, b.l, Ak, ak, b.ks, Ah, ah, b.hs, some ⟨gd, 0, none⟩, cd, b.ds ++ [d]⟩ (-1) 0 := rfl
    have hck2 : Hb.chk ⟨b.t, A1, a1, b.l, Ak, ak, b.ks, Ah, ah, b.hs, some ⟨gd, 0, none⟩, cd, b.ds ++ [d]⟩ = 0 := checkH_snoc H2.out.2.2.2.2.1 (by omega) HE2.out.symm
    obtain ⟨b', hb'⟩ : ∃ b' : Hb, b' = ⟨b.t, A1, a1, b.l, Ak, ak, b.ks, Ah, ah, b.hs, some ⟨gd, 0, none⟩, cd, b.ds ++ [d]⟩ := ⟨_, rfl⟩
    have hbv : b'.v = .agg #[.int .i64 b.t, .slice A1 b.l.length a1, .slice Ak b.ks.length ak, .slice Ah b.hs.length ah, .slice (some ⟨gd, 0, none⟩) (b.ds.length + 1) cd] := by rw [hb']; unfold Hb.v; simp
    have hO7 := H7.out.2.2
    rw [← hb'] at hO7 hck2 hep
    have HB' := Lib.hid (And.intro hb' (And.intro hbv (And.intro hO7 (And.intro hck2 hep))))
    clear hb' hbv hO7 hck2 hep
    cases tb with
    | false =>
      have hee : enterE b d = 0 := by
        unfold enterE
        rw [if_neg (by rw [H2.out.2.2.2.2.1]; simp), if_neg H6'.out, if_neg (by rw [← HE2.out]; simp), if_neg]
        rintro ⟨h, -⟩
        have := HTB.out
        simp at this
        exact h this
      have HEE := Lib.hid hee
      clear hee
      go_wp2_with (go_at_call 57; refine htr.mono ?_; rintro e w8 ⟨rfl, hN⟩; have q10 := hN.blk H7.out.1 hqp; have y10 := hN.blk (bheap H3.out.2.2.1 H7.out.2.1 (Nat.le_refl _)) (show g + 1 + 1 ≠ p by omega); have hO10 := HB'.out.2.2.1.now hN (by omega); have hB10 := (H3.out.2.2.2.trans (H7.out.2.1.mono H3.out.2.2.2.size)).trans (hN.less (show w.heap.size ≤ p by have := HGW.out; omega) (by have := H3.out.2.2.2.size; have := H7.out.2.1.size; omega)); obtain ⟨c0, c1, c2, c3, c4⟩ := blk5 q10; obtain ⟨d0, d1, d2, d3, d4⟩ := blk5 y10; obtain ⟨e0, e1, e2, e3, e4⟩ := And.intro (frz y10 0) (And.intro (frz y10 1) (And.intro (frz y10 2) (And.intro (frz y10 3) (frz y10 4)))); have hl2 := heap_lt y10; have hl3 := heap_lt q10; have HY := Lib.hid (And.intro y10 (And.intro hO10 (And.intro hB10 HEE.out))); clear hN y10 q10 hO10 hB10)
      obtain ⟨Z, hZ⟩ : ∃ Z, Z = (((((w8.setCell ⟨g + 1 + 1, 0, none⟩ (.int .i64 b.t)).setCell ⟨g + 1 + 1, 1, none⟩ (.slice A1 b.l.length a1)).setCell ⟨g + 1 + 1, 2, none⟩ (.slice Ak b.ks.length ak)).setCell ⟨g + 1 + 1, 3, none⟩ (.slice Ah b.hs.length ah)).setCell ⟨g + 1 + 1, 4, none⟩ (.slice (some ⟨gd, 0, none⟩) (b.ds.length + 1) cd)) := ⟨_, rfl⟩
      rw [← hZ]
      obtain ⟨hzb, hBz, hgz⟩ := enter_put HY.out.1 hZ HY.out.2.2.1 (by rw [← HGW.out]; omega)
      clear hZ
      have hOz := (HY.out.2.1.keptG hgz (show g + 1 + 1 < w3.heap.size by omega)).mono (show w.heap.size ≤ w3.heap.size from H3.out.2.2.2.size)
      rw [HB'.out.1] at hOz
      obtain ⟨p0, p1, p2, p3, p4⟩ := blk5 hzb
      have hlz := heap_lt hzb
      have HZ := Lib.hid (And.intro hOz hBz)
      have hev := HB'.out.2.1
      rw [HB'.out.1] at hev
      clear hzb hBz hgz hOz
      refine bodyPost_ret (v := .tuple #[Hb.v ⟨b.t, A1, a1, b.l, Ak, ak, b.ks, Ah, ah, b.hs, some ⟨gd, 0, none⟩, cd, b.ds ++ [d]⟩, .int .i64 0]) (by rw [hev]; clear hev; simp [results, Try.f37, go_sem, p0, p1, p2, p3, p4, hlz]) rfl ⟨.inl ⟨HY.out.2.2.2, _, _, _, _, _, _, _, _, rfl, HZ.out.1⟩, HZ.out.2⟩
    | true =>
      go_wp2_with (first
        | (go_at_call 57; with_reducible refine htr.mono ?_; rintro e w8 ⟨rfl, hN⟩; have q8 := hN.blk H7.out.1 hqp; have x8 := hN.blk (bheap H3.out.2.2.1 H7.out.2.1 (Nat.le_refl _)) (show g + 1 + 1 ≠ p by omega); obtain ⟨c0, c1, c2, c3, c4⟩ := blk5 q8; have H8 := Lib.hid (And.intro hN (And.intro q8 x8)); clear hN q8 x8)
        | (go_at_call 85; rw [← HB'.out.2.1]; refine (begin_any b' _).mono ?_; rintro e w9 ⟨p2, rfl, hp2, hk2, hb9⟩)
        | (go_at_call 57; have hO8 := HB'.out.2.2.1.now H8.out.1 (show p < w3.heap.size by omega); have hW9 : Work w8 p2 b' (-1) 0 w9 := ⟨hO8.inn, hp2, hb9, ⟨0, hk2⟩, HB'.out.2.2.2.1⟩; have ht2 := truth_any w8 p2 b' (-1) 0 w9 hW9; refine ht2.mono ?_; rintro e w10 ⟨rfl, hN2⟩; obtain ⟨tb2, htb2⟩ : ∃ tb, tb = !decide (b'.ends (-1) 0 = []) := ⟨_, rfl⟩; rw [← htb2]; have HTB2 := Lib.hid htb2; have hb10 : Below w8.heap.size w8 w10 := hb9.trans (hN2.less hp2 hb9.size); have q10 := bheap H8.out.2.1 hb10 (Nat.le_refl _); have y10 := bheap H8.out.2.2 hb10 (Nat.le_refl _); have hO10 := hO8.below hb10 (Nat.le_refl _); have hB8 := (H3.out.2.2.2.trans (H7.out.2.1.mono H3.out.2.2.2.size)).trans (H8.out.1.less (show w.heap.size ≤ p by have := HGW.out; omega) (by have := H3.out.2.2.2.size; have := H7.out.2.1.size; omega)); have hB10 := hB8.trans (hb10.mono hB8.size); clear c0 c1 c2 c3 c4; obtain ⟨c0, c1, c2, c3, c4⟩ := blk5 q10; obtain ⟨d0, d1, d2, d3, d4⟩ := blk5 y10; obtain ⟨e0, e1, e2, e3, e4⟩ := And.intro (frz y10 0) (And.intro (frz y10 1) (And.intro (frz y10 2) (And.intro (frz y10 3) (frz y10 4)))); have hl2 := heap_lt y10; have hl3 := heap_lt q10; have H10 := Lib.hid (And.intro y10 (And.intro hO10 hB10)); clear htb2 hO8 hb10 hN2 hW9 hb9 hk2 hp2 ht2 y10 q10 hO10 hB10 hB8; cases tb2))
      · have hee : enterE b d = 12 := by
          unfold enterE
          rw [if_neg (by rw [H2.out.2.2.2.2.1]; simp), if_neg H6'.out, if_neg (by rw [← HE2.out]; simp), if_pos]
          refine ⟨?_, ?_⟩
          · have := HTB.out
            simp at this
            exact this
          · rw [HB'.out.2.2.2.2]
            have := HTB2.out
            simp at this
            exact this
        have HEE := Lib.hid hee
        have HY := Lib.hid (And.intro H10.out.1 H10.out.2.2)
        clear hee
        obtain ⟨Z, hZ⟩ : ∃ Z, Z = (((((w10.setCell ⟨g + 1 + 1, 0, none⟩ (.int .i64 0)).setCell ⟨g + 1 + 1, 1, none⟩ (.slice none 0 0)).setCell ⟨g + 1 + 1, 2, none⟩ (.slice none 0 0)).setCell ⟨g + 1 + 1, 3, none⟩ (.slice none 0 0)).setCell ⟨g + 1 + 1, 4, none⟩ (.slice none 0 0)) := ⟨_, rfl⟩
        rw [← hZ]
        obtain ⟨hzb, hBz⟩ := enter_zero HY.out.1 hZ HY.out.2 (by rw [← HGW.out]; omega)
        clear hZ
        obtain ⟨p0, p1, p2, p3, p4⟩ := blk5 hzb
        have hlz := heap_lt hzb
        have HZ := Lib.hid hBz
        have HE := Lib.hid (And.intro (HEE.out) (show (12 : Int) ≠ 0 by decide))
        clear hzb hBz
        refine bodyPost_ret (v := .tuple #[.agg #[.int .i64 0, .slice none 0 0, .slice none 0 0, .slice none 0 0, .slice none 0 0], .int .i64 (12)]) (by simp [results, Try.f37, go_sem, p0, p1, p2, p3, p4, hlz]) rfl ⟨.inr ⟨by rw [HE.out.1]; exact HE.out.2, by rw [HE.out.1]⟩, HZ.out⟩
      · have hee : enterE b d = 0 := by
          unfold enterE
          rw [if_neg (by rw [H2.out.2.2.2.2.1]; simp), if_neg H6'.out, if_neg (by rw [← HE2.out]; simp), if_neg]
          rintro ⟨-, h⟩
          rw [HB'.out.2.2.2.2] at h
          have := HTB2.out
          simp at this
          exact this h
        have HY := Lib.hid (And.intro H10.out.1 (And.intro H10.out.2.1 (And.intro H10.out.2.2 hee)))
        clear hee
        obtain ⟨Z, hZ⟩ : ∃ Z, Z = (((((w10.setCell ⟨g + 1 + 1, 0, none⟩ (.int .i64 b.t)).setCell ⟨g + 1 + 1, 1, none⟩ (.slice A1 b.l.length a1)).setCell ⟨g + 1 + 1, 2, none⟩ (.slice Ak b.ks.length ak)).setCell ⟨g + 1 + 1, 3, none⟩ (.slice Ah b.hs.length ah)).setCell ⟨g + 1 + 1, 4, none⟩ (.slice (some ⟨gd, 0, none⟩) (b.ds.length + 1) cd)) := ⟨_, rfl⟩
        rw [← hZ]
        obtain ⟨hzb, hBz, hgz⟩ := enter_put HY.out.1 hZ HY.out.2.2.1 (by rw [← HGW.out]; omega)
        clear hZ
        have hOz := (HY.out.2.1.keptG hgz (show g + 1 + 1 < w3.heap.size by omega)).mono (show w.heap.size ≤ w3.heap.size from H3.out.2.2.2.size)
        rw [HB'.out.1] at hOz
        obtain ⟨p0, p1, p2, p3, p4⟩ := blk5 hzb
        have hlz := heap_lt hzb
        have HZ := Lib.hid (And.intro hOz hBz)
        have hev := HB'.out.2.1
        rw [HB'.out.1] at hev
        clear hzb hBz hgz hOz
        refine bodyPost_ret (v := .tuple #[Hb.v ⟨b.t, A1, a1, b.l, Ak, ak, b.ks, Ah, ah, b.hs, some ⟨gd, 0, none⟩, cd, b.ds ++ [d]⟩, .int .i64 0]) (by rw [hev]; clear hev; simp [results, Try.f37, go_sem, p0, p1, p2, p3, p4, hlz]) rfl ⟨.inl ⟨HY.out.2.2.2, _, _, _, _, _, _, _, _, rfl, HZ.out.1⟩, HZ.out.2⟩
  · have hx : (E != 0) = true := by simp [hE0]
    have hee : enterE b d = E := by
      unfold enterE
      rw [if_neg (by rw [H2.out.2.2.2.2.1]; simp), if_neg H6'.out, if_pos (by rw [← HE2.out]; exact hE0), HE2.out]
    have HEE := Lib.hid hee
    have HE0 := Lib.hid hE0
    clear hee hE0 x3 u3 hB2
    obtain ⟨d0, d1, d2, d3, d4⟩ := blk5 y3
    obtain ⟨e0, e1, e2, e3, e4⟩ := And.intro (frz y3 0) (And.intro (frz y3 1) (And.intro (frz y3 2) (And.intro (frz y3 3) (frz y3 4))))
    have hl2 := heap_lt y3
    have HY := Lib.hid (And.intro y3 hB3)
    clear y3
    go_wp2_with fail
    obtain ⟨Z, hZ⟩ : ∃ Z, Z = (((((w3.setCell ⟨g + 1 + 1, 0, none⟩ (.int .i64 0)).setCell ⟨g + 1 + 1, 1, none⟩ (.slice none 0 0)).setCell ⟨g + 1 + 1, 2, none⟩ (.slice none 0 0)).setCell ⟨g + 1 + 1, 3, none⟩ (.slice none 0 0)).setCell ⟨g + 1 + 1, 4, none⟩ (.slice none 0 0)) := ⟨_, rfl⟩
    rw [← hZ]
    obtain ⟨hzb, hBz⟩ := enter_zero HY.out.1 hZ HY.out.2 (by rw [← HGW.out]; omega)
    clear hZ
    obtain ⟨p0, p1, p2, p3, p4⟩ := blk5 hzb
    have hlz := heap_lt hzb
    have HZ := Lib.hid hBz
    have HE := Lib.hid (And.intro (HEE.out) (HE0.out))
    clear hzb hBz d0 d1 d2 d3 d4 e0 e1 e2 e3 e4
    refine bodyPost_ret (v := .tuple #[.agg #[.int .i64 0, .slice none 0 0, .slice none 0 0, .slice none 0 0, .slice none 0 0], .int .i64 (E)]) (by simp [results, Try.f37, go_sem, p0, p1, p2, p3, p4, hlz]) rfl ⟨.inr ⟨by rw [HE.out.1]; exact HE.out.2, by rw [HE.out.1]⟩, HZ.out⟩
end Go.Proofs.Ytmennjmjakdkcaa
namespace Go.Proofs.Ytmennjmjakdkcaa
open Go.RowKit
set_option linter.unusedVariables false
set_option linter.unusedSimpArgs false

theorem enterE_two {b : Hb} {d : De} (hck : b.chk = 0) (h6 : b.ds.length < 6) (hd : deedE b.l.length b.ks.length d = 0) :
    (enterE b d = 0 ∨ enterE b d = 12) ∧ (b.ends (-1) 0 ≠ [] → enterE b d = 0 → endsL b.t b.l b.hs (b.ds ++ [d]) (-1) 0 ≠ []) ∧ (enterE b d = 12 → endsL b.t b.l b.hs (b.ds ++ [d]) (-1) 0 = []) := by
  have e : enterE b d = if b.ends (-1) 0 ≠ [] ∧ endsL b.t b.l b.hs (b.ds ++ [d]) (-1) 0 = [] then 12 else 0 := by
    unfold enterE
    rw [if_neg (by rw [hck]; simp), if_neg (by omega), if_neg (by rw [hd]; simp)]
  by_cases h : b.ends (-1) 0 ≠ [] ∧ endsL b.t b.l b.hs (b.ds ++ [d]) (-1) 0 = []
  · rw [if_pos h] at e
    exact ⟨.inr e, (fun _ h0 => by rw [e] at h0; cases h0), (fun _ => h.2)⟩
  · rw [if_neg h] at e
    exact ⟨.inl e, (fun h1 _ h2 => h ⟨h1, h2⟩), (fun h0 => by rw [e] at h0; cases h0)⟩
theorem enter_born {b : Hb} (hck : b.chk = 0) (h6 : b.ds.length < 6) (hne : b.ends (-1) 0 ≠ []) {f o : Nat} {k : Int} (hf : f < b.ks.length) (ho : o < b.l.length) (hk : 1 ≤ k ∧ k ≤ 3) :
    enterE b ⟨1, f, o, 0, 0, k, 0, sZ⟩ = 0 ∧ endsL b.t b.l b.hs (b.ds ++ [⟨1, f, o, 0, 0, k, 0, sZ⟩]) (-1) 0 ≠ [] := by
  have hd : deedE b.l.length b.ks.length ⟨1, f, o, 0, 0, k, 0, sZ⟩ = 0 := by
    refine deedE_ok (by dsimp; omega) ⟨by dsimp; omega, by dsimp; omega⟩ ?_ (by simp [namD])
    simp [fldE, ownB_nat ho, btw_iff]; omega
  have hE : endsL b.t b.l b.hs (b.ds ++ [⟨1, f, o, 0, 0, k, 0, sZ⟩]) (-1) 0 ≠ [] := by
    obtain ⟨y, hy⟩ := List.exists_mem_of_ne_nil _ hne
    exact List.ne_nil_of_mem ((ends_born rfl _).2 ⟨y, hy, rfl⟩)
  obtain ⟨h1, h2, h3⟩ := enterE_two hck h6 hd
  rcases h1 with h1 | h1
  · exact ⟨h1, hE⟩
  · exact absurd (h3 h1) hE
theorem range_born {b : Hb} (hok : HeOk b.t b.l b.ks b.hs b.ds) (hne : b.ends (-1) 0 ≠ []) {f o : Nat} {k : Int} (hf : f < b.ks.length) (ho : o < b.l.length) {f' o' : Nat} (hf' : f' < b.ks.length) (ho' : o' < b.l.length) :
    rangeE (endsL b.t b.l b.hs (b.ds ++ [⟨1, f, o, 0, 0, k, 0, sZ⟩]) (-1) 0) (fun h => hget h f' o') =
      if f = f' ∧ o = o' then ⟨(rangeE (b.ends (-1) 0) fun h => hget h f' o').lo + k, (rangeE (b.ends (-1) 0) fun h => hget h f' o').hi + k⟩ else rangeE (b.ends (-1) 0) fun h => hget h f' o' := by
  have h3 := hok.f3
  have h5 := hok.n5
  have hE : ∀ h ∈ b.ends (-1) 0, h.length = 15 := fun h hh => (endsTo_bd hok.f3 hok.n5 hok.rb hok.dI _ h hh).1
  by_cases e : f = f' ∧ o = o'
  · rw [if_pos e]
    refine rangeE_shift (φ := fun h => hadd h f o k) hne (fun x => ?_) (fun y hy => ?_)
    · rw [ends_born rfl]; simp; rfl
    · rw [hget_hadd (hE y hy) (by omega) (by omega) (by omega), if_pos e, e.1, e.2]
  · rw [if_neg e]
    have := rangeE_shift (E := b.ends (-1) 0) (E' := endsL b.t b.l b.hs (b.ds ++ [⟨1, f, o, 0, 0, k, 0, sZ⟩]) (-1) 0) (f := fun h => hget h f' o') (g := fun h => hget h f' o') (m := 0) (φ := fun h => hadd h f o k) hne (fun x => by rw [ends_born rfl]; simp; rfl) (fun y hy => by
      rw [hget_hadd (hE y hy) (by omega) (by omega) (by omega), if_neg e, Int.add_zero])
    rw [this, Int.add_zero, Int.add_zero]
/-- who counts them all counts right -/
theorem count_self {h : List Int} {f : Nat} {err N : Int} (hN : hall h f = N) (h0 : 0 ≤ N) (he : 0 ≤ err ∧ err ≤ 10) : countB ⟨6, f, 0, 0, 0, N, err, sZ⟩ h = true := by
  unfold countB
  simp only [Int.toNat_natCast]
  rw [hN, btw_iff]
  have hc : err = 0 ∨ err = 1 ∨ err = 2 ∨ err = 3 ∨ err = 4 ∨ err = 5 ∨ err = 6 ∨ err = 7 ∨ err = 8 ∨ err = 9 ∨ err = 10 := by omega
  rcases hc with rfl | rfl | rfl | rfl | rfl | rfl | rfl | rfl | rfl | rfl | rfl <;>
    exact ⟨by rw [Int.tdiv_eq_ediv_of_nonneg (by omega)]; omega, by rw [Int.tdiv_eq_ediv_of_nonneg (by omega)]; omega⟩
/-- a count: what is then known is known already, or more narrowly; and it can be against the book only where not all were counted -/
theorem enter_count {b : Hb} (hck : b.chk = 0) (h6 : b.ds.length < 6) {f : Nat} {N err : Int} (hf : f < b.ks.length) (hN : 0 ≤ N ∧ N ≤ 300) (he : 0 ≤ err ∧ err ≤ 10) :
    (enterE b ⟨6, f, 0, 0, 0, N, err, sZ⟩ = 0 ∨ enterE b ⟨6, f, 0, 0, 0, N, err, sZ⟩ = 12) ∧
      (enterE b ⟨6, f, 0, 0, 0, N, err, sZ⟩ = 12 → ∀ h ∈ b.ends (-1) 0, hall h f ≠ N) ∧
      (b.ends (-1) 0 ≠ [] → enterE b ⟨6, f, 0, 0, 0, N, err, sZ⟩ = 0 → ∀ g : List Int → Int, (rangeE (b.ends (-1) 0) g).lo ≤ (rangeE (endsL b.t b.l b.hs (b.ds ++ [⟨6, f, 0, 0, 0, N, err, sZ⟩]) (-1) 0) g).lo ∧
        (rangeE (endsL b.t b.l b.hs (b.ds ++ [⟨6, f, 0, 0, 0, N, err, sZ⟩]) (-1) 0) g).hi ≤ (rangeE (b.ends (-1) 0) g).hi) := by
  have hd : deedE b.l.length b.ks.length ⟨6, f, 0, 0, 0, N, err, sZ⟩ = 0 := by
    refine deedE_ok (by dsimp; omega) ⟨by dsimp; omega, by dsimp; omega⟩ ?_ (by simp [namD])
    simp [fldE, btw_iff]; omega
  obtain ⟨h1, h2, h3⟩ := enterE_two hck h6 hd
  refine ⟨h1, fun h12 h hh e => ?_, fun hne h0 g => rangeE_within (h2 hne h0) fun x hx => ⟨x, ((ends_counted rfl x).1 hx).1, rfl⟩⟩
  have := (ends_counted (d := ⟨6, f, 0, 0, 0, N, err, sZ⟩) rfl h).2 ⟨hh, count_self e hN.1 he⟩
  rw [h3 h12] at this
  cases this
/-- a stray: owners keep what they have -/
theorem enter_stray {b : Hb} (hck : b.chk = 0) (h6 : b.ds.length < 6) {f g : Nat} {s : Sg} (hf : f < b.ks.length) (hg : g < b.ks.length) (hne : f ≠ g) (hs : seen s 9 6 = 0) :
    (enterE b ⟨5, f, 0, 0, g, 0, 0, s⟩ = 0 ∨ enterE b ⟨5, f, 0, 0, g, 0, 0, s⟩ = 12) ∧
      (b.ends (-1) 0 ≠ [] → enterE b ⟨5, f, 0, 0, g, 0, 0, s⟩ = 0 → ∀ o : Nat, o < b.l.length → (rangeE (b.ends (-1) 0) fun h => howned h o).lo ≤ (rangeE (endsL b.t b.l b.hs (b.ds ++ [⟨5, f, 0, 0, g, 0, 0, s⟩]) (-1) 0) fun h => howned h o).lo ∧
        (rangeE (endsL b.t b.l b.hs (b.ds ++ [⟨5, f, 0, 0, g, 0, 0, s⟩]) (-1) 0) fun h => howned h o).hi ≤ (rangeE (b.ends (-1) 0) fun h => howned h o).hi) := by
  have hok := checkH_ok hck
  have hd : deedE b.l.length b.ks.length ⟨5, f, 0, 0, g, 0, 0, s⟩ = 0 := by
    refine deedE_ok (by dsimp; omega) ⟨by dsimp; omega, by dsimp; omega⟩ ?_ (by simp [namD])
    have e2 : ¬ (g : Int) = f := by omega
    simp [fldE, ownB_nat hg, hs, e2]; try omega
  have hin := (deedE_in hok.n5 hok.f3 hok.f0 hok.n0 hd).1
  have hE : ∀ h ∈ b.ends (-1) 0, h.length = 15 := fun h hh => (endsTo_bd hok.f3 hok.n5 hok.rb hok.dI _ h hh).1
  obtain ⟨h1, h2, h3⟩ := enterE_two hck h6 hd
  have h5 := hok.n5
  refine ⟨h1, fun hne h0 o ho => rangeE_within (h2 hne h0) fun x hx => ?_⟩
  obtain ⟨y, hy, e⟩ := ends_strayed hok.f3 hok.n5 hin rfl hE hx
  exact ⟨y, hy, e o (by omega)⟩
end Go.Proofs.Ytmennjmjakdkcaa
namespace Go.Proofs.Ytmennjmjakdkcaa
open Go.RowKit
set_option linter.unusedVariables false
set_option linter.unusedSimpArgs false

set_option maxRecDepth 100000 in
theorem run_row3 (x0 x1 x2 x3 x4 x5 x6 x7 x8 x9 x10 x11 x12 x13 x14 : Int) (w : World) :
    (Instr.index 137 (.agg #[.int .i64 x0, .int .i64 x1, .int .i64 x2, .int .i64 x3, .int .i64 x4, .int .i64 x5, .int .i64 x6, .int .i64 x7, .int .i64 x8, .int .i64 x9, .int .i64 x10, .int .i64 x11, .int .i64 x12, .int .i64 x13, .int .i64 x14]) (.int .i64 0)).run Try.prog w = .ok (.agg #[.int .i64 x0, .int .i64 x1, .int .i64 x2, .int .i64 x3, .int .i64 x4]) w ∧
    (Instr.index 137 (.agg #[.int .i64 x0, .int .i64 x1, .int .i64 x2, .int .i64 x3, .int .i64 x4, .int .i64 x5, .int .i64 x6, .int .i64 x7, .int .i64 x8, .int .i64 x9, .int .i64 x10, .int .i64 x11, .int .i64 x12, .int .i64 x13, .int .i64 x14]) (.int .i64 1)).run Try.prog w = .ok (.agg #[.int .i64 x5, .int .i64 x6, .int .i64 x7, .int .i64 x8, .int .i64 x9]) w ∧
    (Instr.index 137 (.agg #[.int .i64 x0, .int .i64 x1, .int .i64 x2, .int .i64 x3, .int .i64 x4, .int .i64 x5, .int .i64 x6, .int .i64 x7, .int .i64 x8, .int .i64 x9, .int .i64 x10, .int .i64 x11, .int .i64 x12, .int .i64 x13, .int .i64 x14]) (.int .i64 2)).run Try.prog w = .ok (.agg #[.int .i64 x10, .int .i64 x11, .int .i64 x12, .int .i64 x13, .int .i64 x14]) w := ⟨by kernel_rfl, by kernel_rfl, by kernel_rfl⟩
theorem run_row (h : List Int) (hl : h.length = 15) (w : World) (k : Nat) (hk : k < 3) :
    (Instr.index 137 (.agg (hcs h)) (.int .i64 (k : Int))).run Try.prog w = .ok (.agg #[.int .i64 (hget h k 0), .int .i64 (hget h k 1), .int .i64 (hget h k 2), .int .i64 (hget h k 3), .int .i64 (hget h k 4)]) w := by
  obtain ⟨a, b, c, d, e, f, g, i, j, l, m, n, o, p, q, rfl⟩ := list15' hl
  obtain ⟨h0, h1, h2⟩ := run_row3 a b c d e f g i j l m n o p q w
  obtain rfl | rfl | rfl : k = 0 ∨ k = 1 ∨ k = 2 := by omega
  · exact h0
  · exact h1
  · exact h2
theorem cell5 (x0 x1 x2 x3 x4 : Int) (w : World) (e : TypeId) (o : Nat) (ho : o < 5) : (w.alloc (Obj.cells #[.int .i64 x0, .int .i64 x1, .int .i64 x2, .int .i64 x3, .int .i64 x4] e)).cell? ⟨w.heap.size, o, none⟩ = some (.int .i64 ([x0, x1, x2, x3, x4].getD o 0)) := by
  have h : (w.alloc (Obj.cells #[.int .i64 x0, .int .i64 x1, .int .i64 x2, .int .i64 x3, .int .i64 x4] e)).heap[w.heap.size]? = some (Obj.cells #[.int .i64 x0, .int .i64 x1, .int .i64 x2, .int .i64 x3, .int .i64 x4] e) := alloc_at rfl
  obtain rfl | rfl | rfl | rfl | rfl : o = 0 ∨ o = 1 ∨ o = 2 ∨ o = 3 ∨ o = 4 := by omega
  all_goals
    unfold World.cell?
    rw [h]
    rfl
theorem row_getD (h : List Int) (k o : Nat) (ho : o < 5) : [hget h k 0, hget h k 1, hget h k 2, hget h k 3, hget h k 4].getD o 0 = hget h k o := by
  obtain rfl | rfl | rfl | rfl | rfl : o = 0 ∨ o = 1 ∨ o = 2 ∨ o = 3 ∨ o = 4 := by omega
  all_goals rfl
set_option maxRecDepth 100000 in
set_option maxHeartbeats 2000000 in
theorem owned_any (h : List Int) (o : Nat) (w : World) (hh : HBd 1000 h) (ho : o < 5) :
    Calls Try.prog 86 #[.agg (hcs h), .int .i64 o] w fun e w' => e = .returned (.int .i64 (howned h o)) ∧ Below w.heap.size w w' := by
  have hl := hh.1
  obtain ⟨V, hV⟩ : ∃ V, V = w.alloc (Obj.cells (hcs h) 137) := ⟨_, rfl⟩
  obtain ⟨r, hr⟩ : ∃ r, r = w.heap.size := ⟨_, rfl⟩
  have b0 : V.heap[r]? = some (hObj h) := by rw [hV, hr]; exact alloc_at rfl
  have hB : Below w.heap.size w V := by rw [hV]; exact bal0 w _
  have HV := Lib.hid (And.intro hB hh)
  go_enter Try.func86, Try.ntmps86
  go_upto_region 1 with (fail)
  rw [← hV, ← hr]
  clear hV hr hB hh
  go_upto_region 3 with ((with_reducible apply wp_loadH b0 hl); (rfl); (rfl); (rfl))
  go_loopg [5, 9] 3 (fun g sv iv wr => ∃ k : Nat, k + g = 3 ∧ iv = .int .i64 k ∧ sv = .int .i64 (sumTo [hget h 0 o, hget h 1 o, hget h 2 o] k) ∧ Below V.heap.size V wr)
  case atStart => exact ⟨0, rfl, rfl, rfl, Below.refl _ _⟩
  case round =>
    obtain ⟨k, hk, rfl, rfl, hb⟩ := hrel
    by_cases hlt : k < 3
    · have hsb := sumTo_bd (r := [hget h 0 o, hget h 1 o, hget h 2 o]) (fun x hx => by
        simp only [List.mem_cons, List.not_mem_nil, or_false] at hx
        rcases hx with rfl | rfl | rfl
        · exact HV.out.2.get (by decide) ho
        · exact HV.out.2.get (by decide) ho
        · exact HV.out.2.get (by decide) ho) k
      have hnx : sumTo [hget h 0 o, hget h 1 o, hget h 2 o] (k + 1) = sumTo [hget h 0 o, hget h 1 o, hget h 2 o] k + hget h k o := by
        show _ + [hget h 0 o, hget h 1 o, hget h 2 o].getD k 0 = _
        obtain rfl | rfl | rfl : k = 0 ∨ k = 1 ∨ k = 2 := by omega
        all_goals rfl
      have hix := run_row h hl wr k hlt
      have hc5 := cell5 (hget h k 0) (hget h k 1) (hget h k 2) (hget h k 3) (hget h k 4) wr 135 o ho
      rw [row_getD h k o ho] at hc5
      have hgb := HV.out.2.get (f := k) hlt ho
      obtain ⟨S, hS⟩ : ∃ S, S = sumTo [hget h 0 o, hget h 1 o, hget h 2 o] k := ⟨_, rfl⟩
      rw [← hS] at hsb hnx ⊢
      have HN := Lib.hid (And.intro hnx (And.intro hk hb))
      have hi1 : (o : Int) < 5 := by omega
      have hk3 : (k : Int) < 3 := by omega
      clear hS hnx hk hb
      go_wp2_with fail
      go_roundg (gk - 1)
      case measure => have := HN.out.2.1; omega
      case rel => exact ⟨k + 1, by have := HN.out.2.1; omega, by go_num, by rw [HN.out.1], bal HN.out.2.2 (Nat.le_refl _) _⟩
    · obtain rfl : k = 3 := by omega
      have HN := Lib.hid hb
      clear hk hb
      go_wp2
      go_ret
      exact ⟨ret_int (by simp [sumTo, howned]), HV.out.1.trans (HN.out.mono HV.out.1.size)⟩
end Go.Proofs.Ytmennjmjakdkcaa
namespace Go.Proofs.Ytmennjmjakdkcaa
open Go.RowKit Go.MapKept
set_option linter.unusedVariables false
set_option linter.unusedSimpArgs false

theorem spansTo_owns (E : List (List Int)) (n : Nat) : spansTo E (fun o x => howned x o) n = ownsL E n := rfl
def ownsR (b : Hb) : List Rn := if askE b = 0 then ownsL (b.ends (-1) 0) b.l.length else []
def OwnsR (b : Hb) (w : World) (e : Ending) (w' : World) : Prop := (∃ v, e = .returned (.tuple #[v, .int .i64 (askE b)]) ∧ OwnR w' w.heap.size v (ownsR b)) ∧ Below w.heap.size w w'
theorem hb_of {b : Hb} {deed owner : Int} (hk : HeOk b.t b.l b.ks b.hs b.ds) : ∀ x ∈ b.ends deed owner, HBd 1000 x := fun x hx => (endsTo_bd hk.f3 hk.n5 hk.rb hk.dI _ x hx).mono (by have := hk.d6; omega)
set_option maxRecDepth 100000 in
set_option maxHeartbeats 1000000 in
theorem Owns_any (b : Hb) (w : World) (hin : HbIn w b) : Calls Try.prog 40 #[b.v] w (OwnsR b w) := by
  obtain ⟨V, hV⟩ : ∃ V, V = w.alloc b.obj := ⟨_, rfl⟩
  obtain ⟨g, hg⟩ : ∃ g, g = w.heap.size := ⟨_, rfl⟩
  have b0 : V.heap[g]? = some b.obj := by rw [hV, hg]; exact alloc_at rfl
  have hBV : Below w.heap.size w V := by rw [hV]; exact bal0 w _
  have hiV := hin.below hBV (Nat.le_refl _)
  obtain ⟨c0, c1, c2, c3, c4⟩ := blk5c b0
  have hak := asked_any b V hiV
  unfold Hb.v at hak
  have HV := Lib.hid (And.intro hBV (And.intro b0 (And.intro hiV hg)))
  have hent : ∀ (args : Array Value) (w : World), (callFunc 86 args).run Try.prog w = .ok (.enter 86 args) w := enters_of Try.func86 (by kernel_rfl) rfl
  have HENT := Lib.hid hent
  unfold Hb.v
  go_enter Try.func40, Try.ntmps40
  go_upto_region 1 with (fail)
  rw [← hV, ← hg]
  clear hV hg hin hBV hiV b0 hent
  obtain ⟨R, hR⟩ : ∃ R, R = AskedR b b.chk V := ⟨_, rfl⟩
  rw [← hR] at hak
  have HR := Lib.hid hR
  clear hR
  go_upto_region 2 with (go_at_call 55; refine hak.mono ?_; rintro e w2 hRR; rw [HR.out] at hRR; unfold AskedR at hRR; rcases hRR with ⟨h0, rfl, hb2⟩ | ⟨h0, p, rfl, hWk, hb2⟩)
  · have xf : (b.chk != 0) = true := by simp [h0]
    go_wp2_with fail
    go_ret2
    unfold OwnsR ownsR
    rw [askE_chk h0, if_neg h0]
    exact ⟨⟨_, rfl, Own.nil_⟩, HV.out.1.trans (hb2.mono HV.out.1.size)⟩
  have x0 := bheap HV.out.2.1 hb2 (Nat.le_refl _)
  have hok := hWk.ok
  clear c0 c1 c2 c3 c4 hak
  obtain ⟨c0, c1, c2, c3, c4⟩ := blk5c x0
  obtain ⟨n, hn⟩ : ∃ n, n = b.l.length := ⟨_, rfl⟩
  rw [← hn] at c1
  have hn0 : 0 < n ∧ n ≤ 5 := by rw [hn]; exact ⟨hok.n0, hok.n5⟩
  have hbd := hb_of (deed := -1) (owner := 0) hok
  have hsp := spans_any V p b (-1) 0 w2 hWk n hn0.1 (by omega) 86 #[] (fun i x => howned x i) HENT.out (fun x hx i hi W hNW => owned_any x i W (hbd x hx) (by omega))
  have H2 := Lib.hid (And.intro hb2 (And.intro hWk (And.intro h0 hn)))
  clear hb2 hWk h0 hn hok x0 hbd
  go_wp2_with (go_at_call 81; refine hsp.mono ?_; rintro e w3 ⟨⟨v, rfl, hov⟩, hN3⟩)
  go_ret2
  have hh := H2.out
  have hb3 : Below w.heap.size w w3 := (HV.out.1.trans (hh.1.mono HV.out.1.size)).trans (hN3.less (Nat.le_trans HV.out.1.size hh.2.1.hz) (Nat.le_trans HV.out.1.size hh.1.size))
  have hsz : w.heap.size ≤ w2.heap.size := Nat.le_trans HV.out.1.size hh.1.size
  unfold OwnsR ownsR
  by_cases hE : b.ends (-1) 0 = []
  · rw [askE_none hh.2.2.1 hE, if_neg (by decide)]
    rw [spansE_pos hE]
    have hov' : OwnR w3 w2.heap.size v [] := by unfold spansR at hov; rwa [if_pos hE] at hov
    exact ⟨⟨_, rfl, hov'.mono hsz⟩, hb3⟩
  · rw [askE_ok hh.2.2.1 hE, if_pos rfl]
    rw [spansE_neg hE]
    have hov' : OwnR w3 w2.heap.size v (spansTo (b.ends (-1) 0) (fun i x => howned x i) n) := by unfold spansR at hov; rwa [if_neg hE] at hov
    rw [spansTo_owns, hh.2.2.2] at hov'
    exact ⟨⟨_, rfl, hov'.mono hsz⟩, hb3⟩
end Go.Proofs.Ytmennjmjakdkcaa
namespace Go.Proofs.Ytmennjmjakdkcaa
open Go.RowKit Go.MapKept
set_option linter.unusedVariables false
set_option linter.unusedSimpArgs false

def eGf (x : Gf) : List Value := [.int .i64 x.f, .int .i64 x.o, .int .i64 x.r.lo, .int .i64 x.r.hi]
theorem Rns.get {w : World} {A : Option Addr} {n : Nat} {l : List Rn} (h : Sl eRn 2 w A n l) {k : Nat} (hk : k < n) :
    ∃ b off m, A = some ⟨b, off, none⟩ ∧ b < w.heap.size ∧ l[k]? = some m ∧ w.cell? ⟨b, off + k * 2, none⟩ = some (.int .i64 m.lo) ∧ w.cell? ⟨b, off + k * 2 + 1, none⟩ = some (.int .i64 m.hi) := by
  obtain ⟨b, off, x, hA, hx, hc⟩ := h.at_ hk
  have h0 := hc 0 _ rfl
  exact ⟨b, off, x, hA, cell_lt h0, hx, h0, hc 1 _ rfl⟩
theorem hasL_rows (E : List (List Int)) (n nf : Nat) : (hasL E n nf).length = nf ∧ ∀ r ∈ hasL E n nf, r.length = n := by
  unfold hasL
  refine ⟨by simp, fun r hr => ?_⟩
  obtain ⟨f, _, rfl⟩ := List.mem_map.1 hr
  simp
end Go.Proofs.Ytmennjmjakdkcaa
