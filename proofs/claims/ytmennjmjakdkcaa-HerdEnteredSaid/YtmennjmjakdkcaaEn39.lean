/- HerdEntered 39: EnteredA. -/
import Derived.Test.YtmennjmjakdkcaaEn26
import Derived.Test.YtmennjmjakdkcaaEn38
import Derived.Test.YtmennjmjakdkcaaEn32
namespace Go.Proofs.Ytmennjmjakdkcaa
open Go.RowKit
set_option linter.unusedVariables false
set_option linter.unusedSimpArgs false

theorem cell_far {w w' : World} {b o : Nat} (h : w'.heap[b]? = w.heap[b]?) : w'.cell? ⟨b, o, none⟩ = w.cell? ⟨b, o, none⟩ := by unfold World.cell?; rw [h]
set_option maxRecDepth 400000 in
set_option maxHeartbeats 40000000 in
theorem HerdEntered_any (A : Option Addr) (n c : Nat) (nums : List Int) (w : World) (hl : Ints w A n nums) (hn : n ≤ 9223372036854775807) :
    Calls Try.prog 7 #[.slice A n c] w fun e w' => e = .returned (.bool true) ∧ Below w.heap.size w w' := by
  go_enter Try.func7, Try.ntmps7
  go_wp2_with fail
  refine (newHand_any A n c nums _ hl hn).mono ?_
  rintro e w1 ⟨rfl, hh, hb1, hz1⟩
  clear hl hz1
  go_wp2_with fail
  refine (taleOf_any w.heap.size 0 3 3 4 _ hh (by omega) (by omega) (by omega) (by omega)).mono ?_
  rintro e w2 ⟨b, vE, vG, vW, gs, gone, whose, rfl, hck, hln, hkn, hdn, om, ok, oh, od, oE, oG, oW, hsh, hti, hd2⟩
  have hO := HbO.mk om ok oh od
  have hok := checkH_ok hck
  have hB2 := hb1.trans (hd2.below (Nat.le_refl _) hb1.size)
  have hH2 := hd2.hd
  have hs1 := hb1.size
  have hs2 := hd2.size
  have hHs := hh.lt
  obtain ⟨AE, cE, rfl, hgE, hcE, hmE⟩ := oE.ownG.form
  have HOE := Lib.hid oE.ownG
  have HT := Lib.hid (And.intro hO (And.intro hok (And.intro hck (And.intro hti (And.intro hsh (And.intro hgE (And.intro hB2 hdn)))))))
  unfold Hb.v
  clear hh hb1 hd2 hln hkn om ok oh od oE oG oW hO hck hti hsh hgE hB2 hok
  go_upto_region 3 with (fail)
  obtain ⟨B, hB⟩ : ∃ B, B = w2.heap.size := ⟨_, rfl⟩
  obtain ⟨W, hW⟩ : ∃ W, W = w2.alloc (Obj.cells #[Value.int .i64 b.t, .slice b.A b.l.length b.c, .slice b.Ak b.ks.length b.ck, .slice b.Ah b.hs.length b.ch, .slice b.Ad b.ds.length b.cd] 29) := ⟨_, rfl⟩
  rw [← hW, ← hB]
  have bW : W.heap[B]? = some (boxO b.t b.vm b.vk b.vh b.vd) := by rw [hW, hB]; exact alloc_at rfl
  have hHW : Hd W w.heap.size (0 + 100000) := by rw [hW]; exact hH2.alloc _
  have hbW : Below w2.heap.size w2 W := by rw [hW]; exact bal0 _ _
  have hBH : w.heap.size < B := by omega
  have HW := Lib.hid (And.intro bW (And.intro hbW hB))
  clear hW hB hH2 hbW
  have hHd : Hd W.drew w.heap.size 100000 := hHW.kept fun _ _ => rfl
  have HC2 := Lib.hid (fun (w' : World) (hp : W.drew.grownBy w' (some w.heap.size)) =>
    have hbk : w'.heap[B]? = some (boxO b.t b.vm b.vk b.vh b.vd) := (hp.block B (heap_lt bW) (fun e => by cases e; exact absurd rfl (Nat.ne_of_gt hBH))).trans bW
    And.intro (blk5 hbk) (heap_lt hbk))
  have hnf : 0 < b.ks.length ∧ b.ks.length ≤ 3 := ⟨HT.out.2.1.f0, HT.out.2.1.f3⟩
  have hnl : 0 < b.l.length ∧ b.l.length ≤ 5 := ⟨HT.out.2.1.n0, HT.out.2.1.n5⟩
  clear bW hHW
  refine wp_region_tag 13 0 0 [] [(12, 5)] 10 (THd w.heap.size 100000) (PHd W.drew w.heap.size 100000) [0, 0, 0, 0, 0, 1, 0, 0, 0, 0, 0, 0, 2] (by as_aux_lemma => kernel_rfl) (by as_aux_lemma => kernel_rfl) (by as_aux_lemma => kernel_rfl) (by as_aux_lemma => kernel_rfl) (by omega) (.inl rfl) rfl (by as_aux_lemma => kernel_rfl) (PHd.st ⟨by decide, by decide, (12, 5), by decide, rfl, rfl⟩) (PHd.start hHd) ?_
  apply Exists.intro
  refine ⟨fun ys => ?_, fun ops K hK => ?_⟩
  · simp only [List.take_succ_cons, List.take_zero, dstsOf, List.filterMap_cons, List.filterMap_nil, putAll]
    go_simp
    rfl
  simp only [List.take_succ_cons, List.take_zero, List.drop_succ_cons, List.drop_zero] at hK ⊢
  repeat
    refine LexT.const THd.rf ?_
    apply Exists.intro
    refine ⟨fun ys w' hp hpk hq hd => ?_, ?_⟩
    · try simp [DepsOf, depsGo, DF.holds, Region.binds, EqF] at hd
      try simp only [hd]
      obtain ⟨⟨c0, c1, c2, c3, c4⟩, hlg⟩ := HC2.out w' hp
      intro Q2 hQ2
      go_wp2_with fail
      rfl
    try simp only [List.nil_append, List.cons_append]
  refine LexT.some (fun v _ => ∃ x : Nat, v = .int .i64 (x : Int) ∧ x < b.ks.length) (fun _ _ _ _ _ _ _ h => h) (fun ys w' hp hpk hq hd => ?_) ?_
  · try simp [DepsOf, depsGo, DF.holds, Region.binds, EqF] at hd
    try simp only [hd]
    intro Q2 hQ2
    go_wp2_with fail
    refine (upto_any w.heap.size 100000 ((b.ks.length : Int) - 1) _ hpk (by omega) (by omega)).mono ?_
    rintro e w3 ⟨x, rfl, hx, hd3⟩
    have HX := Lib.hid (show THd w.heap.size 100000 1 w' w3 ∧ x < b.ks.length from ⟨hd3, by omega⟩)
    clear hd3 hx
    go_wp2
    exact ⟨_, rfl, HX.out.1, x, rfl, HX.out.2⟩
  try simp only [List.nil_append, List.cons_append]
  repeat
    refine LexT.const THd.rf ?_
    apply Exists.intro
    refine ⟨fun ys w' hp hpk hq hd => ?_, ?_⟩
    · try simp [DepsOf, depsGo, DF.holds, Region.binds, EqF] at hd
      try simp only [hd]
      obtain ⟨⟨c0, c1, c2, c3, c4⟩, hlg⟩ := HC2.out w' hp
      intro Q2 hQ2
      go_wp2_with fail
      rfl
    try simp only [List.nil_append, List.cons_append]
  refine LexT.some (fun v w' => ∃ k : Int, v = .int .i64 k ∧ (0 ≤ k ∧ k < b.l.length) ∧ Hd w' w.heap.size (100000 + 2)) (THd.keep2 ⟨by decide, by decide, (12, 5), by decide, rfl, rfl⟩) (fun ys w' hp hpk hq hd => ?_) ?_
  · try simp [DepsOf, depsGo, DF.holds, Region.binds, EqF] at hd
    try simp only [hd]
    intro Q2 hQ2
    go_wp2_with fail
    refine (upto_any w.heap.size (100000 + 1) ((b.l.length : Int) - 1) _ hpk (by omega) (by omega)).mono ?_
    rintro e w3 ⟨x, rfl, hx, hd3⟩
    have HX := Lib.hid (show THd w.heap.size 100000 2 w' w3 ∧ (0 ≤ (x : Int) ∧ (x : Int) < b.l.length) ∧ Hd w3 w.heap.size (100000 + 2) from ⟨hd3, by omega, hd3.hd⟩)
    clear hd3 hx
    go_wp2
    exact ⟨_, rfl, HX.out.1, _, rfl, HX.out.2⟩
  try simp only [List.nil_append, List.cons_append]
  refine hK _ fun ys w' hp hF => ?_
  simp [AllF, DF.holds] at hF
  obtain ⟨-, -, -, -, -, ⟨f, e42, hf⟩, -, -, -, -, -, -, o', e49, ho', hH3⟩ := hF
  obtain ⟨o, rfl⟩ := Int.eq_ofNat_of_zero_le ho'.1
  replace hp : W.drew.grownBy w' (some w.heap.size) := hp
  have hol : o < b.l.length := by omega
  simp only [e42, e49]
  have hbW := HW.out.2.1
  have hD3 : Dealt w2 w' w.heap.size 100002 := ⟨hH3, ⟨hp.os.trans hbW.os, hp.tape.trans hbW.tape, hp.output.trans hbW.output, Nat.le_trans hbW.size hp.size, fun j hj hne => (hp.block j (Nat.lt_of_lt_of_le hj hbW.size) hne).trans (hbW.block j hj)⟩⟩
  have hb3 : w'.heap[B]? = some (boxO b.t b.vm b.vk b.vh b.vd) := (hp.block B (heap_lt HW.out.1) (fun e => by cases e; exact absurd rfl (Nat.ne_of_gt hBH))).trans HW.out.1
  have HP := Lib.hid (And.intro hD3 (And.intro hH3 hb3))
  clear hK hp hH3 e42 e49 ho' hHd hD3 hb3 hbW
  go_upto_region 4 with (fail)
  go_upto_region 5 with (go_at_call 34; refine (among_any w.heap.size 100002 1 3 _ HP.out.2.1 (by omega) (by omega) (by omega)).mono ?_; rintro e w4 ⟨k, rfl, hk1, hk2, hd4⟩)
  obtain ⟨DB, hDB⟩ : ∃ D, D = w4.heap.size := ⟨_, rfl⟩
  obtain ⟨w5, hw5⟩ : ∃ w5, w5 = w4.alloc (Obj.cells #[Value.int .i64 1, .int .i64 (f : Int), .int .i64 (o : Int), .int .i64 0, .int .i64 0, .int .i64 k, .int .i64 0, .int .i64 0, .bool false, .bool false, .int .i64 0, .int .i64 0] 38) := ⟨_, rfl⟩
  rw [← hw5, ← hDB]
  have hDBH : DB ≠ w.heap.size := by rw [hDB]; exact Nat.ne_of_gt hd4.hd.lt
  have hD5 : Dealt w2 w5 w.heap.size 200000 := by rw [hw5]; exact ((HP.out.1.trans hd4).mono (by omega)).alloc _
  have d5 : w5.heap[DB]? = some (dObj ⟨1, f, o, 0, 0, k, 0, sZ⟩) := by rw [hw5, hDB]; exact alloc_at rfl
  have b5 : w5.heap[B]? = some (boxO b.t b.vm b.vk b.vh b.vd) := by rw [hw5]; exact hblk_alloc (hd4.blk HP.out.2.2 (Nat.ne_of_gt hBH)) _
  have hgs : gs.length = b.ks.length := HT.out.2.2.2.2.1.l
  have hHw : w.heap.size < w1.heap.size := hHs
  obtain ⟨AE', cE', eE, hg5, -, -⟩ := (HOE.out.keptH hD5.gr hHw).form
  injection eE with eA _ eC
  subst eA eC
  obtain ⟨be, oe, Br, row, cr, hAE, hbe, hrow, y0, hri, hrc, hrm⟩ := Grid.get (k := f) hg5 (by omega)
  subst hAE
  have H5 := Lib.hid (And.intro hD5 (And.intro d5 (And.intro b5 (And.intro hrow hri))))
  have hrw : gs.getD f [] = row := by rw [List.getD_eq_getElem?_getD, hrow]; rfl
  have hrl : row.length = b.l.length := HT.out.2.2.2.2.1.r row (List.mem_of_getElem? hrow)
  have hsum : row.sum = hall (firstH gs) f := by rw [← hrw]; exact row_sum (by omega) (by rw [hrw]; omega)
  have hti := HT.out.2.2.2.1
  have hrb : ∀ x ∈ row, 0 ≤ x ∧ x ≤ 75 := fun x hx => by
    obtain ⟨j, hj⟩ := List.getElem?_of_mem hx
    have hjl := (List.getElem?_eq_some_iff.1 hj).1
    have e := firstH_get gs (f := f) (o := j) (by omega) (by omega)
    unfold getG at e
    rw [hrw, List.getD_eq_getElem?_getD, hj] at e
    have h1 := hti.nn f j (by omega) (by omega)
    have h2 := hget_tot hti.nn (f := f) (o := j) (by omega) (by omega)
    have h3 := hti.tot
    simp at e
    omega
  have hhb : 0 ≤ row.sum ∧ row.sum ≤ 75 := by
    have h1 := hti.nn f 0 (by omega) (by omega)
    have h2 := hget_tot hti.nn (f := f) (o := 0) (by omega) (by omega)
    have h3 := hti.tot
    omega
  obtain ⟨c0, c1, c2, c3, c4⟩ := blk5 b5
  have hlb := heap_lt b5
  have hH5 := hD5.hd
  have hrl5 : row.length ≤ 100000 := by omega
  have HGS := Lib.hid hgs
  have HR := Lib.hid (And.intro hsum (And.intro hrl hrb))
  obtain ⟨SR, hSR⟩ : ∃ S, S = row.sum := ⟨_, rfl⟩
  have htt := total_any Br row.length cr row w5 hri hrl5 (fun x hx => by have := hrb x hx; omega)
  rw [← hSR] at htt
  rw [← hSR] at hhb
  have HSR := Lib.hid hSR
  have HH5 := Lib.hid hH5
  have hif : (f : Int) < (gs.length : Int) := by omega
  clear hSR hsum hrl hrb hri hrw hgs hD5 d5 b5 hg5 hd4 hrow hrl5 hH5 hti hw5 hDB
  go_upto_region 6 with (first
    | (go_at_call 35; refine htt.mono ?_; rintro e wt ⟨rfl, hwt⟩; rw [← hwt]; clear hwt wt)
    | (go_at_call 24; refine (upto_any w.heap.size 200000 1 _ HH5.out (by omega) (by omega)).mono ?_; rintro e w6 ⟨u, rfl, hu, hd6⟩; have hu1 : u ≤ 1 := (by omega))
    | (go_at_call 36; refine (of_any w.heap.size 200001 0 (some ⟨w6.heap.size, 0, none⟩) 1 1 [10] _ (hd6.hd.alloc _) (by omega) (ints1 w6 3 10) ?_ (by omega)).mono ?_; (intro b off e; cases e; exact Nat.ne_of_gt hd6.hd.lt); rintro e w7 ⟨er, rfl, her, hd7⟩; have her1 : er = 0 ∨ er = 10 := (by simpa using her)))
  obtain ⟨DC, hDC⟩ : ∃ D, D = w7.heap.size := ⟨_, rfl⟩
  obtain ⟨w8, hw8⟩ : ∃ w8, w8 = w7.alloc (Obj.cells #[Value.int .i64 6, .int .i64 (f : Int), .int .i64 0, .int .i64 0, .int .i64 0, .int .i64 (SR + (u : Int)), .int .i64 er, .int .i64 0, .bool false, .bool false, .int .i64 0, .int .i64 0] 38) := ⟨_, rfl⟩
  rw [← hw8, ← hDC]
  have hD8 : Dealt w5 w8 w.heap.size 300000 := by rw [hw8]; exact (((hd6.alloc _).trans hd7).mono (by omega)).alloc _
  have hD28 : Dealt w2 w8 w.heap.size 300000 := H5.out.1.trans hD8
  have d8 : w8.heap[DC]? = some (dObj ⟨6, f, 0, 0, 0, SR + u, er, sZ⟩) := by rw [hw8, hDC]; exact alloc_at rfl
  have b8 := hD8.blk H5.out.2.2.1 (Nat.ne_of_gt hBH)
  have e8 := hD8.blk H5.out.2.1 hDBH
  have hi8 := (HT.out.1.dealt hD28 hHw).inn
  have hne : b.ends (-1) 0 ≠ [] := List.ne_nil_of_mem HT.out.2.2.2.1.e
  have hae := askE_ok HT.out.2.2.1 hne
  have ht := Has_any b w8 hi8
  unfold Hb.v at ht
  have hB8 : Below w.heap.size w w8 := HT.out.2.2.2.2.2.2.1.trans (hD28.below (Nat.le_refl _) HT.out.2.2.2.2.2.2.1.size)
  have hg8 : Grid w8 (some ⟨be, oe, none⟩) gs.length gs := by obtain ⟨A', c', e', g8, -, -⟩ := (HOE.out.keptH hD28.gr hHw).form; cases e'; exact g8
  have H8 := Lib.hid (And.intro hD28 (And.intro d8 (And.intro b8 (And.intro e8 (And.intro hi8 (And.intro hne (And.intro hae (And.intro hB8 hg8))))))))
  clear c0 c1 c2 c3 c4 hlb hw8 hDC hD8 hD28 d8 e8 hi8 hne hae hB8 hd6 hd7 her hu htt
  obtain ⟨c0, c1, c2, c3, c4⟩ := blk5 b8
  have hlb := heap_lt b8
  clear b8
  go_upto_region 7 with (go_at_call 32; refine ht.mono ?_; rintro e w9 ⟨⟨v9, rfl, ho9⟩, hb9⟩; rw [H8.out.2.2.2.2.2.2.1])
  have hdn' := HT.out.2.2.2.2.2.2.2
  have HF0 := Lib.hid hf
  obtain ⟨heb, hEb⟩ := enter_born (b := b) HT.out.2.2.1 (by omega) H8.out.2.2.2.2.2.1 hf hol (k := k) (by omega)
  have hi9 := H8.out.2.2.2.2.1.below hb9 (Nat.le_refl _)
  have hec := Enter_any b ⟨1, f, o, 0, 0, k, 0, sZ⟩ w9 hi9
  unfold Hb.v dv at hec
  clear c0 c1 c2 c3 c4 ht
  obtain ⟨c0, c1, c2, c3, c4⟩ := blk5 (bheap H8.out.2.2.1 hb9 (Nat.le_refl _))
  obtain ⟨z0, z1, z2, z3, z4, z5, z6, z7, z8, z9, z10, z11⟩ := blkD (bheap H8.out.2.2.2.1 hb9 (Nat.le_refl _))
  have hlb9 := heap_lt (bheap H8.out.2.2.1 hb9 (Nat.le_refl _))
  have hld9 := heap_lt (bheap H8.out.2.2.2.1 hb9 (Nat.le_refl _))
  have H9 := Lib.hid (And.intro ho9 (And.intro hb9 (And.intro heb hEb)))
  have HEC := Lib.hid hec
  clear ho9 hb9 heb hEb hec hi9
  go_upto_region 8 with (go_at_call 37; refine HEC.out.mono ?_; rintro e w10 h10; obtain ⟨⟨X, rfl, hmX, hOX⟩, hb10⟩ := h10.ok H9.out.2.2.1; clear h10; unfold Hb.v)
  obtain ⟨XB, hXB⟩ : ∃ D, D = w10.heap.size := ⟨_, rfl⟩
  obtain ⟨w11, hw11⟩ : ∃ w11, w11 = w10.alloc (Obj.cells #[Value.int .i64 X.t, .slice X.A X.l.length X.c, .slice X.Ak X.ks.length X.ck, .slice X.Ah X.hs.length X.ch, .slice X.Ad X.ds.length X.cd] 29) := ⟨_, rfl⟩
  rw [← hw11, ← hXB]
  have x11 : w11.heap[XB]? = some (boxO X.t X.vm X.vk X.vh X.vd) := by rw [hw11, hXB]; exact alloc_at rfl
  have hiX : HbIn w11 X := by rw [hw11]; exact hOX.inn.al _
  have hb11 : Below w9.heap.size w9 w11 := by rw [hw11]; exact bal hb10 (Nat.le_refl _) _
  have hbb11 := H9.out.2.1.trans (hb11.mono H9.out.2.1.size)
  have htX := Has_any X w11 hiX
  unfold Hb.v at htX
  have haX := hmX.ask H9.out.2.2.1 H9.out.2.2.2
  have H11 := Lib.hid (And.intro hbb11 (And.intro x11 (And.intro hiX (And.intro hmX (And.intro haX hb11)))))
  clear hw11 hXB hb10 hb11 hbb11 hOX hiX haX HEC c0 c1 c2 c3 c4 z0 z1 z2 z3 z4 z5 z6 z7 z8 z9 z10 z11
  obtain ⟨x0, x1, x2, x3, x4⟩ := blk5 x11
  have hlx := heap_lt x11
  clear x11
  go_upto_region 9 with (go_at_call 32; refine htX.mono ?_; rintro e w12 ⟨⟨v12, rfl, ho12⟩, hb12⟩; rw [H11.out.2.2.2.2.1])
  have hck := HT.out.2.2.1
  have haB := H8.out.2.2.2.2.2.2.1
  have hXc := H11.out.2.2.2.1.chk H9.out.2.2.1
  obtain ⟨hTl, hTr⟩ := has_hi hck haB
  obtain ⟨hUl, hUr⟩ := has_hi hXc H11.out.2.2.2.2.1
  rw [H11.out.2.2.2.1.k] at hUl
  rw [H11.out.2.2.2.1.l] at hUr
  obtain ⟨At, ct, rfl, htb, htc, htm⟩ := H9.out.1.form lenRn
  obtain ⟨Au, cu, rfl, hub, huc, hum⟩ := ho12.form lenRn
  have hb912 := H11.out.2.2.2.2.2.trans (hb12.mono H11.out.2.2.2.2.2.size)
  have hb812 := H9.out.2.1.trans (hb912.mono H9.out.2.1.size)
  have htb12 := htb.below hb912 (Nat.le_refl _)
  have b12 := bheap H8.out.2.2.1 hb812 (Nat.le_refl _)
  have d12 := bheap H8.out.2.2.2.1 hb812 (Nat.le_refl _)
  have hborn : ∀ (p i : Nat) (row row' : List Rn) (r r' : Rn), (hasR b)[p]? = some row → row[i]? = some r → (hasR X)[p]? = some row' → row'[i]? = some r' → r' = (if f = p ∧ o = i then ⟨r.lo + k, r.hi + k⟩ else r) ∧ (0 ≤ r.lo ∧ r.lo ≤ 1000 ∧ 0 ≤ r.hi ∧ r.hi ≤ 1000) :=
    fun p i row row' r r' h1 h2 h3 h4 => ⟨has_born hck haB H11.out.2.2.2.1 H9.out.2.2.1 H11.out.2.2.2.2.1 hf hol h1 h2 h3 h4, has_bd hck haB h1 h2⟩
  rw [hTl] at htb12 htc ⊢
  rw [hUl] at hub huc ⊢
  obtain ⟨nk, hnk⟩ : ∃ nk, nk = b.ks.length := ⟨_, rfl⟩
  obtain ⟨nl, hnl2⟩ : ∃ nl, nl = b.l.length := ⟨_, rfl⟩
  obtain ⟨T, hT⟩ : ∃ T, T = hasR b := ⟨_, rfl⟩
  obtain ⟨U, hU⟩ : ∃ U, U = hasR X := ⟨_, rfl⟩
  rw [← hT] at htb12 hborn hTr hTl
  rw [← hU] at hub hborn hUr hUl
  rw [← hnk] at htb12 htc hub huc hTl hUl hnf hf ⊢
  rw [← hnl2] at hnl hol hTr hUr
  have HTU := Lib.hid (And.intro hT hU)
  have hn0 : (nk != nk) = false := by simp
  have hn0' : ((nk : Int) != (nk : Int)) = false := by simp
  have hm0 : (nl != nl) = false := by simp
  have hm0' : ((nl : Int) != (nl : Int)) = false := by simp
  obtain ⟨c0, c1, c2, c3, c4⟩ := blk5 b12
  unfold Hb.vm at c1
  unfold Hb.vk at c2
  rw [← hnk] at c2
  rw [← hnl2] at c1
  have hB12 : B < w12.heap.size := heap_lt b12
  have HF := Lib.hid HF0.out
  have H12 := Lib.hid (And.intro htb12 (And.intro hub (And.intro hborn (And.intro (And.intro hTr hUr) (And.intro (And.intro hTl hUl) (And.intro b12 (And.intro d12 (And.intro hb812 (And.intro hnk hnl2)))))))))
  clear hck haB hXc hTl hTr hUl hUr htb hub htb12 hb912 hb812 b12 d12 hborn hT hU hnk hnl2 x0 x1 x2 x3 x4 hlx hb12 ho12 htX hlb hlb9 hld9 hs1 hs2 hHs hf hol hif
  go_upto_region 12 with (fail)
  go_loopg [18] nk (fun g v18 wr => ∃ p : Nat, p + g = nk ∧ v18 = .int .i64 p ∧ Below w12.heap.size w12 wr)
  case atStart => exact ⟨0, by omega, rfl, Below.refl _ _⟩
  case round =>
    obtain ⟨p, hp, rfl, hbr⟩ := hrel
    by_cases hlt : p < nk
    · -- CUT a
      obtain ⟨b1, o1, B1, row, c1', rfl, hb1, hrow, hc1, hri, hrc1, hrm1⟩ := (H12.out.1.below hbr (Nat.le_refl _)).get hlt
      obtain ⟨b2, o2, B2, row', c2', rfl, hb2, hrow', hc2, hri', hrc2, hrm2⟩ := (H12.out.2.1.below hbr (Nat.le_refl _)).get hlt
      have hrl := (H12.out.2.2.2.1.1 row (List.mem_of_getElem? hrow)).1
      have hrl' := (H12.out.2.2.2.1.2 row' (List.mem_of_getElem? hrow')).1
      rw [hrl] at hc1 hri hrc1
      rw [hrl'] at hc2 hri' hrc2
      obtain ⟨z0, z1, z2, z3, z4⟩ := blk5 (bheap H12.out.2.2.2.2.2.1 hbr (Nat.le_refl _))
      unfold Hb.vm at z1
      rw [← H12.out.2.2.2.2.2.2.2.2.2] at z1
      have hBr : B < wr.heap.size := Nat.lt_of_lt_of_le hB12 hbr.size
      have i1 : (p : Int) < (nk : Int) := by omega
      have HK := Lib.hid (And.intro hp (And.intro hrow (And.intro hrow' (And.intro hri (And.intro hri' hbr)))))
      clear hp hrow hrow' hri hri' hbr hrl hrl'
      go_upto_region 14 with (fail)
      go_quiet (fail)
      go_upto_region 17 with (fail)
      obtain ⟨wq, hwq⟩ : ∃ wq, wq = wr.drewN nq := ⟨_, rfl⟩
      have hbq : Below w12.heap.size w12 wq := by rw [hwq]; exact below_drewN HK.out.2.2.2.2.2 nq
      rw [← hwq]
      have HBQ := Lib.hid hbq
      clear hwq hbq hc1 hc2 z0 z1 z2 z3 z4 hBr hb1 hb2
      obtain ⟨go, hgo⟩ : ∃ go, go = gk := ⟨_, rfl⟩
      subst hgo
      go_loopg [19] nl (fun g v19 wr => ∃ i : Nat, i + g = nl ∧ v19 = .int .i64 i ∧ Below w12.heap.size w12 wr)
      case atStart => exact ⟨0, by omega, rfl, HBQ.out⟩
      case round =>
        obtain ⟨i, hi, rfl, hbi⟩ := hrel
        obtain ⟨b3, o3, B3, rw3, c3', e3, hb3, hrw3, hc3, hri3, hrc3, hrm3⟩ := (H12.out.1.below hbi (Nat.le_refl _)).get hlt
        obtain ⟨b4, o4, B4, rw4, c4', e4, hb4, hrw4, hc4, hri4, hrc4, hrm4⟩ := (H12.out.2.1.below hbi (Nat.le_refl _)).get hlt
        cases e3
        cases e4
        rw [HK.out.2.1] at hrw3
        cases hrw3
        rw [HK.out.2.2.1] at hrw4
        cases hrw4
        rw [(H12.out.2.2.2.1.1 row (List.mem_of_getElem? HK.out.2.1)).1] at hc3 hri3 hrc3
        rw [(H12.out.2.2.2.1.2 row' (List.mem_of_getElem? HK.out.2.2.1)).1] at hc4 hri4 hrc4
        by_cases hli : i < nl
        · obtain ⟨g3, q3, r, rfl, hg3, hr, r0, r1⟩ := Rns.get hri3 hli
          obtain ⟨g4, q4, r', rfl, hg4, hr', s0, s1⟩ := Rns.get hri4 hli
          obtain ⟨hrr, hrb⟩ := H12.out.2.2.1 p i row row' r r' HK.out.2.1 hr HK.out.2.2.1 hr'
          obtain ⟨lo, hi'⟩ := r
          dsimp only at r0 r1 hrb
          have i2 : (i : Int) < (nl : Int) := by omega
          have HI := Lib.hid (And.intro hi (And.intro hbi (And.intro hri3 (And.intro hri4 hrr))))
          clear hi hri3 hri4 hrr hr hr'
          go_upto_region 20 with (fail)
          obtain ⟨R, hR⟩ : ∃ R, R = wr.heap.size := ⟨_, rfl⟩
          obtain ⟨w13, hw13⟩ : ∃ w13, w13 = wr.alloc (Obj.cells #[Value.int .i64 lo, .int .i64 hi'] 64) := ⟨_, rfl⟩
          rw [← hw13, ← hR]
          have hb13 : Below w12.heap.size w12 w13 := by rw [hw13]; exact bal HI.out.2.1 (Nat.le_refl _) _
          have hb13' : Below wr.heap.size wr w13 := by rw [hw13]; exact bal0 _ _
          have r13 : w13.heap[R]? = some (Obj.cells #[.int .i64 lo, .int .i64 hi'] 64 (0, 0)) := by rw [hw13, hR]; exact alloc_at rfl
          have hRb : w12.heap.size ≤ R := by rw [hR]; exact HI.out.2.1.size
          replace hc4 := bcell hc4 hb13' (Nat.le_refl _)
          replace s0 := bcell s0 hb13' (Nat.le_refl _)
          replace s1 := bcell s1 hb13' (Nat.le_refl _)
          have hgR : g4 < R ∧ b2 < R := by rw [hR]; exact ⟨hg4, hb4⟩
          have hz13 : w13.heap.size = R + 1 := by rw [hw13, hR]; simp
          have H13 := Lib.hid (And.intro hb13 (And.intro r13 (And.intro hRb (And.intro hgR hz13))))
          have hl4 : b2 < w13.heap.size ∧ g4 < w13.heap.size ∧ R < w13.heap.size := by omega
          clear hw13 hR hb13 hb13' hc3 hg3 hb3 hb4 hg4 r0 r1 hRb hgR hz13
          rcases Nat.decEq f p with hfp | hfp
          · have e1 : ((p : Int) == (f : Int)) = false := by simp; omega
            have hrr := HI.out.2.2.2.2
            rw [if_neg (fun h => hfp h.1)] at hrr
            subst hrr
            dsimp only at s0 s1
            obtain ⟨x0, x1⟩ := blk2 r13
            clear hfp r13
            go_upto_region 22 with (fail)
            go_quiet (fail)
            go_wp2_with fail
            go_roundg (gk - 1)
            case measure => have := HI.out.1; omega
            case rel => exact ⟨i + 1, by have := HI.out.1; omega, by go_num, below_drewN H13.out.1 _⟩
          · rcases Nat.decEq o i with hoi | hoi
            · have e1 : ((p : Int) == (f : Int)) = true := by simp [hfp]
              have e2 : ((i : Int) == (o : Int)) = false := by simp; omega
              have hrr := HI.out.2.2.2.2
              rw [if_neg (fun h => hoi h.2)] at hrr
              subst hrr
              dsimp only at s0 s1
              obtain ⟨x0, x1⟩ := blk2 r13
              clear hfp hoi r13
              go_upto_region 22 with (fail)
              go_quiet (fail)
              go_wp2_with fail
              go_roundg (gk - 1)
              case measure => have := HI.out.1; omega
              case rel => exact ⟨i + 1, by have := HI.out.1; omega, by go_num, below_drewN H13.out.1 _⟩
            · have e1 : ((p : Int) == (f : Int)) = true := by simp [hfp]
              have e2 : ((i : Int) == (o : Int)) = true := by simp [hoi]
              have hrr := HI.out.2.2.2.2
              rw [if_pos ⟨hfp, hoi⟩] at hrr
              subst hrr
              dsimp only at s0 s1
              obtain ⟨x0, x1⟩ := blk2 r13
              obtain ⟨z0, z1, z2, z3, z4, z5, z6, z7, z8, z9, z10, z11⟩ := blkD (bheap H12.out.2.2.2.2.2.2.1 H13.out.1 (Nat.le_refl _))
              have hDl : DB < w13.heap.size := heap_lt (bheap H12.out.2.2.2.2.2.2.1 H13.out.1 (Nat.le_refl _))
              have hlb : -5 ≤ lo + k ∧ lo + k ≤ 2000 ∧ -5 ≤ hi' + k ∧ hi' + k ≤ 2000 := by omega
              clear hfp hoi r13
              go_upto_region 22 with (go_at_call 29; refine (span9_any _ _ w13).mono ?_; rintro e w14 ⟨rfl, hb14⟩; have r14 := bheap H13.out.2.1 hb14 (Nat.le_refl _); obtain ⟨u0, u1⟩ := blk2 r14; have fz0 := frz r14 0; have fz1 := frz r14 1; have hR14 := heap_lt r14; replace hc4 := bcell hc4 hb14 (Nat.le_refl _); replace s0 := bcell s0 hb14 (Nat.le_refl _); replace s1 := bcell s1 hb14 (Nat.le_refl _))
              obtain ⟨w15, hw15⟩ : ∃ w15, w15 = (w14.setCell ⟨R, 0, none⟩ (.int .i64 (lo + k))).setCell ⟨R, 1, none⟩ (.int .i64 (hi' + k)) := ⟨_, rfl⟩
              rw [← hw15]
              have hfar : ∀ j, j ≠ R → w15.heap[j]? = w14.heap[j]? := fun j hj => by rw [hw15]; exact (Below.heap_setCell _ ⟨R, 1, none⟩ _ j hj).trans (Below.heap_setCell _ ⟨R, 0, none⟩ _ j hj)
              have r15 : w15.heap[R]? = some (Obj.cells #[.int .i64 (lo + k), .int .i64 (hi' + k)] 64 (0, 0)) := by rw [hw15]; exact (set_blk (set_blk r14)).trans (by simp)
              have hb15 : Below w12.heap.size w12 w15 := by
                rw [hw15]
                exact Below.setCell (Below.setCell (H13.out.1.trans (hb14.mono H13.out.1.size)) (p := ⟨R, 0, none⟩) H13.out.2.2.1 _) (p := ⟨R, 1, none⟩) H13.out.2.2.1 _
              have hg4' := H13.out.2.2.2.1
              replace hc4 := (cell_far (hfar b2 (by omega))).trans hc4
              replace s0 := (cell_far (hfar g4 (by omega))).trans s0
              replace s1 := (cell_far (hfar g4 (by omega))).trans s1
              obtain ⟨t0, t1⟩ := blk2 r15
              have hR15 := heap_lt r15
              have hl15 : b2 < w15.heap.size ∧ g4 < w15.heap.size := by omega
              have HB15 := Lib.hid hb15
              clear hw15 hfar r15 hb15 hg4' r14 u0 u1 fz0 fz1 hR14 x0 x1 z0 z1 z2 z3 z4 z5 z6 z7 z8 z9 z10 z11
              go_quiet (fail)
              go_wp2_with fail
              go_roundg (gk - 1)
              case measure => have := HI.out.1; omega
              case rel => exact ⟨i + 1, by have := HI.out.1; omega, by go_num, below_drewN HB15.out _⟩
        · obtain rfl : i = nl := by omega
          have HBI := Lib.hid hbi
          clear hbi
          go_wp2_with fail
          go_roundg (go - 1)
          case measure => have := HK.out.1; omega
          case rel => exact ⟨p + 1, by have := HK.out.1; omega, by go_num, HBI.out⟩
      -- TUC a
    · obtain rfl : p = nk := by omega
      have HBR := Lib.hid hbr
      clear hbr
      have hw8r := H12.out.2.2.2.2.2.2.2.1.trans (HBR.out.mono H12.out.2.2.2.2.2.2.2.1.size)
      have hiR := H8.out.2.2.2.2.1.below hw8r (Nat.le_refl _)
      obtain ⟨c0, c1, c2, c3, c4⟩ := blk5 (bheap H12.out.2.2.2.2.2.1 HBR.out (Nat.le_refl _))
      obtain ⟨z0, z1, z2, z3, z4, z5, z6, z7, z8, z9, z10, z11⟩ := blkD (bheap H8.out.2.1 hw8r (Nat.le_refl _))
      have hlb := heap_lt (bheap H12.out.2.2.2.2.2.1 HBR.out (Nat.le_refl _))
      have hld := heap_lt (bheap H8.out.2.1 hw8r (Nat.le_refl _))
      have hfk : f < b.ks.length := HF.out
      obtain ⟨hE, hE12, hE0⟩ := enter_count (b := b) HT.out.2.2.1 (by omega) (f := f) (N := SR + u) (err := er) hfk (by omega) (by omega)
      have hec := Enter_any b ⟨6, f, 0, 0, 0, SR + u, er, sZ⟩ wr hiR
      unfold Hb.v dv at hec
      have HEC := Lib.hid hec
      have HE0 := Lib.hid (hE0 H8.out.2.2.2.2.2.1)
      have HE12 := Lib.hid hE12
      have hH0 := H8.out.2.2.2.2.2.2.2.1.trans (hw8r.mono H8.out.2.2.2.2.2.2.2.1.size)
      have HR8 := Lib.hid (And.intro hw8r hH0)
      clear hec hE12 hE0 hw8r hiR hH0
      obtain ⟨E, hEe⟩ : ∃ E, E = enterE b ⟨6, f, 0, 0, 0, SR + u, er, sZ⟩ := ⟨_, rfl⟩
      rw [← hEe] at hE
      have HEE := Lib.hid hEe
      clear hEe
      go_upto_if 189 with (go_at_call 37; refine HEC.out.mono ?_; rintro e w16 h16; obtain ⟨⟨Y, rfl, hY⟩, hb16⟩ := h16.any; clear h16; unfold Hb.v; rw [← HEE.out])
      obtain ⟨YB, hYB⟩ : ∃ D, D = w16.heap.size := ⟨_, rfl⟩
      obtain ⟨w17, hw17⟩ : ∃ w17, w17 = w16.alloc (Obj.cells #[Value.int .i64 Y.t, .slice Y.A Y.l.length Y.c, .slice Y.Ak Y.ks.length Y.ck, .slice Y.Ah Y.hs.length Y.ch, .slice Y.Ad Y.ds.length Y.cd] 29) := ⟨_, rfl⟩
      rw [← hw17, ← hYB]
      have x17 : w17.heap[YB]? = some (boxO Y.t Y.vm Y.vk Y.vh Y.vd) := by rw [hw17, hYB]; exact alloc_at rfl
      have hiY : E = 0 → HbIn w17 Y := fun h => by rw [hw17]; exact (hY (by rw [← HEE.out]; exact h)).2.inn.al _
      have hmY : E = 0 → More b Y ⟨6, f, 0, 0, 0, SR + u, er, sZ⟩ := fun h => (hY (by rw [← HEE.out]; exact h)).1
      have hb17 : Below wr.heap.size wr w17 := by rw [hw17]; exact bal hb16 (Nat.le_refl _) _
      have H17 := Lib.hid (And.intro hb17 (And.intro x17 (And.intro hiY hmY)))
      clear hw17 hYB hb16 hb17 hiY hmY hY x17 c0 c1 c2 c3 c4 z0 z1 z2 z3 z4 z5 z6 z7 z8 z9 z10 z11 HEC hlb hld
      go_cut [16, 17, 22, 23] from 190 to 257 (fun _ _ _ _ wx => Below w12.heap.size w12 wx)
      -- CUT b
      case first =>
        rcases hE with rfl | rfl
        · have hmY := H17.out.2.2.2 rfl
          have hiY := H17.out.2.2.1 rfl
          have htY := Has_any Y w17 hiY
          unfold Hb.v at htY
          have haY : askE Y = 0 := hmY.ask HEE.out.symm (by
            intro e0
            have := enterE_two (d := ⟨6, f, 0, 0, 0, SR + u, er, sZ⟩) HT.out.2.2.1 (by omega) (enterE_deed HEE.out.symm).2.2
            exact this.2.1 H8.out.2.2.2.2.2.1 HEE.out.symm e0)
          have HY := Lib.hid (And.intro hmY haY)
          clear hmY hiY haY
          obtain ⟨x0, x1, x2, x3, x4⟩ := blk5 H17.out.2.1
          have hlx := heap_lt H17.out.2.1
          go_upto_region 27 with (go_at_call 32; refine htY.mono ?_; rintro e w18 ⟨⟨v18, rfl, ho18⟩, hb18⟩; rw [HY.out.2])
          have hYc := HY.out.1.chk HEE.out.symm
          obtain ⟨hUl, hUr⟩ := has_hi hYc HY.out.2
          rw [HY.out.1.k, ← H12.out.2.2.2.2.2.2.2.2.1] at hUl
          rw [HY.out.1.l, ← H12.out.2.2.2.2.2.2.2.2.2] at hUr
          obtain ⟨Ay, cy, rfl, hub, huc, hum⟩ := ho18.form lenRn
          have hb1218 := HBR.out.trans ((H17.out.1.trans (hb18.mono H17.out.1.size)).mono HBR.out.size)
          have htb18 := H12.out.1.below hb1218 (Nat.le_refl _)
          have hwi : ∀ (q i : Nat) (row row' : List Rn) (r r' : Rn), T[q]? = some row → row[i]? = some r → (hasR Y)[q]? = some row' → row'[i]? = some r' → r.lo ≤ r'.lo ∧ r'.hi ≤ r.hi :=
            fun q i row row' r r' h1 h2 h3 h4 => has_within HT.out.2.2.1 H8.out.2.2.2.2.2.2.1 HY.out.1 HY.out.2 (HE0.out HEE.out.symm) (by rw [← HTU.out.1]; exact h1) h2 h3 h4
          rw [hUl] at hub huc ⊢
          obtain ⟨V, hV⟩ : ∃ V, V = hasR Y := ⟨_, rfl⟩
          rw [← hV] at hub hwi hUr
          have H18 := Lib.hid (And.intro htb18 (And.intro hub (And.intro hwi (And.intro hUr hb1218))))
          clear hYc hUl hUr hub hb1218 htb18 hwi hV ho18 hb18 x0 x1 x2 x3 x4 hlx htY
          go_upto_region 30 with (fail)
          go_loopg [22] p (fun g v22 wr => ∃ q : Nat, q + g = p ∧ v22 = .int .i64 q ∧ Below w18.heap.size w18 wr)
          case atStart => exact ⟨0, by omega, rfl, Below.refl _ _⟩
          case round =>
            obtain ⟨q, hq, rfl, hbr⟩ := hrel
            by_cases hlq : q < p
            · obtain ⟨b5, o5, B5, row5, c5, e5, hb5, hrow5, hc5, hri5, hrc5, hrm5⟩ := (H18.out.1.below hbr (Nat.le_refl _)).get hlq
              obtain ⟨b6, o6, B6, row6, c6, rfl, hb6, hrow6, hc6, hri6, hrc6, hrm6⟩ := (H18.out.2.1.below hbr (Nat.le_refl _)).get hlq
              obtain rfl := e5
              rw [(H12.out.2.2.2.1.1 row5 (List.mem_of_getElem? hrow5)).1] at hc5 hri5 hrc5
              rw [(H18.out.2.2.2.1 row6 (List.mem_of_getElem? hrow6)).1] at hc6 hri6 hrc6
              have i1 : (q : Int) < (p : Int) := by omega
              have HK := Lib.hid (And.intro hq (And.intro hrow5 (And.intro hrow6 hbr)))
              clear hq hrow5 hrow6 hri5 hri6 hbr
              go_upto_region 32 with (fail)
              go_quiet (fail)
              go_upto_region 35 with (fail)
              obtain ⟨wq, hwq⟩ : ∃ wq, wq = wr.drewN nq := ⟨_, rfl⟩
              have hbq : Below w18.heap.size w18 wq := by rw [hwq]; exact below_drewN HK.out.2.2.2 nq
              rw [← hwq]
              have HBQ := Lib.hid hbq
              clear hwq hbq hc5 hc6 hb5 hb6
              obtain ⟨go, hgo⟩ : ∃ go, go = gk := ⟨_, rfl⟩
              subst hgo
              go_loopg [23] nl (fun g v23 wr => ∃ i : Nat, i + g = nl ∧ v23 = .int .i64 i ∧ Below w18.heap.size w18 wr)
              case atStart => exact ⟨0, by omega, rfl, HBQ.out⟩
              case round =>
                obtain ⟨i, hi, rfl, hbi⟩ := hrel
                obtain ⟨b3, o3, B3, rw3, c3', e3, hb3, hrw3, hc3, hri3, hrc3, hrm3⟩ := (H18.out.1.below hbi (Nat.le_refl _)).get hlq
                obtain ⟨b4, o4, B4, rw4, c4', e4, hb4, hrw4, hc4, hri4, hrc4, hrm4⟩ := (H18.out.2.1.below hbi (Nat.le_refl _)).get hlq
                cases e3
                cases e4
                rw [HK.out.2.1] at hrw3
                cases hrw3
                rw [HK.out.2.2.1] at hrw4
                cases hrw4
                rw [(H12.out.2.2.2.1.1 row5 (List.mem_of_getElem? HK.out.2.1)).1] at hc3 hri3 hrc3
                rw [(H18.out.2.2.2.1 row6 (List.mem_of_getElem? HK.out.2.2.1)).1] at hc4 hri4 hrc4
                by_cases hli : i < nl
                · obtain ⟨g3, q3, r, rfl, hg3, hr, r0, r1⟩ := Rns.get hri3 hli
                  obtain ⟨g4, q4, r', rfl, hg4, hr', s0, s1⟩ := Rns.get hri4 hli
                  obtain ⟨hl1, hl2⟩ := H18.out.2.2.1 q i row5 row6 r r' HK.out.2.1 hr HK.out.2.2.1 hr'
                  have i2 : (i : Int) < (nl : Int) := by omega
                  have HI := Lib.hid (And.intro hi hbi)
                  have hcv : ∀ d os, Calls Try.prog 30 #[.agg #[.int .i64 r.lo, .int .i64 r.hi], .agg #[.int .i64 r'.lo, .int .i64 r'.hi]] (Sort.grow (redrawn wr d) os) (fun e w'' => e = .returned (.bool true) ∧ ∃ p : Regrown, w'' = Sort.grow (redrawn wr p.d) p.os) := fun d os =>
                    Calls.regrown_of (covers_any r r' _ hl1 hl2)
                  have HCV := Lib.hid hcv
                  clear hi hri3 hri4 hr hr' hcv hl1 hl2 hbi
                  go_upto_region 37 with (fail)
                  have k0 := cell_regrown hc3
                  have k1 := cell_regrown hc4
                  have k2 := cell_regrown r0
                  have k3 := cell_regrown r1
                  have k4 := cell_regrown s0
                  have k5 := cell_regrown s1
                  refine wp_region_quiet_below (by kernel_rfl) (by kernel_rfl) ?_
                  repeat (quiet_step (exact HCV.out _ _))
                  refine wpQuiet_nil ?_
                  intro _ hw'
                  obtain ⟨⟨dq, osq⟩, hw''⟩ := hw'
                  subst hw''
                  obtain ⟨w3, hW1⟩ : ∃ w3, w3 = Sort.grow (redrawn wr dq) osq := ⟨_, rfl⟩
                  have hb3 : Below wr.heap.size wr w3 := by rw [hW1]; exact below_regrown wr dq osq
                  rw [← hW1]
                  have HB3 := Lib.hid (HI.out.2.trans (hb3.mono HI.out.2.size))
                  clear hW1 k0 k1 k2 k3 k4 k5 hc3 hc4 r0 r1 s0 s1 hb3
                  go_wp2_with fail
                  go_roundg (gk - 1)
                  case measure => have := HI.out.1; omega
                  case rel => exact ⟨i + 1, by have := HI.out.1; omega, by go_num, HB3.out⟩
                · obtain rfl : i = nl := by omega
                  have HBI := Lib.hid hbi
                  clear hbi
                  go_wp2_with fail
                  go_roundg (go - 1)
                  case measure => have := HK.out.1; omega
                  case rel => exact ⟨q + 1, by have := HK.out.1; omega, by go_num, HBI.out⟩
            · obtain rfl : q = p := by omega
              have HBQ := Lib.hid hbr
              clear hbr
              go_wp2_with fail
              go_meet
              case rel =>
                exact (H18.out.2.2.2.2).trans (HBQ.out.mono H18.out.2.2.2.2.size)
        · have hne0 : u ≠ 0 := fun hu0 => by
            have h1 := HE12.out HEE.out.symm (firstH gs) HT.out.2.2.2.1.e
            rw [hu0] at h1
            exact h1 (by rw [← HR.out.1, ← HSR.out]; simp)
          have y1 : ((SR + (u : Int)) == SR) = false := beq_eq_false_iff_ne.2 (by omega)
          obtain ⟨z0, z1, z2, z3, z4, z5, z6, z7, z8, z9, z10, z11⟩ := blkD (bheap (bheap H8.out.2.1 HR8.out.1 (Nat.le_refl _)) H17.out.1 (Nat.le_refl _))
          have hld := heap_lt (bheap (bheap H8.out.2.1 HR8.out.1 (Nat.le_refl _)) H17.out.1 (Nat.le_refl _))
          have hb817 := HR8.out.1.trans (H17.out.1.mono HR8.out.1.size)
          have hgr : Grid w17 (some ⟨be, oe, none⟩) gs.length gs := (H8.out.2.2.2.2.2.2.2.2).below hb817 (Nat.le_refl _)
          obtain ⟨be5, oe5, Br5, row5, cr5, e5, hbe5, hrow5, y5, hri5, hrc5, hrm5⟩ := Grid.get (k := f) hgr (by rw [HGS.out]; exact HF.out)
          cases e5
          rw [H5.out.2.2.2.1] at hrow5
          cases hrow5
          have hrl5 : row.length ≤ 100000 := by have := HR.out.2.1; have := HT.out.2.1.n5; omega
          have htt : ∀ d, Calls Try.prog 35 #[.slice Br5 row.length cr5] (redrawn w17 d) (fun e w'' => e = .returned (.int .i64 SR) ∧ redrawn w17 d = w'') := fun d => by
            have h := total_any Br5 row.length cr5 row (redrawn w17 d) hri5 hrl5 (fun x hx => by have := HR.out.2.2 x hx; omega)
            rw [← HSR.out] at h
            exact h
          have HTT := Lib.hid htt
          have HB17 := Lib.hid (HBR.out.trans (H17.out.1.mono HBR.out.size))
          clear hri5 htt hb817 hne0 hgr hrl5
          go_upto_region 39 with (fail)
          have hif : (f : Int) < (gs.length : Int) := by rw [HGS.out]; have := HF.out; omega
          go_quiet ((go_at_call 35; exact quiet_left (HTT.out _)))
          have HB3 := Lib.hid (below_drewN HB17.out nq)
          go_wp2_with fail
          go_meet
          case rel => exact HB3.out
      -- TUC b
      case rest =>
        obtain ⟨wv, rfl⟩ : ∃ W, W = wc := ⟨_, rfl⟩
        have hb8c := H12.out.2.2.2.2.2.2.2.1.trans (hcut.mono H12.out.2.2.2.2.2.2.2.1.size)
        have hbc := bheap H12.out.2.2.2.2.2.1 hcut (Nat.le_refl _)
        have hHc : Hd wv w.heap.size 300000 := H8.out.1.hd.below hb8c H8.out.1.hd.lt
        have hOc := (HT.out.1.dealt H8.out.1 hHw).below hb8c (Nat.le_refl _)
        have hBc := H8.out.2.2.2.2.2.2.2.1.trans (hb8c.mono H8.out.2.2.2.2.2.2.2.1.size)
        obtain ⟨c0, c1, c2, c3, c4⟩ := blk5 hbc
        have hlb := heap_lt hbc
        have HWC := Lib.hid (And.intro hbc (And.intro hHc (And.intro hOc hBc)))
        clear hb8c hbc hHc hOc hBc hcut
        by_cases h1 : b.ks.length = 1
        · have h1' : ((b.ks.length : Int) == 1) = true := by rw [h1]; rfl
          clear h1
          go_wp2_with (go_at_call 23; refine (herding_any _).mono ?_; rintro e w5 ⟨rfl, hb5⟩)
          go_ret
          exact ⟨rfl, HWC.out.2.2.2.trans (hb5.mono HWC.out.2.2.2.size)⟩
        · have h1' : ((b.ks.length : Int) == 1) = false := beq_eq_false_iff_ne.2 (by omega)
          have hfar := next_far HF.out h1
          have hfk := HF.out
          clear h1
          go_upto_region 43 with (fail)
          obtain ⟨tn, htn⟩ : ∃ tn : Nat, b.t = (tn : Int) := Int.eq_ofNat_of_zero_le (check_ok HT.out.2.1.ck).1
          obtain ⟨pp, hpp⟩ : ∃ pp, pp = (f + 1) % b.ks.length := ⟨_, rfl⟩
          rw [← hpp] at hfar
          have HTP := Lib.hid (And.intro htn hpp)
          have hf3 : b.ks.length ≤ 3 := HT.out.2.1.f3
          have hnl5 : b.l.length ≤ 5 := HT.out.2.1.n5
          obtain ⟨H, hH⟩ : ∃ H, H = w.heap.size := ⟨_, rfl⟩
          have hO1 : HbO wv (H + 1) b := HWC.out.2.2.1.mono (by omega)
          have hHd : Hd wv H 300000 := by rw [hH]; exact HWC.out.2.1
          have hBH' : B ≠ H := by omega
          have hHl := hHd.lt
          have hwn : ∀ W : World, Calls Try.prog 38 #[.int .i64 ((f : Int) + 1), .int .i64 b.ks.length] W fun e w' => e = .returned (.int .i64 (pp : Int)) ∧ W = w' := fun W => by
            have h := wrapN_any (f + 1) b.ks.length W (by omega) (by omega) (by omega)
            rw [← hpp] at h
            rwa [show ((f + 1 : Nat) : Int) = (f : Int) + 1 from rfl] at h
          have hen : ∀ (s : Sg) (W : World), wv.grownBy W (some H) → Calls Try.prog 37 #[b.v, dv ⟨5, f, 0, 0, pp, 0, 0, s⟩] W (EnterR b ⟨5, f, 0, 0, pp, 0, 0, s⟩ W) := fun s W h => Enter_any b _ W (hO1.keptG h (by omega)).inn
          unfold Hb.v dv at hen
          have hoff : OffH b.A H := fun k off e => by
            have h1 := (hO1.m.lt k (by show Value.ownBlock (.slice b.A b.l.length b.c) = some k; rw [e]; rfl)).1
            omega
          have hcl : ∀ W, wv.grownBy W (some H) → W.cell? ⟨B, 0, none⟩ = some (.int .i64 b.t) ∧ W.cell? ⟨B, 1, none⟩ = some b.vm ∧ W.cell? ⟨B, 2, none⟩ = some b.vk ∧ W.cell? ⟨B, 3, none⟩ = some b.vh ∧ W.cell? ⟨B, 4, none⟩ = some b.vd := fun W h =>
            blk5 ((h.block B hlb (fun e => by cases e; exact absurd rfl hBH')).trans HWC.out.1)
          have hso : ∀ W, Hd W H 300000 → wv.grownBy W (some H) → Calls Try.prog 39 #[.pointer (some ⟨H, 0, none⟩), .agg #[.int .i64 (tn : Int), .slice b.A b.l.length b.c]] W (SgRes W H (300000 + 250)) := fun W h1 h2 =>
            sightOf_any H 300000 tn b.A b.l.length b.c b.l W h1 (by omega) (by rw [← htn]; exact HT.out.2.1.ck) (hO1.keptG h2 (by omega)).inn.m hoff hnl5
          rw [htn] at hen hcl c0
          have HS := Lib.hid (And.intro hwn (And.intro hen (And.intro hso (And.intro hcl (And.intro hHd hHl)))))
          have HH := Lib.hid hH
          have hwr : IntKind.i64.wrap ((f : Int) + 1) = (f : Int) + 1 := IntWalk.i64_in _ (by omega)
          rw [← hH]
          clear hwn hen hoff hcl hso hO1 hHd htn hpp hf3 hnl5 hH
          go_cut [15, 24] from 263 to 279 (fun v15 v24 wx => ∃ (q : Nat) (Z : Hb) (E : Int) (s : Sg), v24 = .pointer (some ⟨q, 0, none⟩) ∧ v15 = .int .i64 E ∧ wx.heap[q]? = some (boxO Z.t Z.vm Z.vk Z.vh Z.vd) ∧ E = enterE b ⟨5, f, 0, 0, pp, 0, 0, s⟩ ∧ seen s 9 6 = 0 ∧ (E = 0 → More b Z ⟨5, f, 0, 0, pp, 0, 0, s⟩ ∧ HbIn wx Z) ∧ wv.grownBy wx (some H))
          -- CUT e
          case first =>
            go_region_held3 (fun w' => w'.cell? ⟨B, 0, none⟩ = some (.int .i64 (tn : Int)) ∧ w'.cell? ⟨B, 1, none⟩ = some b.vm ∧ w'.cell? ⟨B, 2, none⟩ = some b.vk ∧ w'.cell? ⟨B, 3, none⟩ = some b.vh ∧ w'.cell? ⟨B, 4, none⟩ = some b.vd)
              ((refine HS.out.2.2.2.1 _ ?_
                repeat' (first
                  | (with_reducible refine World.grownBy.trans ?_ (gb_drew _ _))
                  | (with_reducible exact World.grownBy.refl _ _)
                  | (with_reducible refine World.grownBy.trans ?_ (World.grownBy_alloc _ _ _))
                  | (with_reducible refine World.grownBy.trans ?_ hd3.gr)
                  | (with_reducible refine World.grownBy.trans ?_ (gb_belH hb16))
                  | (with_reducible refine gb_set1 ?_ ?_)
                  | omega
                  | (show wv.heap.size ≤ wv.heap.size; exact Nat.le_refl _)
                  | fail)))
              (first
                | (go_at_call 38; (with_reducible refine (HS.out.1 _).mono ?_); rintro e w2 ⟨rfl, rfl⟩)
                | (go_at_call 39; (with_reducible refine (HS.out.2.2.1 _ ?_ ?_).mono ?_); (repeat' (first | (with_reducible exact HS.out.2.2.2.2.1) | (with_reducible refine Hd.drew ?_) | (with_reducible refine Hd.alloc ?_ _) | (with_reducible refine World.grownBy.trans ?_ (gb_drew _ _)) | (with_reducible exact World.grownBy.refl _ _) | (with_reducible refine World.grownBy.trans ?_ (World.grownBy_alloc _ _ _)) | fail)); rintro e w3 ⟨s, rfl, hs, hd3⟩; have hs3 := hd3.size; (try simp at hs3); try unfold vSg)
                | (go_at_call 37; (with_reducible refine (HS.out.2.1 s _ ?_).mono ?_); (repeat' (first | (with_reducible refine World.grownBy.trans ?_ (gb_drew _ _)) | (with_reducible exact World.grownBy.refl _ _) | (with_reducible refine World.grownBy.trans ?_ (World.grownBy_alloc _ _ _)) | (with_reducible refine World.grownBy.trans ?_ hd3.gr) | fail)); rintro e w16 h16; obtain ⟨⟨Z, rfl, hZ⟩, hb16⟩ := h16.any; clear h16; have hs16 : w3.heap.size ≤ w16.heap.size := (by have := hb16.size; (try simp at this); omega); unfold Hb.v; (first | (have hz : w16.heap[_]? = some (boxO 0 (.slice none 0 0) (.slice none 0 0) (.slice none 0 0) (.slice none 0 0)) := bheap (hd3.blk (alloc_at rfl) (Nat.ne_of_gt HS.out.2.2.2.2.2)) hb16 (Nat.le_refl _); obtain ⟨y0, y1, y2, y3, y4⟩ := blk5 hz; have f0 := frz hz 0; have f1 := frz hz 1; have f2 := frz hz 2; have f3 := frz hz 3; have f4 := frz hz 4; have hzl := heap_lt hz) | (have hz : w16.heap[_]? = some (boxO 0 (.slice none 0 0) (.slice none 0 0) (.slice none 0 0) (.slice none 0 0)) := bheap (alloc_at rfl) hb16 (Nat.le_refl _); obtain ⟨y0, y1, y2, y3, y4⟩ := blk5 hz; have f0 := frz hz 0; have f1 := frz hz 1; have f2 := frz hz 2; have f3 := frz hz 3; have f4 := frz hz 4; have hzl := heap_lt hz) | skip))
                | fail)
            all_goals
              go_wp2_with fail
              go_meet
            all_goals
              first
                | (with_reducible refine ⟨_, Z, _, s, rfl, rfl, alloc_at rfl, rfl, hs, fun h0 => ⟨(hZ h0).1, HbIn.al (hZ h0).2.inn _⟩, ?_⟩)
                | (with_reducible refine ⟨_, Z, _, s, rfl, rfl, box_q hz, rfl, hs, fun h0 => ⟨(hZ h0).1, in_q (hZ h0).2 ?_ _ _ _ _ _⟩, ?_⟩)
            all_goals
              repeat' (first
                | omega
                | (with_reducible refine World.grownBy.trans ?_ (gb_drew _ _))
                | (with_reducible exact World.grownBy.refl _ _)
                | (with_reducible refine World.grownBy.trans ?_ (World.grownBy_alloc _ _ _))
                | (with_reducible refine World.grownBy.trans ?_ hd3.gr)
                | (with_reducible refine World.grownBy.trans ?_ (gb_belH hb16))
                | (with_reducible refine gb_set1 ?_ ?_)
                | (simp; done)
                | fail)
          -- TUC e
          case rest =>
            obtain ⟨q, Z, E3, s, rfl, rfl, hbq, hEq, hsn, hZ, hgr⟩ := hcut
            have hE3 := enter_stray (b := b) HT.out.2.2.1 (by omega) (f := f) (g := pp) (s := s) hfk hfar.1 hfar.2 hsn
            rw [← hEq] at hE3
            have hBz : Below w.heap.size w wc := HWC.out.2.2.2.grown hgr HWC.out.2.2.2.size (fun j e => by cases e; rw [HH.out]; exact Nat.le_refl _)
            have hbB := (hgr.block B hlb (fun e => by cases e; omega)).trans HWC.out.1
            have hiB := (HWC.out.2.2.1.keptG hgr (by have := HH.out; omega)).inn
            have HZ := Lib.hid (And.intro hbq (And.intro hEq (And.intro hZ (And.intro hBz (And.intro hbB (And.intro hiB hE3.2))))))
            clear hbq hEq hsn hZ hgr hBz hbB hiB
            rcases hE3.1 with rfl | rfl
            · have hEz : enterE b ⟨5, f, 0, 0, pp, 0, 0, s⟩ = 0 := HZ.out.2.1.symm
              obtain ⟨hmZ, hiZ⟩ := HZ.out.2.2.1 rfl
              have haZ : askE Z = 0 := hmZ.ask hEz (by
                intro e0
                have := enterE_two (d := ⟨5, f, 0, 0, pp, 0, 0, s⟩) HT.out.2.2.1 (by omega) (enterE_deed hEz).2.2
                exact this.2.1 H8.out.2.2.2.2.2.1 hEz e0)
              have hab := H8.out.2.2.2.2.2.2.1
              have hCl := ownsR_len hab
              have hDl := ownsR_len haZ
              rw [hmZ.l] at hDl
              have hwi : ∀ (i : Nat) (r r' : Rn), i < b.l.length → (ownsR b)[i]? = some r → (ownsR Z)[i]? = some r' → r.lo ≤ r'.lo ∧ r'.hi ≤ r.hi := fun i r r' hi h1 h2 => owns_within hab hmZ haZ (hE3.2 H8.out.2.2.2.2.2.1 rfl) hi h1 h2
              have ht1 := Owns_any b wc HZ.out.2.2.2.2.2.1
              unfold Hb.v at ht1
              obtain ⟨c0, c1, c2, c3, c4⟩ := blk5 HZ.out.2.2.2.2.1
              have hlb2 := heap_lt HZ.out.2.2.2.2.1
              have HQ := Lib.hid (And.intro hiZ (And.intro haZ (And.intro hab (And.intro hCl (And.intro hDl hwi)))))
              clear hE3 hEz hmZ hiZ haZ hab hCl hDl hwi
              go_upto_region 47 with (go_at_call 40; refine ht1.mono ?_; rintro e y1 ⟨⟨r1, rfl, og1⟩, sg1⟩; rw [HQ.out.2.2.1])
              have bq1 := bheap HZ.out.1 sg1 (Nat.le_refl _)
              have bB1 := bheap HZ.out.2.2.2.2.1 sg1 (Nat.le_refl _)
              have ht2 := Owns_any Z y1 (HQ.out.1.below sg1 (Nat.le_refl _))
              unfold Hb.v at ht2
              have HY1 := Lib.hid (And.intro og1 (And.intro sg1 bB1))
              clear og1 sg1 bB1 ht1 c0 c1 c2 c3 c4 hlb2
              obtain ⟨c0, c1, c2, c3, c4⟩ := blk5 bq1
              have hlb2 := heap_lt bq1
              clear bq1
              go_upto_region 48 with (go_at_call 40; refine ht2.mono ?_; rintro e y2 ⟨⟨r2, rfl, og2⟩, sg2⟩; rw [HQ.out.2.1])
              obtain ⟨P1, n1, rfl, g1, g1c, g1m⟩ := (HY1.out.1.below sg2 (Nat.le_refl _)).form lenRn
              obtain ⟨P2, n2, rfl, g2, g2c, g2m⟩ := og2.form lenRn
              have bB2 := bheap HY1.out.2.2 sg2 (Nat.le_refl _)
              have sB2 := HZ.out.2.2.2.1.trans ((HY1.out.2.1.trans (sg2.mono HY1.out.2.1.size)).mono HZ.out.2.2.2.1.size)
              rw [HQ.out.2.2.2.1] at g1 g1c ⊢
              rw [HQ.out.2.2.2.2.1] at g2 g2c ⊢
              have hn5' : b.l.length ≤ 5 := HT.out.2.1.n5
              have hn0 : (b.l.length != b.l.length) = false := by simp
              have hn0' : ((b.l.length : Int) != (b.l.length : Int)) = false := by simp
              have HY2 := Lib.hid (And.intro g1 (And.intro g2 sB2))
              clear g1 g2 sB2 og2 sg2 ht2 c0 c1 c2 c3 c4 hlb2
              obtain ⟨c0, c1, c2, c3, c4⟩ := blk5 bB2
              have hlb2 := heap_lt bB2
              clear bB2
              go_upto_region 51 with (fail)
              go_loopg [27] b.l.length (fun g v27 wx => ∃ i : Nat, i + g = b.l.length ∧ v27 = .int .i64 i ∧ Below y2.heap.size y2 wx)
              case atStart => exact ⟨0, by omega, rfl, Below.refl _ _⟩
              case round =>
                obtain ⟨i, hi, rfl, hbi⟩ := hrel
                by_cases hli : i < b.l.length
                · obtain ⟨g3, q3, r, rfl, hg3, hr, r0, r1⟩ := Rns.get (HY2.out.1.below hbi (Nat.le_refl _)) hli
                  obtain ⟨g4, q4, r', rfl, hg4, hr', s0, s1⟩ := Rns.get (HY2.out.2.1.below hbi (Nat.le_refl _)) hli
                  obtain ⟨hl1, hl2⟩ := HQ.out.2.2.2.2.2 i r r' hli hr hr'
                  have i2 : (i : Int) < (b.l.length : Int) := by omega
                  have HI := Lib.hid (And.intro hi hbi)
                  have hcv : ∀ d os, Calls Try.prog 30 #[.agg #[.int .i64 r.lo, .int .i64 r.hi], .agg #[.int .i64 r'.lo, .int .i64 r'.hi]] (Sort.grow (redrawn wr d) os) (fun e w'' => e = .returned (.bool true) ∧ ∃ p : Regrown, w'' = Sort.grow (redrawn wr p.d) p.os) := fun d os =>
                    Calls.regrown_of (covers_any r r' _ hl1 hl2)
                  have HCV := Lib.hid hcv
                  clear hi hr hr' hcv hl1 hl2 hbi
                  go_upto_region 53 with (fail)
                  have k2 := cell_regrown r0
                  have k3 := cell_regrown r1
                  have k4 := cell_regrown s0
                  have k5 := cell_regrown s1
                  refine wp_region_quiet_below (by kernel_rfl) (by kernel_rfl) ?_
                  repeat (quiet_step (exact HCV.out _ _))
                  refine wpQuiet_nil ?_
                  intro _ hw'
                  obtain ⟨⟨dq, osq⟩, hw''⟩ := hw'
                  subst hw''
                  obtain ⟨w3, hW1⟩ : ∃ w3, w3 = Sort.grow (redrawn wr dq) osq := ⟨_, rfl⟩
                  have hb3 : Below wr.heap.size wr w3 := by rw [hW1]; exact below_regrown wr dq osq
                  rw [← hW1]
                  have HB3 := Lib.hid (HI.out.2.trans (hb3.mono HI.out.2.size))
                  clear hW1 k2 k3 k4 k5 r0 r1 s0 s1 hb3
                  go_wp2_with fail
                  go_roundg (gk - 1)
                  case measure => have := HI.out.1; omega
                  case rel => exact ⟨i + 1, by have := HI.out.1; omega, by go_num, HB3.out⟩
                · obtain rfl : i = b.l.length := by omega
                  have HBI := Lib.hid (HY2.out.2.2.trans (hbi.mono HY2.out.2.2.size))
                  clear hbi hi
                  go_wp2_with (go_at_call 23; refine (herding_any _).mono ?_; rintro e w9 ⟨rfl, hb9⟩)
                  go_ret
                  exact ⟨rfl, HBI.out.trans (hb9.mono HBI.out.size)⟩
            · clear hE3
              go_wp2_with (go_at_call 23; refine (herding_any _).mono ?_; rintro e w9 ⟨rfl, hb9⟩)
              go_ret
              exact ⟨rfl, HZ.out.2.2.2.1.trans (hb9.mono HZ.out.2.2.2.1.size)⟩
end Go.Proofs.Ytmennjmjakdkcaa
