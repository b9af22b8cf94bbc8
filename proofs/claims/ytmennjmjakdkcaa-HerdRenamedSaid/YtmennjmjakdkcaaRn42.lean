/- HerdRenamed 42: RenA, Frame. -/
import Derived.Test.YtmennjmjakdkcaaRn41
import Derived.Test.YtmennjmjakdkcaaRn01
import Derived.OpenShut
namespace Go.Proofs.Ytmennjmjakdkcaa
open Go.RowKit
set_option linter.unusedVariables false
set_option linter.unusedSimpArgs false
theorem cell_far {w w' : World} {b o : Nat} (h : w'.heap[b]? = w.heap[b]?) : w'.cell? ⟨b, o, none⟩ = w.cell? ⟨b, o, none⟩ := by unfold World.cell?; rw [h]
theorem goneE_z {b : Hb} (hck : b.chk = 0) : goneE b 0 = askE b := by
  have hok := checkH_ok hck
  have hs : sumE b 0 = 0 := by
    unfold sumE
    rw [if_neg (by rw [hck]; simp), if_neg (by rw [ownB_iff.2 ⟨by omega, by have := hok.n0; omega⟩]; simp)]
  unfold goneE askE
  rw [if_neg (show ¬ sumE b 0 ≠ 0 by rw [hs]; simp), if_neg (show ¬ b.chk ≠ 0 by rw [hck]; simp)]
set_option maxRecDepth 400000 in
set_option maxHeartbeats 20000000 in
theorem HerdRenamed_any (A : Option Addr) (n c : Nat) (nums : List Int) (w : World) (hl : Ints w A n nums) (hn : n ≤ 9223372036854775807) :
    Calls Try.prog 9 #[.slice A n c] w fun e w' => e = .returned (.bool true) ∧ Below w.heap.size w w' := by
  go_enter Try.func9, Try.ntmps9
  go_wp2_with fail
  refine (newHand_any A n c nums _ hl hn).mono ?_
  rintro e w1 ⟨rfl, hh, hb1, hz1⟩
  clear hl hz1
  go_wp2_with fail
  refine (herdOf_any w.heap.size 0 3 3 5 _ hh (by omega) (by omega) (by omega) (by omega)).mono ?_
  rintro e w2 ⟨b, rfl, hck, hln, hkn, hdn, hO, hd2⟩
  unfold Hb.v
  have hB2 := hb1.trans (hd2.below (Nat.le_refl _) hb1.size)
  have hH2 := hd2.hd
  have hs1 := hb1.size
  have hs2 := hd2.size
  have hHs := hh.lt
  clear hh hb1 hd2 hln hkn
  go_upto_region 3 with (fail)
  obtain ⟨B, hB⟩ : ∃ B, B = w2.heap.size := ⟨_, rfl⟩
  obtain ⟨W, hW⟩ : ∃ W, W = w2.alloc (Obj.cells #[Value.int .i64 b.t, .slice b.A b.l.length b.c, .slice b.Ak b.ks.length b.ck, .slice b.Ah b.hs.length b.ch, .slice b.Ad b.ds.length b.cd] 29) := ⟨_, rfl⟩
  rw [← hW, ← hB]
  have bW : W.heap[B]? = some (boxO b.t b.vm b.vk b.vh b.vd) := by rw [hW, hB]; exact alloc_at rfl
  have hOW : HbO W w1.heap.size b := by rw [hW]; exact hO.below (bal0 _ _) (Nat.le_refl _)
  have hHW : Hd W w.heap.size (0 + 200000) := by rw [hW]; exact hH2.alloc _
  have hBW : Below w.heap.size w W := by rw [hW]; exact bal hB2 (Nat.le_refl _) _
  have hok := checkH_ok hck
  have hf3 : b.ks.length ≤ 3 := hok.f3
  have hHW1 : w.heap.size < w1.heap.size := hHs
  have hBH : w.heap.size < B := by omega
  have hrow := row_any w.heap.size (0 + 200000) b.ks.length W hHW (by omega) (by omega)
  obtain ⟨c0, c1, c2, c3, c4⟩ := blk5 bW
  have hlb := heap_lt bW
  have HW := Lib.hid (And.intro bW (And.intro hOW (And.intro hBW (And.intro hck hok))))
  clear hW hB hB2 hO bW hOW hBW hck hok hH2 hHs hs1 hs2 hHW
  go_upto_region 4 with (go_at_call 45; refine hrow.mono ?_; rintro e w3 ⟨Ar, cr, L, rfl, hor, hpm, hd3⟩)
  have hO3 : HbO w3 w1.heap.size b := HW.out.2.1.dealt hd3 hHW1
  have b3 := hd3.blk HW.out.1 (Nat.ne_of_gt hBH)
  have hcp := copyHerd_any b w3 hO3.inn hO3.z (by have := HW.out.2.2.2.2.n5; omega) (by omega) (by have := HW.out.2.2.2.2.hl; omega) (by omega) (fun r hr => by have := HW.out.2.2.2.2.rl r hr; have := HW.out.2.2.2.2.n5; omega)
  unfold Hb.v at hcp
  have hB3 := HW.out.2.2.1.trans (hd3.below (B := w.heap.size) (Nat.le_refl _) HW.out.2.2.1.size)
  have H3 := Lib.hid (And.intro hO3 (And.intro b3 (And.intro hor (And.intro hpm hB3))))
  clear hO3 hor hpm hB3 hd3 hrow c0 c1 c2 c3 c4 hlb
  obtain ⟨c0, c1, c2, c3, c4⟩ := blk5 b3
  have hlb := heap_lt b3
  clear b3
  go_upto_region 5 with (go_at_call 46; refine hcp.mono ?_; rintro e w4 ⟨⟨A1, a1, Ak, ck, Ah, ch, Ad, cd, rfl, hO4⟩, hb4⟩; unfold Hb.v; dsimp only)
  obtain ⟨XB, hXB⟩ : ∃ D, D = w4.heap.size := ⟨_, rfl⟩
  obtain ⟨w5, hw5⟩ : ∃ w5, w5 = w4.alloc (Obj.cells #[Value.int .i64 b.t, .slice A1 b.l.length a1, .slice Ak b.ks.length ck, .slice Ah b.hs.length ch, .slice Ad b.ds.length cd] 29) := ⟨_, rfl⟩
  rw [← hw5, ← hXB]
  have hb5 : Below w3.heap.size w3 w5 := by rw [hw5]; exact bal hb4 (Nat.le_refl _) _
  have hO5 : HbO w5 w3.heap.size ⟨b.t, A1, a1, b.l, Ak, ck, b.ks, Ah, ch, b.hs, Ad, cd, b.ds⟩ := by rw [hw5]; exact hO4.below (bal0 _ _) (Nat.le_refl _)
  have x5 : w5.heap[XB]? = some (boxO b.t (.slice A1 b.l.length a1) (.slice Ak b.ks.length ck) (.slice Ah b.hs.length ch) (.slice Ad b.ds.length cd)) := by rw [hw5, hXB]; exact alloc_at rfl
  have hRn : RnI w3 w3.heap.size w5.heap.size XB b L A1 Ak Ah Ad a1 ck ch cd 0 w5 := by
    obtain ⟨mv, hmv, hrw⟩ := hO5.h
    refine ⟨hb5, rfl, x5, by rw [hXB]; exact hb4.size, Nat.le_refl _, hO5.m, hO5.d, ⟨b.ks, hO5.k, rfl, fun f r hf => by omega⟩, ⟨mv, hmv, hrw.1, fun f r hf => by omega⟩, fun g e => ?_⟩
    exact (hO5.k.lt g (by show Value.ownBlock (.slice Ak b.ks.length ck) = some g; rw [e]; rfl)).2
  have hnh : b.hs.length = b.ks.length := HW.out.2.2.2.2.hl
  obtain ⟨Ar', cr', er, hri, hrc, hrm⟩ := H3.out.2.2.1.form lenInt
  injection er with er1 er2 er3
  subst er1 er3
  rw [← er2] at hri hrc
  have H5 := Lib.hid (And.intro hri (And.intro hnh hRn))
  clear hw5 hXB hb5 hO5 x5 hRn hri hb4 hO4 hcp c0 c1 c2 c3 c4 hnh er2
  obtain ⟨zz, hzz⟩ : ∃ zz, zz = w5.heap.size := ⟨_, rfl⟩
  go_upto_region 6 with (fail)
  go_loopg [7] b.ks.length (fun g v7 wr => ∃ k : Nat, k + g = b.ks.length ∧ v7 = .int .i64 k ∧ RnI w3 w3.heap.size zz XB b L A1 Ak Ah Ad a1 ck ch cd k wr)
  case atStart => exact ⟨0, by omega, rfl, by rw [hzz]; exact H5.out.2.2⟩
  case round =>
    obtain ⟨k, hk, rfl, hR⟩ := hrel
    by_cases hlt : k < b.ks.length
    · obtain ⟨r, hr, hrn⟩ := row_at H3.out.2.2.2.1 hlt
      obtain ⟨b1, o1, x1, rfl, hb1, hx1, y1⟩ := Ints.get H5.out.1 hlt
      rw [hr] at hx1
      cases hx1
      have hi3 := H3.out.1.inn
      obtain ⟨b2, o2, xk, eAk, hb2, hxk, y2⟩ := Ints.get hi3.k hlt
      obtain ⟨b3, o3, B3, l3, c3', eAh, hb3, hl3, y3, hri3, hrc3, hrm3, hrz3⟩ := GridZ.get H3.out.1.z.h (k := k) (by rw [H5.out.2.1]; exact hlt)
      obtain ⟨KS, hKS, hKl, hKd⟩ := hR.kk
      obtain ⟨x, hxr⟩ : ∃ x, KS[r]? = some x := ⟨_, List.getElem?_eq_getElem (by omega)⟩
      obtain ⟨gK, rfl, hgz, hgl, -, hkc, hkm, ⟨cs, hcs⟩, hce, hfz, hput⟩ := Own.putC lenInt hKS hxr
      have hKp := hput 0 (.int .i64 xk) xk (by decide) rfl
      have hc0 := hce 0 (.int .i64 x) rfl
      simp only [Nat.mul_one, Nat.add_zero] at hKp hc0
      have hf0 := hfz r
      have hgne : XB ≠ gK := fun e => by rw [← e, hR.bx] at hcs; cases hcs
      have hzl := hR.bel.size
      have hBl := heap_lt hR.bx
      have hcl : ∀ w', wr.drew.grownBy w' (some gK) → Below w3.heap.size w3 w' ∧ w'.heap[XB]? = some (boxO b.t (.slice A1 b.l.length a1) (.slice (some ⟨gK, 0, none⟩) b.ks.length ck) (.slice Ah b.hs.length ch) (.slice Ad b.ds.length cd)) := fun w' h =>
        ⟨(bdraw hR.bel).grown h (by have := hzl; exact hzl) (fun j e => by cases e; exact hgz), (h.block XB hBl (fun e => by cases e; exact hgne rfl)).trans hR.bx⟩
      have HCL := Lib.hid hcl
      have hbB : w3.heap[B]? = some (boxO b.t b.vm (.slice (some ⟨b2, o2, none⟩) b.ks.length b.ck) (.slice (some ⟨b3, o3, none⟩) b.hs.length b.ch) b.vd) := by have h := H3.out.2.1; unfold Hb.vk Hb.vh at h; rw [eAk, eAh] at h; exact h
      have HCC := Lib.hid (fun (w' : World) (hp : wr.drew.grownBy w' (some gK)) =>
        And.intro (blk5 (hcl w' hp).2) (And.intro (heap_lt (hcl w' hp).2) (And.intro (blk5 (bheap hbB (hcl w' hp).1 (Nat.le_refl _))) (And.intro (heap_lt (bheap hbB (hcl w' hp).1 (Nat.le_refl _))) (And.intro (bcell y1 (hcl w' hp).1 (Nat.le_refl _)) (And.intro (bcell y2 (hcl w' hp).1 (Nat.le_refl _)) (And.intro (bcell y3 (hcl w' hp).1 (Nat.le_refl _)) (And.intro (Nat.lt_of_lt_of_le hb1 (hcl w' hp).1.size) (And.intro (Nat.lt_of_lt_of_le hb2 (hcl w' hp).1.size) (Nat.lt_of_lt_of_le hb3 (hcl w' hp).1.size))))))))))
      have hhl : (b.hs.length : Int) = (b.ks.length : Int) := by rw [H5.out.2.1]
      have i1 : (k : Int) < (b.ks.length : Int) := by omega
      have i2 : (r : Int) < (b.ks.length : Int) := by omega
      have i3 : (k : Int) < (b.hs.length : Int) := by omega
      have i4 : (r : Int) < (b.hs.length : Int) := by omega
      obtain ⟨O0, hO0⟩ : ∃ O, O = Obj.cells cs 3 (0, 0) := ⟨_, rfl⟩
      have HO0 := Lib.hid (And.intro hcs hO0)
      obtain ⟨O1, hO1⟩ : ∃ O, O = Obj.cells (cs.setIfInBounds r (.int .i64 xk)) 3 (0, 0) := ⟨_, rfl⟩
      have hst1 : ∀ W : World, W.heap[gK]? = some O0 → (W.setCell ⟨gK, r, none⟩ (.int .i64 xk)).heap[gK]? = some O1 := fun W h => by rw [hO1]; rw [hO0] at h; exact set_blk h
      have hkc1 : ∀ W : World, W.heap[gK]? = some O0 → W.cell? ⟨gK, r, none⟩ = some (.int .i64 x) ∧ W.frozen? ⟨gK, r, none⟩ = false ∧ gK < W.heap.size := fun W h =>
        ⟨(cell_far (by rw [h, hO0, hcs])).trans hc0, by rw [hO0] at h; exact frz h r, heap_lt h⟩
      have hcsd : wr.drew.heap[gK]? = some O0 := by rw [hO0]; exact hcs
      have HST := Lib.hid (And.intro hst1 (And.intro hkc1 (And.intro hgl (And.intro hKp (And.intro hR (And.intro hKl (And.intro hKd hgz)))))))
      have HIN := Lib.hid (And.intro hri3 (And.intro hrz3 (And.intro hl3 (And.intro hxk (And.intro hr (And.intro hk hxr))))))
      have hl3n : l3.length ≤ 4294967295 := by have := HW.out.2.2.2.2.rl l3 (List.mem_of_getElem? hl3); have := HW.out.2.2.2.2.n5; omega
      have hgd : gK < wr.drew.heap.size := hgl
      clear hcl hst1 hkc1 hKp hR hKl hKd hgz hri3 hrz3 hl3 hxk hr hk hxr hcs hce hfz hput hc0 hf0 hKS eAk eAh hbB hi3 y1 y2 y3 hb1 hb2 hb3 hhl hzl hBl hO0 hO1 hgl
      go_upto_region 8 with (fail)
      refine wp_region_tag 25 0 0 [] [] 0 (TRn gK r (.int .i64 xk)) (PRn wr.drew gK O0) [0, 0, 0, 0, 0, 0, 0, 0, 0, 0, 0, 0, 0, 0, 0, 0, 0, 0, 0, 0, 0, 0, 0, 0, 1] (by as_aux_lemma => kernel_rfl) (by as_aux_lemma => kernel_rfl) (by as_aux_lemma => kernel_rfl) (by as_aux_lemma => kernel_rfl) (by omega) (.inl rfl) rfl rfl (fun k i w1 w2 hc _ hT hp => PRn.st k i w1 w2 hc hT hp) (PRn.start hcsd) ?_
      apply Exists.intro
      refine ⟨fun ys => ?_, fun ops K hK => ?_⟩
      · simp only [List.take_succ_cons, List.take_zero, dstsOf, List.filterMap_cons, List.filterMap_nil, putAll]
        go_simp
        rfl
      simp only [List.take_succ_cons, List.take_zero, List.drop_succ_cons, List.drop_zero] at hK ⊢
      iterate 22
        refine LexT.const TRn.rf ?_
        apply Exists.intro
        refine ⟨fun ys w' hp hpk hq hd => ?_, ?_⟩
        · try simp [DepsOf, depsGo, DF.holds, Region.binds, EqF] at hd
          try simp only [hd]
          obtain ⟨⟨c0, c1, c2, c3, c4⟩, hl0, ⟨d0, d1, d2, d3, d4⟩, hl1, e1, e2, e3, hl2, hl3', hl4⟩ := HCC.out w' hp
          clear hp hpk hq
          intro Q2 hQ2
          go_wp2_with fail
          rfl
        try simp only [List.nil_append, List.cons_append]
      refine LexT.some (FRn wr.heap.size l3) (fun j v w1 w2 hc _ hT h => FRn.st HST.out.2.2.1 j v w1 w2 hT h) (fun ys w' hp hpk hq hd => ?_) ?_
      · try simp [DepsOf, depsGo, DF.holds, Region.binds, EqF] at hd
        try simp only [hd]
        have hpg : wr.drew.grownBy w' (some gK) := hp
        have hci := copyInts_any B3 l3.length c3' l3 w' (HIN.out.1.below (HCL.out w' hpg).1 (Nat.le_refl _)) HIN.out.2.1 hl3n
        have hpz : wr.heap.size ≤ w'.heap.size := hpg.size
        clear hp hpk hpg
        intro Q2 hQ2
        go_wp2_with fail
        refine hci.mono ?_
        rintro e w4' ⟨v, rfl, ho, hb⟩
        have HX := Lib.hid (show TRn gK r (.int .i64 xk) 0 w' w4' ∧ FRn wr.heap.size l3 v w4' from ⟨hb, ho.mono hpz⟩)
        clear ho hb hci
        go_wp2
        exact ⟨_, rfl, HX.out⟩
      try simp only [List.nil_append, List.cons_append]
      iterate 1
        refine LexT.const TRn.rf ?_
        apply Exists.intro
        refine ⟨fun ys w' hp hpk hq hd => ?_, ?_⟩
        · try simp [DepsOf, depsGo, DF.holds, Region.binds, EqF] at hd
          try simp only [hd]
          obtain ⟨⟨c0, c1, c2, c3, c4⟩, hl0, ⟨d0, d1, d2, d3, d4⟩, hl1, e1, e2, e3, hl2, hl3', hl4⟩ := HCC.out w' hp
          clear hp hpk hq
          intro Q2 hQ2
          go_wp2_with fail
          rfl
        try simp only [List.nil_append, List.cons_append]
      refine LexT.some (FSt gK O1) (fun j v w1 w2 hc _ hT h => FSt.st j v w1 w2 hc hT h) (fun ys w' hp hpk hq hd => ?_) ?_
      · try simp [DepsOf, depsGo, DF.holds, Region.binds, EqF] at hd
        try simp only [hd]
        have hp1 : w'.heap[gK]? = some O0 := hpk
        obtain ⟨q0, q1, q2⟩ := HST.out.2.1 w' hp1
        have HX := Lib.hid (show TRn gK r (.int .i64 xk) 1 w' (w'.setCell ⟨gK, r, none⟩ (.int .i64 xk)) ∧ ∀ v, FSt gK O1 v (w'.setCell ⟨gK, r, none⟩ (.int .i64 xk)) from ⟨rfl, fun v => HST.out.1 w' hp1⟩)
        clear hp hpk hq hp1
        intro Q2 hQ2
        go_wp2_with fail
        exact ⟨HX.out.1, ⟨.int .i64 0, HX.out.2 _⟩⟩
      try simp only [List.nil_append, List.cons_append]
      refine hK _ fun ys w6 hp hF => ?_
      simp [AllF, DF.holds] at hF
      obtain ⟨-, -, -, -, -, -, -, h48, -, -, -, h52, -, -, -, -, -, -, -, -, -, -, f63, -, ⟨_, fS⟩⟩ := hF
      have hp6 : wr.grownBy w6 (some gK) := (gb_drew wr _).trans hp
      have hR := HST.out.2.2.2.2.1
      obtain ⟨gH, rfl, hgl6, ⟨u6, hc6⟩, hf6, hRn⟩ := hR.next H3.out.2.2.2.1 HIN.out.2.2.2.2.1 (by omega) H5.out.2.1 HST.out.2.2.2.2.2.1 HST.out.2.2.2.2.2.2.1 HO0.out.1 HST.out.2.2.2.1 HIN.out.2.2.2.1 HIN.out.2.2.1 hp6 (by rw [show w6.heap[gK]? = some O1 from fS]; exact (HST.out.1 wr (by rw [HO0.out.2]; exact HO0.out.1)).symm) (show OwnI w6 wr.heap.size (ys 63) l3 from f63)
      have HRN := Lib.hid hRn
      simp only [h48, h52]
      obtain ⟨A63, c63, e63, -, -, -⟩ := Own.form (show OwnI w6 wr.heap.size (ys 63) l3 from f63) lenInt
      rw [e63] at HRN
      simp only [e63]
      clear hRn hp6 hR hp f63 fS hK h48 h52 e63
      go_wp2_with fail
      go_roundg (gk - 1)
      case measure => have := HIN.out.2.2.2.2.2.1; omega
      case rel => exact ⟨k + 1, by have := HIN.out.2.2.2.2.2.1; omega, by go_num, HRN.out⟩
    · obtain rfl : k = b.ks.length := by omega
      have hz35 : w3.heap.size ≤ zz := by have := H5.out.2.2.bel.size; omega
      obtain ⟨KS, hKl, hKd, hD⟩ := hR.deeds hz35 H3.out.2.2.2.1 H5.out.2.1
      have HK := Lib.hid (And.intro hKl (And.intro hKd hD))
      obtain ⟨x0, x1, x2, x3, x4⟩ := blk5 hR.bx
      have hlx := heap_lt hR.bx
      have hDL : Hid (HbIn w3 b) := Lib.hid H3.out.1.inn
      clear hR hk hKl hKd hD hzz hlt
      go_upto_region 10 with (fail)
      clear x0 x1 x2 x3 x4 hlx
      go_loopg [8] b.ds.length (fun g v8 wx => ∃ (i : Nat) (DS : List De), i + g = b.ds.length ∧ v8 = .int .i64 i ∧ DsI b L i DS ∧ RnD w3 w3.heap.size XB b L A1 Ak Ah Ad a1 ck ch cd KS DS wx)
      case atStart => exact ⟨0, b.ds, by omega, rfl, ⟨fun j hj => by omega, fun _ _ => rfl⟩, HK.out.2.2⟩
      case round =>
        obtain ⟨i, DS, hi, rfl, hI, hD⟩ := hrel
        obtain ⟨x0, x1, x2, x3, x4⟩ := blk5 hD.bx
        have hlx := heap_lt hD.bx
        by_cases hli : i < b.ds.length
        · obtain ⟨d, hd⟩ : ∃ d, b.ds[i]? = some d := ⟨_, List.getElem?_eq_getElem hli⟩
          have hDd : DS[i]? = some d := (hI.2 i (Nat.le_refl _)).trans hd
          have hdin := HW.out.2.2.2.2.dI d (List.mem_of_getElem? hd)
          obtain ⟨fn, hfn⟩ := Int.eq_ofNat_of_zero_le hdin.f.1
          have hfk : fn < b.ks.length := by have := hdin.f.2; omega
          obtain ⟨r, hr, hrn⟩ := row_at H3.out.2.2.2.1 hfk
          obtain ⟨b1, o1, x1', rfl, hb1, hx1, y1⟩ := Ints.get H5.out.1 hfk
          rw [hr] at hx1
          cases hx1
          obtain ⟨b4, o4, d', eAd, hb4, hd', p0, p1, p2, p3, p4, p5, -⟩ := Deeds.get hDL.out.d hli
          rw [hd] at hd'
          cases hd'
          have hbB := H3.out.2.1
          unfold Hb.vd at hbB
          rw [eAd] at hbB
          obtain ⟨c0, c1, c2, c3, c4⟩ := blk5 (bheap hbB hD.bel (Nat.le_refl _))
          have hlB := heap_lt (bheap hbB hD.bel (Nat.le_refl _))
          replace y1 := bcell y1 hD.bel (Nat.le_refl _)
          replace p1 := bcell p1 hD.bel (Nat.le_refl _)
          rw [hfn] at p1
          obtain ⟨gD, rfl, hgDl, hne, hgz, hce, hfz, hput⟩ := hD.put hDd
          have hsz := hD.bel.size
          have hb1' : b1 < wr.heap.size := by omega
          have hb4' : b4 < wr.heap.size := by omega
          have q1 := hce 1 (.int .i64 d.flock) rfl
          have g1 := hfz (i * 12 + 1)
          have i1 : (i : Int) < (b.ds.length : Int) := by omega
          have i2 : (fn : Int) < (b.ks.length : Int) := by omega
          have HI := Lib.hid (And.intro hi (And.intro hI (And.intro hD (And.intro hd (And.intro hDd (And.intro hdin (And.intro hfn (And.intro hr hbB))))))))
          have HP4 := Lib.hid p4
          clear hi hI hD hd hDd hdin hr hbB hput hce hfz hfn eAd p0 p2 p3 p4 p5
          go_upto_region 12 with (fail)
          refine wp_region_quiet_tail (C := fun w' => ∃ n, w' = wr.drewN n) 12 (by kernel_rfl) (by kernel_rfl) ⟨1, rfl⟩ ?_
          simp only [List.take_succ_cons, List.take_zero, List.drop_succ_cons, List.drop_zero]
          repeat (quiet_step (fail))
          refine wpQuiet_nil ?_
          intro _ hw'
          obtain ⟨nq3, hw''⟩ := hw'
          subst hw''
          go_upto_region 13 with (fail)
          obtain ⟨W4, hW4⟩ : ∃ W4, W4 = (wr.drewN nq3).setCell ⟨gD, i * 12 + 1, none⟩ (.int .i64 (r : Int)) := ⟨_, rfl⟩
          rw [← hW4]
          obtain ⟨d1, hd1⟩ : ∃ d1 : De, d1 = ⟨d.kind, (r : Int), d.owner, d.other, d.tof, d.many, d.err, d.s⟩ := ⟨_, rfl⟩
          have hD4 : RnD w3 w3.heap.size XB b L A1 Ak Ah (some ⟨gD, 0, none⟩) a1 ck ch cd KS (DS.set i d1) W4 := by
            rw [hW4]
            obtain ⟨gD', e, -, -, -, -, -, hput⟩ := (HI.out.2.2.1.drewN nq3).put HI.out.2.2.2.2.1
            cases e
            exact hput 1 _ _ (by decide) (by rw [hd1]; simp [eDe])
          have hDl : i < DS.length := by rw [HI.out.2.2.1.dl]; exact hli
          have hd41 : (DS.set i d1)[i]? = some d1 := List.getElem?_set_self hDl
          obtain ⟨x0, x1, x2, x3, x4⟩ := blk5 hD4.bx
          have hlx4 := heap_lt hD4.bx
          obtain ⟨gD', e, hgDl4, -, -, hce, hfz, -⟩ := hD4.put hd41
          cases e
          have q0 : W4.cell? ⟨gD, i * 12, none⟩ = some (.int .i64 d.kind) := by have h := hce 0 (.int .i64 d1.kind) rfl; rw [hd1] at h; exact h
          have HD4 := Lib.hid (And.intro hD4 (And.intro hd41 (And.intro hd1 hDl)))
          clear hW4 hD4 hd41 hd1 hDl q1 g1 p1 y1 c0 c1 c2 c3 c4 hce hfz hlx hgDl hb1' hb4' hsz hlB
          by_cases h5 : d.kind = 5
          · have e5 : (d.kind == 5) = true := by simp [h5]
            have H55 := Lib.hid h5
            have hdin := HI.out.2.2.2.2.2.1
            obtain ⟨tn, htn⟩ := Int.eq_ofNat_of_zero_le hdin.t.1
            have htk : tn < b.ks.length := by
              obtain ⟨-, -, h3, -⟩ := deedE_inv (HW.out.2.2.2.2.dE d (List.mem_of_getElem? HI.out.2.2.2.1))
              unfold fldE at h3
              rw [if_neg (by omega), if_neg (by omega), if_neg (by omega), if_pos h5] at h3
              obtain ⟨a1', -⟩ := ite0 (by decide) h3
              have a2 := ownB_iff.1 ((Bool.not_eq_false _).mp a1')
              omega
            obtain ⟨r2, hr2, hrn2⟩ := row_at H3.out.2.2.2.1 htk
            obtain ⟨b1', o1', x1', e1, hb1', hx1, y1⟩ := Ints.get H5.out.1 htk
            cases e1
            rw [hr2] at hx1
            cases hx1
            obtain ⟨c0, c1, c2, c3, c4⟩ := blk5 (bheap HI.out.2.2.2.2.2.2.2.2 HD4.out.1.bel (Nat.le_refl _))
            have hlB := heap_lt (bheap HI.out.2.2.2.2.2.2.2.2 HD4.out.1.bel (Nat.le_refl _))
            replace y1 := bcell y1 HD4.out.1.bel (Nat.le_refl _)
            have p4 := bcell HP4.out HD4.out.1.bel (Nat.le_refl _)
            rw [htn] at p4
            obtain ⟨gD', e, hgDl5, -, -, hce, hfz, -⟩ := HD4.out.1.put HD4.out.2.1
            cases e
            have q4 := hce 4 (.int .i64 d1.tof) rfl
            have g4 := hfz (i * 12 + 4)
            have hsz := HD4.out.1.bel.size
            have hb1w : b1 < W4.heap.size := by omega
            have hb4w : b4 < W4.heap.size := by omega
            have i3 : (tn : Int) < (b.ks.length : Int) := by omega
            have HT2 := Lib.hid (And.intro htn hr2)
            clear h5 hdin htn hr2 hce hfz hsz
            go_upto_region 14 with (fail)
            refine wp_region_quiet_tail (C := fun w' => ∃ n, w' = W4.drewN n) 12 (by kernel_rfl) (by kernel_rfl) ⟨1, rfl⟩ ?_
            simp only [List.take_succ_cons, List.take_zero, List.drop_succ_cons, List.drop_zero]
            repeat (quiet_step (fail))
            refine wpQuiet_nil ?_
            intro _ hw'
            obtain ⟨nq4, hw''⟩ := hw'
            subst hw''
            go_wp2_with fail
            go_roundg (gk - 1)
            case measure => have := HI.out.1; omega
            case rel =>
              have hDl := HD4.out.2.2.2
              obtain ⟨gD', e, -, -, -, -, -, hput⟩ := (HD4.out.1.drewN nq4).put HD4.out.2.1
              cases e
              have hdr : renD (rOf L b.ks.length) d = ⟨d.kind, (r : Int), d.owner, d.other, (r2 : Int), d.many, d.err, d.s⟩ := by
                unfold renD
                rw [if_pos H55.out, HI.out.2.2.2.2.2.2.1, HT2.out.1, Int.toNat_natCast, Int.toNat_natCast, rOf_at hfk HI.out.2.2.2.2.2.2.2.1, rOf_at htk HT2.out.2]
              have h := hput 4 (.int .i64 (r2 : Int)) ⟨d.kind, (r : Int), d.owner, d.other, (r2 : Int), d.many, d.err, d.s⟩ (by decide) (by rw [HD4.out.2.2.1]; simp [eDe])
              rw [List.set_set, ← hdr] at h
              exact ⟨i + 1, _, by have := HI.out.1; omega, by go_num, HI.out.2.1.next hDl HI.out.2.2.2.1, h⟩
          · have e5 : (d.kind == 5) = false := by simp [h5]
            have H55 := Lib.hid h5
            clear h5
            go_wp2_with fail
            go_roundg (gk - 1)
            case measure => have := HI.out.1; omega
            case rel =>
              have hdr : renD (rOf L b.ks.length) d = d1 := by
                rw [HD4.out.2.2.1]
                unfold renD
                rw [if_neg H55.out, HI.out.2.2.2.2.2.2.1, Int.toNat_natCast, rOf_at hfk HI.out.2.2.2.2.2.2.2.1]
              have h := HD4.out.1
              rw [← hdr] at h
              exact ⟨i + 1, _, by have := HI.out.1; omega, by go_num, HI.out.2.1.next HD4.out.2.2.2 HI.out.2.2.2.1, h⟩
        · obtain rfl : i = b.ds.length := by omega
          have hfin := hI.fin hD.dl
          subst hfin
          have hrb : RenB (rOf L b.ks.length) (sOf L b.ks.length) b ⟨b.t, A1, a1, b.l, Ak, ck, KS, Ah, ch, hsOf L b.ks.length b.hs, Ad, cd, b.ds.map (renD (rOf L b.ks.length))⟩ :=
            ⟨swp_of H3.out.2.2.2.1 hf3, HW.out.2.2.2.1, rfl, rfl, HK.out.1, by simp [hsOf, H5.out.2.1], HK.out.2.1, fun f hf => hsOf_at H3.out.2.2.2.1 hf3 H5.out.2.1 hf, rfl⟩
          have hOX : HbO wr w3.heap.size ⟨b.t, A1, a1, b.l, Ak, ck, KS, Ah, ch, hsOf L b.ks.length b.hs, Ad, cd, b.ds.map (renD (rOf L b.ks.length))⟩ := by
            refine ⟨hD.m, ?_, ?_, ?_⟩
            · have h := hD.kk
              rw [← HK.out.1] at h
              exact h
            · have h := hD.hh
              rw [show b.hs.length = (hsOf L b.ks.length b.hs).length by simp [hsOf, H5.out.2.1]] at h
              exact h
            · have h := hD.d
              rw [show b.ds.length = (b.ds.map (renD (rOf L b.ks.length))).length by simp] at h
              exact h
          have hbx := hD.bx
          rw [show b.ks.length = KS.length from HK.out.1.symm, show b.hs.length = (hsOf L b.ks.length b.hs).length by simp [hsOf, H5.out.2.1], show b.ds.length = (b.ds.map (renD (rOf L b.ks.length))).length by simp] at hbx
          obtain ⟨X, hX⟩ : ∃ X : Hb, X = ⟨b.t, A1, a1, b.l, Ak, ck, KS, Ah, ch, hsOf L b.ks.length b.hs, Ad, cd, b.ds.map (renD (rOf L b.ks.length))⟩ := ⟨_, rfl⟩
          rw [← hX] at hrb hOX
          have hbX : wr.heap[XB]? = some (boxO X.t X.vm X.vk X.vh X.vd) := by rw [hX]; exact hbx
          have hi0 := hDL.out.below hD.bel (Nat.le_refl _)
          have hbB0 := bheap H3.out.2.1 hD.bel (Nat.le_refl _)
          have hBw := H3.out.2.2.2.2.trans (hD.bel.mono H3.out.2.2.2.2.size)
          have hri0 := H5.out.1.below hD.bel (Nat.le_refl _)
          have HZ := Lib.hid (And.intro hi0 (And.intro hOX.inn (And.intro hbB0 (And.intro hbX (And.intro hBw (And.intro hri0 hrb))))))
          obtain ⟨wr, hwr⟩ : ∃ W, W = wr := ⟨_, rfl⟩
          rw [← hwr] at HZ x0 x1 x2 x3 x4 hlx ⊢
          clear hwr hI hi hD hli hi0 hbB0 hBw hri0 hrb hOX hbX hbx hX
          go_upto_region 15 with (fail)
          clear x0 x1 x2 x3 x4 hlx
          obtain ⟨c0, c1, c2, c3, c4⟩ := blk5 HZ.out.2.2.1
          have hlb0 := heap_lt HZ.out.2.2.1
          have htA := Has_any b wr HZ.out.1
          unfold Hb.v at htA
          go_upto_region 16 with (go_at_call 32; refine htA.mono ?_; rintro e vA ⟨⟨rA, rfl, oA⟩, sA⟩)
          have SA := Lib.hid sA
          have bXA := bheap HZ.out.2.2.2.1 sA (Nat.le_refl _)
          have htB := Has_any X vA (HZ.out.2.1.below sA (Nat.le_refl _))
          unfold Hb.v at htB
          clear sA htA c0 c1 c2 c3 c4 hlb0
          obtain ⟨c0, c1, c2, c3, c4⟩ := blk5 bXA
          have hlb0 := heap_lt bXA
          clear bXA
          go_upto_region 17 with (go_at_call 32; refine htB.mono ?_; rintro e vB ⟨⟨rB, rfl, oB⟩, sB⟩; rw [HZ.out.2.2.2.2.2.2.ask])
          have SB := Lib.hid (SA.out.trans (sB.mono SA.out.size))
          have bXA := bheap HZ.out.2.2.1 SB.out (Nat.le_refl _)
          have htC := Owns_any b vB (HZ.out.1.below SB.out (Nat.le_refl _))
          unfold Hb.v at htC
          have OA := Lib.hid (oA.below sB (Nat.le_refl _))
          clear oA sB htB c0 c1 c2 c3 c4 hlb0
          obtain ⟨c0, c1, c2, c3, c4⟩ := blk5 bXA
          have hlb0 := heap_lt bXA
          clear bXA
          go_upto_region 18 with (go_at_call 40; refine htC.mono ?_; rintro e vC ⟨⟨rC, rfl, oC⟩, sC⟩)
          have SC := Lib.hid (SB.out.trans (sC.mono SB.out.size))
          have bXA := bheap HZ.out.2.2.2.1 SC.out (Nat.le_refl _)
          have htD := Owns_any X vC (HZ.out.2.1.below SC.out (Nat.le_refl _))
          unfold Hb.v at htD
          have OB := Lib.hid (And.intro (OA.out.below sC (Nat.le_refl _)) (oB.below sC (Nat.le_refl _)))
          clear oB sC htC c0 c1 c2 c3 c4 hlb0
          obtain ⟨c0, c1, c2, c3, c4⟩ := blk5 bXA
          have hlb0 := heap_lt bXA
          clear bXA
          go_upto_region 19 with (go_at_call 40; refine htD.mono ?_; rintro e vD ⟨⟨rD, rfl, oD⟩, sD⟩; rw [HZ.out.2.2.2.2.2.2.ask])
          have SD := Lib.hid (SC.out.trans (sD.mono SC.out.size))
          have bXA := bheap HZ.out.2.2.1 SD.out (Nat.le_refl _)
          have htE := Total_any b vD (HZ.out.1.below SD.out (Nat.le_refl _))
          unfold Hb.v at htE
          have OC := Lib.hid (And.intro (OB.out.1.below sD (Nat.le_refl _)) (And.intro (OB.out.2.below sD (Nat.le_refl _)) (oC.below sD (Nat.le_refl _))))
          clear oC sD htD c0 c1 c2 c3 c4 hlb0
          obtain ⟨c0, c1, c2, c3, c4⟩ := blk5 bXA
          have hlb0 := heap_lt bXA
          clear bXA
          go_upto_region 20 with (go_at_call 41; refine htE.mono ?_; rintro e vE ⟨⟨rE, rfl, oE⟩, sE⟩)
          have SE := Lib.hid (SD.out.trans (sE.mono SD.out.size))
          have bXA := bheap HZ.out.2.2.2.1 SE.out (Nat.le_refl _)
          have htF := Total_any X vE (HZ.out.2.1.below SE.out (Nat.le_refl _))
          unfold Hb.v at htF
          have OD := Lib.hid (And.intro (OC.out.1.below sE (Nat.le_refl _)) (And.intro (OC.out.2.1.below sE (Nat.le_refl _)) (And.intro (OC.out.2.2.below sE (Nat.le_refl _)) (oD.below sE (Nat.le_refl _)))))
          clear oD sE htE c0 c1 c2 c3 c4 hlb0
          obtain ⟨c0, c1, c2, c3, c4⟩ := blk5 bXA
          have hlb0 := heap_lt bXA
          clear bXA
          go_upto_region 21 with (go_at_call 41; refine htF.mono ?_; rintro e vF ⟨⟨rF, rfl, oF⟩, sF⟩; rw [HZ.out.2.2.2.2.2.2.ask])
          have SF := Lib.hid (SE.out.trans (sF.mono SE.out.size))
          have OE := Lib.hid (And.intro (OD.out.1.below sF (Nat.le_refl _)) (And.intro (OD.out.2.1.below sF (Nat.le_refl _)) (And.intro (OD.out.2.2.1.below sF (Nat.le_refl _)) (And.intro (OD.out.2.2.2.below sF (Nat.le_refl _)) (And.intro (oE.below sF (Nat.le_refl _)) oF)))))
          have hBF := HZ.out.2.2.2.2.1.trans (SF.out.mono HZ.out.2.2.2.2.1.size)
          have HBF := Lib.hid hBF
          clear oE oF sF htF c0 c1 c2 c3 c4 hlb0 hBF
          rcases askE_two HW.out.2.2.2.1 with ⟨ha, hne⟩ | ⟨ha, hno⟩
          · rw [ha]
            have hrb := HZ.out.2.2.2.2.2.2
            have hXa : askE X = 0 := by rw [hrb.ask]; exact ha
            have hXc := hrb.chk
            obtain ⟨hTl, hTr⟩ := has_hi HW.out.2.2.2.1 ha
            obtain ⟨hUl, hUr⟩ := has_hi hXc hXa
            rw [hrb.kl] at hUl
            rw [hrb.l] at hUr
            have hCl := ownsR_len ha
            have hDl : (ownsR X).length = b.l.length := by rw [hrb.owns]; exact hCl
            have hEl : (totalR b).length = b.ks.length := by unfold totalR; rw [if_pos ha]; simp [totalL]
            have hFl : (totalR X).length = b.ks.length := by unfold totalR; rw [if_pos hXa]; simp [totalL, hrb.kl]
            obtain ⟨P1, n1, rfl, g1, g1c, g1m⟩ := OE.out.1.form lenRn
            obtain ⟨P2, n2, rfl, g2, g2c, g2m⟩ := OE.out.2.1.form lenRn
            obtain ⟨P3, n3, rfl, g3, g3c, g3m⟩ := OE.out.2.2.1.form lenRn
            obtain ⟨P4, n4, rfl, g4, g4c, g4m⟩ := OE.out.2.2.2.1.form lenRn
            obtain ⟨P5, n5, rfl, g5, g5c, g5m⟩ := OE.out.2.2.2.2.1.form lenRn
            obtain ⟨P6, n6, rfl, g6, g6c, g6m⟩ := OE.out.2.2.2.2.2.form lenRn
            rw [hrb.owns] at g4
            rw [hTl] at g1 g1c ⊢
            rw [hUl] at g2 g2c ⊢
            rw [hCl] at g3 g3c g4 ⊢
            rw [hDl] at g4c ⊢
            rw [hEl] at g5 g5c ⊢
            rw [hFl] at g6 g6c ⊢
            have HA0 := Lib.hid ha
            have hsr := sameRanges_any P3 b.l.length n3 (ownsR b) P4 b.l.length n4 (ownsR b) vF g3 g4 (by unfold maxLen; have := HW.out.2.2.2.2.n5; omega) (by unfold maxLen; have := HW.out.2.2.2.2.n5; omega)
            rw [show sameL (ownsR b) (ownsR b) = true from decide_eq_true rfl] at hsr
            have hn0 : (b.ks.length != b.ks.length) = false := by simp
            have hn0' : ((b.ks.length : Int) != (b.ks.length : Int)) = false := by simp
            have HG := Lib.hid (And.intro g1 (And.intro g2 (And.intro g5 (And.intro g6 (And.intro hTr (And.intro hUr hrb))))))
            clear hXa hXc hTl hTr hUl hUr hCl hDl hEl hFl g1 g2 g3 g4 g5 g6 hrb ha hne
            go_upto_region 26 with (go_at_call 31; refine hsr.mono ?_; rintro e vG ⟨rfl, sG⟩)
            have SG := Lib.hid sG
            clear sG hsr
            go_loopg [21] b.ks.length (fun g v21 wx => ∃ k : Nat, k + g = b.ks.length ∧ v21 = .int .i64 k ∧ Below vF.heap.size vF wx)
            case atStart => exact ⟨0, by omega, rfl, SG.out⟩
            case round =>
              obtain ⟨k, hk, rfl, hbr⟩ := hrel
              by_cases hlt : k < b.ks.length
              · obtain ⟨r, hr, hrn⟩ := row_at H3.out.2.2.2.1 hlt
                have hbwr := SF.out.trans (hbr.mono SF.out.size)
                obtain ⟨b1', o1', x1', e1', hb1, hx1, y1⟩ := Ints.get (HZ.out.2.2.2.2.2.1.below hbwr (Nat.le_refl _)) hlt
                cases e1'
                rw [hr] at hx1
                cases hx1
                obtain ⟨b5, o5, B5, row5, c5, rfl, hb5, hrow5, hc5, hri5, hrc5, hrm5⟩ := (HG.out.1.below hbr (Nat.le_refl _)).get hlt
                obtain ⟨b6, o6, B6, row6, c6, rfl, hb6, hrow6, hc6, hri6, hrc6, hrm6⟩ := (HG.out.2.1.below hbr (Nat.le_refl _)).get hrn
                have hee := HG.out.2.2.2.2.2.2.has hlt
                rw [rOf_at hlt hr, hrow6, hrow5] at hee
                cases hee
                obtain ⟨b7, o7, s5, rfl, hb7, hs5, u0, u1⟩ := Rns.get (HG.out.2.2.1.below hbr (Nat.le_refl _)) hlt
                obtain ⟨b8, o8, s6, rfl, hb8, hs6, t0, t1⟩ := Rns.get (HG.out.2.2.2.1.below hbr (Nat.le_refl _)) hrn
                have hes := HG.out.2.2.2.2.2.2.total hlt
                rw [rOf_at hlt hr, hs6, hs5] at hes
                cases hes
                have hrl : row5.length ≤ maxLen := by have := (HG.out.2.2.2.2.1 row5 (List.mem_of_getElem? hrow5)).1; unfold maxLen; have := HW.out.2.2.2.2.n5; omega
                have hcv : ∀ d os, Calls Try.prog 31 #[.slice B5 row5.length c5, .slice B6 row5.length c6] (Sort.grow (redrawn wr d) os) (fun e w'' => e = .returned (.bool true) ∧ ∃ p : Regrown, w'' = Sort.grow (redrawn wr p.d) p.os) := fun d os => by
                  have h := sameRanges_any B5 row5.length c5 row5 B6 row5.length c6 row5 (Sort.grow (redrawn wr d) os) (hri5.below (below_regrown wr d os) (Nat.le_refl _)) (hri6.below (below_regrown wr d os) (Nat.le_refl _)) hrl hrl
                  rw [show sameL row5 row5 = true from decide_eq_true rfl] at h
                  exact Calls.regrown_of h
                have HCV := Lib.hid hcv
                have i1 : (k : Int) < (b.ks.length : Int) := by omega
                have i2 : (r : Int) < (b.ks.length : Int) := by omega
                have HI := Lib.hid (And.intro hk hbr)
                clear hk hbr hr hrow5 hrow6 hri5 hri6 hs5 hs6 hcv hrl hbwr
                go_upto_region 28 with (fail)
                have k0 := cell_regrown y1
                have k1 := cell_regrown hc5
                have k2 := cell_regrown hc6
                have k3 := cell_regrown u0
                have k4 := cell_regrown u1
                have k5 := cell_regrown t0
                have k6 := cell_regrown t1
                refine wp_region_quiet_below (by kernel_rfl) (by kernel_rfl) ?_
                repeat (quiet_step (exact HCV.out _ _))
                refine wpQuiet_nil ?_
                intro _ hw'
                obtain ⟨⟨dq, osq⟩, hw''⟩ := hw'
                subst hw''
                obtain ⟨wz, hW1⟩ : ∃ wz, wz = Sort.grow (redrawn wr dq) osq := ⟨_, rfl⟩
                have hb3 : Below wr.heap.size wr wz := by rw [hW1]; exact below_regrown wr dq osq
                rw [← hW1]
                have HB3 := Lib.hid (HI.out.2.trans (hb3.mono HI.out.2.size))
                clear hW1 k0 k1 k2 k3 k4 k5 k6 y1 hc5 hc6 u0 u1 t0 t1 hb3
                go_wp2_with fail
                go_roundg (gk - 1)
                case measure => have := HI.out.1; omega
                case rel => exact ⟨k + 1, by have := HI.out.1; omega, by go_num, HB3.out⟩
              · obtain rfl : k = b.ks.length := by omega
                have hbwr := SF.out.trans (hbr.mono SF.out.size)
                have hBwr := HBF.out.trans (hbr.mono HBF.out.size)
                have hgA := Gone_any b 0 wr (HZ.out.1.below hbwr (Nat.le_refl _))
                unfold GoneR Hb.v at hgA
                rw [goneE_z HW.out.2.2.2.1, HA0.out] at hgA
                obtain ⟨gr, hgr⟩ : ∃ gr, gr = goneR b 0 := ⟨_, rfl⟩
                rw [← hgr] at hgA
                obtain ⟨c0, c1, c2, c3, c4⟩ := blk5 (bheap HZ.out.2.2.1 hbwr (Nat.le_refl _))
                have hlb0 := heap_lt (bheap HZ.out.2.2.1 hbwr (Nat.le_refl _))
                have HGR := Lib.hid hgr
                have HBW := Lib.hid (And.intro hbwr hBwr)
                clear hgr hbwr hBwr hbr hk hlt
                go_upto_region 31 with (go_at_call 42; refine hgA.mono ?_; rintro e vH ⟨rfl, sH⟩)
                obtain ⟨R1, hR1⟩ : ∃ R, R = vH.heap.size := ⟨_, rfl⟩
                obtain ⟨vI, hvI⟩ : ∃ v, v = vH.alloc (Obj.cells #[Value.int .i64 gr.lo, .int .i64 gr.hi] 64) := ⟨_, rfl⟩
                rw [← hvI, ← hR1]
                have r1 : vI.heap[R1]? = some (Obj.cells #[.int .i64 gr.lo, .int .i64 gr.hi] 64 (0, 0)) := by rw [hvI, hR1]; exact alloc_at rfl
                have sI : Below wr.heap.size wr vI := by rw [hvI]; exact bal sH (Nat.le_refl _) _
                have bXI := bheap (bheap HZ.out.2.2.2.1 HBW.out.1 (Nat.le_refl _)) sI (Nat.le_refl _)
                have hgB := Gone_any X 0 vI ((HZ.out.2.1.below HBW.out.1 (Nat.le_refl _)).below sI (Nat.le_refl _))
                unfold GoneR Hb.v at hgB
                rw [HZ.out.2.2.2.2.2.2.gone.1, HZ.out.2.2.2.2.2.2.gone.2, goneE_z HW.out.2.2.2.1, HA0.out, ← HGR.out] at hgB
                have HI := Lib.hid (And.intro r1 sI)
                clear hvI hR1 r1 sI sH hgA c0 c1 c2 c3 c4 hlb0
                obtain ⟨c0, c1, c2, c3, c4⟩ := blk5 bXI
                have hlb0 := heap_lt bXI
                clear bXI
                go_upto_region 32 with (go_at_call 42; refine hgB.mono ?_; rintro e vJ ⟨rfl, sJ⟩)
                obtain ⟨R2, hR2⟩ : ∃ R, R = vJ.heap.size := ⟨_, rfl⟩
                obtain ⟨vK, hvK⟩ : ∃ v, v = vJ.alloc (Obj.cells #[Value.int .i64 gr.lo, .int .i64 gr.hi] 64) := ⟨_, rfl⟩
                rw [← hvK, ← hR2]
                have r2 : vK.heap[R2]? = some (Obj.cells #[.int .i64 gr.lo, .int .i64 gr.hi] 64 (0, 0)) := by rw [hvK, hR2]; exact alloc_at rfl
                have sK : Below vI.heap.size vI vK := by rw [hvK]; exact bal sJ (Nat.le_refl _) _
                have r1 := bheap HI.out.1 sK (Nat.le_refl _)
                obtain ⟨u0, u1⟩ := blk2 r1
                obtain ⟨t0, t1⟩ := blk2 r2
                have hl1 := heap_lt r1
                have hl2 := heap_lt r2
                have HK2 := Lib.hid (HBW.out.2.trans ((HI.out.2.trans (sK.mono HI.out.2.size)).mono HBW.out.2.size))
                clear hvK hR2 r1 r2 sK sJ hgB c0 c1 c2 c3 c4 hlb0
                go_wp2_with (go_at_call 23; refine (herding_any _).mono ?_; rintro e w9 ⟨rfl, hb9⟩)
                go_ret
                exact ⟨rfl, HK2.out.trans (hb9.mono HK2.out.size)⟩
          · rw [ha]
            clear hno
            go_wp2_with (go_at_call 23; refine (herding_any _).mono ?_; rintro e w9 ⟨rfl, hb9⟩)
            go_ret
            exact ⟨rfl, HBF.out.trans (hb9.mono HBF.out.size)⟩
end Go.Proofs.Ytmennjmjakdkcaa
namespace Go.Proofs.Ytmennjmjakdkcaa
open Go.RowKit
set_option linter.unusedVariables false

theorem ints_of {w : World} {a : Option Addr} {len cap : Nat} {zs : List Int}
    (h : (a = none ∧ len = 0 ∧ cap = 0 ∧ zs = []) ∨ ∃ x, a = some x ∧ len ≤ cap ∧ cap ≤ maxLen ∧ zs.length = cap ∧ (∀ i, i < zs.length → w.cell? (x.add i) = some (.int .i64 (zs.getD i 0))) ∧ ∀ n ∈ zs, (Lit.int .i64 n).wf = true) :
    ∃ nums, Ints w a len nums ∧ len ≤ cap ∧ cap ≤ 9223372036854775807 ∧ (a = none → cap = 0) := by
  rcases h with ⟨rfl, rfl, rfl, rfl⟩ | ⟨x, rfl, h1, h2, h3, h4, h5⟩
  · exact ⟨[], Sl.nil_, Nat.le_refl _, by omega, fun _ => rfl⟩
  · have h2' : cap ≤ 9223372036854775807 := h2
    refine ⟨zs.take len, ⟨by rw [List.length_take]; omega, fun hn => ?_⟩, h1, h2', fun h => by cases h⟩
    obtain ⟨b, off, rfl, hc⟩ := ints_at h4 (by omega)
    refine ⟨b, off, rfl, fun i y hy j u hu => ?_⟩
    rw [List.getElem?_take] at hy
    split at hy
    · have hlt := (List.getElem?_eq_some_iff.1 hy).1
      cases j with
      | zero =>
        simp only [eInt, List.getElem?_cons_zero, Option.some.injEq] at hu
        subst hu
        have := hc i (by omega)
        rw [Nat.mul_one, Nat.add_zero]
        rw [this, List.getD_eq_getElem?_getD, hy]
        rfl
      | succ j => simp [eInt] at hu
    · cases hy
end Go.Proofs.Ytmennjmjakdkcaa
