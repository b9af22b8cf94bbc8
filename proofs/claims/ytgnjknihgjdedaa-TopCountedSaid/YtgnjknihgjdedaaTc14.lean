/- TopCounted 14: OwnH, TcA. -/
import Derived.Test.YtgnjknihgjdedaaTc13
import Derived.Deep.OwnRows
import Derived.Test.YtgnjknihgjdedaaTc10
import Derived.Lib.SliceRun
namespace Go.Proofs.Ytgnjknihgjdedaa
open Go.RowKit
set_option linter.unusedVariables false
set_option linter.unusedSimpArgs false

def TBw (j : Nat) (w w' : World) : Prop := Below w.heap.size w w'
theorem TBw.rf {j : Nat} (w : World) : TBw j w w := Below.refl _ _
def PBw (ws : World) (k : Nat) (w : World) : Prop := Below ws.heap.size ws w
theorem PBw.st {ws : World} (k i : Nat) (w w' : World) (hT : TBw i w w') (hp : PBw ws k w) : PBw ws k w' := Below.trans hp (Below.mono hT (Below.size hp))
def FOI (base : Nat) (l : List Int) : VF := fun v w => OwnI w base v l
def FOD (base : Nat) (l : List De) : VF := fun v w => OwnD w base v l
theorem FOI.st {base : Nat} {l : List Int} (i : Nat) (v : Value) (w w' : World) (hT : TBw i w w') (h : FOI base l v w) : FOI base l v w' := Own.below h hT (Nat.le_refl _)
theorem FOD.st {base : Nat} {l : List De} (i : Nat) (v : Value) (w w' : World) (hT : TBw i w w') (h : FOD base l v w) : FOD base l v w' := Own.below h hT (Nat.le_refl _)
def RwM (R n : Nat) (ls : List (List Int)) (k : Nat) (w : World) : Prop :=
  ∃ mv : List Value, mv.length = n ∧ w.heap[R]? = some (.cells mv.toArray 22 (0, 0)) ∧ ∀ i v, i < k → mv[i]? = some v → ∃ l, ls[i]? = some l ∧ OwnI w (R + 1) v l
theorem RwM.start {R n : Nat} {ls : List (List Int)} {w w' : World} (hR : R = w.heap.size) (h : w' = w.alloc (.cells (madeCells #[.slice none 0 0] n) 22)) : RwM R n ls 0 w' := by
  subst hR h
  refine ⟨List.replicate n (.slice none 0 0), by simp, ?_, fun i v hi => by omega⟩
  rw [show (List.replicate n (Value.slice none 0 0)).toArray = madeCells #[.slice none 0 0] n by
    apply Array.ext
    · simp [size_madeCells]
    · intro i h1 h2
      simp [madeCells, Nat.mod_one]]
  exact alloc_at rfl
theorem RwM.next {R n k : Nat} {ls : List (List Int)} {w w' : World} {v : Value} {l : List Int} (h : RwM R n ls k w) (hb : Below w.heap.size w w') (hl : ls[k]? = some l) (hv : OwnI w' (R + 1) v l) (hk : k < n) : RwM R n ls (k + 1) (w'.setCell ⟨R, k, none⟩ v) := by
  obtain ⟨mv, h1, h2, h3⟩ := h
  have hup : ∀ j, R + 1 ≤ j → (w'.setCell ⟨R, k, none⟩ v).heap[j]? = w'.heap[j]? := fun j hj => Below.heap_setCell w' ⟨R, k, none⟩ _ j (by dsimp; omega)
  refine ⟨mv.set k v, by simpa using h1, ?_, fun i u hi hu => ?_⟩
  · rw [set_blk (bheap h2 hb (Nat.le_refl _)), List.setIfInBounds_toArray]
  · rcases Nat.lt_or_ge i k with hik | hik
    · rw [List.getElem?_set_ne (by omega)] at hu
      obtain ⟨l', hl', ho⟩ := h3 i u hik hu
      exact ⟨l', hl', (ho.below hb (Nat.le_refl _)).upon hup⟩
    · obtain rfl : i = k := by omega
      rw [List.getElem?_set_self (by omega)] at hu
      cases hu
      exact ⟨l, hl, hv.upon hup⟩
theorem RwM.upon {R n k : Nat} {ls : List (List Int)} {w w' : World} (h : RwM R n ls k w) (hup : ∀ j, R ≤ j → w'.heap[j]? = w.heap[j]?) : RwM R n ls k w' := by
  obtain ⟨mv, h1, h2, h3⟩ := h
  refine ⟨mv, h1, (hup R (Nat.le_refl _)).trans h2, fun i v hi hv => ?_⟩
  obtain ⟨l, hl, ho⟩ := h3 i v hi hv
  exact ⟨l, hl, ho.upon fun j hj => hup j (by omega)⟩
theorem RwM.fin {R n base : Nat} {ls : List (List Int)} {w : World} (h : RwM R n ls n w) (hn : ls.length = n) (hb : base ≤ R) (hm : n ≤ maxLen) : OwnG w base (.slice (some ⟨R, 0, none⟩) n n) ls := by
  obtain ⟨mv, h1, h2, h3⟩ := h
  refine ⟨mv, ⟨by rw [lenFlatVal, Nat.mul_one], .inr ⟨R, n, mv.toArray, by rw [h1], hb, h2, by omega, hm, by simp [h1], ?_⟩⟩, by rw [h1, hn], fun i v hv => ?_⟩
  · rw [Nat.mul_one, List.take_of_length_le (by simp)]
    have : ∀ x : List Value, x.flatMap eVal = x := fun x => by
      induction x with
      | nil => rfl
      | cons a r ih => rw [List.flatMap_cons, ih]; rfl
    rw [this]
  · obtain ⟨l, hl, ho⟩ := h3 i v (by have := (List.getElem?_eq_some_iff.1 hv).1; omega) hv
    exact ⟨l, hl, ho.mono (by omega)⟩
def OwnedR (b : Hb) (w : World) (e : Ending) (w' : World) : Prop :=
  (∃ A c Ak ck Ah ch Ad cd, e = .returned (Hb.v ⟨b.t, A, c, b.l, Ak, ck, b.ks, Ah, ch, b.hs, Ad, cd, b.ds⟩) ∧ HbO w' w.heap.size ⟨b.t, A, c, b.l, Ak, ck, b.ks, Ah, ch, b.hs, Ad, cd, b.ds⟩) ∧ Below w.heap.size w w'
set_option maxRecDepth 100000 in
set_option maxHeartbeats 1000000 in
theorem own_any (b : Hb) (w : World) (hin : HbIn w b) (hl : b.l.length ≤ 1000) (hk : b.ks.length ≤ 1000) (hh : b.hs.length ≤ 1000) (hd : b.ds.length ≤ 1000) (hr : ∀ r ∈ b.hs, r.length ≤ 1000) : Calls Try.prog 56 #[b.v] w (OwnedR b w) := by
  obtain ⟨V, hV⟩ : ∃ V, V = (w.alloc b.obj).alloc (Obj.cells #[.int .i64 0, .slice none 0 0, .slice none 0 0, .slice none 0 0, .slice none 0 0] 64) := ⟨_, rfl⟩
  obtain ⟨g, hg⟩ : ∃ g, g = w.heap.size := ⟨_, rfl⟩
  have b0 : V.heap[g]? = some b.obj := by rw [hV, hg]; exact hblk_alloc (alloc_at rfl) _
  have b1 : V.heap[g + 1]? = some (boxO 0 (.slice none 0 0) (.slice none 0 0) (.slice none 0 0) (.slice none 0 0)) := by rw [hV, hg]; exact alloc_at (by simp)
  have hBV : Below w.heap.size w V := by rw [hV]; exact (bal0 w _).trans ((bal0 _ _).mono (by simp))
  have hiV := hin.below hBV (Nat.le_refl _)
  have hzV : V.heap.size = g + 2 := by rw [hV, hg]; simp
  obtain ⟨c0, c1, c2, c3, c4⟩ := blk5c b0
  have hmc := cloneM_any b.A b.l.length b.c b.l V hiV.m (by omega)
  have HV := Lib.hid (And.intro hBV (And.intro b0 (And.intro b1 (And.intro hiV (And.intro hzV hg)))))
  have HIN := Lib.hid hin
  unfold Hb.v
  go_enter Try.func56, Try.ntmps56
  go_upto_region 1 with (fail)
  rw [← hV, ← hg]
  have hgV := heap_lt b0
  clear hV hg hin hBV hiV b0 b1 hzV
  go_wp2_with fail
  with_reducible refine hmc.mono ?_
  rintro e w2 ⟨v1, rfl, ho1, hb2⟩
  obtain ⟨A1, a1, rfl, -, -, -⟩ := ho1.form lenMk
  have x0 := bheap HV.out.2.1 hb2 (Nat.le_refl _)
  have x1 := bheap HV.out.2.2.1 hb2 (Nat.le_refl _)
  clear c0 c1 c2 c3 c4 hmc
  obtain ⟨c0, c1, c2, c3, c4⟩ := blk5c x0
  have f1 := frz x0 1
  have hg2 := heap_lt x0
  go_upto_region 2 with (fail)
  obtain ⟨W3, hW3⟩ : ∃ W3, W3 = w2.setCell ⟨g, 1, none⟩ (.slice A1 b.l.length a1) := ⟨_, rfl⟩
  rw [← hW3]
  have hfar : ∀ j, j ≠ g → W3.heap[j]? = w2.heap[j]? := fun j hj => by rw [hW3]; exact Below.heap_setCell _ ⟨g, 1, none⟩ _ j hj
  have x3 : W3.heap[g]? = some (boxO b.t (.slice A1 b.l.length a1) b.vk b.vh b.vd) := by rw [hW3]; exact (set_blk x0).trans (by simp [boxO, Hb.vk, Hb.vh, Hb.vd])
  have y3 := (hfar (g + 1) (by omega)).trans x1
  have hB2 := HV.out.1.trans (hb2.mono HV.out.1.size)
  have hB3 : Below w.heap.size w W3 := by rw [hW3]; exact Below.setCell hB2 (p := ⟨g, 1, none⟩) (by rw [← HV.out.2.2.2.2.2]; exact Nat.le_refl _) _
  have hi3 := HIN.out.below hB3 (Nat.le_refl _)
  have hs2 := hb2.size
  have hz3 : g + 2 ≤ W3.heap.size := (by have h1 : W3.heap.size = w2.heap.size := (by rw [hW3]; simp [World.setCell]); have := HV.out.2.2.2.2.1; omega)
  have ho3 : OwnM W3 (g + 2) (.slice A1 b.l.length a1) b.l := by
    rw [HV.out.2.2.2.2.1] at ho1
    exact ho1.upon fun j hj => hfar j (by omega)
  have H3 := Lib.hid (And.intro x3 (And.intro y3 (And.intro hB3 (And.intro hi3 (And.intro hz3 ho3)))))
  clear hW3 hfar x3 y3 hB2 hB3 hi3 hs2 ho1 hb2 x0 x1 c0 c1 c2 c3 c4 f1 hg2
  have hbd : Below W3.heap.size W3 W3.drew := bdraw (Below.refl _ _)
  have HC := Lib.hid (fun (w' : World) (hp : Below W3.drew.heap.size W3.drew w') => And.intro (blk5c (bheap (bheap H3.out.1 hbd (Nat.le_refl _)) hp (Nat.le_refl _))) (heap_lt (bheap (bheap H3.out.1 hbd (Nat.le_refl _)) hp (Nat.le_refl _))))
  have HI3 := Lib.hid (H3.out.2.2.2.1.below hbd (Nat.le_refl _))
  have hzd : g + 2 ≤ W3.drew.heap.size := hz3
  clear hbd hz3
  go_wp2_with fail
  refine wp_region_tag 7 0 0 [] [] 0 (TBw) (PBw W3.drew) [0, 0, 0, 0, 0, 0, 0] (by as_aux_lemma => kernel_rfl) (by as_aux_lemma => kernel_rfl) (by as_aux_lemma => kernel_rfl) (by as_aux_lemma => kernel_rfl) (by omega) (.inl rfl) rfl rfl (fun k i w1 w2 hc _ hT hp => PBw.st k i w1 w2 hT hp) (fun k => Below.refl _ _) ?_
  apply Exists.intro
  refine ⟨fun ys => ?_, fun ops K hK => ?_⟩
  · simp only [List.take_succ_cons, List.take_zero, dstsOf, List.filterMap_cons, List.filterMap_nil, putAll]
    go_simp
    rfl
  simp only [List.take_succ_cons, List.take_zero, List.drop_succ_cons, List.drop_zero] at hK ⊢
  repeat
    refine LexT.const TBw.rf ?_
    apply Exists.intro
    refine ⟨fun ys w' hp hpk hq hd => ?_, ?_⟩
    · try simp [DepsOf, depsGo, DF.holds, Region.binds, EqF] at hd
      try simp only [hd]
      obtain ⟨⟨c0, c1, c2, c3, c4⟩, hlg⟩ := HC.out w' hp
      intro Q2 hQ2
      go_wp2_with fail
      rfl
    try simp only [List.nil_append, List.cons_append]
  refine LexT.some (FOI (g + 2) b.ks) (fun i v w1 w2 hc _ hT h => FOI.st i v w1 w2 hT h) (fun ys w' hp hpk hq hd => ?_) ?_
  · try simp [DepsOf, depsGo, DF.holds, Region.binds, EqF] at hd
    try simp only [hd]
    have hpz := Below.size hp
    have hci := cloneI_any b.Ak b.ks.length b.ck b.ks w' (HI3.out.k.below hp (Nat.le_refl _)) (by omega)
    clear hp hpk
    intro Q2 hQ2
    go_wp2_with fail
    refine hci.mono ?_
    rintro e w4 ⟨v, rfl, ho, hb⟩
    have HX := Lib.hid (show TBw 0 w' w4 ∧ FOI (g + 2) b.ks v w4 from ⟨hb, ho.mono (by omega)⟩)
    clear ho hb hci
    go_wp2
    exact ⟨_, rfl, HX.out⟩
  try simp only [List.nil_append, List.cons_append]
  repeat
    refine LexT.const TBw.rf ?_
    apply Exists.intro
    refine ⟨fun ys w' hp hpk hq hd => ?_, ?_⟩
    · try simp [DepsOf, depsGo, DF.holds, Region.binds, EqF] at hd
      try simp only [hd]
      obtain ⟨⟨c0, c1, c2, c3, c4⟩, hlg⟩ := HC.out w' hp
      intro Q2 hQ2
      go_wp2_with fail
      rfl
    try simp only [List.nil_append, List.cons_append]
  refine LexT.some (FOD (g + 2) b.ds) (fun i v w1 w2 hc _ hT h => FOD.st i v w1 w2 hT h) (fun ys w' hp hpk hq hd => ?_) ?_
  · try simp [DepsOf, depsGo, DF.holds, Region.binds, EqF] at hd
    try simp only [hd]
    have hpz := Below.size hp
    have hci := cloneD_any b.Ad b.ds.length b.cd b.ds w' (HI3.out.d.below hp (Nat.le_refl _)) (by omega)
    clear hp hpk
    intro Q2 hQ2
    go_wp2_with fail
    refine hci.mono ?_
    rintro e w4 ⟨v, rfl, ho, hb⟩
    have HX := Lib.hid (show TBw 0 w' w4 ∧ FOD (g + 2) b.ds v w4 from ⟨hb, ho.mono (by omega)⟩)
    clear ho hb hci
    go_wp2
    exact ⟨_, rfl, HX.out⟩
  try simp only [List.nil_append, List.cons_append]
  repeat
    refine LexT.const TBw.rf ?_
    apply Exists.intro
    refine ⟨fun ys w' hp hpk hq hd => ?_, ?_⟩
    · try simp [DepsOf, depsGo, DF.holds, Region.binds, EqF] at hd
      try simp only [hd]
      obtain ⟨⟨c0, c1, c2, c3, c4⟩, hlg⟩ := HC.out w' hp
      intro Q2 hQ2
      go_wp2_with fail
      rfl
    try simp only [List.nil_append, List.cons_append]
  refine hK _ fun ys w' hp hF => ?_
  simp [AllF, DF.holds] at hF
  obtain ⟨-, -, f14, -, -, f17, h18⟩ := hF
  replace hp : Below W3.drew.heap.size W3.drew w' := hp
  replace f14 : OwnI w' (g + 2) (ys 14) b.ks := f14
  replace f17 : OwnD w' (g + 2) (ys 17) b.ds := f17
  obtain ⟨A4, a4, e4, -, -, -⟩ := f14.form lenInt
  obtain ⟨A5, a5, e5, -, -, -⟩ := f17.form lenDe
  rw [e4] at f14
  rw [e5] at f17
  simp only [e4, e5, h18]
  have hbd : Below W3.heap.size W3 W3.drew := bdraw (Below.refl _ _)
  have hp3 := hbd.trans (hp.mono hbd.size)
  have x4 := bheap H3.out.1 hp3 (Nat.le_refl _)
  have y4 := bheap H3.out.2.1 hp3 (Nat.le_refl _)
  have o4 := H3.out.2.2.2.2.2.below hp3 (Nat.le_refl _)
  have hz4 := hp3.size
  obtain ⟨c0, c1, c2, c3, c4⟩ := blk5 x4
  have q2 := frz x4 2
  have q4 := frz x4 4
  have hg4 := heap_lt x4
  clear hK e4 e5 h18 hbd hp
  go_upto_region 3 with (fail)
  obtain ⟨W5, hW5⟩ : ∃ W5, W5 = (w'.setCell ⟨g, 2, none⟩ (.slice A4 b.ks.length a4)).setCell ⟨g, 4, none⟩ (.slice A5 b.ds.length a5) := ⟨_, rfl⟩
  rw [← hW5]
  have hfar : ∀ j, j ≠ g → W5.heap[j]? = w'.heap[j]? := fun j hj => by rw [hW5]; exact (Below.heap_setCell _ ⟨g, 4, none⟩ _ j hj).trans (Below.heap_setCell _ ⟨g, 2, none⟩ _ j hj)
  have x5 : W5.heap[g]? = some (boxO b.t (.slice A1 b.l.length a1) (.slice A4 b.ks.length a4) b.vh (.slice A5 b.ds.length a5)) := by rw [hW5]; exact (set_blk (set_blk x4)).trans (by simp [boxO])
  have y5 := (hfar (g + 1) (by omega)).trans y4
  have hB4 := H3.out.2.2.1.trans (hp3.mono H3.out.2.2.1.size)
  have hB5 : Below w.heap.size w W5 := by
    have hgw := HV.out.2.2.2.2.2
    rw [hW5]
    exact Below.setCell (Below.setCell hB4 (p := ⟨g, 2, none⟩) (by dsimp; omega) _) (p := ⟨g, 4, none⟩) (by dsimp; omega) _
  have hs5 : W5.heap.size = w'.heap.size := by rw [hW5]; simp [World.setCell]
  have hz5 : g + 2 ≤ W5.heap.size := by have := H3.out.2.2.2.2.1; omega
  have hi5 := HIN.out.below hB5 (Nat.le_refl _)
  have H5 := Lib.hid (And.intro x5 (And.intro y5 (And.intro hB5 (And.intro (And.intro hi5 hz5) (And.intro (o4.upon fun j hj => hfar j (by omega)) (And.intro (f14.upon fun j hj => hfar j (by omega)) (f17.upon fun j hj => hfar j (by omega))))))))
  have hnh := hi5.h.len
  have hgr := hi5.h
  clear hW5 hfar x5 y5 hB4 hB5 hs5 hz5 hi5 o4 f14 f17 x4 y4 hz4 hp3 c0 c1 c2 c3 c4 q2 q4 hg4
  obtain ⟨c0, c1, c2, c3, c4⟩ := blk5 H5.out.1
  have hg5 := heap_lt H5.out.1
  unfold Hb.vh at c3
  obtain ⟨Ax, hAx⟩ : ∃ A, A = b.Ah := ⟨_, rfl⟩
  obtain ⟨nh, hn⟩ : ∃ n, n = b.hs.length := ⟨_, rfl⟩
  rw [← hAx, ← hn] at c3 hgr
  rw [← hn] at hh
  have hmk : ∀ W : World, (Instr.makeSlice 61 (.int .i64 (nh : Int)) (.int .i64 (nh : Int))).run Try.prog W = .ok (.slice (some ⟨W.heap.size, 0, none⟩) nh nh) (W.alloc (.cells (madeCells #[.slice none 0 0] nh) 22)) :=
    run_make_row' (P := Try.prog) 61 22 (.slice none 0 0) 24 Try.underlying61 (by kernel_rfl) rfl .i64 .i64 nh (by omega) (by omega)
  have HN := Lib.hid (And.intro hn (And.intro hAx hgr))
  clear hn hgr hnh hAx
  go_upto_region 4 with (fail)
  obtain ⟨R, hR⟩ : ∃ R, R = W5.heap.size := ⟨_, rfl⟩
  obtain ⟨W6, hW6⟩ : ∃ W6, W6 = W5.alloc (.cells (madeCells #[.slice none 0 0] nh) 22) := ⟨_, rfl⟩
  rw [← hW6, ← hR]
  have hb6 : Below W5.heap.size W5 W6 := by rw [hW6]; exact bal0 _ _
  have hR6 : RwM R nh b.hs 0 W6 := RwM.start hR hW6
  have hs6 : R < W6.heap.size := by rw [hW6, hR]; simp
  have hgR : g + 2 ≤ R := by have := H5.out.2.2.2.1.2; omega
  have H6 := Lib.hid (And.intro hb6 (And.intro hR6 hR))
  clear hW6 hb6 hR6 hR c0 c1 c2 c3 c4 hmk
  obtain ⟨c0, c1, c2, c3, c4⟩ := blk5 (bheap H5.out.1 H6.out.1 (Nat.le_refl _))
  have hg6 : g < W6.heap.size := by omega
  unfold Hb.vh at c3
  rw [← HN.out.2.1, ← HN.out.1] at c3
  go_wp2_with fail
  go_loopg [4, 5, 27] nh (fun g' v4 v5 v27 wr => ∃ k : Nat, k + g' = nh ∧ v27 = .int .i64 k ∧ RwM R nh b.hs k wr ∧ Below R W5 wr)
  case atStart => exact ⟨0, by omega, rfl, H6.out.2.1, by rw [H6.out.2.2]; exact H6.out.1⟩
  case round =>
    obtain ⟨k, hk, rfl, hM, hB⟩ := hrel
    have hgk := hk
    by_cases hlt : k < nh
    · obtain ⟨b1, o1, B1, row, cr, rfl, hb1, hrow, y0, hri, hrc, hrm⟩ := (HN.out.2.2.below hB (Nat.le_of_eq H6.out.2.2.symm)).get hlt
      have hrl := hr row (List.mem_of_getElem? hrow)
      obtain ⟨m, hm⟩ : ∃ m, m = row.length := ⟨_, rfl⟩
      rw [← hm] at y0 hri hrc hrl
      have hci := cloneI_any B1 m cr row wr hri (by omega)
      have k1 : (k : Int) < (nh : Int) := by omega
      have HM := Lib.hid (And.intro hM (And.intro hB (And.intro hrow hm)))
      obtain ⟨mv, hmv, hRb, -⟩ := hM
      have hRz := heap_lt hRb
      have HC' := Lib.hid hci
      have HRB := Lib.hid hRb
      have HK := Lib.hid hgk
      have hkm : k < mv.length := by omega
      clear hk hB hrow hm hci hri hrl hrc hrm hRb hgk
      go_wp2_with (go_at_call 94; refine HC'.out.mono ?_; rintro e w2 ⟨v2, rfl, ho2, hb2⟩; obtain ⟨A2, c2, rfl, _, _, _⟩ := ho2.form lenInt; have hR2 := bheap HRB.out hb2 (Nat.le_refl _); have yR : w2.cell? ⟨R, k, none⟩ = some mv[k] := (by unfold World.cell?; simp [hR2, hkm]); have fR := frz hR2 k; have hlR := heap_lt hR2; have H2 := Lib.hid (And.intro ho2 hb2); clear ho2 hb2 hR2)
      go_roundg (gk - 1)
      case measure => have := HK.out; omega
      case rel =>
        have hv := H2.out.1.mono (show R + 1 ≤ wr.heap.size from hRz)
        refine ⟨k + 1, by have := HK.out; omega, by go_num, HM.out.1.next H2.out.2 HM.out.2.2.1 hv hlt, Below.setCell (HM.out.2.1.trans (H2.out.2.mono (Nat.le_of_lt hRz))) (p := ⟨R, k, none⟩) (Nat.le_refl _) _⟩
    · obtain rfl : k = nh := by omega
      have hRe : W5.heap.size ≤ R := Nat.le_of_eq H6.out.2.2.symm
      have x7 := bheap H5.out.1 hB hRe
      have y7 := bheap H5.out.2.1 hB hRe
      obtain ⟨c0, c1, c2, c3, c4⟩ := blk5 x7
      obtain ⟨d0, d1, d2, d3, d4⟩ := blk5 y7
      have f3 := frz x7 3
      obtain ⟨e0, e1, e2, e3, e4⟩ := And.intro (frz y7 0) (And.intro (frz y7 1) (And.intro (frz y7 2) (And.intro (frz y7 3) (frz y7 4))))
      have hg7 := heap_lt x7
      have hg8 := heap_lt y7
      have H7 := Lib.hid (And.intro x7 (And.intro y7 (And.intro hM hB)))
      clear x7 y7 hM hB hk hgk hRe
      go_wp2_with fail
      obtain ⟨Z, hZ⟩ : ∃ Z, Z = ((((((wr.setCell ⟨g, 3, none⟩ (.slice (some ⟨R, 0, none⟩) k k)).setCell ⟨g + 1, 0, none⟩ (.int .i64 b.t)).setCell ⟨g + 1, 1, none⟩ (.slice A1 b.l.length a1)).setCell ⟨g + 1, 2, none⟩ (.slice A4 b.ks.length a4)).setCell ⟨g + 1, 3, none⟩ (.slice (some ⟨R, 0, none⟩) k k)).setCell ⟨g + 1, 4, none⟩ (.slice A5 b.ds.length a5)) := ⟨_, rfl⟩
      rw [← hZ]
      have hzb : Z.heap[g + 1]? = some (boxO b.t (.slice A1 b.l.length a1) (.slice A4 b.ks.length a4) (.slice (some ⟨R, 0, none⟩) k k) (.slice A5 b.ds.length a5)) := by
        rw [hZ]
        exact (set_blk (set_blk (set_blk (set_blk (set_blk ((Below.heap_setCell _ ⟨g, 3, none⟩ _ (g + 1) (by dsimp; omega)).trans H7.out.2.1)))))).trans (by simp [boxO])
      have hfar : ∀ j, g + 2 ≤ j → Z.heap[j]? = wr.heap[j]? := fun j hj => by
        rw [hZ, Below.heap_setCell _ ⟨g + 1, 4, none⟩ _ j (by dsimp; omega), Below.heap_setCell _ ⟨g + 1, 3, none⟩ _ j (by dsimp; omega), Below.heap_setCell _ ⟨g + 1, 2, none⟩ _ j (by dsimp; omega), Below.heap_setCell _ ⟨g + 1, 1, none⟩ _ j (by dsimp; omega), Below.heap_setCell _ ⟨g + 1, 0, none⟩ _ j (by dsimp; omega), Below.heap_setCell _ ⟨g, 3, none⟩ _ j (by dsimp; omega)]
      have hgw := HV.out.2.2.2.2.2
      have hRe : W5.heap.size ≤ R := Nat.le_of_eq H6.out.2.2.symm
      have hBz : Below w.heap.size w Z := by
        have h1 := H5.out.2.2.1.trans (H7.out.2.2.2.mono (show w.heap.size ≤ R by omega))
        rw [hZ]
        exact Below.setCell (Below.setCell (Below.setCell (Below.setCell (Below.setCell (Below.setCell h1 (p := ⟨g, 3, none⟩) (by dsimp; omega) _) (p := ⟨g + 1, 0, none⟩) (by dsimp; omega) _) (p := ⟨g + 1, 1, none⟩) (by dsimp; omega) _) (p := ⟨g + 1, 2, none⟩) (by dsimp; omega) _) (p := ⟨g + 1, 3, none⟩) (by dsimp; omega) _) (p := ⟨g + 1, 4, none⟩) (by dsimp; omega) _
      have hge : k = b.hs.length := HN.out.1
      have hOG := RwM.fin (base := w.heap.size) (H7.out.2.2.1.upon fun j hj => hfar j (by omega)) hge.symm (by omega) (by unfold maxLen; omega)
      rw [show Value.slice (some ⟨R, 0, none⟩) k k = .slice (some ⟨R, 0, none⟩) b.hs.length k by rw [← hge]] at hOG
      have h1 := H5.out.2.2.2.2
      have hup : ∀ j, g + 2 ≤ j → Z.heap[j]? = wr.heap[j]? := hfar
      have hHO : HbO Z w.heap.size ⟨b.t, A1, a1, b.l, A4, a4, b.ks, some ⟨R, 0, none⟩, k, b.hs, A5, a5, b.ds⟩ :=
        ⟨((h1.1.below H7.out.2.2.2 hRe).upon hup).mono (by omega), ((h1.2.1.below H7.out.2.2.2 hRe).upon hup).mono (by omega), hOG, ((h1.2.2.below H7.out.2.2.2 hRe).upon hup).mono (by omega)⟩
      obtain ⟨p0, p1, p2, p3, p4⟩ := blk5 hzb
      have HZ := Lib.hid (And.intro hHO hBz)
      have hgz := heap_lt hzb
      have hev : Hb.v ⟨b.t, A1, a1, b.l, A4, a4, b.ks, some ⟨R, 0, none⟩, k, b.hs, A5, a5, b.ds⟩ = .agg #[.int .i64 b.t, .slice A1 b.l.length a1, .slice A4 b.ks.length a4, .slice (some ⟨R, 0, none⟩) k k, .slice A5 b.ds.length a5] := by unfold Hb.v; rw [← hge]
      clear hZ hzb hfar hgw hRe hBz hOG h1 hup hHO
      refine bodyPost_ret (v := Hb.v ⟨b.t, A1, a1, b.l, A4, a4, b.ks, some ⟨R, 0, none⟩, k, b.hs, A5, a5, b.ds⟩) (by rw [hev]; clear hev hge; simp [results, Try.f56, go_sem, p0, p1, p2, p3, p4, hgz]) rfl ⟨⟨_, _, _, _, _, _, _, _, rfl, HZ.out.1⟩, HZ.out.2⟩
end Go.Proofs.Ytgnjknihgjdedaa
namespace Go.Proofs.Ytgnjknihgjdedaa
open Go.RowKit
set_option linter.unusedVariables false
set_option linter.unusedSimpArgs false
set_option maxHeartbeats 1000000 in
theorem cloneSp_any (A : Option Addr) (n c : Nat) (l : List Sp) (w : World) (hl : Sps w A n l) (hn : n ≤ 4294967295) :
    Calls Try.prog 63 #[.slice A n c] w fun e w' => ∃ v, e = .returned v ∧ Own eSp 26 2 w' w.heap.size v l ∧ Below w.heap.size w w' := by
  have HL := Lib.hid hl
  have HB := Lib.hid (bal0 w (Obj.cells #[] 26))
  have HLW := Lib.hid (HL.out.below HB.out (Nat.le_refl _))
  have HOWN := Lib.hid (show Own eSp 26 2 (w.alloc (Obj.cells #[] 26)) w.heap.size (.slice (some ⟨w.heap.size, 0, none⟩) 0 0) [] from Own.lit (enc := eSp) w w.heap.size #[] [] rfl lenSp (by omega) (by simp [maxLen]))
  have qT : ∀ (w : World) (a : Option Addr) (n c n' c' : Nat), (binOp .eql 27 (.slice a n c) (.slice none n' c')).run Try.prog w = .ok (.bool a.isNone) w := fun w a n c n' c' => Lib.run_eql_slice_nil w _ _ a n c n' c' Try.underlying27
  clear hl
  cases A with
  | none =>
    have hn0 : l = [] := List.eq_nil_of_length_eq_zero (by
      have := HL.out.len
      rcases Nat.eq_zero_or_pos n with h | h
      · omega
      · obtain ⟨b, off, e, -⟩ := HL.out.2 h; cases e)
    subst hn0
    go_enter Try.func63, Try.ntmps63
    go_wp2_with fail
    go_ret
    exact ⟨_, rfl, Own.nil_, Below.refl _ _⟩
  | some ad =>
    go_enter Try.func63, Try.ntmps63
    go_wp2_with (at_builtin; refine wp_apps okSp rfl (.tmp 5) (.tmp 6) rfl w.heap.size (.slice (some ⟨w.heap.size, 0, none⟩) 0 0) [] (some ad) n c l rfl rfl HLW.out (fun h => by cases h) lenSp one_eSp HOWN.out ?_ ?_ ?_ ?_; (simp; omega); (omega); (simp); intro v' w5 hown5 hgr5 hb5; have HH := Lib.hid (And.intro hown5 hb5); clear hown5 hgr5 hb5)
    go_ret
    have h := HH.out.1
    rw [List.nil_append] at h
    exact ⟨_, rfl, h, HB.out.trans HH.out.2⟩
set_option maxHeartbeats 1000000 in
theorem cloneCt_any (A : Option Addr) (n c : Nat) (l : List Ct) (w : World) (hl : Cts w A n l) (hn : n ≤ 4294967295) :
    Calls Try.prog 64 #[.slice A n c] w fun e w' => ∃ v, e = .returned v ∧ Own eCt 76 4 w' w.heap.size v l ∧ Below w.heap.size w w' := by
  have HL := Lib.hid hl
  have HB := Lib.hid (bal0 w (Obj.cells #[] 76))
  have HLW := Lib.hid (HL.out.below HB.out (Nat.le_refl _))
  have HOWN := Lib.hid (show Own eCt 76 4 (w.alloc (Obj.cells #[] 76)) w.heap.size (.slice (some ⟨w.heap.size, 0, none⟩) 0 0) [] from Own.lit (enc := eCt) w w.heap.size #[] [] rfl lenCt (by omega) (by simp [maxLen]))
  have qT : ∀ (w : World) (a : Option Addr) (n c n' c' : Nat), (binOp .eql 28 (.slice a n c) (.slice none n' c')).run Try.prog w = .ok (.bool a.isNone) w := fun w a n c n' c' => Lib.run_eql_slice_nil w _ _ a n c n' c' Try.underlying28
  clear hl
  cases A with
  | none =>
    have hn0 : l = [] := List.eq_nil_of_length_eq_zero (by
      have := HL.out.len
      rcases Nat.eq_zero_or_pos n with h | h
      · omega
      · obtain ⟨b, off, e, -⟩ := HL.out.2 h; cases e)
    subst hn0
    go_enter Try.func64, Try.ntmps64
    go_wp2_with fail
    go_ret
    exact ⟨_, rfl, Own.nil_, Below.refl _ _⟩
  | some ad =>
    go_enter Try.func64, Try.ntmps64
    go_wp2_with (at_builtin; refine wp_apps okCt rfl (.tmp 5) (.tmp 6) rfl w.heap.size (.slice (some ⟨w.heap.size, 0, none⟩) 0 0) [] (some ad) n c l rfl rfl HLW.out (fun h => by cases h) lenCt one_eCt HOWN.out ?_ ?_ ?_ ?_; (simp; omega); (omega); (simp); intro v' w5 hown5 hgr5 hb5; have HH := Lib.hid (And.intro hown5 hb5); clear hown5 hgr5 hb5)
    go_ret
    have h := HH.out.1
    rw [List.nil_append] at h
    exact ⟨_, rfl, h, HB.out.trans HH.out.2⟩

abbrev OwnSp (w : World) (base : Nat) (v : Value) (l : List Sp) : Prop := Own eSp 26 2 w base v l
abbrev OwnCt (w : World) (base : Nat) (v : Value) (l : List Ct) : Prop := Own eCt 76 4 w base v l
def TyO (w : World) (base : Nat) (T : Ty) (p : Tp) : Prop := OwnSp w base (.slice p.A T.ch.length p.c) T.ch ∧ OwnCt w base (.slice p.B T.cs.length p.d) T.cs
def ctV (c : Ct) : Value := .agg #[.int .i64 c.g, .int .i64 c.m, .int .i64 c.n, .int .i64 c.e]
def ctO (c : Ct) : Obj := .cells #[.int .i64 c.g, .int .i64 c.m, .int .i64 c.n, .int .i64 c.e] 76 (0, 0)
def TAd (B : Nat) (c : Ct) (cs : List Ct) (j : Nat) (w w' : World) : Prop := match j with
  | 1 => Below B w w' ∧ (∀ v, OwnCt w B v cs → OwnCt w' B v cs) ∧ (∀ v l, OwnSp w B v l → OwnSp w' B v l) ∧ (∀ r : Nat, w.heap[r]? = some (ctO c) → w'.heap[r]? = some (ctO c))
  | _ => Below w.heap.size w w'
section
variable {B : Nat} {c : Ct} {cs : List Ct} {ch : List Sp}
theorem TAd.rf (w : World) : TAd B c cs 0 w w := Below.refl _ _
theorem TAd.ct {j : Nat} {w w' : World} (h : TAd B c cs j w w') {v : Value} (ho : OwnCt w B v cs) : OwnCt w' B v cs := by
  unfold TAd at h
  split at h
  · exact h.2.1 v ho
  · exact Own.below ho h (Nat.le_refl _)
theorem TAd.sp {j : Nat} {w w' : World} (h : TAd B c cs j w w') {v : Value} {l : List Sp} (ho : OwnSp w B v l) : OwnSp w' B v l := by
  unfold TAd at h
  split at h
  · exact h.2.2.1 v l ho
  · exact Own.below ho h (Nat.le_refl _)
theorem TAd.co {j : Nat} {w w' : World} (h : TAd B c cs j w w') {r : Nat} (ho : w.heap[r]? = some (ctO c)) : w'.heap[r]? = some (ctO c) := by
  unfold TAd at h
  split at h
  · exact h.2.2.2 r ho
  · exact (h.block r (heap_lt ho)).trans ho
def PAd (ws : World) (k : Nat) (w : World) : Prop := Below ws.heap.size ws w
theorem PAd.st {ws : World} (hB : B = ws.heap.size) (k j : Nat) (w w' : World) (hT : TAd B c cs j w w') (hp : PAd ws k w) : PAd ws k w' := by
  unfold TAd at hT
  split at hT
  · rw [hB] at hT; exact Below.trans hp hT.1
  · exact Below.trans hp (Below.mono hT (Below.size hp))
def FSpo (B : Nat) (l : List Sp) : VF := fun v w => OwnSp w B v l
def FCto (B : Nat) (l : List Ct) : VF := fun v w => OwnCt w B v l
def FCt1 (c : Ct) : VF := fun v w => ∃ r, v = .slice (some ⟨r, 0, none⟩) 1 1 ∧ w.heap[r]? = some (ctO c)
def FCt3 (B : Nat) (l : List Ct) (n : Nat) : VF := fun v w => ∃ g7 c7, v = .slice (some ⟨g7, 0, none⟩) n c7 ∧ OwnCt w B v l
theorem FCt3.st {j : Nat} {v : Value} {w w' : World} {l : List Ct} {n : Nat} (hj : j ≠ 1) (hT : TAd B c cs j w w') (h : FCt3 B l n v w) : FCt3 B l n v w' := by
  obtain ⟨g7, c7, h1, h2⟩ := h
  refine ⟨g7, c7, h1, ?_⟩
  unfold TAd at hT
  split at hT
  · exact absurd rfl hj
  · exact Own.below h2 hT (Nat.le_refl _)
end
def AddR (T : Ty) (c : Ct) (w : World) (e : Ending) (w' : World) : Prop := (∃ p', e = .returned (.tuple #[tyV ⟨T.g, T.f, T.ch, T.m, T.cs ++ [c]⟩ p', .int .i64 0]) ∧ TyO w' w.heap.size ⟨T.g, T.f, T.ch, T.m, T.cs ++ [c]⟩ p') ∧ Below w.heap.size w w'
set_option maxRecDepth 100000 in
set_option maxHeartbeats 2000000 in
theorem tAdd_any (T : Ty) (p : Tp) (c : Ct) (w : World) (hk : TyOk T) (hi : TyIn w T p) (hc : CtOk T.g c) (h7 : T.cs.length < 7) :
    Calls Try.prog 27 #[tyV T p, ctV c] w (AddR T c w) := by
  obtain ⟨q, hq⟩ : ∃ q, q = w.heap.size := ⟨_, rfl⟩
  obtain ⟨V, hV⟩ : ∃ V, V = ((w.alloc (tyO T p)).alloc (ctO c)).alloc (tyC 0 0 0 (.slice none 0 0) 0 (.slice none 0 0)) := ⟨_, rfl⟩
  have b0 : V.heap[q]? = some (tyO T p) := by rw [hV, hq]; exact hblk_alloc (hblk_alloc (alloc_at rfl) _) _
  have b1 : V.heap[q + 1]? = some (ctO c) := by rw [hV, hq]; exact hblk_alloc (alloc_at (by simp)) _
  have b2 : V.heap[q + 1 + 1]? = some (tyC 0 0 0 (.slice none 0 0) 0 (.slice none 0 0)) := by rw [hV, hq]; exact alloc_at (by simp)
  have hBV : Below w.heap.size w V := by rw [hV]; exact bal (bal (bal0 w _) (Nat.le_refl _) _) (Nat.le_refl _) _
  have hiV := hi.below hBV (Nat.le_refl _)
  have hzV : V.heap.size = q + 3 := by rw [hV, hq]; simp
  have HV := Lib.hid (And.intro hBV (And.intro b0 (And.intro b1 (And.intro b2 (And.intro hiV (And.intro hzV hq))))))
  have HK := Lib.hid (And.intro hk (And.intro hc h7))
  have hck := tchk_any T p V hk hiV
  obtain ⟨c0, c1, c2, c3, c4, c5⟩ := blk6 b0
  have hql := heap_lt b0
  obtain ⟨R, hR⟩ : ∃ R, R = AddR T c w := ⟨_, rfl⟩
  rw [← hR]
  have HR := Lib.hid hR
  have h7i : ¬ (7 : Int) ≤ (T.cs.length : Int) := by omega
  have hnc : T.ch.length ≤ 1000 := by have := hk.cn; have := hk.g; omega
  have hns : T.cs.length ≤ 1000 := by omega
  unfold ctV
  clear hR hk hc h7 hi
  go_enter Try.func27, Try.ntmps27
  go_upto_region 1 with (fail)
  rw [show ((w.alloc (tyO T p)).alloc (Obj.cells #[Value.int .i64 c.g, .int .i64 c.m, .int .i64 c.n, .int .i64 c.e] 76)).alloc (Obj.cells #[.int .i64 0, .int .i64 0, .int .i64 0, .slice none 0 0, .int .i64 0, .slice none 0 0] 30) = V from hV.symm]
  rw [← hq]
  clear hV hq hBV hiV b0 b1 b2 hzV
  go_wp2_with fail
  refine hck.mono ?_
  rintro e w2 ⟨rfl, hb2⟩
  have x0 := bheap HV.out.2.1 hb2 (Nat.le_refl _)
  have x1 := bheap HV.out.2.2.1 hb2 (Nat.le_refl _)
  have x2 := bheap HV.out.2.2.2.1 hb2 (Nat.le_refl _)
  have hcn := tcnt_any c T.g w2 HK.out.2.1 HK.out.1.g
  have H2 := Lib.hid (And.intro x0 (And.intro x1 (And.intro x2 hb2)))
  clear c0 c1 c2 c3 c4 c5 hck hql hb2
  obtain ⟨c0, c1, c2, c3, c4, c5⟩ := blk6 x0
  obtain ⟨d0, d1, d2, d3⟩ := blk4 x1
  have hql := heap_lt x0
  have hql1 := heap_lt x1
  clear x0 x1 x2
  go_wp2_with (go_at_call 62; refine hcn.mono ?_; rintro e w3 ⟨rfl, hb3⟩; have x0 := bheap H2.out.1 hb3 (Nat.le_refl _); have x1 := bheap H2.out.2.1 hb3 (Nat.le_refl _); have x2 := bheap H2.out.2.2.1 hb3 (Nat.le_refl _); have H3 := Lib.hid (And.intro x0 (And.intro x1 (And.intro x2 (H2.out.2.2.2.trans (hb3.mono H2.out.2.2.2.size))))); clear c0 c1 c2 c3 c4 c5 d0 d1 d2 d3 hql hql1 hb3 hcn; obtain ⟨c0, c1, c2, c3, c4, c5⟩ := blk6 x0; obtain ⟨d0, d1, d2, d3⟩ := blk4 x1; have hql := heap_lt x0; have hql1 := heap_lt x1; clear x0 x1 x2)
  have hiW : TyIn w3.drew T p := HV.out.2.2.2.2.1.below (bdraw H3.out.2.2.2) (Nat.le_refl _)
  have HI := Lib.hid hiW
  obtain ⟨B, hB⟩ : ∃ B, B = w3.drew.heap.size := ⟨_, rfl⟩
  have hqB : q + 1 + 1 < B := by rw [hB]; exact heap_lt H3.out.2.2.1
  have HB := Lib.hid hB
  have HC := Lib.hid (fun (w' : World) (hp : PAd w3.drew 0 w') => And.intro (blk6 (bheap (show w3.drew.heap[q]? = _ from H3.out.1) hp (Nat.le_refl _))) (And.intro (blk4 (bheap (show w3.drew.heap[q + 1]? = _ from H3.out.2.1) hp (Nat.le_refl _))) (And.intro (heap_lt (bheap (show w3.drew.heap[q]? = _ from H3.out.1) hp (Nat.le_refl _))) (heap_lt (bheap (show w3.drew.heap[q + 1]? = _ from H3.out.2.1) hp (Nat.le_refl _))))))
  clear hiW hB
  refine wp_region_tag 10 0 0 [] [] 0 (TAd B c T.cs) (PAd w3.drew) [0, 0, 0, 0, 0, 0, 0, 0, 1, 0] (by as_aux_lemma => kernel_rfl) (by as_aux_lemma => kernel_rfl) (by as_aux_lemma => kernel_rfl) (by as_aux_lemma => kernel_rfl) (by omega) (.inl rfl) rfl rfl (fun k i w1 w2 hc _ hT hp => PAd.st HB.out k i w1 w2 hT hp) (fun k => Below.refl _ _) ?_
  apply Exists.intro
  refine ⟨fun ys => ?_, fun ops K hK => ?_⟩
  · simp only [List.take_succ_cons, List.take_zero, dstsOf, List.filterMap_cons, List.filterMap_nil, putAll]
    go_simp
    rfl
  simp only [List.take_succ_cons, List.take_zero, List.drop_succ_cons, List.drop_zero] at hK ⊢
  repeat
    refine LexT.const TAd.rf ?_
    apply Exists.intro
    refine ⟨fun ys w' hp hpk hq hd => ?_, ?_⟩
    · try simp [DepsOf, depsGo, DF.holds, Region.binds, EqF] at hd
      try simp only [hd]
      obtain ⟨⟨c0, c1, c2, c3, c4, c5⟩, ⟨d0, d1, d2, d3⟩, hl1, hl2⟩ := HC.out w' hp
      intro Q2 hQ2
      go_wp2_with fail
      rfl
    try simp only [List.nil_append, List.cons_append]
  refine LexT.some (FSpo B T.ch) (fun i v w1 w2 hc _ hT h => hT.sp h) (fun ys w' hp hpk hq hd => ?_) ?_
  · try simp [DepsOf, depsGo, DF.holds, Region.binds, EqF] at hd
    try simp only [hd]
    have hpz : B ≤ w'.heap.size := by rw [HB.out]; exact (show Below w3.drew.heap.size w3.drew w' from hp).size
    have hci := cloneSp_any p.A T.ch.length p.c T.ch w' (HI.out.a.below (show Below w3.drew.heap.size w3.drew w' from hp) (Nat.le_refl _)) (by omega)
    clear hp hpk
    intro Q2 hQ2
    go_wp2_with fail
    refine hci.mono ?_
    rintro e w4 ⟨v, rfl, ho, hb⟩
    have HX := Lib.hid (show TAd B c T.cs 0 w' w4 ∧ FSpo B T.ch v w4 from ⟨hb, ho.mono hpz⟩)
    clear ho hb hci
    go_wp2
    exact ⟨_, rfl, HX.out⟩
  try simp only [List.nil_append, List.cons_append]
  repeat
    refine LexT.const TAd.rf ?_
    apply Exists.intro
    refine ⟨fun ys w' hp hpk hq hd => ?_, ?_⟩
    · try simp [DepsOf, depsGo, DF.holds, Region.binds, EqF] at hd
      try simp only [hd]
      obtain ⟨⟨c0, c1, c2, c3, c4, c5⟩, ⟨d0, d1, d2, d3⟩, hl1, hl2⟩ := HC.out w' hp
      intro Q2 hQ2
      go_wp2_with fail
      rfl
    try simp only [List.nil_append, List.cons_append]
  refine LexT.some (FCto B T.cs) (fun i v w1 w2 hc _ hT h => hT.ct h) (fun ys w' hp hpk hq hd => ?_) ?_
  · try simp [DepsOf, depsGo, DF.holds, Region.binds, EqF] at hd
    try simp only [hd]
    have hpz : B ≤ w'.heap.size := by rw [HB.out]; exact (show Below w3.drew.heap.size w3.drew w' from hp).size
    have hci := cloneCt_any p.B T.cs.length p.d T.cs w' (HI.out.b.below (show Below w3.drew.heap.size w3.drew w' from hp) (Nat.le_refl _)) (by omega)
    clear hp hpk
    intro Q2 hQ2
    go_wp2_with fail
    refine hci.mono ?_
    rintro e w4 ⟨v, rfl, ho, hb⟩
    have HX := Lib.hid (show TAd B c T.cs 0 w' w4 ∧ FCto B T.cs v w4 from ⟨hb, ho.mono hpz⟩)
    clear ho hb hci
    go_wp2
    exact ⟨_, rfl, HX.out⟩
  try simp only [List.nil_append, List.cons_append]
  repeat
    refine LexT.const TAd.rf ?_
    apply Exists.intro
    refine ⟨fun ys w' hp hpk hq hd => ?_, ?_⟩
    · try simp [DepsOf, depsGo, DF.holds, Region.binds, EqF] at hd
      try simp only [hd]
      obtain ⟨⟨c0, c1, c2, c3, c4, c5⟩, ⟨d0, d1, d2, d3⟩, hl1, hl2⟩ := HC.out w' hp
      intro Q2 hQ2
      go_wp2_with fail
      rfl
    try simp only [List.nil_append, List.cons_append]
  refine LexT.some (FCt1 c) (fun i v w1 w2 hc _ hT h => (by obtain ⟨r, h1, h2⟩ := h; exact ⟨r, h1, hT.co h2⟩)) (fun ys w' hp hpk hq hd => ?_) ?_
  · try simp [DepsOf, depsGo, DF.holds, Region.binds, EqF] at hd
    try simp only [hd]
    have HX := Lib.hid (show TAd B c T.cs 0 w' (w'.alloc (.cells #[.int .i64 c.g, .int .i64 c.m, .int .i64 c.n, .int .i64 c.e] 76 (0, 0))) ∧ FCt1 c (.slice (some ⟨w'.heap.size, 0, none⟩) 1 1) (w'.alloc (.cells #[.int .i64 c.g, .int .i64 c.m, .int .i64 c.n, .int .i64 c.e] 76 (0, 0))) from ⟨bal0 _ _, w'.heap.size, rfl, alloc_at rfl⟩)
    clear hp hpk
    intro Q2 hQ2
    go_wp2_with fail
    exact HX.out
  try simp only [List.nil_append, List.cons_append]
  refine LexT.some (FCt3 B (T.cs ++ [c]) (T.cs.length + 1)) (fun i v w1 w2 hc _ hT h => FCt3.st (by simpa using hc) hT h) (fun ys w' hp hpk hq hd => ?_) ?_
  · try simp [DepsOf, depsGo, DF.holds, Region.binds, EqF] at hd
    try simp only [hd]
    have hpz : B ≤ w'.heap.size := by rw [HB.out]; exact (show Below w3.drew.heap.size w3.drew w' from hp).size
    obtain ⟨h32, ⟨r, e34, hr⟩, -⟩ := hd
    obtain ⟨v32, e32⟩ : ∃ v, v = ys 32 := ⟨_, rfl⟩
    rw [← e32] at h32
    simp only [e34, ← e32]
    have HX0 := Lib.hid (And.intro (show OwnCt w' B v32 T.cs from h32) hr)
    have hnsl : T.cs.length < 4294967296 := by omega
    clear hp hpk h32 hr e32 e34
    intro Q2 hQ2
    go_wp2_with (at_builtin; refine wp_appK okCt rfl (.tmp 32) (.tmp 34) rfl B v32 T.cs c #[.int .i64 c.g, .int .i64 c.m, .int .i64 c.n, .int .i64 c.e] r rfl rfl HX0.out.2 rfl lenCt (one_eCt c) HX0.out.1 hnsl (by decide) hpz ?_; intro g7 c7 w7 ho7 hgr7 hl7 hk7 hr7; have HX := Lib.hid (And.intro ho7 (And.intro hgr7 (And.intro hk7 hr7))); clear ho7 hgr7 hl7 hk7 hr7)
    refine ⟨⟨(Below.refl B w').grown HX.out.2.1 hpz (fun k e => (HX0.out.1.lt k e).1), fun v h => HX.out.2.2.1 v h, fun v l h => Own.kept h HX.out.2.1 (own_ne h HX0.out.1 (by decide)), fun r' h => HX.out.2.2.2 r' h⟩, g7, c7, rfl, HX.out.1⟩
  try simp only [List.nil_append, List.cons_append]
  repeat
    refine LexT.const TAd.rf ?_
    apply Exists.intro
    refine ⟨fun ys w' hp hpk hq hd => ?_, ?_⟩
    · try simp [DepsOf, depsGo, DF.holds, Region.binds, EqF] at hd
      try simp only [hd]
      obtain ⟨⟨c0, c1, c2, c3, c4, c5⟩, ⟨d0, d1, d2, d3⟩, hl1, hl2⟩ := HC.out w' hp
      intro Q2 hQ2
      go_wp2_with fail
      rfl
    try simp only [List.nil_append, List.cons_append]
  refine hK _ fun ys w' hp hF => ?_
  simp [AllF, DF.holds] at hF
  obtain ⟨-, -, f29, -, -, -, -, -, ⟨g7, c7, e35, f35⟩, e36⟩ := hF
  replace f29 : OwnSp w' B (ys 29) T.ch := f29
  replace hp : Below w3.drew.heap.size w3.drew w' := hp
  obtain ⟨A1, a1, e29, -, -, -⟩ := Own.form f29 lenSp
  rw [e29] at f29
  rw [e35] at f35
  simp only [e29, e35, e36]
  have x0 := bheap (show w3.drew.heap[q]? = _ from H3.out.1) hp (Nat.le_refl _)
  have x2 := bheap (show w3.drew.heap[q + 1 + 1]? = _ from H3.out.2.2.1) hp (Nat.le_refl _)
  have hBw : Below w.heap.size w w' := ((HV.out.1.trans (H3.out.2.2.2.mono HV.out.1.size)).trans ((bdraw (Below.refl _ _)).mono (by have := HV.out.1.size; have := H3.out.2.2.2.size; omega))).trans (hp.mono (by have := HV.out.1.size; have := H3.out.2.2.2.size; show w.heap.size ≤ w3.heap.size; omega))
  have hwB : w.heap.size ≤ q := by rw [HV.out.2.2.2.2.2.2]; exact Nat.le_refl _
  obtain ⟨y0, y1, y2, y3, y4, y5⟩ := blk6 x0
  have hlx := heap_lt x0
  obtain ⟨f3, f5⟩ := And.intro (frz x0 3) (frz x0 5)
  have HX := Lib.hid (And.intro x0 (And.intro x2 (And.intro f29 (And.intro f35 hBw))))
  clear hK x0 x2 f29 f35 hBw hp e29 e35 e36 c0 c1 c2 c3 c4 c5 d0 d1 d2 d3 hql hql1 HC
  go_upto_region 10 with (fail)
  obtain ⟨W5, hW5⟩ : ∃ W5, W5 = (w'.setCell ⟨q, 3, none⟩ (.slice A1 T.ch.length a1)).setCell ⟨q, 5, none⟩ (.slice (some ⟨g7, 0, none⟩) (T.cs.length + 1) c7) := ⟨_, rfl⟩
  rw [← hW5]
  have z0 : W5.heap[q]? = some (tyC T.g T.f.lo T.f.hi (.slice A1 T.ch.length a1) T.m (.slice (some ⟨g7, 0, none⟩) (T.cs.length + 1) c7)) := by rw [hW5]; exact (set_blk (set_blk HX.out.1)).trans rfl
  have hgq : w'.grownBy W5 (some q) := by rw [hW5]; exact (grownBy_cell _ _ _ _).trans (grownBy_cell _ _ _ _)
  have z2 : W5.heap[q + 1 + 1]? = _ := (hgq.block (q + 1 + 1) (heap_lt HX.out.2.1) (fun e => by injection e with e; omega)).trans HX.out.2.1
  have hfS : OwnSp W5 B (.slice A1 T.ch.length a1) T.ch := Own.kept HX.out.2.2.1 hgq (.inr (Own.nb HX.out.2.2.1 (by omega)))
  have hfC : OwnCt W5 B (.slice (some ⟨g7, 0, none⟩) (T.cs.length + 1) c7) (T.cs ++ [c]) := Own.kept HX.out.2.2.2.1 hgq (.inr (Own.nb HX.out.2.2.2.1 (by omega)))
  have hBW : Below w.heap.size w W5 := HX.out.2.2.2.2.grown hgq (HX.out.2.2.2.2.size) (fun k e => by injection e with e; omega)
  obtain ⟨u0, u1, u2, u3, u4, u5⟩ := blk6 z0
  obtain ⟨v0, v1, v2, v3, v4, v5⟩ := blk6 z2
  obtain ⟨g0, g1, g2, g3, g4, g5⟩ := And.intro (frz z2 0) (And.intro (frz z2 1) (And.intro (frz z2 2) (And.intro (frz z2 3) (And.intro (frz z2 4) (frz z2 5)))))
  have hl0 := heap_lt z0
  have hl2 := heap_lt z2
  have HZ := Lib.hid (And.intro z2 (And.intro hfS (And.intro hfC hBW)))
  clear hW5 z0 z2 hgq hfS hfC hBW y0 y1 y2 y3 y4 y5 f3 f5
  go_wp2_with fail
  obtain ⟨hz, hg⟩ := tru_put (g := T.g) (lo := T.f.lo) (hi := T.f.hi) (vC := .slice A1 T.ch.length a1) (m := T.m) (vK := .slice (some ⟨g7, 0, none⟩) (T.cs.length + 1) c7) HZ.out.1
  obtain ⟨Z, hZ⟩ : ∃ Z, Z = ((((((W5.setCell ⟨q + 1 + 1, 0, none⟩ (.int .i64 T.g)).setCell ⟨q + 1 + 1, 1, none⟩ (.int .i64 T.f.lo)).setCell ⟨q + 1 + 1, 2, none⟩ (.int .i64 T.f.hi)).setCell ⟨q + 1 + 1, 3, none⟩ (.slice A1 T.ch.length a1)).setCell ⟨q + 1 + 1, 4, none⟩ (.int .i64 T.m)).setCell ⟨q + 1 + 1, 5, none⟩ (.slice (some ⟨g7, 0, none⟩) (T.cs.length + 1) c7)) := ⟨_, rfl⟩
  rw [← hZ] at hz hg ⊢
  clear hZ u0 u1 u2 u3 u4 u5 v0 v1 v2 v3 v4 v5 g0 g1 g2 g3 g4 g5 hl0 hl2
  have hgH := Lib.hid hg
  obtain ⟨z0, z1, z2, z3, z4, z5⟩ := blk6 hz
  have hzl := heap_lt hz
  have hcl : (T.cs ++ [c]).length = T.cs.length + 1 := by simp
  have hfin : AddR T c w (.returned (.tuple #[.agg #[.int .i64 T.g, .int .i64 T.f.lo, .int .i64 T.f.hi, .slice A1 T.ch.length a1, .int .i64 T.m, .slice (some ⟨g7, 0, none⟩) (T.cs.length + 1) c7], .int .i64 0])) Z := by
    refine ⟨⟨⟨A1, a1, some ⟨g7, 0, none⟩, c7⟩, ?_, ?_, ?_⟩, ?_⟩
    · unfold tyV; simp only [hcl]
    · exact (Own.kept HZ.out.2.1 hgH.out (.inr (Own.nb HZ.out.2.1 hqB))).mono (by rw [HB.out]; have := HV.out.1.size; have := H3.out.2.2.2.size; show w.heap.size ≤ w3.heap.size; omega)
    · show OwnCt Z w.heap.size (.slice (some ⟨g7, 0, none⟩) (T.cs ++ [c]).length c7) (T.cs ++ [c])
      rw [hcl]
      exact (Own.kept HZ.out.2.2.1 hgH.out (.inr (Own.nb HZ.out.2.2.1 hqB))).mono (by rw [HB.out]; have := HV.out.1.size; have := H3.out.2.2.2.size; show w.heap.size ≤ w3.heap.size; omega)
    · exact HZ.out.2.2.2.grown hgH.out HZ.out.2.2.2.size (fun k e => by injection e with e; omega)
  have HF := Lib.hid hfin
  clear hfin hz hg
  exact bodyPost_ret (v := .tuple #[.agg #[.int .i64 T.g, .int .i64 T.f.lo, .int .i64 T.f.hi, .slice A1 T.ch.length a1, .int .i64 T.m, .slice (some ⟨g7, 0, none⟩) (T.cs.length + 1) c7], .int .i64 0]) (by simp [results, Try.f27, go_sem, z0, z1, z2, z3, z4, z5, hzl]) rfl (by rw [HR.out]; exact HF.out)
end Go.Proofs.Ytgnjknihgjdedaa
