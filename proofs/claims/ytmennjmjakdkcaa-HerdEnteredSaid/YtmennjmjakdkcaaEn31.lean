/- HerdEntered 31: OwnH. -/
import Derived.Test.YtmennjmjakdkcaaEn30
import Derived.Test.YtmennjmjakdkcaaEn27
import Derived.Deep.OwnRows
namespace Go.Proofs.Ytmennjmjakdkcaa
open Go.RowKit
set_option linter.unusedVariables false
set_option linter.unusedSimpArgs false

def TBw (j : Nat) (w w' : World) : Prop := Below w.heap.size w w'
theorem TBw.rf {j : Nat} (w : World) : TBw j w w := Below.refl _ _
def PBw (ws : World) (k : Nat) (w : World) : Prop := Below ws.heap.size ws w
theorem PBw.st {ws : World} (k i : Nat) (w w' : World) (hT : TBw i w w') (hp : PBw ws k w) : PBw ws k w' := Below.trans hp (Below.mono hT (Below.size hp))
def FOI (base : Nat) (l : List Int) : VF := fun v w => OwnI w base v l
def FOD (base : Nat) (l : List De) : VF := fun v w => OwnD w base v l
theorem FOI.st {base : Nat} {l : List Int} (i : Nat) (v : Value) (w w' : World) (hT : TBw i w w') (h : FOI base l v w) : FOI base l v w' := Own.below h hT (Nat.le_refl _)
theorem FOD.st {base : Nat} {l : List De} (i : Nat) (v : Value) (w w' : World) (hT : TBw i w w') (h : FOD base l v w) : FOD base l v w' := Own.below h hT (Nat.le_refl _)
/-- rows under making: the block R of slices, the first k of them rows of the call's own -/
def RwM (R n : Nat) (ls : List (List Int)) (k : Nat) (w : World) : Prop :=
  ∃ mv : List Value, mv.length = n ∧ w.heap[R]? = some (.cells mv.toArray 22 (0, 0)) ∧ ∀ i v, i < k → mv[i]? = some v → ∃ l, ls[i]? = some l ∧ OwnI w (R + 1) v l
theorem RwM.start {R n : Nat} {ls : List (List Int)} {w w' : World} (hR : R = w.heap.size) (h : w' = w.alloc (.cells (madeCells #[.slice none 0 0] n) 22)) : RwM R n ls 0 w' := by
  subst hR h
  refine ⟨List.replicate n (.slice none 0 0), by simp, ?_, fun i v hi => by omega⟩
  rw [show (List.replicate n (Value.slice none 0 0)).toArray = madeCells #[.slice none 0 0] n by
    apply Array.ext
    · simp [size_madeCells]
    · intro i h1 h2
      simp [madeCells, Nat.mod_one]]
  exact alloc_at rfl
theorem RwM.next {R n k : Nat} {ls : List (List Int)} {w w' : World} {v : Value} {l : List Int} (h : RwM R n ls k w) (hb : Below w.heap.size w w') (hl : ls[k]? = some l) (hv : OwnI w' (R + 1) v l) (hk : k < n) : RwM R n ls (k + 1) (w'.setCell ⟨R, k, none⟩ v) := by
  obtain ⟨mv, h1, h2, h3⟩ := h
  have hup : ∀ j, R + 1 ≤ j → (w'.setCell ⟨R, k, none⟩ v).heap[j]? = w'.heap[j]? := fun j hj => Below.heap_setCell w' ⟨R, k, none⟩ _ j (by dsimp; omega)
  refine ⟨mv.set k v, by simpa using h1, ?_, fun i u hi hu => ?_⟩
  · rw [set_blk (bheap h2 hb (Nat.le_refl _)), List.setIfInBounds_toArray]
  · rcases Nat.lt_or_ge i k with hik | hik
    · rw [List.getElem?_set_ne (by omega)] at hu
      obtain ⟨l', hl', ho⟩ := h3 i u hik hu
      exact ⟨l', hl', (ho.below hb (Nat.le_refl _)).upon hup⟩
    · obtain rfl : i = k := by omega
      rw [List.getElem?_set_self (by omega)] at hu
      cases hu
      exact ⟨l, hl, hv.upon hup⟩
theorem RwM.upon {R n k : Nat} {ls : List (List Int)} {w w' : World} (h : RwM R n ls k w) (hup : ∀ j, R ≤ j → w'.heap[j]? = w.heap[j]?) : RwM R n ls k w' := by
  obtain ⟨mv, h1, h2, h3⟩ := h
  refine ⟨mv, h1, (hup R (Nat.le_refl _)).trans h2, fun i v hi hv => ?_⟩
  obtain ⟨l, hl, ho⟩ := h3 i v hi hv
  exact ⟨l, hl, ho.upon fun j hj => hup j (by omega)⟩
theorem RwM.fin {R n base : Nat} {ls : List (List Int)} {w : World} (h : RwM R n ls n w) (hn : ls.length = n) (hb : base ≤ R) (hm : n ≤ maxLen) : OwnG w base (.slice (some ⟨R, 0, none⟩) n n) ls := by
  obtain ⟨mv, h1, h2, h3⟩ := h
  refine ⟨mv, ⟨by rw [lenFlatVal, Nat.mul_one], .inr ⟨R, n, mv.toArray, by rw [h1], hb, h2, by omega, hm, by simp [h1], ?_⟩⟩, by rw [h1, hn], fun i v hv => ?_⟩
  · rw [Nat.mul_one, List.take_of_length_le (by simp)]
    have : ∀ x : List Value, x.flatMap eVal = x := fun x => by
      induction x with
      | nil => rfl
      | cons a r ih => rw [List.flatMap_cons, ih]; rfl
    rw [this]
  · obtain ⟨l, hl, ho⟩ := h3 i v (by have := (List.getElem?_eq_some_iff.1 hv).1; omega) hv
    exact ⟨l, hl, ho.mono (by omega)⟩
/-- a copy of the book b -/
def OwnedR (b : Hb) (w : World) (e : Ending) (w' : World) : Prop :=
  (∃ A c Ak ck Ah ch Ad cd, e = .returned (Hb.v ⟨b.t, A, c, b.l, Ak, ck, b.ks, Ah, ch, b.hs, Ad, cd, b.ds⟩) ∧ HbO w' w.heap.size ⟨b.t, A, c, b.l, Ak, ck, b.ks, Ah, ch, b.hs, Ad, cd, b.ds⟩) ∧ Below w.heap.size w w'
set_option maxRecDepth 100000 in
set_option maxHeartbeats 1000000 in
theorem own_any (b : Hb) (w : World) (hin : HbIn w b) (hl : b.l.length ≤ 1000) (hk : b.ks.length ≤ 1000) (hh : b.hs.length ≤ 1000) (hd : b.ds.length ≤ 1000) (hr : ∀ r ∈ b.hs, r.length ≤ 1000) : Calls Try.prog 84 #[b.v] w (OwnedR b w) := by
  obtain ⟨V, hV⟩ : ∃ V, V = (w.alloc b.obj).alloc (Obj.cells #[.int .i64 0, .slice none 0 0, .slice none 0 0, .slice none 0 0, .slice none 0 0] 29) := ⟨_, rfl⟩
  obtain ⟨g, hg⟩ : ∃ g, g = w.heap.size := ⟨_, rfl⟩
  have b0 : V.heap[g]? = some b.obj := by rw [hV, hg]; exact hblk_alloc (alloc_at rfl) _
  have b1 : V.heap[g + 1]? = some (boxO 0 (.slice none 0 0) (.slice none 0 0) (.slice none 0 0) (.slice none 0 0)) := by rw [hV, hg]; exact alloc_at (by simp)
  have hBV : Below w.heap.size w V := by rw [hV]; exact (bal0 w _).trans ((bal0 _ _).mono (by simp))
  have hiV := hin.below hBV (Nat.le_refl _)
  have hzV : V.heap.size = g + 2 := by rw [hV, hg]; simp
  obtain ⟨c0, c1, c2, c3, c4⟩ := blk5c b0
  have hmc := cloneM_any b.A b.l.length b.c b.l V hiV.m (by omega)
  have HV := Lib.hid (And.intro hBV (And.intro b0 (And.intro b1 (And.intro hiV (And.intro hzV hg)))))
  have HIN := Lib.hid hin
  unfold Hb.v
  go_enter Try.func84, Try.ntmps84
  go_upto_region 1 with (fail)
  rw [← hV, ← hg]
  have hgV := heap_lt b0
  clear hV hg hin hBV hiV b0 b1 hzV
  go_wp2_with fail
  with_reducible refine hmc.mono ?_
  rintro e w2 ⟨v1, rfl, ho1, hb2⟩
  obtain ⟨A1, a1, rfl, -, -, -⟩ := ho1.form lenMk
  have x0 := bheap HV.out.2.1 hb2 (Nat.le_refl _)
  have x1 := bheap HV.out.2.2.1 hb2 (Nat.le_refl _)
  clear c0 c1 c2 c3 c4 hmc
  obtain ⟨c0, c1, c2, c3, c4⟩ := blk5c x0
  have f1 := frz x0 1
  have hg2 := heap_lt x0
  go_upto_region 2 with (fail)
  obtain ⟨W3, hW3⟩ : ∃ W3, W3 = w2.setCell ⟨g, 1, none⟩ (.slice A1 b.l.length a1) := ⟨_, rfl⟩
  rw [← hW3]
  have hfar : ∀ j, j ≠ g → W3.heap[j]? = w2.heap[j]? := fun j hj => by rw [hW3]; exact Below.heap_setCell _ ⟨g, 1, none⟩ _ j hj
  have x3 : W3.heap[g]? = some (boxO b.t (.slice A1 b.l.length a1) b.vk b.vh b.vd) := by rw [hW3]; exact (set_blk x0).trans (by simp [boxO, Hb.vk, Hb.vh, Hb.vd])
  have y3 := (hfar (g + 1) (by omega)).trans x1
  have hB2 := HV.out.1.trans (hb2.mono HV.out.1.size)
  have hB3 : Below w.heap.size w W3 := by rw [hW3]; exact Below.setCell hB2 (p := ⟨g, 1, none⟩) (by rw [← HV.out.2.2.2.2.2]; exact Nat.le_refl _) _
  have hi3 := HIN.out.below hB3 (Nat.le_refl _)
  have hs2 := hb2.size
  have hz3 : g + 2 ≤ W3.heap.size := by have h1 : W3.heap.size = w2.heap.size := by rw [hW3]; simp [World.setCell]
                                        have := HV.out.2.2.2.2.1; omega
  have ho3 : OwnM W3 (g + 2) (.slice A1 b.l.length a1) b.l := by
    rw [HV.out.2.2.2.2.1] at ho1
    exact ho1.upon fun j hj => hfar j (by omega)
  have H3 := Lib.hid (And.intro x3 (And.intro y3 (And.intro hB3 (And.intro hi3 (And.intro hz3 ho3)))))
  clear hW3 hfar x3 y3 hB2 hB3 hi3 hs2 ho1 hb2 x0 x1 c0 c1 c2 c3 c4 f1 hg2
  have hbd : Below W3.heap.size W3 W3.drew := bdraw (Below.refl _ _)
  have HC := Lib.hid (fun (w' : World) (hp : Below W3.drew.heap.size W3.drew w') => And.intro (blk5c (bheap (bheap H3.out.1 hbd (Nat.le_refl _)) hp (Nat.le_refl _))) (heap_lt (bheap (bheap H3.out.1 hbd (Nat.le_refl _)) hp (Nat.le_refl _))))
  have HI3 := Lib.hid (H3.out.2.2.2.1.below hbd (Nat.le_refl _))
  have hzd : g + 2 ≤ W3.drew.heap.size := hz3
  clear hbd hz3
  go_wp2_with fail
  refine wp_region_tag 7 0 0 [] [] 0 (TBw) (PBw W3.drew) [0, 0, 0, 0, 0, 0, 0] (by as_aux_lemma => kernel_rfl) (by as_aux_lemma => kernel_rfl) (by as_aux_lemma => kernel_rfl) (by as_aux_lemma => kernel_rfl) (by omega) (.inl rfl) rfl rfl (fun k i w1 w2 hc _ hT hp => PBw.st k i w1 w2 hT hp) (fun k => Below.refl _ _) ?_
  apply Exists.intro
  refine ⟨fun ys => ?_, fun ops K hK => ?_⟩
  · simp only [List.take_succ_cons, List.take_zero, dstsOf, List.filterMap_cons, List.filterMap_nil, putAll]
    go_simp
    rfl
  simp only [List.take_succ_cons, List.take_zero, List.drop_succ_cons, List.drop_zero] at hK ⊢
  repeat
    refine LexT.const TBw.rf ?_
    apply Exists.intro
    refine ⟨fun ys w' hp hpk hq hd => ?_, ?_⟩
    · try simp [DepsOf, depsGo, DF.holds, Region.binds, EqF] at hd
      try simp only [hd]
      obtain ⟨⟨c0, c1, c2, c3, c4⟩, hlg⟩ := HC.out w' hp
      intro Q2 hQ2
      go_wp2_with fail
      rfl
    try simp only [List.nil_append, List.cons_append]
  refine LexT.some (FOI (g + 2) b.ks) (fun i v w1 w2 hc _ hT h => FOI.st i v w1 w2 hT h) (fun ys w' hp hpk hq hd => ?_) ?_
  · try simp [DepsOf, depsGo, DF.holds, Region.binds, EqF] at hd
    try simp only [hd]
    have hpz := Below.size hp
    have hci := cloneI_any b.Ak b.ks.length b.ck b.ks w' (HI3.out.k.below hp (Nat.le_refl _)) (by omega)
    clear hp hpk
    intro Q2 hQ2
    go_wp2_with fail
    refine hci.mono ?_
    rintro e w4 ⟨v, rfl, ho, hb⟩
    have HX := Lib.hid (show TBw 0 w' w4 ∧ FOI (g + 2) b.ks v w4 from ⟨hb, ho.mono (by omega)⟩)
    clear ho hb hci
    go_wp2
    exact ⟨_, rfl, HX.out⟩
  try simp only [List.nil_append, List.cons_append]
  repeat
    refine LexT.const TBw.rf ?_
    apply Exists.intro
    refine ⟨fun ys w' hp hpk hq hd => ?_, ?_⟩
    · try simp [DepsOf, depsGo, DF.holds, Region.binds, EqF] at hd
      try simp only [hd]
      obtain ⟨⟨c0, c1, c2, c3, c4⟩, hlg⟩ := HC.out w' hp
      intro Q2 hQ2
      go_wp2_with fail
      rfl
    try simp only [List.nil_append, List.cons_append]
  refine LexT.some (FOD (g + 2) b.ds) (fun i v w1 w2 hc _ hT h => FOD.st i v w1 w2 hT h) (fun ys w' hp hpk hq hd => ?_) ?_
  · try simp [DepsOf, depsGo, DF.holds, Region.binds, EqF] at hd
    try simp only [hd]
    have hpz := Below.size hp
    have hci := cloneD_any b.Ad b.ds.length b.cd b.ds w' (HI3.out.d.below hp (Nat.le_refl _)) (by omega)
    clear hp hpk
    intro Q2 hQ2
    go_wp2_with fail
    refine hci.mono ?_
    rintro e w4 ⟨v, rfl, ho, hb⟩
    have HX := Lib.hid (show TBw 0 w' w4 ∧ FOD (g + 2) b.ds v w4 from ⟨hb, ho.mono (by omega)⟩)
    clear ho hb hci
    go_wp2
    exact ⟨_, rfl, HX.out⟩
  try simp only [List.nil_append, List.cons_append]
  repeat
    refine LexT.const TBw.rf ?_
    apply Exists.intro
    refine ⟨fun ys w' hp hpk hq hd => ?_, ?_⟩
    · try simp [DepsOf, depsGo, DF.holds, Region.binds, EqF] at hd
      try simp only [hd]
      obtain ⟨⟨c0, c1, c2, c3, c4⟩, hlg⟩ := HC.out w' hp
      intro Q2 hQ2
      go_wp2_with fail
      rfl
    try simp only [List.nil_append, List.cons_append]
  refine hK _ fun ys w' hp hF => ?_
  simp [AllF, DF.holds] at hF
  obtain ⟨-, -, f14, -, -, f17, h18⟩ := hF
  replace hp : Below W3.drew.heap.size W3.drew w' := hp
  replace f14 : OwnI w' (g + 2) (ys 14) b.ks := f14
  replace f17 : OwnD w' (g + 2) (ys 17) b.ds := f17
  obtain ⟨A4, a4, e4, -, -, -⟩ := f14.form lenInt
  obtain ⟨A5, a5, e5, -, -, -⟩ := f17.form lenDe
  rw [e4] at f14
  rw [e5] at f17
  simp only [e4, e5, h18]
  have hbd : Below W3.heap.size W3 W3.drew := bdraw (Below.refl _ _)
  have hp3 := hbd.trans (hp.mono hbd.size)
  have x4 := bheap H3.out.1 hp3 (Nat.le_refl _)
  have y4 := bheap H3.out.2.1 hp3 (Nat.le_refl _)
  have o4 := H3.out.2.2.2.2.2.below hp3 (Nat.le_refl _)
  have hz4 := hp3.size
  obtain ⟨c0, c1, c2, c3, c4⟩ := blk5 x4
  have q2 := frz x4 2
  have q4 := frz x4 4
  have hg4 := heap_lt x4
  clear hK e4 e5 h18 hbd hp
  go_upto_region 3 with (fail)
  obtain ⟨W5, hW5⟩ : ∃ W5, W5 = (w'.setCell ⟨g, 2, none⟩ (.slice A4 b.ks.length a4)).setCell ⟨g, 4, none⟩ (.slice A5 b.ds.length a5) := ⟨_, rfl⟩
  rw [← hW5]
  have hfar : ∀ j, j ≠ g → W5.heap[j]? = w'.heap[j]? := fun j hj => by rw [hW5]; exact (Below.heap_setCell _ ⟨g, 4, none⟩ _ j hj).trans (Below.heap_setCell _ ⟨g, 2, none⟩ _ j hj)
  have x5 : W5.heap[g]? = some (boxO b.t (.slice A1 b.l.length a1) (.slice A4 b.ks.length a4) b.vh (.slice A5 b.ds.length a5)) := by rw [hW5]; exact (set_blk (set_blk x4)).trans (by simp [boxO])
  have y5 := (hfar (g + 1) (by omega)).trans y4
  have hB4 := H3.out.2.2.1.trans (hp3.mono H3.out.2.2.1.size)
  have hB5 : Below w.heap.size w W5 := by
    have hgw := HV.out.2.2.2.2.2
    rw [hW5]
    exact Below.setCell (Below.setCell hB4 (p := ⟨g, 2, none⟩) (by dsimp; omega) _) (p := ⟨g, 4, none⟩) (by dsimp; omega) _
  have hs5 : W5.heap.size = w'.heap.size := by rw [hW5]; simp [World.setCell]
  have hz5 : g + 2 ≤ W5.heap.size := by have := H3.out.2.2.2.2.1; omega
  have hi5 := HIN.out.below hB5 (Nat.le_refl _)
  have H5 := Lib.hid (And.intro x5 (And.intro y5 (And.intro hB5 (And.intro (And.intro hi5 hz5) (And.intro (o4.upon fun j hj => hfar j (by omega)) (And.intro (f14.upon fun j hj => hfar j (by omega)) (f17.upon fun j hj => hfar j (by omega))))))))
  have hnh := hi5.h.len
  have hgr := hi5.h
  clear hW5 hfar x5 y5 hB4 hB5 hs5 hz5 hi5 o4 f14 f17 x4 y4 hz4 hp3 c0 c1 c2 c3 c4 q2 q4 hg4
  obtain ⟨c0, c1, c2, c3, c4⟩ := blk5 H5.out.1
  have hg5 := heap_lt H5.out.1
  unfold Hb.vh at c3
  obtain ⟨Ax, hAx⟩ : ∃ A, A = b.Ah := ⟨_, rfl⟩
  obtain ⟨nh, hn⟩ : ∃ n, n = b.hs.length := ⟨_, rfl⟩
  rw [← hAx, ← hn] at c3 hgr
  rw [← hn] at hh
  have hmk : ∀ W : World, (Instr.makeSlice 26 (.int .i64 (nh : Int)) (.int .i64 (nh : Int))).run Try.prog W = .ok (.slice (some ⟨W.heap.size, 0, none⟩) nh nh) (W.alloc (.cells (madeCells #[.slice none 0 0] nh) 22)) :=
    run_make_row' (P := Try.prog) 26 22 (.slice none 0 0) 24 Try.underlying26 (by kernel_rfl) rfl .i64 .i64 nh (by omega) (by omega)
  have HN := Lib.hid (And.intro hn (And.intro hAx hgr))
  clear hn hgr hnh hAx
  go_upto_region 4 with (fail)
  obtain ⟨R, hR⟩ : ∃ R, R = W5.heap.size := ⟨_, rfl⟩
  obtain ⟨W6, hW6⟩ : ∃ W6, W6 = W5.alloc (.cells (madeCells #[.slice none 0 0] nh) 22) := ⟨_, rfl⟩
  rw [← hW6, ← hR]
  have hb6 : Below W5.heap.size W5 W6 := by rw [hW6]; exact bal0 _ _
  have hR6 : RwM R nh b.hs 0 W6 := RwM.start hR hW6
  have hs6 : R < W6.heap.size := by rw [hW6, hR]; simp
  have hgR : g + 2 ≤ R := by have := H5.out.2.2.2.1.2; omega
  have H6 := Lib.hid (And.intro hb6 (And.intro hR6 hR))
  clear hW6 hb6 hR6 hR c0 c1 c2 c3 c4 hmk
  obtain ⟨c0, c1, c2, c3, c4⟩ := blk5 (bheap H5.out.1 H6.out.1 (Nat.le_refl _))
  have hg6 : g < W6.heap.size := by omega
  unfold Hb.vh at c3
  rw [← HN.out.2.1, ← HN.out.1] at c3
  go_wp2_with fail
  go_loopg [4, 5, 27] nh (fun g' v4 v5 v27 wr => ∃ k : Nat, k + g' = nh ∧ v27 = .int .i64 k ∧ RwM R nh b.hs k wr ∧ Below R W5 wr)
  case atStart => exact ⟨0, by omega, rfl, H6.out.2.1, by rw [H6.out.2.2]; exact H6.out.1⟩
  case round =>
    obtain ⟨k, hk, rfl, hM, hB⟩ := hrel
    have hgk := hk
    by_cases hlt : k < nh
    · obtain ⟨b1, o1, B1, row, cr, rfl, hb1, hrow, y0, hri, hrc, hrm⟩ := (HN.out.2.2.below hB (Nat.le_of_eq H6.out.2.2.symm)).get hlt
      have hrl := hr row (List.mem_of_getElem? hrow)
      obtain ⟨m, hm⟩ : ∃ m, m = row.length := ⟨_, rfl⟩
      rw [← hm] at y0 hri hrc hrl
      have hci := cloneI_any B1 m cr row wr hri (by omega)
      have k1 : (k : Int) < (nh : Int) := by omega
      have HM := Lib.hid (And.intro hM (And.intro hB (And.intro hrow hm)))
      obtain ⟨mv, hmv, hRb, -⟩ := hM
      have hRz := heap_lt hRb
      have HC' := Lib.hid hci
      have HRB := Lib.hid hRb
      have HK := Lib.hid hgk
      have hkm : k < mv.length := by omega
      clear hk hB hrow hm hci hri hrl hrc hrm hRb hgk
      go_wp2_with (go_at_call 110; refine HC'.out.mono ?_; rintro e w2 ⟨v2, rfl, ho2, hb2⟩; obtain ⟨A2, c2, rfl, _, _, _⟩ := ho2.form lenInt; have hR2 := bheap HRB.out hb2 (Nat.le_refl _); have yR : w2.cell? ⟨R, k, none⟩ = some mv[k] := (by unfold World.cell?; simp [hR2, hkm]); have fR := frz hR2 k; have hlR := heap_lt hR2; have H2 := Lib.hid (And.intro ho2 hb2); clear ho2 hb2 hR2)
      go_roundg (gk - 1)
      case measure => have := HK.out; omega
      case rel =>
        have hv := H2.out.1.mono (show R + 1 ≤ wr.heap.size from hRz)
        refine ⟨k + 1, by have := HK.out; omega, by go_num, HM.out.1.next H2.out.2 HM.out.2.2.1 hv hlt, Below.setCell (HM.out.2.1.trans (H2.out.2.mono (Nat.le_of_lt hRz))) (p := ⟨R, k, none⟩) (Nat.le_refl _) _⟩
    · obtain rfl : k = nh := by omega
      have hRe : W5.heap.size ≤ R := Nat.le_of_eq H6.out.2.2.symm
      have x7 := bheap H5.out.1 hB hRe
      have y7 := bheap H5.out.2.1 hB hRe
      obtain ⟨c0, c1, c2, c3, c4⟩ := blk5 x7
      obtain ⟨d0, d1, d2, d3, d4⟩ := blk5 y7
      have f3 := frz x7 3
      obtain ⟨e0, e1, e2, e3, e4⟩ := And.intro (frz y7 0) (And.intro (frz y7 1) (And.intro (frz y7 2) (And.intro (frz y7 3) (frz y7 4))))
      have hg7 := heap_lt x7
      have hg8 := heap_lt y7
      have H7 := Lib.hid (And.intro x7 (And.intro y7 (And.intro hM hB)))
      clear x7 y7 hM hB hk hgk hRe
      go_wp2_with fail
      obtain ⟨Z, hZ⟩ : ∃ Z, Z = ((((((wr.setCell ⟨g, 3, none⟩ (.slice (some ⟨R, 0, none⟩) k k)).setCell ⟨g + 1, 0, none⟩ (.int .i64 b.t)).setCell ⟨g + 1, 1, none⟩ (.slice A1 b.l.length a1)).setCell ⟨g + 1, 2, none⟩ (.slice A4 b.ks.length a4)).setCell ⟨g + 1, 3, none⟩ (.slice (some ⟨R, 0, none⟩) k k)).setCell ⟨g + 1, 4, none⟩ (.slice A5 b.ds.length a5)) := ⟨_, rfl⟩
      rw [← hZ]
      have hzb : Z.heap[g + 1]? = some (boxO b.t (.slice A1 b.l.length a1) (.slice A4 b.ks.length a4) (.slice (some ⟨R, 0, none⟩) k k) (.slice A5 b.ds.length a5)) := by
        rw [hZ]
        exact (set_blk (set_blk (set_blk (set_blk (set_blk ((Below.heap_setCell _ ⟨g, 3, none⟩ _ (g + 1) (by dsimp; omega)).trans H7.out.2.1)))))).trans (by simp [boxO])
      have hfar : ∀ j, g + 2 ≤ j → Z.heap[j]? = wr.heap[j]? := fun j hj => by
        rw [hZ, Below.heap_setCell _ ⟨g + 1, 4, none⟩ _ j (by dsimp; omega), Below.heap_setCell _ ⟨g + 1, 3, none⟩ _ j (by dsimp; omega), Below.heap_setCell _ ⟨g + 1, 2, none⟩ _ j (by dsimp; omega), Below.heap_setCell _ ⟨g + 1, 1, none⟩ _ j (by dsimp; omega), Below.heap_setCell _ ⟨g + 1, 0, none⟩ _ j (by dsimp; omega), Below.heap_setCell _ ⟨g, 3, none⟩ _ j (by dsimp; omega)]
      have hgw := HV.out.2.2.2.2.2
      have hRe : W5.heap.size ≤ R := Nat.le_of_eq H6.out.2.2.symm
      have hBz : Below w.heap.size w Z := by
        have h1 := H5.out.2.2.1.trans (H7.out.2.2.2.mono (show w.heap.size ≤ R by omega))
        rw [hZ]
        exact Below.setCell (Below.setCell (Below.setCell (Below.setCell (Below.setCell (Below.setCell h1 (p := ⟨g, 3, none⟩) (by dsimp; omega) _) (p := ⟨g + 1, 0, none⟩) (by dsimp; omega) _) (p := ⟨g + 1, 1, none⟩) (by dsimp; omega) _) (p := ⟨g + 1, 2, none⟩) (by dsimp; omega) _) (p := ⟨g + 1, 3, none⟩) (by dsimp; omega) _) (p := ⟨g + 1, 4, none⟩) (by dsimp; omega) _
      have hge : k = b.hs.length := HN.out.1
      have hOG := RwM.fin (base := w.heap.size) (H7.out.2.2.1.upon fun j hj => hfar j (by omega)) hge.symm (by omega) (by unfold maxLen; omega)
      rw [show Value.slice (some ⟨R, 0, none⟩) k k = .slice (some ⟨R, 0, none⟩) b.hs.length k by rw [← hge]] at hOG
      have h1 := H5.out.2.2.2.2
      have hup : ∀ j, g + 2 ≤ j → Z.heap[j]? = wr.heap[j]? := hfar
      have hHO : HbO Z w.heap.size ⟨b.t, A1, a1, b.l, A4, a4, b.ks, some ⟨R, 0, none⟩, k, b.hs, A5, a5, b.ds⟩ :=
        ⟨((h1.1.below H7.out.2.2.2 hRe).upon hup).mono (by omega), ((h1.2.1.below H7.out.2.2.2 hRe).upon hup).mono (by omega), hOG, ((h1.2.2.below H7.out.2.2.2 hRe).upon hup).mono (by omega)⟩
      obtain ⟨p0, p1, p2, p3, p4⟩ := blk5 hzb
      have HZ := Lib.hid (And.intro hHO hBz)
      have hgz := heap_lt hzb
      have hev : Hb.v ⟨b.t, A1, a1, b.l, A4, a4, b.ks, some ⟨R, 0, none⟩, k, b.hs, A5, a5, b.ds⟩ = .agg #[.int .i64 b.t, .slice A1 b.l.length a1, .slice A4 b.ks.length a4, .slice (some ⟨R, 0, none⟩) k k, .slice A5 b.ds.length a5] := by unfold Hb.v; rw [← hge]
      clear hZ hzb hfar hgw hRe hBz hOG h1 hup hHO
      refine bodyPost_ret (v := Hb.v ⟨b.t, A1, a1, b.l, A4, a4, b.ks, some ⟨R, 0, none⟩, k, b.hs, A5, a5, b.ds⟩) (by rw [hev]; clear hev hge; simp [results, Try.f84, go_sem, p0, p1, p2, p3, p4, hgz]) rfl ⟨⟨_, _, _, _, _, _, _, _, rfl, HZ.out.1⟩, HZ.out.2⟩
end Go.Proofs.Ytmennjmjakdkcaa
