/- TopCounted 17: TyG. -/
import Derived.Test.YtgnjknihgjdedaaTc16
import Derived.Test.YtgnjknihgjdedaaTc10
import Derived.Shelf.Abstract
namespace Go.Proofs.Ytgnjknihgjdedaa
open Go.RowKit Go.MapKept Go.ChangeMaps
set_option linter.unusedVariables false
set_option linter.unusedSimpArgs false
attribute [local go_sem] Oper.semAt_some

theorem wp_walk {ps : Array Tmp} {assign body : Code} {Q : Exit → Act → World → Prop} {a : Act} {g : Operand} {w : World} {T : Ty} {p : Tp} {k M b1 b2 q : Nat} (hk : TyOk T) (hat : TyAt w T p k M) (h1 : w.heap[b1]? = some (ptrO k)) (h2 : SpB w b2 146 (limL T.cs)) (hof : OffT T p k q) (hq1 : b1 ≠ q) (hq2 : b2 ≠ q) (hqw : q < w.heap.size)
    (hg : a.eval g = .func (.func 102) #[] #[.pointer (some ⟨b1, 0, none⟩), .pointer (some ⟨b2, 0, none⟩)]) (hps : ps.size = 2)
    (I : List (Int × Sp) → World → Prop) (Ix : Code → List (Int × Sp) → World → Prop) (hI : OwnFrom w.heap.size I) (hIx : ∀ c, OwnFrom w.heap.size (Ix c)) (hIE : ∀ s A B, I s A → ExX w.heap.size A B → I s B) (h0 : I [] w)
    (Ax : Int × Sp → Act → World → Prop) (hAx : ∀ x a', OwnFrom w.heap.size (fun (_ : Unit) W => Ax x a' W))
    (hassign : ∀ (l : Nat) (pre : List (Int × Sp)) (x : Int × Sp) (W : World) (K : Act → World → Prop), I pre W → pre ++ [x] <+: T.walkL T.g.toNat → (∀ a' W', KeepsFrom w.heap.size W W' → KpX q W W' → I pre W' → Ax x a' W' → K a' W') →
      assign.wpIn (Fence.wide.inRound l) 7 Try.prog (Exit.then K (fun _ _ _ => False)) { tmps := (ps.zip (encN x)).foldl (fun t (p, v) => t.setIfInBounds p v) a.tmps, defers := [] } W)
    (hbody : ∀ (l : Nat) (pre : List (Int × Sp)) (x : Int × Sp) (a' : Act) (W : World), I pre W → Ax x a' W → pre ++ [x] <+: T.walkL T.g.toNat → body.wpIn (Fence.wide.inRound l) 7 Try.prog (roundX (KpX q) w.heap.size I Ix (pre ++ [x]) W) a' W)
    (hdone : ∀ (D : Nat) (xs : List (Int × Sp)) (W : World), w.heap.size ≤ D → xs = T.walkL T.g.toNat → I xs W → W.heap[D]? = some (.deferred (some [])) → Q .normal { a with defers := { target := .collected D, args := #[] } :: a.defers } W)
    (hstop : ∀ (D : Nat) (c : Code) (pre : List (Int × Sp)) (W : World), w.heap.size ≤ D → pre <+: T.walkL T.g.toNat → Ix c pre W → W.heap[D]? = some (.deferred (some [])) → c.wp Try.prog Q { a with defers := { target := .collected D, args := #[] } :: a.defers } W) :
    (Code.rangeFunc g ps assign body).wp Try.prog Q a w := by
  refine (wpIn_wide (n := 9)).1 ?_
  exact wpIn_rangeX rfl (by omega) (gf := 102) (lb := #[.pointer (some ⟨b1, 0, none⟩), .pointer (some ⟨b2, 0, none⟩)]) hg trivial (enters_of Try.func102 (by kernel_rfl) rfl)
    (walk_it 8 (by omega) T p k M b1 b2 q w hk hat h1 h2 hof hq1 hq2 hqw) (fun A B C h1 h2 => h1.tr h2) (fun W l o o' _ h hc _ => KpX.put W l o o' h hc) (fun A B h => h.2) (fun _ => hps.symm)
    I Ix hI hIx hIE h0 Ax hAx hassign hbody hdone
    (fun D c pre W hD hS hi hd => wpIn_wide.2 (hstop D c pre W hD hS hi hd))
theorem walk_mem {T : Ty} {pre : List (Int × Sp)} {x : Int × Sp} {n : Nat} (h : pre ++ [x] <+: T.walkL n) : ∃ g : Nat, g < n ∧ pre.length = g ∧ x = ((g : Int), T.now g) := by
  obtain ⟨r, hr⟩ := h
  have hl := congrArg List.length hr
  simp [Ty.walkL] at hl
  have hx : (T.walkL n)[pre.length]? = some x := by rw [← hr]; simp
  unfold Ty.walkL at hx
  rw [List.getElem?_map, List.getElem?_range (by omega)] at hx
  simp at hx
  exact ⟨pre.length, by omega, rfl, hx.symm⟩
def FBg (T : Ty) (p : Tp) (base : Nat) : VF := fun v w => ∃ k M : Nat, v = .pointer (some ⟨k, 0, none⟩) ∧ base ≤ k ∧ base ≤ M ∧ k ≠ M ∧ w.heap[k]? = some (wkO T p M) ∧ w.heap[M]? = some (.map #[] 0)
theorem FBg.st {T : Ty} {p : Tp} {base : Nat} (i : Nat) (v : Value) (w w' : World) (hT : TYw i w w') (h : FBg T p base v w) : FBg T p base v w' := by
  obtain ⟨k, M, h1, h2, h3, h4, h5, h6⟩ := h
  exact ⟨k, M, h1, h2, h3, h4, bheap h5 hT (Nat.le_refl _), bheap h6 hT (Nat.le_refl _)⟩
set_option maxRecDepth 100000 in
theorem tasked_any (T : Ty) (p : Tp) (w : World) (hk : TyOk T) (hi : TyIn w T p) :
    Calls Try.prog 32 #[tyV T p] w fun e w' => (∃ k M : Nat, e = .returned (.tuple #[.pointer (some ⟨k, 0, none⟩), .int .i64 0]) ∧ w.heap.size ≤ k ∧ w.heap.size ≤ M ∧ k ≠ M ∧ w'.heap[k]? = some (wkO T p M) ∧ w'.heap[M]? = some (.map #[] 0)) ∧ Below w.heap.size w w' := by
  obtain ⟨W, hW⟩ : ∃ W, W = w.alloc (tyO T p) := ⟨_, rfl⟩
  obtain ⟨r, hr⟩ : ∃ r, r = w.heap.size := ⟨_, rfl⟩
  have b0 : W.heap[r]? = some (tyO T p) := by rw [hW, hr]; exact alloc_at rfl
  have hbW : Below w.heap.size w W := by rw [hW]; exact bal0 w _
  have HI := Lib.hid (And.intro hk (And.intro hi (And.intro b0 hbW)))
  have HW := Lib.hid (And.intro hW hr)
  clear hk hi b0 hbW hW hr
  go_enter Try.func32, Try.ntmps32
  go_upto_region 1 with (fail)
  rw [show w.alloc (Obj.cells #[Value.int .i64 T.g, .int .i64 T.f.lo, .int .i64 T.f.hi, .slice p.A T.ch.length p.c, .int .i64 T.m, .slice p.B T.cs.length p.d] 30) = W from HW.out.1.symm, ← HW.out.2]
  have HD := Lib.hid (fun (w' : World) (h : Below W.drew.heap.size W.drew w') => show (w'.cell? ⟨r, 0, none⟩ = some (.int .i64 T.g) ∧ w'.cell? ⟨r, 1, none⟩ = some (.int .i64 T.f.lo) ∧ w'.cell? ⟨r, 2, none⟩ = some (.int .i64 T.f.hi) ∧ w'.cell? ⟨r, 3, none⟩ = some (.slice p.A T.ch.length p.c) ∧ w'.cell? ⟨r, 4, none⟩ = some (.int .i64 T.m) ∧ w'.cell? ⟨r, 5, none⟩ = some (.slice p.B T.cs.length p.d)) ∧ r < w'.heap.size from by
    have h3 := (bdraw (Below.refl W.heap.size W)).trans h
    have h4 := bheap HI.out.2.2.1 h3 (Nat.le_refl _)
    exact ⟨blk6 h4, heap_lt h4⟩)
  refine wp_region_tag 5 0 0 [] [] 0 (TYw) (PYw W.drew) [0, 0, 0, 0, 0] (by as_aux_lemma => kernel_rfl) (by as_aux_lemma => kernel_rfl) (by as_aux_lemma => kernel_rfl) (by as_aux_lemma => kernel_rfl) (by omega) (.inl rfl) rfl rfl (fun k i w1 w2 hc _ hT hp => PYw.st k i w1 w2 hT hp) (fun k => Below.refl _ _) ?_
  apply Exists.intro
  refine ⟨fun ys => ?_, fun ops K hK => ?_⟩
  · simp only [List.take_succ_cons, List.take_zero, dstsOf, List.filterMap_cons, List.filterMap_nil, putAll]
    go_simp
    rfl
  simp only [List.take_succ_cons, List.take_zero, List.drop_succ_cons, List.drop_zero] at hK ⊢
  iterate 1
    refine LexT.const TYw.rf ?_
    apply Exists.intro
    refine ⟨fun ys w' hp hpk hq hd => ?_, ?_⟩
    · try simp [DepsOf, depsGo, DF.holds, Region.binds, EqF] at hd
      try simp only [hd]
      obtain ⟨⟨a0, a1, a2, a3, a4, a5⟩, l1⟩ := HD.out w' hp
      clear hp hpk hq
      intro Q2 hQ2
      go_wp2_with fail
      rfl
    try simp only [List.nil_append, List.cons_append]
  refine LexT.some (FBg T p W.heap.size) (fun i v w1 w2 hc _ hT h => FBg.st i v w1 w2 hT h) (fun ys w' hp hpk hq hd => ?_) ?_
  · try simp [DepsOf, depsGo, DF.holds, Region.binds, EqF] at hd
    try simp only [hd]
    have hz : W.heap.size ≤ w'.heap.size := (show Below W.drew.heap.size W.drew w' from hp).size
    have hcl := tbeg_any T p w'
    unfold tyV at hcl
    clear hp hpk hq hd
    intro Q2 hQ2
    go_wp2_with fail
    (with_reducible refine hcl.mono ?_)
    rintro e w4 ⟨⟨v, rfl, k, M, rfl, h2, h3, h4, h5, h6⟩, hb4⟩
    have HX := Lib.hid (show TYw 0 w' w4 ∧ FBg T p W.heap.size (.pointer (some ⟨k, 0, none⟩)) w4 from ⟨hb4, k, M, rfl, Nat.le_trans hz h2, Nat.le_trans hz h3, h4, h5, h6⟩)
    clear hb4 h2 h3 h4 h5 h6
    go_wp2
    exact ⟨_, rfl, HX.out⟩
  try simp only [List.nil_append, List.cons_append]
  iterate 1
    refine LexT.const TYw.rf ?_
    apply Exists.intro
    refine ⟨fun ys w' hp hpk hq hd => ?_, ?_⟩
    · try simp [DepsOf, depsGo, DF.holds, Region.binds, EqF] at hd
      try simp only [hd]
      obtain ⟨⟨a0, a1, a2, a3, a4, a5⟩, l1⟩ := HD.out w' hp
      clear hp hpk hq
      intro Q2 hQ2
      go_wp2_with fail
      rfl
    try simp only [List.nil_append, List.cons_append]
  refine LexT.some (FYv (.int .i64 0)) (fun i v w1 w2 hc _ hT h => h) (fun ys w' hp hpk hq hd => ?_) ?_
  · try simp [DepsOf, depsGo, DF.holds, Region.binds, EqF] at hd
    try simp only [hd]
    (have hcl := tchk_any T p w' HI.out.1 (HI.out.2.1.below (HI.out.2.2.2.trans (Below.mono ((bdraw (Below.refl W.heap.size W)).trans hp) HI.out.2.2.2.size)) (Nat.le_refl _)); unfold tyV at hcl; clear hp hpk hq hd)
    intro Q2 hQ2
    go_wp2_with fail
    (with_reducible refine (hcl).mono ?_)
    rintro e w4 ⟨rfl, hb4⟩
    have HX := Lib.hid (show TYw 0 w' w4 ∧ FYv (.int .i64 0) (.int .i64 0) w4 from ⟨hb4, rfl⟩)
    clear hb4
    go_wp2
    exact ⟨_, rfl, HX.out⟩
  try simp only [List.nil_append, List.cons_append]
  refine LexT.some (FBg T p W.heap.size) (fun i v w1 w2 hc _ hT h => FBg.st i v w1 w2 hT h) (fun ys w' hp hpk hq hd => ?_) ?_
  · try simp [DepsOf, depsGo, DF.holds, Region.binds, EqF] at hd
    try simp only [hd]
    have HX := Lib.hid (show FBg T p W.heap.size (ys 5) w' by first | exact hd | exact hd.1)
    clear hp hpk hq hd
    intro Q2 hQ2
    go_wp2_with fail
    exact ⟨Below.refl _ _, HX.out⟩
  try simp only [List.nil_append, List.cons_append]
  refine hK _ fun ys w' hp hF => ?_
  simp [AllF, DF.holds] at hF
  obtain ⟨-, -, -, f7, f2⟩ := hF
  have f7 : ys 7 = .int .i64 0 := f7
  obtain ⟨k, M, e2, h2, h3, h4, h5, h6⟩ := f2
  have hz := HI.out.2.2.2.size
  have HX := Lib.hid (And.intro (HI.out.2.2.2.trans (Below.mono ((bdraw (Below.refl W.heap.size W)).trans hp) hz)) (And.intro (Nat.le_trans hz h2) (And.intro (Nat.le_trans hz h3) (And.intro h4 (And.intro h5 h6)))))
  simp only [e2, f7]
  clear hK e2 f7 h2 h3 h4 h5 h6 hp
  go_wp2
  refine bodyPost_ret (v := .tuple #[.pointer (some ⟨k, 0, none⟩), .int .i64 0]) (by simp [results, Try.f32, go_sem]) rfl ?_
  exact ⟨⟨k, M, rfl, HX.out.2.1, HX.out.2.2.1, HX.out.2.2.2.1, HX.out.2.2.2.2.1, HX.out.2.2.2.2.2⟩, HX.out.1⟩
def TyT (T : Ty) : Prop := ∀ g : Nat, (g : Int) < T.g → (T.now g).emp = false
set_option maxRecDepth 100000 in
set_option maxHeartbeats 2000000 in
theorem ttruth_any (T : Ty) (p : Tp) (k M cl : Nat) (w : World) (hk : TyOk T) (hat : TyAt w T p k M) (hM : w.heap[M]? = some (.map #[] cl)) (ht : TyT T) :
    Calls Try.prog 70 #[.pointer (some ⟨k, 0, none⟩), .int .u64 0] w fun e w' => e = .returned (.bool true) ∧ w.grownBy w' (some M) := by
  have hl5 := limL_len T.cs
  have hlb := limL_bd hk.cs
  have hkl := heap_lt hat.b
  have hMl := heap_lt hM
  have hkM : k ≠ M := fun e => by have := hat.b; rw [e, hM] at this; cases this
  refine (callsIn_wide (n := 9)).1 ?_
  refine callsIn_of_wp_marks Try.func70 rfl trivial ?_ rfl
  simp only [Try.ntmps70, List.size_toArray, List.length_cons, List.length_nil, Nat.reduceAdd, Nat.reduceSub, Array.replicate_succ, Array.replicate_zero, List.push_toArray, List.append_toArray, List.nil_append, List.cons_append]
  refine wpIn_wide.2 ?_
  obtain ⟨L, hL⟩ : ∃ L, L = limL T.cs := ⟨_, rfl⟩
  have HL := Lib.hid hL
  rw [← hL] at hl5 hlb
  have HA := Lib.hid (And.intro hk (And.intro hat (And.intro hM (And.intro ht hlb))))
  obtain ⟨c0, c1, c2, c3, c4, c5, c6, c7⟩ := blk8w hat.b
  have f6 := frz hat.b 6
  clear hL hk hat hM ht hlb
  obtain ⟨w1, hw1⟩ : ∃ w1, w1 = w.setCell ⟨k, 6, none⟩ (.int .u64 0) := ⟨_, rfl⟩
  have b1 : w1.heap[k]? = some (wkO T p M) := by rw [hw1, set_blk HA.out.2.1.b]; simp
  have hk1 : KpX k w w1 := by rw [hw1]; exact KpX.set _ _
  have hoff : ∀ j, j ≠ k → w1.heap[j]? = w.heap[j]? := fun j hj => by rw [hw1]; exact Below.heap_setCell w ⟨k, 6, none⟩ _ j hj
  have hall : ∀ j, w1.heap[j]? = w.heap[j]? := fun j => by
    by_cases hj : j = k
    · rw [hj, b1]; exact HA.out.2.1.b.symm
    · exact hoff j hj
  have hsl : ∀ {α : Type} {enc : α → List Value} {sz : Nat} {A : Option Addr} {n : Nat} {l : List α}, Sl enc sz w A n l → Sl enc sz w1 A n l := fun h => ⟨h.1, fun hn => by
    obtain ⟨b, off, e, hc⟩ := h.2 hn
    exact ⟨b, off, e, fun i x hx j u hu => by have := hc i x hx j u hu; unfold World.cell? at this ⊢; rw [hall]; exact this⟩⟩
  have hat1 : TyAt w1 T p k M := ⟨b1, hsl HA.out.2.1.i.a, HA.out.2.1.i.ac, HA.out.2.1.i.am, hsl HA.out.2.1.i.b, HA.out.2.1.i.bc, HA.out.2.1.i.bm⟩
  have hM1 : w1.heap[M]? = some (.map #[] cl) := (hall M).trans HA.out.2.2.1
  have hb01 : Below w.heap.size w w1 := by
    refine ⟨?_, ?_, ?_, ?_, fun j hj => hall j⟩ <;> rw [hw1] <;> first | rfl | simp
  have hsz1 : w1.heap.size = w.heap.size := by rw [hw1]; simp
  have HW1 := Lib.hid (And.intro hw1 (And.intro hat1 (And.intro hM1 (And.intro hb01 hsz1))))
  clear hw1 b1 hk1 hoff hall hsl hat1 hM1 hb01 hsz1
  have hlm := tlim_any T p k M w1 HW1.out.2.1.b HW1.out.2.1.i HA.out.1
  rw [← HL.out] at hlm
  go_wp2_with fail
  go_step3
  go_wp2_with (first
    | (go_at_call 72; rw [← HW1.out.1]; (with_reducible refine hlm.mono ?_); rintro e w2 ⟨rfl, hb2⟩; have bz : (w2.alloc z10).heap[w2.heap.size]? = some z10 := alloc_at rfl; have HB2 := Lib.hid hb2; clear hb2)
    | ((with_reducible apply wp_storeL bz rfl hl5); (rfl); (rfl); (rfl); (rfl); intro w3 b3 g3 z3))
  clear hlm c0 c1 c2 c3 c4 c5 c6 c7 f6
  obtain ⟨x, hx⟩ : ∃ x, x = w2.heap.size := ⟨_, rfl⟩
  rw [← hx] at b3 g3 ⊢
  have hz2 : w1.heap.size ≤ x := by rw [hx]; exact HB2.out.size
  have hb13 : Below w1.heap.size w1 w3 := ((HB2.out.trans ((bal0 w2 _).mono HB2.out.size)).grown g3 (Below.size (HB2.out.trans ((bal0 w2 z10).mono HB2.out.size))) (fun j e => by cases e; exact hz2))
  have hat3 := HW1.out.2.1.below hb13 (Nat.le_refl _)
  have hM3 := bheap HW1.out.2.2.1 hb13 (Nat.le_refl _)
  have hx3 : x < w3.heap.size := b3.lt
  have hkx : k < x := by have := heap_lt HW1.out.2.1.b; omega
  have hMx : M < x := by have := heap_lt HW1.out.2.2.1; omega
  have HB3 := Lib.hid (And.intro hat3 (And.intro hM3 (And.intro b3 (And.intro hb13 (And.intro hx hz2)))))
  have HD := Lib.hid (fun (w' : World) (h : Below w3.drew.heap.size w3.drew w') => show w'.cell? ⟨k, 7, none⟩ = some (.map (some M)) ∧ SpB w' x 146 L ∧ w'.heap[M]? = some (.map #[] cl) ∧ k < w'.heap.size ∧ M < w'.heap.size ∧ x < w'.heap.size from by
    have h3 := (bdraw (Below.refl w3.heap.size w3)).trans h
    have h4 := hat3.below h3 (Nat.le_refl _)
    have h5 := bheap hM3 h3 (Nat.le_refl _)
    have h6 := b3.below h3 (Nat.le_refl _)
    exact ⟨(blk8w h4.b).2.2.2.2.2.2.2, h6, h5, heap_lt h4.b, heap_lt h5, h6.lt⟩)
  clear hb13 hat3 hM3 b3 g3 z3 bz hx hz2
  refine wp_region_tag 10 0 0 [] [] 0 (TYw) (PYw w3.drew) [0, 0, 0, 0, 0, 0, 0, 0, 0, 0] (by as_aux_lemma => kernel_rfl) (by as_aux_lemma => kernel_rfl) (by as_aux_lemma => kernel_rfl) (by as_aux_lemma => kernel_rfl) (by omega) (.inl rfl) rfl rfl (fun k i w1 w2 hc _ hT hp => PYw.st k i w1 w2 hT hp) (fun k => Below.refl _ _) ?_
  apply Exists.intro
  refine ⟨fun ys => ?_, fun ops K hK => ?_⟩
  · simp only [List.take_succ_cons, List.take_zero, dstsOf, List.filterMap_cons, List.filterMap_nil, putAll]
    go_simp
    rfl
  simp only [List.take_succ_cons, List.take_zero, List.drop_succ_cons, List.drop_zero] at hK ⊢
  iterate 4
    refine LexT.const TYw.rf ?_
    apply Exists.intro
    refine ⟨fun ys w' hp hpk hq hd => ?_, ?_⟩
    · try simp [DepsOf, depsGo, DF.holds, Region.binds, EqF] at hd
      try simp only [hd]
      obtain ⟨c7, -, -, l1, -, -⟩ := HD.out w' hp
      clear hp hpk hq
      intro Q2 hQ2
      go_wp2_with fail
      rfl
    try simp only [List.nil_append, List.cons_append]
  refine LexT.const TYw.rf ?_
  apply Exists.intro
  refine ⟨fun ys w' hp hpk hq hd => ?_, ?_⟩
  · try simp [DepsOf, depsGo, DF.holds, Region.binds, EqF] at hd
    try simp only [hd]
    (have hs := (HD.out w' hp).2.1)
    clear hp hpk hq
    intro Q2 hQ2
    go_wp2_with ((with_reducible apply wp_loadL hs hl5); (rfl); (rfl); (rfl))
    rfl
  try simp only [List.nil_append, List.cons_append]
  refine LexT.const TYw.rf ?_
  apply Exists.intro
  refine ⟨fun ys w' hp hpk hq hd => ?_, ?_⟩
  · try simp [DepsOf, depsGo, DF.holds, Region.binds, EqF] at hd
    try simp only [hd]
    (have hm := run_lookL hl5 HA.out.2.2.2.2 (HD.out w' hp).2.2.1)
    clear hp hpk hq
    intro Q2 hQ2
    go_wp2_with (fail)
    rfl
  try simp only [List.nil_append, List.cons_append]
  iterate 4
    refine LexT.const TYw.rf ?_
    apply Exists.intro
    refine ⟨fun ys w' hp hpk hq hd => ?_, ?_⟩
    · try simp [DepsOf, depsGo, DF.holds, Region.binds, EqF] at hd
      try simp only [hd]
      obtain ⟨c7, -, -, l1, -, -⟩ := HD.out w' hp
      clear hp hpk hq
      intro Q2 hQ2
      go_wp2_with fail
      rfl
    try simp only [List.nil_append, List.cons_append]
  refine hK _ fun ys w' hp hF => ?_
  simp [AllF, DF.holds] at hF
  have hpB : Below w3.heap.size w3 w' := (bdraw (Below.refl w3.heap.size w3)).trans hp
  have hs := HB3.out.2.2.1.below hpB (Nat.le_refl _)
  have hb1w : Below w1.heap.size w1 w' := HB3.out.2.2.2.1.trans (hpB.mono HB3.out.2.2.2.1.size)
  have HX := Lib.hid (And.intro hs (And.intro (HB3.out.1.below hpB (Nat.le_refl _)) (And.intro (bheap HB3.out.2.1 hpB (Nat.le_refl _)) hb1w)))
  simp only [hF]
  have hzx : x < w'.heap.size := hs.lt
  have hs' := hs.below (bal0 w' (Obj.cells #[.bool true] 4)) (Nat.le_refl _)
  have HS' := Lib.hid hs'
  clear hK hp hpB hb1w hF hs hs'
  have hwk := fun w => twalk_any k L w hl5
  go_wp2_with (first
    | ((with_reducible apply wp_loadL HS'.out hl5); (rfl); (rfl); (rfl))
    | (go_at_call 71; (with_reducible refine (hwk _).mono ?_); rintro e w5 ⟨rfl, hb5, p5, q5, z5⟩))
  go_step3
  go_wp2_with (first
    | ((with_reducible apply wp_loadL HS'.out hl5); (rfl); (rfl); (rfl))
    | (go_at_call 71; (with_reducible refine (hwk _).mono ?_); rintro e w5 ⟨rfl, hb5, p5, q5, z5⟩))
  obtain ⟨y, hy⟩ : ∃ y, y = w'.heap.size := ⟨_, rfl⟩
  have y1 : (w'.alloc (Obj.cells #[Value.bool true] 4)).heap.size = y + 1 := by rw [hy]; simp
  have by0 : (w'.alloc (Obj.cells #[Value.bool true] 4)).heap[y]? = some (.cells #[.bool true] 4 (0, 0)) := by rw [hy]; exact alloc_at rfl
  have hb45 : Below w'.heap.size w' w5 := (bal0 w' _).trans (hb5.mono (by simp))
  have by5 := bheap by0 hb5 (Nat.le_refl _)
  rw [y1] at p5 q5
  rw [← hy]
  have hat5 := HX.out.2.1.below hb45 (Nat.le_refl _)
  have hM5 := bheap HX.out.2.2.1 hb45 (Nat.le_refl _)
  have hx5 := HX.out.1.below hb45 (Nat.le_refl _)
  have hB5 : Below w1.heap.size w1 w5 := HX.out.2.2.2.trans (hb45.mono HX.out.2.2.2.size)
  have hyl : y < w5.heap.size := heap_lt by5
  have hxy : x < y := by omega
  have H5 := Lib.hid (And.intro hat5 (And.intro hM5 (And.intro hx5 (And.intro hB5 (And.intro by5 (HX.out.2.1.off (Nat.le_of_eq hy.symm)))))))
  rw [HL.out] at q5
  clear y1 by0 hb5 hb45 by5 hy hat5 hM5 hx5 hB5 z5 hwk
  refine wp_walk HA.out.1 H5.out.1 p5 q5 H5.out.2.2.2.2.2 (by omega) (by omega) hyl rfl rfl
    (fun _ W => Below w5.heap.size w5 W) (fun _ _ _ => False) (ownFrom_below (Nat.le_refl _) (Nat.le_refl _)) (fun c s A B row hs hg hr => hs.elim) (fun s A B h e => Below.trans h e.1) (Below.refl _ _)
    (fun x' a' W => ∃ B, w5.heap.size ≤ B ∧ W.heap[B]? = some (spO x'.2) ∧ a' = { tmps := #[.pointer (some ⟨k, 0, none⟩), .int .u64 0, undef, undef, .bool false, .pointer (some ⟨x, 0, none⟩), .bool false, .bool false, .pointer (some ⟨y, 0, none⟩), undef, .pointer (some ⟨B, 0, none⟩), .pointer (some ⟨k, 0, none⟩), .int .u64 0, .pointer (some ⟨k, 0, none⟩), .pointer (some ⟨k, 6, none⟩), .pointer (some ⟨k, 0, none⟩), .agg (lcs L), .tuple #[.bool false, .bool false], .pointer (some ⟨k, 0, none⟩), .pointer (some ⟨k, 0, none⟩), .pointer (some ⟨k, 7, none⟩), .map (some M), .agg (lcs L), .tuple #[.bool false, .bool false], .bool false, .bool false, .bool false, undef, .pointer (some ⟨k, 0, none⟩), .agg (lcs L), .func (.func 102) #[] #[.pointer (some ⟨y + 1, 0, none⟩), .pointer (some ⟨y + 1 + 1, 0, none⟩)], .int .i64 x'.1, spV x'.2, undef, undef, undef, undef, undef, undef, undef, undef, undef, undef], defers := [] })
    (fun x' a' _ A B row hs hg hr => by
      obtain ⟨Bx, h1, h2, h3⟩ := hs
      exact ⟨Bx, h1, blk_kept h2 rfl hg (fun r e => (hr r e).2), h3⟩)
    ?assign ?body ?done ?stop
  case assign =>
    rintro l pre x' W K hB hx hK
    unfold encN spV
    gi_wp2
    exact hK _ _ ((KeepsOthers.alloc _ _).from _) (KpX.of_below (bal0 _ _)) (hB.alloc hB.size _) ⟨W.heap.size, hB.size, alloc_at rfl, rfl⟩
  case body =>
    rintro l pre x' a' W hB ⟨Bx, hBx, hbx, rfl⟩ hx
    obtain ⟨g, hg, -, rfl⟩ := walk_mem hx
    obtain ⟨s, hs⟩ : ∃ s, s = T.now g := ⟨_, rfl⟩
    have hse : s.emp = false := by rw [hs]; exact HA.out.2.2.2.1 g (by have := HA.out.1.g; omega)
    have hce := fun w => temp_any s w
    rw [hse] at hce
    dsimp only at hbx ⊢
    rw [← hs] at hbx ⊢
    obtain ⟨s0, s1⟩ := blk2 hbx
    have hbl := heap_lt hbx
    have HB := Lib.hid (And.intro hB hx)
    clear hB hx hbx hs hse
    gi_wp2_with (refine ⟨trivial, ?_⟩; gi_at_call 79; refine (inRnd (hce _)).mono ?_; rintro e w7 ⟨rfl, hb7⟩; have HB7 := Lib.hid hb7; clear hb7)
    exact ⟨((ExX.of_below (base := 0) (Nat.zero_le _) HB7.out).2).from _, KpX.of_below HB7.out, HB.out.1.trans (HB7.out.mono HB.out.1.size)⟩
  case done =>
    rintro D xs W hD hS hB hd
    have hat := H5.out.1.below hB (Nat.le_refl _)
    have hM := bheap H5.out.2.1 hB (Nat.le_refl _)
    have hs := H5.out.2.2.1.below hB (Nat.le_refl _)
    have by7 := bheap H5.out.2.2.2.2.1 hB (Nat.le_refl _)
    have HD7 := Lib.hid (fun (w' : World) (h : Below W.drew.heap.size W.drew w') => show w'.cell? ⟨k, 7, none⟩ = some (.map (some M)) ∧ SpB w' x 146 L ∧ w'.heap[M]? = some (.map #[] cl) ∧ w'.cell? ⟨y, 0, none⟩ = some (.bool true) ∧ k < w'.heap.size ∧ y < w'.heap.size from by
      have h3 := (bdraw (Below.refl W.heap.size W)).trans h
      have h4 := hat.below h3 (Nat.le_refl _)
      have h5 := bheap by7 h3 (Nat.le_refl _)
      exact ⟨(blk8w h4.b).2.2.2.2.2.2.2, hs.below h3 (Nat.le_refl _), bheap hM h3 (Nat.le_refl _), blk1 h5, heap_lt h4.b, heap_lt h5⟩)
    have HW7 := Lib.hid (And.intro hB (And.intro hd hD))
    clear hat hM hs by7 hB hd hS HD
    go_wp2
    refine wp_region_tag 6 0 0 [] [] 0 (TYw) (PYw W.drew) [0, 0, 0, 0, 0, 0] (by as_aux_lemma => kernel_rfl) (by as_aux_lemma => kernel_rfl) (by as_aux_lemma => kernel_rfl) (by as_aux_lemma => kernel_rfl) (by omega) (.inl rfl) rfl rfl (fun k i w1 w2 hc _ hT hp => PYw.st k i w1 w2 hT hp) (fun k => Below.refl _ _) ?_
    apply Exists.intro
    refine ⟨fun ys => ?_, fun ops K hK => ?_⟩
    · simp only [List.take_succ_cons, List.take_zero, dstsOf, List.filterMap_cons, List.filterMap_nil, putAll]
      go_simp
      rfl
    simp only [List.take_succ_cons, List.take_zero, List.drop_succ_cons, List.drop_zero] at hK ⊢
    iterate 4
      refine LexT.const TYw.rf ?_
      apply Exists.intro
      refine ⟨fun ys w' hp hpk hq hd => ?_, ?_⟩
      · try simp [DepsOf, depsGo, DF.holds, Region.binds, EqF] at hd
        try simp only [hd]
        obtain ⟨c7, -, -, -, l1, -⟩ := HD7.out w' hp
        clear hp hpk hq
        intro Q2 hQ2
        go_wp2_with fail
        rfl
      try simp only [List.nil_append, List.cons_append]
    refine LexT.const TYw.rf ?_
    apply Exists.intro
    refine ⟨fun ys w' hp hpk hq hd => ?_, ?_⟩
    · try simp [DepsOf, depsGo, DF.holds, Region.binds, EqF] at hd
      try simp only [hd]
      (have hs := (HD7.out w' hp).2.1)
      clear hp hpk hq
      intro Q2 hQ2
      go_wp2_with ((with_reducible apply wp_loadL hs hl5); (rfl); (rfl); (rfl))
      rfl
    try simp only [List.nil_append, List.cons_append]
    iterate 1
      refine LexT.const TYw.rf ?_
      apply Exists.intro
      refine ⟨fun ys w' hp hpk hq hd => ?_, ?_⟩
      · try simp [DepsOf, depsGo, DF.holds, Region.binds, EqF] at hd
        try simp only [hd]
        obtain ⟨-, -, -, c7, -, l1⟩ := HD7.out w' hp
        clear hp hpk hq
        intro Q2 hQ2
        go_wp2_with fail
        rfl
      try simp only [List.nil_append, List.cons_append]
    refine hK _ fun ys w' hp hF => ?_
    simp [AllF, DF.holds] at hF
    have hcl := HD7.out w' hp
    obtain ⟨ob, hrun⟩ := run_putL hl5 HA.out.2.2.2.2 true hcl.2.2.1
    have hpB : Below W.heap.size W w' := (bdraw (Below.refl W.heap.size W)).trans hp
    have hc8 := hcl.2.2.2.1
    have hyl7 := hcl.2.2.2.2.2
    have HP := Lib.hid (And.intro hpB hcl.2.2.1)
    simp only [hF]
    clear hK hp hF hcl hpB
    obtain ⟨Z, hZ⟩ : ∃ Z : World, Z = { w' with heap := w'.heap.setIfInBounds M ob } := ⟨_, rfl⟩
    have zo : ∀ j, j ≠ M → Z.heap[j]? = w'.heap[j]? := fun j hj => by rw [hZ]; exact Array.getElem?_setIfInBounds_ne (fun e => hj e.symm)
    have c9 : Z.cell? ⟨y, 0, none⟩ = some (.bool true) := by
      unfold World.cell? at hc8 ⊢
      rw [zo y (by omega)]; exact hc8
    have zs : Z.heap.size = w'.heap.size := by rw [hZ]; simp
    have zy : y < Z.heap.size := by rw [zs]; exact hyl7
    have HZ := Lib.hid (And.intro zo (And.intro zs (show Z.os = w'.os ∧ Z.tape = w'.tape ∧ Z.output = w'.output by rw [hZ]; exact ⟨rfl, rfl, rfl⟩)))
    rw [← hZ] at hrun
    clear hZ zo zs
    go_wp2
    try rw [Exit.noGoto_ret]
    try go_wp2
    have h5s := H5.out.2.2.2.1.size
    have h1s := HW1.out.2.2.2.2
    have hDM : D ≠ M := by have := HW7.out.2.2; omega
    have hdz : Z.heap[D]? = some (.deferred (some [])) := (HZ.out.1 D hDM).trans (bheap HW7.out.2.1 HP.out.1 (Nat.le_refl _))
    have hB : Below w.heap.size w w' := by
      have h1 := HW1.out.2.2.2.1.trans (H5.out.2.2.2.1.mono HW1.out.2.2.2.1.size)
      have h2 := h1.trans (HW7.out.1.mono h1.size)
      exact h2.trans (HP.out.1.mono h2.size)
    refine ⟨by simp, .inl ⟨_, _, rfl, run_takeDeferred hdz, ?_⟩⟩
    refine ⟨_, results_tmp rfl _ _ _, rfl, ?_⟩
    obtain ⟨e1, e2, e3⟩ := HZ.out.2.2
    refine ⟨e1.trans hB.os, e2.trans hB.tape, e3.trans hB.output, by simp; rw [HZ.out.2.1]; exact hB.size, fun j hj hjM => ?_⟩
    have hjD : j ≠ D := by have := HW7.out.2.2; omega
    exact ((World.putObj_heap_other hjD).trans (HZ.out.1 j (fun e => hjM (by rw [e])))).trans (hB.block j hj)
  case stop => exact fun D c pre W _ _ h => h.elim
end Go.Proofs.Ytgnjknihgjdedaa
