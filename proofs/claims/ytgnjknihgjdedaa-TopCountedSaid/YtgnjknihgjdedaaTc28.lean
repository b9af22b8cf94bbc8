/- TopCounted 28: App0, TcB, TcF. -/
import Derived.Test.YtgnjknihgjdedaaTc04
import Derived.Test.YtgnjknihgjdedaaTc14
import Derived.Test.YtgnjknihgjdedaaTc18
import Derived.Test.YtgnjknihgjdedaaTc20
import Derived.Test.YtgnjknihgjdedaaTc21
namespace Go.Proofs.Ytgnjknihgjdedaa
open Go.RowKit
set_option linter.unusedVariables false
set_option linter.unusedSimpArgs false

theorem wp_apps0 {α : Type} {enc : α → List Value} {P : Program} {t e : TypeId} {sz bytes : Nat} (E : ElemOk P t e sz bytes) {ops : Array Oper} {rest : List Oper} {o : Oper} {a : Act} {Q : Exit → Act → World → Prop} {w : World}
    (hgd : o.guard = none) (s x : Operand) (ho : o.op = .call { callee := .builtin .append, args := #[s, x], argTypes := #[t, t] })
    (base q : Nat) (A : Option Addr) (m c : Nat) (l2 : List α) (hs : a.eval s = .slice (some ⟨q, 0, none⟩) 0 0) (hq : w.heap[q]? = some (.cells #[] e (0, 0))) (hx : a.eval x = .slice A m c) (hl2 : Sl enc sz w A m l2) (hz : A = none → c = 0)
    (hlen : ∀ x, (enc x).length = sz) (h1 : ∀ x, ∀ u ∈ enc x, u.oneCell' = true) (hll : m < 4294967296) (hby : bytes ≤ 4096) (hbase : base ≤ q)
    (h : ∀ v' w', Own enc e sz w' base v' l2 → Below w.heap.size w w' → wpList P ops Q rest (a.put o.dst v') w') :
    wpList P ops Q (o :: rest) a w := by
  obtain ⟨i, z, hi, hzz, hsize, hbytes, hzs⟩ := E.info
  have hql := heap_lt hq
  have hown0 : Own enc e sz w base (.slice (some ⟨q, 0, none⟩) 0 0) ([] : List α) := ⟨by simp, .inr ⟨q, 0, #[], rfl, hbase, hq, Nat.le_refl _, by simp [maxLen], by simp, by simp⟩⟩
  cases A with
  | none =>
    have hc := hz rfl
    subst hc
    have hm : m = 0 := by
      rcases Nat.eq_zero_or_pos m with h0 | h0
      · exact h0
      · obtain ⟨b, off, hA, _⟩ := hl2.2 h0; cases hA
    subst hm
    have hl0 : l2 = [] := List.eq_nil_of_length_eq_zero hl2.1
    subst hl0
    refine wpList_append_own_none hgd s x t ho base e i sz E.sl hi (.slice (some ⟨q, 0, none⟩) 0 0) 0 [] hs hown0 hx ?_
    exact h _ w hown0 (Below.refl _ _)
  | some ad =>
    have hnews : ∀ j u, (l2.flatMap enc)[j]? = some u → w.cell? (ad.add j) = some u := by
      intro j u hu
      obtain ⟨y, hy, hu2⟩ := flat_at E.pos hlen l2 j u hu
      have hlt := (List.getElem?_eq_some_iff.1 hy).1
      obtain ⟨b, off, hA, hc⟩ := hl2.2 (hl2.1 ▸ Nat.lt_of_le_of_lt (Nat.zero_le _) hlt)
      cases hA
      have := hc _ y hy _ u hu2
      rw [Addr.add_lit]
      have e1 : off + j / sz * sz + j % sz = off + j := by rw [Nat.add_assoc, Nat.div_add_mod']
      rw [e1] at this
      exact this
    have h1' : ∀ u ∈ l2.flatMap enc, u.oneCell' = true := by
      intro u hu
      obtain ⟨y, hy, hu2⟩ := List.mem_flatMap.1 hu
      exact h1 y u hu2
    have hll2 : (l2.flatMap enc).length = m * sz := by rw [flat_len hlen, hl2.1]
    subst hsize
    subst hbytes
    rcases Nat.eq_zero_or_pos m with hm | hm
    · subst hm
      have hl0 : l2 = [] := List.eq_nil_of_length_eq_zero hl2.1
      subst hl0
      refine wpList_plain hgd fun _ hK => ?_
      have hr := run_append_room (P := P) w t o.type e i E.sl hi q 0 0 #[] hq ad 0 c [] (by simp) (by simp) (by simp) (Nat.le_refl _) (by simp)
      unfold Oper.wp execOp
      simp only [ho, resolve, invoke, builtin, Sem.run_bind, Sem.run_pure, Result.andThen_ok, List.map_toArray, List.map_cons, List.map_nil, hs, hx, hr]
      refine hK _ _ (h _ _ ?_ ?_)
      · exact ⟨by simp, .inr ⟨q, 0, #[], rfl, hbase, (setRow_heap w q #[] _ e _ hq).trans (by simp), Nat.le_refl _, by simp [maxLen], by simp, by simp⟩⟩
      · refine ⟨rfl, rfl, rfl, by simp, fun j hj => ?_⟩
        by_cases hjq : j = q
        · subst hjq; rw [hq]; exact (setRow_heap w j #[] _ e _ hq).trans (by simp)
        · exact setRow_other w q j _ hjq
    · refine wpList_plain hgd fun _ hK => ?_
      have hr := run_append_grow (P := P) w t o.type e i z E.sl hi hzz ⟨q, 0, none⟩ 0 0 [] (by simp) (by simp) ad m c (l2.flatMap enc) hll2 hnews (by omega) (by omega) (growslice_fits (by omega) (by
        calc (0 + m) * i.bytes ≤ 4294967296 * 4096 := Nat.mul_le_mul (by omega) hby
          _ ≤ 140737488355328 := by omega))
      simp only [Nat.zero_add] at hr
      unfold Oper.wp execOp
      simp only [ho, resolve, invoke, builtin, Sem.run_bind, Sem.run_pure, Result.andThen_ok, List.map_toArray, List.map_cons, List.map_nil, hs, hx, hr]
      have hge := grownCap_ge w m 0 e
      have hcm : grownCap w m 0 e ≤ maxLen := grownCap_le_maxLen w m 0 e (by unfold maxLen; omega)
      refine hK _ _ (h _ _ ?_ ?_)
      · refine ⟨hll2.trans (by rw [hl2.1]), .inr ⟨w.heap.size, _, _, by rw [hl2.1], by omega, heap_alloc_new w.drew _, by rw [hl2.1]; omega, hcm, ?_, ?_⟩⟩
        · simp only [Array.size_append, List.size_toArray, size_zeroCells, hzs, hll2, List.length_nil, Nat.zero_add, Nat.zero_mul, ← Nat.add_mul]
          congr 1
          omega
        · simp only [Array.toList_append, List.nil_append, hl2.1, ← hll2]
          exact List.take_left
      · refine ⟨rfl, rfl, rfl, by simp, fun j hj => heap_alloc_old w.drew _ hj⟩
end Go.Proofs.Ytgnjknihgjdedaa
namespace Go.Proofs.Ytgnjknihgjdedaa
open Go.RowKit
set_option linter.unusedVariables false
set_option linter.unusedSimpArgs false
def FE0s (B : Nat) : VF := fun v w => ∃ r, v = .slice (some ⟨r, 0, none⟩) 0 0 ∧ B ≤ r ∧ w.heap[r]? = some (.cells #[] 26 (0, 0))
theorem FE0s.st {B : Nat} (i : Nat) (v : Value) (w w' : World) (hT : TBw i w w') (h : FE0s B v w) : FE0s B v w' := by
  obtain ⟨r, h1, h2, h3⟩ := h
  exact ⟨r, h1, h2, (Below.block hT r (heap_lt h3)).trans h3⟩
def FE0c (B : Nat) : VF := fun v w => ∃ r, v = .slice (some ⟨r, 0, none⟩) 0 0 ∧ B ≤ r ∧ w.heap[r]? = some (.cells #[] 76 (0, 0))
theorem FE0c.st {B : Nat} (i : Nat) (v : Value) (w w' : World) (hT : TBw i w w') (h : FE0c B v w) : FE0c B v w' := by
  obtain ⟨r, h1, h2, h3⟩ := h
  exact ⟨r, h1, h2, (Below.block hT r (heap_lt h3)).trans h3⟩
theorem FSpo.st {B : Nat} {l : List Sp} (i : Nat) (v : Value) (w w' : World) (hT : TBw i w w') (h : FSpo B l v w) : FSpo B l v w' := Own.below (show OwnSp w B v l from h) hT (Nat.le_refl _)
theorem FCto.st {B : Nat} {l : List Ct} (i : Nat) (v : Value) (w w' : World) (hT : TBw i w w') (h : FCto B l v w) : FCto B l v w' := Own.below (show OwnCt w B v l from h) hT (Nat.le_refl _)
structure TyZ (w : World) (T : Ty) (p : Tp) : Prop where
  i : TyIn w T p
  a : p.A = none → p.c = 0
  b : p.B = none → p.d = 0
def CopR (T : Ty) (w : World) (e : Ending) (w' : World) : Prop := (∃ p', e = .returned (tyV T p') ∧ TyO w' w.heap.size T p') ∧ Below w.heap.size w w'
set_option maxRecDepth 100000 in
set_option maxHeartbeats 2000000 in
theorem copT_any (T : Ty) (p : Tp) (w : World) (hi : TyZ w T p) (hn : T.ch.length ≤ 1000) (hs : T.cs.length ≤ 1000) :
    Calls Try.prog 26 #[tyV T p] w (CopR T w) := by
  obtain ⟨q, hq⟩ : ∃ q, q = w.heap.size := ⟨_, rfl⟩
  obtain ⟨V, hV⟩ : ∃ V, V = (w.alloc (tyO T p)).alloc (tyC 0 0 0 (.slice none 0 0) 0 (.slice none 0 0)) := ⟨_, rfl⟩
  have b0 : V.heap[q]? = some (tyO T p) := by rw [hV, hq]; exact hblk_alloc (alloc_at rfl) _
  have b2 : V.heap[q + 1]? = some (tyC 0 0 0 (.slice none 0 0) 0 (.slice none 0 0)) := by rw [hV, hq]; exact alloc_at (by simp)
  have hBV : Below w.heap.size w V := by rw [hV]; exact bal (bal0 w _) (Nat.le_refl _) _
  have hiV := hi.i.below hBV (Nat.le_refl _)
  have hzV : V.heap.size = q + 2 := by rw [hV, hq]; simp
  have HV := Lib.hid (And.intro hBV (And.intro b0 (And.intro b2 (And.intro hzV hq))))
  have HA := Lib.hid (And.intro hi.a hi.b)
  obtain ⟨c0, c1, c2, c3, c4, c5⟩ := blk6 b0
  have hql := heap_lt b0
  obtain ⟨R, hR⟩ : ∃ R, R = CopR T w := ⟨_, rfl⟩
  rw [← hR]
  have HR := Lib.hid hR
  clear hR hi
  go_enter Try.func26, Try.ntmps26
  go_upto_region 1 with (fail)
  rw [show (w.alloc (Obj.cells #[.int .i64 T.g, .int .i64 T.f.lo, .int .i64 T.f.hi, .slice p.A T.ch.length p.c, .int .i64 T.m, .slice p.B T.cs.length p.d] 30)).alloc (Obj.cells #[.int .i64 0, .int .i64 0, .int .i64 0, .slice none 0 0, .int .i64 0, .slice none 0 0] 30) = V from hV.symm]
  rw [← hq]
  have HI : Hid (TyIn V.drew T p) := Lib.hid (hiV.below (bdraw (Below.refl _ _)) (Nat.le_refl _))
  clear hV hq hBV hiV b0 b2 hzV
  obtain ⟨B, hB⟩ : ∃ B, B = V.drew.heap.size := ⟨_, rfl⟩
  have hqB : q + 1 < B := by rw [hB]; exact heap_lt HV.out.2.2.1
  have HB := Lib.hid hB
  have HC := Lib.hid (fun (w' : World) (hp : Below V.drew.heap.size V.drew w') => And.intro (blk6 (bheap (show V.drew.heap[q]? = _ from HV.out.2.1) hp (Nat.le_refl _))) (heap_lt (bheap (show V.drew.heap[q]? = _ from HV.out.2.1) hp (Nat.le_refl _))))
  clear hB
  refine wp_region_tag 9 0 0 [] [] 0 (TBw) (PBw V.drew) [0, 0, 0, 0, 0, 0, 0, 0, 0] (by as_aux_lemma => kernel_rfl) (by as_aux_lemma => kernel_rfl) (by as_aux_lemma => kernel_rfl) (by as_aux_lemma => kernel_rfl) (by omega) (.inl rfl) rfl rfl (fun k i w1 w2 hc _ hT hp => PBw.st k i w1 w2 hT hp) (fun k => Below.refl _ _) ?_
  apply Exists.intro
  refine ⟨fun ys => ?_, fun ops K hK => ?_⟩
  · simp only [List.take_succ_cons, List.take_zero, dstsOf, List.filterMap_cons, List.filterMap_nil, putAll]
    go_simp
    rfl
  simp only [List.take_succ_cons, List.take_zero, List.drop_succ_cons, List.drop_zero] at hK ⊢
  refine LexT.some (FE0s B) (fun i v w1 w2 hc _ hT h => FE0s.st i v w1 w2 hT h) (fun ys w' hp hpk hq hd => ?_) ?_
  · try simp [DepsOf, depsGo, DF.holds, Region.binds, EqF] at hd
    try simp only [hd]
    have hpz : B ≤ w'.heap.size := by rw [HB.out]; exact (show Below V.drew.heap.size V.drew w' from hp).size
    have HX := Lib.hid (show TBw 0 w' (w'.alloc (Obj.cells #[] 26)) ∧ FE0s B (.slice (some ⟨w'.heap.size, 0, none⟩) 0 0) (w'.alloc (Obj.cells #[] 26)) from ⟨bal0 _ _, w'.heap.size, rfl, hpz, alloc_at rfl⟩)
    clear hp hpk
    intro Q2 hQ2
    go_wp2_with fail
    exact HX.out
  try simp only [List.nil_append, List.cons_append]
  repeat
    refine LexT.const TBw.rf ?_
    apply Exists.intro
    refine ⟨fun ys w' hp hpk hq hd => ?_, ?_⟩
    · try simp [DepsOf, depsGo, DF.holds, Region.binds, EqF] at hd
      try simp only [hd]
      obtain ⟨⟨c0, c1, c2, c3, c4, c5⟩, hl1⟩ := HC.out w' hp
      intro Q2 hQ2
      go_wp2_with fail
      rfl
    try simp only [List.nil_append, List.cons_append]
  refine LexT.some (FSpo B T.ch) (fun i v w1 w2 hc _ hT h => FSpo.st i v w1 w2 hT h) (fun ys w' hp hpk hq hd => ?_) ?_
  · try simp [DepsOf, depsGo, DF.holds, Region.binds, EqF] at hd
    try simp only [hd]
    obtain ⟨⟨r, e3, hr1, hr2⟩, e5⟩ := hd
    have hbl := HI.out.a.below (show Below V.drew.heap.size V.drew w' from hp) (Nat.le_refl _)
    simp only [e3, e5]
    have HX0 := Lib.hid (And.intro hr1 (And.intro hr2 hbl))
    clear hp hpk e3 e5 hr1 hr2 hbl
    intro Q2 hQ2
    go_wp2_with (at_builtin; refine wp_apps0 okSp rfl (.tmp 3) (.tmp 5) rfl B r p.A T.ch.length p.c T.ch rfl HX0.out.2.1 rfl HX0.out.2.2 HA.out.1 lenSp one_eSp (by omega) (by decide) HX0.out.1 ?_; intro v' w5 hown5 hb5; have HX := Lib.hid (show TBw 0 w' w5 ∧ FSpo B T.ch v' w5 from ⟨hb5, hown5⟩); clear hown5 hb5)
    exact HX.out
  try simp only [List.nil_append, List.cons_append]
  refine LexT.some (FE0c B) (fun i v w1 w2 hc _ hT h => FE0c.st i v w1 w2 hT h) (fun ys w' hp hpk hq hd => ?_) ?_
  · try simp [DepsOf, depsGo, DF.holds, Region.binds, EqF] at hd
    try simp only [hd]
    have hpz : B ≤ w'.heap.size := by rw [HB.out]; exact (show Below V.drew.heap.size V.drew w' from hp).size
    have HX := Lib.hid (show TBw 0 w' (w'.alloc (Obj.cells #[] 76)) ∧ FE0c B (.slice (some ⟨w'.heap.size, 0, none⟩) 0 0) (w'.alloc (Obj.cells #[] 76)) from ⟨bal0 _ _, w'.heap.size, rfl, hpz, alloc_at rfl⟩)
    clear hp hpk
    intro Q2 hQ2
    go_wp2_with fail
    exact HX.out
  try simp only [List.nil_append, List.cons_append]
  repeat
    refine LexT.const TBw.rf ?_
    apply Exists.intro
    refine ⟨fun ys w' hp hpk hq hd => ?_, ?_⟩
    · try simp [DepsOf, depsGo, DF.holds, Region.binds, EqF] at hd
      try simp only [hd]
      obtain ⟨⟨c0, c1, c2, c3, c4, c5⟩, hl1⟩ := HC.out w' hp
      intro Q2 hQ2
      go_wp2_with fail
      rfl
    try simp only [List.nil_append, List.cons_append]
  refine LexT.some (FCto B T.cs) (fun i v w1 w2 hc _ hT h => FCto.st i v w1 w2 hT h) (fun ys w' hp hpk hq hd => ?_) ?_
  · try simp [DepsOf, depsGo, DF.holds, Region.binds, EqF] at hd
    try simp only [hd]
    obtain ⟨⟨r, e7, hr1, hr2⟩, e9, -⟩ := hd
    have hbl := HI.out.b.below (show Below V.drew.heap.size V.drew w' from hp) (Nat.le_refl _)
    simp only [e7]
    have HX0 := Lib.hid (And.intro hr1 (And.intro hr2 hbl))
    clear hp hpk e7 e9 hr1 hr2 hbl
    intro Q2 hQ2
    go_wp2_with (at_builtin; refine wp_apps0 okCt rfl (.tmp 7) (.tmp 9) rfl B r p.B T.cs.length p.d T.cs rfl HX0.out.2.1 rfl HX0.out.2.2 HA.out.2 lenCt one_eCt (by omega) (by decide) HX0.out.1 ?_; intro v' w5 hown5 hb5; have HX := Lib.hid (show TBw 0 w' w5 ∧ FCto B T.cs v' w5 from ⟨hb5, hown5⟩); clear hown5 hb5)
    exact HX.out
  try simp only [List.nil_append, List.cons_append]
  repeat
    refine LexT.const TBw.rf ?_
    apply Exists.intro
    refine ⟨fun ys w' hp hpk hq hd => ?_, ?_⟩
    · try simp [DepsOf, depsGo, DF.holds, Region.binds, EqF] at hd
      try simp only [hd]
      obtain ⟨⟨c0, c1, c2, c3, c4, c5⟩, hl1⟩ := HC.out w' hp
      intro Q2 hQ2
      go_wp2_with fail
      rfl
    try simp only [List.nil_append, List.cons_append]
  refine hK _ fun ys w' hp hF => ?_
  simp [AllF, DF.holds] at hF
  obtain ⟨-, -, -, f6, -, -, -, f10, e11⟩ := hF
  replace f6 : OwnSp w' B (ys 6) T.ch := f6
  replace f10 : OwnCt w' B (ys 10) T.cs := f10
  replace hp : Below V.drew.heap.size V.drew w' := hp
  obtain ⟨A1, a1, e6, -, -, -⟩ := Own.form f6 lenSp
  obtain ⟨A2, a2, e10, -, -, -⟩ := Own.form f10 lenCt
  rw [e6] at f6
  rw [e10] at f10
  simp only [e6, e10, e11]
  have x0 := bheap (show V.drew.heap[q]? = _ from HV.out.2.1) hp (Nat.le_refl _)
  have x2 := bheap (show V.drew.heap[q + 1]? = _ from HV.out.2.2.1) hp (Nat.le_refl _)
  have hBw : Below w.heap.size w w' := (HV.out.1.trans ((bdraw (Below.refl _ _)).mono (by have := HV.out.1.size; omega))).trans (hp.mono (by have := HV.out.1.size; show w.heap.size ≤ V.heap.size; omega))
  have hwB : w.heap.size ≤ q := by rw [HV.out.2.2.2.2]; exact Nat.le_refl _
  obtain ⟨y0, y1, y2, y3, y4, y5⟩ := blk6 x0
  have hlx := heap_lt x0
  obtain ⟨f3, f5⟩ := And.intro (frz x0 3) (frz x0 5)
  have HX := Lib.hid (And.intro x0 (And.intro x2 (And.intro f6 (And.intro f10 hBw))))
  clear hK x0 x2 f6 f10 hBw hp e6 e10 e11 c0 c1 c2 c3 c4 c5 hql HC
  go_upto_region 2 with (fail)
  obtain ⟨W5, hW5⟩ : ∃ W5, W5 = (w'.setCell ⟨q, 3, none⟩ (.slice A1 T.ch.length a1)).setCell ⟨q, 5, none⟩ (.slice A2 T.cs.length a2) := ⟨_, rfl⟩
  rw [← hW5]
  have z0 : W5.heap[q]? = some (tyC T.g T.f.lo T.f.hi (.slice A1 T.ch.length a1) T.m (.slice A2 T.cs.length a2)) := by rw [hW5]; exact (set_blk (set_blk HX.out.1)).trans rfl
  have hgq : w'.grownBy W5 (some q) := by rw [hW5]; exact (grownBy_cell _ _ _ _).trans (grownBy_cell _ _ _ _)
  have z2 : W5.heap[q + 1]? = _ := (hgq.block (q + 1) (heap_lt HX.out.2.1) (fun e => by injection e with e; omega)).trans HX.out.2.1
  have hfS : OwnSp W5 B (.slice A1 T.ch.length a1) T.ch := Own.kept HX.out.2.2.1 hgq (.inr (Own.nb HX.out.2.2.1 (by omega)))
  have hfC : OwnCt W5 B (.slice A2 T.cs.length a2) T.cs := Own.kept HX.out.2.2.2.1 hgq (.inr (Own.nb HX.out.2.2.2.1 (by omega)))
  have hBW : Below w.heap.size w W5 := HX.out.2.2.2.2.grown hgq (HX.out.2.2.2.2.size) (fun k e => by injection e with e; omega)
  obtain ⟨u0, u1, u2, u3, u4, u5⟩ := blk6 z0
  obtain ⟨v0, v1, v2, v3, v4, v5⟩ := blk6 z2
  obtain ⟨g0, g1, g2, g3, g4, g5⟩ := And.intro (frz z2 0) (And.intro (frz z2 1) (And.intro (frz z2 2) (And.intro (frz z2 3) (And.intro (frz z2 4) (frz z2 5)))))
  have hl0 := heap_lt z0
  have hl2 := heap_lt z2
  have HZ := Lib.hid (And.intro z2 (And.intro hfS (And.intro hfC hBW)))
  clear hW5 z0 z2 hgq hfS hfC hBW y0 y1 y2 y3 y4 y5 f3 f5
  go_wp2_with fail
  obtain ⟨hz, hg⟩ := tru_put (g := T.g) (lo := T.f.lo) (hi := T.f.hi) (vC := .slice A1 T.ch.length a1) (m := T.m) (vK := .slice A2 T.cs.length a2) HZ.out.1
  obtain ⟨Z, hZ⟩ : ∃ Z, Z = ((((((W5.setCell ⟨q + 1, 0, none⟩ (.int .i64 T.g)).setCell ⟨q + 1, 1, none⟩ (.int .i64 T.f.lo)).setCell ⟨q + 1, 2, none⟩ (.int .i64 T.f.hi)).setCell ⟨q + 1, 3, none⟩ (.slice A1 T.ch.length a1)).setCell ⟨q + 1, 4, none⟩ (.int .i64 T.m)).setCell ⟨q + 1, 5, none⟩ (.slice A2 T.cs.length a2)) := ⟨_, rfl⟩
  rw [← hZ] at hz hg ⊢
  clear hZ u0 u1 u2 u3 u4 u5 v0 v1 v2 v3 v4 v5 g0 g1 g2 g3 g4 g5 hl0 hl2
  have hgH := Lib.hid hg
  obtain ⟨z0, z1, z2, z3, z4, z5⟩ := blk6 hz
  have hzl := heap_lt hz
  have hfin : CopR T w (.returned (.agg #[.int .i64 T.g, .int .i64 T.f.lo, .int .i64 T.f.hi, .slice A1 T.ch.length a1, .int .i64 T.m, .slice A2 T.cs.length a2])) Z := by
    refine ⟨⟨⟨A1, a1, A2, a2⟩, rfl, ?_, ?_⟩, ?_⟩
    · exact (Own.kept HZ.out.2.1 hgH.out (.inr (Own.nb HZ.out.2.1 hqB))).mono (by rw [HB.out]; have := HV.out.1.size; show w.heap.size ≤ V.heap.size; omega)
    · exact (Own.kept HZ.out.2.2.1 hgH.out (.inr (Own.nb HZ.out.2.2.1 hqB))).mono (by rw [HB.out]; have := HV.out.1.size; show w.heap.size ≤ V.heap.size; omega)
    · exact HZ.out.2.2.2.grown hgH.out HZ.out.2.2.2.size (fun k e => by injection e with e; omega)
  have HF := Lib.hid hfin
  clear hfin hz hg
  exact bodyPost_ret (v := .agg #[.int .i64 T.g, .int .i64 T.f.lo, .int .i64 T.f.hi, .slice A1 T.ch.length a1, .int .i64 T.m, .slice A2 T.cs.length a2]) (by simp [results, Try.f26, go_sem, z0, z1, z2, z3, z4, z5, hzl]) rfl (by rw [HR.out]; exact HF.out)
end Go.Proofs.Ytgnjknihgjdedaa
namespace Go.Proofs.Ytgnjknihgjdedaa
open Go.RowKit
set_option linter.unusedVariables false
set_option linter.unusedSimpArgs false
set_option maxRecDepth 1000000
def ShT (o : Obj) : Prop := ∃ cs, o = .cells cs 30 (0, 0)
def TVc (H B : Nat) (G : World → Obj → Prop) (n : Nat) (w w' : World) : Prop :=
  w'.os = w.os ∧ w'.tape = w.tape ∧ w'.output = w.output ∧ w.heap.size ≤ w'.heap.size ∧ (∀ (k : Nat) o, k ≠ H → w.heap[k]? = some o → w'.heap[k]? = some o ∨ (B ≤ k ∧ ShT o ∧ ∃ t, G w' t ∧ w'.heap[k]? = some t)) ∧ ∀ N, Hd w H N → Hd w' H (N + 300 * n)
def TyA (T : Ty) (c : Ct) : Ty := ⟨T.g, T.f, T.ch, T.m, T.cs ++ [c]⟩
def GTy (B : Nat) (T : Ty) (P : Ct → Prop) : World → Obj → Prop := fun w o => ∃ c p, P c ∧ o = tyO (TyA T c) p ∧ TyO w B (TyA T c) p
section
variable {H B : Nat} {T : Ty} {P : Ct → Prop} {G : World → Obj → Prop}
theorem TVc.sp {n : Nat} {w w' : World} (h : TVc H B G n w w') (hH : H < B) {v : Value} {l : List Sp} (ho : OwnSp w B v l) : OwnSp w' B v l := by
  refine ⟨ho.1, ?_⟩
  rcases ho.2 with hh | ⟨g, cap, cur, hv, hb, hg, r⟩
  · exact .inl hh
  · refine .inr ⟨g, cap, cur, hv, hb, ?_, r⟩
    rcases h.2.2.2.2.1 g _ (by omega) hg with h' | ⟨_, ⟨cs, hs⟩, _⟩
    · exact h'
    · injection hs with _ hs _; exact absurd hs (by decide)
theorem TVc.ct {n : Nat} {w w' : World} (h : TVc H B G n w w') (hH : H < B) {v : Value} {l : List Ct} (ho : OwnCt w B v l) : OwnCt w' B v l := by
  refine ⟨ho.1, ?_⟩
  rcases ho.2 with hh | ⟨g, cap, cur, hv, hb, hg, r⟩
  · exact .inl hh
  · refine .inr ⟨g, cap, cur, hv, hb, ?_, r⟩
    rcases h.2.2.2.2.1 g _ (by omega) hg with h' | ⟨_, ⟨cs, hs⟩, _⟩
    · exact h'
    · injection hs with _ hs _; exact absurd hs (by decide)
theorem TVc.gt {n : Nat} {w w' : World} (h : TVc H B G n w w') (hH : H < B) {t : Obj} (ht : GTy B T P w t) : GTy B T P w' t := by
  obtain ⟨c, p, h1, h2, h3⟩ := ht
  exact ⟨c, p, h1, h2, h.sp hH h3.1, h.ct hH h3.2⟩
theorem TVc.tr (hH : H < B) : ∀ n a b c, TVc H B (GTy B T P) n a b → TVc H B (GTy B T P) 1 b c → TVc H B (GTy B T P) (n + 1) a c := fun n a b c h k => by
  have k0 := k
  obtain ⟨h1, h2, h3, h4, h5, h6⟩ := h
  obtain ⟨k1, k2, k3, k4, k5, k6⟩ := k
  refine ⟨k1.trans h1, k2.trans h2, k3.trans h3, Nat.le_trans h4 k4, fun j o hj ho => ?_, fun N hN => ?_⟩
  · rcases h5 j o hj ho with h | ⟨hB, hs, t, ht, h⟩
    · exact k5 j o hj h
    · rcases k5 j t hj h with h' | ⟨_, _, t', ht', h'⟩
      · exact .inr ⟨hB, hs, t, k0.gt hH ht, h'⟩
      · exact .inr ⟨hB, hs, t', ht', h'⟩
  · have := k6 _ (h6 N hN)
    rw [show N + 300 * (n + 1) = N + 300 * n + 300 * 1 by omega]; exact this
theorem TVc.draw (w : World) : TVc H B G 0 w { w with drawn := w.drawn + 1 } := ⟨rfl, rfl, rfl, Nat.le_refl _, fun _ _ _ h => .inl h, fun N h => h⟩
theorem TVc.rf : ∀ w, TVc H B G 1 w w := fun w => ⟨rfl, rfl, rfl, Nat.le_refl _, fun _ _ _ h => .inl h, fun N h => h.mono (by omega)⟩
theorem TVc.of {w w' : World} (h : Below w.heap.size w w') : TVc H B G 1 w w' := ⟨h.os, h.tape, h.output, h.size, fun k o _ ho => .inl ((h.block k (heap_lt ho)).trans ho), fun N hN => (hN.below h hN.lt).mono (by omega)⟩
theorem TVc.deal {w w' : World} {N k : Nat} (hmin : ∀ M, Hd w H M → N ≤ M) (h : Dealt w w' H (N + k)) (hk : k ≤ 300) : TVc H B G 1 w w' :=
  ⟨h.gr.os, h.gr.tape, h.gr.output, h.gr.size, fun j o hj ho => .inl (h.blk ho hj), fun M hM => h.hd.mono (by have := hmin M hM; omega)⟩
theorem TVc.dealt {W w' : World} {n N : Nat} (h : TVc H W.heap.size G n W w') (hd : Hd W H N) : Dealt W w' H (N + 300 * n) := ⟨h.2.2.2.2.2 N hd, h.1, h.2.1, h.2.2.1, h.2.2.2.1, fun j hj hne => by
  have ho : W.heap[j]? = some (W.heap[j]'hj) := Array.getElem?_eq_getElem hj
  rcases h.2.2.2.2.1 j _ (fun e => hne (by rw [e])) ho with h' | ⟨h', _⟩
  · rw [h', ho]
  · omega⟩
def zTy : Obj := tyC 0 0 0 (.slice none 0 0) 0 (.slice none 0 0)
def PzV (H B : Nat) (T : Ty) (P : Ct → Prop) : VF := fun v w => ∃ k, v = .pointer (some ⟨k, 0, none⟩) ∧ B ≤ k ∧ k ≠ H ∧ (w.heap[k]? = some zTy ∨ ∃ t, GTy B T P w t ∧ w.heap[k]? = some t)
def PtV (H B : Nat) (T : Ty) (P : Ct → Prop) : VF := fun v w => ∃ k, v = .pointer (some ⟨k, 0, none⟩) ∧ B ≤ k ∧ k ≠ H ∧ ∃ t, GTy B T P w t ∧ w.heap[k]? = some t
theorem PtV.st (hH : H < B) : ∀ n v w w', TVc H B (GTy B T P) n w w' → PtV H B T P v w → PtV H B T P v w' := fun n v w w' h ⟨k, hv, hk, hkH, t, ht, ho⟩ => by
  refine ⟨k, hv, hk, hkH, ?_⟩
  rcases h.2.2.2.2.1 k t hkH ho with h' | ⟨_, _, t', ht', h'⟩
  · exact ⟨t, h.gt hH ht, h'⟩
  · exact ⟨t', ht', h'⟩
theorem PzV.st (hH : H < B) : ∀ n v w w', TVc H B (GTy B T P) n w w' → PzV H B T P v w → PzV H B T P v w' := fun n v w w' h ⟨k, hv, hk, hkH, ho⟩ => by
  refine ⟨k, hv, hk, hkH, ?_⟩
  rcases ho with ho | ⟨t, ht, ho⟩
  · rcases h.2.2.2.2.1 k _ hkH ho with h' | ⟨_, _, t', ht', h'⟩
    · exact .inl h'
    · exact .inr ⟨t', ht', h'⟩
  · rcases h.2.2.2.2.1 k t hkH ho with h' | ⟨_, _, t', ht', h'⟩
    · exact .inr ⟨t, h.gt hH ht, h'⟩
    · exact .inr ⟨t', ht', h'⟩
theorem PzV.new (w : World) (hB : B ≤ w.heap.size) (hH : H < B) : TVc H B (GTy B T P) 1 w (w.alloc zTy) ∧ PzV H B T P (.pointer (some ⟨w.heap.size, 0, none⟩)) (w.alloc zTy) :=
  ⟨TVc.of (bal0 w _), w.heap.size, rfl, hB, by omega, .inl (heap_alloc_new w _)⟩
def FAd (B : Nat) (T : Ty) (P : Ct → Prop) (f : Value → Value) : VF := fun v w => ∃ c p, P c ∧ v = f (tyV (TyA T c) p) ∧ TyO w B (TyA T c) p
theorem FAd.st (hH : H < B) {f : Value → Value} : ∀ n v w w', TVc H B G n w w' → FAd B T P f v w → FAd B T P f v w' := fun n v w w' h ⟨c, p, h1, h2, h3⟩ => ⟨c, p, h1, h2, h.sp hH h3.1, h.ct hH h3.2⟩
theorem ty_put {k : Nat} {w : World} {c : Ct} {p : Tp} (hH : H < B) (hk : B ≤ k) (hkH : k ≠ H) (hc : P c) (ho : TyO w B (TyA T c) p) {g lo hi m : Int} {vC vK : Value} (hb : w.heap[k]? = some (tyC g lo hi vC m vK)) :
    TVc H B (GTy B T P) 1 w ((((((w.setCell ⟨k, 0, none⟩ (.int .i64 T.g)).setCell ⟨k, 1, none⟩ (.int .i64 T.f.lo)).setCell ⟨k, 2, none⟩ (.int .i64 T.f.hi)).setCell ⟨k, 3, none⟩ (.slice p.A T.ch.length p.c)).setCell ⟨k, 4, none⟩ (.int .i64 T.m)).setCell ⟨k, 5, none⟩ (.slice p.B (T.cs ++ [c]).length p.d)) ∧
      PtV H B T P (.pointer (some ⟨k, 0, none⟩)) ((((((w.setCell ⟨k, 0, none⟩ (.int .i64 T.g)).setCell ⟨k, 1, none⟩ (.int .i64 T.f.lo)).setCell ⟨k, 2, none⟩ (.int .i64 T.f.hi)).setCell ⟨k, 3, none⟩ (.slice p.A T.ch.length p.c)).setCell ⟨k, 4, none⟩ (.int .i64 T.m)).setCell ⟨k, 5, none⟩ (.slice p.B (T.cs ++ [c]).length p.d)) := by
  obtain ⟨hz, hg⟩ := tru_put (g := T.g) (lo := T.f.lo) (hi := T.f.hi) (vC := .slice p.A T.ch.length p.c) (m := T.m) (vK := .slice p.B (T.cs ++ [c]).length p.d) hb
  generalize ((((((w.setCell ⟨k, 0, none⟩ (.int .i64 T.g)).setCell ⟨k, 1, none⟩ (.int .i64 T.f.lo)).setCell ⟨k, 2, none⟩ (.int .i64 T.f.hi)).setCell ⟨k, 3, none⟩ (.slice p.A T.ch.length p.c)).setCell ⟨k, 4, none⟩ (.int .i64 T.m)).setCell ⟨k, 5, none⟩ (.slice p.B (T.cs ++ [c]).length p.d)) = Z at *
  have hoZ : TyO Z B (TyA T c) p := by
    refine ⟨Own.kept ho.1 hg (.inr ?_), Own.kept ho.2 hg (.inr ?_)⟩
    · exact Own.ne' ho.1 hb (by decide)
    · exact Own.ne' ho.2 hb (by decide)
  have hgt : GTy B T P Z (tyO (TyA T c) p) := ⟨c, p, hc, rfl, hoZ⟩
  refine ⟨⟨hg.os, hg.tape, hg.output, hg.size, fun j o hj hjo => ?_, fun N hN => ?_⟩, k, rfl, hk, hkH, tyO (TyA T c) p, hgt, hz⟩
  · by_cases hjk : j = k
    · subst hjk
      rw [hb] at hjo; cases hjo
      exact .inr ⟨hk, ⟨_, rfl⟩, tyO (TyA T c) p, hgt, hz⟩
    · exact .inl ((hg.block j (heap_lt hjo) (fun e => hjk (by injection e))).trans hjo)
  · exact (hN.kept fun j hj => hg.block j (by have := hN.lt; omega) (fun e => by injection e with e; omega)).mono (by omega)
end
noncomputable def rgC35 : Code := ((Try.f4.body.bind (findRgn 35)).getD .skip)
def RgC35 (W : World) (H N p6 g n8 c8 : Nat) (A8 : Option Addr) (T : Ty) (P : Ct → Prop) (v0 v1 v2 v3 v4 v5 v7 v9 Z0 Z1 Z2 Z3 Z4 Z5 Z6 Z7 Z8 Z9 ZA ZB ZC ZD ZE ZF ZG ZH ZI ZJ ZK ZL ZM ZN ZO ZP ZQ ZR ZS ZT ZU ZV ZW ZX ZY ZZ Za Zb Zc Zd Ze Zf Zg Zh Zi Zj Zk Zl Zm Zn Zo Zp Zq Zr Zs Zt Zu Zv Zw Zx Zy Zz Y0 Y1 Y2 Y3 Y4 Y5 Y6 Y7 Y8 Y9 YA YB YC YD YE YF YG YH YI YJ YK YL YM YN YO YP YQ YR YS YT YU YV YW YX YY YZ Ya Yb Yc Yd Ye Yf Yg Yh Yi Yj Yk Yl Ym Yn Yo Yp Yq Yr Ys Yt Yu Yv Yw Yx Yy Yz X0 X1 X2 X3 X4 X5 X6 X7 X8 X9 XA XB XC XD XE XF XG XH XI XJ XK XL XM XN XO XP XQ XR XS XT XU XV XW XX XY XZ Xa Xb Xc Xd Xe Xf Xg Xh Xi Xj Xk Xl Xm Xn Xo Xp Xq Xr Xs Xt Xu Xv Xw Xx Xy Xz K0 K1 K2 K3 K4 K5 K6 K7 K8 K9 KA KB KC KD KE KF KG KH KI KJ KK KL KM KN KO KP KQ KR KS KT KU KV KW KX KY KZ Ka Kb Kc Kd Ke Kf Kg Kh Ki Kj Kk Kl Km Kn Ko Kp Kq Kr Ks Kt Ku Kv Kw Kx Ky Kz J0 J1 J2 J3 J4 J5 J6 J7 J8 J9 JA JB JC JD JE JF JG JH JI JJ JK JL JM JN JO JP JQ JR JS JT JU JV JW JX JY JZ Ja Jb Jc Jd Je Jf Jg Jh Ji Jj Jk Jl Jm Jn Jo Jp Jq Jr Js Jt Ju Jv Jw Jx : Value) (Q : Exit → Act → World → Prop) : Prop := ∀ (Jy Jz G0 G1 G2 G3 G4 G5 G6 G7 G8 : Value) (k : Nat) (c : Ct) (p : Tp) (w' : World), P c → W.heap.size ≤ k → w'.heap[k]? = some (tyO (TyA T c) p) → TyO w' W.heap.size (TyA T c) p → Dealt W w' H (N + 30000) → Q .normal ⟨#[v0, v1, v2, v3, v4, v5, (Value.pointer (some ⟨p6, 0, none⟩)), v7, (Value.slice A8 n8 c8), v9, Z0, Z1, Z2, Z3, Z4, Z5, Z6, Z7, (Value.int .i64 (g : Int)), Z8, (Value.pointer (some ⟨k, 0, none⟩)), (Value.int .i64 0), ZB, ZC, ZD, ZE, ZF, ZG, ZH, ZI, ZJ, ZK, ZL, ZM, ZN, ZO, ZP, ZQ, ZR, ZS, ZT, ZU, ZV, ZW, ZX, ZY, ZZ, Za, Zb, Zc, Zd, Ze, Zf, Zg, Zh, Zi, Zj, Zk, Zl, Zm, Zn, Zo, Zp, Zq, Zr, Zs, Zt, Zu, Zv, Zw, Zx, Zy, Zz, Y0, Y1, Y2, Y3, Y4, Y5, Y6, Y7, Y8, Y9, YA, YB, YC, YD, YE, YF, YG, YH, YI, YJ, YK, YL, YM, YN, YO, YP, YQ, YR, YS, YT, YU, YV, YW, YX, YY, YZ, Ya, Yb, Yc, Yd, Ye, Yf, Yg, Yh, Yi, Yj, Yk, Yl, Ym, Yn, Yo, Yp, Yq, Yr, Ys, Yt, Yu, Yv, Yw, Yx, Yy, Yz, X0, X1, X2, X3, X4, X5, X6, X7, X8, X9, XA, XB, XC, XD, XE, XF, XG, XH, XI, XJ, XK, XL, XM, XN, XO, XP, XQ, Jy, Jz, G0, G1, G2, G3, G4, G5, G6, G7, G8, Xc, Xd, Xe, Xf, Xg, Xh, Xi, Xj, Xk, Xl, Xm, Xn, Xo, Xp, Xq, Xr, Xs, Xt, Xu, Xv, Xw, Xx, Xy, Xz, K0, K1, K2, K3, K4, K5, K6, K7, K8, K9, KA, KB, KC, KD, KE, KF, KG, KH, KI, KJ, KK, KL, KM, KN, KO, KP, KQ, KR, KS, KT, KU, KV, KW, KX, KY, KZ, Ka, Kb, Kc, Kd, Ke, Kf, Kg, Kh, Ki, Kj, Kk, Kl, Km, Kn, Ko, Kp, Kq, Kr, Ks, Kt, Ku, Kv, Kw, Kx, Ky, Kz, J0, J1, J2, J3, J4, J5, J6, J7, J8, J9, JA, JB, JC, JD, JE, JF, JG, JH, JI, JJ, JK, JL, JM, JN, JO, JP, JQ, JR, JS, JT, JU, JV, JW, JX, JY, JZ, Ja, Jb, Jc, Jd, Je, Jf, Jg, Jh, Ji, Jj, Jk, Jl, Jm, Jn, Jo, Jp, Jq, Jr, Js, Jt, Ju, Jv, Jw, Jx], []⟩ w'
set_option maxHeartbeats 8000000 in
theorem cnt_add (W : World) (H N p6 g n8 c8 : Nat) (A8 : Option Addr) (T : Ty) (p : Tp) (ns : List Int) (P : Ct → Prop) (v0 v1 v2 v3 v4 v5 v7 v9 Z0 Z1 Z2 Z3 Z4 Z5 Z6 Z7 Z8 Z9 ZA ZB ZC ZD ZE ZF ZG ZH ZI ZJ ZK ZL ZM ZN ZO ZP ZQ ZR ZS ZT ZU ZV ZW ZX ZY ZZ Za Zb Zc Zd Ze Zf Zg Zh Zi Zj Zk Zl Zm Zn Zo Zp Zq Zr Zs Zt Zu Zv Zw Zx Zy Zz Y0 Y1 Y2 Y3 Y4 Y5 Y6 Y7 Y8 Y9 YA YB YC YD YE YF YG YH YI YJ YK YL YM YN YO YP YQ YR YS YT YU YV YW YX YY YZ Ya Yb Yc Yd Ye Yf Yg Yh Yi Yj Yk Yl Ym Yn Yo Yp Yq Yr Ys Yt Yu Yv Yw Yx Yy Yz X0 X1 X2 X3 X4 X5 X6 X7 X8 X9 XA XB XC XD XE XF XG XH XI XJ XK XL XM XN XO XP XQ XR XS XT XU XV XW XX XY XZ Xa Xb Xc Xd Xe Xf Xg Xh Xi Xj Xk Xl Xm Xn Xo Xp Xq Xr Xs Xt Xu Xv Xw Xx Xy Xz K0 K1 K2 K3 K4 K5 K6 K7 K8 K9 KA KB KC KD KE KF KG KH KI KJ KK KL KM KN KO KP KQ KR KS KT KU KV KW KX KY KZ Ka Kb Kc Kd Ke Kf Kg Kh Ki Kj Kk Kl Km Kn Ko Kp Kq Kr Ks Kt Ku Kv Kw Kx Ky Kz J0 J1 J2 J3 J4 J5 J6 J7 J8 J9 JA JB JC JD JE JF JG JH JI JJ JK JL JM JN JO JP JQ JR JS JT JU JV JW JX JY JZ Ja Jb Jc Jd Je Jf Jg Jh Ji Jj Jk Jl Jm Jn Jo Jp Jq Jr Js Jt Ju Jv Jw Jx : Value) (Q : Exit → Act → World → Prop)
    (H6 : Hid (W.heap[p6]? = some (tyO T p))) (HH : Hid (Hd W H N)) (h6H : p6 ≠ H) (HT : Hid (TyOk T ∧ TyIn W T p ∧ OffH p.A H ∧ OffH p.B H)) (h7 : T.cs.length < 7) (HN : Hid (Ints W A8 n8 ns ∧ OffH A8 H)) (hg8 : g < n8) (hP : Hid (CtOk T.g ⟨g, 1, ns.getD g 0, 0⟩ ∧ P ⟨g, 1, ns.getD g 0, 0⟩))
    (HQ : RgC35 W H N p6 g n8 c8 A8 T P v0 v1 v2 v3 v4 v5 v7 v9 Z0 Z1 Z2 Z3 Z4 Z5 Z6 Z7 Z8 Z9 ZA ZB ZC ZD ZE ZF ZG ZH ZI ZJ ZK ZL ZM ZN ZO ZP ZQ ZR ZS ZT ZU ZV ZW ZX ZY ZZ Za Zb Zc Zd Ze Zf Zg Zh Zi Zj Zk Zl Zm Zn Zo Zp Zq Zr Zs Zt Zu Zv Zw Zx Zy Zz Y0 Y1 Y2 Y3 Y4 Y5 Y6 Y7 Y8 Y9 YA YB YC YD YE YF YG YH YI YJ YK YL YM YN YO YP YQ YR YS YT YU YV YW YX YY YZ Ya Yb Yc Yd Ye Yf Yg Yh Yi Yj Yk Yl Ym Yn Yo Yp Yq Yr Ys Yt Yu Yv Yw Yx Yy Yz X0 X1 X2 X3 X4 X5 X6 X7 X8 X9 XA XB XC XD XE XF XG XH XI XJ XK XL XM XN XO XP XQ XR XS XT XU XV XW XX XY XZ Xa Xb Xc Xd Xe Xf Xg Xh Xi Xj Xk Xl Xm Xn Xo Xp Xq Xr Xs Xt Xu Xv Xw Xx Xy Xz K0 K1 K2 K3 K4 K5 K6 K7 K8 K9 KA KB KC KD KE KF KG KH KI KJ KK KL KM KN KO KP KQ KR KS KT KU KV KW KX KY KZ Ka Kb Kc Kd Ke Kf Kg Kh Ki Kj Kk Kl Km Kn Ko Kp Kq Kr Ks Kt Ku Kv Kw Kx Ky Kz J0 J1 J2 J3 J4 J5 J6 J7 J8 J9 JA JB JC JD JE JF JG JH JI JJ JK JL JM JN JO JP JQ JR JS JT JU JV JW JX JY JZ Ja Jb Jc Jd Je Jf Jg Jh Ji Jj Jk Jl Jm Jn Jo Jp Jq Jr Js Jt Ju Jv Jw Jx Q) :
    Code.wp Try.prog rgC35 Q ⟨#[v0, v1, v2, v3, v4, v5, (Value.pointer (some ⟨p6, 0, none⟩)), v7, (Value.slice A8 n8 c8), v9, Z0, Z1, Z2, Z3, Z4, Z5, Z6, Z7, (Value.int .i64 (g : Int)), Z8, Z9, ZA, ZB, ZC, ZD, ZE, ZF, ZG, ZH, ZI, ZJ, ZK, ZL, ZM, ZN, ZO, ZP, ZQ, ZR, ZS, ZT, ZU, ZV, ZW, ZX, ZY, ZZ, Za, Zb, Zc, Zd, Ze, Zf, Zg, Zh, Zi, Zj, Zk, Zl, Zm, Zn, Zo, Zp, Zq, Zr, Zs, Zt, Zu, Zv, Zw, Zx, Zy, Zz, Y0, Y1, Y2, Y3, Y4, Y5, Y6, Y7, Y8, Y9, YA, YB, YC, YD, YE, YF, YG, YH, YI, YJ, YK, YL, YM, YN, YO, YP, YQ, YR, YS, YT, YU, YV, YW, YX, YY, YZ, Ya, Yb, Yc, Yd, Ye, Yf, Yg, Yh, Yi, Yj, Yk, Yl, Ym, Yn, Yo, Yp, Yq, Yr, Ys, Yt, Yu, Yv, Yw, Yx, Yy, Yz, X0, X1, X2, X3, X4, X5, X6, X7, X8, X9, XA, XB, XC, XD, XE, XF, XG, XH, XI, XJ, XK, XL, XM, XN, XO, XP, XQ, XR, XS, XT, XU, XV, XW, XX, XY, XZ, Xa, Xb, Xc, Xd, Xe, Xf, Xg, Xh, Xi, Xj, Xk, Xl, Xm, Xn, Xo, Xp, Xq, Xr, Xs, Xt, Xu, Xv, Xw, Xx, Xy, Xz, K0, K1, K2, K3, K4, K5, K6, K7, K8, K9, KA, KB, KC, KD, KE, KF, KG, KH, KI, KJ, KK, KL, KM, KN, KO, KP, KQ, KR, KS, KT, KU, KV, KW, KX, KY, KZ, Ka, Kb, Kc, Kd, Ke, Kf, Kg, Kh, Ki, Kj, Kk, Kl, Km, Kn, Ko, Kp, Kq, Kr, Ks, Kt, Ku, Kv, Kw, Kx, Ky, Kz, J0, J1, J2, J3, J4, J5, J6, J7, J8, J9, JA, JB, JC, JD, JE, JF, JG, JH, JI, JJ, JK, JL, JM, JN, JO, JP, JQ, JR, JS, JT, JU, JV, JW, JX, JY, JZ, Ja, Jb, Jc, Jd, Je, Jf, Jg, Jh, Ji, Jj, Jk, Jl, Jm, Jn, Jo, Jp, Jq, Jr, Js, Jt, Ju, Jv, Jw, Jx], []⟩ W := by
  dsimp only
  conv => arg 2; whnf
  have hHW : H < W.heap.size := HH.out.lt
  obtain ⟨b8, o8, y, hA8, hb8, hy, cy⟩ := Ints.get HN.out.1 hg8
  have hy' : ns.getD g 0 = y := by rw [List.getD_eq_getElem?_getD, hy]; rfl
  rw [hy'] at hP
  have hb8H : b8 ≠ H := HN.out.2 b8 o8 hA8
  subst hA8
  obtain ⟨B, hB⟩ : ∃ B, B = W.heap.size := ⟨_, rfl⟩
  have hHB : H < B := by omega
  have HBW := Lib.hid hB
  have HCY := Lib.hid cy
  clear hy hy' hB cy
  have HC : Hid (∀ k' w', TVc H B (GTy B T P) k' W w' → Dealt W w' H (N + 300 * k') ∧ (w'.cell? ⟨p6, 0, none⟩ = some (.int .i64 T.g) ∧ w'.cell? ⟨p6, 1, none⟩ = some (.int .i64 T.f.lo) ∧ w'.cell? ⟨p6, 2, none⟩ = some (.int .i64 T.f.hi) ∧ w'.cell? ⟨p6, 3, none⟩ = some (.slice p.A T.ch.length p.c) ∧ w'.cell? ⟨p6, 4, none⟩ = some (.int .i64 T.m) ∧ w'.cell? ⟨p6, 5, none⟩ = some (.slice p.B T.cs.length p.d)) ∧ p6 < w'.heap.size ∧ w'.cell? ⟨b8, o8 + g, none⟩ = some (.int .i64 y)) :=
    Lib.hid fun k' w' h => by
      rw [HBW.out] at h
      have hd := h.dealt HH.out
      have hb := hd.blk H6.out h6H
      exact ⟨hd, blk6 hb, heap_lt hb, hd.cell HCY.out hb8H⟩
  refine wp_region_inv (TVc H B (GTy B T P)) (by kernel_rfl) (by kernel_rfl) (TVc.tr hHB) (TVc.draw _) ?_
  apply Exists.intro
  refine ⟨fun ys => ?_, fun ops K hK => ?_⟩
  · simp only [dstsOf, List.filterMap_cons, List.filterMap_nil, putAll]
    go_simp
    rfl
  repeat
    refine LexI.const TVc.rf ?_
    apply Exists.intro
    refine ⟨fun n' ys w' hn' hT hd => ?_, ?_⟩
    · try simp [DepsOf, depsGo, DF.holds, Region.binds, EqF] at hd
      obtain ⟨_, ⟨k0, k1, k2, k3, k4, k5⟩, hl6, ky⟩ := HC.out n' w' hT
      intro Q2 hQ2
      go_wp2_with fail
      rfl
    try simp only [List.nil_append, List.cons_append]
  refine LexI.some (FAd B T P (fun v => .tuple #[v, .int .i64 0])) (FAd.st hHB) (fun n' ys w' hn' hT hd => ?_) ?_
  · try simp [DepsOf, depsGo, DF.holds, Region.binds, EqF] at hd
    try simp only [hd]
    have hdw := (HC.out n' w' hT).1
    have hiw : TyIn w' T p := ⟨HT.out.2.1.a.dealt hdw HT.out.2.2.1, HT.out.2.1.ac, HT.out.2.1.am, HT.out.2.1.b.dealt hdw HT.out.2.2.2, HT.out.2.1.bc, HT.out.2.1.bm⟩
    have hbw : B ≤ w'.heap.size := by rw [HBW.out]; exact hdw.size
    have had := tAdd_any T p ⟨(g : Int), 1, y, 0⟩ w' HT.out.1 hiw hP.out.1 h7
    unfold tyV ctV at had
    clear hT hdw hiw
    intro Q2 hQ2
    go_wp2_with fail
    refine had.mono ?_
    rintro e w5 ⟨⟨p', rfl, ho⟩, hb5⟩
    have HX := Lib.hid (show TVc H B (GTy B T P) 1 w' w5 ∧ FAd B T P (fun v => .tuple #[v, .int .i64 0]) (.tuple #[tyV (TyA T ⟨(g : Int), 1, y, 0⟩) p', .int .i64 0]) w5 from ⟨TVc.of hb5, _, p', hP.out.2, rfl, ho.1.mono hbw, ho.2.mono hbw⟩)
    clear hb5 ho had
    go_wp2
    exact ⟨_, rfl, HX.out⟩
  try simp only [List.nil_append, List.cons_append]
  refine LexI.some (FAd B T P (fun v => .tuple #[v, .int .i64 0])) (FAd.st hHB) (fun n' ys w' hn' hT hd => ?_) ?_
  · try simp [DepsOf, depsGo, DF.holds, Region.binds, EqF] at hd
    try simp only [hd]
    obtain ⟨c, p', hc, e170, ho⟩ := hd
    simp only [e170]
    have HX := Lib.hid ho
    clear hT ho e170
    intro Q2 hQ2
    go_wp2_with fail
    exact ⟨TVc.rf _, c, p', hc, rfl, HX.out⟩
  try simp only [List.nil_append, List.cons_append]
  refine LexI.some (FAd B T P (fun v => v)) (FAd.st hHB) (fun n' ys w' hn' hT hd => ?_) ?_
  · try simp [DepsOf, depsGo, DF.holds, Region.binds, EqF] at hd
    try simp only [hd]
    obtain ⟨c, p', hc, e162, ho⟩ := hd
    simp only [e162]
    have HX := Lib.hid ho
    clear hT ho e162
    intro Q2 hQ2
    go_wp2_with fail
    exact ⟨TVc.rf _, c, p', hc, rfl, HX.out⟩
  try simp only [List.nil_append, List.cons_append]
  refine LexI.some (EqF (.int .i64 0)) (EqF.st) (fun n' ys w' hn' hT hd => ?_) ?_
  · try simp [DepsOf, depsGo, DF.holds, Region.binds, EqF] at hd
    try simp only [hd]
    obtain ⟨c, p', hc, e162, ho⟩ := hd
    simp only [e162]
    clear hT ho e162
    intro Q2 hQ2
    go_wp2_with fail
    exact ⟨TVc.rf _, rfl⟩
  try simp only [List.nil_append, List.cons_append]
  refine LexI.some (PzV H B T P) (PzV.st hHB) (fun n' ys w' hn' hT hd => ?_) ?_
  · try simp [DepsOf, depsGo, DF.holds, Region.binds, EqF] at hd
    try simp only [hd]
    have hbw : B ≤ w'.heap.size := by rw [HBW.out]; exact (HC.out n' w' hT).1.size
    have HX := Lib.hid (PzV.new (T := T) (P := P) w' hbw hHB)
    clear hT hbw
    intro Q2 hQ2
    go_wp2_with fail
    exact HX.out
  try simp only [List.nil_append, List.cons_append]
  refine LexI.ref 20 (PtV H B T P) (PtV.st hHB) rfl rfl (fun n' ys w' hn' hT hd => ?_) ?_
  · try simp [DepsOf, depsGo, DF.holds, Region.binds, EqF] at hd
    try simp only [hd]
    obtain ⟨⟨k, e20, hkB, hkH, hk⟩, ⟨c, p', hc, e171, ho⟩, -⟩ := hd
    simp only [e20, e171]
    obtain ⟨g', lo', hi', vC', m', vK', hb⟩ : ∃ (g' lo' hi' : Int) (vC' : Value) (m' : Int) (vK' : Value), w'.heap[k]? = some (tyC g' lo' hi' vC' m' vK') := by
      rcases hk with hk | ⟨t, ⟨c2, p2, -, rfl, -⟩, hk⟩
      · exact ⟨_, _, _, _, _, _, hk⟩
      · exact ⟨_, _, _, _, _, _, hk⟩
    unfold tyV
    have hk0 := blk6 hb
    obtain ⟨z0, z1, z2, z3, z4, z5⟩ := hk0
    obtain ⟨f0, f1, f2, f3, f4, f5⟩ := And.intro (frz hb 0) (And.intro (frz hb 1) (And.intro (frz hb 2) (And.intro (frz hb 3) (And.intro (frz hb 4) (frz hb 5)))))
    have hkl := heap_lt hb
    have hX := ty_put hHB hkB hkH hc ho hb
    unfold TyA
    dsimp only
    generalize (T.cs ++ [c]).length = nn at hX ⊢
    have HX := Lib.hid hX
    clear hT ho e20 e171 hb hk hX
    intro Q2 hQ2
    go_wp2_with fail
    exact HX.out
  try simp only [List.nil_append, List.cons_append]
  repeat
    refine LexI.const TVc.rf ?_
    apply Exists.intro
    refine ⟨fun n' ys w' hn' hT hd => ?_, ?_⟩
    · try simp [DepsOf, depsGo, DF.holds, Region.binds, EqF] at hd
      obtain ⟨_, ⟨k0, k1, k2, k3, k4, k5⟩, hl6, ky⟩ := HC.out n' w' hT
      intro Q2 hQ2
      go_wp2_with fail
      rfl
    try simp only [List.nil_append, List.cons_append]
  refine hK _ fun n' ys w' hn' hT hF => ?_
  simp only [AllF, DF.holds] at hF
  obtain ⟨-, -, -, -, -, -, -, -, -, -, -, -, ⟨k, e20, hkB, hkH, t, ⟨c, p', hc, rfl, ho⟩, hb⟩, e21, -⟩ := hF
  simp only [e20, e21]
  rw [HBW.out] at hT hkB ho
  exact HQ _ _ _ _ _ _ _ _ _ _ _ k c p' w' hc hkB hb ho ((hT.dealt HH.out).mono (by omega))
end Go.Proofs.Ytgnjknihgjdedaa
