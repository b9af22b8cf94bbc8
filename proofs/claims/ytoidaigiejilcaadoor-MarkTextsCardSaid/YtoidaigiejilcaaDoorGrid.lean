/- A slice of slices of integers that the call owns. -/
import Derived.Test.YtoidaigiejilcaaDoorBase
import Derived.Deep.AppendLies
import Derived.Deep.RegionHeld3
namespace Go.Proofs.YtoidaigiejilcaaDoor
open Go.RowKit
set_option linter.unusedVariables false
set_option linter.unusedSimpArgs false

theorem okInts : ElemOk Tryd.prog 97 22 1 24 := ElemOk.mk' (z := .slice none 0 0) Tryd.underlying97 (by kernel_rfl) rfl (by decide)

/-- the values are slices of integers of the call's own, and read as the lists -/
def Rws (w : World) (base : Nat) (mv : List Value) (ls : List (List Int)) : Prop :=
  mv.length = ls.length ∧ ∀ (i : Nat) v, mv[i]? = some v → ∃ l, ls[i]? = some l ∧ OwnI w base v l
/-- the slice v of slices is the call's own, its rows too, and it reads as ls -/
def OwnG (w : World) (base : Nat) (v : Value) (ls : List (List Int)) : Prop := ∃ mv, Own eVal 22 1 w base v mv ∧ Rws w base mv ls

theorem lenFlatVal (l : List Value) : (l.flatMap eVal).length = l.length := by
  induction l with
  | nil => rfl
  | cons a r ih => rw [List.flatMap_cons, List.length_append, ih]; simp [eVal]; omega
theorem own_ne {α β : Type} {ea : α → List Value} {eb : β → List Value} {t u : TypeId} {s r : Nat} {w : World} {b c : Nat} {x y : Value} {l : List α} {m : List β} (h : Own ea t s w b x l) (k : Own eb u r w c y m) (hne : t ≠ u) :
    x.ownBlock = none ∨ x.ownBlock ≠ y.ownBlock := by
  rcases h.2 with ⟨rfl, _⟩ | ⟨g, cap, cur, rfl, _, h2, _⟩
  · exact .inl rfl
  · refine .inr ?_
    rcases k.2 with ⟨rfl, _⟩ | ⟨g', cap', cur', rfl, _, k2, _⟩
    · simp [Value.ownBlock]
    · intro e
      simp only [Value.ownBlock, Option.some.injEq] at e
      subst e
      rw [h2] at k2
      cases k2
      exact hne rfl
theorem OwnG.nil_ {w : World} {base : Nat} : OwnG w base (.slice none 0 0) [] := ⟨[], Own.nil_, rfl, fun i v h => by simp at h⟩
theorem OwnG.below {w w' : World} {base B : Nat} {v : Value} {ls : List (List Int)} (h : OwnG w base v ls) (hb : Below B w w') (hB : w.heap.size ≤ B) : OwnG w' base v ls := by
  obtain ⟨mv, h1, h2, h3⟩ := h
  exact ⟨mv, h1.below hb hB, h2, fun i v hv => by
    obtain ⟨l, hl, ho⟩ := h3 i v hv
    exact ⟨l, hl, ho.below hb hB⟩⟩
theorem OwnG.mono {w : World} {base b : Nat} {v : Value} {ls : List (List Int)} (h : OwnG w base v ls) (hb : b ≤ base) : OwnG w b v ls := by
  obtain ⟨mv, h1, h2, h3⟩ := h
  exact ⟨mv, h1.mono hb, h2, fun i v hv => by
    obtain ⟨l, hl, ho⟩ := h3 i v hv
    exact ⟨l, hl, ho.mono hb⟩⟩
theorem OwnG.upon {w w' : World} {base : Nat} {v : Value} {ls : List (List Int)} (h : OwnG w base v ls) (k : ∀ j, base ≤ j → w'.heap[j]? = w.heap[j]?) : OwnG w' base v ls := by
  obtain ⟨mv, h1, h2, h3⟩ := h
  exact ⟨mv, h1.upon k, h2, fun i v hv => by
    obtain ⟨l, hl, ho⟩ := h3 i v hv
    exact ⟨l, hl, ho.upon k⟩⟩
/-- behind an append of a row u that is the call's own -/
theorem OwnG.snoc {w w' : World} {base : Nat} {v v' u : Value} {mv : List Value} {ls : List (List Int)} {l : List Int} (h1 : Own eVal 22 1 w base v mv) (h2 : Rws w base mv ls) (hu : OwnI w base u l)
    (h3 : Own eVal 22 1 w' base v' (mv ++ [u])) (hg : w.grownBy w' v.ownBlock) : OwnG w' base v' (ls ++ [l]) := by
  refine ⟨mv ++ [u], h3, by simp [h2.1], fun i x hx => ?_⟩
  rcases Nat.lt_or_ge i mv.length with hi | hi
  · rw [List.getElem?_append_left hi] at hx
    obtain ⟨l', hl', ho⟩ := h2.2 i x hx
    exact ⟨l', by rw [List.getElem?_append_left (by rw [← h2.1]; exact hi)]; exact hl', ho.kept hg (own_ne ho h1 (by decide))⟩
  · rw [List.getElem?_append_right hi] at hx
    have h0 : i - mv.length = 0 := by
      cases hd : i - mv.length with
      | zero => rfl
      | succ k => rw [hd] at hx; simp at hx
    rw [h0] at hx
    simp only [List.getElem?_cons_zero, Option.some.injEq] at hx
    subst hx
    refine ⟨l, ?_, hu.kept hg (own_ne hu h1 (by decide))⟩
    rw [List.getElem?_append_right (by rw [← h2.1]; exact hi), show i - ls.length = 0 by rw [← h2.1]; exact h0]
    rfl

theorem set4_2 {W : World} {g : Nat} {t : TypeId} {a b c d z : Value} (h : W.heap[g]? = some (.cells #[a, b, c, d] t (0, 0))) : (W.setCell ⟨g, 2, none⟩ z).heap[g]? = some (.cells #[a, b, z, d] t (0, 0)) := by
  simp [World.setCell, Array.getElem?_modify, h]
/-- behind 'x.may = append(x.may, u)' -/
theorem grid_next {base gx : Nat} {Wy w3 w4 : World} {T : TypeId} {a b d v v4 u : Value} {mv : List Value} {ls : List (List Int)} {l : List Int} {o : Obj}
    (bx : Wy.heap[gx]? = some (.cells #[a, b, v, d] T (0, 0))) (hov : Own eVal 22 1 Wy base v mv) (hrw : Rws Wy base mv ls) (hgb : gx < base) (hbz : base ≤ Wy.heap.size)
    (hb3 : Below Wy.heap.size Wy w3) (hu : OwnI w3 Wy.heap.size u l) (hov4 : Own eVal 22 1 w4 base v4 (mv ++ [u])) (hgr : (w3.alloc o).grownBy w4 v.ownBlock) :
    (w4.setCell ⟨gx, 2, none⟩ v4).heap[gx]? = some (.cells #[a, b, v4, d] T (0, 0)) ∧ Own eVal 22 1 (w4.setCell ⟨gx, 2, none⟩ v4) base v4 (mv ++ [u]) ∧
      Rws (w4.setCell ⟨gx, 2, none⟩ v4) base (mv ++ [u]) (ls ++ [l]) ∧ Below gx Wy (w4.setCell ⟨gx, 2, none⟩ v4) := by
  have hz3 := hb3.size
  have hov3 := (hov.below hb3 (Nat.le_refl _)).alloc o
  have hvl := hov.lt
  have hne : v.ownBlock ≠ some gx := fun h => by have := hvl _ h; omega
  have h4 : w4.heap[gx]? = some (.cells #[a, b, v, d] T (0, 0)) :=
    (hgr.block gx (by simp; omega) (fun e => hne e.symm)).trans (hblk_alloc ((hb3.block gx (by omega)).trans bx) o)
  have hfar : ∀ j, j ≠ gx → (w4.setCell ⟨gx, 2, none⟩ v4).heap[j]? = w4.heap[j]? := fun j hj => Below.heap_setCell w4 ⟨gx, 2, none⟩ v4 j hj
  have keep : ∀ {α : Type} {enc : α → List Value} {t : TypeId} {s : Nat} {x : Value} {l : List α}, Own enc t s w4 base x l → Own enc t s (w4.setCell ⟨gx, 2, none⟩ v4) base x l := fun {α enc t s x l} h => by
    refine ⟨h.1, ?_⟩
    rcases h.2 with h2 | ⟨g, cap, cur, hv, hg, hh, r⟩
    · exact .inl h2
    · exact .inr ⟨g, cap, cur, hv, hg, (hfar g (by omega)).trans hh, r⟩
  have hR : Rws (w3.alloc o) base mv ls := ⟨hrw.1, fun i x hx => by
    obtain ⟨l', hl', ho⟩ := hrw.2 i x hx
    exact ⟨l', hl', (ho.below hb3 (Nat.le_refl _)).alloc o⟩⟩
  obtain ⟨mv', m1, m2⟩ := OwnG.snoc hov3 hR ((hu.mono hbz).alloc o) hov4 hgr
  have hR4 : Rws w4 base (mv ++ [u]) (ls ++ [l]) := by
    refine ⟨by simp [hrw.1], fun i x hx => ?_⟩
    rcases Nat.lt_or_ge i mv.length with hi | hi
    · rw [List.getElem?_append_left hi] at hx
      obtain ⟨l', hl', ho⟩ := hR.2 i x hx
      exact ⟨l', by rw [List.getElem?_append_left (by rw [← hrw.1]; exact hi)]; exact hl', ho.kept hgr (own_ne ho hov3 (by decide))⟩
    · have h0 : i = mv.length := by
        have := (List.getElem?_eq_some_iff.1 hx).1
        simp at this; omega
      subst h0
      simp at hx
      subst hx
      exact ⟨l, by rw [hrw.1]; simp, ((hu.mono hbz).alloc o).kept hgr (own_ne ((hu.mono hbz).alloc o) hov3 (by decide))⟩
  refine ⟨set4_2 h4, keep hov4, ⟨hR4.1, fun i x hx => ?_⟩, ?_⟩
  · obtain ⟨l', hl', ho⟩ := hR4.2 i x hx
    exact ⟨l', hl', keep ho⟩
  · have hbb : Below gx Wy w4 := ((hb3.mono (by omega)).trans ((bal0 w3 o).mono (by omega))).trans ((Below.refl _ _).grown hgr (by simp; omega) (fun k hk => by have := hvl _ hk; omega))
    exact hbb.setCell (Nat.le_refl gx : gx ≤ (⟨gx, 2, none⟩ : Addr).block) _

/-- a slice of slices reads as a list of lists -/
def Grid (w : World) (A : Option Addr) (n : Nat) (ls : List (List Int)) : Prop :=
  ∃ mv, Sl eVal 1 w A n mv ∧ mv.length = ls.length ∧ ∀ (i : Nat) v, mv[i]? = some v → ∃ B l c, ls[i]? = some l ∧ v = .slice B l.length c ∧ Ints w B l.length l ∧ l.length ≤ c ∧ c ≤ maxLen
theorem OwnG.form {w : World} {base : Nat} {v : Value} {ls : List (List Int)} (h : OwnG w base v ls) : ∃ A c, v = .slice A ls.length c ∧ Grid w A ls.length ls ∧ ls.length ≤ c ∧ c ≤ maxLen := by
  obtain ⟨mv, h1, h2, h3⟩ := h
  obtain ⟨A, c, hv, hs, hc, hm⟩ := h1.form lenVal
  rw [h2] at hv hs hc
  refine ⟨A, c, hv, ⟨mv, hs, h2, fun i v hv => ?_⟩, hc, hm⟩
  obtain ⟨l, hl, ho⟩ := h3 i v hv
  obtain ⟨B, c', hv', hs', hc', hm'⟩ := ho.form lenInt
  exact ⟨B, l, c', hl, hv', hs', hc', hm'⟩
theorem Grid.below {w w' : World} {B : Nat} {A : Option Addr} {n : Nat} {ls : List (List Int)} (h : Grid w A n ls) (hb : Below B w w') (hB : w.heap.size ≤ B) : Grid w' A n ls := by
  obtain ⟨mv, h1, h2, h3⟩ := h
  exact ⟨mv, h1.below hb hB, h2, fun i v hv => by
    obtain ⟨C, l, c, a1, a2, a3, a4, a5⟩ := h3 i v hv
    exact ⟨C, l, c, a1, a2, a3.below hb hB, a4, a5⟩⟩
theorem Grid.get {w : World} {A : Option Addr} {n : Nat} {ls : List (List Int)} (h : Grid w A n ls) {k : Nat} (hk : k < n) :
    ∃ b off B l c, A = some ⟨b, off, none⟩ ∧ b < w.heap.size ∧ ls[k]? = some l ∧ w.cell? ⟨b, off + k, none⟩ = some (.slice B l.length c) ∧ Ints w B l.length l ∧ l.length ≤ c ∧ c ≤ maxLen := by
  obtain ⟨mv, h1, h2, h3⟩ := h
  obtain ⟨b, off, x, hA, hb, hx, hc⟩ := Vals.get h1 hk
  obtain ⟨B, l, c, a1, a2, a3, a4, a5⟩ := h3 k x hx
  subst a2
  exact ⟨b, off, B, l, c, hA, hb, a1, hc, a3, a4, a5⟩

/-- 'append' of one element at a step of a region that draws: x lies in a block that is known whole -/
theorem step_app {α : Type} {enc : α → List Value} {P : Program} {t e : TypeId} {sz bytes : Nat} (E : ElemOk P t e sz bytes) {ops : Array Oper} {o : Oper} {a : Act} {K : Act → World → Prop} {Q : Exit → Act → World → Prop} {F : Prop} {w : World}
    (hgd : o.guard = none) (s x : Operand) (ho : o.op = .call { callee := .builtin .append, args := #[s, x], argTypes := #[t, t] })
    (base : Nat) (v : Value) (l : List α) (y : α) (cs : Array Value) (g : Nat) (hs : a.eval s = v) (hx : a.eval x = .slice (some ⟨g, 0, none⟩) 1 1) (hg : w.heap[g]? = some (.cells cs e (0, 0))) (hcs : cs.toList = enc y)
    (hlen : (enc y).length = sz) (h1 : ∀ u ∈ enc y, u.oneCell' = true)
    (hown : Own enc e sz w base v l) (hll : l.length < 4294967296) (hby : bytes ≤ 4096) (hbase : base ≤ w.heap.size)
    (h : ∀ g' cap w', Own enc e sz w' base (.slice (some ⟨g', 0, none⟩) (l.length + 1) cap) (l ++ [y]) → w.grownBy w' v.ownBlock → Below base w w' → K (a.put o.dst (.slice (some ⟨g', 0, none⟩) (l.length + 1) cap)) w') :
    if Region.wanted o (yielded ops a.tmps) = true then Oper.wp P o a w K Q else F := by
  obtain ⟨i, z, hi, hz, hsize, hbytes, hzs⟩ := E.info
  refine step_append_lies w hgd s x t ho base e i z sz bytes E.sl hi hz hsize hbytes hzs E.pos v l.length (l.flatMap enc) hs hown ⟨g, 0, none⟩ 1 1 (enc y) hx (by omega) ?_ h1 (by omega) (by unfold maxLen; omega) ?_ hbase w.heap.size rfl ?_
  · rw [← hcs]; exact World.news_of_block hg
  · calc (l.length + 1) * bytes ≤ 4294967296 * 4096 := Nat.mul_le_mul (by omega) hby
      _ ≤ 140737488355328 := by omega
  · intro g' cap w' hown' hgr _ _
    refine h g' cap w' ?_ hgr ((Below.refl _ _).grown hgr hbase (fun k hk => (Own.lt hown k hk).1))
    have e2 : (l ++ [y]).flatMap enc = l.flatMap enc ++ enc y := by simp
    unfold Own
    rw [e2, List.length_append]
    exact hown'
/-- 'append' of one element, the new value written out -/
theorem wp_appx {α : Type} {enc : α → List Value} {P : Program} {t e : TypeId} {sz bytes : Nat} (E : ElemOk P t e sz bytes) {ops : Array Oper} {rest : List Oper} {o : Oper} {a : Act} {Q : Exit → Act → World → Prop} {w : World}
    (hgd : o.guard = none) (s x : Operand) (ho : o.op = .call { callee := .builtin .append, args := #[s, x], argTypes := #[t, t] })
    (base : Nat) (v : Value) (l : List α) (y : α) (cs : Array Value) (hs : a.eval s = v) (hx : a.eval x = .slice (some ⟨w.heap.size, 0, none⟩) 1 1) (hcs : cs.toList = enc y)
    (hlen : (enc y).length = sz) (h1 : ∀ u ∈ enc y, u.oneCell' = true)
    (hown : Own enc e sz w base v l) (hll : l.length < 4294967296) (hby : bytes ≤ 4096) (hbase : base ≤ w.heap.size)
    (h : ∀ g' cap w', Own enc e sz w' base (.slice (some ⟨g', 0, none⟩) (l.length + 1) cap) (l ++ [y]) → w.grownBy w' v.ownBlock → Below base w w' → wpList P ops Q rest (a.put o.dst (.slice (some ⟨g', 0, none⟩) (l.length + 1) cap)) w') :
    wpList P ops Q (o :: rest) a (w.alloc (.cells cs e)) := by
  obtain ⟨i, z, hi, hz, hsize, hbytes, hzs⟩ := E.info
  refine wpList_append_lies _ hgd s x t ho base e i z sz bytes E.sl hi hz hsize hbytes hzs E.pos v l.length (l.flatMap enc) hs (World.ownsRow.alloc hown _) ⟨w.heap.size, 0, none⟩ 1 1 (enc y) hx (by omega) ?_ h1 (by omega) (by unfold maxLen; omega) ?_ (by simp; omega) (w.heap.size + 1) (by simp) ?_
  · rw [← hcs]; exact World.news_of_block (heap_alloc_new w _)
  · calc (l.length + 1) * bytes ≤ 4294967296 * 4096 := Nat.mul_le_mul (by omega) hby
      _ ≤ 140737488355328 := by omega
  · intro g' cap w' hown' hgr _ _
    have hg0 : w.grownBy w' v.ownBlock := ⟨hgr.os, hgr.tape, hgr.output, Nat.le_trans (by simp) hgr.size, fun k hk hne => (hgr.block k (by simp; omega) hne).trans (Below.heap_alloc _ _ _ hk)⟩
    refine h g' cap w' ?_ hg0 ((Below.refl _ _).grown hg0 hbase (fun k hk => (Own.lt hown k hk).1))
    have e2 : (l ++ [y]).flatMap enc = l.flatMap enc ++ enc y := by simp
    unfold Own
    rw [e2, List.length_append]
    exact hown'
end Go.Proofs.YtoidaigiejilcaaDoor
