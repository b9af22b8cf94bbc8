/- append and make on slices of the call's own, said for lists: one law for one new element of whatever type. -/
import Derived.Test.YtahlicinchehhaaBase
namespace Go.Proofs.Ytahlicinchehhaa
open Go.RowKit
set_option linter.unusedVariables false
set_option linter.unusedSimpArgs false

/-- The slice value v is the call's own (in blocks from base on, of element type e), and reads as l. -/
def Own {α : Type} (enc : α → List Value) (e : TypeId) (sz : Nat) (w : World) (base : Nat) (v : Value) (l : List α) : Prop :=
  w.ownsRow base e sz v l.length (l.flatMap enc)
section
variable {α : Type} {enc : α → List Value} {e : TypeId} {sz : Nat} {w w' : World} {base : Nat} {v : Value} {l : List α}
theorem Own.nil_ : Own enc e sz w base (.slice none 0 0) [] := World.ownsRow_nil _ _ _ _
theorem Own.kept {row : Option Nat} (h : Own enc e sz w base v l) (hg : w.grownBy w' row) (hne : v.ownBlock = none ∨ v.ownBlock ≠ row) : Own enc e sz w' base v l := World.ownsRow.kept h hg hne
theorem Own.below {B : Nat} (h : Own enc e sz w base v l) (hb : Below B w w') (hB : w.heap.size ≤ B) : Own enc e sz w' base v l :=
  World.ownsRow.kept (row := none) h ⟨hb.os, hb.tape, hb.output, hb.size, fun k hk _ => hb.block k (Nat.lt_of_lt_of_le hk hB)⟩ (by cases v.ownBlock <;> simp)
theorem Own.alloc (h : Own enc e sz w base v l) (o : Obj) : Own enc e sz (w.alloc o) base v l := World.ownsRow.alloc h o
theorem Own.mono {base' : Nat} (h : Own enc e sz w base v l) (hb : base' ≤ base) : Own enc e sz w base' v l := by
  refine ⟨h.1, ?_⟩
  rcases h.2 with h2 | ⟨g, cap, cur, hv, hg, r⟩
  · exact .inl h2
  · exact .inr ⟨g, cap, cur, hv, Nat.le_trans hb hg, r⟩
/-- What a caller wants of it: the slice written out, and read as a list. -/
theorem Own.form (h : Own enc e sz w base v l) (henc : ∀ x, (enc x).length = sz) : ∃ A c, v = .slice A l.length c ∧ Sl enc sz w A l.length l ∧ l.length ≤ c ∧ c ≤ maxLen := by
  rcases h.2 with ⟨hv, h0⟩ | ⟨g, cap, cur, hv, hg, hh, hnc, hcm, r⟩
  · have hl : l = [] := List.eq_nil_of_length_eq_zero h0
    subst hl
    exact ⟨none, 0, hv, Sl.nil_, Nat.le_refl _, Nat.zero_le _⟩
  · subst hv
    exact ⟨_, cap, rfl, Sl.of_own (fun x _ => henc x) h rfl, hnc, hcm⟩
theorem Own.lt (h : Own enc e sz w base v l) : ∀ k, v.ownBlock = some k → base ≤ k ∧ k < w.heap.size := World.ownsRow.lt h
end

/-- A literal slice. -/
theorem Own.lit {α : Type} {enc : α → List Value} {e : TypeId} {sz : Nat} (w : World) (base : Nat) (cs : Array Value) (l : List α) (hcs : cs.toList = l.flatMap enc) (henc : ∀ x, (enc x).length = sz) (hb : base ≤ w.heap.size) (hm : l.length ≤ maxLen) :
    Own enc e sz (w.alloc (.cells cs e)) base (.slice (some ⟨w.heap.size, 0, none⟩) l.length l.length) l := by
  have hlen : (l.flatMap enc).length = l.length * sz := by
    clear hcs hm
    induction l with
    | nil => simp
    | cons x r ih => rw [List.flatMap_cons, List.length_append, henc, ih, List.length_cons, Nat.succ_mul]; omega
  have h := World.ownsRow_lit (base := base) (e := e) (size := sz) w cs l.length hb hm (by rw [← Array.length_toList, hcs, hlen])
  unfold Own
  rw [← hcs]
  exact h
theorem Sl.lit {α : Type} {enc : α → List Value} {sz : Nat} (w : World) (e : TypeId) (cs : Array Value) (l : List α) (hcs : cs.toList = l.flatMap enc) (henc : ∀ x, (enc x).length = sz) (hm : l.length ≤ maxLen) :
    Sl enc sz (w.alloc (.cells cs e)) (some ⟨w.heap.size, 0, none⟩) l.length l :=
  Sl.of_own (fun x _ => henc x) (Own.lit (e := e) w 0 cs l hcs henc (Nat.zero_le _) hm) rfl
theorem ints1 (w : World) (e : TypeId) (x : Int) : Ints (w.alloc (.cells #[.int .i64 x] e)) (some ⟨w.heap.size, 0, none⟩) 1 [x] := Sl.lit w e _ [x] rfl lenInt (by simp [maxLen])
theorem ints2 (w : World) (e : TypeId) (x y : Int) : Ints (w.alloc (.cells #[.int .i64 x, .int .i64 y] e)) (some ⟨w.heap.size, 0, none⟩) 2 [x, y] := Sl.lit w e _ [x, y] rfl lenInt (by simp [maxLen])
theorem ints3 (w : World) (e : TypeId) (x y z : Int) : Ints (w.alloc (.cells #[.int .i64 x, .int .i64 y, .int .i64 z] e)) (some ⟨w.heap.size, 0, none⟩) 3 [x, y, z] := Sl.lit w e _ [x, y, z] rfl lenInt (by simp [maxLen])

/-- What is known of a type of elements: its row of the program's table. -/
structure ElemOk (P : Program) (t e : TypeId) (size bytes : Nat) : Prop where
  sl : P.underlying t = some (.slice e)
  info : ∃ i z, P.info? e = some i ∧ i.zero = some z ∧ i.size = size ∧ i.bytes = bytes ∧ z.cells.size = size
  pos : 0 < size
theorem ElemOk.mk' {P : Program} {t e : TypeId} {size bytes : Nat} {z : Value} (h1 : P.underlying t = some (.slice e)) (h2 : (P.info? e).map (fun i => (i.zero, i.size, i.bytes)) = some (some z, size, bytes)) (h3 : z.cells.size = size) (h4 : 0 < size) : ElemOk P t e size bytes := by
  obtain ⟨i, hi, a, b, c⟩ := info_parts h2
  exact ⟨h1, ⟨i, z, hi, a, b, c, h3⟩, h4⟩

/-- 'out = append(out, x)': x lies in the block that has just been laid. -/
theorem wp_app {α : Type} {enc : α → List Value} {P : Program} {t e : TypeId} {sz bytes : Nat} (E : ElemOk P t e sz bytes) {ops : Array Oper} {rest : List Oper} {o : Oper} {a : Act} {Q : Exit → Act → World → Prop} {w : World}
    (hgd : o.guard = none) (s x : Operand) (ho : o.op = .call { callee := .builtin .append, args := #[s, x], argTypes := #[t, t] })
    (base : Nat) (v : Value) (l : List α) (y : α) (cs : Array Value) (hs : a.eval s = v) (hx : a.eval x = .slice (some ⟨w.heap.size, 0, none⟩) 1 1) (hcs : cs.toList = enc y)
    (hlen : (enc y).length = sz) (h1 : ∀ u ∈ enc y, u.oneCell' = true)
    (hown : Own enc e sz w base v l) (hll : l.length < 4294967296) (hby : bytes ≤ 4096) (hbase : base ≤ w.heap.size)
    (h : ∀ v' w', Own enc e sz w' base v' (l ++ [y]) → Below base w w' → (∀ k, k < w.heap.size → v.ownBlock ≠ some k → w'.heap[k]? = w.heap[k]?) → w.heap.size ≤ w'.heap.size → wpList P ops Q rest (a.put o.dst v') w') :
    wpList P ops Q (o :: rest) a (w.alloc (.cells cs e)) := by
  obtain ⟨i, z, hi, hz, hsize, hbytes, hzs⟩ := E.info
  refine wpList_append_own _ hgd s x t ho base e i z sz bytes E.sl hi hz hsize hbytes hzs E.pos v l.length (l.flatMap enc) hs (World.ownsRow.alloc hown _) ⟨w.heap.size, 0, none⟩ 1 1 (enc y) hx (by omega) ?_ h1 (by unfold maxLen; omega) ?_ (by simp; omega) ?_
  · intro j u hu
    rw [Addr.add_lit, Nat.zero_add, World.cell?_alloc_at _ _ _ _ rfl, ← Array.getElem?_toList, hcs]
    exact hu
  · calc (l.length + 1) * bytes ≤ 4294967296 * 4096 := Nat.mul_le_mul (by omega) hby
      _ ≤ 140737488355328 := by omega
  · intro v' w' hown' hg _
    have hg0 : w.grownBy w' v.ownBlock := ⟨hg.os, hg.tape, hg.output, Nat.le_trans (by simp) hg.size, fun k hk hne => (hg.block k (by simp; omega) hne).trans (Below.heap_alloc _ _ _ hk)⟩
    refine h v' w' ?_ ?_ (fun k hk hne => hg0.block k hk (fun e => hne e.symm)) hg0.size
    · have : (l ++ [y]).flatMap enc = l.flatMap enc ++ enc y := by simp
      unfold Own
      rw [this, List.length_append]
      exact hown'
    · exact (Below.refl _ _).grown hg0 hbase (fun k hk => (Own.lt hown k hk).1)

theorem okInt : ElemOk Try.prog 29 3 1 8 := ElemOk.mk' (z := .int .i64 0) Try.underlying29 (by kernel_rfl) rfl (by decide)
theorem okMark : ElemOk Try.prog 22 26 3 24 := ElemOk.mk' (z := .agg #[.int .i64 0, .int .i64 0, .int .i64 0]) Try.underlying22 (by kernel_rfl) rfl (by decide)
abbrev OwnI (w : World) (base : Nat) (v : Value) (l : List Int) : Prop := Own eInt 3 1 w base v l
abbrev OwnM (w : World) (base : Nat) (v : Value) (l : List Mk) : Prop := Own eMk 26 3 w base v l
theorem one_eInt (x : Int) : ∀ u ∈ eInt x, u.oneCell' = true := by intro u hu; simp [eInt] at hu; subst hu; rfl
theorem one_eMk (x : Mk) : ∀ u ∈ eMk x, u.oneCell' = true := by
  intro u hu; simp [eMk] at hu; rcases hu with rfl | rfl | rfl <;> rfl
end Go.Proofs.Ytahlicinchehhaa
