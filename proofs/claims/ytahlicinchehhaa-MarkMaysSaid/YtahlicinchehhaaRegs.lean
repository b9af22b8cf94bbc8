/- Registers, sights and numbers in slices, for the laws that take registers. -/
import Derived.Test.YtahlicinchehhaaSightOf
import Derived.Test.YtahlicinchehhaaKitC
namespace Go.Proofs.Ytahlicinchehhaa
open Go.RowKit
set_option linter.unusedVariables false
set_option linter.unusedSimpArgs false

/-- a register as it is handed about -/
structure Rg where
  t : Int
  A : Option Addr
  n : Nat
  c : Nat
  l : List Mk
def vRg (g : Rg) : Value := .agg #[.int .i64 g.t, .slice g.A g.n g.c]
def eRg (g : Rg) : List Value := [.int .i64 g.t, .slice g.A g.n g.c]
theorem lenRg (g : Rg) : (eRg g).length = 2 := rfl
/-- it can be read -/
structure RgOk (w : World) (g : Rg) : Prop where
  m : Marks w g.A g.n g.l
  nc : g.n ≤ g.c
  cm : g.c ≤ maxLen
  z : g.A = none → g.c = 0
  s : g.n ≤ 4294967295
theorem RgOk.below {w w' : World} {g : Rg} (h : RgOk w g) {B : Nat} (hb : Below B w w') (hB : w.heap.size ≤ B) : RgOk w' g := ⟨h.m.below hb hB, h.nc, h.cm, h.z, h.s⟩
theorem Regs.get {w : World} {A : Option Addr} {n : Nat} {l : List Rg} (h : Sl eRg 2 w A n l) {k : Nat} (hk : k < n) :
    ∃ b off g, A = some ⟨b, off, none⟩ ∧ b < w.heap.size ∧ l[k]? = some g ∧ w.cell? ⟨b, off + k * 2, none⟩ = some (.int .i64 g.t) ∧ w.cell? ⟨b, off + k * 2 + 1, none⟩ = some (.slice g.A g.n g.c) := by
  obtain ⟨b, off, x, hA, hx, hc⟩ := h.at_ hk
  have h0 := hc 0 _ rfl
  exact ⟨b, off, x, hA, cell_lt h0, hx, h0, hc 1 _ rfl⟩

theorem Hd.drew {w : World} {H N : Nat} (h : Hd w H N) : Hd w.drew H N := h
theorem hb_drew {w : World} {b : Nat} {o : Obj} (h : w.heap[b]? = some o) : w.drew.heap[b]? = some o := h
theorem gb_drew (w : World) (row : Option Nat) : w.grownBy w.drew row := ⟨rfl, rfl, rfl, Nat.le_refl _, fun _ _ _ => rfl⟩
theorem gb_below {w w' w'' : World} {row : Option Nat} (h : w.grownBy w' row) (hb : Below w'.heap.size w' w'') : w.grownBy w'' row :=
  ⟨hb.os.trans h.os, hb.tape.trans h.tape, hb.output.trans h.output, Nat.le_trans h.size hb.size, fun j hj hne => (hb.block j (Nat.lt_of_lt_of_le hj h.size)).trans (h.block j hj hne)⟩
theorem gb_cell {w w' : World} {H b o : Nat} {v : Value} (hg : w.grownBy w' (some H)) (hne : b ≠ H) (hc : w.cell? ⟨b, o, none⟩ = some v) : w'.cell? ⟨b, o, none⟩ = some v := hg.cell hc (fun e => hne (by simpa using e))
theorem gb_blk {w w' : World} {H b : Nat} {o : Obj} (hg : w.grownBy w' (some H)) (hne : b ≠ H) (hc : w.heap[b]? = some o) : w'.heap[b]? = some o :=
  (hg.block b (heap_lt hc) (fun e => hne (by cases e; rfl))).trans hc
/-- nine cells, kept -/
theorem keep9 {W wx : World} {H b0 b1 b2 : Nat} {u0 u1 v0 v1 v2 v3 v4 x0 x1 : Value} (hg : W.grownBy wx (some H)) (h0 : b0 ≠ H) (h1 : b1 ≠ H) (h2 : b2 ≠ H)
    (e : W.cell? ⟨b0, 0, none⟩ = some u0 ∧ W.cell? ⟨b0, 1, none⟩ = some u1 ∧ W.cell? ⟨b1, 0, none⟩ = some v0 ∧ W.cell? ⟨b1, 1, none⟩ = some v1 ∧ W.cell? ⟨b1, 2, none⟩ = some v2 ∧ W.cell? ⟨b1, 3, none⟩ = some v3 ∧ W.cell? ⟨b1, 4, none⟩ = some v4 ∧ W.cell? ⟨b2, 0, none⟩ = some x0 ∧ W.cell? ⟨b2, 1, none⟩ = some x1) :
    wx.cell? ⟨b0, 0, none⟩ = some u0 ∧ wx.cell? ⟨b0, 1, none⟩ = some u1 ∧ wx.cell? ⟨b1, 0, none⟩ = some v0 ∧ wx.cell? ⟨b1, 1, none⟩ = some v1 ∧ wx.cell? ⟨b1, 2, none⟩ = some v2 ∧ wx.cell? ⟨b1, 3, none⟩ = some v3 ∧ wx.cell? ⟨b1, 4, none⟩ = some v4 ∧ wx.cell? ⟨b2, 0, none⟩ = some x0 ∧ wx.cell? ⟨b2, 1, none⟩ = some x1 := by
  obtain ⟨a1, a2, a3, a4, a5, a6, a7, a8, a9⟩ := e
  exact ⟨gb_cell hg h0 a1, gb_cell hg h0 a2, gb_cell hg h1 a3, gb_cell hg h1 a4, gb_cell hg h1 a5, gb_cell hg h1 a6, gb_cell hg h1 a7, gb_cell hg h2 a8, gb_cell hg h2 a9⟩
theorem Sl.gb {α : Type} {enc : α → List Value} {sz : Nat} {w w' : World} {A : Option Addr} {n : Nat} {l : List α} {H : Nat} (h : Sl enc sz w A n l) (hg : w.grownBy w' (some H)) (hne : OffH A H) : Sl enc sz w' A n l :=
  ⟨h.1, fun hn => by
    obtain ⟨b, off, hA, hc⟩ := h.2 hn
    exact ⟨b, off, hA, fun i x hx j u hu => gb_cell hg (hne b off hA) (hc i x hx j u hu)⟩⟩
theorem flat_get {α : Type} {enc : α → List Value} {sz : Nat} (henc : ∀ x, (enc x).length = sz) : ∀ (l : List α) (i j : Nat) (x : α) (u : Value), l[i]? = some x → (enc x)[j]? = some u → (l.flatMap enc)[i * sz + j]? = some u
  | [], i, j, x, u, hx, hu => by simp at hx
  | y :: r, i, j, x, u, hx, hu => by
    have hj : j < sz := by have := henc x; have := (List.getElem?_eq_some_iff.1 hu).1; omega
    rw [List.flatMap_cons]
    cases i with
    | zero =>
      simp at hx
      subst hx
      rw [List.getElem?_append_left (by rw [henc]; omega)]
      simpa using hu
    | succ i =>
      rw [List.getElem?_append_right (by rw [henc, Nat.succ_mul]; omega), henc]
      have := flat_get henc r i j x u (by simpa using hx) hu
      rw [show (i + 1) * sz + j - sz = i * sz + j by rw [Nat.succ_mul]; omega]
      exact this
/-- a block that is known whole, read as a list -/
theorem Sl.of_blk {α : Type} {enc : α → List Value} {sz : Nat} {w : World} {b : Nat} {cs : Array Value} {t : TypeId} {l : List α} (h : w.heap[b]? = some (.cells cs t (0, 0))) (hcs : cs.toList = l.flatMap enc) (henc : ∀ x, (enc x).length = sz) : Sl enc sz w (some ⟨b, 0, none⟩) l.length l := by
  refine ⟨rfl, fun _ => ⟨b, 0, rfl, ?_⟩⟩
  intro i x hx j u hu
  have hc : w.cell? ⟨b, 0 + i * sz + j, none⟩ = cs[0 + i * sz + j]? := by unfold World.cell?; simp [h]
  rw [hc, ← Array.getElem?_toList, hcs, Nat.zero_add]
  exact flat_get henc l i j x u hx hu
end Go.Proofs.Ytahlicinchehhaa
