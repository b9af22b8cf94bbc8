/- Registers, sights and numbers in slices, for the laws that take registers.
   The relation that deals and new blocks keep: for regions that draw their order and ask the hand. -/
import Derived.Test.YtoidaigiejilcaaDoorSightOf
import Derived.Test.YtoidaigiejilcaaDoorKit
import Derived.Test.YtoidaigiejilcaaDoorDraw
namespace Go.Proofs.YtoidaigiejilcaaDoor
open Go.RowKit
set_option linter.unusedVariables false
set_option linter.unusedSimpArgs false

/-- a register as it is handed about -/
structure Rg where
  t : Int
  A : Option Addr
  n : Nat
  c : Nat
  l : List Mk
def vRg (g : Rg) : Value := .agg #[.int .i64 g.t, .slice g.A g.n g.c]
def eRg (g : Rg) : List Value := [.int .i64 g.t, .slice g.A g.n g.c]
theorem lenRg (g : Rg) : (eRg g).length = 2 := rfl
/-- it can be read -/
structure RgOk (w : World) (g : Rg) : Prop where
  m : Marks w g.A g.n g.l
  nc : g.n ≤ g.c
  cm : g.c ≤ maxLen
  z : g.A = none → g.c = 0
  s : g.n ≤ 4294967295
theorem RgOk.below {w w' : World} {g : Rg} (h : RgOk w g) {B : Nat} (hb : Below B w w') (hB : w.heap.size ≤ B) : RgOk w' g := ⟨h.m.below hb hB, h.nc, h.cm, h.z, h.s⟩
theorem Regs.get {w : World} {A : Option Addr} {n : Nat} {l : List Rg} (h : Sl eRg 2 w A n l) {k : Nat} (hk : k < n) :
    ∃ b off g, A = some ⟨b, off, none⟩ ∧ b < w.heap.size ∧ l[k]? = some g ∧ w.cell? ⟨b, off + k * 2, none⟩ = some (.int .i64 g.t) ∧ w.cell? ⟨b, off + k * 2 + 1, none⟩ = some (.slice g.A g.n g.c) := by
  obtain ⟨b, off, x, hA, hx, hc⟩ := h.at_ hk
  have h0 := hc 0 _ rfl
  exact ⟨b, off, x, hA, cell_lt h0, hx, h0, hc 1 _ rfl⟩

theorem Hd.drew {w : World} {H N : Nat} (h : Hd w H N) : Hd w.drew H N := h
theorem hb_drew {w : World} {b : Nat} {o : Obj} (h : w.heap[b]? = some o) : w.drew.heap[b]? = some o := h
theorem gb_drew (w : World) (row : Option Nat) : w.grownBy w.drew row := ⟨rfl, rfl, rfl, Nat.le_refl _, fun _ _ _ => rfl⟩
theorem gb_below {w w' w'' : World} {row : Option Nat} (h : w.grownBy w' row) (hb : Below w'.heap.size w' w'') : w.grownBy w'' row :=
  ⟨hb.os.trans h.os, hb.tape.trans h.tape, hb.output.trans h.output, Nat.le_trans h.size hb.size, fun j hj hne => (hb.block j (Nat.lt_of_lt_of_le hj h.size)).trans (h.block j hj hne)⟩
theorem gb_cell {w w' : World} {H b o : Nat} {v : Value} (hg : w.grownBy w' (some H)) (hne : b ≠ H) (hc : w.cell? ⟨b, o, none⟩ = some v) : w'.cell? ⟨b, o, none⟩ = some v := hg.cell hc (fun e => hne (by simpa using e))
theorem gb_blk {w w' : World} {H b : Nat} {o : Obj} (hg : w.grownBy w' (some H)) (hne : b ≠ H) (hc : w.heap[b]? = some o) : w'.heap[b]? = some o :=
  (hg.block b (heap_lt hc) (fun e => hne (by cases e; rfl))).trans hc
/-- nine cells, kept -/
theorem keep9 {W wx : World} {H b0 b1 b2 : Nat} {u0 u1 v0 v1 v2 v3 v4 x0 x1 : Value} (hg : W.grownBy wx (some H)) (h0 : b0 ≠ H) (h1 : b1 ≠ H) (h2 : b2 ≠ H)
    (e : W.cell? ⟨b0, 0, none⟩ = some u0 ∧ W.cell? ⟨b0, 1, none⟩ = some u1 ∧ W.cell? ⟨b1, 0, none⟩ = some v0 ∧ W.cell? ⟨b1, 1, none⟩ = some v1 ∧ W.cell? ⟨b1, 2, none⟩ = some v2 ∧ W.cell? ⟨b1, 3, none⟩ = some v3 ∧ W.cell? ⟨b1, 4, none⟩ = some v4 ∧ W.cell? ⟨b2, 0, none⟩ = some x0 ∧ W.cell? ⟨b2, 1, none⟩ = some x1) :
    wx.cell? ⟨b0, 0, none⟩ = some u0 ∧ wx.cell? ⟨b0, 1, none⟩ = some u1 ∧ wx.cell? ⟨b1, 0, none⟩ = some v0 ∧ wx.cell? ⟨b1, 1, none⟩ = some v1 ∧ wx.cell? ⟨b1, 2, none⟩ = some v2 ∧ wx.cell? ⟨b1, 3, none⟩ = some v3 ∧ wx.cell? ⟨b1, 4, none⟩ = some v4 ∧ wx.cell? ⟨b2, 0, none⟩ = some x0 ∧ wx.cell? ⟨b2, 1, none⟩ = some x1 := by
  obtain ⟨a1, a2, a3, a4, a5, a6, a7, a8, a9⟩ := e
  exact ⟨gb_cell hg h0 a1, gb_cell hg h0 a2, gb_cell hg h1 a3, gb_cell hg h1 a4, gb_cell hg h1 a5, gb_cell hg h1 a6, gb_cell hg h1 a7, gb_cell hg h2 a8, gb_cell hg h2 a9⟩
theorem Sl.gb {α : Type} {enc : α → List Value} {sz : Nat} {w w' : World} {A : Option Addr} {n : Nat} {l : List α} {H : Nat} (h : Sl enc sz w A n l) (hg : w.grownBy w' (some H)) (hne : OffH A H) : Sl enc sz w' A n l :=
  ⟨h.1, fun hn => by
    obtain ⟨b, off, hA, hc⟩ := h.2 hn
    exact ⟨b, off, hA, fun i x hx j u hu => gb_cell hg (hne b off hA) (hc i x hx j u hu)⟩⟩
theorem flat_get {α : Type} {enc : α → List Value} {sz : Nat} (henc : ∀ x, (enc x).length = sz) : ∀ (l : List α) (i j : Nat) (x : α) (u : Value), l[i]? = some x → (enc x)[j]? = some u → (l.flatMap enc)[i * sz + j]? = some u
  | [], i, j, x, u, hx, hu => by simp at hx
  | y :: r, i, j, x, u, hx, hu => by
    have hj : j < sz := by have := henc x; have := (List.getElem?_eq_some_iff.1 hu).1; omega
    rw [List.flatMap_cons]
    cases i with
    | zero =>
      simp at hx
      subst hx
      rw [List.getElem?_append_left (by rw [henc]; omega)]
      simpa using hu
    | succ i =>
      rw [List.getElem?_append_right (by rw [henc, Nat.succ_mul]; omega), henc]
      have := flat_get henc r i j x u (by simpa using hx) hu
      rw [show (i + 1) * sz + j - sz = i * sz + j by rw [Nat.succ_mul]; omega]
      exact this
/-- a block that is known whole, read as a list -/
theorem Sl.of_blk {α : Type} {enc : α → List Value} {sz : Nat} {w : World} {b : Nat} {cs : Array Value} {t : TypeId} {l : List α} (h : w.heap[b]? = some (.cells cs t (0, 0))) (hcs : cs.toList = l.flatMap enc) (henc : ∀ x, (enc x).length = sz) : Sl enc sz w (some ⟨b, 0, none⟩) l.length l := by
  refine ⟨rfl, fun _ => ⟨b, 0, rfl, ?_⟩⟩
  intro i x hx j u hu
  have hc : w.cell? ⟨b, 0 + i * sz + j, none⟩ = cs[0 + i * sz + j]? := by unfold World.cell?; simp [h]
  rw [hc, ← Array.getElem?_toList, hcs, Nat.zero_add]
  exact flat_get henc l i j x u hx hu
end Go.Proofs.YtoidaigiejilcaaDoor

namespace Go.Proofs.YtoidaigiejilcaaDoor
open Go.RowKit
set_option linter.unusedVariables false
set_option linter.unusedSimpArgs false

/-- the hand has dealt some numbers, and blocks were laid -/
def TH (H : Nat) (n : Nat) (w w' : World) : Prop := w.grownBy w' (some H) ∧ ∀ N, Hd w H N → Hd w' H (N + 300 * n)
theorem TH.tr {H : Nat} : ∀ n a b c, TH H n a b → TH H 1 b c → TH H (n + 1) a c := fun n a b c h k =>
  ⟨h.1.trans k.1, fun N hN => by have := k.2 _ (h.2 N hN); rw [show N + 300 * (n + 1) = N + 300 * n + 300 * 1 by omega]; exact this⟩
theorem TH.draw {H : Nat} (w : World) : TH H 0 w { w with drawn := w.drawn + 1 } := ⟨⟨rfl, rfl, rfl, Nat.le_refl _, fun _ _ _ => rfl⟩, fun N h => h⟩
theorem TH.rf {H : Nat} : ∀ w, TH H 1 w w := fun w => ⟨World.grownBy.refl _ _, fun N h => h.mono (by omega)⟩
theorem TH.al {H : Nat} (w : World) (o : Obj) : TH H 1 w (w.alloc o) := ⟨World.grownBy_alloc _ _ _, fun N h => (h.alloc o).mono (by omega)⟩
theorem Hd.least {w : World} {H N : Nat} (h : Hd w H N) : ∃ N0, N0 ≤ N ∧ Hd w H N0 ∧ ∀ M, Hd w H M → N0 ≤ M := by
  obtain ⟨A, n, c, next, state, h1, h2, h3, h4, h5⟩ := h
  refine ⟨next.toNat, by omega, ⟨A, n, c, next, state, h1, h2, h3, by omega, h5⟩, fun M hM => ?_⟩
  obtain ⟨A', n', c', next', state', k1, k2, k3, k4, k5⟩ := hM
  rw [h1] at k1
  cases k1
  omega
theorem TH.of {w w' : World} {H N k : Nat} (hmin : ∀ M, Hd w H M → N ≤ M) (h : Dealt w w' H (N + k)) (hk : k ≤ 300) : TH H 1 w w' :=
  ⟨h.gr, fun M hM => h.hd.mono (by have := hmin M hM; omega)⟩
theorem TH.blk {w w' : World} {H n b : Nat} {o : Obj} (h : TH H n w w') (hne : b ≠ H) (hb : w.heap[b]? = some o) : w'.heap[b]? = some o := gb_blk h.1 hne hb
theorem TH.hd {w w' : World} {H n N M : Nat} (h : TH H n w w') (hd : Hd w H N) (hn : N + 300 * n ≤ M) : Hd w' H M := (h.2 N hd).mono hn
/-- a new slice of n elements, not in the hand's block -/
def SlF (H : Nat) (e : TypeId) (n : Nat) (S : Array Value → Prop) : VF := fun v w => ∃ b cs, v = .slice (some ⟨b, 0, none⟩) n n ∧ b ≠ H ∧ w.heap[b]? = some (.cells cs e (0, 0)) ∧ S cs
theorem SlF.st {H : Nat} {e : TypeId} {n : Nat} {S : Array Value → Prop} : ∀ m v w w', TH H m w w' → SlF H e n S v w → SlF H e n S v w' := fun m v w w' h ⟨b, cs, h1, h2, h3, h4⟩ => ⟨b, cs, h1, h2, h.blk h2 h3, h4⟩
theorem SlF.new {H : Nat} {e : TypeId} {n : Nat} {S : Array Value → Prop} {w : World} {cs : Array Value} (hH : H < w.heap.size) (hS : S cs) :
    TH H 1 w (w.alloc (.cells cs e)) ∧ SlF H e n S (.slice (some ⟨w.heap.size, 0, none⟩) n n) (w.alloc (.cells cs e)) :=
  ⟨TH.al _ _, w.heap.size, cs, rfl, by omega, heap_alloc_new w _, hS⟩
/-- a number, a sight, of which no more is known -/
def EqF (c : Value) : VF := fun v _ => v = c
theorem EqF.st {T : Nat → World → World → Prop} {c : Value} : ∀ (m : Nat) v w w', T m w w' → EqF c v w → EqF c v w' := fun _ _ _ _ _ h => h
def NatF : VF := fun v _ => ∃ k : Nat, v = .int .i64 k
def NatLe (m : Int) : VF := fun v _ => ∃ k : Nat, v = .int .i64 k ∧ ((k : Int) ≤ m ∨ k = 0)
def SgF : VF := fun v _ => ∃ S : Sg, v = vSg S
theorem NatF.st {T : Nat → World → World → Prop} : ∀ (m : Nat) v w w', T m w w' → NatF v w → NatF v w' := fun _ _ _ _ _ h => h
theorem NatLe.st {T : Nat → World → World → Prop} {M : Int} : ∀ (m : Nat) v w w', T m w w' → NatLe M v w → NatLe M v w' := fun _ _ _ _ _ h => h
theorem SgF.st {T : Nat → World → World → Prop} : ∀ (m : Nat) v w w', T m w w' → SgF v w → SgF v w' := fun _ _ _ _ _ h => h
theorem gb_set (w : World) (b i : Nat) (v : Value) : w.grownBy (w.setCell ⟨b, i, none⟩ v) (some b) :=
  ⟨rfl, rfl, rfl, by simp, fun j _ hj => Below.heap_setCell w ⟨b, i, none⟩ v j (fun e => hj (by rw [e]))⟩
theorem Sl.under {α : Type} {enc : α → List Value} {sz : Nat} {w w' : World} {A : Option Addr} {n : Nat} {l : List α} {B : Nat} (h : Sl enc sz w A n l) (hb : Below B w w') (hlt : ∀ b off, A = some ⟨b, off, none⟩ → b < B) : Sl enc sz w' A n l :=
  ⟨h.1, fun hn => by
    obtain ⟨b, off, hA, hc⟩ := h.2 hn
    exact ⟨b, off, hA, fun i x hx j u hu => (hb.cell (p := ⟨b, off + i * sz + j, none⟩) (hlt b off hA)).trans (hc i x hx j u hu)⟩⟩
theorem blk_b {w w' : World} {b B : Nat} {o : Obj} (h : w.heap[b]? = some o) (hb : Below B w w') (hB : b < B) : w'.heap[b]? = some o := (hb.block b hB).trans h
theorem Hd.bb {w w' : World} {H N B : Nat} (h : Hd w H N) (hb : Below B w w') (hB : H < B) : Hd w' H N := h.below hb hB
theorem pure_st {T : Nat → World → World → Prop} {R : Value → Prop} : ∀ (m : Nat) v w w', T m w w' → (fun v _ => R v : VF) v w → (fun v _ => R v : VF) v w' := fun _ _ _ _ _ h => h

/-- blocks were laid, nothing that was there has changed -/
def TB (n : Nat) (w w' : World) : Prop := Below w.heap.size w w'
theorem TB.tr : ∀ n a b c, TB n a b → TB 1 b c → TB (n + 1) a c := fun n a b c h k => Below.trans h (k.mono h.size)
theorem TB.draw (w : World) : TB 0 w { w with drawn := w.drawn + 1 } := bdraw (Below.refl _ _)
theorem TB.rf : ∀ w, TB 1 w w := fun w => Below.refl _ _
/-- the same, but blocks from B on that read z may have been written to read t: for a result that is a struct, kept in a block of its own -/
def TZ (B : Nat) (z t : Obj) (n : Nat) (w w' : World) : Prop :=
  w'.os = w.os ∧ w'.tape = w.tape ∧ w'.output = w.output ∧ w.heap.size ≤ w'.heap.size ∧ ∀ (k : Nat) o, w.heap[k]? = some o → w'.heap[k]? = some o ∨ (B ≤ k ∧ o = z ∧ w'.heap[k]? = some t)
theorem TZ.tr {B : Nat} {z t : Obj} : ∀ n a b c, TZ B z t n a b → TZ B z t 1 b c → TZ B z t (n + 1) a c := fun n a b c h k => by
  obtain ⟨h1, h2, h3, h4, h5⟩ := h
  obtain ⟨k1, k2, k3, k4, k5⟩ := k
  refine ⟨k1.trans h1, k2.trans h2, k3.trans h3, Nat.le_trans h4 k4, fun j o ho => ?_⟩
  rcases h5 j o ho with h | ⟨hB, hz, h⟩
  · exact k5 j o h
  · rcases k5 j t h with h' | ⟨_, _, h'⟩
    · exact .inr ⟨hB, hz, h'⟩
    · exact .inr ⟨hB, hz, h'⟩
theorem TZ.draw {B : Nat} {z t : Obj} (w : World) : TZ B z t 0 w { w with drawn := w.drawn + 1 } := ⟨rfl, rfl, rfl, Nat.le_refl _, fun _ _ h => .inl h⟩
theorem TZ.rf {B : Nat} {z t : Obj} : ∀ w, TZ B z t 1 w w := fun w => ⟨rfl, rfl, rfl, Nat.le_refl _, fun _ _ h => .inl h⟩
theorem TZ.of {B : Nat} {z t : Obj} {n : Nat} {w w' : World} (h : Below w.heap.size w w') : TZ B z t n w w' := ⟨h.os, h.tape, h.output, h.size, fun k o ho => .inl ((h.block k (heap_lt ho)).trans ho)⟩
theorem TZ.below {B : Nat} {z t : Obj} {n : Nat} {w w' : World} (h : TZ B z t n w w') (hB : B ≤ w.heap.size) : Below B w w' := by
  obtain ⟨h1, h2, h3, h4, h5⟩ := h
  refine ⟨h1, h2, h3, h4, fun k hk => ?_⟩
  have ho : w.heap[k]? = some (w.heap[k]'(by omega)) := Array.getElem?_eq_getElem (by omega)
  rcases h5 k _ ho with h | ⟨h, _⟩
  · rw [h, ho]
  · omega
def sgObj (s : Sg) : Obj := .cells #[.int .i64 s.n, .bool s.l, .bool s.r, .int .i64 s.b, .int .i64 s.p] 42 (0, 0)
def mkObj (m : Mk) : Obj := .cells #[.int .i64 m.n, .int .i64 m.b, .int .i64 m.p] 52 (0, 0)
/-- a pointer to the block of the result: not yet written, or written -/
def PtZ (B : Nat) (z t : Obj) : VF := fun v w => ∃ k, v = .pointer (some ⟨k, 0, none⟩) ∧ B ≤ k ∧ (w.heap[k]? = some z ∨ w.heap[k]? = some t)
def PtT (B : Nat) (t : Obj) : VF := fun v w => ∃ k, v = .pointer (some ⟨k, 0, none⟩) ∧ B ≤ k ∧ w.heap[k]? = some t
theorem PtZ.st {B : Nat} {z t : Obj} : ∀ n v w w', TZ B z t n w w' → PtZ B z t v w → PtZ B z t v w' := fun n v w w' h ⟨k, hv, hk, ho⟩ => by
  refine ⟨k, hv, hk, ?_⟩
  rcases ho with ho | ho
  · rcases h.2.2.2.2 k z ho with h' | ⟨_, _, h'⟩
    · exact .inl h'
    · exact .inr h'
  · rcases h.2.2.2.2 k t ho with h' | ⟨_, _, h'⟩
    · exact .inr h'
    · exact .inr h'
theorem PtT.st {B : Nat} {z t : Obj} : ∀ n v w w', TZ B z t n w w' → PtT B t v w → PtT B t v w' := fun n v w w' h ⟨k, hv, hk, ho⟩ => by
  refine ⟨k, hv, hk, ?_⟩
  rcases h.2.2.2.2 k t ho with h' | ⟨_, _, h'⟩
  · exact h'
  · exact h'
theorem PtZ.new {B : Nat} {z t : Obj} (w : World) (hB : B ≤ w.heap.size) : TZ B z t 1 w (w.alloc z) ∧ PtZ B z t (.pointer (some ⟨w.heap.size, 0, none⟩)) (w.alloc z) :=
  ⟨TZ.of (bal0 w z), w.heap.size, rfl, hB, .inl (heap_alloc_new w z)⟩
theorem PtZ.put {B k : Nat} {z t : Obj} {w w' : World} (hk : B ≤ k) (ho : w.heap[k]? = some z ∨ w.heap[k]? = some t) (h1 : w'.os = w.os ∧ w'.tape = w.tape ∧ w'.output = w.output) (h2 : w'.heap.size = w.heap.size) (h3 : ∀ j, j ≠ k → w'.heap[j]? = w.heap[j]?) (h4 : w'.heap[k]? = some t) :
    TZ B z t 1 w w' ∧ PtT B t (.pointer (some ⟨k, 0, none⟩)) w' := by
  refine ⟨⟨h1.1, h1.2.1, h1.2.2, by omega, fun j o hj => ?_⟩, k, rfl, hk, h4⟩
  by_cases hjk : j = k
  · subst hjk
    rcases ho with ho | ho
    · rw [ho] at hj; cases hj; exact .inr ⟨hk, rfl, h4⟩
    · rw [ho] at hj; cases hj; exact .inl h4
  · exact .inl ((h3 j hjk).trans hj)
theorem set_blk {w : World} {k i : Nat} {t : TypeId} {cs : Array Value} {x : Nat × Nat} {v : Value} (h : w.heap[k]? = some (.cells cs t x)) : (w.setCell ⟨k, i, none⟩ v).heap[k]? = some (.cells (cs.setIfInBounds i v) t x) := by
  simp [World.setCell, Array.getElem?_modify, h]
/-- two worlds alike in all but the heap -/
def Out (w w' : World) : Prop := w'.os = w.os ∧ w'.tape = w.tape ∧ w'.output = w.output
theorem Out.set {w w' : World} (h : Out w w') (a : Addr) (v : Value) : Out w (w'.setCell a v) := ⟨h.1, h.2.1, h.2.2⟩
theorem Out.rf (w : World) : Out w w := ⟨rfl, rfl, rfl⟩
theorem sg_put {B k : Nat} {z : Obj} {s' R : Sg} {w : World} (hk : B ≤ k) (h : (w.heap[k]? = some z ∨ w.heap[k]? = some (sgObj R)) ∧ w.heap[k]? = some (sgObj s')) :
    TZ B z (sgObj R) 1 w (((((w.setCell ⟨k, 0, none⟩ (.int .i64 R.n)).setCell ⟨k, 1, none⟩ (.bool R.l)).setCell ⟨k, 2, none⟩ (.bool R.r)).setCell ⟨k, 3, none⟩ (.int .i64 R.b)).setCell ⟨k, 4, none⟩ (.int .i64 R.p)) ∧
      PtT B (sgObj R) (.pointer (some ⟨k, 0, none⟩)) (((((w.setCell ⟨k, 0, none⟩ (.int .i64 R.n)).setCell ⟨k, 1, none⟩ (.bool R.l)).setCell ⟨k, 2, none⟩ (.bool R.r)).setCell ⟨k, 3, none⟩ (.int .i64 R.b)).setCell ⟨k, 4, none⟩ (.int .i64 R.p)) := by
  refine PtZ.put hk h.1 (((((Out.rf _).set _ _).set _ _).set _ _).set _ _ |>.set _ _) (by simp) (fun j hj => ?_) ?_
  · rw [Below.heap_setCell _ ⟨k, 4, none⟩ _ j hj, Below.heap_setCell _ ⟨k, 3, none⟩ _ j hj, Below.heap_setCell _ ⟨k, 2, none⟩ _ j hj, Below.heap_setCell _ ⟨k, 1, none⟩ _ j hj, Below.heap_setCell _ ⟨k, 0, none⟩ _ j hj]
  · exact set_blk (set_blk (set_blk (set_blk (set_blk h.2))))
theorem mk_put {B k : Nat} {z : Obj} {s' R : Mk} {w : World} (hk : B ≤ k) (h : (w.heap[k]? = some z ∨ w.heap[k]? = some (mkObj R)) ∧ w.heap[k]? = some (mkObj s')) :
    TZ B z (mkObj R) 1 w (((w.setCell ⟨k, 0, none⟩ (.int .i64 R.n)).setCell ⟨k, 1, none⟩ (.int .i64 R.b)).setCell ⟨k, 2, none⟩ (.int .i64 R.p)) ∧
      PtT B (mkObj R) (.pointer (some ⟨k, 0, none⟩)) (((w.setCell ⟨k, 0, none⟩ (.int .i64 R.n)).setCell ⟨k, 1, none⟩ (.int .i64 R.b)).setCell ⟨k, 2, none⟩ (.int .i64 R.p)) := by
  refine PtZ.put hk h.1 ((((Out.rf _).set _ _).set _ _).set _ _) (by simp) (fun j hj => ?_) ?_
  · rw [Below.heap_setCell _ ⟨k, 2, none⟩ _ j hj, Below.heap_setCell _ ⟨k, 1, none⟩ _ j hj, Below.heap_setCell _ ⟨k, 0, none⟩ _ j hj]
  · exact set_blk (set_blk (set_blk h.2))
end Go.Proofs.YtoidaigiejilcaaDoor
