/- Words for memory, for every walk of this seat: a slice that reads as a list; a slice that the call owns; what a call leaves as it was. They speak of no function of the program. -/
import Derived.Test.YtahlicinchehhaaProg
import Derived.Test.YtahlicinchehhaaChecked
import Derived.Test.YtahlicinchehhaaPlain
import Derived.WalkKit
import Derived.ProofKit
import Derived.OpenShut
import Derived.OneCell
import Derived.WalkSpells
import Derived.WalkLawsBesides
import Derived.Deep.AppendLies
import Derived.Deep.Draws
import Derived.Deep.LoopGhost
import Derived.Deep.DeepCutAuto
import Derived.Deep.Light
import Derived.Deep.RegionWith
import Derived.Deep.QuietTactic
import Derived.BigQuiet
import Derived.Lib.Hide
import Derived.Lib.QuietBelow
import Derived.IntWalk
import Derived.Outline
namespace Go.Proofs.Ytahlicinchehhaa
open Go.RowKit
set_option linter.unusedVariables false
set_option linter.unusedSimpArgs false

theorem cell_lt {w : World} {a : Addr} {v : Value} (h : w.cell? a = some v) : a.block < w.heap.size := by
  unfold World.cell? at h
  rcases Nat.lt_or_ge a.block w.heap.size with h' | h'
  · exact h'
  · rw [Array.getElem?_eq_none h'] at h; cases h
theorem heap_lt {w : World} {b : Nat} {o : Obj} (h : w.heap[b]? = some o) : b < w.heap.size := (Array.getElem?_eq_some_iff.1 h).1

/-- A cell that was there is there behind what leaves all that was there. -/
theorem bcell {w w' : World} {B : Nat} {a : Addr} {v : Value} (h : w.cell? a = some v) (hb : Below B w w') (hB : w.heap.size ≤ B) : w'.cell? a = some v :=
  (hb.cell (Nat.lt_of_lt_of_le (cell_lt h) hB)).trans h
theorem bheap {w w' : World} {B : Nat} {b : Nat} {o : Obj} (h : w.heap[b]? = some o) (hb : Below B w w') (hB : w.heap.size ≤ B) : w'.heap[b]? = some o :=
  (hb.block b (Nat.lt_of_lt_of_le (heap_lt h) hB)).trans h

/-! ### how values lie in cells -/
def eInt (x : Int) : List Value := [.int .i64 x]
def eBool (x : Bool) : List Value := [.bool x]
def eVal (x : Value) : List Value := [x]
def eMk (m : Mk) : List Value := [.int .i64 m.n, .int .i64 m.b, .int .i64 m.p]
def eSg (s : Sg) : List Value := [.int .i64 s.n, .bool s.l, .bool s.r, .int .i64 s.b, .int .i64 s.p]
def vMk (m : Mk) : Value := .agg #[.int .i64 m.n, .int .i64 m.b, .int .i64 m.p]
def vSg (s : Sg) : Value := .agg #[.int .i64 s.n, .bool s.l, .bool s.r, .int .i64 s.b, .int .i64 s.p]

/-- The slice of n elements at A reads as the list l; each element takes sz cells, as enc says. -/
def Sl {α : Type} (enc : α → List Value) (sz : Nat) (w : World) (A : Option Addr) (n : Nat) (l : List α) : Prop :=
  l.length = n ∧ (0 < n → ∃ b off, A = some ⟨b, off, none⟩ ∧ ∀ (i : Nat) x, l[i]? = some x → ∀ (j : Nat) u, (enc x)[j]? = some u → w.cell? ⟨b, off + i * sz + j, none⟩ = some u)
section
variable {α : Type} {enc : α → List Value} {sz : Nat} {w w' : World} {A : Option Addr} {n : Nat} {l : List α}
theorem Sl.len (h : Sl enc sz w A n l) : l.length = n := h.1
theorem Sl.nil_ : Sl enc sz w A 0 [] := ⟨rfl, fun h => absurd h (by omega)⟩
theorem Sl.keep (h : Sl enc sz w A n l) (hk : ∀ p u, w.cell? p = some u → w'.cell? p = some u) : Sl enc sz w' A n l :=
  ⟨h.1, fun hn => by
    obtain ⟨b, off, hA, hc⟩ := h.2 hn
    exact ⟨b, off, hA, fun i x hx j u hu => hk _ _ (hc i x hx j u hu)⟩⟩
theorem Sl.below {B : Nat} (h : Sl enc sz w A n l) (hb : Below B w w') (hB : w.heap.size ≤ B) : Sl enc sz w' A n l :=
  h.keep fun _ _ hc => bcell hc hb hB
theorem Sl.alloc (h : Sl enc sz w A n l) (o : Obj) : Sl enc sz (w.alloc o) A n l :=
  h.below ((Below.refl w.heap.size w).alloc (Nat.le_refl _) o) (Nat.le_refl _)
theorem Sl.drewN (h : Sl enc sz w A n l) (k : Nat) : Sl enc sz (w.drewN k) A n l := h
theorem Sl.drew (h : Sl enc sz w A n l) : Sl enc sz w.drew A n l := h
theorem Sl.at_ (h : Sl enc sz w A n l) {k : Nat} (hk : k < n) :
    ∃ b off x, A = some ⟨b, off, none⟩ ∧ l[k]? = some x ∧ ∀ (j : Nat) u, (enc x)[j]? = some u → w.cell? ⟨b, off + k * sz + j, none⟩ = some u := by
  obtain ⟨b, off, hA, hc⟩ := h.2 (by omega)
  have hm : l[k]? = some (l[k]'(by have := h.1; omega)) := List.getElem?_eq_getElem (by have := h.1; omega)
  exact ⟨b, off, _, hA, hm, hc k _ hm⟩
/-- What the call owns reads as a list. -/
theorem Sl.of_own {base : Nat} {e : TypeId} {c : Nat} (henc : ∀ x ∈ l, (enc x).length = sz) (h : w.ownsRow base e sz (.slice A n c) n (l.flatMap enc)) (hl : l.length = n) : Sl enc sz w A n l := by
  refine ⟨hl, fun hn => ?_⟩
  obtain ⟨g, cap, hv, _, _⟩ := h.form hn
  have hA : A = some ⟨g, 0, none⟩ := by injection hv
  subst hA
  refine ⟨g, 0, rfl, fun i x hx j u hu => ?_⟩
  have hc := h.cells (g := g) rfl (i * sz + j) u ?_
  · rw [show (0 : Nat) + i * sz + j = i * sz + j by omega]
    simpa [Addr.add_lit] using hc
  · clear hn h hv hl
    induction l generalizing i with
    | nil => simp at hx
    | cons y r ih =>
      have hy := henc y (by simp)
      have hj : j < sz := by
        have h1 := henc x (List.mem_of_getElem? hx)
        have := (List.getElem?_eq_some_iff.1 hu).1
        omega
      rw [List.flatMap_cons]
      cases i with
      | zero =>
        simp at hx
        subst hx
        rw [List.getElem?_append_left (by rw [hy]; omega)]
        simpa using hu
      | succ i =>
        rw [List.getElem?_append_right (by rw [hy, Nat.succ_mul]; omega), hy]
        have := ih (fun z hz => henc z (by simp [hz])) i (by simpa using hx)
        rw [show (i + 1) * sz + j - sz = i * sz + j by rw [Nat.succ_mul]; omega]
        exact this
end
theorem lenInt (x : Int) : (eInt x).length = 1 := rfl
theorem lenVal (x : Value) : (eVal x).length = 1 := rfl
theorem lenMk (x : Mk) : (eMk x).length = 3 := rfl
theorem lenSg (x : Sg) : (eSg x).length = 5 := rfl

abbrev Ints (w : World) (A : Option Addr) (n : Nat) (l : List Int) : Prop := Sl eInt 1 w A n l
abbrev Marks (w : World) (A : Option Addr) (n : Nat) (l : List Mk) : Prop := Sl eMk 3 w A n l
abbrev Sights (w : World) (A : Option Addr) (n : Nat) (l : List Sg) : Prop := Sl eSg 5 w A n l

theorem Ints.get {w : World} {A : Option Addr} {n : Nat} {l : List Int} (h : Ints w A n l) {k : Nat} (hk : k < n) :
    ∃ b off x, A = some ⟨b, off, none⟩ ∧ b < w.heap.size ∧ l[k]? = some x ∧ w.cell? ⟨b, off + k, none⟩ = some (.int .i64 x) := by
  obtain ⟨b, off, x, hA, hx, hc⟩ := h.at_ hk
  have h0 := hc 0 _ rfl
  rw [Nat.mul_one, Nat.add_zero] at h0
  exact ⟨b, off, x, hA, cell_lt h0, hx, h0⟩
theorem Vals.get {w : World} {A : Option Addr} {n : Nat} {l : List Value} (h : Sl eVal 1 w A n l) {k : Nat} (hk : k < n) :
    ∃ b off x, A = some ⟨b, off, none⟩ ∧ b < w.heap.size ∧ l[k]? = some x ∧ w.cell? ⟨b, off + k, none⟩ = some x := by
  obtain ⟨b, off, x, hA, hx, hc⟩ := h.at_ hk
  have h0 := hc 0 _ rfl
  rw [Nat.mul_one, Nat.add_zero] at h0
  exact ⟨b, off, x, hA, cell_lt h0, hx, h0⟩
theorem Marks.get {w : World} {A : Option Addr} {n : Nat} {l : List Mk} (h : Marks w A n l) {k : Nat} (hk : k < n) :
    ∃ b off m, A = some ⟨b, off, none⟩ ∧ b < w.heap.size ∧ l[k]? = some m ∧ w.cell? ⟨b, off + k * 3, none⟩ = some (.int .i64 m.n) ∧
      w.cell? ⟨b, off + k * 3 + 1, none⟩ = some (.int .i64 m.b) ∧ w.cell? ⟨b, off + k * 3 + 2, none⟩ = some (.int .i64 m.p) := by
  obtain ⟨b, off, x, hA, hx, hc⟩ := h.at_ hk
  have h0 := hc 0 _ rfl
  exact ⟨b, off, x, hA, cell_lt h0, hx, h0, hc 1 _ rfl, hc 2 _ rfl⟩
theorem Sights.get {w : World} {A : Option Addr} {n : Nat} {l : List Sg} (h : Sights w A n l) {k : Nat} (hk : k < n) :
    ∃ b off s, A = some ⟨b, off, none⟩ ∧ b < w.heap.size ∧ l[k]? = some s ∧ w.cell? ⟨b, off + k * 5, none⟩ = some (.int .i64 s.n) ∧
      w.cell? ⟨b, off + k * 5 + 1, none⟩ = some (.bool s.l) ∧ w.cell? ⟨b, off + k * 5 + 2, none⟩ = some (.bool s.r) ∧
      w.cell? ⟨b, off + k * 5 + 3, none⟩ = some (.int .i64 s.b) ∧ w.cell? ⟨b, off + k * 5 + 4, none⟩ = some (.int .i64 s.p) := by
  obtain ⟨b, off, x, hA, hx, hc⟩ := h.at_ hk
  have h0 := hc 0 _ rfl
  exact ⟨b, off, x, hA, cell_lt h0, hx, h0, hc 1 _ rfl, hc 2 _ rfl, hc 3 _ rfl, hc 4 _ rfl⟩

/-- Behind a call that leaves all below B: the cells there read as they did (two rules for the walk). -/
theorem bc {B : Nat} {W w1 : World} (hb : Below B W w1) : (∀ b o, b < B → w1.cell? ⟨b, o, none⟩ = W.cell? ⟨b, o, none⟩) ∧ (∀ b o, b < B → w1.frozen? ⟨b, o, none⟩ = W.frozen? ⟨b, o, none⟩) :=
  ⟨fun b o h => hb.cell (p := ⟨b, o, none⟩) h, fun b o h => hb.frozen (p := ⟨b, o, none⟩) h⟩
/-- The cells of a block that is known whole. -/
theorem blk1 {w : World} {b : Nat} {t : TypeId} {v0 : Value} (h : w.heap[b]? = some (.cells #[v0] t (0, 0))) : w.cell? ⟨b, 0, none⟩ = some v0 := by simp [World.cell?, h]
theorem blk2 {w : World} {b : Nat} {t : TypeId} {v0 v1 : Value} (h : w.heap[b]? = some (.cells #[v0, v1] t (0, 0))) : w.cell? ⟨b, 0, none⟩ = some v0 ∧ w.cell? ⟨b, 1, none⟩ = some v1 := by simp [World.cell?, h]
theorem blk3 {w : World} {b : Nat} {t : TypeId} {v0 v1 v2 : Value} (h : w.heap[b]? = some (.cells #[v0, v1, v2] t (0, 0))) :
    w.cell? ⟨b, 0, none⟩ = some v0 ∧ w.cell? ⟨b, 1, none⟩ = some v1 ∧ w.cell? ⟨b, 2, none⟩ = some v2 := by simp [World.cell?, h]
theorem blk5 {w : World} {b : Nat} {t : TypeId} {v0 v1 v2 v3 v4 : Value} (h : w.heap[b]? = some (.cells #[v0, v1, v2, v3, v4] t (0, 0))) :
    w.cell? ⟨b, 0, none⟩ = some v0 ∧ w.cell? ⟨b, 1, none⟩ = some v1 ∧ w.cell? ⟨b, 2, none⟩ = some v2 ∧ w.cell? ⟨b, 3, none⟩ = some v3 ∧ w.cell? ⟨b, 4, none⟩ = some v4 := by simp [World.cell?, h]
theorem alloc_at {w : World} {o : Obj} {n : Nat} (h : n = w.heap.size) : (w.alloc o).heap[n]? = some o := by subst h; exact heap_alloc_new w o
/-- A block laid before stays behind new ones. -/
theorem hblk_alloc {w : World} {b : Nat} {o : Obj} (h : w.heap[b]? = some o) (o' : Obj) : (w.alloc o').heap[b]? = some o := (Below.heap_alloc w o' b (heap_lt h)).trans h
/-- Contracts that say 'w = w'', met in a region that draws. -/
theorem quiet_left {P : Program} {f : FuncId} {args : Array Value} {w : World} {n : Nat} {v : Value}
    (h : Calls P f args (w.drewN n) fun e w' => e = .returned v ∧ w.drewN n = w') : Calls P f args (w.drewN n) fun e w'' => e = .returned v ∧ ∃ m, w'' = w.drewN m :=
  h.mono fun _ _ ⟨he, hm⟩ => ⟨he, n, hm.symm⟩
theorem below_drewN {B : Nat} {a w : World} (h : Below B a w) (n : Nat) : Below B a (w.drewN n) := ⟨h.os, h.tape, h.output, h.size, h.block⟩
/-- A contract that says 'w = w'', met in a region over whose calls blocks are laid. -/
theorem regrown_left {P : Program} {f : FuncId} {args : Array Value} {w : World} {d : Nat} {os : Array Obj} {v : Value}
    (h : Calls P f args (Sort.grow (redrawn w d) os) fun e w' => e = .returned v ∧ Sort.grow (redrawn w d) os = w') : Calls P f args (Sort.grow (redrawn w d) os) fun e w'' => e = .returned v ∧ ∃ p : Regrown, w'' = Sort.grow (redrawn w p.d) p.os :=
  h.mono fun _ _ ⟨he, hm⟩ => ⟨he, ⟨d, os⟩, hm.symm⟩
theorem ret_int {k : IntKind} {a b : Int} (h : a = b) : Ending.returned (.int k a) = .returned (.int k b) := by rw [h]
theorem ret_int2 {k k' : IntKind} {a b a' b' : Int} (h : a = a') (h' : b = b') : Ending.returned (.tuple #[.int k a, .int k' b]) = .returned (.tuple #[.int k a', .int k' b']) := by rw [h, h']
theorem ret_val {v : Value} {k : IntKind} {a b : Int} (h : a = b) : Ending.returned (.tuple #[v, .int k a]) = .returned (.tuple #[v, .int k b]) := by rw [h]
theorem ret_bool {a b : Bool} (h : a = b) : Ending.returned (.bool a) = .returned (.bool b) := by rw [h]
end Go.Proofs.Ytahlicinchehhaa
