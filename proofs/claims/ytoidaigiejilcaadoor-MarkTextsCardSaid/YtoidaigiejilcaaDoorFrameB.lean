/- From the frame's words to ours: marks, a register, a sight that came in.
   From the frame's words to ours: sights that came in, and integers with what a nil slice is. -/
import Derived.Test.YtoidaigiejilcaaDoorRegs
import Derived.Test.YtoidaigiejilcaaDoorFrame
import Derived.Deep.Slices
import Derived.Deep.Fields
import Derived.Deep.Strs
import Derived.ChangeSame
import Derived.OpenShut
namespace Go.Proofs.YtoidaigiejilcaaDoor
open Go.RowKit Go.ChangeShapes Go.WideShapes Go.Deep
set_option linter.unusedVariables false

/-- cells known at offsets behind a place, read as a list of elements of sz cells -/
theorem sl_of_cells {α : Type} [Inhabited α] {enc : α → List Value} {sz : Nat} {w : World} {a : Addr} {len : Nat} (hsz : 0 < sz) (hl : ∀ x, (enc x).length = sz)
    (h : ∀ i, i < len → ∃ x : α, ∀ (j : Nat) (u : Value), (enc x)[j]? = some u → w.cell? (a.add (i * sz + j)) = some u) : ∃ l, Sl enc sz w (some a) len l := by
  have h' : ∀ i, ∃ x : α, i < len → ∀ (j : Nat) (u : Value), (enc x)[j]? = some u → w.cell? (a.add (i * sz + j)) = some u := fun i => by
    by_cases hi : i < len
    · obtain ⟨x, hx⟩ := h i hi
      exact ⟨x, fun _ => hx⟩
    · exact ⟨default, fun hi' => absurd hi' hi⟩
  let f : Nat → α := fun i => Classical.choose (h' i)
  have hf : ∀ i, i < len → ∀ (j : Nat) (u : Value), (enc (f i))[j]? = some u → w.cell? (a.add (i * sz + j)) = some u := fun i => Classical.choose_spec (h' i)
  refine ⟨(List.range len).map f, by simp, fun hn => ?_⟩
  obtain ⟨u0, hu0⟩ : ∃ u, (enc (f 0))[0]? = some u := ⟨_, List.getElem?_eq_getElem (by rw [hl]; exact hsz)⟩
  have hc0 := hf 0 hn 0 u0 hu0
  obtain ⟨b, off, spot⟩ := a
  have hspot : spot = none := by simpa [Addr.add] using World.cell?_spot hc0
  subst hspot
  refine ⟨b, off, rfl, fun i x hx j u hu => ?_⟩
  rw [List.getElem?_map] at hx
  by_cases hi : i < len
  · rw [List.getElem?_range hi] at hx
    simp only [Option.map_some, Option.some.injEq] at hx
    subst hx
    have := hf i hi j u hu
    rw [Go.WideShapes.add_plain] at this
    rw [Nat.add_assoc]
    exact this
  · rw [List.getElem?_eq_none (by simpa using hi)] at hx
    cases hx

theorem list2 {α : Type} {l : List α} (h : l.length = 2) : ∃ a b, l = [a, b] := by
  match l, h with
  | [a, b], _ => exact ⟨a, b, rfl⟩
theorem list3 {α : Type} {l : List α} (h : l.length = 3) : ∃ a b c, l = [a, b, c] := by
  match l, h with
  | [a, b, c], _ => exact ⟨a, b, c, rfl⟩
theorem list5 {α : Type} {l : List α} (h : l.length = 5) : ∃ a b c d e, l = [a, b, c, d, e] := by
  match l, h with
  | [a, b, c, d, e], _ => exact ⟨a, b, c, d, e, rfl⟩
instance : Inhabited Mk := ⟨⟨0, 0, 0⟩⟩
section
variable {H : Type} {enc : TypeId × Value → H} {w : World} {base : Nat} {spare : Nat → Bool} {held : Bool}
theorem cellsMark : Tryd.prog.cellsOf 52 = 3 := by kernel_rfl
theorem cellsInt : Tryd.prog.cellsOf 3 = 1 := by kernel_rfl
theorem cellsReg : Tryd.prog.cellsOf 26 = 2 := by kernel_rfl
theorem cellsSl : Tryd.prog.cellsOf 24 = 1 := by kernel_rfl
theorem cellsSight : Tryd.prog.cellsOf 42 = 5 := by kernel_rfl

theorem open_marks {fuel : Nat} {cs : List Value} {x : DataW H × List MemPlace} (h : DataW.trod enc Tryd.prog w base spare held fuel 24 cs = some x) :
    ∃ A n c l, cs = [.slice A n c] ∧ Marks w A n l ∧ n ≤ c ∧ c ≤ maxLen ∧ (A = none → c = 0) := by
  rcases open_slice Tryd.underlying24 h with ⟨hcs, _⟩ | ⟨a, len, cap, m, n, D, Pl, hcs, hb, hl, hm, hmm, hx, hi⟩
  · exact ⟨none, 0, 0, [], hcs, Sl.nil_, Nat.le_refl _, Nat.zero_le _, fun _ => rfl⟩
  · have hlm : len ≤ m := by rw [hmm]; split <;> omega
    obtain ⟨l, hs⟩ := sl_of_cells (enc := eMk) (sz := 3) (w := w) (a := a) (len := len) (by decide) lenMk (fun i hi' => by
      obtain ⟨cs', hc, ht'⟩ := hi i (by omega)
      obtain ⟨y0, y1, y2, n', _, hcl, h0, h1, h2⟩ := trod_struct3 Tryd.underlying52 ht'
      rw [cellsMark] at hcl hc
      obtain ⟨_, _, hat⟩ := World.cells?_some hc
      obtain ⟨c0, c1, c2, rfl⟩ := list3 hcl
      rw [cellsInt] at h0 h1 h2
      obtain ⟨z0, e0, _, _⟩ := DataW.trod_int Tryd.underlying3 h0
      obtain ⟨z1, e1, _, _⟩ := DataW.trod_int Tryd.underlying3 h1
      obtain ⟨z2, e2, _, _⟩ := DataW.trod_int Tryd.underlying3 h2
      simp at e0 e1 e2
      subst e0; subst e1; subst e2
      refine ⟨⟨z0, z1, z2⟩, fun j u hu => ?_⟩
      have hj : j < 3 := by have := (List.getElem?_eq_some_iff.1 hu).1; simpa [eMk] using this
      have := hat j hj
      rw [Go.Deep.add_add] at this
      rw [this]
      exact hu)
    exact ⟨some a, len, cap, l, hcs, hs, hl, hm, fun h => by cases h⟩

theorem open_reg {fuel : Nat} {cs : List Value} {x : DataW H × List MemPlace} (h : DataW.trod enc Tryd.prog w base spare held fuel 26 cs = some x) :
    ∃ t A n c l, cs = [.int .i64 t, .slice A n c] ∧ Marks w A n l ∧ n ≤ c ∧ c ≤ maxLen ∧ (A = none → c = 0) := by
  obtain ⟨y0, y1, n', _, hcl, h0, h1⟩ := trod_struct2 Tryd.underlying26 h
  rw [cellsReg] at hcl
  obtain ⟨c0, c1, rfl⟩ := list2 hcl
  rw [cellsInt] at h0
  rw [cellsSl] at h1
  obtain ⟨z0, e0, _, _⟩ := DataW.trod_int Tryd.underlying3 h0
  obtain ⟨A, n, c, l, e1, hs, h2⟩ := open_marks h1
  simp at e0 e1
  subst e0; subst e1
  exact ⟨z0, A, n, c, l, rfl, hs, h2⟩

theorem struct_five {P : Program} {t : TypeId} {f0 f1 f2 f3 f4 : Field} {fuel : Nat} {cs : List Value} {x : DataW H × List MemPlace} (ht : P.underlying t = some (.struct #[f0, f1, f2, f3, f4])) (h : DataW.trod enc P w base spare held fuel t cs = some x) :
    ∃ (y0 y1 y2 y3 y4 : DataW H × List MemPlace) (n : Nat), cs.length = P.cellsOf t ∧ DataW.trod enc P w base spare held n f0.type ((cs.drop f0.offset).take (P.cellsOf f0.type)) = some y0 ∧
      DataW.trod enc P w base spare held n f1.type ((cs.drop f1.offset).take (P.cellsOf f1.type)) = some y1 ∧ DataW.trod enc P w base spare held n f2.type ((cs.drop f2.offset).take (P.cellsOf f2.type)) = some y2 ∧
      DataW.trod enc P w base spare held n f3.type ((cs.drop f3.offset).take (P.cellsOf f3.type)) = some y3 ∧ DataW.trod enc P w base spare held n f4.type ((cs.drop f4.offset).take (P.cellsOf f4.type)) = some y4 := by
  obtain ⟨xs, n, _, _, hl, hlen, hf⟩ := DataW.trod_struct ht h
  obtain ⟨y0, y1, y2, y3, y4, rfl⟩ := list5 (show xs.length = 5 from hlen)
  exact ⟨y0, y1, y2, y3, y4, n, hl, by simpa using hf 0 f0 rfl, by simpa using hf 1 f1 rfl, by simpa using hf 2 f2 rfl, by simpa using hf 3 f3 rfl, by simpa using hf 4 f4 rfl⟩

theorem open_sight {fuel : Nat} {cs : List Value} {x : DataW H × List MemPlace} (h : DataW.trod enc Tryd.prog w base spare held fuel 42 cs = some x) :
    ∃ s : Sg, cs = eSg s := by
  obtain ⟨y0, y1, y2, y3, y4, n', hcl, h0, h1, h2, h3, h4⟩ := struct_five Tryd.underlying42 h
  rw [cellsSight] at hcl
  obtain ⟨c0, c1, c2, c3, c4, rfl⟩ := list5 hcl
  rw [cellsInt] at h0 h3 h4
  rw [show Tryd.prog.cellsOf 4 = 1 from by kernel_rfl] at h1 h2
  obtain ⟨z0, e0, _, _⟩ := DataW.trod_int Tryd.underlying3 h0
  obtain ⟨z1, e1, _⟩ := DataW.trod_bool Tryd.underlying4 h1
  obtain ⟨z2, e2, _⟩ := DataW.trod_bool Tryd.underlying4 h2
  obtain ⟨z3, e3, _, _⟩ := DataW.trod_int Tryd.underlying3 h3
  obtain ⟨z4, e4, _, _⟩ := DataW.trod_int Tryd.underlying3 h4
  simp at e0 e1 e2 e3 e4
  subst e0; subst e1; subst e2; subst e3; subst e4
  exact ⟨⟨z0, z1, z2, z3, z4⟩, rfl⟩

theorem open_mark {fuel : Nat} {cs : List Value} {x : DataW H × List MemPlace} (h : DataW.trod enc Tryd.prog w base spare held fuel 52 cs = some x) :
    ∃ m : Mk, cs = eMk m := by
  obtain ⟨y0, y1, y2, n', _, hcl, h0, h1, h2⟩ := trod_struct3 Tryd.underlying52 h
  rw [cellsMark] at hcl
  obtain ⟨c0, c1, c2, rfl⟩ := list3 hcl
  rw [cellsInt] at h0 h1 h2
  obtain ⟨z0, e0, _, _⟩ := DataW.trod_int Tryd.underlying3 h0
  obtain ⟨z1, e1, _, _⟩ := DataW.trod_int Tryd.underlying3 h1
  obtain ⟨z2, e2, _, _⟩ := DataW.trod_int Tryd.underlying3 h2
  simp at e0 e1 e2
  subst e0; subst e1; subst e2
  exact ⟨⟨z0, z1, z2⟩, rfl⟩

/-! the same, of an argument -/
theorem agg_cells (l : List Value) : (Value.agg ⟨l⟩).cells.toList = l := by simp [Value.cells]
set_option maxRecDepth 100000 in
theorem open_regV {r : Reach} {b0 : Nat} {v : Value} {d : DataW H} {p : List MemPlace} (hv : Value.okWide Tryd.prog w r b0 26 v) (h : DataW.Trod enc Tryd.prog w base spare held 26 v d p) :
    ∃ t A n c l, v = .agg #[.int .i64 t, .slice A n c] ∧ Marks w A n l ∧ n ≤ c ∧ c ≤ maxLen ∧ (A = none → c = 0) := by
  obtain ⟨cs, rfl, _⟩ := okWide_struct Tryd.underlying26 hv
  obtain ⟨f, hf⟩ := h
  obtain ⟨t, A, n, c, l, e, h2⟩ := open_reg hf
  obtain ⟨cs⟩ := cs
  have e' : cs = [.int .i64 t, .slice A n c] := (agg_cells cs).symm.trans e
  subst e'
  exact ⟨t, A, n, c, l, rfl, h2⟩
set_option maxRecDepth 100000 in
theorem open_sightV {r : Reach} {b0 : Nat} {v : Value} {d : DataW H} {p : List MemPlace} (hv : Value.okWide Tryd.prog w r b0 42 v) (h : DataW.Trod enc Tryd.prog w base spare held 42 v d p) :
    ∃ s : Sg, v = vSg s := by
  obtain ⟨cs, rfl, _⟩ := okWide_struct Tryd.underlying42 hv
  obtain ⟨f, hf⟩ := h
  obtain ⟨s, e⟩ := open_sight hf
  obtain ⟨cs⟩ := cs
  have e' : cs = eSg s := (agg_cells cs).symm.trans e
  subst e'
  exact ⟨s, rfl⟩
set_option maxRecDepth 100000 in
theorem open_markV {r : Reach} {b0 : Nat} {v : Value} {d : DataW H} {p : List MemPlace} (hv : Value.okWide Tryd.prog w r b0 52 v) (h : DataW.Trod enc Tryd.prog w base spare held 52 v d p) :
    ∃ m : Mk, v = vMk m := by
  obtain ⟨cs, rfl, _⟩ := okWide_struct Tryd.underlying52 hv
  obtain ⟨f, hf⟩ := h
  obtain ⟨m, e⟩ := open_mark hf
  obtain ⟨cs⟩ := cs
  have e' : cs = eMk m := (agg_cells cs).symm.trans e
  subst e'
  exact ⟨m, rfl⟩
set_option maxRecDepth 100000 in
theorem open_intsV {r : Reach} {b0 : Nat} {v : Value} {d : DataW H} {p : List MemPlace} (hv : Value.okWide Tryd.prog w r b0 22 v) (h : DataW.Trod enc Tryd.prog w base (fun _ => true) held 22 v d p) :
    ∃ A n c l, v = .slice A n c ∧ Ints w A n l ∧ n ≤ c ∧ c ≤ 9223372036854775807 := by
  obtain ⟨a, len, cap, rfl⟩ := okWide_slice Tryd.underlying22 hv
  have hz : ∃ zs, ((a = none ∧ len = 0 ∧ cap = 0 ∧ zs = []) ∨ ∃ x, a = some x ∧ len ≤ cap ∧ cap ≤ maxLen ∧ zs.length = cap ∧ (∀ i, i < zs.length → w.cell? (x.add i) = some (.int .i64 (zs.getD i 0))) ∧ ∀ n ∈ zs, (Lit.int .i64 n).wf = true) := by
    obtain ⟨fuel, hf⟩ := h
    rcases open_ints Tryd.underlying22 Tryd.underlying3 cellsInt hf with ⟨hcs, _⟩ | ⟨x, l, c, zs, hcs, _, hl, hm, hz, _, hcell, hwz⟩
    · simp [Value.cells] at hcs
      obtain ⟨rfl, rfl, rfl⟩ := hcs
      exact ⟨[], .inl ⟨rfl, rfl, rfl, rfl⟩⟩
    · simp [Value.cells] at hcs
      obtain ⟨rfl, rfl, rfl⟩ := hcs
      exact ⟨zs, .inr ⟨_, rfl, hl, hm, by simpa using hz, hcell, hwz⟩⟩
  obtain ⟨zs, hz⟩ := hz
  obtain ⟨nums, h1, h2, h3, h4⟩ := ints_of hz
  exact ⟨a, len, cap, nums, rfl, h1, h2, h3⟩
end
end Go.Proofs.YtoidaigiejilcaaDoor

namespace Go.Proofs.YtoidaigiejilcaaDoor
open Go.RowKit Go.ChangeShapes Go.WideShapes Go.Deep
set_option linter.unusedVariables false

instance : Inhabited Sg := ⟨⟨0, false, false, 0, 0⟩⟩
section
variable {H : Type} {enc : TypeId × Value → H} {w : World} {base : Nat} {spare : Nat → Bool} {held : Bool}
theorem open_sights {fuel : Nat} {cs : List Value} {x : DataW H × List MemPlace} (h : DataW.trod enc Tryd.prog w base spare held fuel 56 cs = some x) :
    ∃ A n c l, cs = [.slice A n c] ∧ Sights w A n l ∧ n ≤ c ∧ c ≤ maxLen ∧ (A = none → c = 0) := by
  rcases open_slice Tryd.underlying56 h with ⟨hcs, _⟩ | ⟨a, len, cap, m, n, D, Pl, hcs, hb, hl, hm, hmm, hx, hi⟩
  · exact ⟨none, 0, 0, [], hcs, Sl.nil_, Nat.le_refl _, Nat.zero_le _, fun _ => rfl⟩
  · have hlm : len ≤ m := by rw [hmm]; split <;> omega
    obtain ⟨l, hs⟩ := sl_of_cells (enc := eSg) (sz := 5) (w := w) (a := a) (len := len) (by decide) lenSg (fun i hi' => by
      obtain ⟨cs', hc, ht'⟩ := hi i (by omega)
      obtain ⟨s, rfl⟩ := open_sight ht'
      rw [cellsSight] at hc
      obtain ⟨_, _, hat⟩ := World.cells?_some hc
      refine ⟨s, fun j u hu => ?_⟩
      have hj : j < 5 := by have := (List.getElem?_eq_some_iff.1 hu).1; rwa [lenSg] at this
      have := hat j hj
      rw [Go.Deep.add_add] at this
      rw [this]
      exact hu)
    exact ⟨some a, len, cap, l, hcs, hs, hl, hm, fun h => by cases h⟩
set_option maxRecDepth 100000 in
theorem open_sightsV {r : Reach} {b0 : Nat} {v : Value} {d : DataW H} {p : List MemPlace} (hv : Value.okWide Tryd.prog w r b0 56 v) (h : DataW.Trod enc Tryd.prog w base spare held 56 v d p) :
    ∃ A n c l, v = .slice A n c ∧ Sights w A n l ∧ n ≤ c ∧ c ≤ maxLen ∧ (A = none → c = 0) := by
  obtain ⟨a, len, cap, rfl⟩ := okWide_slice Tryd.underlying56 hv
  obtain ⟨fuel, hf⟩ := h
  obtain ⟨A, n, c, l, hcs, h2⟩ := open_sights hf
  simp [Value.cells] at hcs
  obtain ⟨rfl, rfl, rfl⟩ := hcs
  exact ⟨_, _, _, l, rfl, h2⟩
set_option maxRecDepth 100000 in
theorem open_intsZV {r : Reach} {b0 : Nat} {v : Value} {d : DataW H} {p : List MemPlace} (hv : Value.okWide Tryd.prog w r b0 22 v) (h : DataW.Trod enc Tryd.prog w base (fun _ => true) held 22 v d p) :
    ∃ A n c l, v = .slice A n c ∧ Ints w A n l ∧ n ≤ c ∧ c ≤ maxLen ∧ (A = none → c = 0) := by
  obtain ⟨a, len, cap, rfl⟩ := okWide_slice Tryd.underlying22 hv
  have hz : ∃ zs, ((a = none ∧ len = 0 ∧ cap = 0 ∧ zs = []) ∨ ∃ x, a = some x ∧ len ≤ cap ∧ cap ≤ maxLen ∧ zs.length = cap ∧ (∀ i, i < zs.length → w.cell? (x.add i) = some (.int .i64 (zs.getD i 0))) ∧ ∀ n ∈ zs, (Lit.int .i64 n).wf = true) := by
    obtain ⟨fuel, hf⟩ := h
    rcases open_ints Tryd.underlying22 Tryd.underlying3 cellsInt hf with ⟨hcs, _⟩ | ⟨x, l, c, zs, hcs, _, hl, hm, hz, _, hcell, hwz⟩
    · simp [Value.cells] at hcs
      obtain ⟨rfl, rfl, rfl⟩ := hcs
      exact ⟨[], .inl ⟨rfl, rfl, rfl, rfl⟩⟩
    · simp [Value.cells] at hcs
      obtain ⟨rfl, rfl, rfl⟩ := hcs
      exact ⟨zs, .inr ⟨_, rfl, hl, hm, by simpa using hz, hcell, hwz⟩⟩
  obtain ⟨zs, hz⟩ := hz
  obtain ⟨nums, h1, h2, h3, h4⟩ := ints_of hz
  exact ⟨a, len, cap, nums, rfl, h1, h2, h3, h4⟩
end
end Go.Proofs.YtoidaigiejilcaaDoor
