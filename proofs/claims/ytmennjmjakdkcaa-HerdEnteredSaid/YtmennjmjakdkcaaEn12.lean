/- HerdEntered 12: TalA, GridB, GridA, TalB, Own2. -/
import Derived.Test.YtmennjmjakdkcaaEn11
import Derived.Test.YtmennjmjakdkcaaEn06
import Derived.Test.YtmennjmjakdkcaaEn07
import Derived.Test.YtmennjmjakdkcaaEn03
import Derived.Test.YtmennjmjakdkcaaEn04
import Derived.Test.YtmennjmjakdkcaaEn01
namespace Go.Proofs.Ytmennjmjakdkcaa
open Go.RowKit
set_option linter.unusedVariables false
set_option linter.unusedSimpArgs false

theorem among_any (H N : Nat) (lo hi : Int) (w : World) (h : Hd w H N) (hN : N ≤ 4611686018427387904) (h1 : -1000000 ≤ lo ∧ lo ≤ 1000000) (h2 : -1000000 ≤ hi ∧ hi ≤ 1000000) :
    Calls Try.prog 34 #[.pointer (some ⟨H, 0, none⟩), .int .i64 lo, .int .i64 hi] w fun e w' => ∃ x : Int, e = .returned (.int .i64 x) ∧ lo ≤ x ∧ (x ≤ hi ∨ x = lo) ∧ Dealt w w' H (N + 1) := by
  go_enter Try.func34, Try.ntmps34
  go_wp2_with fail
  refine (upto_any H N (hi - lo) _ h hN (by omega)).mono ?_
  rintro e w1 ⟨n, rfl, hn, hd⟩
  have hn' : (n : Int) ≤ 2000000 := by omega
  go_wp2_with fail
  go_ret
  exact ⟨lo + n, rfl, by omega, by omega, hd⟩

theorem wrapN_any (x n : Nat) (w : World) (hx : x ≤ 1000000) (h1 : 1 ≤ n) (h2 : n ≤ 1000000) :
    Calls Try.prog 38 #[.int .i64 x, .int .i64 n] w fun e w' => e = .returned (.int .i64 ((x % n : Nat) : Int)) ∧ w = w' := by
  have h1' : ¬ ((n : Int) < 1) := by omega
  have hk0 : ((n : Int) == 0) = false := beq_eq_false_iff_ne.2 (by omega)
  obtain ⟨m, hm⟩ : ∃ m, m = x % n := ⟨_, rfl⟩
  have ht : (x : Int).tmod (n : Int) = (m : Int) := by rw [hm]; exact Int.ofNat_tmod x n
  have hm0 : m < n := by rw [hm]; exact Nat.mod_lt _ (by omega)
  have hw : wrap64 (m : Int) = m := IntWalk.wrap64_in _ (by omega)
  have hlt : ¬ ((m : Int) < 0) := by omega
  rw [← hm]
  clear hm
  go_enter Try.func38, Try.ntmps38
  go_wp2_with fail
  go_ret
  exact ⟨rfl, rfl⟩

theorem sumI_take {l : List Int} {k : Nat} {x : Int} (h : l[k]? = some x) : (l.take (k + 1)).sum = (l.take k).sum + x := by
  rw [List.take_add_one, h]
  simp
theorem sum_bd {B : Int} (hB : 0 ≤ B) : ∀ {l : List Int}, (∀ x ∈ l, -B ≤ x ∧ x ≤ B) → -(B * l.length) ≤ l.sum ∧ l.sum ≤ B * l.length
  | [], _ => by simp
  | x :: l, h => by
    have ih := sum_bd hB (l := l) fun y hy => h y (List.mem_cons_of_mem _ hy)
    have hx := h x List.mem_cons_self
    rw [List.sum_cons, List.length_cons]
    have : B * ((l.length + 1 : Nat) : Int) = B * (l.length : Int) + B := by rw [Int.natCast_add, Int.mul_add]; simp
    omega

set_option maxHeartbeats 1000000 in
theorem total_any (A : Option Addr) (n c : Nat) (l : List Int) (w : World) (hl : Ints w A n l) (hn : n ≤ 100000) (hb : ∀ x ∈ l, -100000 ≤ x ∧ x ≤ 100000) :
    Calls Try.prog 35 #[.slice A n c] w fun e w' => e = .returned (.int .i64 l.sum) ∧ w = w' := by
  have hlen := hl.len
  have HL := Lib.hid (And.intro hl (And.intro hlen hb))
  clear hl hlen hb
  obtain ⟨wo, hwo⟩ : ∃ wo, wo = w := ⟨_, rfl⟩
  rw [← hwo]
  have HW := Lib.hid hwo
  clear hwo
  go_enter Try.func35, Try.ntmps35
  go_wp2_with fail
  go_loopg [3, 4] n (fun g v3 v4 wr => ∃ k : Nat, k + g = n ∧ v4 = .int .i64 k ∧ v3 = .int .i64 (l.take k).sum ∧ wr = wo)
  case atStart => exact ⟨0, by omega, rfl, by simp, rfl⟩
  case round =>
    obtain ⟨k, hk, rfl, rfl, rfl⟩ := hrel
    by_cases hlt : k < n
    · obtain ⟨b, off, x, rfl, hbb, hx, c0⟩ := (HW.out ▸ HL.out.1).get hlt
      have hbx := HL.out.2.2 x (List.mem_of_getElem? hx)
      obtain ⟨s, hs⟩ : ∃ s, s = (l.take k).sum := ⟨_, rfl⟩
      have hsb := sum_bd (B := 100000) (by decide) (l := l.take k) (fun y hy => HL.out.2.2 y (List.mem_of_mem_take hy))
      have htl : (l.take k).length ≤ 100000 := by rw [List.length_take]; omega
      rw [← hs] at hsb ⊢
      have h1 : -10000000000 ≤ s ∧ s ≤ 10000000000 := by omega
      have h2 : (k : Int) < (n : Int) := by omega
      have HX := Lib.hid (And.intro hx (And.intro hs hk))
      clear hx hs hsb htl hk
      go_wp2_with fail
      go_roundg (gk - 1)
      case measure => have := HX.out.2.2; omega
      case rel => exact ⟨k + 1, by have := HX.out.2.2; omega, by go_num, by rw [sumI_take HX.out.1, ← HX.out.2.1], rfl⟩
    · obtain rfl : k = n := by omega
      have e : l.take k = l := List.take_of_length_le (by rw [HL.out.2.1]; exact Nat.le_refl _)
      rw [e]
      obtain ⟨s, hs⟩ : ∃ s, s = l.sum := ⟨_, rfl⟩
      rw [← hs]
      have HS := Lib.hid hs
      clear hs
      go_wp2_with fail
      go_ret
      exact ⟨by rw [← HS.out]; rfl, rfl⟩

/-! ### a grid whose rows lie apart -/
def ApartV (a b : Value) : Prop := ∀ k, a.ownBlock = some k → b.ownBlock ≠ some k
def EndG (w : World) (base : Nat) (v : Value) (ls : List (List Int)) : Prop := ∃ mv, Own eVal 22 1 w base v mv ∧ Rws w base mv ls ∧ mv.Pairwise ApartV
section
variable {w w' : World} {base B : Nat} {v v' u : Value} {ls : List (List Int)} {l : List Int}
theorem EndG.nil_ : EndG w base (.slice none 0 0) [] := ⟨[], Own.nil_, ⟨rfl, fun i v h => by simp at h⟩, List.Pairwise.nil⟩
theorem EndG.ownG (h : EndG w base v ls) : OwnG w base v ls := by obtain ⟨mv, h1, h2, _⟩ := h; exact ⟨mv, h1, h2⟩
theorem EndG.map (h : EndG w base v ls) (k1 : ∀ mv, Own eVal 22 1 w base v mv → Own eVal 22 1 w' base v mv) (k2 : ∀ u l, OwnI w base u l → OwnI w' base u l) : EndG w' base v ls := by
  obtain ⟨mv, h1, ⟨h2, h3⟩, h4⟩ := h
  exact ⟨mv, k1 _ h1, ⟨h2, fun i v hv => by obtain ⟨l, hl, ho⟩ := h3 i v hv; exact ⟨l, hl, k2 _ _ ho⟩⟩, h4⟩
theorem EndG.below (h : EndG w base v ls) (hb : Below B w w') (hB : w.heap.size ≤ B) : EndG w' base v ls := h.map (fun _ h => h.below hb hB) fun _ _ h => h.below hb hB
theorem EndG.upon (h : EndG w base v ls) (k : ∀ j, base ≤ j → w'.heap[j]? = w.heap[j]?) : EndG w' base v ls := h.map (fun _ h => h.upon k) fun _ _ h => h.upon k
theorem Own.row {α : Type} {enc : α → List Value} {e : TypeId} {sz : Nat} {l : List α} {row : Option Nat} (h : Own enc e sz w base v l) (hg : w.grownBy w' row) (hr : ∀ k, row = some k → k < base) : Own enc e sz w' base v l := by
  refine h.kept hg ?_
  cases hv : v.ownBlock with
  | none => exact .inl rfl
  | some j => exact .inr fun e => by have := hr j e.symm; have := h.lt j hv; omega
theorem EndG.grown {row : Option Nat} (h : EndG w base v ls) (hg : w.grownBy w' row) (hr : ∀ k, row = some k → k < base) : EndG w' base v ls := h.map (fun _ h => h.row hg hr) fun _ _ h => h.row hg hr
theorem EndG.mono {b : Nat} (h : EndG w base v ls) (hb : b ≤ base) : EndG w b v ls := by
  obtain ⟨mv, h1, ⟨h2, h3⟩, h4⟩ := h
  exact ⟨mv, h1.mono hb, ⟨h2, fun i v hv => by obtain ⟨l, hl, ho⟩ := h3 i v hv; exact ⟨l, hl, ho.mono hb⟩⟩, h4⟩
theorem EndG.len (h : EndG w base v ls) : ls.length ≤ maxLen := by
  obtain ⟨A, c, _, _, h3, h4⟩ := h.ownG.form
  omega
/-- a row with more behind it -/
theorem EndG.snoc {mv : List Value} {b' : Nat} (h1 : Own eVal 22 1 w base v mv) (h2 : Rws w base mv ls) (h4 : mv.Pairwise ApartV) (hu : OwnI w b' u l) (hb : base ≤ b') (hf : ∀ x ∈ mv, ∀ k, x.ownBlock = some k → k < b')
    (h3 : Own eVal 22 1 w' base v' (mv ++ [u])) (hg : w.grownBy w' v.ownBlock) : EndG w' base v' (ls ++ [l]) := by
  refine ⟨mv ++ [u], h3, ⟨by simp [h2.1], fun i x hx => ?_⟩, ?_⟩
  · rcases Nat.lt_or_ge i mv.length with hi | hi
    · rw [List.getElem?_append_left hi] at hx
      obtain ⟨l', hl', ho⟩ := h2.2 i x hx
      exact ⟨l', by rw [List.getElem?_append_left (by rw [← h2.1]; exact hi)]; exact hl', ho.kept hg (own_ne ho h1 (by decide))⟩
    · rw [List.getElem?_append_right hi] at hx
      have h0 : i - mv.length = 0 := by
        cases hd : i - mv.length with
        | zero => rfl
        | succ k => rw [hd] at hx; simp at hx
      rw [h0] at hx
      simp only [List.getElem?_cons_zero, Option.some.injEq] at hx
      subst hx
      refine ⟨l, ?_, (hu.kept hg (own_ne hu h1 (by decide))).mono hb⟩
      rw [List.getElem?_append_right (by rw [← h2.1]; exact hi), show i - ls.length = 0 by rw [← h2.1]; exact h0]
      rfl
  · rw [List.pairwise_append]
    refine ⟨h4, List.pairwise_singleton _ _, fun x hx y hy k hk e => ?_⟩
    rw [List.mem_singleton.1 hy] at e
    have := hf x hx k hk
    have := hu.lt k e
    omega
/-- a number of a list of the call's own -/
theorem Own.put1 {A : Option Addr} {n c : Nat} (h : OwnI w base (.slice A n c) l) {o : Nat} (ho : o < l.length) (x : Int) :
    ∃ g, A = some ⟨g, 0, none⟩ ∧ base ≤ g ∧ g < w.heap.size ∧ w.cell? ⟨g, o, none⟩ = some (.int .i64 (l.getD o 0)) ∧ w.frozen? ⟨g, o, none⟩ = false ∧ OwnI (w.setCell ⟨g, o, none⟩ (.int .i64 x)) base (.slice A n c) (l.set o x) := by
  have flat : ∀ x : List Int, x.flatMap eInt = x.map (Value.int .i64) := fun x => by
    induction x with
    | nil => rfl
    | cons a r ih => rw [List.flatMap_cons, ih]; rfl
  rcases h.2 with ⟨hv, h0⟩ | ⟨g, cap, cur, hv, hg, hh, hnc, hcm, hsz, htk⟩
  · omega
  · cases hv
    have hlo : o < c := by omega
    have hm : (l.flatMap eInt)[o]? = some (Value.int .i64 (l.getD o 0)) := by
      rw [flat, List.getElem?_map, List.getElem?_eq_getElem ho, List.getD_eq_getElem?_getD, List.getElem?_eq_getElem ho]; rfl
    have hco : cur[o]? = some (Value.int .i64 (l.getD o 0)) := by
      rw [← htk, List.getElem?_take_of_lt (by omega), Array.getElem?_toList] at hm
      exact hm
    refine ⟨g, rfl, hg, heap_lt hh, ?_, frz hh o, ?_⟩
    · unfold World.cell?; simp [hh, hco]
    · refine ⟨by simp [flat], .inr ⟨g, c, cur.setIfInBounds o (.int .i64 x), by simp, hg, set_blk hh, by simpa using hnc, hcm, by simpa using hsz, ?_⟩⟩
      rw [Array.toList_setIfInBounds, List.take_set, List.length_set, htk, flat, flat, List.map_set]
theorem grownBy_cell (w : World) (g o : Nat) (x : Value) : w.grownBy (w.setCell ⟨g, o, none⟩ x) (some g) := ⟨rfl, rfl, rfl, by simp, fun j _ hj => Below.heap_setCell _ ⟨g, o, none⟩ _ _ (fun e => hj (by rw [e]))⟩
/-- a row of the grid: its value, its cells; and the grid with another number in it -/
theorem EndG.at {f o : Nat} (h : EndG w base v ls) (hf : f < ls.length) (hr : o < (ls.getD f []).length) :
    ∃ b off c g cg, v = .slice (some ⟨b, off, none⟩) ls.length c ∧ w.cell? ⟨b, off + f, none⟩ = some (.slice (some ⟨g, 0, none⟩) (ls.getD f []).length cg) ∧ (ls.getD f []).length ≤ cg ∧ cg ≤ maxLen ∧
      base ≤ g ∧ g < w.heap.size ∧ w.cell? ⟨g, o, none⟩ = some (.int .i64 ((ls.getD f []).getD o 0)) ∧ w.frozen? ⟨g, o, none⟩ = false ∧
      ∀ x, EndG (w.setCell ⟨g, o, none⟩ (.int .i64 x)) base v (ls.set f ((ls.getD f []).set o x)) := by
  obtain ⟨mv, h1, ⟨h2, h3⟩, h4⟩ := h
  have hfm : f < mv.length := by omega
  obtain ⟨row, hrow, hor⟩ := h3 f mv[f] (List.getElem?_eq_getElem hfm)
  have hg : ls.getD f [] = row := by rw [List.getD_eq_getElem?_getD, hrow]; rfl
  rw [hg] at hr ⊢
  obtain ⟨A, c, hv, hs, hc, hm⟩ := h1.form lenVal
  obtain ⟨b, off, x, hA, hb, hx, hcell⟩ := Vals.get (hs) hfm
  have hxe : x = mv[f] := by rw [List.getElem?_eq_getElem hfm] at hx; exact (Option.some.inj hx).symm
  subst hxe
  obtain ⟨A', c', hv', hs', hc', hm'⟩ := hor.form lenInt
  obtain ⟨g, hA', hg1, hg2, hg3, hg4, hg5⟩ := Own.put1 (hv' ▸ hor) hr 0
  subst hA hA'
  refine ⟨b, off, c, g, c', by rw [hv, h2], by rw [hcell, hv'], hc', hm', hg1, hg2, hg3, hg4, fun y => ?_⟩
  have hgr := grownBy_cell w g o (.int .i64 y)
  have hvb : mv[f].ownBlock = some g := by rw [hv']; rcases hor.2 with ⟨e, _⟩ | ⟨g', cap, cur, e, _⟩ <;> rw [hv'] at e <;> cases e; rfl
  refine ⟨mv, h1.kept hgr ?_, ⟨by rw [List.length_set]; exact h2, fun i u hu => ?_⟩, h4⟩
  · rcases own_ne hor h1 (by decide) with e | e
    · rw [hvb] at e; cases e
    · exact .inr fun e' => e (hvb.trans e'.symm)
  · by_cases hif : f = i
    · subst hif
      have hue : u = mv[f] := by rw [List.getElem?_eq_getElem hfm] at hu; exact (Option.some.inj hu).symm
      subst hue
      refine ⟨row.set o y, by rw [List.getElem?_set_self hf], ?_⟩
      obtain ⟨g', e, _, _, _, _, k⟩ := Own.put1 (hv' ▸ hor) hr y
      cases e
      rw [hv']
      exact k
    · obtain ⟨l', hl', ho'⟩ := h3 i u hu
      refine ⟨l', by rw [List.getElem?_set_ne hif]; exact hl', ho'.kept hgr ?_⟩
      right
      intro e
      have him : i < mv.length := (List.getElem?_eq_some_iff.1 hu).1
      have hue : mv[i] = u := by rw [List.getElem?_eq_getElem him] at hu; exact Option.some.inj hu
      rcases Nat.lt_or_gt_of_ne hif with h | h
      · exact (List.pairwise_iff_getElem.1 h4 f i hfm him h) g hvb (by rw [hue]; exact e)
      · exact (List.pairwise_iff_getElem.1 h4 i f him hfm h) g (by rw [hue]; exact e) hvb
end
/-- a row of a grid that is read -/
theorem row_get {w : World} {A : Option Addr} {n : Nat} {gs : List (List Int)} {k : Nat} {l : List Int} (hk : gs[k]? = some l) : gs.getD k [] = l := by rw [List.getD_eq_getElem?_getD, hk]; rfl

theorem flockSum_any (A : Option Addr) (n c f : Nat) (gs : List (List Int)) (w : World) (hg : Grid w A n gs) (hf : f < n) (hn : n ≤ 1000) (hb : ∀ r ∈ gs, r.length ≤ 1000 ∧ ∀ x ∈ r, -100000 ≤ x ∧ x ≤ 100000) :
    Calls Try.prog 52 #[.slice A n c, .int .i64 f] w fun e w' => e = .returned (.int .i64 (gs.getD f []).sum) ∧ w = w' := by
  obtain ⟨b, off, B, l, c', rfl, hbw, hl, hc, hi, hlc, hcm⟩ := hg.get hf
  have hbl := hb l (List.mem_of_getElem? hl)
  have hto := total_any B l.length c' l w hi (by omega) hbl.2
  rw [row_get (w := w) (A := B) (n := 0) hl]
  obtain ⟨s, hs⟩ : ∃ s, s = l.sum := ⟨_, rfl⟩
  rw [← hs] at hto ⊢
  have h1 : (f : Int) < (n : Int) := by omega
  have h2 : (n : Int) ≤ 1000 := by omega
  have HX := Lib.hid (And.intro hl (And.intro hbl hs))
  clear hl hbl hs hg hb hi
  go_enter Try.func52, Try.ntmps52
  go_wp2_with (go_at_call 35; refine hto.mono ?_; rintro e w2 ⟨rfl, rfl⟩)
  go_ret
  exact ⟨rfl, rfl⟩

/-- what holder answers: nobody, or somebody who has sheep -/
def Holds (row : List Int) (o : Int) : Prop := (o = -1 ∧ ∀ x ∈ row, x ≤ 0) ∨ ∃ k : Nat, o = k ∧ k < row.length ∧ 0 < row.getD k 0
def HoldR (H N : Nat) (row : List Int) (w : World) (e : Ending) (w' : World) : Prop := ∃ o, e = .returned (.int .i64 o) ∧ Holds row o ∧ Dealt w w' H N
set_option maxHeartbeats 1000000 in
theorem holder_any (H N : Nat) (A : Option Addr) (n c f : Nat) (gs : List (List Int)) (w : World) (h : Hd w H N) (hN : N ≤ 4611686018427387904) (hg : Grid w A n gs) (hf : f < n) (hn : n ≤ 1000) (hb : ∀ r ∈ gs, r.length ≤ 1000 ∧ ∀ x ∈ r, -100000 ≤ x ∧ x ≤ 100000) :
    Calls Try.prog 51 #[.pointer (some ⟨H, 0, none⟩), .slice A n c, .int .i64 f] w (HoldR H (N + 1) (gs.getD f []) w) := by
  have hHl := h.lt
  obtain ⟨b, off, B, l, c', rfl, hbw, hl, hc, hi, hlc, hcm⟩ := hg.get hf
  have hbl := hb l (List.mem_of_getElem? hl)
  rw [row_get (w := w) (A := B) (n := 0) hl]
  obtain ⟨m, hm⟩ : ∃ m, m = l.length := ⟨_, rfl⟩
  rw [← hm] at hc hi
  have hm1 : m ≤ 1000 := by omega
  have h1 : (f : Int) < (n : Int) := by omega
  have h2 : (n : Int) ≤ 1000 := by omega
  have HX := Lib.hid (And.intro h (And.intro hc (And.intro hi (And.intro hm hbl.2))))
  clear hl hbl hg hb hi hm hc h
  go_enter Try.func51, Try.ntmps51
  go_wp2_with fail
  go_loopg [7, 8] m (fun g v7 v8 wr => ∃ k : Nat, k + g = m ∧ v8 = .int .i64 k ∧ (∃ os : List Int, OwnI wr w.heap.size v7 os ∧ os.length ≤ k ∧ (∀ o ∈ os, ∃ j : Nat, o = j ∧ j < m ∧ 0 < l.getD j 0) ∧ (os = [] → ∀ j, j < k → l.getD j 0 ≤ 0)) ∧ Below w.heap.size w wr)
  case atStart => exact ⟨0, by omega, rfl, ⟨[], Own.nil_, by simp, by simp, fun _ j hj => by omega⟩, Below.refl _ _⟩
  case round =>
    obtain ⟨k, hk, rfl, ⟨os, hown, hol, hos, hno⟩, hB⟩ := hrel
    have c0 := bcell HX.out.2.1 hB (Nat.le_refl _)
    have hBz := hB.size
    by_cases hlt : k < m
    · obtain ⟨b2, off2, x, rfl, hb2, hx, c1⟩ := Ints.get (HX.out.2.2.1.below hB (Nat.le_refl _)) hlt
      have hxg : l.getD k 0 = x := by rw [List.getD_eq_getElem?_getD, hx]; rfl
      have h3 : (k : Int) < (m : Int) := by omega
      have h4 : (m : Int) ≤ 1000 := by omega
      have HK := Lib.hid (And.intro hk (And.intro hown (And.intro hol (And.intro hos (And.intro hno (And.intro hB hxg))))))
      clear hk hown hol hos hno hB hx hxg
      by_cases hp : 0 < x
      · have hll : os.length < 4294967296 := by have := HK.out.2.2.1; omega
        go_wp2_with (at_builtin; refine wp_app okInt rfl (.tmp 26) (.tmp 28) rfl w.heap.size _ os (k : Int) _ rfl rfl rfl rfl (one_eInt _) HK.out.2.1 ?_ ?_ ?_ ?_; (omega); (omega); (omega); intro v' w4 hown4 hb4 _ hz4; have H4 := Lib.hid (And.intro hown4 hb4); clear hown4 hb4)
        go_roundg (gk - 1)
        case measure => have := HK.out.1; omega
        case rel =>
          refine ⟨k + 1, by have := HK.out.1; omega, by go_num, ⟨os ++ [(k : Int)], H4.out.1, by simpa using HK.out.2.2.1, fun o ho => ?_, fun e => by simp at e⟩, HK.out.2.2.2.2.2.1.trans H4.out.2⟩
          rcases List.mem_append.1 ho with ho | ho
          · exact HK.out.2.2.2.1 o ho
          · exact ⟨k, List.mem_singleton.1 ho, by omega, by rw [HK.out.2.2.2.2.2.2]; exact hp⟩
      · go_wp2_with fail
        go_roundg (gk - 1)
        case measure => have := HK.out.1; omega
        case rel =>
          refine ⟨k + 1, by have := HK.out.1; omega, by go_num, ⟨os, HK.out.2.1, by have := HK.out.2.2.1; omega, HK.out.2.2.2.1, fun e j hj => ?_⟩, HK.out.2.2.2.2.2.1⟩
          rcases Nat.lt_or_ge j k with h | h
          · exact HK.out.2.2.2.2.1 e j h
          · obtain rfl : j = k := by omega
            rw [HK.out.2.2.2.2.2.2]; omega
    · obtain rfl : k = m := by omega
      have hhd : Hd wr H N := HX.out.1.below hB hHl
      have hD : Dealt w wr H N := ⟨hhd, ⟨hB.os, hB.tape, hB.output, hB.size, fun j hj _ => hB.block j hj⟩⟩
      obtain ⟨A7, c7, rfl, hs7, hc7, hm7⟩ := hown.form lenInt
      have HK := Lib.hid (And.intro hown (And.intro hs7 (And.intro hos (And.intro hno (And.intro hD hol)))))
      obtain ⟨q, hq⟩ : ∃ q, q = os.length := ⟨_, rfl⟩
      rw [← hq] at hol ⊢
      have HQ := Lib.hid hq
      clear hown hs7 hos hno hD hq hc7
      by_cases h0 : q = 0
      · subst h0
        go_wp2_with fail
        go_ret
        have he : os = [] := List.eq_nil_of_length_eq_zero HQ.out.symm
        refine ⟨-1, rfl, .inl ⟨rfl, fun x hx => ?_⟩, HK.out.2.2.2.2.1.mono (by omega)⟩
        obtain ⟨j, hj⟩ := List.mem_iff_getElem?.1 hx
        have := HK.out.2.2.2.1 he j (by have := (List.getElem?_eq_some_iff.1 hj).1; have := HX.out.2.2.2.1; omega)
        rw [List.getD_eq_getElem?_getD, hj] at this
        exact this
      · have h5 : (q : Int) ≤ 1000 := by omega
        have h6 : ((q : Int) == 0) = false := beq_eq_false_iff_ne.2 (by omega)
        have hup := upto_any H N ((q : Int) - 1) wr hhd hN (by omega)
        have HU := Lib.hid hup
        clear hup hhd
        go_wp2_with fail
        refine HU.out.mono ?_
        rintro e w1 ⟨r, rfl, hr, hd⟩
        have hrq : r < q := by omega
        have hi7 : Ints w1 A7 q os := by
          have := HK.out.2.1
          rw [← HQ.out] at this
          refine (HK.out.1.row hd.gr (fun k e => by cases e; exact hHl)).form lenInt |>.elim fun A8 h => ?_
          obtain ⟨c8, e8, s8, _⟩ := h
          cases e8
          rw [← HQ.out] at s8
          exact s8
        obtain ⟨b3, off3, y, rfl, hb3, hy, c3⟩ := hi7.get hrq
        obtain ⟨j, hj1, hj2, hj3⟩ := HK.out.2.2.1 y (List.mem_of_getElem? hy)
        have h7 : (r : Int) < (q : Int) := by omega
        have HY := Lib.hid (And.intro hd (And.intro hj1 (And.intro hj2 hj3)))
        clear hd hj1 hj2 hj3 hi7 hr
        go_wp2_with fail
        go_ret
        exact ⟨y, rfl, .inr ⟨j, HY.out.2.1, by rw [← HX.out.2.2.2.1]; exact HY.out.2.2.1, HY.out.2.2.2⟩, HK.out.2.2.2.2.1.trans HY.out.1⟩
end Go.Proofs.Ytmennjmjakdkcaa
namespace Go.Proofs.Ytmennjmjakdkcaa
open Go.RowKit
set_option linter.unusedVariables false
set_option linter.unusedSimpArgs false

theorem one_eVal {x : Value} (h : x.oneCell' = true) : ∀ u ∈ eVal x, u.oneCell' = true := by
  intro u hu; simp [eVal] at hu; subst hu; exact h
theorem Grid.len {w : World} {A : Option Addr} {n : Nat} {ls : List (List Int)} (h : Grid w A n ls) : ls.length = n := by
  obtain ⟨mv, h1, h2, _⟩ := h
  rw [← h2]; exact h1.len

end Go.Proofs.Ytmennjmjakdkcaa
namespace Go.Proofs.Ytmennjmjakdkcaa
open Go.RowKit
set_option linter.unusedVariables false
set_option linter.unusedSimpArgs false

section
variable {α : Type} {enc : α → List Value} {e te : TypeId} {sz : Nat} {w w' : World} {base B : Nat} {v v' u : Value} {mv : List Value} {ls : List (List α)} {l : List α}
def RwsA (enc : α → List Value) (e : TypeId) (sz : Nat) (w : World) (base : Nat) (mv : List Value) (ls : List (List α)) : Prop :=
  mv.length = ls.length ∧ ∀ (i : Nat) v, mv[i]? = some v → ∃ l, ls[i]? = some l ∧ Own enc e sz w base v l
def OwnA (enc : α → List Value) (e te : TypeId) (sz : Nat) (w : World) (base : Nat) (v : Value) (ls : List (List α)) : Prop := ∃ mv, Own eVal te 1 w base v mv ∧ RwsA enc e sz w base mv ls
theorem OwnA.nil_ : OwnA enc e te sz w base (.slice none 0 0) [] := ⟨[], Own.nil_, rfl, fun i v h => by simp at h⟩
theorem OwnA.below (h : OwnA enc e te sz w base v ls) (hb : Below B w w') (hB : w.heap.size ≤ B) : OwnA enc e te sz w' base v ls := by
  obtain ⟨mv, h1, h2, h3⟩ := h
  exact ⟨mv, h1.below hb hB, h2, fun i v hv => by obtain ⟨l, hl, ho⟩ := h3 i v hv; exact ⟨l, hl, ho.below hb hB⟩⟩
theorem OwnA.alloc (h : OwnA enc e te sz w base v ls) (o : Obj) : OwnA enc e te sz (w.alloc o) base v ls := h.below (bal0 w o) (Nat.le_refl _)
theorem OwnA.mono {b : Nat} (h : OwnA enc e te sz w base v ls) (hb : b ≤ base) : OwnA enc e te sz w b v ls := by
  obtain ⟨mv, h1, h2, h3⟩ := h
  exact ⟨mv, h1.mono hb, h2, fun i v hv => by obtain ⟨l, hl, ho⟩ := h3 i v hv; exact ⟨l, hl, ho.mono hb⟩⟩
theorem OwnA.map {w' : World} (h : OwnA enc e te sz w base v ls) (k1 : ∀ mv, Own eVal te 1 w base v mv → Own eVal te 1 w' base v mv) (k2 : ∀ u l, Own enc e sz w base u l → Own enc e sz w' base u l) : OwnA enc e te sz w' base v ls := by
  obtain ⟨mv, h1, h2, h3⟩ := h
  exact ⟨mv, k1 _ h1, h2, fun i v hv => by obtain ⟨l, hl, ho⟩ := h3 i v hv; exact ⟨l, hl, k2 _ _ ho⟩⟩
theorem OwnA.snoc (hne : e ≠ te) (h1 : Own eVal te 1 w base v mv) (h2 : RwsA enc e sz w base mv ls) (hu : Own enc e sz w base u l)
    (h3 : Own eVal te 1 w' base v' (mv ++ [u])) (hg : w.grownBy w' v.ownBlock) : OwnA enc e te sz w' base v' (ls ++ [l]) := by
  refine ⟨mv ++ [u], h3, by simp [h2.1], fun i x hx => ?_⟩
  rcases Nat.lt_or_ge i mv.length with hi | hi
  · rw [List.getElem?_append_left hi] at hx
    obtain ⟨l', hl', ho⟩ := h2.2 i x hx
    exact ⟨l', by rw [List.getElem?_append_left (by rw [← h2.1]; exact hi)]; exact hl', ho.kept hg (own_ne ho h1 hne)⟩
  · rw [List.getElem?_append_right hi] at hx
    have h0 : i - mv.length = 0 := by
      cases hd : i - mv.length with
      | zero => rfl
      | succ k => rw [hd] at hx; simp at hx
    rw [h0] at hx
    simp only [List.getElem?_cons_zero, Option.some.injEq] at hx
    subst hx
    refine ⟨l, ?_, hu.kept hg (own_ne hu h1 hne)⟩
    rw [List.getElem?_append_right (by rw [← h2.1]; exact hi), show i - ls.length = 0 by rw [← h2.1]; exact h0]
    rfl
/-- 'out = append(out, row)': the row is a slice of the call's own -/
theorem wp_app_rowA {P : Program} {tt : TypeId} (E : ElemOk P tt te 1 24) (hne : e ≠ te) {ops : Array Oper} {rest : List Oper} {o : Oper} {a : Act} {Q : Exit → Act → World → Prop} {w : World}
    (hgd : o.guard = none) (s x : Operand) (ho : o.op = .call { callee := .builtin .append, args := #[s, x], argTypes := #[tt, tt] })
    (base : Nat) (v u : Value) (ls : List (List α)) (l : List α) (hs : a.eval s = v) (hx : a.eval x = .slice (some ⟨w.heap.size, 0, none⟩) 1 1)
    (hown : OwnA enc e te sz w base v ls) (hu : Own enc e sz w base u l) (hll : ls.length < 4294967296) (hbase : base ≤ w.heap.size)
    (h : ∀ v' w', OwnA enc e te sz w' base v' (ls ++ [l]) → Below base w w' → (∀ (k : Nat) cs T, T ≠ te → w.heap[k]? = some (.cells cs T (0, 0)) → w'.heap[k]? = some (.cells cs T (0, 0))) → wpList P ops Q rest (a.put o.dst v') w') :
    wpList P ops Q (o :: rest) a (w.alloc (.cells #[u] te)) := by
  obtain ⟨mv, h1, h2⟩ := hown
  have h1u : u.oneCell' = true := by
    rcases hu.2 with ⟨rfl, _⟩ | ⟨g, cap, cur, rfl, _⟩ <;> rfl
  refine wp_appx (P := P) E hgd s x ho base v mv u #[u] hs hx rfl rfl (one_eVal h1u) h1 (by rw [h2.1]; exact hll) (by decide) hbase ?_
  intro g' cap w' ho' hg hb
  refine h _ _ (OwnA.snoc hne h1 h2 hu ho' hg) hb fun k cs T hT hk => (hg.block k (heap_lt hk) fun e => ?_).trans hk
  rcases h1.2 with ⟨rfl, _⟩ | ⟨g, cap, cur, rfl, _, k2, _⟩
  · cases e
  · simp only [Value.ownBlock, Option.some.injEq] at e
    subst e
    rw [k2] at hk
    cases hk
    exact hT rfl
/-- a slice of slices reads as a list of lists -/
def GridA (enc : α → List Value) (sz : Nat) (w : World) (A : Option Addr) (n : Nat) (ls : List (List α)) : Prop :=
  ∃ mv, Sl eVal 1 w A n mv ∧ mv.length = ls.length ∧ ∀ (i : Nat) v, mv[i]? = some v → ∃ B l c, ls[i]? = some l ∧ v = .slice B l.length c ∧ Sl enc sz w B l.length l ∧ l.length ≤ c ∧ c ≤ maxLen
theorem OwnA.form (henc : ∀ x, (enc x).length = sz) (h : OwnA enc e te sz w base v ls) : ∃ A c, v = .slice A ls.length c ∧ GridA enc sz w A ls.length ls ∧ ls.length ≤ c ∧ c ≤ maxLen := by
  obtain ⟨mv, h1, h2, h3⟩ := h
  obtain ⟨A, c, hv, hs, hc, hm⟩ := h1.form lenVal
  rw [h2] at hv hs hc
  refine ⟨A, c, hv, ⟨mv, hs, h2, fun i v hv => ?_⟩, hc, hm⟩
  obtain ⟨l, hl, ho⟩ := h3 i v hv
  obtain ⟨B, c', hv', hs', hc', hm'⟩ := ho.form henc
  exact ⟨B, l, c', hl, hv', hs', hc', hm'⟩
theorem GridA.below {A : Option Addr} {n : Nat} (h : GridA enc sz w A n ls) (hb : Below B w w') (hB : w.heap.size ≤ B) : GridA enc sz w' A n ls := by
  obtain ⟨mv, h1, h2, h3⟩ := h
  exact ⟨mv, h1.below hb hB, h2, fun i v hv => by
    obtain ⟨C, l, c, a1, a2, a3, a4, a5⟩ := h3 i v hv
    exact ⟨C, l, c, a1, a2, a3.below hb hB, a4, a5⟩⟩
theorem GridA.get {A : Option Addr} {n : Nat} (h : GridA enc sz w A n ls) {k : Nat} (hk : k < n) :
    ∃ b off B l c, A = some ⟨b, off, none⟩ ∧ b < w.heap.size ∧ ls[k]? = some l ∧ w.cell? ⟨b, off + k, none⟩ = some (.slice B l.length c) ∧ Sl enc sz w B l.length l ∧ l.length ≤ c ∧ c ≤ maxLen := by
  obtain ⟨mv, h1, h2, h3⟩ := h
  obtain ⟨b, off, x, hA, hb, hx, hc⟩ := Vals.get h1 hk
  obtain ⟨B, l, c, a1, a2, a3, a4, a5⟩ := h3 k x hx
  subst a2
  exact ⟨b, off, B, l, c, hA, hb, a1, hc, a3, a4, a5⟩
end
end Go.Proofs.Ytmennjmjakdkcaa
namespace Go.Proofs.Ytmennjmjakdkcaa
open Go.RowKit
set_option linter.unusedVariables false
set_option linter.unusedSimpArgs false

/-- 'out = append(out, row)' -/
theorem wp_app_end {P : Program} {tt : TypeId} (E : ElemOk P tt 22 1 24) {ops : Array Oper} {rest : List Oper} {o : Oper} {a : Act} {Q : Exit → Act → World → Prop} {w0 w : World}
    (hgd : o.guard = none) (s x : Operand) (ho : o.op = .call { callee := .builtin .append, args := #[s, x], argTypes := #[tt, tt] })
    (base : Nat) (v u : Value) (ls : List (List Int)) (l : List Int) (hs : a.eval s = v) (hx : a.eval x = .slice (some ⟨w.heap.size, 0, none⟩) 1 1)
    (hown : EndG w0 base v ls) (hb0 : Below w0.heap.size w0 w) (hu : OwnI w w0.heap.size u l) (hll : ls.length < 4294967296) (hbase : base ≤ w0.heap.size)
    (h : ∀ v' w', EndG w' base v' (ls ++ [l]) → Below base w w' → (∀ (k : Nat) cs T, T ≠ 22 → w.heap[k]? = some (.cells cs T (0, 0)) → w'.heap[k]? = some (.cells cs T (0, 0))) → (∀ k, k < w.heap.size → v.ownBlock ≠ some k → w'.heap[k]? = w.heap[k]?) → wpList P ops Q rest (a.put o.dst v') w') :
    wpList P ops Q (o :: rest) a (w.alloc (.cells #[u] 22)) := by
  obtain ⟨mv, h1, h2, h4⟩ := hown
  have h1u : u.oneCell' = true := by
    rcases hu.2 with ⟨rfl, _⟩ | ⟨g, cap, cur, rfl, _⟩ <;> rfl
  have h1w := h1.below hb0 (Nat.le_refl _)
  have h2w : Rws w base mv ls := ⟨h2.1, fun i v hv => by obtain ⟨l, hl, ho⟩ := h2.2 i v hv; exact ⟨l, hl, ho.below hb0 (Nat.le_refl _)⟩⟩
  refine wp_appx (P := P) E hgd s x ho base v mv u #[u] hs hx rfl rfl (one_eVal h1u) h1w (by rw [h2.1]; exact hll) (by decide) (Nat.le_trans hbase hb0.size) ?_
  intro g' cap w' ho' hg hb
  refine h _ _ (EndG.snoc h1w h2w h4 hu hbase (fun x hx k hk => ?_) ho' hg) hb (fun k cs T hT hk => (hg.block k (heap_lt hk) fun e => ?_).trans hk) fun k hk hne => hg.block k hk (fun e => hne e.symm)
  · obtain ⟨i, hi⟩ := List.mem_iff_getElem?.1 hx
    obtain ⟨l', _, ho⟩ := h2.2 i x hi
    exact (ho.lt k hk).2
  · rcases h1w.2 with ⟨rfl, _⟩ | ⟨g, cap, cur, rfl, _, k2, _⟩
    · cases e
    · simp only [Value.ownBlock, Option.some.injEq] at e
      subst e
      rw [k2] at hk
      cases hk
      exact hT rfl

/-- a grid that reads as ls, the slice without a place has no room -/
def GridZ (w : World) (A : Option Addr) (n : Nat) (ls : List (List Int)) : Prop :=
  ∃ mv, Sl eVal 1 w A n mv ∧ mv.length = ls.length ∧ ∀ (i : Nat) v, mv[i]? = some v → ∃ B l c, ls[i]? = some l ∧ v = .slice B l.length c ∧ Ints w B l.length l ∧ l.length ≤ c ∧ c ≤ maxLen ∧ (B = none → c = 0)
theorem GridZ.below {w w' : World} {A : Option Addr} {n B : Nat} {ls : List (List Int)} (h : GridZ w A n ls) (hb : Below B w w') (hB : w.heap.size ≤ B) : GridZ w' A n ls := by
  obtain ⟨mv, h1, h2, h3⟩ := h
  exact ⟨mv, h1.below hb hB, h2, fun i v hv => by
    obtain ⟨C, l, c, a1, a2, a3, a4, a5, a6⟩ := h3 i v hv
    exact ⟨C, l, c, a1, a2, a3.below hb hB, a4, a5, a6⟩⟩
theorem GridZ.grid {w : World} {A : Option Addr} {n : Nat} {ls : List (List Int)} (h : GridZ w A n ls) : Grid w A n ls := by
  obtain ⟨mv, h1, h2, h3⟩ := h
  exact ⟨mv, h1, h2, fun i v hv => by
    obtain ⟨C, l, c, a1, a2, a3, a4, a5, a6⟩ := h3 i v hv
    exact ⟨C, l, c, a1, a2, a3, a4, a5⟩⟩
theorem GridZ.get {w : World} {A : Option Addr} {n : Nat} {ls : List (List Int)} (h : GridZ w A n ls) {k : Nat} (hk : k < n) :
    ∃ b off B l c, A = some ⟨b, off, none⟩ ∧ b < w.heap.size ∧ ls[k]? = some l ∧ w.cell? ⟨b, off + k, none⟩ = some (.slice B l.length c) ∧ Ints w B l.length l ∧ l.length ≤ c ∧ c ≤ maxLen ∧ (B = none → c = 0) := by
  obtain ⟨mv, h1, h2, h3⟩ := h
  obtain ⟨b, off, x, hA, hb, hx, hc⟩ := Vals.get h1 hk
  obtain ⟨B, l, c, a1, a2, a3, a4, a5, a6⟩ := h3 k x hx
  subst a2
  exact ⟨b, off, B, l, c, hA, hb, a1, hc, a3, a4, a5, a6⟩
theorem Own.formZ {α : Type} {enc : α → List Value} {e : TypeId} {sz : Nat} {w : World} {base : Nat} {v : Value} {l : List α} (h : Own enc e sz w base v l) (henc : ∀ x, (enc x).length = sz) : ∃ A c, v = .slice A l.length c ∧ Sl enc sz w A l.length l ∧ l.length ≤ c ∧ c ≤ maxLen ∧ (A = none → c = 0) := by
  obtain ⟨A, c, e, h1, h2, h3⟩ := h.form henc
  refine ⟨A, c, e, h1, h2, h3, fun hA => ?_⟩
  rcases h.2 with ⟨hv, _⟩ | ⟨g, cap, cur, hv, _⟩
  · rw [e] at hv; injection hv with _ _ e3
  · rw [e, hA] at hv; injection hv with e1; cases e1
theorem OwnG.formZ {w : World} {base : Nat} {v : Value} {ls : List (List Int)} (h : OwnG w base v ls) : ∃ A c, v = .slice A ls.length c ∧ GridZ w A ls.length ls ∧ ls.length ≤ c ∧ c ≤ maxLen ∧ (A = none → c = 0) := by
  obtain ⟨mv, h1, h2, h3⟩ := h
  obtain ⟨A, c, hv, hs, hc, hm, hz⟩ := h1.formZ lenVal
  rw [h2] at hv hs hc
  refine ⟨A, c, hv, ⟨mv, hs, h2, fun i v hv => ?_⟩, hc, hm, hz⟩
  obtain ⟨l, hl, ho⟩ := h3 i v hv
  obtain ⟨B, c', hv', hs', hc', hm', hz'⟩ := ho.formZ lenInt
  exact ⟨B, l, c', hl, hv', hs', hc', hm', hz'⟩

set_option maxRecDepth 100000 in
set_option maxHeartbeats 1000000 in
theorem copyGrid_any (A : Option Addr) (n c : Nat) (ls : List (List Int)) (w : World) (hl : GridZ w A n ls) (hn : n ≤ 1000) (hr : ∀ r ∈ ls, r.length ≤ 1000) :
    Calls Try.prog 50 #[.slice A n c] w fun e w' => (∃ v, e = .returned v ∧ EndG w' w.heap.size v ls) ∧ Below w.heap.size w w' := by
  have hlen : ls.length = n := hl.grid.len
  have HL := Lib.hid (And.intro hl (And.intro hlen hr))
  clear hl hlen hr
  go_enter Try.func50, Try.ntmps50
  go_wp2_with fail
  go_loopg [3, 4] n (fun g v3 v4 wr => ∃ k : Nat, k + g = n ∧ v4 = .int .i64 k ∧ EndG wr w.heap.size v3 (ls.take k) ∧ Below w.heap.size w wr)
  case atStart => exact ⟨0, by omega, rfl, by simpa using EndG.nil_, Below.refl _ _⟩
  case round =>
    obtain ⟨k, hk, rfl, hown, hB⟩ := hrel
    have hBz := hB.size
    by_cases hlt : k < n
    · obtain ⟨b, off, B, l, c', rfl, hbb, hl, hc, hi, hlc, hcm, hz⟩ := (HL.out.1.below hB (Nat.le_refl _)).get hlt
      have hll := HL.out.2.2 l (List.mem_of_getElem? hl)
      have hci := copyInts_any B l.length c' l wr hi hz (by omega)
      obtain ⟨m, hm⟩ : ∃ m, m = l.length := ⟨_, rfl⟩
      rw [← hm] at hc hci
      have htl : (ls.take k).length < 4294967296 := by rw [List.length_take]; omega
      have h1 : (k : Int) < (n : Int) := by omega
      have h2 : (n : Int) ≤ 1000 := by omega
      have HK := Lib.hid (And.intro hk (And.intro hown (And.intro hB (And.intro hl hm))))
      have HC := Lib.hid hci
      clear hk hown hB hl hm hci hi hll hlc hz
      go_wp2_with (first
        | (go_at_call 47; refine HC.out.mono ?_; rintro e w2 ⟨v2, rfl, hov, hb2⟩; obtain ⟨A2, c2, rfl, _, _, _⟩ := hov.form lenInt; have H2 := Lib.hid (And.intro hov hb2); clear hov hb2)
        | (at_builtin; refine wp_app_end okInts rfl (.tmp 11) (.tmp 17) rfl w.heap.size _ _ (ls.take k) _ rfl rfl HK.out.2.1 H2.out.2 H2.out.1 htl hBz ?_; intro v' w4 hown4 hb4 _ _; have H4 := Lib.hid (And.intro hown4 hb4); clear hown4 hb4))
      go_roundg (gk - 1)
      case measure => have := HK.out.1; omega
      case rel =>
        refine ⟨k + 1, by have := HK.out.1; omega, by go_num, ?_, HK.out.2.2.1.trans ((H2.out.2.mono hBz).trans (H4.out.2.mono ?_))⟩
        · rw [List.take_add_one, HK.out.2.2.2.1]; exact H4.out.1
        · exact Nat.le_refl _
    · obtain rfl : k = n := by omega
      have e : ls.take k = ls := List.take_of_length_le (by rw [HL.out.2.1]; exact Nat.le_refl _)
      rw [e] at hown
      have HF := Lib.hid (And.intro hown hB)
      clear hown hB e
      go_wp2_with fail
      go_ret
      exact ⟨⟨_, rfl, HF.out.1⟩, HF.out.2⟩
end Go.Proofs.Ytmennjmjakdkcaa
namespace Go.Proofs.Ytmennjmjakdkcaa
open Go.RowKit
set_option linter.unusedVariables false

theorem Own.ne {α : Type} {enc : α → List Value} {e e' : TypeId} {sz : Nat} {w : World} {base g n c : Nat} {l : List α} {b : Nat} {cs : Array Value} {x : Nat × Nat} (h : Own enc e sz w base (.slice (some ⟨g, 0, none⟩) n c) l) (hb : w.heap[b]? = some (.cells cs e' x)) (hne : e ≠ e') : g ≠ b := by
  intro hgb
  subst hgb
  rcases h.2 with ⟨hv, _⟩ | ⟨g', cap, cur, hv, hg, hh, _⟩
  · cases hv
  · cases hv
    rw [hh] at hb
    cases hb
    exact hne rfl

theorem Own.ne' {α : Type} {enc : α → List Value} {e e' : TypeId} {sz : Nat} {w : World} {base : Nat} {v : Value} {l : List α} {b : Nat} {cs : Array Value} {x : Nat × Nat} (h : Own enc e sz w base v l) (hb : w.heap[b]? = some (.cells cs e' x)) (hne : e ≠ e') : v.ownBlock ≠ some b := by
  intro hgb
  rcases h.2 with ⟨hv, _⟩ | ⟨g', cap, cur, hv, hg, hh, _⟩
  · rw [hv] at hgb; cases hgb
  · rw [hv] at hgb
    cases hgb
    rw [hh] at hb
    cases hb
    exact hne rfl

end Go.Proofs.Ytmennjmjakdkcaa

namespace Go.Proofs.Ytmennjmjakdkcaa
open Go.RowKit
set_option linter.unusedVariables false

end Go.Proofs.Ytmennjmjakdkcaa
