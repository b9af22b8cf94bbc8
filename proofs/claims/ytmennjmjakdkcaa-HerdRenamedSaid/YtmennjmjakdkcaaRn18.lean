/- HerdRenamed 18: TalA, HdSm, HdGo. -/
import Derived.Test.YtmennjmjakdkcaaRn12
import Derived.Test.YtmennjmjakdkcaaRn17
import Derived.Test.YtmennjmjakdkcaaRn07
import Derived.Test.YtmennjmjakdkcaaRn08
namespace Go.Proofs.Ytmennjmjakdkcaa
open Go.RowKit
set_option linter.unusedVariables false
set_option linter.unusedSimpArgs false

theorem among_any (H N : Nat) (lo hi : Int) (w : World) (h : Hd w H N) (hN : N ≤ 4611686018427387904) (h1 : -1000000 ≤ lo ∧ lo ≤ 1000000) (h2 : -1000000 ≤ hi ∧ hi ≤ 1000000) :
    Calls Try.prog 34 #[.pointer (some ⟨H, 0, none⟩), .int .i64 lo, .int .i64 hi] w fun e w' => ∃ x : Int, e = .returned (.int .i64 x) ∧ lo ≤ x ∧ (x ≤ hi ∨ x = lo) ∧ Dealt w w' H (N + 1) := by
  go_enter Try.func34, Try.ntmps34
  go_wp2_with fail
  refine (upto_any H N (hi - lo) _ h hN (by omega)).mono ?_
  rintro e w1 ⟨n, rfl, hn, hd⟩
  have hn' : (n : Int) ≤ 2000000 := by omega
  go_wp2_with fail
  go_ret
  exact ⟨lo + n, rfl, by omega, by omega, hd⟩

theorem wrapN_any (x n : Nat) (w : World) (hx : x ≤ 1000000) (h1 : 1 ≤ n) (h2 : n ≤ 1000000) :
    Calls Try.prog 38 #[.int .i64 x, .int .i64 n] w fun e w' => e = .returned (.int .i64 ((x % n : Nat) : Int)) ∧ w = w' := by
  have h1' : ¬ ((n : Int) < 1) := by omega
  have hk0 : ((n : Int) == 0) = false := beq_eq_false_iff_ne.2 (by omega)
  obtain ⟨m, hm⟩ : ∃ m, m = x % n := ⟨_, rfl⟩
  have ht : (x : Int).tmod (n : Int) = (m : Int) := by rw [hm]; exact Int.ofNat_tmod x n
  have hm0 : m < n := by rw [hm]; exact Nat.mod_lt _ (by omega)
  have hw : wrap64 (m : Int) = m := IntWalk.wrap64_in _ (by omega)
  have hlt : ¬ ((m : Int) < 0) := by omega
  rw [← hm]
  clear hm
  go_enter Try.func38, Try.ntmps38
  go_wp2_with fail
  go_ret
  exact ⟨rfl, rfl⟩

theorem sumI_take {l : List Int} {k : Nat} {x : Int} (h : l[k]? = some x) : (l.take (k + 1)).sum = (l.take k).sum + x := by
  rw [List.take_add_one, h]
  simp
theorem sum_bd {B : Int} (hB : 0 ≤ B) : ∀ {l : List Int}, (∀ x ∈ l, -B ≤ x ∧ x ≤ B) → -(B * l.length) ≤ l.sum ∧ l.sum ≤ B * l.length
  | [], _ => by simp
  | x :: l, h => by
    have ih := sum_bd hB (l := l) fun y hy => h y (List.mem_cons_of_mem _ hy)
    have hx := h x List.mem_cons_self
    rw [List.sum_cons, List.length_cons]
    have : B * ((l.length + 1 : Nat) : Int) = B * (l.length : Int) + B := by rw [Int.natCast_add, Int.mul_add]; simp
    omega

set_option maxHeartbeats 1000000 in
theorem total_any (A : Option Addr) (n c : Nat) (l : List Int) (w : World) (hl : Ints w A n l) (hn : n ≤ 100000) (hb : ∀ x ∈ l, -100000 ≤ x ∧ x ≤ 100000) :
    Calls Try.prog 35 #[.slice A n c] w fun e w' => e = .returned (.int .i64 l.sum) ∧ w = w' := by
  have hlen := hl.len
  have HL := Lib.hid (And.intro hl (And.intro hlen hb))
  clear hl hlen hb
  obtain ⟨wo, hwo⟩ : ∃ wo, wo = w := ⟨_, rfl⟩
  rw [← hwo]
  have HW := Lib.hid hwo
  clear hwo
  go_enter Try.func35, Try.ntmps35
  go_wp2_with fail
  go_loopg [3, 4] n (fun g v3 v4 wr => ∃ k : Nat, k + g = n ∧ v4 = .int .i64 k ∧ v3 = .int .i64 (l.take k).sum ∧ wr = wo)
  case atStart => exact ⟨0, by omega, rfl, by simp, rfl⟩
  case round =>
    obtain ⟨k, hk, rfl, rfl, rfl⟩ := hrel
    by_cases hlt : k < n
    · obtain ⟨b, off, x, rfl, hbb, hx, c0⟩ := (HW.out ▸ HL.out.1).get hlt
      have hbx := HL.out.2.2 x (List.mem_of_getElem? hx)
      obtain ⟨s, hs⟩ : ∃ s, s = (l.take k).sum := ⟨_, rfl⟩
      have hsb := sum_bd (B := 100000) (by decide) (l := l.take k) (fun y hy => HL.out.2.2 y (List.mem_of_mem_take hy))
      have htl : (l.take k).length ≤ 100000 := by rw [List.length_take]; omega
      rw [← hs] at hsb ⊢
      have h1 : -10000000000 ≤ s ∧ s ≤ 10000000000 := by omega
      have h2 : (k : Int) < (n : Int) := by omega
      have HX := Lib.hid (And.intro hx (And.intro hs hk))
      clear hx hs hsb htl hk
      go_wp2_with fail
      go_roundg (gk - 1)
      case measure => have := HX.out.2.2; omega
      case rel => exact ⟨k + 1, by have := HX.out.2.2; omega, by go_num, by rw [sumI_take HX.out.1, ← HX.out.2.1], rfl⟩
    · obtain rfl : k = n := by omega
      have e : l.take k = l := List.take_of_length_le (by rw [HL.out.2.1]; exact Nat.le_refl _)
      rw [e]
      obtain ⟨s, hs⟩ : ∃ s, s = l.sum := ⟨_, rfl⟩
      rw [← hs]
      have HS := Lib.hid hs
      clear hs
      go_wp2_with fail
      go_ret
      exact ⟨by rw [← HS.out]; rfl, rfl⟩

/-! ### a grid whose rows lie apart -/
def ApartV (a b : Value) : Prop := ∀ k, a.ownBlock = some k → b.ownBlock ≠ some k
def EndG (w : World) (base : Nat) (v : Value) (ls : List (List Int)) : Prop := ∃ mv, Own eVal 22 1 w base v mv ∧ Rws w base mv ls ∧ mv.Pairwise ApartV
section
variable {w w' : World} {base B : Nat} {v v' u : Value} {ls : List (List Int)} {l : List Int}
theorem EndG.nil_ : EndG w base (.slice none 0 0) [] := ⟨[], Own.nil_, ⟨rfl, fun i v h => by simp at h⟩, List.Pairwise.nil⟩
theorem EndG.ownG (h : EndG w base v ls) : OwnG w base v ls := by obtain ⟨mv, h1, h2, _⟩ := h; exact ⟨mv, h1, h2⟩
theorem EndG.map (h : EndG w base v ls) (k1 : ∀ mv, Own eVal 22 1 w base v mv → Own eVal 22 1 w' base v mv) (k2 : ∀ u l, OwnI w base u l → OwnI w' base u l) : EndG w' base v ls := by
  obtain ⟨mv, h1, ⟨h2, h3⟩, h4⟩ := h
  exact ⟨mv, k1 _ h1, ⟨h2, fun i v hv => by obtain ⟨l, hl, ho⟩ := h3 i v hv; exact ⟨l, hl, k2 _ _ ho⟩⟩, h4⟩
theorem EndG.below (h : EndG w base v ls) (hb : Below B w w') (hB : w.heap.size ≤ B) : EndG w' base v ls := h.map (fun _ h => h.below hb hB) fun _ _ h => h.below hb hB
theorem EndG.upon (h : EndG w base v ls) (k : ∀ j, base ≤ j → w'.heap[j]? = w.heap[j]?) : EndG w' base v ls := h.map (fun _ h => h.upon k) fun _ _ h => h.upon k
theorem Own.row {α : Type} {enc : α → List Value} {e : TypeId} {sz : Nat} {l : List α} {row : Option Nat} (h : Own enc e sz w base v l) (hg : w.grownBy w' row) (hr : ∀ k, row = some k → k < base) : Own enc e sz w' base v l := by
  refine h.kept hg ?_
  cases hv : v.ownBlock with
  | none => exact .inl rfl
  | some j => exact .inr fun e => by have := hr j e.symm; have := h.lt j hv; omega
theorem EndG.grown {row : Option Nat} (h : EndG w base v ls) (hg : w.grownBy w' row) (hr : ∀ k, row = some k → k < base) : EndG w' base v ls := h.map (fun _ h => h.row hg hr) fun _ _ h => h.row hg hr
theorem EndG.mono {b : Nat} (h : EndG w base v ls) (hb : b ≤ base) : EndG w b v ls := by
  obtain ⟨mv, h1, ⟨h2, h3⟩, h4⟩ := h
  exact ⟨mv, h1.mono hb, ⟨h2, fun i v hv => by obtain ⟨l, hl, ho⟩ := h3 i v hv; exact ⟨l, hl, ho.mono hb⟩⟩, h4⟩
theorem EndG.len (h : EndG w base v ls) : ls.length ≤ maxLen := by
  obtain ⟨A, c, _, _, h3, h4⟩ := h.ownG.form
  omega
/-- a row with more behind it -/
theorem EndG.snoc {mv : List Value} {b' : Nat} (h1 : Own eVal 22 1 w base v mv) (h2 : Rws w base mv ls) (h4 : mv.Pairwise ApartV) (hu : OwnI w b' u l) (hb : base ≤ b') (hf : ∀ x ∈ mv, ∀ k, x.ownBlock = some k → k < b')
    (h3 : Own eVal 22 1 w' base v' (mv ++ [u])) (hg : w.grownBy w' v.ownBlock) : EndG w' base v' (ls ++ [l]) := by
  refine ⟨mv ++ [u], h3, ⟨by simp [h2.1], fun i x hx => ?_⟩, ?_⟩
  · rcases Nat.lt_or_ge i mv.length with hi | hi
    · rw [List.getElem?_append_left hi] at hx
      obtain ⟨l', hl', ho⟩ := h2.2 i x hx
      exact ⟨l', by rw [List.getElem?_append_left (by rw [← h2.1]; exact hi)]; exact hl', ho.kept hg (own_ne ho h1 (by decide))⟩
    · rw [List.getElem?_append_right hi] at hx
      have h0 : i - mv.length = 0 := by
        cases hd : i - mv.length with
        | zero => rfl
        | succ k => rw [hd] at hx; simp at hx
      rw [h0] at hx
      simp only [List.getElem?_cons_zero, Option.some.injEq] at hx
      subst hx
      refine ⟨l, ?_, (hu.kept hg (own_ne hu h1 (by decide))).mono hb⟩
      rw [List.getElem?_append_right (by rw [← h2.1]; exact hi), show i - ls.length = 0 by rw [← h2.1]; exact h0]
      rfl
  · rw [List.pairwise_append]
    refine ⟨h4, List.pairwise_singleton _ _, fun x hx y hy k hk e => ?_⟩
    rw [List.mem_singleton.1 hy] at e
    have := hf x hx k hk
    have := hu.lt k e
    omega
/-- a number of a list of the call's own -/
theorem Own.put1 {A : Option Addr} {n c : Nat} (h : OwnI w base (.slice A n c) l) {o : Nat} (ho : o < l.length) (x : Int) :
    ∃ g, A = some ⟨g, 0, none⟩ ∧ base ≤ g ∧ g < w.heap.size ∧ w.cell? ⟨g, o, none⟩ = some (.int .i64 (l.getD o 0)) ∧ w.frozen? ⟨g, o, none⟩ = false ∧ OwnI (w.setCell ⟨g, o, none⟩ (.int .i64 x)) base (.slice A n c) (l.set o x) := by
  have flat : ∀ x : List Int, x.flatMap eInt = x.map (Value.int .i64) := fun x => by
    induction x with
    | nil => rfl
    | cons a r ih => rw [List.flatMap_cons, ih]; rfl
  rcases h.2 with ⟨hv, h0⟩ | ⟨g, cap, cur, hv, hg, hh, hnc, hcm, hsz, htk⟩
  · omega
  · cases hv
    have hlo : o < c := by omega
    have hm : (l.flatMap eInt)[o]? = some (Value.int .i64 (l.getD o 0)) := by
      rw [flat, List.getElem?_map, List.getElem?_eq_getElem ho, List.getD_eq_getElem?_getD, List.getElem?_eq_getElem ho]; rfl
    have hco : cur[o]? = some (Value.int .i64 (l.getD o 0)) := by
      rw [← htk, List.getElem?_take_of_lt (by omega), Array.getElem?_toList] at hm
      exact hm
    refine ⟨g, rfl, hg, heap_lt hh, ?_, frz hh o, ?_⟩
    · unfold World.cell?; simp [hh, hco]
    · refine ⟨by simp [flat], .inr ⟨g, c, cur.setIfInBounds o (.int .i64 x), by simp, hg, set_blk hh, by simpa using hnc, hcm, by simpa using hsz, ?_⟩⟩
      rw [Array.toList_setIfInBounds, List.take_set, List.length_set, htk, flat, flat, List.map_set]
theorem grownBy_cell (w : World) (g o : Nat) (x : Value) : w.grownBy (w.setCell ⟨g, o, none⟩ x) (some g) := ⟨rfl, rfl, rfl, by simp, fun j _ hj => Below.heap_setCell _ ⟨g, o, none⟩ _ _ (fun e => hj (by rw [e]))⟩
/-- a row of the grid: its value, its cells; and the grid with another number in it -/
theorem EndG.at {f o : Nat} (h : EndG w base v ls) (hf : f < ls.length) (hr : o < (ls.getD f []).length) :
    ∃ b off c g cg, v = .slice (some ⟨b, off, none⟩) ls.length c ∧ w.cell? ⟨b, off + f, none⟩ = some (.slice (some ⟨g, 0, none⟩) (ls.getD f []).length cg) ∧ (ls.getD f []).length ≤ cg ∧ cg ≤ maxLen ∧
      base ≤ g ∧ g < w.heap.size ∧ w.cell? ⟨g, o, none⟩ = some (.int .i64 ((ls.getD f []).getD o 0)) ∧ w.frozen? ⟨g, o, none⟩ = false ∧
      ∀ x, EndG (w.setCell ⟨g, o, none⟩ (.int .i64 x)) base v (ls.set f ((ls.getD f []).set o x)) := by
  obtain ⟨mv, h1, ⟨h2, h3⟩, h4⟩ := h
  have hfm : f < mv.length := by omega
  obtain ⟨row, hrow, hor⟩ := h3 f mv[f] (List.getElem?_eq_getElem hfm)
  have hg : ls.getD f [] = row := by rw [List.getD_eq_getElem?_getD, hrow]; rfl
  rw [hg] at hr ⊢
  obtain ⟨A, c, hv, hs, hc, hm⟩ := h1.form lenVal
  obtain ⟨b, off, x, hA, hb, hx, hcell⟩ := Vals.get (hs) hfm
  have hxe : x = mv[f] := by rw [List.getElem?_eq_getElem hfm] at hx; exact (Option.some.inj hx).symm
  subst hxe
  obtain ⟨A', c', hv', hs', hc', hm'⟩ := hor.form lenInt
  obtain ⟨g, hA', hg1, hg2, hg3, hg4, hg5⟩ := Own.put1 (hv' ▸ hor) hr 0
  subst hA hA'
  refine ⟨b, off, c, g, c', by rw [hv, h2], by rw [hcell, hv'], hc', hm', hg1, hg2, hg3, hg4, fun y => ?_⟩
  have hgr := grownBy_cell w g o (.int .i64 y)
  have hvb : mv[f].ownBlock = some g := by rw [hv']; rcases hor.2 with ⟨e, _⟩ | ⟨g', cap, cur, e, _⟩ <;> rw [hv'] at e <;> cases e; rfl
  refine ⟨mv, h1.kept hgr ?_, ⟨by rw [List.length_set]; exact h2, fun i u hu => ?_⟩, h4⟩
  · rcases own_ne hor h1 (by decide) with e | e
    · rw [hvb] at e; cases e
    · exact .inr fun e' => e (hvb.trans e'.symm)
  · by_cases hif : f = i
    · subst hif
      have hue : u = mv[f] := by rw [List.getElem?_eq_getElem hfm] at hu; exact (Option.some.inj hu).symm
      subst hue
      refine ⟨row.set o y, by rw [List.getElem?_set_self hf], ?_⟩
      obtain ⟨g', e, _, _, _, _, k⟩ := Own.put1 (hv' ▸ hor) hr y
      cases e
      rw [hv']
      exact k
    · obtain ⟨l', hl', ho'⟩ := h3 i u hu
      refine ⟨l', by rw [List.getElem?_set_ne hif]; exact hl', ho'.kept hgr ?_⟩
      right
      intro e
      have him : i < mv.length := (List.getElem?_eq_some_iff.1 hu).1
      have hue : mv[i] = u := by rw [List.getElem?_eq_getElem him] at hu; exact Option.some.inj hu
      rcases Nat.lt_or_gt_of_ne hif with h | h
      · exact (List.pairwise_iff_getElem.1 h4 f i hfm him h) g hvb (by rw [hue]; exact e)
      · exact (List.pairwise_iff_getElem.1 h4 i f him hfm h) g (by rw [hue]; exact e) hvb
end
/-- a row of a grid that is read -/
theorem row_get {w : World} {A : Option Addr} {n : Nat} {gs : List (List Int)} {k : Nat} {l : List Int} (hk : gs[k]? = some l) : gs.getD k [] = l := by rw [List.getD_eq_getElem?_getD, hk]; rfl

theorem flockSum_any (A : Option Addr) (n c f : Nat) (gs : List (List Int)) (w : World) (hg : Grid w A n gs) (hf : f < n) (hn : n ≤ 1000) (hb : ∀ r ∈ gs, r.length ≤ 1000 ∧ ∀ x ∈ r, -100000 ≤ x ∧ x ≤ 100000) :
    Calls Try.prog 52 #[.slice A n c, .int .i64 f] w fun e w' => e = .returned (.int .i64 (gs.getD f []).sum) ∧ w = w' := by
  obtain ⟨b, off, B, l, c', rfl, hbw, hl, hc, hi, hlc, hcm⟩ := hg.get hf
  have hbl := hb l (List.mem_of_getElem? hl)
  have hto := total_any B l.length c' l w hi (by omega) hbl.2
  rw [row_get (w := w) (A := B) (n := 0) hl]
  obtain ⟨s, hs⟩ : ∃ s, s = l.sum := ⟨_, rfl⟩
  rw [← hs] at hto ⊢
  have h1 : (f : Int) < (n : Int) := by omega
  have h2 : (n : Int) ≤ 1000 := by omega
  have HX := Lib.hid (And.intro hl (And.intro hbl hs))
  clear hl hbl hs hg hb hi
  go_enter Try.func52, Try.ntmps52
  go_wp2_with (go_at_call 35; refine hto.mono ?_; rintro e w2 ⟨rfl, rfl⟩)
  go_ret
  exact ⟨rfl, rfl⟩

/-- what holder answers: nobody, or somebody who has sheep -/
def Holds (row : List Int) (o : Int) : Prop := (o = -1 ∧ ∀ x ∈ row, x ≤ 0) ∨ ∃ k : Nat, o = k ∧ k < row.length ∧ 0 < row.getD k 0
def HoldR (H N : Nat) (row : List Int) (w : World) (e : Ending) (w' : World) : Prop := ∃ o, e = .returned (.int .i64 o) ∧ Holds row o ∧ Dealt w w' H N
set_option maxHeartbeats 1000000 in
theorem holder_any (H N : Nat) (A : Option Addr) (n c f : Nat) (gs : List (List Int)) (w : World) (h : Hd w H N) (hN : N ≤ 4611686018427387904) (hg : Grid w A n gs) (hf : f < n) (hn : n ≤ 1000) (hb : ∀ r ∈ gs, r.length ≤ 1000 ∧ ∀ x ∈ r, -100000 ≤ x ∧ x ≤ 100000) :
    Calls Try.prog 51 #[.pointer (some ⟨H, 0, none⟩), .slice A n c, .int .i64 f] w (HoldR H (N + 1) (gs.getD f []) w) := by
  have hHl := h.lt
  obtain ⟨b, off, B, l, c', rfl, hbw, hl, hc, hi, hlc, hcm⟩ := hg.get hf
  have hbl := hb l (List.mem_of_getElem? hl)
  rw [row_get (w := w) (A := B) (n := 0) hl]
  obtain ⟨m, hm⟩ : ∃ m, m = l.length := ⟨_, rfl⟩
  rw [← hm] at hc hi
  have hm1 : m ≤ 1000 := by omega
  have h1 : (f : Int) < (n : Int) := by omega
  have h2 : (n : Int) ≤ 1000 := by omega
  have HX := Lib.hid (And.intro h (And.intro hc (And.intro hi (And.intro hm hbl.2))))
  clear hl hbl hg hb hi hm hc h
  go_enter Try.func51, Try.ntmps51
  go_wp2_with fail
  go_loopg [7, 8] m (fun g v7 v8 wr => ∃ k : Nat, k + g = m ∧ v8 = .int .i64 k ∧ (∃ os : List Int, OwnI wr w.heap.size v7 os ∧ os.length ≤ k ∧ (∀ o ∈ os, ∃ j : Nat, o = j ∧ j < m ∧ 0 < l.getD j 0) ∧ (os = [] → ∀ j, j < k → l.getD j 0 ≤ 0)) ∧ Below w.heap.size w wr)
  case atStart => exact ⟨0, by omega, rfl, ⟨[], Own.nil_, by simp, by simp, fun _ j hj => by omega⟩, Below.refl _ _⟩
  case round =>
    obtain ⟨k, hk, rfl, ⟨os, hown, hol, hos, hno⟩, hB⟩ := hrel
    have c0 := bcell HX.out.2.1 hB (Nat.le_refl _)
    have hBz := hB.size
    by_cases hlt : k < m
    · obtain ⟨b2, off2, x, rfl, hb2, hx, c1⟩ := Ints.get (HX.out.2.2.1.below hB (Nat.le_refl _)) hlt
      have hxg : l.getD k 0 = x := by rw [List.getD_eq_getElem?_getD, hx]; rfl
      have h3 : (k : Int) < (m : Int) := by omega
      have h4 : (m : Int) ≤ 1000 := by omega
      have HK := Lib.hid (And.intro hk (And.intro hown (And.intro hol (And.intro hos (And.intro hno (And.intro hB hxg))))))
      clear hk hown hol hos hno hB hx hxg
      by_cases hp : 0 < x
      · have hll : os.length < 4294967296 := by have := HK.out.2.2.1; omega
        go_wp2_with (at_builtin; refine wp_app okInt rfl (.tmp 26) (.tmp 28) rfl w.heap.size _ os (k : Int) _ rfl rfl rfl rfl (one_eInt _) HK.out.2.1 ?_ ?_ ?_ ?_; (omega); (omega); (omega); intro v' w4 hown4 hb4 _ hz4; have H4 := Lib.hid (And.intro hown4 hb4); clear hown4 hb4)
        go_roundg (gk - 1)
        case measure => have := HK.out.1; omega
        case rel =>
          refine ⟨k + 1, by have := HK.out.1; omega, by go_num, ⟨os ++ [(k : Int)], H4.out.1, by simpa using HK.out.2.2.1, fun o ho => ?_, fun e => by simp at e⟩, HK.out.2.2.2.2.2.1.trans H4.out.2⟩
          rcases List.mem_append.1 ho with ho | ho
          · exact HK.out.2.2.2.1 o ho
          · exact ⟨k, List.mem_singleton.1 ho, by omega, by rw [HK.out.2.2.2.2.2.2]; exact hp⟩
      · go_wp2_with fail
        go_roundg (gk - 1)
        case measure => have := HK.out.1; omega
        case rel =>
          refine ⟨k + 1, by have := HK.out.1; omega, by go_num, ⟨os, HK.out.2.1, by have := HK.out.2.2.1; omega, HK.out.2.2.2.1, fun e j hj => ?_⟩, HK.out.2.2.2.2.2.1⟩
          rcases Nat.lt_or_ge j k with h | h
          · exact HK.out.2.2.2.2.1 e j h
          · obtain rfl : j = k := by omega
            rw [HK.out.2.2.2.2.2.2]; omega
    · obtain rfl : k = m := by omega
      have hhd : Hd wr H N := HX.out.1.below hB hHl
      have hD : Dealt w wr H N := ⟨hhd, ⟨hB.os, hB.tape, hB.output, hB.size, fun j hj _ => hB.block j hj⟩⟩
      obtain ⟨A7, c7, rfl, hs7, hc7, hm7⟩ := hown.form lenInt
      have HK := Lib.hid (And.intro hown (And.intro hs7 (And.intro hos (And.intro hno (And.intro hD hol)))))
      obtain ⟨q, hq⟩ : ∃ q, q = os.length := ⟨_, rfl⟩
      rw [← hq] at hol ⊢
      have HQ := Lib.hid hq
      clear hown hs7 hos hno hD hq hc7
      by_cases h0 : q = 0
      · subst h0
        go_wp2_with fail
        go_ret
        have he : os = [] := List.eq_nil_of_length_eq_zero HQ.out.symm
        refine ⟨-1, rfl, .inl ⟨rfl, fun x hx => ?_⟩, HK.out.2.2.2.2.1.mono (by omega)⟩
        obtain ⟨j, hj⟩ := List.mem_iff_getElem?.1 hx
        have := HK.out.2.2.2.1 he j (by have := (List.getElem?_eq_some_iff.1 hj).1; have := HX.out.2.2.2.1; omega)
        rw [List.getD_eq_getElem?_getD, hj] at this
        exact this
      · have h5 : (q : Int) ≤ 1000 := by omega
        have h6 : ((q : Int) == 0) = false := beq_eq_false_iff_ne.2 (by omega)
        have hup := upto_any H N ((q : Int) - 1) wr hhd hN (by omega)
        have HU := Lib.hid hup
        clear hup hhd
        go_wp2_with fail
        refine HU.out.mono ?_
        rintro e w1 ⟨r, rfl, hr, hd⟩
        have hrq : r < q := by omega
        have hi7 : Ints w1 A7 q os := by
          have := HK.out.2.1
          rw [← HQ.out] at this
          refine (HK.out.1.row hd.gr (fun k e => by cases e; exact hHl)).form lenInt |>.elim fun A8 h => ?_
          obtain ⟨c8, e8, s8, _⟩ := h
          cases e8
          rw [← HQ.out] at s8
          exact s8
        obtain ⟨b3, off3, y, rfl, hb3, hy, c3⟩ := hi7.get hrq
        obtain ⟨j, hj1, hj2, hj3⟩ := HK.out.2.2.1 y (List.mem_of_getElem? hy)
        have h7 : (r : Int) < (q : Int) := by omega
        have HY := Lib.hid (And.intro hd (And.intro hj1 (And.intro hj2 hj3)))
        clear hd hj1 hj2 hj3 hi7 hr
        go_wp2_with fail
        go_ret
        exact ⟨y, rfl, .inr ⟨j, HY.out.2.1, by rw [← HX.out.2.2.2.1]; exact HY.out.2.2.1, HY.out.2.2.2⟩, HK.out.2.2.2.2.1.trans HY.out.1⟩
end Go.Proofs.Ytmennjmjakdkcaa
namespace Go.Proofs.Ytmennjmjakdkcaa
open Go.RowKit Go.MapKept
set_option linter.unusedVariables false
set_option linter.unusedSimpArgs false

def smV (s : Sm) : Value := .agg #[.int .i64 s.first, .int .i64 s.born, .int .i64 s.bought, .int .i64 s.sold, .int .i64 s.eaten]
abbrev smO (a b c d e : Int) : Obj := .cells #[.int .i64 a, .int .i64 b, .int .i64 c, .int .i64 d, .int .i64 e] 86 (0, 0)
/-- all parts of a sum are from 0 to B -/
def SmB (B : Int) (s : Sm) : Prop := (0 ≤ s.first ∧ s.first ≤ B) ∧ (0 ≤ s.born ∧ s.born ≤ B) ∧ (0 ≤ s.bought ∧ s.bought ≤ B) ∧ (0 ≤ s.sold ∧ s.sold ≤ B) ∧ (0 ≤ s.eaten ∧ s.eaten ≤ B)
theorem stepS_bd {B : Int} {o : Int} {s : Sm} {d : De} (h : SmB B s) (hm : 0 ≤ d.many ∧ d.many ≤ 300) : SmB (B + 300) (stepS o s d) := by
  obtain ⟨h1, h2, h3, h4, h5⟩ := h
  unfold stepS SmB
  split
  · exact ⟨by dsimp; omega, by dsimp; omega, by dsimp; omega, by dsimp; omega, by dsimp; omega⟩
  split
  · exact ⟨by dsimp; omega, by dsimp; omega, by dsimp; omega, by dsimp; omega, by dsimp; omega⟩
  split
  · exact ⟨by dsimp; omega, by dsimp; omega, by dsimp; omega, by dsimp; omega, by dsimp; omega⟩
  split
  · exact ⟨by dsimp; omega, by dsimp; omega, by dsimp; omega, by dsimp; omega, by dsimp; omega⟩
  · exact ⟨by omega, by omega, by omega, by omega, by omega⟩
theorem sumS_bd {hs : List (List Int)} {o : Nat} {ds : List De} (h0 : 0 ≤ howned (firstH hs) o ∧ howned (firstH hs) o ≤ 3000) (hm : ∀ d ∈ ds, 0 ≤ d.many ∧ d.many ≤ 300) : ∀ k, k ≤ ds.length → SmB (3000 + 300 * (k : Int)) (sumS hs o (ds.take k))
  | 0, _ => by simp [sumS, SmB]; omega
  | k + 1, hk => by
    have hg : ds[k]? = some ds[k] := List.getElem?_eq_getElem (by omega)
    rw [sumS_snoc hs o ds hg]
    have := stepS_bd (o := o) (sumS_bd h0 hm k (by omega)) (hm _ (List.getElem_mem (l := ds) (show k < ds.length by omega)))
    rw [show (3000 : Int) + 300 * ((k + 1 : Nat) : Int) = 3000 + 300 * (k : Int) + 300 by omega]
    exact this
set_option maxRecDepth 100000 in
set_option maxHeartbeats 2000000 in
theorem sum_any (w0 : World) (p : Nat) (b : Hb) (deed owner : Int) (w : World) (hW : Work w0 p b deed owner w) (o : Nat) (ho : o < 5) :
    Calls Try.prog 90 #[.pointer (some ⟨p, 0, none⟩), .int .i64 o] w fun e w' => e = .returned (smV (sumS b.hs o b.ds)) ∧ Below w.heap.size w w' := by
  obtain ⟨V, hV⟩ : ∃ V, V = w.alloc (Obj.cells #[.int .i64 0, .int .i64 0, .int .i64 0, .int .i64 0, .int .i64 0] 86) := ⟨_, rfl⟩
  obtain ⟨r, hr⟩ : ∃ r, r = w.heap.size := ⟨_, rfl⟩
  have b0 : V.heap[r]? = some (smO 0 0 0 0 0) := by rw [hV, hr]; exact alloc_at rfl
  have hBV : Below w.heap.size w V := by rw [hV]; exact bal0 w _
  have hWV := hW.below hBV (Nat.le_refl _)
  obtain ⟨now, hp⟩ := hWV.hp
  have hok := hWV.ok
  have hfi := first_any p b.t b.A b.l.length b.c b.l b.vk b.vd b.Ah b.ch b.hs deed owner now V (hWV.book hp) hWV.inn.h (by have := hok.f3; have := hok.hl; omega) (fun x hx => by have := hok.rl x hx; have := hok.n5; omega)
  have hfb : HBd 20 (firstH b.hs) := firstH_bd hok.rb
  have hob := owned_any (firstH b.hs) o
  have hpl := hW.lt
  have HV := Lib.hid (And.intro hBV (And.intro b0 (And.intro hWV (And.intro hr hok))))
  have HF := Lib.hid hfb
  go_enter Try.func90, Try.ntmps90
  go_upto_region 1 with (fail)
  rw [← hV, ← hr]
  clear hV hBV b0 hWV hp hok hfb
  rw [← hr] at hpl
  clear hr
  go_upto_region 2 with (first
    | (go_at_call 104; refine hfi.mono ?_; rintro e w1 ⟨rfl, hb1⟩)
    | (go_at_call 86; refine (hob w1 (HF.out.mono (by omega)) ho).mono ?_; rintro e w2 ⟨rfl, hb2⟩))
  have hb2' : Below V.heap.size V w2 := hb1.trans (hb2.mono hb1.size)
  clear hb1 hb2 hfi hob
  obtain ⟨f0, hf0⟩ : ∃ f, f = howned (firstH b.hs) o := ⟨_, rfl⟩
  have hf3 : 0 ≤ f0 ∧ f0 ≤ 3000 := by
    have h0 := HF.out.get (show 0 < 3 by decide) ho
    have h1 := HF.out.get (show 1 < 3 by decide) ho
    have h2 := HF.out.get (show 2 < 3 by decide) ho
    rw [hf0]; unfold howned; omega
  rw [← hf0]
  obtain ⟨s, hs⟩ : ∃ s, s = w2.heap.size := ⟨_, rfl⟩
  obtain ⟨U, hU⟩ : ∃ U, U = w2.alloc (Obj.cells #[.int .i64 f0, .int .i64 0, .int .i64 0, .int .i64 0, .int .i64 0] 86) := ⟨_, rfl⟩
  rw [← hU, ← hs]
  have hbU : Below V.heap.size V U := by rw [hU]; exact bal hb2' (Nat.le_refl _) _
  have bS : U.heap[s]? = some (smO f0 0 0 0 0) := by rw [hU, hs]; exact alloc_at rfl
  have hVs : V.heap.size ≤ s := by rw [hs]; exact hb2'.size
  have hWU := HV.out.2.2.1.below hbU (Nat.le_refl _)
  obtain ⟨now2, hp2⟩ := hWU.hp
  obtain ⟨a0, a1, a2, a3, a4, a5, a6, a7⟩ := blkB hp2
  obtain ⟨nd, hnd⟩ : ∃ nd, nd = b.ds.length := ⟨_, rfl⟩
  have hsb : ∀ k, k ≤ nd → SmB (3000 + 300 * (k : Int)) (sumS b.hs o (b.ds.take k)) := fun k hk => sumS_bd (by rw [← hf0]; exact hf3) (fun d hd => by have := (HV.out.2.2.2.2.dI d hd).m; omega) k (by omega)
  have hd6 : nd ≤ 6 := by rw [hnd]; exact HV.out.2.2.2.2.d6
  obtain ⟨Dx, hDx⟩ : ∃ D, D = b.Ad := ⟨_, rfl⟩
  obtain ⟨cx, hcx⟩ : ∃ D, D = b.cd := ⟨_, rfl⟩
  have hcd : nd ≤ cx ∧ cx ≤ maxLen := by rw [hnd, hcx]; exact ⟨hWU.inn.dc, hWU.inn.dm⟩
  unfold Hb.vd at a4
  rw [← hnd, ← hDx, ← hcx] at a4
  have hds : Deeds w0 Dx nd b.ds := by rw [hnd, hDx]; exact hWU.hin.d
  have HU := Lib.hid (And.intro hbU (And.intro bS (And.intro hVs (And.intro hWU (And.intro hnd (And.intro hsb (And.intro hf0 hds)))))))
  clear hbU bS hVs hWU hnd hsb hf0 hp2 hU hs hDx hcx hds hb2'
  go_wp2_with fail
  go_loopg [20] nd (fun g v20 wr => ∃ k : Nat, k + g = nd ∧ v20 = .int .i64 k ∧ (∃ x : Sm, x = sumS b.hs o (b.ds.take k) ∧ wr.heap[s]? = some (smO x.first x.born x.bought x.sold x.eaten)) ∧ (∀ j, j < U.heap.size → j ≠ s → wr.heap[j]? = U.heap[j]?) ∧ U.heap.size ≤ wr.heap.size ∧ wr.os = U.os ∧ wr.tape = U.tape ∧ wr.output = U.output)
  case atStart => exact ⟨0, by omega, rfl, ⟨⟨f0, 0, 0, 0, 0⟩, by rw [List.take_zero]; unfold sumS; rw [HU.out.2.2.2.2.2.2.1]; rfl, HU.out.2.1⟩, fun _ _ _ => rfl, Nat.le_refl _, rfl, rfl, rfl⟩
  case round =>
    obtain ⟨k, hk, rfl, ⟨x, hx, bs⟩, hfar, hsz, ho1, ho2, ho3⟩ := hrel
    by_cases hlt : k < nd
    · have hWr : Below w0.heap.size w0 wr := HU.out.2.2.2.1.bel.trans ⟨ho1, ho2, ho3, hsz, fun j hj => hfar j (by have := HU.out.2.2.2.1.bel.size; omega) (by have := HU.out.2.2.2.1.hz; have := HU.out.2.2.1; have := HV.out.1.size; have := HV.out.2.2.2.1; omega)⟩
      obtain ⟨bd, od, ⟨kind, flock, ow, other, tof, many, err, sg⟩, rfl, hbl, hd, e0, e1, e2, e3, e4, e5, e6, e7, e8, e9, e10, e11⟩ := Deeds.get (HU.out.2.2.2.2.2.2.2.below hWr (Nat.le_refl _)) hlt
      obtain ⟨x1, x2, x3, x4, x5⟩ := x
      obtain ⟨b1, b2, b3, b4, b5⟩ := HU.out.2.2.2.2.2.1 k (by omega)
      rw [← hx] at b1 b2 b3 b4 b5
      have hsn := sumS_snoc b.hs o b.ds hd
      rw [← hx] at hsn
      have hdm := (HV.out.2.2.2.2.dI _ (List.mem_of_getElem? hd)).m
      have hdk := (HV.out.2.2.2.2.dI _ (List.mem_of_getElem? hd)).k
      dsimp only at hdm hdk e0 e1 e2 e3 e4 e5 e6 e7 e8 e9 e10 e11 b1 b2 b3 b4 b5 bs
      have gs1 := frz bs 1
      have gs2 := frz bs 2
      have gs3 := frz bs 3
      have gs4 := frz bs 4
      have hslt := heap_lt bs
      obtain ⟨w0', w1', w2', w3', w4'⟩ := blk5c bs
      by_cases how : ow = (o : Int)
      · have eo : (ow == (o : Int)) = true := by simp [how]
        by_cases h1 : kind = 1
        · subst h1
          simp [stepS, how] at hsn
          have HN := Lib.hid (And.intro bs (And.intro hk (And.intro hfar (And.intro hsz (And.intro ho1 (And.intro ho2 (And.intro ho3 hsn)))))))
          clear bs hk hfar hsz ho1 ho2 ho3 hsn hx hd hdk hWr
          go_wp2_with fail
          go_roundg (gk - 1)
          case measure => have := HN.out.2.1; omega
          case rel => exact ⟨k + 1, by have := HN.out.2.1; omega, by go_num, ⟨_, HN.out.2.2.2.2.2.2.2.symm, hblk_alloc ((set_blk HN.out.1).trans (by simp)) _⟩, fun j hj hne => (Below.heap_alloc _ _ _ (by have := HN.out.2.2.2.1; simp; omega)).trans ((Below.heap_setCell _ ⟨s, _, none⟩ _ _ hne).trans (HN.out.2.2.1 j hj hne)), by have := HN.out.2.2.2.1; simp; omega, HN.out.2.2.2.2.1, HN.out.2.2.2.2.2.1, HN.out.2.2.2.2.2.2.1⟩
        by_cases h2 : kind = 2
        · subst h2
          simp [stepS, how] at hsn
          have HN := Lib.hid (And.intro bs (And.intro hk (And.intro hfar (And.intro hsz (And.intro ho1 (And.intro ho2 (And.intro ho3 hsn)))))))
          clear bs hk hfar hsz ho1 ho2 ho3 hsn hx hd hdk hWr
          go_wp2_with fail
          go_roundg (gk - 1)
          case measure => have := HN.out.2.1; omega
          case rel => exact ⟨k + 1, by have := HN.out.2.1; omega, by go_num, ⟨_, HN.out.2.2.2.2.2.2.2.symm, hblk_alloc ((set_blk HN.out.1).trans (by simp)) _⟩, fun j hj hne => (Below.heap_alloc _ _ _ (by have := HN.out.2.2.2.1; simp; omega)).trans ((Below.heap_setCell _ ⟨s, _, none⟩ _ _ hne).trans (HN.out.2.2.1 j hj hne)), by have := HN.out.2.2.2.1; simp; omega, HN.out.2.2.2.2.1, HN.out.2.2.2.2.2.1, HN.out.2.2.2.2.2.2.1⟩
        by_cases h3 : kind = 3
        · subst h3
          simp [stepS, how] at hsn
          have HN := Lib.hid (And.intro bs (And.intro hk (And.intro hfar (And.intro hsz (And.intro ho1 (And.intro ho2 (And.intro ho3 hsn)))))))
          clear bs hk hfar hsz ho1 ho2 ho3 hsn hx hd hdk hWr
          go_wp2_with fail
          go_roundg (gk - 1)
          case measure => have := HN.out.2.1; omega
          case rel => exact ⟨k + 1, by have := HN.out.2.1; omega, by go_num, ⟨_, HN.out.2.2.2.2.2.2.2.symm, hblk_alloc ((set_blk HN.out.1).trans (by simp)) _⟩, fun j hj hne => (Below.heap_alloc _ _ _ (by have := HN.out.2.2.2.1; simp; omega)).trans ((Below.heap_setCell _ ⟨s, _, none⟩ _ _ hne).trans (HN.out.2.2.1 j hj hne)), by have := HN.out.2.2.2.1; simp; omega, HN.out.2.2.2.2.1, HN.out.2.2.2.2.2.1, HN.out.2.2.2.2.2.2.1⟩
        have k1 : (kind == 1) = false := by simp [h1]
        have k2 : (kind == 2) = false := by simp [h2]
        have k3 : (kind == 3) = false := by simp [h3]
        simp [stepS, how, h1, h2, h3] at hsn
        have HN := Lib.hid (And.intro bs (And.intro hk (And.intro hfar (And.intro hsz (And.intro ho1 (And.intro ho2 (And.intro ho3 hsn)))))))
        clear bs hk hfar hsz ho1 ho2 ho3 hsn hx hd hdk hWr
        go_wp2_with fail
        go_roundg (gk - 1)
        case measure => have := HN.out.2.1; omega
        case rel => exact ⟨k + 1, by have := HN.out.2.1; omega, by go_num, ⟨_, HN.out.2.2.2.2.2.2.2.symm, hblk_alloc HN.out.1 _⟩, fun j hj hne => (Below.heap_alloc _ _ _ (by have := HN.out.2.2.2.1; omega)).trans (HN.out.2.2.1 j hj hne), by have := HN.out.2.2.2.1; simp; omega, HN.out.2.2.2.2.1, HN.out.2.2.2.2.2.1, HN.out.2.2.2.2.2.2.1⟩
      · have eo : (ow == (o : Int)) = false := by simp [how]
        by_cases h2 : kind = 2
        · subst h2
          by_cases hot : other = (o : Int)
          · have et : (other == (o : Int)) = true := by simp [hot]
            simp [stepS, how, hot] at hsn
            have HN := Lib.hid (And.intro bs (And.intro hk (And.intro hfar (And.intro hsz (And.intro ho1 (And.intro ho2 (And.intro ho3 hsn)))))))
            clear bs hk hfar hsz ho1 ho2 ho3 hsn hx hd hdk hWr
            go_wp2_with fail
            go_roundg (gk - 1)
            case measure => have := HN.out.2.1; omega
            case rel => exact ⟨k + 1, by have := HN.out.2.1; omega, by go_num, ⟨_, HN.out.2.2.2.2.2.2.2.symm, hblk_alloc ((set_blk HN.out.1).trans (by simp)) _⟩, fun j hj hne => (Below.heap_alloc _ _ _ (by have := HN.out.2.2.2.1; simp; omega)).trans ((Below.heap_setCell _ ⟨s, _, none⟩ _ _ hne).trans (HN.out.2.2.1 j hj hne)), by have := HN.out.2.2.2.1; simp; omega, HN.out.2.2.2.2.1, HN.out.2.2.2.2.2.1, HN.out.2.2.2.2.2.2.1⟩
          · have et : (other == (o : Int)) = false := by simp [hot]
            simp [stepS, how, hot] at hsn
            have HN := Lib.hid (And.intro bs (And.intro hk (And.intro hfar (And.intro hsz (And.intro ho1 (And.intro ho2 (And.intro ho3 hsn)))))))
            clear bs hk hfar hsz ho1 ho2 ho3 hsn hx hd hdk hWr
            go_wp2_with fail
            go_roundg (gk - 1)
            case measure => have := HN.out.2.1; omega
            case rel => exact ⟨k + 1, by have := HN.out.2.1; omega, by go_num, ⟨_, HN.out.2.2.2.2.2.2.2.symm, hblk_alloc HN.out.1 _⟩, fun j hj hne => (Below.heap_alloc _ _ _ (by have := HN.out.2.2.2.1; omega)).trans (HN.out.2.2.1 j hj hne), by have := HN.out.2.2.2.1; simp; omega, HN.out.2.2.2.2.1, HN.out.2.2.2.2.2.1, HN.out.2.2.2.2.2.2.1⟩
        have k2 : (kind == 2) = false := by simp [h2]
        simp [stepS, how, h2] at hsn
        have HN := Lib.hid (And.intro bs (And.intro hk (And.intro hfar (And.intro hsz (And.intro ho1 (And.intro ho2 (And.intro ho3 hsn)))))))
        clear bs hk hfar hsz ho1 ho2 ho3 hsn hx hd hdk hWr
        go_wp2_with fail
        go_roundg (gk - 1)
        case measure => have := HN.out.2.1; omega
        case rel => exact ⟨k + 1, by have := HN.out.2.1; omega, by go_num, ⟨_, HN.out.2.2.2.2.2.2.2.symm, hblk_alloc HN.out.1 _⟩, fun j hj hne => (Below.heap_alloc _ _ _ (by have := HN.out.2.2.2.1; omega)).trans (HN.out.2.2.1 j hj hne), by have := HN.out.2.2.2.1; simp; omega, HN.out.2.2.2.2.1, HN.out.2.2.2.2.2.1, HN.out.2.2.2.2.2.2.1⟩
    · obtain rfl : k = nd := by omega
      obtain ⟨w0', w1', w2', w3', w4'⟩ := blk5c bs
      have hr0 : wr.heap[r]? = some (smO 0 0 0 0 0) := (hfar r (by have := HU.out.1.size; have := heap_lt HV.out.2.1; omega) (by have := HU.out.2.2.1; have := heap_lt HV.out.2.1; omega)).trans (bheap HV.out.2.1 HU.out.1 (Nat.le_refl _))
      obtain ⟨z0, z1, z2, z3, z4⟩ := blk5c hr0
      obtain ⟨f0', f1, f2, f3, f4⟩ := And.intro (frz hr0 0) (And.intro (frz hr0 1) (And.intro (frz hr0 2) (And.intro (frz hr0 3) (frz hr0 4))))
      have hlr := heap_lt hr0
      have hxx : x = sumS b.hs o b.ds := by rw [hx, HU.out.2.2.2.2.1, List.take_length]
      obtain ⟨x1, x2, x3, x4, x5⟩ := x
      dsimp only at w0' w1' w2' w3' w4'
      have HN := Lib.hid (And.intro hr0 (And.intro hxx (And.intro hfar (And.intro hsz (And.intro ho1 (And.intro ho2 ho3))))))
      clear hr0 hxx hfar hsz ho1 ho2 ho3 hx bs hk
      go_wp2_with fail
      obtain ⟨Z, hZ⟩ : ∃ Z, Z = (((((wr.setCell ⟨r, 0, none⟩ (.int .i64 x1)).setCell ⟨r, 1, none⟩ (.int .i64 x2)).setCell ⟨r, 2, none⟩ (.int .i64 x3)).setCell ⟨r, 3, none⟩ (.int .i64 x4)).setCell ⟨r, 4, none⟩ (.int .i64 x5)) := ⟨_, rfl⟩
      rw [← hZ]
      have bZ : Z.heap[r]? = some (smO x1 x2 x3 x4 x5) := by rw [hZ]; exact (set_blk (set_blk (set_blk (set_blk (set_blk HN.out.1))))).trans (by simp)
      have hgr : wr.grownBy Z (some r) := by rw [hZ]; exact ((((grownBy_cell _ r _ _).trans (grownBy_cell _ r _ _)).trans (grownBy_cell _ r _ _)).trans (grownBy_cell _ r _ _)).trans (grownBy_cell _ r _ _)
      obtain ⟨q0, q1, q2, q3, q4⟩ := blk5c bZ
      clear hZ
      refine bodyPost_ret (v := .agg #[.int .i64 x1, .int .i64 x2, .int .i64 x3, .int .i64 x4, .int .i64 x5]) (by simp [results, Try.f90, go_sem, q0, q1, q2, q3, q4]) rfl ⟨by rw [← HN.out.2.1]; rfl, ?_⟩
      have hn := HN.out
      have hBU : Below w.heap.size w U := HV.out.1.trans (HU.out.1.mono HV.out.1.size)
      refine hBU.trans ⟨hgr.os.trans hn.2.2.2.2.1, hgr.tape.trans hn.2.2.2.2.2.1, hgr.output.trans hn.2.2.2.2.2.2, Nat.le_trans hn.2.2.2.1 hgr.size, fun j hj => ?_⟩
      have h1 := HV.out.2.2.2.1
      have h2 := HU.out.2.2.1
      have h3 := HV.out.1.size
      have h4 := hBU.size
      exact (hgr.block j (by omega) (fun e => by cases e; omega)).trans (hn.2.2.1 j (by omega) (by omega))
end Go.Proofs.Ytmennjmjakdkcaa
namespace Go.Proofs.Ytmennjmjakdkcaa
open Go.RowKit Go.MapKept
set_option linter.unusedVariables false
set_option linter.unusedSimpArgs false

def sumE (b : Hb) (o : Int) : Int := if b.chk ≠ 0 then b.chk else if ownB b.l.length o = false then 3 else 0
def sumR (b : Hb) (o : Int) : Sm := if sumE b o = 0 then sumS b.hs o.toNat b.ds else ⟨0, 0, 0, 0, 0⟩
def SumR (b : Hb) (o : Int) (w : World) (e : Ending) (w' : World) : Prop := e = .returned (.tuple #[smV (sumR b o), .int .i64 (sumE b o)]) ∧ Below w.heap.size w w'
theorem sum_end {b : Hb} {o e : Int} {s : Sm} {w Z w' : World} {r : Nat} (he : sumE b o = e) (hs : sumR b o = s) (hb : Below w.heap.size w w') : SumR b o w (.returned (.tuple #[.agg #[.int .i64 s.first, .int .i64 s.born, .int .i64 s.bought, .int .i64 s.sold, .int .i64 s.eaten], .int .i64 e])) w' := by
  subst he hs; exact ⟨rfl, hb⟩
set_option maxRecDepth 100000 in
set_option maxHeartbeats 2000000 in
theorem Sum_any (b : Hb) (o : Int) (w : World) (hin : HbIn w b) : Calls Try.prog 43 #[b.v, .int .i64 o] w (SumR b o w) := by
  obtain ⟨g, hg⟩ : ∃ g, g = w.heap.size := ⟨_, rfl⟩
  obtain ⟨V, hV⟩ : ∃ V, V = (w.alloc b.obj).alloc (Obj.cells #[.int .i64 0, .int .i64 0, .int .i64 0, .int .i64 0, .int .i64 0] 86) := ⟨_, rfl⟩
  have b0 : V.heap[g]? = some b.obj := by rw [hV, hg]; exact hblk_alloc (alloc_at rfl) _
  have b1 : V.heap[g + 1]? = some (smO 0 0 0 0 0) := by rw [hV, hg]; exact alloc_at (by simp)
  have hBV : Below w.heap.size w V := by rw [hV]; exact bal (bal0 w _) (Nat.le_refl _) _
  have hiV := hin.below hBV (Nat.le_refl _)
  obtain ⟨c0, c1, c2, c3, c4⟩ := blk5c b0
  have hak := asked_any b V hiV
  unfold Hb.v at hak
  have HV := Lib.hid (And.intro hBV (And.intro b0 (And.intro b1 hg)))
  unfold Hb.v
  go_enter Try.func43, Try.ntmps43
  go_upto_region 1 with (fail)
  rw [← hV, ← hg]
  clear hV hg hin hBV hiV b0 b1
  obtain ⟨R, hR⟩ : ∃ R, R = AskedR b b.chk V := ⟨_, rfl⟩
  rw [← hR] at hak
  have HR := Lib.hid hR
  clear hR
  go_upto_region 2 with (go_at_call 55; refine hak.mono ?_; rintro e w2 hRR; rw [HR.out] at hRR; unfold AskedR at hRR; rcases hRR with ⟨h0, rfl, hb2⟩ | ⟨h0, p, rfl, hWk, hb2⟩)
  · have xf : (b.chk == 0) = false := by simp [h0]
    have xg : (b.chk != 0) = true := by simp [h0]
    have y1 := bheap HV.out.2.2.1 hb2 (Nat.le_refl _)
    obtain ⟨z0, z1, z2, z3, z4⟩ := blk5c y1
    obtain ⟨f0, f1, f2, f3, f4⟩ := And.intro (frz y1 0) (And.intro (frz y1 1) (And.intro (frz y1 2) (And.intro (frz y1 3) (frz y1 4))))
    have hl1 := heap_lt y1
    have H2 := Lib.hid (And.intro h0 (And.intro hb2 y1))
    clear h0 hb2 y1 hak c0 c1 c2 c3 c4
    go_wp2_with fail
    obtain ⟨Z, hZ⟩ : ∃ Z, Z = (((((w2.setCell ⟨g + 1, 0, none⟩ (.int .i64 0)).setCell ⟨g + 1, 1, none⟩ (.int .i64 0)).setCell ⟨g + 1, 2, none⟩ (.int .i64 0)).setCell ⟨g + 1, 3, none⟩ (.int .i64 0)).setCell ⟨g + 1, 4, none⟩ (.int .i64 0)) := ⟨_, rfl⟩
    rw [← hZ]
    have bZ : Z.heap[g + 1]? = some (smO 0 0 0 0 0) := by rw [hZ]; exact (set_blk (set_blk (set_blk (set_blk (set_blk H2.out.2.2))))).trans (by simp)
    have hgr : w2.grownBy Z (some (g + 1)) := by rw [hZ]; exact ((((grownBy_cell _ _ _ _).trans (grownBy_cell _ _ _ _)).trans (grownBy_cell _ _ _ _)).trans (grownBy_cell _ _ _ _)).trans (grownBy_cell _ _ _ _)
    obtain ⟨q0, q1, q2, q3, q4⟩ := blk5c bZ
    clear hZ
    refine bodyPost_ret (v := .tuple #[.agg #[.int .i64 0, .int .i64 0, .int .i64 0, .int .i64 0, .int .i64 0], .int .i64 b.chk]) (by simp [results, Try.f43, go_sem, q0, q1, q2, q3, q4]) rfl ?_
    have he : sumE b o = b.chk := by unfold sumE; rw [if_pos H2.out.1]
    refine sum_end (s := ⟨0, 0, 0, 0, 0⟩) (Z := w) (r := 0) he (by unfold sumR; rw [he, if_neg H2.out.1]) ((HV.out.1.trans (H2.out.2.1.mono HV.out.1.size)).grown hgr ?_ (fun k e => by cases e; rw [← HV.out.2.2.2]; omega))
    have h1 := HV.out.1.size; have h2 := H2.out.2.1.size; omega
  have y0 := bheap HV.out.2.1 hb2 (Nat.le_refl _)
  have y1 := bheap HV.out.2.2.1 hb2 (Nat.le_refl _)
  clear c0 c1 c2 c3 c4 hak
  obtain ⟨z0, z1, z2, z3, z4⟩ := blk5c y1
  obtain ⟨f0, f1, f2, f3, f4⟩ := And.intro (frz y1 0) (And.intro (frz y1 1) (And.intro (frz y1 2) (And.intro (frz y1 3) (frz y1 4))))
  have hl1 := heap_lt y1
  obtain ⟨now, hp⟩ := hWk.hp
  obtain ⟨T, hT⟩ : ∃ T, T = w2.alloc (Obj.cells #[Value.int .i64 o] 3) := ⟨_, rfl⟩
  have hbT : Below w2.heap.size w2 T := by rw [hT]; exact bal0 w2 _
  have hio := isOwner_any p .nilFunc b.t b.A b.l.length b.c b.vk b.vh b.vd (-1) 0 now (some ⟨w2.heap.size, 0, none⟩) 1 1 [o] T (bheap hp hbT (Nat.le_refl _)) (by rw [hT]; exact ints1 w2 3 o) (Nat.le_trans hWk.inn.mc hWk.inn.mm) (by unfold maxLen; omega)
  simp only [List.all_cons, List.all_nil, Bool.and_true] at hio
  obtain ⟨ob, hob⟩ : ∃ ob, ob = ownB b.l.length o := ⟨_, rfl⟩
  rw [← hob] at hio
  have y1T := bheap y1 hbT (Nat.le_refl _)
  have hWT := hWk.below hbT (Nat.le_refl _)
  have H2 := Lib.hid (And.intro h0 (And.intro (hb2.trans (hbT.mono hb2.size)) (And.intro y1T (And.intro hWT hob))))
  have hpl := hWk.lt
  have hzz := hb2.size
  clear h0 hb2 y0 y1 hp hWk hob hWT
  obtain ⟨z0', z1', z2', z3', z4'⟩ := blk5c y1T
  obtain ⟨f0', f1', f2', f3', f4'⟩ := And.intro (frz y1T 0) (And.intro (frz y1T 1) (And.intro (frz y1T 2) (And.intro (frz y1T 3) (frz y1T 4))))
  have hl1' := heap_lt y1T
  have HT := Lib.hid hT
  clear hbT y1T hT
  go_upto_if 21 with (go_at_call 89; rw [← HT.out]; refine hio.mono ?_; rintro e w3 ⟨rfl, rfl⟩)
  cases ob with
  | false =>
    clear z0 z1 z2 z3 z4 f0 f1 f2 f3 f4 hl1 hio
    go_wp2_with fail
    obtain ⟨Z, hZ⟩ : ∃ Z, Z = (((((T.setCell ⟨g + 1, 0, none⟩ (.int .i64 0)).setCell ⟨g + 1, 1, none⟩ (.int .i64 0)).setCell ⟨g + 1, 2, none⟩ (.int .i64 0)).setCell ⟨g + 1, 3, none⟩ (.int .i64 0)).setCell ⟨g + 1, 4, none⟩ (.int .i64 0)) := ⟨_, rfl⟩
    rw [← hZ]
    have bZ : Z.heap[g + 1]? = some (smO 0 0 0 0 0) := by rw [hZ]; exact (set_blk (set_blk (set_blk (set_blk (set_blk H2.out.2.2.1))))).trans (by simp)
    have hgr : T.grownBy Z (some (g + 1)) := by rw [hZ]; exact ((((grownBy_cell _ _ _ _).trans (grownBy_cell _ _ _ _)).trans (grownBy_cell _ _ _ _)).trans (grownBy_cell _ _ _ _)).trans (grownBy_cell _ _ _ _)
    obtain ⟨q0, q1, q2, q3, q4⟩ := blk5c bZ
    clear hZ
    refine bodyPost_ret (v := .tuple #[.agg #[.int .i64 0, .int .i64 0, .int .i64 0, .int .i64 0, .int .i64 0], .int .i64 3]) (by simp [results, Try.f43, go_sem, q0, q1, q2, q3, q4]) rfl ?_
    have he : sumE b o = 3 := by unfold sumE; rw [if_neg (by rw [H2.out.1]; simp), if_pos H2.out.2.2.2.2.symm]
    refine sum_end (s := ⟨0, 0, 0, 0, 0⟩) (Z := w) (r := 0) he (by unfold sumR; rw [he, if_neg (by decide)]) ((HV.out.1.trans (H2.out.2.1.mono HV.out.1.size)).grown hgr ?_ (fun k e => by cases e; rw [← HV.out.2.2.2]; omega))
    have h1 := HV.out.1.size; have h2 := H2.out.2.1.size; omega
  | true =>
    obtain ⟨ho0, ho1⟩ := ownB_iff.1 H2.out.2.2.2.2.symm
    obtain ⟨k, rfl⟩ := Int.eq_ofNat_of_zero_le ho0
    have hok := H2.out.2.2.2.1.ok
    have hk5 : k < 5 := by have := hok.n5; omega
    have hsm := sum_any V p b (-1) 0 T H2.out.2.2.2.1 k hk5
    clear z0 z1 z2 z3 z4 f0 f1 f2 f3 f4 hl1 hio z0' z1' z2' z3' z4' f0' f1' f2' f3' f4' hl1' ho0 ho1 hok
    obtain ⟨sv, hsv⟩ : ∃ sv, sv = sumS b.hs k b.ds := ⟨_, rfl⟩
    rw [← hsv] at hsm
    have HS := Lib.hid hsv
    clear hsv
    go_wp2_with (go_at_call 90; refine hsm.mono ?_; rintro e w3 ⟨rfl, hb3⟩; unfold smV; have y1 := bheap H2.out.2.2.1 hb3 (Nat.le_refl _); obtain ⟨z0, z1, z2, z3, z4⟩ := blk5c y1; obtain ⟨f0, f1, f2, f3, f4⟩ := And.intro (frz y1 0) (And.intro (frz y1 1) (And.intro (frz y1 2) (And.intro (frz y1 3) (frz y1 4)))); have hl1 := heap_lt y1; have H3 := Lib.hid (And.intro y1 hb3); clear y1 hb3)
    obtain ⟨Z, hZ⟩ : ∃ Z, Z = (((((w3.setCell ⟨g + 1, 0, none⟩ (.int .i64 sv.first)).setCell ⟨g + 1, 1, none⟩ (.int .i64 sv.born)).setCell ⟨g + 1, 2, none⟩ (.int .i64 sv.bought)).setCell ⟨g + 1, 3, none⟩ (.int .i64 sv.sold)).setCell ⟨g + 1, 4, none⟩ (.int .i64 sv.eaten)) := ⟨_, rfl⟩
    rw [← hZ]
    have bZ : Z.heap[g + 1]? = some (smO sv.first sv.born sv.bought sv.sold sv.eaten) := by rw [hZ]; exact (set_blk (set_blk (set_blk (set_blk (set_blk H3.out.1))))).trans (by simp)
    have hgr : w3.grownBy Z (some (g + 1)) := by rw [hZ]; exact ((((grownBy_cell _ _ _ _).trans (grownBy_cell _ _ _ _)).trans (grownBy_cell _ _ _ _)).trans (grownBy_cell _ _ _ _)).trans (grownBy_cell _ _ _ _)
    obtain ⟨q0, q1, q2, q3, q4⟩ := blk5c bZ
    clear hZ
    refine bodyPost_ret (v := .tuple #[.agg #[.int .i64 sv.first, .int .i64 sv.born, .int .i64 sv.bought, .int .i64 sv.sold, .int .i64 sv.eaten], .int .i64 0]) (by simp [results, Try.f43, go_sem, q0, q1, q2, q3, q4]) rfl ?_
    have he : sumE b k = 0 := by unfold sumE; rw [if_neg (by rw [H2.out.1]; simp), if_neg (by rw [← H2.out.2.2.2.2]; simp)]
    have hbb : Below w.heap.size w w3 := (HV.out.1.trans (H2.out.2.1.mono HV.out.1.size)).trans (H3.out.2.mono (Nat.le_trans HV.out.1.size H2.out.2.1.size))
    refine sum_end (s := sv) (Z := w) (r := 0) he (by unfold sumR; rw [he, if_pos rfl, HS.out]; rfl) (hbb.grown hgr ?_ (fun k e => by cases e; rw [← HV.out.2.2.2]; omega))
    exact hbb.size
end Go.Proofs.Ytmennjmjakdkcaa
