/- The search of strays.home: what it finds, and what it keeps. -/
import Derived.Test.YtahlicinchehhaaHome0
namespace Go.Proofs.Ytahlicinchehhaa
open Go.RowKit
set_option linter.unusedVariables false
set_option linter.unusedSimpArgs false

/-- one search: where its blocks begin, and what it goes by -/
structure Srch where
  b : Nat
  L : Nat
  may : List (List Int)
  mis : List Int
  left : Nat
  lf : Nat → Int → Bool
/-- the first way to give the last n strays -/
def Srch.rest (S : Srch) : Nat → Cn → Option (List Int)
  | 0, _ => some []
  | n + 1, c =>
    if S.left.testBit (S.L - (n + 1)) then (S.rest n c.skip).map (fun r => (-1 : Int) :: r)
    else (S.may.getD (S.L - (n + 1)) []).findSome? fun o => if c.at o.toNat < S.mis.getD o.toNat 0 && S.lf (S.L - (n + 1)) o then (S.rest n (c.up o.toNat)).map (fun r => o :: r) else none
def Srch.giveCaps (S : Srch) : Array Value := #[.pointer (some ⟨S.b + 3, 0, none⟩), .pointer (some ⟨S.b + 7, 0, none⟩), .pointer (some ⟨S.b + 8, 0, none⟩)]
def Srch.growCaps (S : Srch) : Array Value := #[.pointer (some ⟨S.b + 3, 0, none⟩), .pointer (some ⟨S.b, 0, none⟩), .pointer (some ⟨S.b + 5, 0, none⟩), .pointer (some ⟨S.b + 1, 0, none⟩), .pointer (some ⟨S.b + 7, 0, none⟩), .pointer (some ⟨S.b + 8, 0, none⟩), .pointer (some ⟨S.b + 2, 0, none⟩), .pointer (some ⟨S.b + 9, 0, none⟩)]
theorem far_put {W : World} {k g i : Nat} {o : Obj} {x : Value} (h : W.heap[k]? = some o) (hne : k ≠ g) : (W.setCell ⟨g, i, none⟩ x).heap[k]? = some o := (Below.heap_setCell W ⟨g, i, none⟩ x k hne).trans h
theorem owns_at {w w' : World} {b : Nat} {e : TypeId} {sz g cap n : Nat} {xs : List Value} (h : w.ownsRow b e sz (.slice (some ⟨g, 0, none⟩) n cap) n xs) (k : w'.heap[g]? = w.heap[g]?) :
    w'.ownsRow b e sz (.slice (some ⟨g, 0, none⟩) n cap) n xs := by
  refine ⟨h.1, ?_⟩
  rcases h.2 with ⟨hv, _⟩ | ⟨g', cap', cur, hv, h1, h2, h3⟩
  · cases hv
  · cases hv
    exact .inr ⟨_, _, _, rfl, h1, k.trans h2, h3⟩
/-- what stays as it is -/
structure Env (S : Srch) (xs : Array Value) (lt : Value) (w : World) : Prop where
  x : w.heap[S.b]? = some (.cells xs 116 (0, 0))
  l : w.heap[S.b + 1]? = some (.cells #[.int .u64 S.left] 86 (0, 0))
  t : w.heap[S.b + 2]? = some (.cells #[lt] 85 (0, 0))
  m : w.heap[S.b + 5]? = some (.cells #[.map (some (S.b + 4))] 133 (0, 0))
  v : w.heap[S.b + 8]? = some (.cells #[.func (.func 100) #[] S.growCaps] 30 (0, 0))
  g : w.heap[S.b + 9]? = some (.cells #[.func (.func 98) #[] S.giveCaps] 85 (0, 0))
/-- what turns -/
structure St (S : Srch) (w : World) (c : Cn) (o : List Int) (K : List Cn) : Prop where
  now : Now w (S.b + 3) c
  out : w.heap[S.b + 7]? = some (.cells #[.slice (some ⟨S.b + 6, 0, none⟩) o.length S.L] 29 (0, 0))
  buf : w.ownsRow S.b 3 1 (.slice (some ⟨S.b + 6, 0, none⟩) o.length S.L) o.length (o.flatMap eInt)
  met : MetAt w (S.b + 4) K
  len : c.s = o.length
  ok : ∀ i, i < 5 → 0 ≤ c.at i ∧ c.at i ≤ c.s
/-- only these four blocks of those that were may have changed -/
structure Fr (b : Nat) (w w' : World) : Prop where
  below : Below b w w'
  rest : ∀ j, j < w.heap.size → j ≠ b + 3 → j ≠ b + 4 → j ≠ b + 6 → j ≠ b + 7 → w'.heap[j]? = w.heap[j]?
section
variable {b : Nat} {w w' w'' : World}
theorem Fr.refl (b : Nat) (w : World) : Fr b w w := ⟨Below.refl _ _, fun _ _ _ _ _ _ => rfl⟩
theorem Fr.trans (h : Fr b w w') (k : Fr b w' w'') : Fr b w w'' :=
  ⟨h.below.trans k.below, fun j hj a c d e => (k.rest j (Nat.lt_of_lt_of_le hj h.below.size) a c d e).trans (h.rest j hj a c d e)⟩
theorem Fr.of_below {B : Nat} (h : Below B w w') (hB : w.heap.size ≤ B) (hb : b ≤ w.heap.size) : Fr b w w' := ⟨h.mono (Nat.le_trans hb hB), fun j hj _ _ _ _ => h.block j (Nat.lt_of_lt_of_le hj hB)⟩
theorem Fr.alloc (h : Fr b w w') (hb : b ≤ w.heap.size) (o : Obj) : Fr b w (w'.alloc o) :=
  h.trans (Fr.of_below ((Below.refl w'.heap.size w').alloc (Nat.le_refl _) o) (Nat.le_refl _) (Nat.le_trans hb h.below.size))
theorem Fr.set (h : Fr b w w') (hb : b ≤ w.heap.size) (a : Addr) (v : Value) (ha : a.block = b + 3 ∨ a.block = b + 7 ∨ w.heap.size ≤ a.block) : Fr b w (w'.setCell a v) :=
  ⟨h.below.setCell (by omega) v, fun j hj h3 h4 h6 h7 => (Below.heap_setCell w' a v j (by omega)).trans (h.rest j hj h3 h4 h6 h7)⟩
theorem Fr.drew (h : Fr b w w') (k : Nat) : Fr b w (w'.drewN k) := ⟨below_drewN h.below k, h.rest⟩
theorem Fr.grown (h : Fr b w w') (hb : b + 6 < w.heap.size) (hg : w'.grownBy w'' (some (b + 6))) : Fr b w w'' :=
  h.trans ⟨(Below.refl _ _).grown hg (by have := h.below.size; omega) (fun k hk => by cases hk; omega), fun j hj _ _ h6 _ => hg.block j hj (fun e => h6 (by cases e; rfl))⟩
theorem Fr.put (h : Fr b w w') (hb : b ≤ w.heap.size) (ob : Obj) (hM : b + 4 < w'.heap.size) : Fr b w { w' with heap := w'.heap.setIfInBounds (b + 4) ob } :=
  h.trans ⟨⟨rfl, rfl, rfl, by simp, fun k hk => by show (w'.heap.setIfInBounds (b + 4) ob)[k]? = _; rw [Array.getElem?_setIfInBounds_ne (by omega)]⟩, fun j hj _ h4 _ _ => by simp [Ne.symm h4]⟩
end
theorem Env.fr {S : Srch} {xs : Array Value} {lt : Value} {w w' : World} (h : Env S xs lt w) (k : Fr S.b w w') : Env S xs lt w' := by
  obtain ⟨h0, h1, h2, h3, h4, h5⟩ := h
  exact ⟨(k.rest _ (heap_lt h0) (by omega) (by omega) (by omega) (by omega)).trans h0, (k.rest _ (heap_lt h1) (by omega) (by omega) (by omega) (by omega)).trans h1, (k.rest _ (heap_lt h2) (by omega) (by omega) (by omega) (by omega)).trans h2,
    (k.rest _ (heap_lt h3) (by omega) (by omega) (by omega) (by omega)).trans h3, (k.rest _ (heap_lt h4) (by omega) (by omega) (by omega) (by omega)).trans h4, (k.rest _ (heap_lt h5) (by omega) (by omega) (by omega) (by omega)).trans h5⟩
/-- no state in K can be completed -/
def Srch.sound (S : Srch) (K : List Cn) : Prop := ∀ k, k ∈ K → ∀ n, n ≤ S.L → k.s = (S.L - n : Nat) → S.rest n k = none
/-- what grow does with n strays to give -/
def Srch.Grows (S : Srch) (xs : Array Value) (lt : Value) (w0 : World) (n : Nat) : Prop :=
  ∀ (w : World) (c : Cn) (o : List Int) (K : List Cn), Below S.b w0 w → Env S xs lt w → St S w c o K → S.sound K → n ≤ S.L → o.length = S.L - n →
    Calls Try.prog 100 S.growCaps w fun e w' => e = .returned (.bool (S.rest n c).isSome) ∧ Fr S.b w w' ∧
      ∃ c' o' K', St S w' c' o' K' ∧ S.sound K' ∧ (∀ r, S.rest n c = some r → o' = o ++ r) ∧ (S.rest n c = none → c' = c ∧ o' = o)
theorem Cn.up_s (c : Cn) {i : Nat} (h : i < 5) : (c.up i).s = c.s + 1 := by
  obtain rfl | rfl | rfl | rfl | rfl : i = 0 ∨ i = 1 ∨ i = 2 ∨ i = 3 ∨ i = 4 := by omega
  all_goals rfl
theorem Cn.up_at (c : Cn) {i j : Nat} (h : i < 5) (hj : j < 5) : (c.up i).at j = if j = i then c.at j + 1 else c.at j := by
  obtain rfl | rfl | rfl | rfl | rfl : i = 0 ∨ i = 1 ∨ i = 2 ∨ i = 3 ∨ i = 4 := by omega
  all_goals
    obtain rfl | rfl | rfl | rfl | rfl : j = 0 ∨ j = 1 ∨ j = 2 ∨ j = 3 ∨ j = 4 := by omega
    all_goals rfl
theorem Cn.up_down (c : Cn) {i : Nat} (h : i < 5) : (((c.up i).add (-1) i).add (-1) 5) = c := by
  obtain rfl | rfl | rfl | rfl | rfl : i = 0 ∨ i = 1 ∨ i = 2 ∨ i = 3 ∨ i = 4 := by omega
  all_goals simp [Cn.up, Cn.add, Int.add_neg_cancel_right]
theorem Cn.skip_s (c : Cn) : c.skip.s = c.s + 1 := rfl
theorem Cn.skip_at (c : Cn) {j : Nat} (hj : j < 5) : c.skip.at j = c.at j := by
  obtain rfl | rfl | rfl | rfl | rfl : j = 0 ∨ j = 1 ∨ j = 2 ∨ j = 3 ∨ j = 4 := by omega
  all_goals rfl
theorem Cn.skip_down (c : Cn) : c.skip.add (-1) 5 = c := by simp [Cn.skip, Cn.add, Int.add_neg_cancel_right]
/-- a shorter head of what is owned is owned -/
theorem owns_cut {w : World} {b : Nat} {e : TypeId} {g cap : Nat} {l r : List Int} (h : w.ownsRow b e 1 (.slice (some ⟨g, 0, none⟩) (l ++ r).length cap) (l ++ r).length ((l ++ r).flatMap eInt)) :
    w.ownsRow b e 1 (.slice (some ⟨g, 0, none⟩) l.length cap) l.length (l.flatMap eInt) := by
  have hl : ∀ z : List Int, (z.flatMap eInt).length = z.length := fun z => by induction z with
    | nil => rfl
    | cons a z ih => simp [eInt] at *; exact ih
  refine ⟨by simp [hl], ?_⟩
  rcases h.2 with ⟨hv, _⟩ | ⟨g', cap', cur, hv, h1, h2, h3, h4, h5, h6⟩
  · cases hv
  · cases hv
    refine .inr ⟨_, _, _, rfl, h1, h2, by simp at h3; omega, h4, h5, ?_⟩
    have := congrArg (List.take l.length) h6
    rw [List.take_take] at this
    simp only [Nat.mul_one] at this ⊢
    rw [Nat.min_eq_left (by simp)] at this
    rw [this, List.flatMap_append, List.take_append_of_le_length (by rw [hl]; exact Nat.le_refl _), List.take_of_length_le (by rw [hl]; exact Nat.le_refl _)]
end Go.Proofs.Ytahlicinchehhaa
