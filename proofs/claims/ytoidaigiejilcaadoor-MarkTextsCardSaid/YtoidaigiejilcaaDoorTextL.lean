/- Plain law of texts: lines, words, marks as lines, registers as texts. No program in sight. -/
import Derived.Test.YtoidaigiejilcaaDoorBase
import Derived.Lib.SplitLaws
namespace Go.Proofs.YtoidaigiejilcaaDoor
set_option linter.unusedVariables false
set_option linter.unusedSimpArgs false

/-- a list cut at each c -/
def cutL (c : UInt8) : List UInt8 → List (List UInt8)
  | [] => [[]]
  | b :: l => if b = c then [] :: cutL c l else match cutL c l with
    | x :: xs => (b :: x) :: xs
    | [] => [[b]]
theorem cutL_ne (c : UInt8) (l : List UInt8) : cutL c l ≠ [] := by
  cases l with
  | nil => simp [cutL]
  | cons b l => unfold cutL; split; · simp
                split <;> simp
theorem cutL_cons (c : UInt8) (b : UInt8) (l : List UInt8) (h : b ≠ c) : ∃ x xs, cutL c l = x :: xs ∧ cutL c (b :: l) = (b :: x) :: xs := by
  cases e : cutL c l with
  | nil => exact absurd e (cutL_ne c l)
  | cons x xs => refine ⟨x, xs, rfl, ?_⟩; unfold cutL; rw [if_neg h, e]
theorem cutL_at (c : UInt8) (l : List UInt8) : cutL c (c :: l) = [] :: cutL c l := if_pos rfl

theorem split_cut (c : UInt8) : ∀ s : List UInt8, Lib.split s [c] = cutL c s
  | [] => by
    have : Lib.count ([] : List UInt8) [c] = 0 := by rw [Lib.count_one]; rfl
    unfold Lib.split; rw [this]; rfl
  | b :: l => by
    have ih := split_cut c l
    unfold Lib.split at ih ⊢
    by_cases h : b = c
    · subst h
      have hix : Lib.index (b :: l) [b] = 0 := by rw [Lib.index]; simp [List.isPrefixOf]
      rw [Lib.count_cons_eq, Nat.add_comm, Lib.splitK, hix, cutL_at, ← ih]
      simp
    · obtain ⟨x, xs, e1, e2⟩ := cutL_cons c b l h
      rw [e2, Lib.count_cons_ne b c l h]
      rw [e1] at ih
      have hp : ([c] : List UInt8).isPrefixOf (b :: l) = false := by simp [List.isPrefixOf, Ne.symm h]
      have hix : Lib.index (b :: l) [c] = if Lib.index l [c] == -1 then -1 else Lib.index l [c] + 1 := by rw [Lib.index, hp]; simp
      cases hk : Lib.count l [c] with
      | zero => rw [hk] at ih; simp only [Lib.splitK] at ih ⊢; injection ih with i1 i2; subst i1; subst i2; rfl
      | succ k =>
        rw [hk] at ih
        rw [Lib.splitK] at ih ⊢
        have hm : ¬ Lib.index l [c] = -1 := fun e => by rw [Lib.count_miss e] at hk; cases hk
        have hge := Lib.index_ge l [c]
        obtain ⟨j, hj⟩ : ∃ j : Nat, Lib.index l [c] = j := ⟨(Lib.index l [c]).toNat, by omega⟩
        have hj1 : ((j : Int) == -1) = false := beq_eq_false_iff_ne.2 (by omega)
        have hj2 : ((j : Int) + 1 == -1) = false := beq_eq_false_iff_ne.2 (by omega)
        have e3 : ((j : Int) + 1).toNat = j + 1 := by omega
        rw [hj, hj1] at ih
        rw [hix, hj, hj1]
        simp only [Bool.false_eq_true, if_false, hj2, Nat.add_zero, List.length_singleton, Int.toNat_natCast, e3] at ih ⊢
        injection ih with i1 i2
        rw [← i1, ← i2]
        rfl

theorem cutL_app (c : UInt8) : ∀ (a b : List UInt8), c ∉ a → cutL c (a ++ c :: b) = a :: cutL c b
  | [], b, _ => cutL_at c b
  | x :: a, b, h => by
    have h1 : x ≠ c := fun e => h (by simp [e])
    have h2 : c ∉ a := fun e => h (by simp [e])
    have ih := cutL_app c a b h2
    rw [List.cons_append]
    obtain ⟨y, ys, e1, e2⟩ := cutL_cons c x (a ++ c :: b) h1
    rw [ih] at e1
    injection e1 with i1 i2
    rw [e2, ← i1, ← i2]
theorem cutL_last (c : UInt8) : ∀ (a : List UInt8), c ∉ a → cutL c a = [a]
  | [], _ => rfl
  | x :: a, h => by
    have h1 : x ≠ c := fun e => h (by simp [e])
    have h2 : c ∉ a := fun e => h (by simp [e])
    have ih := cutL_last c a h2
    obtain ⟨y, ys, e1, e2⟩ := cutL_cons c x a h1
    rw [ih] at e1
    injection e1 with i1 i2
    rw [e2, ← i1, ← i2]
/-- the pieces put together again -/
def glueL (c : UInt8) : List (List UInt8) → List UInt8
  | [] => []
  | [x] => x
  | x :: y :: l => x ++ c :: glueL c (y :: l)
theorem glue_cut (c : UInt8) : ∀ s, glueL c (cutL c s) = s
  | [] => rfl
  | b :: l => by
    have ih := glue_cut c l
    by_cases h : b = c
    · subst h
      rw [cutL_at]
      cases e : cutL b l with
      | nil => exact absurd e (cutL_ne b l)
      | cons x xs => rw [e] at ih; show [] ++ b :: glueL b (x :: xs) = _; rw [ih]; rfl
    · obtain ⟨x, xs, e1, e2⟩ := cutL_cons c b l h
      rw [e1] at ih
      rw [e2]
      cases xs with
      | nil => show b :: x = _; rw [show x = l from ih]
      | cons y ys => show (b :: x) ++ c :: glueL c (y :: ys) = _; rw [List.cons_append]; rw [show x ++ c :: glueL c (y :: ys) = l from ih]
theorem cut_free (c : UInt8) : ∀ s, ∀ x ∈ cutL c s, c ∉ x
  | [], x, hx => by simp [cutL] at hx; subst hx; simp
  | b :: l, x, hx => by
    have ih := cut_free c l
    by_cases h : b = c
    · subst h
      rw [cutL_at] at hx
      rcases List.mem_cons.1 hx with rfl | hx
      · simp
      · exact ih x hx
    · obtain ⟨y, ys, e1, e2⟩ := cutL_cons c b l h
      rw [e2] at hx
      rw [e1] at ih
      rcases List.mem_cons.1 hx with rfl | hx
      · intro hm
        rcases List.mem_cons.1 hm with e | e
        · exact h e.symm
        · exact ih y (by simp) e
      · exact ih x (by simp [hx])

/-- a digit; its number -/
def isDg (c : UInt8) : Bool := decide (48 ≤ c.toNat) && decide (c.toNat ≤ 57)
def dgI (c : UInt8) : Int := (c.toNat : Int) - 48
/-- the number of one digit after a head; -1 if it is none -/
def loneL (s h : List UInt8) : Int := if s.take h.length = h ∧ s.length = h.length + 1 ∧ isDg (s.getD h.length 0) = true then dgI (s.getD h.length 0) else -1
theorem loneL_lo (s h : List UInt8) : -1 ≤ loneL s h := by
  unfold loneL; split
  · rename_i hh; have h3 := hh.2.2; unfold isDg at h3; rw [Bool.and_eq_true, decide_eq_true_eq, decide_eq_true_eq] at h3; unfold dgI; omega
  · omega
theorem loneL_hi (s h : List UInt8) : loneL s h ≤ 9 := by
  unfold loneL; split
  · rename_i hh; have h3 := hh.2.2; unfold isDg at h3; rw [Bool.and_eq_true, decide_eq_true_eq, decide_eq_true_eq] at h3; unfold dgI; omega
  · omega
theorem loneL_ge {s h : List UInt8} (hs : 0 ≤ loneL s h) : ∃ d, s = h ++ [d] ∧ isDg d = true ∧ loneL s h = dgI d := by
  unfold loneL at hs ⊢
  split at hs
  · rename_i hh
    obtain ⟨h1, h2, h3⟩ := hh
    have e : s = h ++ [s.getD h.length 0] := by
      conv => lhs; rw [← List.take_append_drop h.length s, h1]
      congr 1
      have hd : (s.drop h.length).length = 1 := by rw [List.length_drop]; omega
      obtain ⟨d, hd⟩ := List.length_eq_one_iff.1 hd
      have : s[h.length]? = some d := by
        have := congrArg (fun l => l[0]?) hd
        simpa using this
      rw [hd, List.getD_eq_getElem?_getD, this]; rfl
    refine ⟨_, e, h3, ?_⟩
    rw [if_pos ⟨h1, h2, h3⟩]
  · omega
theorem loneL_of (h : List UInt8) (d : UInt8) (hd : isDg d = true) : loneL (h ++ [d]) h = dgI d := by
  unfold loneL
  rw [if_pos]
  · simp
  · refine ⟨by simp, by simp, by simpa using hd⟩
theorem dgI_lo {d : UInt8} (h : isDg d = true) : 0 ≤ dgI d := by unfold isDg at h; simp at h; unfold dgI; omega
theorem dgI_hi {d : UInt8} (h : isDg d = true) : dgI d ≤ 9 := by unfold isDg at h; simp at h; unfold dgI; omega

/-- the byte of a place; the number that places are -/
def isPl (c : UInt8) : Bool := decide (c = 120) || decide (c = 46)
def plNum (l : List UInt8) : Nat → Int
  | 0 => 0
  | k + 1 => if l.getD k 0 = 120 then plNum l k + 2 ^ k else plNum l k
def plsOf (s : List UInt8) : List UInt8 := s.take 4 ++ (s.drop 5).take 4
/-- the mark that a line is -/
def markL (s : List UInt8) : Option Mk :=
  if s.length = 15 ∧ s.getD 4 0 = 47 ∧ s.getD 9 0 = 32 ∧ s.getD 10 0 = 98 ∧ s.getD 12 0 = 32 ∧ s.getD 13 0 = 112 ∧ isDg (s.getD 11 0) = true ∧ isDg (s.getD 14 0) = true ∧ (plsOf s).all isPl = true
  then some ⟨plNum (plsOf s) 8, dgI (s.getD 11 0), dgI (s.getD 14 0)⟩ else none

/-- a line in the words that the office's reader takes it in -/
def markW (w : List (List UInt8)) : Option Mk :=
  if w.length = 3 ∧ (w.getD 0 []).length = 9 ∧ (w.getD 0 []).getD 4 0 = 47 ∧ (plsOf (w.getD 0 [])).all isPl = true ∧ 0 ≤ loneL (w.getD 1 []) [98] ∧ 0 ≤ loneL (w.getD 2 []) [112]
  then some ⟨plNum (plsOf (w.getD 0 [])) 8, loneL (w.getD 1 []) [98], loneL (w.getD 2 []) [112]⟩ else none

theorem list9 {α : Type} {l : List α} (h : l.length = 9) : ∃ a b c d e f g i j, l = [a, b, c, d, e, f, g, i, j] := by
  match l, h with
  | [a, b, c, d, e, f, g, i, j], _ => exact ⟨a, b, c, d, e, f, g, i, j, rfl⟩
theorem list15 {α : Type} {l : List α} (h : l.length = 15) : ∃ a b c d e f g i j k m n o p q, l = [a, b, c, d, e, f, g, i, j, k, m, n, o, p, q] := by
  match l, h with
  | [a, b, c, d, e, f, g, i, j, k, m, n, o, p, q], _ => exact ⟨a, b, c, d, e, f, g, i, j, k, m, n, o, p, q, rfl⟩
theorem isPl_ne {c : UInt8} (h : isPl c = true) : (32 : UInt8) ≠ c := by
  unfold isPl at h; simp at h; rcases h with h | h <;> (subst h; decide)
theorem isDg_ne {c : UInt8} (h : isDg c = true) : (32 : UInt8) ≠ c := by
  unfold isDg at h; simp at h; intro e; subst e; revert h; decide

theorem markW_cut (s : List UInt8) : markW (cutL 32 s) = markL s := by
  by_cases h : (cutL 32 s).length = 3 ∧ ((cutL 32 s).getD 0 []).length = 9 ∧ ((cutL 32 s).getD 0 []).getD 4 0 = 47 ∧ (plsOf ((cutL 32 s).getD 0 [])).all isPl = true ∧ 0 ≤ loneL ((cutL 32 s).getD 1 []) [98] ∧ 0 ≤ loneL ((cutL 32 s).getD 2 []) [112]
  · unfold markW
    rw [if_pos h]
    obtain ⟨h1, h2, h3, h4, h5, h6⟩ := h
    have hg := glue_cut 32 s
    obtain ⟨x, y, z, e⟩ : ∃ x y z, cutL 32 s = [x, y, z] := by
      match cutL 32 s, h1 with
      | [x, y, z], _ => exact ⟨x, y, z, rfl⟩
    rw [e] at h2 h3 h4 h5 h6 hg ⊢
    simp only [List.getD_cons_zero, List.getD_cons_succ] at h2 h3 h4 h5 h6 ⊢
    obtain ⟨d1, e1, g1, v1⟩ := loneL_ge h5
    obtain ⟨d2, e2, g2, v2⟩ := loneL_ge h6
    obtain ⟨a0, a1, a2, a3, a4, a5, a6, a7, a8, e0⟩ := list9 h2
    rw [v1, v2]
    subst e0 e1 e2
    simp only [glueL, List.cons_append, List.nil_append] at hg
    subst hg
    have h3' : a4 = 47 := by simpa using h3
    subst h3'
    unfold markL
    rw [if_pos]
    · rfl
    · exact ⟨rfl, rfl, rfl, rfl, rfl, rfl, g1, g2, h4⟩
  · by_cases g : s.length = 15 ∧ s.getD 4 0 = 47 ∧ s.getD 9 0 = 32 ∧ s.getD 10 0 = 98 ∧ s.getD 12 0 = 32 ∧ s.getD 13 0 = 112 ∧ isDg (s.getD 11 0) = true ∧ isDg (s.getD 14 0) = true ∧ (plsOf s).all isPl = true
    · exfalso
      apply h
      obtain ⟨h1, h2, h3, h4, h5, h6, h7, h8, h9⟩ := g
      obtain ⟨a, b, c, d, e, f, g, i, j, k, m, n, o, p, q, rfl⟩ := list15 h1
      simp only [List.getD_cons_zero, List.getD_cons_succ] at h2 h3 h4 h5 h6 h7 h8
      subst h2 h3 h4 h5 h6
      have hpl : plsOf [a, b, c, d, 47, f, g, i, j, 32, 98, n, 32, 112, q] = [a, b, c, d, f, g, i, j] := rfl
      rw [hpl] at h9
      simp only [List.all_cons, List.all_nil, Bool.and_true, Bool.and_eq_true] at h9
      obtain ⟨p0, p1, p2, p3, p4, p5, p6, p7⟩ := h9
      have e1 : cutL 32 [a, b, c, d, 47, f, g, i, j, 32, 98, n, 32, 112, q] = [[a, b, c, d, 47, f, g, i, j], [98, n], [112, q]] := by
        rw [show [a, b, c, d, 47, f, g, i, j, 32, 98, n, 32, 112, q] = [a, b, c, d, 47, f, g, i, j] ++ 32 :: ([98, n] ++ 32 :: [112, q]) from rfl,
          cutL_app, cutL_app, cutL_last]
        · simp only [List.mem_cons, List.not_mem_nil, or_false, not_or]; exact ⟨by decide, isDg_ne h8⟩
        · simp only [List.mem_cons, List.not_mem_nil, or_false, not_or]; exact ⟨by decide, isDg_ne h7⟩
        · simp only [List.mem_cons, List.not_mem_nil, or_false, not_or]
          exact ⟨isPl_ne p0, isPl_ne p1, isPl_ne p2, isPl_ne p3, by decide, isPl_ne p4, isPl_ne p5, isPl_ne p6, isPl_ne p7⟩
      rw [e1]
      refine ⟨rfl, rfl, rfl, ?_, ?_, ?_⟩
      · show ([a, b, c, d, f, g, i, j] : List UInt8).all isPl = true
        simp [p0, p1, p2, p3, p4, p5, p6, p7]
      · show 0 ≤ loneL ([98] ++ [n]) [98]; rw [loneL_of _ _ h7]; exact dgI_lo h7
      · show 0 ≤ loneL ([112] ++ [q]) [112]; rw [loneL_of _ _ h8]; exact dgI_lo h8
    · unfold markW markL
      rw [if_neg h, if_neg g]

/-- what has been read: tears, marks, whether the end has been seen -/
structure Rd where
  t : Int
  l : List Mk
  e : Bool
def tearsL : List UInt8 := [116, 101, 97, 114, 115, 32]
def endL : List UInt8 := [109, 97, 114, 107, 115, 32, 101, 110, 100]
/-- one line more; none if it is not as said -/
def rdStep (i : Nat) (st : Rd) (x : List UInt8) : Option Rd :=
  if st.e = true then none
  else if i = 0 then (if 0 ≤ loneL x tearsL then some { st with t := loneL x tearsL } else none)
  else if x = endL then some { st with e := true }
  else match markL x with
    | some m => some { st with l := st.l ++ [m] }
    | none => none
/-- the state after the first k lines -/
def rdTo (ls : List (List UInt8)) : Nat → Option Rd
  | 0 => some ⟨0, [], false⟩
  | k + 1 => match rdTo ls k with
    | some st => rdStep k st (ls.getD k [])
    | none => none
/-- the number of the first line that is not as said; 0 if there is none -/
def rdBad (ls : List (List UInt8)) : Nat → Nat
  | 0 => 0
  | k + 1 => if rdBad ls k ≠ 0 then rdBad ls k else if (rdTo ls (k + 1)).isNone then k + 1 else 0
/-- the register read, the line of the error, the error -/
structure Rr where
  t : Int
  l : List Mk
  line : Nat
  e : Int
/-- what is read, if every line is as said -/
def rdOk (s : List UInt8) : Option Rd :=
  match rdTo (cutL 10 s) ((cutL 10 s).length - 1) with
  | none => none
  | some st => if st.e = false ∨ (cutL 10 s).getD ((cutL 10 s).length - 1) [] ≠ [] then none else some st
/-- the line of the error -/
def rdLn (s : List UInt8) : Nat := match rdTo (cutL 10 s) ((cutL 10 s).length - 1) with
  | none => rdBad (cutL 10 s) ((cutL 10 s).length - 1)
  | some _ => (cutL 10 s).length
def readL (s : List UInt8) : Rr :=
  if 120 < s.length then ⟨0, [], 0, 10⟩
  else match rdOk s with
    | none => ⟨0, [], rdLn s, 2⟩
    | some st => if check st.t st.l ≠ 0 then ⟨0, [], 0, check st.t st.l⟩ else ⟨st.t, st.l, 0, 0⟩
theorem cut_short (c : UInt8) : ∀ s, ∀ x ∈ cutL c s, x.length ≤ s.length
  | [], x, hx => by simp [cutL] at hx; subst hx; simp
  | b :: l, x, hx => by
    have ih := cut_short c l
    by_cases h : b = c
    · subst h
      rw [cutL_at] at hx
      rcases List.mem_cons.1 hx with rfl | hx
      · simp
      · have := ih x hx; simp; omega
    · obtain ⟨y, ys, e1, e2⟩ := cutL_cons c b l h
      rw [e2] at hx
      rw [e1] at ih
      rcases List.mem_cons.1 hx with rfl | hx
      · have := ih y (by simp); simp; omega
      · have := ih x (by simp [hx]); simp; omega
theorem cut_len (c : UInt8) : ∀ s : List UInt8, (cutL c s).length ≤ s.length + 1
  | [] => by simp [cutL]
  | b :: l => by
    have ih := cut_len c l
    by_cases h : b = c
    · subst h; rw [cutL_at]; simp; omega
    · obtain ⟨y, ys, e1, e2⟩ := cutL_cons c b l h
      rw [e2]; rw [e1] at ih; simp at ih ⊢; omega
theorem rdTo_none {ls : List (List UInt8)} {k j : Nat} (h : rdTo ls k = none) (hkj : k ≤ j) : rdTo ls j = none := by
  induction j with
  | zero => obtain rfl : k = 0 := by omega
            exact h
  | succ j ih =>
    by_cases e : k = j + 1
    · subst e; exact h
    · unfold rdTo; rw [ih (by omega)]
theorem rdBad_some {ls : List (List UInt8)} {k : Nat} {st : Rd} (h : rdTo ls k = some st) : rdBad ls k = 0 := by
  induction k generalizing st with
  | zero => rfl
  | succ k ih =>
    unfold rdBad
    cases e : rdTo ls k with
    | none => rw [rdTo_none e (Nat.le_succ k)] at h; cases h
    | some st' => rw [ih e, if_neg (by simp), h]; rfl
theorem rdBad_first {ls : List (List UInt8)} {k : Nat} {st : Rd} (h : rdTo ls k = some st) (hn : rdTo ls (k + 1) = none) : ∀ j, k + 1 ≤ j → rdBad ls j = k + 1
  | 0, hj => by omega
  | j + 1, hj => by
    by_cases e : k = j
    · subst e; unfold rdBad; rw [rdBad_some h, if_neg (by simp), hn]; rfl
    · unfold rdBad; rw [rdBad_first h hn j (by omega), if_pos (by omega)]
end Go.Proofs.YtoidaigiejilcaaDoor
