/- TopFold 11: LawH, ListG. -/
import Derived.Test.YtgnjknihgjdedaaTf10
import Derived.Test.YtgnjknihgjdedaaTf04
import Derived.Test.YtgnjknihgjdedaaTf07
import Derived.Test.YtgnjknihgjdedaaTf05
import Derived.ArgAppend
import Derived.Deep.CutBlock
namespace Go.Proofs.Ytgnjknihgjdedaa
set_option linter.unusedVariables false
set_option linter.unusedSimpArgs false

def goodR (may : List (List Int)) (mis : List Int) (lf : Nat → Int → Bool) (L : Nat) : Nat → Cn → List Int → Bool
  | 0, _, _ => true
  | n + 1, c, [] => false
  | n + 1, c, o :: r => ((may.getD (L - (n + 1)) []).contains o && (decide (c.at o.toNat < mis.getD o.toNat 0) && lf (L - (n + 1)) o)) && goodR may mis lf L n (c.up o.toNat) r
theorem findSome_filter {α β : Type} (p : α → Bool) (h : α → Option β) : ∀ l : List α, (l.filter p).findSome? h = l.findSome? fun i => if p i then h i else none
  | [] => rfl
  | a :: l => by
    by_cases hp : p a = true
    · rw [List.filter_cons_of_pos hp, List.findSome?_cons, List.findSome?_cons, if_pos hp, findSome_filter p h l]
    · rw [List.filter_cons_of_neg hp, List.findSome?_cons, if_neg hp, findSome_filter p h l]
theorem findSome_map {α β γ : Type} (f : α → γ) (h : γ → Option β) : ∀ l : List α, (l.map f).findSome? h = l.findSome? fun i => h (f i)
  | [] => rfl
  | a :: l => by rw [List.map_cons, List.findSome?_cons, List.findSome?_cons, findSome_map f h l]
theorem find_flat {α β : Type} (f : α → List β) (p : β → Bool) : ∀ l : List α, (l.flatMap f).find? p = l.findSome? fun i => (f i).find? p
  | [] => rfl
  | a :: l => by
    rw [List.flatMap_cons, List.find?_append, List.findSome?_cons, find_flat f p l]
    cases (f a).find? p <;> rfl
theorem findSome_congr {α β : Type} {f g : α → Option β} : ∀ {l : List α}, (∀ a ∈ l, f a = g a) → l.findSome? f = l.findSome? g
  | [], _ => rfl
  | a :: l, h => by rw [List.findSome?_cons, List.findSome?_cons, h a (by simp), findSome_congr fun b hb => h b (by simp [hb])]
theorem find_map' {α β : Type} (f : α → β) (p : β → Bool) : ∀ l : List α, (l.map f).find? p = (l.find? fun a => p (f a)).map f
  | [] => rfl
  | a :: l => by
    rw [List.map_cons, List.find?_cons, List.find?_cons, find_map' f p l]
    cases p (f a) <;> rfl
theorem find_congr {α : Type} {p q : α → Bool} : ∀ {l : List α}, (∀ a ∈ l, p a = q a) → l.find? p = l.find? q
  | [], _ => rfl
  | a :: l, h => by rw [List.find?_cons, List.find?_cons, h a (by simp), find_congr fun b hb => h b (by simp [hb])]
theorem find_false {α : Type} (l : List α) : l.find? (fun _ => false) = none := by
  rw [List.find?_eq_none]; intro a _ h; cases h
theorem rest_find {b N L : Nat} {may : List (List Int)} {mis : List Int} {lf : Nat → Int → Bool} (hrow : ∀ k, ∃ p : Nat → Bool, may.getD k [] = ((List.range N).filter p).map Int.ofNat) :
    ∀ n c, Srch.rest ⟨b, L, may, mis, 0, lf⟩ n c = (wordsL N n).find? (goodR may mis lf L n c)
  | 0, c => rfl
  | n + 1, c => by
    unfold Srch.rest wordsL
    rw [if_neg (by simp), find_flat]
    obtain ⟨p, hp⟩ := hrow (L - (n + 1))
    dsimp only
    rw [hp, findSome_map, findSome_filter]
    refine findSome_congr fun i hi => ?_
    rw [find_map']
    have hc : (may.getD (L - (n + 1)) []).contains (Int.ofNat i) = p i := by
      rw [hp, Bool.eq_iff_iff, List.contains_eq_mem, decide_eq_true_eq, List.mem_map]
      constructor
      · rintro ⟨a, ha, he⟩
        have : a = i := by injection he
        subst this
        exact (List.mem_filter.1 ha).2
      · intro h
        exact ⟨i, List.mem_filter.2 ⟨hi, h⟩, rfl⟩
    have hg : ∀ r, goodR may mis lf L (n + 1) c ((i : Int) :: r) = ((p i && (decide (c.at i < mis.getD i 0) && lf (L - (n + 1)) i)) && goodR may mis lf L n (c.up i) r) := by
      intro r
      show (((may.getD (L - (n + 1)) []).contains (i : Int) && _) && _) = _
      rw [show (may.getD (L - (n + 1)) []).contains (i : Int) = p i from hc]
      rfl
    simp only [hg]
    rw [rest_find hrow n]
    cases hpi : p i
    · simp only [Bool.false_and, find_false]; rfl
    · simp only [Bool.true_and, if_true]
      show (if (decide (c.at i < mis.getD i 0) && lf (L - (n + 1)) (i : Int)) = true then _ else none) = _
      cases hq : (decide (c.at i < mis.getD i 0) && lf (L - (n + 1)) (i : Int))
      · simp only [Bool.false_and, find_false]; rfl
      · simp only [Bool.true_and, if_true]; rfl
theorem cntI_cons (y : Int) (x : List Int) (o : Int) : cntI (y :: x) o = cntI x o + if y = o then 1 else 0 := by
  unfold cntI
  rw [List.countP_cons]
  by_cases h : y = o <;> simp [h]
theorem cntI_zero {x : List Int} {o : Int} (h : o ∉ x) : cntI x o = 0 := by
  unfold cntI
  rw [List.countP_eq_zero]
  intro a ha he
  simp at he
  subst he
  exact h ha
theorem good_iff {N L : Nat} {may : List (List Int)} {mis : List Int} {lf : Nat → Int → Bool} (hN : N ≤ 5) : ∀ (n : Nat) (c : Cn) (r : List Int), n ≤ L → r ∈ wordsL N n →
    (goodR may mis lf L n c r = true ↔ (∀ (j : Nat) (o : Int), r[j]? = some o → o ∈ may.getD (L - n + j) [] ∧ lf (L - n + j) o = true) ∧ ∀ o : Nat, (o : Int) ∈ r → c.at o + (cntI r o : Int) ≤ mis.getD o 0)
  | 0, c, r, _, hr => by
    simp [wordsL] at hr
    subst hr
    simp [goodR]
  | n + 1, c, r, hn, hr => by
    obtain ⟨i, hi, h2⟩ := List.mem_flatMap.1 hr
    obtain ⟨q, hq, rfl⟩ := List.mem_map.1 h2
    have hi5 : i < 5 := by have := List.mem_range.1 hi; omega
    have hqm := (wordsL_mem hq).2
    have ih := good_iff (L := L) (may := may) (mis := mis) (lf := lf) hN n (c.up i) q (by omega) hq
    show (((may.getD (L - (n + 1)) []).contains (i : Int) && (decide (c.at i < mis.getD i 0) && lf (L - (n + 1)) i)) && goodR may mis lf L n (c.up i) q) = true ↔ _
    rw [Bool.and_eq_true, Bool.and_eq_true, Bool.and_eq_true, ih, List.contains_eq_mem, decide_eq_true_eq, decide_eq_true_eq]
    constructor
    · rintro ⟨⟨h1, h2, h3⟩, h4, h5⟩
      refine ⟨fun j o hj => ?_, fun o ho => ?_⟩
      · cases j with
        | zero => simp at hj; subst hj; exact ⟨h1, h3⟩
        | succ j =>
          have := h4 j o (by simpa using hj)
          rw [show L - (n + 1) + (j + 1) = L - n + j by omega]
          exact this
      · rw [cntI_cons]
        by_cases ho2 : (o : Int) ∈ q
        · have h6 := h5 o ho2
          have ho5 : o < 5 := by have := (hqm o ho2).2; omega
          rw [Cn.up_at c hi5 ho5] at h6
          by_cases hoi : o = i
          · subst hoi; rw [if_pos rfl] at h6; rw [if_pos rfl]; omega
          · rw [if_neg hoi] at h6; rw [if_neg (by omega)]; omega
        · rw [cntI_zero ho2]
          have hoi : (o : Int) = (i : Int) := by
            rcases List.mem_cons.1 ho with h | h
            · exact h
            · exact absurd h ho2
          have : o = i := by omega
          subst this
          rw [if_pos rfl]
          omega
    · rintro ⟨h1, h2⟩
      have h0 := h1 0 i rfl
      have h3 := h2 i (by simp)
      rw [cntI_cons, if_pos rfl] at h3
      refine ⟨⟨h0.1, by omega, h0.2⟩, fun j o hj => ?_, fun o ho => ?_⟩
      · have := h1 (j + 1) o (by simpa using hj)
        rw [show L - (n + 1) + (j + 1) = L - n + j by omega] at this
        exact this
      · have h6 := h2 o (by simp [ho])
        have ho5 : o < 5 := by have := (hqm o ho).2; omega
        rw [Cn.up_at c hi5 ho5]
        rw [cntI_cons] at h6
        by_cases hoi : o = i
        · subst hoi; rw [if_pos rfl] at h6 ⊢; omega
        · rw [if_neg hoi]; rw [if_neg (by omega)] at h6; omega
theorem mays_getD {t : Int} {l : List Mk} {ss : List Sg} {k : Nat} {s : Sg} (hs : ss[k]? = some s) : (mays t l ss).getD k [] = mayL t l s := by
  unfold mays
  rw [List.getD_eq_getElem?_getD, List.getElem?_map, hs]
  rfl
theorem give_find {t : Int} {l : List Mk} {ss : List Sg} {mis : List Int} (hn5 : l.length ≤ 5) (hmis : ∀ x ∈ mis, 0 ≤ x) (lf : Nat → Int → Bool) :
    giveL (mays t l ss) mis 0 lf = (wordsL l.length ss.length).find? fun x => givesB t l ss mis x && (List.range ss.length).all fun p => lf p (x.getD p 0) := by
  have hL : (mays t l ss).length = ss.length := by unfold mays; simp
  unfold giveL Srch.all
  dsimp only
  rw [rest_find (N := l.length), hL]
  · refine find_congr fun x hx => ?_
    obtain ⟨hxl, hxv⟩ := wordsL_mem hx
    rw [Bool.eq_iff_iff, good_iff hn5 ss.length _ x (Nat.le_refl _) hx]
    unfold givesB
    simp only [Bool.and_eq_true, List.all_eq_true, List.mem_range, decide_eq_true_eq, hxl, Nat.sub_self, Nat.zero_add]
    have hat : ∀ o : Nat, (⟨0, 0, 0, 0, 0, 0⟩ : Cn).at o = 0 := fun o => by unfold Cn.at; split <;> rfl
    simp only [hat, Int.zero_add]
    have hfit : ∀ (j : Nat) (o : Int), x[j]? = some o → (o ∈ (mays t l ss).getD j [] ↔ fitAt t l ss x j = true) := by
      intro j o hj
      have hjl : j < ss.length := by have := (List.getElem?_eq_some_iff.1 hj).1; omega
      have hs := List.getElem?_eq_getElem hjl
      obtain ⟨h0, h1⟩ := hxv o (List.mem_of_getElem? hj)
      obtain ⟨on, rfl⟩ := Int.eq_ofNat_of_zero_le h0
      have hon : on < l.length := by omega
      have hm := List.getElem?_eq_getElem hon
      rw [mays_getD hs, mayL_iff hm]
      unfold fitAt mkAt
      rw [List.getD_eq_getElem?_getD, hj, List.getD_eq_getElem?_getD, hs]
      have hd : decide ((on : Int) < 0) = false := decide_eq_false (by omega)
      simp only [Option.getD_some, hd, Bool.false_or]
      simp [hm]
    constructor
    · rintro ⟨h1, h2⟩
      refine ⟨⟨fun o ho => ?_, fun j hj => ?_⟩, fun p hp => ?_⟩
      · by_cases hm : (o : Int) ∈ x
        · exact h2 o hm
        · rw [cntI_zero hm, List.getD_eq_getElem?_getD]
          cases hmo : mis[o]? with
          | none => simp
          | some z => have := hmis z (List.mem_of_getElem? hmo); simpa using this
      · have hj' := List.getElem?_eq_getElem (show j < x.length by omega)
        exact (hfit j _ hj').1 (h1 j _ hj').1
      · have hj' := List.getElem?_eq_getElem (show p < x.length by omega)
        rw [List.getD_eq_getElem?_getD, hj']
        exact (h1 p _ hj').2
    · rintro ⟨⟨h1, h2⟩, h3⟩
      refine ⟨fun j o hj => ⟨(hfit j o hj).2 (h2 j (by have := (List.getElem?_eq_some_iff.1 hj).1; omega)), ?_⟩, fun o ho => h1 o (by have := (hxv o ho).2; omega)⟩
      have := h3 j (by have := (List.getElem?_eq_some_iff.1 hj).1; omega)
      rwa [List.getD_eq_getElem?_getD, hj] at this
  · intro k
    cases hs : ss[k]? with
    | none =>
      refine ⟨fun _ => false, ?_⟩
      unfold mays
      rw [List.getD_eq_getElem?_getD, List.getElem?_map, hs, List.filter_eq_nil_iff.2 (by simp)]
      rfl
    | some s => exact ⟨_, mays_getD hs⟩
end Go.Proofs.Ytgnjknihgjdedaa

namespace Go.Proofs.Ytgnjknihgjdedaa
set_option linter.unusedVariables false
set_option linter.unusedSimpArgs false

def hasB (p : List Int → Bool) (all : List (List Int)) (i k o : Nat) : Bool := (all.take i).any fun x => p x && decide (x.getD k 0 = (o : Int))
section
variable {t : Int} {l : List Mk} {ss : List Sg} {mis : List Int} (hn5 : l.length ≤ 5) (hmis : ∀ x ∈ mis, 0 ≤ x)
def allW (l : List Mk) (ss : List Sg) : List (List Int) := wordsL l.length ss.length
include hn5 hmis in
theorem give_all : giveL (mays t l ss) mis 0 (fun _ _ => true) = (allW l ss).find? (givesB t l ss mis) := by
  rw [give_find hn5 hmis]
  refine find_congr fun x _ => ?_
  rw [List.all_eq_true.2 (fun _ _ => rfl), Bool.and_true]
include hn5 hmis in
theorem owns_all {k : Nat} (hk : k < ss.length) : ownsRow (mays t l ss) mis k = ((List.range l.length).filter (hasB (givesB t l ss mis) (allW l ss) (allW l ss).length k)).map Int.ofNat := by
  have hs := List.getElem?_eq_getElem hk
  have hrow : ((mays t l ss)[k]?).getD [] = mayL t l ss[k] := by
    have := mays_getD (t := t) (l := l) hs
    rwa [List.getD_eq_getElem?_getD] at this
  unfold ownsRow ownsIn
  rw [hrow]
  unfold mayL mayTo
  rw [List.filter_map, List.filter_filter]
  congr 1
  refine List.filter_congr fun o ho => ?_
  have ho' := List.mem_range.1 ho
  have hm := List.getElem?_eq_getElem ho'
  show ((giveL (mays t l ss) mis 0 (letB k (o : Int))).isSome && _) = _
  rw [give_find hn5 hmis, hm, Bool.eq_iff_iff]
  unfold hasB
  rw [List.take_of_length_le (Nat.le_refl _), List.any_eq_true, Bool.and_eq_true, List.find?_isSome]
  constructor
  · rintro ⟨⟨x, hx, hp⟩, hf⟩
    rw [Bool.and_eq_true, List.all_eq_true] at hp
    refine ⟨x, hx, ?_⟩
    rw [Bool.and_eq_true, decide_eq_true_eq]
    refine ⟨hp.1, ?_⟩
    have := hp.2 k (List.mem_range.2 hk)
    unfold letB at this
    simpa using this
  · rintro ⟨x, hx, hp⟩
    rw [Bool.and_eq_true, decide_eq_true_eq] at hp
    refine ⟨⟨x, hx, ?_⟩, ?_⟩
    · rw [Bool.and_eq_true, List.all_eq_true]
      refine ⟨hp.1, fun p _ => ?_⟩
      unfold letB
      by_cases hpk : p = k
      · subst hpk; simp only [hp.2, decide_true, Bool.or_true]
      · simp [hpk]
    · have hg := hp.1
      unfold givesB at hg
      rw [Bool.and_eq_true] at hg
      have hxl := (wordsL_mem hx).1
      have h := List.all_eq_true.1 hg.2 k (List.mem_range.2 (by omega))
      unfold fitAt mkAt at h
      rw [hp.2] at h
      have hd : decide ((o : Int) < 0) = false := decide_eq_false (by omega)
      rw [hd, Bool.false_or, List.getD_eq_getElem?_getD, hs] at h
      simp only [Option.getD_some, Int.toNat_natCast, hm] at h
      simpa using h
end
end Go.Proofs.Ytgnjknihgjdedaa
namespace Go.Proofs.Ytgnjknihgjdedaa
open Go.RowKit
set_option linter.unusedVariables false
set_option linter.unusedSimpArgs false

def pickRest (L : Nat) (pf : Nat → Bool) : Nat → Nat → Nat → Option (List Int)
  | 0, _, set => if pf set then some [] else none
  | d + 1, from_, set => (List.range' from_ (L - from_)).findSome? fun i => (pickRest L pf d (i + 1) (set ||| 2 ^ i)).map fun r => (i : Int) :: r
structure LEnv (b L many : Nat) (fl : Nat) (fi ca : Array Value) (W : World) : Prop where
  m : W.heap[b + 1]? = some (.cells #[.int .i64 many] 3 (0, 0))
  p : W.heap[b + 2]? = some (.cells #[.func (.func fl) fi ca] 113 (0, 0))
  n : W.heap[b + 3]? = some (.cells #[.int .i64 L] 3 (0, 0))
  g : W.heap[b + 4]? = some (.cells #[.func (.func 86) #[] #[.pointer (some ⟨b + 1, 0, none⟩), .pointer (some ⟨b + 2, 0, none⟩), .pointer (some ⟨b + 3, 0, none⟩), .pointer (some ⟨b + 4, 0, none⟩)]] 157 (0, 0))
theorem LEnv.below {b L many fl : Nat} {fi ca : Array Value} {W W' : World} (h : LEnv b L many fl fi ca W) {B : Nat} (hb : Below B W W') (hB : W.heap.size ≤ B) : LEnv b L many fl fi ca W' :=
  ⟨bheap h.m hb hB, bheap h.p hb hB, bheap h.n hb hB, bheap h.g hb hB⟩
def LRes (x : List Int) (r : Option (List Int)) (e : Ending) (w' : World) : Prop := match r with
  | none => ∃ v, e = .returned (.tuple #[v, .bool false])
  | some q => ∃ A c, e = .returned (.tuple #[.slice A (x ++ q).length c, .bool true]) ∧ Ints w' A (x ++ q).length (x ++ q) ∧ (x ++ q).length ≤ c ∧ c ≤ maxLen ∧ (A = none → (x ++ q).length = 0 ∧ c = 0)
def RdL (l : List Int) (A : Option Addr) (c : Nat) (w : World) : Prop := Ints w A l.length l ∧ l.length ≤ c ∧ c ≤ maxLen ∧ (A = none → l.length = 0 ∧ c = 0)
theorem RdL.below {l : List Int} {A : Option Addr} {c : Nat} {w w' : World} (h : RdL l A c w) {B : Nat} (hb : Below B w w') (hB : w.heap.size ≤ B) : RdL l A c w' := ⟨h.1.below hb hB, h.2⟩
def ResN : VF := fun v _ => ∃ u, v = .tuple #[u, .bool false]
def ResS (l : List Int) : VF := fun v w => ∃ A c, v = .tuple #[.slice A l.length c, .bool true] ∧ RdL l A c w
def SlcF (l : List Int) : VF := fun v w => ∃ A c, v = .slice A l.length c ∧ RdL l A c w
def AnyF : VF := fun _ _ => True
def OneF (i : Int) : VF := fun v w => ∃ b, v = .slice (some ⟨b, 0, none⟩) 1 1 ∧ w.heap[b]? = some (.cells #[.int .i64 i] 3 (0, 0))
theorem ResN.st : ∀ n v w w', TB n w w' → ResN v w → ResN v w' := fun _ _ _ _ _ h => h
theorem ResS.st {l : List Int} : ∀ n v w w', TB n w w' → ResS l v w → ResS l v w' := fun _ v w w' h ⟨A, c, h1, h2⟩ => ⟨A, c, h1, h2.below h (Nat.le_refl _)⟩
theorem SlcF.st {l : List Int} : ∀ n v w w', TB n w w' → SlcF l v w → SlcF l v w' := fun _ v w w' h ⟨A, c, h1, h2⟩ => ⟨A, c, h1, h2.below h (Nat.le_refl _)⟩
theorem AnyF.st : ∀ n v w w', TB n w w' → AnyF v w → AnyF v w' := fun _ _ _ _ _ h => h
theorem OneF.st {i : Int} : ∀ n v w w', TB n w w' → OneF i v w → OneF i v w' := fun _ v w w' h ⟨b, h1, h2⟩ => ⟨b, h1, bheap h2 h (Nat.le_refl _)⟩
theorem flat_ints (x : List Int) : ∀ j : Nat, (x.flatMap eInt)[j]? = (x[j]?).map fun y => Value.int .i64 y := by
  induction x with
  | nil => simp
  | cons a r ih =>
    intro j
    rw [List.flatMap_cons]
    cases j with
    | zero => simp [eInt]
    | succ j => simp [eInt]; simpa using ih j
theorem ints_cells {w : World} {A : Option Addr} {n : Nat} {x : List Int} (h : Ints w A n x) : ∀ b, A = some b → ∀ j u, (x.flatMap eInt)[j]? = some u → w.cell? (b.add j) = some u := by
  intro b hA j u hu
  rw [flat_ints] at hu
  cases hx : x[j]? with
  | none => rw [hx] at hu; cases hu
  | some y =>
    rw [hx] at hu
    cases hu
    have hj := (List.getElem?_eq_some_iff.1 hx).1
    have hn := h.len
    obtain ⟨bb, off, y', hA', _, hy', hc⟩ := Ints.get h (show j < n by omega)
    rw [hA] at hA'
    cases hA'
    rw [hx] at hy'
    cases hy'
    rw [Addr.add_lit]
    exact hc
theorem bits_or64 (s i : Nat) (hs : s < 64) (hi : i < 6) : bits .or .u64 (s : Int) (IntKind.u64.wrap (2 ^ i)) = ((s ||| 2 ^ i : Nat) : Int) := by
  have : ∀ s : Fin 64, ∀ i : Fin 6, bits .or .u64 (s.1 : Int) (IntKind.u64.wrap (2 ^ i.1)) = ((s.1 ||| 2 ^ i.1 : Nat) : Int) := by decide +kernel
  exact this ⟨s, hs⟩ ⟨i, hi⟩
theorem find_range {β : Type} {f : Nat → Option β} {i : Nat} {r : β} : ∀ {n a : Nat}, a ≤ i → i < a + n → (∀ j, a ≤ j → j < i → f j = none) → f i = some r → (List.range' a n).findSome? f = some r
  | 0, a, h1, h2, _, _ => by omega
  | n + 1, a, h1, h2, h3, h4 => by
    rw [List.range'_succ, List.findSome?_cons]
    by_cases hai : a = i
    · subst hai; rw [h4]
    · rw [h3 a (Nat.le_refl _) (by omega)]
      exact find_range (by omega) (by omega) (fun j hj hji => h3 j (by omega) hji) h4
def From (x : List Int) (from_ : Nat) : Prop := (x = [] ∧ from_ = 0) ∨ ∃ y : Nat, x[x.length - 1]? = some (y : Int) ∧ 0 < x.length ∧ from_ = y + 1

set_option maxRecDepth 100000 in
set_option maxHeartbeats 4000000 in
theorem listG_any (w0 : World) (L many : Nat) (hL : L ≤ 6) (fl : Nat) (fi ca : Array Value) (pf : Nat → Bool) (eg : ∀ args w, (callFunc fl args).run Try.prog w = .ok (.enter fl args) w)
    (hp : ∀ W, Below w0.heap.size w0 W → ∀ set : Nat, set < 64 → Calls Try.prog fl (fi.push (.int .u64 set) ++ ca) W fun e w' => e = .returned (.bool (pf set)) ∧ Below W.heap.size W w') :
    ∀ (d : Nat) (W : World) (A : Option Addr) (c : Nat) (x : List Int) (set from_ : Nat), Below w0.heap.size w0 W → LEnv w0.heap.size L many fl fi ca W → Ints W A x.length x → x.length ≤ c → c ≤ maxLen → (A = none → x.length = 0 ∧ c = 0) →
      x.length + d = many → From x from_ → from_ ≤ L → set < 2 ^ from_ → x.length ≤ from_ →
      Calls Try.prog 86 #[.slice A x.length c, .int .u64 set, .pointer (some ⟨w0.heap.size + 1, 0, none⟩), .pointer (some ⟨w0.heap.size + 2, 0, none⟩), .pointer (some ⟨w0.heap.size + 3, 0, none⟩), .pointer (some ⟨w0.heap.size + 4, 0, none⟩)] W
        fun e w' => LRes x (pickRest L pf d from_ set) e w' ∧ Below W.heap.size W w'
  | 0, W, A, c, x, set, from_, hbw, env, hx, hxc, hcm, hz, hd, hfr, hfl, hset, hxf => by
    have h64 : set < 64 := Nat.lt_of_lt_of_le hset (Nat.le_trans (Nat.pow_le_pow_right (n := 2) (by omega) hfl) (Nat.le_trans (Nat.pow_le_pow_right (n := 2) (by omega) hL) (by decide)))
    have HP := Lib.hid (hp W hbw set h64)
    have HX := Lib.hid (And.intro hx (And.intro hxc (And.intro hcm hz)))
    obtain ⟨n, hn⟩ : ∃ n, n = x.length := ⟨_, rfl⟩
    have c1 := blk1 env.m
    have c2 := blk1 env.p
    have l1 := heap_lt env.m
    have l2 := heap_lt env.p
    have hmn : many = n := by omega
    subst hmn
    have HN := Lib.hid hn
    rw [← hn]
    clear hn hx hd hfr hxf env hbw hp hset
    go_enter Try.func86, Try.ntmps86
    go_wp2_with fail
    (with_reducible refine HP.out.mono ?_)
    rintro e w2 ⟨rfl, hb2⟩
    have HB := Lib.hid hb2
    clear hb2
    go_wp2
    go_ret2
    refine ⟨?_, HB.out⟩
    unfold pickRest LRes
    cases hpf : pf set
    · exact ⟨_, rfl⟩
    · simp only [if_true, List.append_nil]
      refine ⟨A, c, ?_, HX.out.1.below HB.out (Nat.le_refl _), HX.out.2⟩
      rw [← HN.out]
      rfl
  | d + 1, W, A, c, x, set, from_, hbw, env, hx, hxc, hcm, hz, hd, hfr, hfl, hset, hxf => by
    have IH := listG_any w0 L many hL fl fi ca pf eg hp d
    have HIH := Lib.hid IH
    have HX := Lib.hid (And.intro hx (And.intro hxc (And.intro hcm (And.intro hz (And.intro hbw (And.intro env hset))))))
    have hnm : x.length < many := by omega
    have hn6 : x.length ≤ 6 := by omega
    have HD := Lib.hid hd
    have d0 : ((x.length : Int) == (many : Int)) = false := by rw [beq_eq_false_iff_ne]; omega
    have c1 := blk1 env.m
    have c2 := blk1 env.p
    have c3 := blk1 env.n
    have c4 := blk1 env.g
    have l1 := heap_lt env.m
    have l3 := heap_lt env.n
    have l4 := heap_lt env.g
    clear IH hxc hcm hz hbw env hset hd hp
    go_enter Try.func86, Try.ntmps86
    go_upto_if 24 with (fail)
    go_cut [10, 24] (fun u u24 wc => u = .int .i64 (from_ : Int) ∧ W = wc)
    case first =>
      rcases hfr with ⟨hx0, rfl⟩ | ⟨y, hy, hx0, rfl⟩
      · have hl0 : x.length = 0 := by rw [hx0]; rfl
        have dd : decide (0 < x.length) = false := by simp [hl0]
        have HL0 := Lib.hid hl0
        clear hl0 hx0
        go_wp2
        go_meet
        exact ⟨rfl, rfl⟩
      · obtain ⟨bx, ox, y', rfl, hbx, hy', q0⟩ := Ints.get hx (show x.length - 1 < x.length by omega)
        obtain rfl : y' = (y : Int) := Option.some.inj (hy'.symm.trans hy)
        have e1 : IntKind.i64.wrap ((x.length : Int) - 1) = ((x.length - 1 : Nat) : Int) := by rw [IntWalk.i64_in _ (by omega)]; omega
        have y6 : (y : Int) ≤ 6 := by omega
        have x1 : (0 : Int) < (x.length : Int) := by omega
        have dd : decide (0 < x.length) = true := decide_eq_true hx0
        clear hx hy hy' hbx
        go_wp2
        go_meet
        exact ⟨by go_num, rfl⟩
    case rest =>
      obtain ⟨rfl, rfl⟩ := hcut
      clear hx hfr c1 c2
      go_wp2_with fail
      clear c3 c4
      go_loopg [11] (L - from_) (fun g v wr => ∃ i : Nat, i + g = L ∧ from_ ≤ i ∧ v = .int .i64 i ∧ (∀ j, from_ ≤ j → j < i → pickRest L pf d (j + 1) (set ||| 2 ^ j) = none) ∧ Below W.heap.size W wr)
      case atStart => exact ⟨from_, by omega, Nat.le_refl _, rfl, fun j h1 h2 => by omega, Below.refl _ _⟩
      case round =>
        obtain ⟨i, hi, hfi, rfl, hno, hbr⟩ := hrel
        have HI := Lib.hid (And.intro hi (And.intro hno hbr))
        have hiL : i ≤ L := by omega
        have env := HX.out.2.2.2.2.2.1.below hbr (Nat.le_refl _)
        clear hi hno
        have c3 := blk1 env.n
        have l3 := heap_lt env.n
        by_cases hlt : i < L
        · have i0 : (0 : Int) ≤ (i : Int) := by omega
          have i1 : (i : Int) < (L : Int) := by omega
          have c4 := blk1 env.g
          have l4 := heap_lt env.g
          go_upto_region 9 with (fail)
          have HE := Lib.hid env
          have HSI := Lib.hid (And.intro (show set < 64 from Nat.lt_of_lt_of_le HX.out.2.2.2.2.2.2 (Nat.le_trans (Nat.pow_le_pow_right (n := 2) (by omega) (show from_ ≤ 6 by omega)) (by decide))) (And.intro (show i < 6 by omega) (show set ||| 2 ^ i < 2 ^ (i + 1) from Nat.or_lt_two_pow (Nat.lt_of_lt_of_le HX.out.2.2.2.2.2.2 (Nat.pow_le_pow_right (by omega) (by omega))) (Nat.pow_lt_pow_right (by omega) (by omega)))))
          have HBS := Lib.hid (show w0.heap.size ≤ W.heap.size by omega)
          have HC : Hid (∀ k w', TB k wr w' → w'.cell? ⟨w0.heap.size + 4, 0, none⟩ = some (Value.func (.func 86) #[] #[.pointer (some ⟨w0.heap.size + 1, 0, none⟩), .pointer (some ⟨w0.heap.size + 2, 0, none⟩), .pointer (some ⟨w0.heap.size + 3, 0, none⟩), .pointer (some ⟨w0.heap.size + 4, 0, none⟩)])) :=
            Lib.hid fun k w' h => bcell c4 h (Nat.le_refl _)
          clear env c3 c4 hbr
          obtain ⟨X, hX⟩ : ∃ X, X = x ++ [(i : Int)] := ⟨_, rfl⟩
          have HXX := Lib.hid (And.intro hX (And.intro (show X.length = x.length + 1 by rw [hX]; simp) (show X[X.length - 1]? = some (i : Int) by rw [hX]; simp)))
          clear hX
          cases hr : pickRest L pf d (i + 1) (set ||| 2 ^ i) with
          | none =>
            have HR := Lib.hid hr
            clear hr
            refine wp_region_inv (TB) (by kernel_rfl) (by kernel_rfl) TB.tr (TB.draw _) ?_
            apply Exists.intro
            refine ⟨fun ys => ?_, fun ops K hK => ?_⟩
            · simp only [dstsOf, List.filterMap_cons, List.filterMap_nil, putAll]
              go_simp
              rfl
            repeat
              refine LexI.const TB.rf ?_
              apply Exists.intro
              refine ⟨fun n' ys w' hn' hT hd => ?_, ?_⟩
              · try simp [DepsOf, depsGo, DF.holds, Region.binds, EqF] at hd
                obtain y0 := HC.out n' w' hT
                intro Q2 hQ2
                go_wp2_with fail
                rfl
              try simp only [List.nil_append, List.cons_append]
            refine LexI.some (EqF (.slice A x.length x.length)) (EqF.st) (fun n' ys w' hn' hT hd => ?_) ?_
            · try simp [DepsOf, depsGo, DF.holds, Region.binds, EqF] at hd
              try simp only [hd]
              have hxc2 := HX.out.2.1
              intro Q2 hQ2
              go_wp2_with fail
              exact ⟨TB.rf _, rfl⟩
            try simp only [List.nil_append, List.cons_append]
            repeat
              refine LexI.const TB.rf ?_
              apply Exists.intro
              refine ⟨fun n' ys w' hn' hT hd => ?_, ?_⟩
              · try simp [DepsOf, depsGo, DF.holds, Region.binds, EqF] at hd
                obtain y0 := HC.out n' w' hT
                intro Q2 hQ2
                go_wp2_with fail
                rfl
              try simp only [List.nil_append, List.cons_append]
            refine LexI.some (OneF (i : Int)) (OneF.st) (fun n' ys w' hn' hT hd => ?_) ?_
            · try simp [DepsOf, depsGo, DF.holds, Region.binds, EqF] at hd
              try simp only [hd]
              intro Q2 hQ2
              go_wp2_with fail
              exact ⟨bal0 _ _, w'.heap.size, rfl, heap_alloc_new w' _⟩
            try simp only [List.nil_append, List.cons_append]
            refine LexI.some (SlcF X) (SlcF.st) (fun n' ys w' hn' hT hd => ?_) ?_
            · try simp [DepsOf, depsGo, DF.holds, Region.binds, EqF] at hd
              try simp only [hd]
              obtain ⟨h45, b, h47, hb47⟩ := hd
              simp only [h45, h47]
              intro Q2 hQ2
              obtain ⟨ii, zz, hii, hzz, hsz, hby, hzs⟩ := okInt.info
              have hxw := HX.out.1.below (HI.out.2.2.trans (hT.mono HI.out.2.2.size)) (Nat.le_refl _)
              refine wpList_append_grows (P := Try.prog) w' rfl (.tmp 45) (.tmp 47) 22 rfl 3 ii zz 1 8 okInt.sl hii hzz hsz hby hzs (by decide) A x.length x.length (x.flatMap eInt) rfl (fun h => ⟨(HX.out.2.2.2.1 h).1, (HX.out.2.2.2.1 h).1⟩) (flat_len lenInt x) (ints_cells hxw) ⟨b, 0, none⟩ 1 1 [Value.int .i64 (i : Int)] rfl rfl (fun j u hu => ?_) (one_eInt _) (by omega) (by unfold maxLen; omega) (by omega) ?_
              · cases j with
                | zero => simp at hu; subst hu; exact blk1 hb47
                | succ j => simp at hu
              intro v' w2 hown hg
              have hown' : OwnI w2 w'.heap.size v' X := by
                rw [HXX.out.1]
                unfold OwnI Own
                rw [List.flatMap_append, List.length_append]
                exact hown
              obtain ⟨A', c', hv', k1, k2, k3, k4⟩ := own_shape hown' lenInt
              subst hv'
              have HZ := Lib.hid (And.intro (show TB 1 w' w2 from (Below.refl _ _).grown hg (Nat.le_refl _) (fun k hk => by cases hk)) (show SlcF X (.slice A' X.length c') w2 from ⟨A', c', rfl, k1, k2, k3, fun h => by have := k4 h; omega⟩))
              clear hown hg hown' k1 k2 k3 k4 hxw hii hzz hsz hby hzs
              go_wp2
              first
                | exact HZ.out
                | exact ⟨_, rfl, HZ.out⟩
            try simp only [List.nil_append, List.cons_append]
            repeat
              refine LexI.const TB.rf ?_
              apply Exists.intro
              refine ⟨fun n' ys w' hn' hT hd => ?_, ?_⟩
              · try simp [DepsOf, depsGo, DF.holds, Region.binds, EqF] at hd
                obtain y0 := HC.out n' w' hT
                intro Q2 hQ2
                go_wp2_with fail
                rfl
              try simp only [List.nil_append, List.cons_append]
            refine LexI.some (ResN) (ResN.st) (fun n' ys w' hn' hT hd => ?_) ?_
            · try simp [DepsOf, depsGo, DF.holds, Region.binds, EqF] at hd
              try simp only [hd]
              obtain ⟨h39, ⟨A', c', h48, hrd⟩, h53, -⟩ := hd
              have hbits := bits_or64 set i HSI.out.1 HSI.out.2.1
              simp only [h39, h48, h53, hbits]
              intro Q2 hQ2
              have hb' := HI.out.2.2.trans (hT.mono HI.out.2.2.size)
              have hci := HIH.out w' A' c' X (set ||| 2 ^ i) (i + 1) (HX.out.2.2.2.2.1.trans (hb'.mono HBS.out)) (HE.out.below hT (Nat.le_refl _)) hrd.1 hrd.2.1 hrd.2.2.1 hrd.2.2.2 (by have := HD.out; have := HXX.out.2.1; omega) (.inr ⟨i, HXX.out.2.2, by have := HXX.out.2.1; omega, rfl⟩) (by omega) HSI.out.2.2 (by have := HXX.out.2.1; omega)
              rw [HR.out] at hci
              have HCI := Lib.hid hci
              clear hci hrd hb'
              go_wp2_with fail
              (with_reducible refine HCI.out.mono ?_)
              rintro e wU ⟨hres, hU⟩
              obtain ⟨v, rfl⟩ := hres
              have HU := Lib.hid hU
              clear hU
              go_wp2
              exact ⟨_, rfl, HU.out, v, rfl⟩
            try simp only [List.nil_append, List.cons_append]
            refine LexI.some (ResN) (ResN.st) (fun n' ys w' hn' hT hd => ?_) ?_
            · try simp [DepsOf, depsGo, DF.holds, Region.binds, EqF] at hd
              try simp only [hd]
              obtain ⟨u, h54⟩ := hd
              simp only [h54]
              intro Q2 hQ2
              go_wp2_with fail
              exact ⟨TB.rf _, u, rfl⟩
            try simp only [List.nil_append, List.cons_append]
            refine LexI.some (AnyF) (AnyF.st) (fun n' ys w' hn' hT hd => ?_) ?_
            · try simp [DepsOf, depsGo, DF.holds, Region.binds, EqF] at hd
              try simp only [hd]
              obtain ⟨u, h54⟩ := hd
              simp only [h54]
              intro Q2 hQ2
              go_wp2_with fail
              first
                | exact ⟨TB.rf _, trivial⟩
                | exact TB.rf _
            try simp only [List.nil_append, List.cons_append]
            refine LexI.some (EqF (.bool false)) (EqF.st) (fun n' ys w' hn' hT hd => ?_) ?_
            · try simp [DepsOf, depsGo, DF.holds, Region.binds, EqF] at hd
              try simp only [hd]
              obtain ⟨u, h54⟩ := hd
              simp only [h54]
              intro Q2 hQ2
              go_wp2_with fail
              exact ⟨TB.rf _, rfl⟩
            try simp only [List.nil_append, List.cons_append]
            refine LexI.some (AnyF) (AnyF.st) (fun n' ys w' hn' hT hd => ?_) ?_
            · try simp [DepsOf, depsGo, DF.holds, Region.binds, EqF] at hd
              try simp only [hd]
              intro Q2 hQ2
              go_wp2_with fail
              first
                | exact ⟨TB.rf _, trivial⟩
                | exact TB.rf _
            try simp only [List.nil_append, List.cons_append]
            repeat
              refine LexI.const TB.rf ?_
              apply Exists.intro
              refine ⟨fun n' ys w' hn' hT hd => ?_, ?_⟩
              · try simp [DepsOf, depsGo, DF.holds, Region.binds, EqF] at hd
                obtain y0 := HC.out n' w' hT
                intro Q2 hQ2
                go_wp2_with fail
                rfl
              try simp only [List.nil_append, List.cons_append]
            refine hK _ (fun n' ys wc hn' hT hF => ?_)
            simp only [AllF, DF.holds] at hF
            obtain ⟨-, -, -, -, -, -, -, -, -, -, -, -, -, -, -, -, -, -, -, -, e13, -⟩ := hF
            simp only [e13]
            have HBC := Lib.hid (HI.out.2.2.trans (Below.mono hT HI.out.2.2.size))
            clear hT e13
            go_wp2
            go_roundg (gk - 1)
            case measure => have := HI.out.1; omega
            case rel =>
              refine ⟨i + 1, by have := HI.out.1; omega, by omega, by go_num, fun j h1 h2 => ?_, HBC.out⟩
              by_cases hji : j = i
              · subst hji; exact HR.out
              · exact HI.out.2.1 j h1 (by omega)
          | some q =>
            obtain ⟨XQ, hXQ⟩ : ∃ XQ, XQ = X ++ q := ⟨_, rfl⟩
            have HXQ := Lib.hid (show XQ = x ++ ((i : Int) :: q) by rw [hXQ, HXX.out.1]; simp)
            have HXQ2 := Lib.hid hXQ.symm
            have HR := Lib.hid hr
            clear hXQ
            clear hr
            refine wp_region_inv (TB) (by kernel_rfl) (by kernel_rfl) TB.tr (TB.draw _) ?_
            apply Exists.intro
            refine ⟨fun ys => ?_, fun ops K hK => ?_⟩
            · simp only [dstsOf, List.filterMap_cons, List.filterMap_nil, putAll]
              go_simp
              rfl
            repeat
              refine LexI.const TB.rf ?_
              apply Exists.intro
              refine ⟨fun n' ys w' hn' hT hd => ?_, ?_⟩
              · try simp [DepsOf, depsGo, DF.holds, Region.binds, EqF] at hd
                obtain y0 := HC.out n' w' hT
                intro Q2 hQ2
                go_wp2_with fail
                rfl
              try simp only [List.nil_append, List.cons_append]
            refine LexI.some (EqF (.slice A x.length x.length)) (EqF.st) (fun n' ys w' hn' hT hd => ?_) ?_
            · try simp [DepsOf, depsGo, DF.holds, Region.binds, EqF] at hd
              try simp only [hd]
              have hxc2 := HX.out.2.1
              intro Q2 hQ2
              go_wp2_with fail
              exact ⟨TB.rf _, rfl⟩
            try simp only [List.nil_append, List.cons_append]
            repeat
              refine LexI.const TB.rf ?_
              apply Exists.intro
              refine ⟨fun n' ys w' hn' hT hd => ?_, ?_⟩
              · try simp [DepsOf, depsGo, DF.holds, Region.binds, EqF] at hd
                obtain y0 := HC.out n' w' hT
                intro Q2 hQ2
                go_wp2_with fail
                rfl
              try simp only [List.nil_append, List.cons_append]
            refine LexI.some (OneF (i : Int)) (OneF.st) (fun n' ys w' hn' hT hd => ?_) ?_
            · try simp [DepsOf, depsGo, DF.holds, Region.binds, EqF] at hd
              try simp only [hd]
              intro Q2 hQ2
              go_wp2_with fail
              exact ⟨bal0 _ _, w'.heap.size, rfl, heap_alloc_new w' _⟩
            try simp only [List.nil_append, List.cons_append]
            refine LexI.some (SlcF X) (SlcF.st) (fun n' ys w' hn' hT hd => ?_) ?_
            · try simp [DepsOf, depsGo, DF.holds, Region.binds, EqF] at hd
              try simp only [hd]
              obtain ⟨h45, b, h47, hb47⟩ := hd
              simp only [h45, h47]
              intro Q2 hQ2
              obtain ⟨ii, zz, hii, hzz, hsz, hby, hzs⟩ := okInt.info
              have hxw := HX.out.1.below (HI.out.2.2.trans (hT.mono HI.out.2.2.size)) (Nat.le_refl _)
              refine wpList_append_grows (P := Try.prog) w' rfl (.tmp 45) (.tmp 47) 22 rfl 3 ii zz 1 8 okInt.sl hii hzz hsz hby hzs (by decide) A x.length x.length (x.flatMap eInt) rfl (fun h => ⟨(HX.out.2.2.2.1 h).1, (HX.out.2.2.2.1 h).1⟩) (flat_len lenInt x) (ints_cells hxw) ⟨b, 0, none⟩ 1 1 [Value.int .i64 (i : Int)] rfl rfl (fun j u hu => ?_) (one_eInt _) (by omega) (by unfold maxLen; omega) (by omega) ?_
              · cases j with
                | zero => simp at hu; subst hu; exact blk1 hb47
                | succ j => simp at hu
              intro v' w2 hown hg
              have hown' : OwnI w2 w'.heap.size v' X := by
                rw [HXX.out.1]
                unfold OwnI Own
                rw [List.flatMap_append, List.length_append]
                exact hown
              obtain ⟨A', c', hv', k1, k2, k3, k4⟩ := own_shape hown' lenInt
              subst hv'
              have HZ := Lib.hid (And.intro (show TB 1 w' w2 from (Below.refl _ _).grown hg (Nat.le_refl _) (fun k hk => by cases hk)) (show SlcF X (.slice A' X.length c') w2 from ⟨A', c', rfl, k1, k2, k3, fun h => by have := k4 h; omega⟩))
              clear hown hg hown' k1 k2 k3 k4 hxw hii hzz hsz hby hzs
              go_wp2
              first
                | exact HZ.out
                | exact ⟨_, rfl, HZ.out⟩
            try simp only [List.nil_append, List.cons_append]
            repeat
              refine LexI.const TB.rf ?_
              apply Exists.intro
              refine ⟨fun n' ys w' hn' hT hd => ?_, ?_⟩
              · try simp [DepsOf, depsGo, DF.holds, Region.binds, EqF] at hd
                obtain y0 := HC.out n' w' hT
                intro Q2 hQ2
                go_wp2_with fail
                rfl
              try simp only [List.nil_append, List.cons_append]
            refine LexI.some (ResS (XQ)) (ResS.st) (fun n' ys w' hn' hT hd => ?_) ?_
            · try simp [DepsOf, depsGo, DF.holds, Region.binds, EqF] at hd
              try simp only [hd]
              obtain ⟨h39, ⟨A', c', h48, hrd⟩, h53, -⟩ := hd
              have hbits := bits_or64 set i HSI.out.1 HSI.out.2.1
              simp only [h39, h48, h53, hbits]
              intro Q2 hQ2
              have hb' := HI.out.2.2.trans (hT.mono HI.out.2.2.size)
              have hci := HIH.out w' A' c' X (set ||| 2 ^ i) (i + 1) (HX.out.2.2.2.2.1.trans (hb'.mono HBS.out)) (HE.out.below hT (Nat.le_refl _)) hrd.1 hrd.2.1 hrd.2.2.1 hrd.2.2.2 (by have := HD.out; have := HXX.out.2.1; omega) (.inr ⟨i, HXX.out.2.2, by have := HXX.out.2.1; omega, rfl⟩) (by omega) HSI.out.2.2 (by have := HXX.out.2.1; omega)
              rw [HR.out] at hci
              have HCI := Lib.hid hci
              clear hci hrd hb'
              go_wp2_with fail
              (with_reducible refine HCI.out.mono ?_)
              rintro e wU ⟨hres, hU⟩
              unfold LRes at hres
              simp only [HXQ2.out] at hres
              obtain ⟨Aq, cq, rfl, kq⟩ := hres
              have HU := Lib.hid hU
              clear hU
              go_wp2
              exact ⟨_, rfl, HU.out, Aq, cq, rfl, kq⟩
            try simp only [List.nil_append, List.cons_append]
            refine LexI.some (ResS (XQ)) (ResS.st) (fun n' ys w' hn' hT hd => ?_) ?_
            · try simp [DepsOf, depsGo, DF.holds, Region.binds, EqF] at hd
              try simp only [hd]
              obtain ⟨Aq, cq, h54, hq⟩ := hd
              simp only [h54]
              intro Q2 hQ2
              go_wp2_with fail
              exact ⟨TB.rf _, Aq, cq, rfl, hq⟩
            try simp only [List.nil_append, List.cons_append]
            refine LexI.some (SlcF (XQ)) (SlcF.st) (fun n' ys w' hn' hT hd => ?_) ?_
            · try simp [DepsOf, depsGo, DF.holds, Region.binds, EqF] at hd
              try simp only [hd]
              obtain ⟨Aq, cq, h54, hq⟩ := hd
              simp only [h54]
              intro Q2 hQ2
              go_wp2_with fail
              exact ⟨TB.rf _, Aq, cq, rfl, hq⟩
            try simp only [List.nil_append, List.cons_append]
            refine LexI.some (EqF (.bool true)) (EqF.st) (fun n' ys w' hn' hT hd => ?_) ?_
            · try simp [DepsOf, depsGo, DF.holds, Region.binds, EqF] at hd
              try simp only [hd]
              obtain ⟨Aq, cq, h54, hq⟩ := hd
              simp only [h54]
              intro Q2 hQ2
              go_wp2_with fail
              exact ⟨TB.rf _, rfl⟩
            try simp only [List.nil_append, List.cons_append]
            refine LexI.some (SlcF (XQ)) (SlcF.st) (fun n' ys w' hn' hT hd => ?_) ?_
            · try simp [DepsOf, depsGo, DF.holds, Region.binds, EqF] at hd
              try simp only [hd]
              obtain ⟨⟨Aq, cq, h55, hq⟩, -⟩ := hd
              simp only [h55]
              intro Q2 hQ2
              go_wp2_with fail
              exact ⟨TB.rf _, Aq, cq, rfl, hq⟩
            try simp only [List.nil_append, List.cons_append]
            repeat
              refine LexI.const TB.rf ?_
              apply Exists.intro
              refine ⟨fun n' ys w' hn' hT hd => ?_, ?_⟩
              · try simp [DepsOf, depsGo, DF.holds, Region.binds, EqF] at hd
                obtain y0 := HC.out n' w' hT
                intro Q2 hQ2
                go_wp2_with fail
                rfl
              try simp only [List.nil_append, List.cons_append]
            refine hK _ (fun n' ys wc hn' hT hF => ?_)
            simp only [AllF, DF.holds] at hF
            obtain ⟨-, -, -, -, -, -, -, -, -, -, -, -, -, -, -, -, -, -, -, ⟨Aq, cq, e12, hq⟩, e13, -⟩ := hF
            simp only [e13, e12]
            have HBC := Lib.hid (HI.out.2.2.trans (Below.mono hT HI.out.2.2.size))
            have HQ := Lib.hid hq
            clear hT e13 e12 hq
            go_wp2
            go_ret2
            refine ⟨?_, HBC.out⟩
            have hsome : pickRest L pf (d + 1) from_ set = some ((i : Int) :: q) := by
              unfold pickRest
              refine find_range (i := i) (by omega) (by omega) (fun j h1 h2 => ?_) ?_
              · rw [HI.out.2.1 j h1 h2]; rfl
              · rw [HR.out]; rfl
            rw [hsome]
            unfold LRes
            dsimp only
            rw [← HXQ.out]
            exact ⟨Aq, cq, rfl, HQ.out⟩
        · obtain rfl : i = L := by omega
          go_wp2
          go_ret2
          refine ⟨?_, HI.out.2.2⟩
          have hnone : pickRest i pf (d + 1) from_ set = none := by
            unfold pickRest
            rw [List.findSome?_eq_none_iff]
            intro j hj
            rw [List.mem_range'_1] at hj
            rw [HI.out.2.1 j hj.1 (by omega)]
            rfl
          rw [hnone]
          exact ⟨_, rfl⟩
end Go.Proofs.Ytgnjknihgjdedaa
