/- Plain laws of givings: the search finds the first one of all lists.
   Plain laws of MarkHome: all givings, gone through. -/
import Derived.Test.YtoidaigiejilcaaWords
import Derived.Test.YtoidaigiejilcaaGives
import Derived.Test.YtoidaigiejilcaaOwners
import Derived.Test.YtoidaigiejilcaaLaw
namespace Go.Proofs.Ytoidaigiejilcaa
set_option linter.unusedVariables false
set_option linter.unusedSimpArgs false

def goodR (may : List (List Int)) (mis : List Int) (lf : Nat → Int → Bool) (L : Nat) : Nat → Cn → List Int → Bool
  | 0, _, _ => true
  | n + 1, c, [] => false
  | n + 1, c, o :: r => ((may.getD (L - (n + 1)) []).contains o && (decide (c.at o.toNat < mis.getD o.toNat 0) && lf (L - (n + 1)) o)) && goodR may mis lf L n (c.up o.toNat) r
theorem findSome_filter {α β : Type} (p : α → Bool) (h : α → Option β) : ∀ l : List α, (l.filter p).findSome? h = l.findSome? fun i => if p i then h i else none
  | [] => rfl
  | a :: l => by
    by_cases hp : p a = true
    · rw [List.filter_cons_of_pos hp, List.findSome?_cons, List.findSome?_cons, if_pos hp, findSome_filter p h l]
    · rw [List.filter_cons_of_neg hp, List.findSome?_cons, if_neg hp, findSome_filter p h l]
theorem findSome_map {α β γ : Type} (f : α → γ) (h : γ → Option β) : ∀ l : List α, (l.map f).findSome? h = l.findSome? fun i => h (f i)
  | [] => rfl
  | a :: l => by rw [List.map_cons, List.findSome?_cons, List.findSome?_cons, findSome_map f h l]
theorem find_flat {α β : Type} (f : α → List β) (p : β → Bool) : ∀ l : List α, (l.flatMap f).find? p = l.findSome? fun i => (f i).find? p
  | [] => rfl
  | a :: l => by
    rw [List.flatMap_cons, List.find?_append, List.findSome?_cons, find_flat f p l]
    cases (f a).find? p <;> rfl
theorem findSome_congr {α β : Type} {f g : α → Option β} : ∀ {l : List α}, (∀ a ∈ l, f a = g a) → l.findSome? f = l.findSome? g
  | [], _ => rfl
  | a :: l, h => by rw [List.findSome?_cons, List.findSome?_cons, h a (by simp), findSome_congr fun b hb => h b (by simp [hb])]
theorem find_map' {α β : Type} (f : α → β) (p : β → Bool) : ∀ l : List α, (l.map f).find? p = (l.find? fun a => p (f a)).map f
  | [] => rfl
  | a :: l => by
    rw [List.map_cons, List.find?_cons, List.find?_cons, find_map' f p l]
    cases p (f a) <;> rfl
theorem find_congr {α : Type} {p q : α → Bool} : ∀ {l : List α}, (∀ a ∈ l, p a = q a) → l.find? p = l.find? q
  | [], _ => rfl
  | a :: l, h => by rw [List.find?_cons, List.find?_cons, h a (by simp), find_congr fun b hb => h b (by simp [hb])]
theorem find_false {α : Type} (l : List α) : l.find? (fun _ => false) = none := by
  rw [List.find?_eq_none]; intro a _ h; cases h
theorem rest_find {b N L : Nat} {may : List (List Int)} {mis : List Int} {lf : Nat → Int → Bool} (hrow : ∀ k, ∃ p : Nat → Bool, may.getD k [] = ((List.range N).filter p).map Int.ofNat) :
    ∀ n c, Srch.rest ⟨b, L, may, mis, 0, lf⟩ n c = (wordsL N n).find? (goodR may mis lf L n c)
  | 0, c => rfl
  | n + 1, c => by
    unfold Srch.rest wordsL
    rw [if_neg (by simp), find_flat]
    obtain ⟨p, hp⟩ := hrow (L - (n + 1))
    dsimp only
    rw [hp, findSome_map, findSome_filter]
    refine findSome_congr fun i hi => ?_
    rw [find_map']
    have hc : (may.getD (L - (n + 1)) []).contains (Int.ofNat i) = p i := by
      rw [hp, Bool.eq_iff_iff, List.contains_eq_mem, decide_eq_true_eq, List.mem_map]
      constructor
      · rintro ⟨a, ha, he⟩
        have : a = i := by injection he
        subst this
        exact (List.mem_filter.1 ha).2
      · intro h
        exact ⟨i, List.mem_filter.2 ⟨hi, h⟩, rfl⟩
    have hg : ∀ r, goodR may mis lf L (n + 1) c ((i : Int) :: r) = ((p i && (decide (c.at i < mis.getD i 0) && lf (L - (n + 1)) i)) && goodR may mis lf L n (c.up i) r) := by
      intro r
      show (((may.getD (L - (n + 1)) []).contains (i : Int) && _) && _) = _
      rw [show (may.getD (L - (n + 1)) []).contains (i : Int) = p i from hc]
      rfl
    simp only [hg]
    rw [rest_find hrow n]
    cases hpi : p i
    · simp only [Bool.false_and, find_false]; rfl
    · simp only [Bool.true_and, if_true]
      show (if (decide (c.at i < mis.getD i 0) && lf (L - (n + 1)) (i : Int)) = true then _ else none) = _
      cases hq : (decide (c.at i < mis.getD i 0) && lf (L - (n + 1)) (i : Int))
      · simp only [Bool.false_and, find_false]; rfl
      · simp only [Bool.true_and, if_true]; rfl
theorem cntI_cons (y : Int) (x : List Int) (o : Int) : cntI (y :: x) o = cntI x o + if y = o then 1 else 0 := by
  unfold cntI
  rw [List.countP_cons]
  by_cases h : y = o <;> simp [h]
theorem cntI_zero {x : List Int} {o : Int} (h : o ∉ x) : cntI x o = 0 := by
  unfold cntI
  rw [List.countP_eq_zero]
  intro a ha he
  simp at he
  subst he
  exact h ha
/-- what a good rest is -/
theorem good_iff {N L : Nat} {may : List (List Int)} {mis : List Int} {lf : Nat → Int → Bool} (hN : N ≤ 5) : ∀ (n : Nat) (c : Cn) (r : List Int), n ≤ L → r ∈ wordsL N n →
    (goodR may mis lf L n c r = true ↔ (∀ (j : Nat) (o : Int), r[j]? = some o → o ∈ may.getD (L - n + j) [] ∧ lf (L - n + j) o = true) ∧ ∀ o : Nat, (o : Int) ∈ r → c.at o + (cntI r o : Int) ≤ mis.getD o 0)
  | 0, c, r, _, hr => by
    simp [wordsL] at hr
    subst hr
    simp [goodR]
  | n + 1, c, r, hn, hr => by
    obtain ⟨i, hi, h2⟩ := List.mem_flatMap.1 hr
    obtain ⟨q, hq, rfl⟩ := List.mem_map.1 h2
    have hi5 : i < 5 := by have := List.mem_range.1 hi; omega
    have hqm := (wordsL_mem hq).2
    have ih := good_iff (L := L) (may := may) (mis := mis) (lf := lf) hN n (c.up i) q (by omega) hq
    show (((may.getD (L - (n + 1)) []).contains (i : Int) && (decide (c.at i < mis.getD i 0) && lf (L - (n + 1)) i)) && goodR may mis lf L n (c.up i) q) = true ↔ _
    rw [Bool.and_eq_true, Bool.and_eq_true, Bool.and_eq_true, ih, List.contains_eq_mem, decide_eq_true_eq, decide_eq_true_eq]
    constructor
    · rintro ⟨⟨h1, h2, h3⟩, h4, h5⟩
      refine ⟨fun j o hj => ?_, fun o ho => ?_⟩
      · cases j with
        | zero => simp at hj; subst hj; exact ⟨h1, h3⟩
        | succ j =>
          have := h4 j o (by simpa using hj)
          rw [show L - (n + 1) + (j + 1) = L - n + j by omega]
          exact this
      · rw [cntI_cons]
        by_cases ho2 : (o : Int) ∈ q
        · have h6 := h5 o ho2
          have ho5 : o < 5 := by have := (hqm o ho2).2; omega
          rw [Cn.up_at c hi5 ho5] at h6
          by_cases hoi : o = i
          · subst hoi; rw [if_pos rfl] at h6; rw [if_pos rfl]; omega
          · rw [if_neg hoi] at h6; rw [if_neg (by omega)]; omega
        · rw [cntI_zero ho2]
          have hoi : (o : Int) = (i : Int) := by
            rcases List.mem_cons.1 ho with h | h
            · exact h
            · exact absurd h ho2
          have : o = i := by omega
          subst this
          rw [if_pos rfl]
          omega
    · rintro ⟨h1, h2⟩
      have h0 := h1 0 i rfl
      have h3 := h2 i (by simp)
      rw [cntI_cons, if_pos rfl] at h3
      refine ⟨⟨h0.1, by omega, h0.2⟩, fun j o hj => ?_, fun o ho => ?_⟩
      · have := h1 (j + 1) o (by simpa using hj)
        rw [show L - (n + 1) + (j + 1) = L - n + j by omega] at this
        exact this
      · have h6 := h2 o (by simp [ho])
        have ho5 : o < 5 := by have := (hqm o ho).2; omega
        rw [Cn.up_at c hi5 ho5]
        rw [cntI_cons] at h6
        by_cases hoi : o = i
        · subst hoi; rw [if_pos rfl] at h6 ⊢; omega
        · rw [if_neg hoi]; rw [if_neg (by omega)] at h6; omega
theorem mays_getD {t : Int} {l : List Mk} {ss : List Sg} {k : Nat} {s : Sg} (hs : ss[k]? = some s) : (mays t l ss).getD k [] = mayL t l s := by
  unfold mays
  rw [List.getD_eq_getElem?_getD, List.getElem?_map, hs]
  rfl
/-- the search finds the first list that is a giving and is let -/
theorem give_find {t : Int} {l : List Mk} {ss : List Sg} {mis : List Int} (hn5 : l.length ≤ 5) (hmis : ∀ x ∈ mis, 0 ≤ x) (lf : Nat → Int → Bool) :
    giveL (mays t l ss) mis 0 lf = (wordsL l.length ss.length).find? fun x => givesB t l ss mis x && (List.range ss.length).all fun p => lf p (x.getD p 0) := by
  have hL : (mays t l ss).length = ss.length := by unfold mays; simp
  unfold giveL Srch.all
  dsimp only
  rw [rest_find (N := l.length), hL]
  · refine find_congr fun x hx => ?_
    obtain ⟨hxl, hxv⟩ := wordsL_mem hx
    rw [Bool.eq_iff_iff, good_iff hn5 ss.length _ x (Nat.le_refl _) hx]
    unfold givesB
    simp only [Bool.and_eq_true, List.all_eq_true, List.mem_range, decide_eq_true_eq, hxl, Nat.sub_self, Nat.zero_add]
    have hat : ∀ o : Nat, (⟨0, 0, 0, 0, 0, 0⟩ : Cn).at o = 0 := fun o => by unfold Cn.at; split <;> rfl
    simp only [hat, Int.zero_add]
    have hfit : ∀ (j : Nat) (o : Int), x[j]? = some o → (o ∈ (mays t l ss).getD j [] ↔ fitAt t l ss x j = true) := by
      intro j o hj
      have hjl : j < ss.length := by have := (List.getElem?_eq_some_iff.1 hj).1; omega
      have hs := List.getElem?_eq_getElem hjl
      obtain ⟨h0, h1⟩ := hxv o (List.mem_of_getElem? hj)
      obtain ⟨on, rfl⟩ := Int.eq_ofNat_of_zero_le h0
      have hon : on < l.length := by omega
      have hm := List.getElem?_eq_getElem hon
      rw [mays_getD hs, mayL_iff hm]
      unfold fitAt mkAt
      rw [List.getD_eq_getElem?_getD, hj, List.getD_eq_getElem?_getD, hs]
      have hd : decide ((on : Int) < 0) = false := decide_eq_false (by omega)
      simp only [Option.getD_some, hd, Bool.false_or]
      simp [hm]
    constructor
    · rintro ⟨h1, h2⟩
      refine ⟨⟨fun o ho => ?_, fun j hj => ?_⟩, fun p hp => ?_⟩
      · by_cases hm : (o : Int) ∈ x
        · exact h2 o hm
        · rw [cntI_zero hm, List.getD_eq_getElem?_getD]
          cases hmo : mis[o]? with
          | none => simp
          | some z => have := hmis z (List.mem_of_getElem? hmo); simpa using this
      · have hj' := List.getElem?_eq_getElem (show j < x.length by omega)
        exact (hfit j _ hj').1 (h1 j _ hj').1
      · have hj' := List.getElem?_eq_getElem (show p < x.length by omega)
        rw [List.getD_eq_getElem?_getD, hj']
        exact (h1 p _ hj').2
    · rintro ⟨⟨h1, h2⟩, h3⟩
      refine ⟨fun j o hj => ⟨(hfit j o hj).2 (h2 j (by have := (List.getElem?_eq_some_iff.1 hj).1; omega)), ?_⟩, fun o ho => h1 o (by have := (hxv o ho).2; omega)⟩
      have := h3 j (by have := (List.getElem?_eq_some_iff.1 hj).1; omega)
      rwa [List.getD_eq_getElem?_getD, hj] at this
  · intro k
    cases hs : ss[k]? with
    | none =>
      refine ⟨fun _ => false, ?_⟩
      unfold mays
      rw [List.getD_eq_getElem?_getD, List.getElem?_map, hs, List.filter_eq_nil_iff.2 (by simp)]
      rfl
    | some s => exact ⟨_, mays_getD hs⟩
end Go.Proofs.Ytoidaigiejilcaa

namespace Go.Proofs.Ytoidaigiejilcaa
set_option linter.unusedVariables false
set_option linter.unusedSimpArgs false

theorem find_first {α : Type} {p : α → Bool} : ∀ {l : List α} {j : Nat} {x : α}, l[j]? = some x → p x = true → (∀ (j' : Nat) x', j' < j → l[j']? = some x' → p x' = false) → l.find? p = some x
  | a :: l, 0, x, hx, hp, _ => by
    simp at hx; subst hx
    rw [List.find?_cons, hp]
  | a :: l, j + 1, x, hx, hp, h => by
    have h0 := h 0 a (by omega) rfl
    rw [List.find?_cons, h0]
    exact find_first (l := l) (j := j) (by simpa using hx) hp fun j' x' hj hx' => h (j' + 1) x' (by omega) (by simpa using hx')
  | [], j, x, hx, _, _ => by simp at hx
/-- the place of the first giving among the first i, -1 if there is none -/
def FirstIs (p : List Int → Bool) (all : List (List Int)) (i : Nat) (f : Int) : Prop :=
  (f = -1 ∧ ∀ (j : Nat) x, j < i → all[j]? = some x → p x = false) ∨ ∃ j : Nat, f = j ∧ j < i ∧ ∃ x, all[j]? = some x ∧ p x = true ∧ ∀ (j' : Nat) x', j' < j → all[j']? = some x' → p x' = false
theorem FirstIs.zero {p : List Int → Bool} {all : List (List Int)} : FirstIs p all 0 (-1) := .inl ⟨rfl, fun j x h => by omega⟩
theorem FirstIs.no {p : List Int → Bool} {all : List (List Int)} {i : Nat} {f : Int} {x : List Int} (h : FirstIs p all i f) (hx : all[i]? = some x) (hp : p x = false) : FirstIs p all (i + 1) f := by
  rcases h with ⟨h1, h2⟩ | ⟨j, h1, h2, h3⟩
  · refine .inl ⟨h1, fun j y hj hy => ?_⟩
    by_cases hji : j = i
    · subst hji; rw [hx] at hy; cases hy; exact hp
    · exact h2 j y (by omega) hy
  · exact .inr ⟨j, h1, by omega, h3⟩
theorem FirstIs.yes {p : List Int → Bool} {all : List (List Int)} {i : Nat} {x : List Int} (h : FirstIs p all i (-1)) (hx : all[i]? = some x) (hp : p x = true) : FirstIs p all (i + 1) i := by
  rcases h with ⟨h1, h2⟩ | ⟨j, h1, h2, h3⟩
  · exact .inr ⟨i, rfl, by omega, x, hx, hp, fun j' x' h => h2 j' x' h⟩
  · omega
theorem FirstIs.more {p : List Int → Bool} {all : List (List Int)} {i : Nat} {f : Int} (h : FirstIs p all i f) (hf : 0 ≤ f) : FirstIs p all (i + 1) f := by
  rcases h with ⟨h1, h2⟩ | ⟨j, h1, h2, h3⟩
  · omega
  · exact .inr ⟨j, h1, by omega, h3⟩
theorem FirstIs.lo {p : List Int → Bool} {all : List (List Int)} {i : Nat} {f : Int} (h : FirstIs p all i f) : f = -1 ∨ 0 ≤ f ∧ f < i := by
  rcases h with ⟨h1, h2⟩ | ⟨j, h1, h2, h3⟩ <;> omega

/-- some giving among the first i has the owner o for the stray k -/
def hasB (p : List Int → Bool) (all : List (List Int)) (i k o : Nat) : Bool := (all.take i).any fun x => p x && decide (x.getD k 0 = (o : Int))
theorem hasB_no {p : List Int → Bool} {all : List (List Int)} {i k o : Nat} {x : List Int} (hx : all[i]? = some x) (hp : p x = false) : hasB p all (i + 1) k o = hasB p all i k o := by
  unfold hasB; rw [List.take_add_one, hx, List.any_append]; simp [hp]
theorem hasB_yes {p : List Int → Bool} {all : List (List Int)} {i k o : Nat} {x : List Int} (hx : all[i]? = some x) (hp : p x = true) : hasB p all (i + 1) k o = (hasB p all i k o || decide (x.getD k 0 = (o : Int))) := by
  unfold hasB; rw [List.take_add_one, hx, List.any_append]; simp [hp]
theorem idx_inj {n a b c d : Nat} (hb : b < n) (hd : d < n) (h : a * n + b = c * n + d) : a = c ∧ b = d := by
  have hn : 0 < n := by omega
  have h1 : (a * n + b) / n = a := by rw [Nat.mul_comm, Nat.mul_add_div hn, Nat.div_eq_of_lt hb, Nat.add_zero]
  have h2 : (c * n + d) / n = c := by rw [Nat.mul_comm, Nat.mul_add_div hn, Nat.div_eq_of_lt hd, Nat.add_zero]
  have : a = c := by rw [← h1, h, h2]
  subst this
  exact ⟨rfl, by omega⟩
theorem idx_lt {n L k o : Nat} (hk : k < L) (ho : o < n) : k * n + o < L * n := by
  have : (k + 1) * n ≤ L * n := Nat.mul_le_mul_right n hk
  rw [Nat.succ_mul] at this
  omega

section
variable {t : Int} {l : List Mk} {ss : List Sg} {mis : List Int} (hn5 : l.length ≤ 5) (hmis : ∀ x ∈ mis, 0 ≤ x)
/-- all lists -/
def allW (l : List Mk) (ss : List Sg) : List (List Int) := wordsL l.length ss.length
include hn5 hmis in
theorem give_all : giveL (mays t l ss) mis 0 (fun _ _ => true) = (allW l ss).find? (givesB t l ss mis) := by
  rw [give_find hn5 hmis]
  refine find_congr fun x _ => ?_
  rw [List.all_eq_true.2 (fun _ _ => rfl), Bool.and_true]
include hn5 hmis in
theorem owns_all {k : Nat} (hk : k < ss.length) : ownsRow (mays t l ss) mis k = ((List.range l.length).filter (hasB (givesB t l ss mis) (allW l ss) (allW l ss).length k)).map Int.ofNat := by
  have hs := List.getElem?_eq_getElem hk
  have hrow : ((mays t l ss)[k]?).getD [] = mayL t l ss[k] := by
    have := mays_getD (t := t) (l := l) hs
    rwa [List.getD_eq_getElem?_getD] at this
  unfold ownsRow ownsIn
  rw [hrow]
  unfold mayL mayTo
  rw [List.filter_map, List.filter_filter]
  congr 1
  refine List.filter_congr fun o ho => ?_
  have ho' := List.mem_range.1 ho
  have hm := List.getElem?_eq_getElem ho'
  show ((giveL (mays t l ss) mis 0 (letB k (o : Int))).isSome && _) = _
  rw [give_find hn5 hmis, hm, Bool.eq_iff_iff]
  unfold hasB
  rw [List.take_of_length_le (Nat.le_refl _), List.any_eq_true, Bool.and_eq_true, List.find?_isSome]
  constructor
  · rintro ⟨⟨x, hx, hp⟩, hf⟩
    rw [Bool.and_eq_true, List.all_eq_true] at hp
    refine ⟨x, hx, ?_⟩
    rw [Bool.and_eq_true, decide_eq_true_eq]
    refine ⟨hp.1, ?_⟩
    have := hp.2 k (List.mem_range.2 hk)
    unfold letB at this
    simpa using this
  · rintro ⟨x, hx, hp⟩
    rw [Bool.and_eq_true, decide_eq_true_eq] at hp
    refine ⟨⟨x, hx, ?_⟩, ?_⟩
    · rw [Bool.and_eq_true, List.all_eq_true]
      refine ⟨hp.1, fun p _ => ?_⟩
      unfold letB
      by_cases hpk : p = k
      · subst hpk; simp only [hp.2, decide_true, Bool.or_true]
      · simp [hpk]
    · have hg := hp.1
      unfold givesB at hg
      rw [Bool.and_eq_true] at hg
      have hxl := (wordsL_mem hx).1
      have h := List.all_eq_true.1 hg.2 k (List.mem_range.2 (by omega))
      unfold fitAt mkAt at h
      rw [hp.2] at h
      have hd : decide ((o : Int) < 0) = false := decide_eq_false (by omega)
      rw [hd, Bool.false_or, List.getD_eq_getElem?_getD, hs] at h
      simp only [Option.getD_some, Int.toNat_natCast, hm] at h
      simpa using h
end
end Go.Proofs.Ytoidaigiejilcaa
