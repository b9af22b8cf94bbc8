/- Plain laws of MarkLeft: the fewest strays that are left.
   Plain laws of MarkLeft: all lists, gone through. -/
import Derived.Test.YtoidaigiejilcaaLawH
import Derived.Test.YtoidaigiejilcaaLeft
namespace Go.Proofs.Ytoidaigiejilcaa
set_option linter.unusedVariables false
set_option linter.unusedSimpArgs false

/-- a way to give the last n strays, those whose bit is set being left -/
def okR (may : List (List Int)) (mis : List Int) (left L : Nat) : Nat → Cn → List Int → Prop
  | 0, _, r => r = []
  | n + 1, c, r => ∃ o q, r = o :: q ∧ if left.testBit (L - (n + 1)) then o = -1 ∧ okR may mis left L n c.skip q
      else (o ∈ may.getD (L - (n + 1)) [] ∧ c.at o.toNat < mis.getD o.toNat 0) ∧ okR may mis left L n (c.up o.toNat) q
theorem rest_some {b L : Nat} {may : List (List Int)} {mis : List Int} {left : Nat} : ∀ n c, (Srch.rest ⟨b, L, may, mis, left, fun _ _ => true⟩ n c).isSome = true ↔ ∃ r, okR may mis left L n c r
  | 0, c => by simp [Srch.rest, okR]
  | n + 1, c => by
    unfold Srch.rest okR
    dsimp only
    cases hb : left.testBit (L - (n + 1))
    · simp only [Bool.false_eq_true, if_false]
      rw [List.findSome?_isSome_iff]
      constructor
      · rintro ⟨o, ho, h⟩
        split at h
        · rename_i hc
          rw [Option.isSome_map] at h
          obtain ⟨q, hq⟩ := (rest_some n _).1 h
          simp only [Bool.and_true, decide_eq_true_eq] at hc
          exact ⟨o :: q, o, q, rfl, ⟨ho, hc⟩, hq⟩
        · cases h
      · rintro ⟨r, o, q, rfl, ⟨h1, h2⟩, h3⟩
        refine ⟨o, h1, ?_⟩
        rw [if_pos (by rw [Bool.and_true, decide_eq_true_eq]; exact h2), Option.isSome_map]
        exact (rest_some n _).2 ⟨q, h3⟩
    · simp only [if_true]
      rw [Option.isSome_map, rest_some n c.skip]
      constructor
      · rintro ⟨q, hq⟩; exact ⟨-1 :: q, -1, q, rfl, rfl, hq⟩
      · rintro ⟨r, o, q, rfl, rfl, hq⟩; exact ⟨q, hq⟩
/-- what such a way is -/
theorem okR_iff {L : Nat} {may : List (List Int)} {mis : List Int} {left : Nat} (hmay : ∀ r ∈ may, ∀ o ∈ r, 0 ≤ o ∧ o < 5) : ∀ (n : Nat) (c : Cn) (r : List Int), n ≤ L →
    (okR may mis left L n c r ↔ r.length = n ∧ (∀ (j : Nat) (o : Int), r[j]? = some o → if left.testBit (L - n + j) then o = -1 else o ∈ may.getD (L - n + j) []) ∧ ∀ o : Nat, o < 5 → (o : Int) ∈ r → c.at o + (cntI r o : Int) ≤ mis.getD o 0)
  | 0, c, r, _ => by
    unfold okR
    constructor
    · rintro rfl; simp
    · rintro ⟨h, _⟩; exact List.eq_nil_of_length_eq_zero h
  | n + 1, c, r, hn => by
    have hg : ∀ k (o : Int), o ∈ may.getD k [] → 0 ≤ o ∧ o < 5 := by
      intro k o ho
      rw [List.getD_eq_getElem?_getD] at ho
      cases hk : may[k]? with
      | none => rw [hk] at ho; simp at ho
      | some row => rw [hk] at ho; exact hmay row (List.mem_of_getElem? hk) o ho
    unfold okR
    constructor
    · rintro ⟨o, q, rfl, h⟩
      cases hb : left.testBit (L - (n + 1))
      · simp only [hb, Bool.false_eq_true, if_false] at h
        obtain ⟨⟨h1, h2⟩, h3⟩ := h
        obtain ⟨h0, h5⟩ := hg _ _ h1
        obtain ⟨i, rfl⟩ := Int.eq_ofNat_of_zero_le h0
        have hi5 : i < 5 := by omega
        obtain ⟨k1, k2, k3⟩ := (okR_iff hmay n _ q (by omega)).1 h3
        refine ⟨by simp [k1], fun j o hj => ?_, fun o ho5 ho => ?_⟩
        · cases j with
          | zero => simp at hj; subst hj; rw [Nat.add_zero, hb]; simpa using h1
          | succ j =>
            have := k2 j o (by simpa using hj)
            rw [show L - (n + 1) + (j + 1) = L - n + j by omega]
            exact this
        · rw [cntI_cons]
          have h2' : c.at i < mis.getD i 0 := h2
          by_cases ho2 : (o : Int) ∈ q
          · have h6 := k3 o ho5 ho2
            rw [show ((i : Int)).toNat = i from rfl, Cn.up_at c hi5 ho5] at h6
            by_cases hoi : o = i
            · subst hoi; rw [if_pos rfl] at h6; rw [if_pos rfl]; omega
            · rw [if_neg hoi] at h6; rw [if_neg (by omega)]; omega
          · rw [cntI_zero ho2]
            have hoi : (o : Int) = (i : Int) := by
              rcases List.mem_cons.1 ho with h | h
              · exact h
              · exact absurd h ho2
            have : o = i := by omega
            subst this
            rw [if_pos rfl]
            omega
      · simp only [hb, if_true] at h
        obtain ⟨rfl, h3⟩ := h
        obtain ⟨k1, k2, k3⟩ := (okR_iff hmay n _ q (by omega)).1 h3
        refine ⟨by simp [k1], fun j o hj => ?_, fun o ho5 ho => ?_⟩
        · cases j with
          | zero => simp at hj; subst hj; rw [Nat.add_zero, hb]; rfl
          | succ j =>
            have := k2 j o (by simpa using hj)
            rw [show L - (n + 1) + (j + 1) = L - n + j by omega]
            exact this
        · rw [cntI_cons, if_neg (by omega)]
          have ho2 : (o : Int) ∈ q := by
            rcases List.mem_cons.1 ho with h | h
            · omega
            · exact h
          have h6 := k3 o ho5 ho2
          rw [Cn.skip_at c ho5] at h6
          omega
    · rintro ⟨h1, h2, h3⟩
      match r, h1, h2, h3 with
      | [], h1, _, _ => simp at h1
      | o :: q, h1, h2, h3 =>
        refine ⟨o, q, rfl, ?_⟩
        have hq : q.length = n := by simpa using h1
        have h20 := h2 0 o rfl
        rw [Nat.add_zero] at h20
        have hq2 : ∀ (j : Nat) (o : Int), q[j]? = some o → if left.testBit (L - n + j) then o = -1 else o ∈ may.getD (L - n + j) [] := by
          intro j o' hj
          have := h2 (j + 1) o' (by simpa using hj)
          rw [show L - (n + 1) + (j + 1) = L - n + j by omega] at this
          exact this
        cases hb : left.testBit (L - (n + 1))
        · simp only [hb, Bool.false_eq_true, if_false] at h20 ⊢
          obtain ⟨h0, h5⟩ := hg _ _ h20
          obtain ⟨i, rfl⟩ := Int.eq_ofNat_of_zero_le h0
          have hi5 : i < 5 := by omega
          have h4 := h3 i hi5 (by simp)
          rw [cntI_cons, if_pos rfl] at h4
          refine ⟨⟨h20, ?_⟩, (okR_iff hmay n _ q (by omega)).2 ⟨hq, hq2, fun o ho5 ho => ?_⟩⟩
          · show c.at i < mis.getD i 0
            omega
          · have h6 := h3 o ho5 (by simp [ho])
            rw [show ((i : Int)).toNat = i from rfl, Cn.up_at c hi5 ho5]
            rw [cntI_cons] at h6
            by_cases hoi : o = i
            · subst hoi; rw [if_pos rfl] at h6 ⊢; omega
            · rw [if_neg hoi]; rw [if_neg (by omega)] at h6; omega
        · simp only [hb, if_true] at h20 ⊢
          refine ⟨h20, (okR_iff hmay n _ q (by omega)).2 ⟨hq, hq2, fun o ho5 ho => ?_⟩⟩
          have h6 := h3 o ho5 (by simp [ho])
          rw [Cn.skip_at c ho5]
          rw [cntI_cons, if_neg (by omega)] at h6
          omega
theorem give_some {may : List (List Int)} {mis : List Int} {left : Nat} (hmay : ∀ r ∈ may, ∀ o ∈ r, 0 ≤ o ∧ o < 5) :
    (giveL may mis left (fun _ _ => true)).isSome = true ↔ ∃ r : List Int, r.length = may.length ∧ (∀ (j : Nat) (o : Int), r[j]? = some o → if left.testBit j then o = -1 else o ∈ may.getD j []) ∧ ∀ o : Nat, o < 5 → (o : Int) ∈ r → (cntI r o : Int) ≤ mis.getD o 0 := by
  unfold giveL Srch.all
  rw [rest_some]
  have hat : ∀ o : Nat, (⟨0, 0, 0, 0, 0, 0⟩ : Cn).at o = 0 := fun o => by unfold Cn.at; split <;> rfl
  constructor
  · rintro ⟨r, h⟩
    have := (okR_iff hmay may.length _ r (Nat.le_refl _)).1 h
    simp only [hat, Int.zero_add, Nat.sub_self, Nat.zero_add] at this
    exact ⟨r, this⟩
  · rintro ⟨r, h⟩
    refine ⟨r, (okR_iff hmay may.length _ r (Nat.le_refl _)).2 ?_⟩
    simp only [hat, Int.zero_add, Nat.sub_self, Nat.zero_add]
    exact h

/-- ascending lists of numbers from a on, below L -/
def Asc (L : Nat) : Nat → List Int → Prop
  | _, [] => True
  | a, i :: q => ∃ n : Nat, i = (n : Int) ∧ a ≤ n ∧ n < L ∧ Asc L (n + 1) q
def bitsF (set : Nat) (q : List Int) : Nat := q.foldl (fun s i => s ||| 2 ^ i.toNat) set
def aheadB : List Int → List Int → Bool
  | [], b => !b.isEmpty
  | _ :: _, [] => false
  | a :: x, b :: y => if a = b then aheadB x y else decide (a < b)
theorem aheadB_self : ∀ x : List Int, aheadB x x = false
  | [] => rfl
  | a :: x => by unfold aheadB; rw [if_pos rfl]; exact aheadB_self x
theorem ahead_total : ∀ {x y : List Int}, x.length = y.length → aheadB x y = false → aheadB y x = false → x = y
  | [], [], _, _, _ => rfl
  | [], _ :: _, h, _, _ => by simp at h
  | _ :: _, [], h, _, _ => by simp at h
  | a :: x, b :: y, h, h1, h2 => by
    unfold aheadB at h1 h2
    by_cases hab : a = b
    · subst hab
      rw [if_pos rfl] at h1 h2
      rw [ahead_total (by simpa using h) h1 h2]
    · rw [if_neg hab] at h1
      rw [if_neg (Ne.symm hab)] at h2
      simp at h1 h2
      omega
theorem range_some {β : Type} {f : Nat → Option β} {r : β} : ∀ {n a : Nat}, (List.range' a n).findSome? f = some r → ∃ i, a ≤ i ∧ i < a + n ∧ f i = some r ∧ ∀ j, a ≤ j → j < i → f j = none
  | 0, a, h => by simp at h
  | n + 1, a, h => by
    rw [List.range'_succ, List.findSome?_cons] at h
    cases hf : f a with
    | some x =>
      rw [hf] at h
      cases h
      exact ⟨a, Nat.le_refl _, by omega, hf, fun j h1 h2 => by omega⟩
    | none =>
      rw [hf] at h
      obtain ⟨i, h1, h2, h3, h4⟩ := range_some h
      refine ⟨i, by omega, by omega, h3, fun j h5 h6 => ?_⟩
      by_cases hja : j = a
      · subst hja; exact hf
      · exact h4 j (by omega) h6
theorem pick_none {L : Nat} {pf : Nat → Bool} : ∀ {d a set : Nat}, pickRest L pf d a set = none → ∀ r, Asc L a r → r.length = d → pf (bitsF set r) = false
  | 0, a, set, h, r, _, hr => by
    have : r = [] := List.eq_nil_of_length_eq_zero hr
    subst this
    unfold pickRest at h
    show pf set = false
    cases hp : pf set
    · rfl
    · rw [hp] at h; simp at h
  | d + 1, a, set, h, [], _, hr => by simp at hr
  | d + 1, a, set, h, i :: q, ha, hr => by
    obtain ⟨n, rfl, h1, h2, h3⟩ := ha
    unfold pickRest at h
    rw [List.findSome?_eq_none_iff] at h
    have hn := h n (by rw [List.mem_range'_1]; omega)
    rw [Option.map_eq_none_iff] at hn
    exact pick_none hn q h3 (by simpa using hr)
theorem pick_some {L : Nat} {pf : Nat → Bool} : ∀ {d a set : Nat} {r : List Int}, pickRest L pf d a set = some r →
    Asc L a r ∧ r.length = d ∧ pf (bitsF set r) = true ∧ ∀ r', Asc L a r' → r'.length = d → pf (bitsF set r') = true → aheadB r' r = false
  | 0, a, set, r, h => by
    unfold pickRest at h
    cases hp : pf set
    · rw [hp] at h; simp at h
    · rw [hp] at h
      simp at h
      subst h
      refine ⟨trivial, rfl, hp, fun r' _ h' _ => ?_⟩
      have : r' = [] := List.eq_nil_of_length_eq_zero h'
      subst this
      rfl
  | d + 1, a, set, r, h => by
    unfold pickRest at h
    obtain ⟨i, h1, h2, h3, h4⟩ := range_some h
    obtain ⟨q, hq, rfl⟩ := Option.map_eq_some_iff.1 h3
    obtain ⟨k1, k2, k3, k4⟩ := pick_some hq
    refine ⟨⟨i, rfl, h1, by omega, k1⟩, by simp [k2], k3, fun r' ha' hr' hp' => ?_⟩
    match r', ha', hr', hp' with
    | [], _, hr', _ => simp at hr'
    | j :: q', ha', hr', hp' =>
      obtain ⟨n, rfl, g1, g2, g3⟩ := ha'
      unfold aheadB
      by_cases hni : (n : Int) = (i : Int)
      · rw [if_pos hni]
        have : n = i := by omega
        subst this
        exact k4 q' g3 (by simpa using hr') hp'
      · rw [if_neg hni]
        apply decide_eq_false
        intro hlt
        have hn := h4 n g1 (by omega)
        rw [Option.map_eq_none_iff] at hn
        have := pick_none hn q' g3 (by simpa using hr')
        rw [show bitsF set ((n : Int) :: q') = bitsF (set ||| 2 ^ n) q' from rfl, this] at hp'
        cases hp'
theorem leftOf_some {may : List (List Int)} {mis : List Int} : ∀ {k m : Nat} {q : List Int}, leftOf may mis k m = some q →
    ∃ j, m ≤ j ∧ j < m + k ∧ pickRest may.length (fun set => (giveL may mis set (fun _ _ => true)).isSome) j 0 0 = some q ∧ ∀ j', m ≤ j' → j' < j → pickRest may.length (fun set => (giveL may mis set (fun _ _ => true)).isSome) j' 0 0 = none
  | 0, m, q, h => by cases h
  | k + 1, m, q, h => by
    unfold leftOf at h
    split at h
    · rename_i l hl
      cases h
      exact ⟨m, Nat.le_refl _, by omega, hl, fun j' h1 h2 => by omega⟩
    · rename_i hl
      obtain ⟨j, h1, h2, h3, h4⟩ := leftOf_some h
      refine ⟨j, by omega, by omega, h3, fun j' h5 h6 => ?_⟩
      by_cases hj : j' = m
      · subst hj; exact hl
      · exact h4 j' (by omega) h6
theorem leftOf_none {may : List (List Int)} {mis : List Int} : ∀ {k m : Nat}, leftOf may mis k m = none → ∀ j, m ≤ j → j < m + k → pickRest may.length (fun set => (giveL may mis set (fun _ _ => true)).isSome) j 0 0 = none
  | 0, m, _, j, h1, h2 => by omega
  | k + 1, m, h, j, h1, h2 => by
    unfold leftOf at h
    split at h
    · cases h
    · rename_i hl
      by_cases hj : j = m
      · subst hj; exact hl
      · exact leftOf_none h j (by omega) (by omega)
/-- a list comes before another one: it is shorter, or ahead -/
def beforeB (x y : List Int) : Bool := decide (x.length < y.length) || (decide (x.length = y.length) && aheadB x y)
theorem asc_len {L : Nat} : ∀ {a : Nat} {r : List Int}, Asc L a r → a ≤ L → r.length ≤ L - a
  | _, [], _, _ => by simp
  | a, i :: q, h, ha => by
    obtain ⟨n, rfl, h1, h2, h3⟩ := h
    have := asc_len h3 (by omega)
    simp
    omega
/-- leftL is the least of all lists that may be left -/
theorem leftL_least {may : List (List Int)} {mis : List Int} {r : List Int} (ha : Asc may.length 0 r) (hp : (giveL may mis (bitsF 0 r) (fun _ _ => true)).isSome = true) :
    Asc may.length 0 (leftL may mis) ∧ (giveL may mis (bitsF 0 (leftL may mis)) (fun _ _ => true)).isSome = true ∧ ∀ r', Asc may.length 0 r' → (giveL may mis (bitsF 0 r') (fun _ _ => true)).isSome = true → beforeB r' (leftL may mis) = false := by
  unfold leftL
  cases h : leftOf may mis (may.length + 1) 0 with
  | none =>
    have hr := asc_len ha (Nat.zero_le _)
    have := pick_none (leftOf_none h r.length (Nat.zero_le _) (by omega)) r ha rfl
    rw [hp] at this
    cases this
  | some q =>
    obtain ⟨j, h1, h2, h3, h4⟩ := leftOf_some h
    obtain ⟨k1, k2, k3, k4⟩ := pick_some h3
    refine ⟨k1, k3, fun r' ha' hp' => ?_⟩
    unfold beforeB
    show (decide (r'.length < q.length) || (decide (r'.length = q.length) && aheadB r' q)) = false
    have hn : ¬ r'.length < q.length := by
      intro hlt
      have := pick_none (h4 r'.length (Nat.zero_le _) (by omega)) r' ha' rfl
      rw [hp'] at this
      cases this
    rw [decide_eq_false hn, Bool.false_or]
    by_cases he : r'.length = q.length
    · rw [k4 r' ha' (by omega) hp', Bool.and_false]
    · rw [decide_eq_false he, Bool.false_and]
end Go.Proofs.Ytoidaigiejilcaa

namespace Go.Proofs.Ytoidaigiejilcaa
set_option linter.unusedVariables false
set_option linter.unusedSimpArgs false

def decL (x : List Int) : List Int := x.map fun y => y - 1
/-- the places of the strays that a list leaves, of the first k -/
def leftTo (r : List Int) (k : Nat) : List Int := ((List.range k).filter fun j => decide (r.getD j 0 < 0)).map Int.ofNat
def leftIx (r : List Int) : List Int := leftTo r r.length
theorem leftTo_succ (r : List Int) (k : Nat) : leftTo r (k + 1) = leftTo r k ++ if r.getD k 0 < 0 then [(k : Int)] else [] := by
  unfold leftTo
  rw [List.range_succ, List.filter_append, List.map_append]
  congr 1
  by_cases h : r.getD k 0 < 0
  · rw [if_pos h, List.filter_cons_of_pos (by simpa using h)]; rfl
  · rw [if_neg h, List.filter_cons_of_neg (by simpa using h)]; rfl
theorem leftTo_len (r : List Int) (k : Nat) : (leftTo r k).length ≤ k := by
  unfold leftTo
  rw [List.length_map]
  have := List.length_filter_le (fun j => decide (r.getD j 0 < 0)) (List.range k)
  simpa using this
theorem asc_filter (p : Nat → Bool) (L : Nat) : ∀ (n a : Nat), a + n ≤ L → Asc L a (((List.range' a n).filter p).map Int.ofNat)
  | 0, a, _ => by simp [Asc]
  | n + 1, a, h => by
    have ih := asc_filter p L n (a + 1) (by omega)
    rw [List.range'_succ]
    by_cases hp : p a = true
    · rw [List.filter_cons_of_pos hp, List.map_cons]
      exact ⟨a, rfl, Nat.le_refl _, by omega, ih⟩
    · rw [List.filter_cons_of_neg hp]
      have mono : ∀ {q : List Int} {a b : Nat}, a ≤ b → Asc L b q → Asc L a q := by
        intro q a b hab hq
        match q, hq with
        | [], _ => trivial
        | i :: q, ⟨m, h1, h2, h3⟩ => exact ⟨m, h1, by omega, h3⟩
      exact mono (Nat.le_succ a) ih
theorem asc_left {r : List Int} {L : Nat} (h : r.length = L) : Asc L 0 (leftIx r) := by
  unfold leftIx leftTo
  rw [List.range_eq_range', h]
  exact asc_filter _ L L 0 (by omega)
theorem bitsF_test : ∀ (q : List Int) (set j : Nat), (∀ i ∈ q, 0 ≤ i) → (bitsF set q).testBit j = (set.testBit j || decide ((j : Int) ∈ q))
  | [], set, j, _ => by simp [bitsF]
  | i :: q, set, j, h => by
    rw [show bitsF set (i :: q) = bitsF (set ||| 2 ^ i.toNat) q from rfl, bitsF_test q _ j (fun k hk => h k (by simp [hk])), Nat.testBit_or, Nat.testBit_two_pow, Bool.or_assoc]
    congr 1
    obtain ⟨n, rfl⟩ := Int.eq_ofNat_of_zero_le (h i (by simp))
    rw [Int.toNat_natCast, Bool.eq_iff_iff]
    simp only [Bool.or_eq_true, decide_eq_true_eq, List.mem_cons]
    constructor
    · rintro (h | h)
      · left; omega
      · exact .inr h
    · rintro (h | h)
      · left; omega
      · exact .inr h
theorem mem_left {r : List Int} {j : Nat} : (j : Int) ∈ leftIx r ↔ j < r.length ∧ r.getD j 0 < 0 := by
  unfold leftIx leftTo
  rw [List.mem_map]
  constructor
  · rintro ⟨i, hi, he⟩
    have : i = j := by have h2 : (i : Int) = (j : Int) := he; omega
    subst this
    simpa using hi
  · rintro ⟨h1, h2⟩
    exact ⟨j, by simpa using ⟨h1, h2⟩, rfl⟩
theorem left_pos {r : List Int} : ∀ i ∈ leftIx r, 0 ≤ i := by
  intro i hi
  unfold leftIx leftTo at hi
  obtain ⟨k, _, rfl⟩ := List.mem_map.1 hi
  exact Int.natCast_nonneg k
theorem asc_pos {L : Nat} : ∀ {q : List Int} {a : Nat}, Asc L a q → ∀ i ∈ q, 0 ≤ i
  | i :: q, a, ⟨n, h1, h2, h3, h4⟩, k, hk => by
    rcases List.mem_cons.1 hk with h | h
    · omega
    · exact asc_pos h4 k h
  | [], _, _, k, hk => by cases hk
theorem asc_ge {L : Nat} : ∀ {q : List Int} {a : Nat}, Asc L a q → ∀ i ∈ q, (a : Int) ≤ i ∧ i < L
  | i :: q, a, ⟨n, h1, h2, h3, h4⟩, k, hk => by
    rcases List.mem_cons.1 hk with h | h
    · omega
    · have := asc_ge h4 k h; omega
  | [], _, _, k, hk => by cases hk
theorem asc_ext {L : Nat} : ∀ {x y : List Int} {a b : Nat}, Asc L a x → Asc L b y → (∀ i : Int, i ∈ x ↔ i ∈ y) → x = y
  | [], [], _, _, _, _, _ => rfl
  | [], j :: y, _, _, _, _, h => by have := (h j).2 (by simp); cases this
  | i :: x, [], _, _, _, _, h => by have := (h i).1 (by simp); cases this
  | i :: x, j :: y, a, b, ⟨n, hn1, hn2, hn3, hn4⟩, ⟨m, hm1, hm2, hm3, hm4⟩, h => by
    have hij : i = j := by
      have h1 := (h i).1 (by simp)
      have h2 := (h j).2 (by simp)
      rcases List.mem_cons.1 h1 with e | e
      · exact e
      · rcases List.mem_cons.1 h2 with e' | e'
        · exact e'.symm
        · have := asc_ge hm4 i e; have := asc_ge hn4 j e'; omega
    subst hij
    have hnm : n = m := by omega
    subst hnm
    congr 1
    refine asc_ext hn4 hm4 fun k => ?_
    have hk := h k
    constructor
    · intro hx
      rcases List.mem_cons.1 (hk.1 (by simp [hx])) with e | e
      · have := asc_ge hn4 k hx; omega
      · exact e
    · intro hy
      rcases List.mem_cons.1 (hk.2 (by simp [hy])) with e | e
      · have := asc_ge hm4 k hy; omega
      · exact e

section
variable {t : Int} {l : List Mk} {ss : List Sg} {mis : List Int} (hn5 : l.length ≤ 5) (hmis : ∀ x ∈ mis, 0 ≤ x)
theorem fit_may {r : List Int} {j : Nat} {o : Int} (hj : r[j]? = some o) (hjl : j < ss.length) (h0 : 0 ≤ o) (h1 : o < l.length) : (o ∈ (mays t l ss).getD j [] ↔ fitAt t l ss r j = true) := by
  have hs := List.getElem?_eq_getElem hjl
  obtain ⟨on, rfl⟩ := Int.eq_ofNat_of_zero_le h0
  have hon : on < l.length := by omega
  have hm := List.getElem?_eq_getElem hon
  rw [mays_getD hs, mayL_iff hm]
  unfold fitAt mkAt
  rw [List.getD_eq_getElem?_getD, hj, List.getD_eq_getElem?_getD, hs]
  have hd : decide ((on : Int) < 0) = false := decide_eq_false (by omega)
  simp only [Option.getD_some, hd, Bool.false_or]
  simp [hm]
theorem mays_five (hn5 : l.length ≤ 5) : ∀ r ∈ mays t l ss, ∀ o ∈ r, 0 ≤ o ∧ o < 5 := by
  intro r hr o ho
  unfold mays at hr
  obtain ⟨s, _, rfl⟩ := List.mem_map.1 hr
  have := mayL_mem ho
  omega
/-- a list that is a giving: the others can be given when its strays are left -/
theorem left_pass {r : List Int} (hn5 : l.length ≤ 5) (hr : r.length = ss.length) (hv : ∀ x ∈ r, -1 ≤ x ∧ x < l.length) (hg : givesB t l ss mis r = true) :
    (giveL (mays t l ss) mis (bitsF 0 (leftIx r)) (fun _ _ => true)).isSome = true := by
  have hL : (mays t l ss).length = ss.length := by unfold mays; simp
  rw [give_some (mays_five hn5)]
  unfold givesB at hg
  rw [Bool.and_eq_true, List.all_eq_true, List.all_eq_true] at hg
  refine ⟨r, by rw [hL]; exact hr, fun j o hj => ?_, fun o ho hor => ?_⟩
  · have hjl := (List.getElem?_eq_some_iff.1 hj).1
    have hgd : r.getD j 0 = o := by rw [List.getD_eq_getElem?_getD, hj]; rfl
    have hov := hv o (List.mem_of_getElem? hj)
    rw [bitsF_test _ _ _ left_pos, Nat.zero_testBit, Bool.false_or]
    by_cases hneg : o < 0
    · rw [if_pos (decide_eq_true (mem_left.2 ⟨hjl, by rw [hgd]; exact hneg⟩))]; omega
    · rw [if_neg (by rw [decide_eq_true_eq, mem_left, hgd]; exact fun h => hneg h.2)]
      exact (fit_may hj (by omega) (by omega) hov.2).2 (hg.2 j (List.mem_range.2 hjl))
  · have := hg.1 o (List.mem_range.2 (by have := (hv o hor).2; omega))
    simpa using this
/-- and the other way round -/
theorem pass_left {q : List Int} (hn5 : l.length ≤ 5) (hmis : ∀ x ∈ mis, 0 ≤ x) (ha : Asc ss.length 0 q) (hp : (giveL (mays t l ss) mis (bitsF 0 q) (fun _ _ => true)).isSome = true) :
    ∃ r : List Int, r.length = ss.length ∧ (∀ x ∈ r, -1 ≤ x ∧ x < l.length) ∧ givesB t l ss mis r = true ∧ leftIx r = q := by
  have hL : (mays t l ss).length = ss.length := by unfold mays; simp
  rw [give_some (mays_five hn5), hL] at hp
  obtain ⟨r, hr, h1, h2⟩ := hp
  have hcase : ∀ (j : Nat) (o : Int), r[j]? = some o → ((j : Int) ∈ q ∧ o = -1) ∨ ((j : Int) ∉ q ∧ 0 ≤ o ∧ o < l.length ∧ o ∈ (mays t l ss).getD j []) := by
    intro j o hj
    have h := h1 j o hj
    rw [bitsF_test _ _ _ (asc_pos ha), Nat.zero_testBit, Bool.false_or] at h
    by_cases hm : (j : Int) ∈ q
    · rw [if_pos (decide_eq_true hm)] at h; exact .inl ⟨hm, h⟩
    · rw [if_neg (by rw [decide_eq_true_eq]; exact hm)] at h
      have hjl := (List.getElem?_eq_some_iff.1 hj).1
      have hs := List.getElem?_eq_getElem (show j < ss.length by omega)
      have h' := h
      rw [mays_getD hs] at h'
      have := mayL_mem h'
      exact .inr ⟨hm, this.1, by omega, h⟩
  have hv : ∀ x ∈ r, -1 ≤ x ∧ x < l.length := by
    intro x hx
    obtain ⟨j, hj⟩ := List.getElem?_of_mem hx
    rcases hcase j x hj with ⟨_, h⟩ | ⟨_, h3, h4, _⟩ <;> omega
  refine ⟨r, hr, hv, ?_, ?_⟩
  · unfold givesB
    rw [Bool.and_eq_true, List.all_eq_true, List.all_eq_true]
    constructor
    · intro o ho
      have ho' := List.mem_range.1 ho
      rw [decide_eq_true_eq]
      by_cases hm : (o : Int) ∈ r
      · exact h2 o (by omega) hm
      · rw [cntI_zero hm, List.getD_eq_getElem?_getD]
        cases hmo : mis[o]? with
        | none => simp
        | some z => have := hmis z (List.mem_of_getElem? hmo); simpa using this
    · intro j hj
      have hjl := List.mem_range.1 hj
      have hj' := List.getElem?_eq_getElem hjl
      rcases hcase j _ hj' with ⟨_, h⟩ | ⟨_, h3, h4, h5⟩
      · unfold fitAt
        rw [List.getD_eq_getElem?_getD, hj', h]
        simp
      · exact (fit_may hj' (by omega) h3 h4).1 h5
  · refine asc_ext (asc_left hr) ha fun i => ?_
    constructor
    · intro hi
      obtain ⟨j, rfl⟩ := Int.eq_ofNat_of_zero_le (left_pos i hi)
      obtain ⟨hj, hneg⟩ := mem_left.1 hi
      have hj' := List.getElem?_eq_getElem hj
      rw [List.getD_eq_getElem?_getD, hj'] at hneg
      rcases hcase j _ hj' with ⟨h, _⟩ | ⟨_, h3, _⟩
      · exact h
      · simp at hneg; omega
    · intro hi
      have hb := asc_ge ha i hi
      obtain ⟨j, rfl⟩ := Int.eq_ofNat_of_zero_le (show 0 ≤ i by omega)
      have hj : j < r.length := by omega
      have hj' := List.getElem?_eq_getElem hj
      refine mem_left.2 ⟨hj, ?_⟩
      rw [List.getD_eq_getElem?_getD, hj']
      rcases hcase j _ hj' with ⟨_, h⟩ | ⟨h, _⟩
      · simp [h]
      · exact absurd hi h
theorem words_mem {N : Nat} : ∀ {m : Nat} {x : List Int}, x.length = m → (∀ y ∈ x, 0 ≤ y ∧ y < N) → x ∈ wordsL N m
  | 0, x, h, _ => by rw [List.eq_nil_of_length_eq_zero h]; simp [wordsL]
  | m + 1, [], h, _ => by simp at h
  | m + 1, y :: x, h, hv => by
    obtain ⟨h0, h1⟩ := hv y (by simp)
    obtain ⟨n, rfl⟩ := Int.eq_ofNat_of_zero_le h0
    unfold wordsL
    rw [List.mem_flatMap]
    exact ⟨n, List.mem_range.2 (by omega), List.mem_map.2 ⟨x, words_mem (by simpa using h) (fun z hz => hv z (by simp [hz])), rfl⟩⟩
theorem ahead_trans : ∀ {x y z : List Int}, aheadB x y = true → aheadB y z = true → aheadB x z = true
  | [], [], z, h, _ => by simp [aheadB] at h
  | [], _ :: _, [], _, h => by simp [aheadB] at h
  | [], _ :: _, _ :: _, _, _ => rfl
  | _ :: _, [], _, h, _ => by simp [aheadB] at h
  | _ :: _, _ :: _, [], _, h => by simp [aheadB] at h
  | a :: x, b :: y, c :: z, h1, h2 => by
    unfold aheadB at h1 h2 ⊢
    by_cases hab : a = b
    · subst hab
      rw [if_pos rfl] at h1
      by_cases hac : a = c
      · rw [if_pos hac] at h2 ⊢; exact ahead_trans h1 h2
      · rw [if_neg hac] at h2 ⊢; exact h2
    · rw [if_neg hab] at h1
      by_cases hbc : b = c
      · subst hbc; rw [if_neg hab]; exact h1
      · rw [if_neg hbc] at h2
        simp at h1 h2
        rw [if_neg (by omega)]
        exact decide_eq_true (by omega)
theorem before_trans {x y z : List Int} (h1 : beforeB x y = true) (h2 : beforeB y z = true) : beforeB x z = true := by
  unfold beforeB at h1 h2 ⊢
  simp only [Bool.or_eq_true, Bool.and_eq_true, decide_eq_true_eq] at h1 h2 ⊢
  rcases h1 with h1 | ⟨h1, h1'⟩ <;> rcases h2 with h2 | ⟨h2, h2'⟩
  · left; omega
  · left; omega
  · left; omega
  · right; exact ⟨by omega, ahead_trans h1' h2'⟩
theorem before_self (x : List Int) : beforeB x x = false := by
  unfold beforeB; rw [aheadB_self]; simp
theorem before_total {x y : List Int} (h1 : beforeB x y = false) (h2 : beforeB y x = false) : x = y := by
  unfold beforeB at h1 h2
  simp only [Bool.or_eq_false_iff, Bool.and_eq_false_iff, decide_eq_false_iff_not] at h1 h2
  have hl : x.length = y.length := by omega
  refine ahead_total hl ?_ ?_
  · rcases h1.2 with h | h
    · exact absurd hl h
    · exact h
  · rcases h2.2 with h | h
    · exact absurd hl.symm h
    · exact h
/-- the best one so far: none, or one that no other comes before -/
def Scan (p : List Int → Bool) (f : List Int → List Int) (all : List (List Int)) (i : Nat) (some_ : Bool) (best : List Int) : Prop :=
  (some_ = false ∧ ∀ (j : Nat) x, j < i → all[j]? = some x → p x = false) ∨
  (some_ = true ∧ (∃ x, x ∈ all ∧ p x = true ∧ f x = best) ∧ ∀ (j : Nat) x, j < i → all[j]? = some x → p x = true → beforeB (f x) best = false)
theorem Scan.zero {p : List Int → Bool} {f : List Int → List Int} {all : List (List Int)} {b : List Int} : Scan p f all 0 false b := .inl ⟨rfl, fun j x h => by omega⟩
theorem Scan.keep {p : List Int → Bool} {f : List Int → List Int} {all : List (List Int)} {i : Nat} {s : Bool} {b x : List Int} (h : Scan p f all i s b) (hx : all[i]? = some x) (hp : p x = false ∨ (s = true ∧ beforeB (f x) b = false)) : Scan p f all (i + 1) s b := by
  rcases h with ⟨h1, h2⟩ | ⟨h1, h2, h3⟩
  · refine .inl ⟨h1, fun j y hj hy => ?_⟩
    by_cases hji : j = i
    · subst hji
      rw [hx] at hy; cases hy
      rcases hp with hp | ⟨hp, _⟩
      · exact hp
      · rw [h1] at hp; cases hp
    · exact h2 j y (by omega) hy
  · refine .inr ⟨h1, h2, fun j y hj hy hpy => ?_⟩
    by_cases hji : j = i
    · subst hji
      rw [hx] at hy; cases hy
      rcases hp with hp | ⟨_, hp⟩
      · rw [hp] at hpy; cases hpy
      · exact hp
    · exact h3 j y (by omega) hy hpy
theorem Scan.take {p : List Int → Bool} {f : List Int → List Int} {all : List (List Int)} {i : Nat} {s : Bool} {b x : List Int} (h : Scan p f all i s b) (hx : all[i]? = some x) (hp : p x = true) (hb : s = false ∨ beforeB (f x) b = true) : Scan p f all (i + 1) true (f x) := by
  refine .inr ⟨rfl, ⟨x, List.mem_of_getElem? hx, hp, rfl⟩, fun j y hj hy hpy => ?_⟩
  by_cases hji : j = i
  · subst hji
    rw [hx] at hy; cases hy
    exact before_self _
  · rcases h with ⟨h1, h2⟩ | ⟨h1, h2, h3⟩
    · have := h2 j y (by omega) hy
      rw [this] at hpy; cases hpy
    · rcases hb with hb | hb
      · rw [h1] at hb; cases hb
      · have h4 := h3 j y (by omega) hy hpy
        cases h5 : beforeB (f y) (f x)
        · rfl
        · rw [before_trans h5 hb] at h4; cases h4
/-- the last word: what the scan has found is what Left returns -/
theorem scan_end {all : List (List Int)} {s : Bool} {b : List Int} (hn5 : l.length ≤ 5) (hmis : ∀ x ∈ mis, 0 ≤ x) (hall : all = wordsL (l.length + 1) ss.length)
    (h : Scan (fun x => givesB t l ss mis (decL x)) (fun x => leftIx (decL x)) all all.length s b) : s = true ∧ b = leftL (mays t l ss) mis := by
  have hL : (mays t l ss).length = ss.length := by unfold mays; simp
  have hdec : ∀ x ∈ all, (decL x).length = ss.length ∧ ∀ y ∈ decL x, -1 ≤ y ∧ y < l.length := by
    intro x hx
    rw [hall] at hx
    obtain ⟨h1, h2⟩ := wordsL_mem hx
    refine ⟨by unfold decL; simp [h1], fun y hy => ?_⟩
    unfold decL at hy
    obtain ⟨z, hz, rfl⟩ := List.mem_map.1 hy
    have := h2 z hz
    omega
  have hword : ∀ r : List Int, r.length = ss.length → (∀ y ∈ r, -1 ≤ y ∧ y < l.length) → ∃ x, x ∈ all ∧ decL x = r := by
    intro r hr hv
    refine ⟨r.map fun y => y + 1, ?_, ?_⟩
    · rw [hall]
      refine words_mem (by simp [hr]) fun y hy => ?_
      obtain ⟨z, hz, rfl⟩ := List.mem_map.1 hy
      have := hv z hz
      omega
    · unfold decL
      rw [List.map_map]
      conv => rhs; rw [← List.map_id r]
      refine List.map_congr_left fun y _ => ?_
      show y + 1 - 1 = y
      omega
  -- a giving that leaves all
  obtain ⟨x0, hx0, hd0⟩ := hword (List.replicate ss.length (-1)) (by simp) (fun y hy => by rw [(List.mem_replicate.1 hy).2]; omega)
  have hg0 : givesB t l ss mis (decL x0) = true := by
    rw [hd0]
    unfold givesB
    rw [Bool.and_eq_true, List.all_eq_true, List.all_eq_true]
    constructor
    · intro o _
      rw [cntI_zero (fun h => by have := (List.mem_replicate.1 h).2; omega), decide_eq_true_eq, List.getD_eq_getElem?_getD]
      cases hmo : mis[o]? with
      | none => simp
      | some z => have := hmis z (List.mem_of_getElem? hmo); simpa using this
    · intro j hj
      unfold fitAt
      have hj' := List.mem_range.1 hj
      rw [List.getD_eq_getElem?_getD, List.getElem?_eq_getElem hj']
      simp
  rcases h with ⟨h1, h2⟩ | ⟨h1, ⟨x, hx, hpx, hfx⟩, h3⟩
  · obtain ⟨j, hj⟩ := List.getElem?_of_mem hx0
    have := h2 j x0 (List.getElem?_eq_some_iff.1 hj).1 hj
    dsimp only at this
    rw [hg0] at this
    cases this
  · refine ⟨h1, ?_⟩
    have hb1 : Asc ss.length 0 b := by rw [← hfx]; exact asc_left (hdec x hx).1
    have hb2 : (giveL (mays t l ss) mis (bitsF 0 b) (fun _ _ => true)).isSome = true := by
      rw [← hfx]
      exact left_pass hn5 (hdec x hx).1 (hdec x hx).2 hpx
    obtain ⟨k1, k2, k3⟩ := leftL_least (may := mays t l ss) (mis := mis) (r := b) (by rw [hL]; exact hb1) hb2
    rw [hL] at k1 k3
    obtain ⟨r, r1, r2, r3, r4⟩ := pass_left hn5 hmis k1 k2
    obtain ⟨y, hy, hdy⟩ := hword r r1 r2
    obtain ⟨j, hj⟩ := List.getElem?_of_mem hy
    have h4 := h3 j y (List.getElem?_eq_some_iff.1 hj).1 hj (by dsimp only; rw [hdy]; exact r3)
    dsimp only at h4
    rw [hdy, r4] at h4
    exact before_total (k3 b hb1 hb2) h4
end
end Go.Proofs.Ytoidaigiejilcaa
