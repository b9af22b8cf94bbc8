/- Plain laws of MarkLeft: the fewest strays that are left. -/
import Derived.Test.YtoidaigiejilcaaLawH
import Derived.Test.YtoidaigiejilcaaLeft
namespace Go.Proofs.Ytoidaigiejilcaa
set_option linter.unusedVariables false
set_option linter.unusedSimpArgs false

/-- a way to give the last n strays, those whose bit is set being left -/
def okR (may : List (List Int)) (mis : List Int) (left L : Nat) : Nat → Cn → List Int → Prop
  | 0, _, r => r = []
  | n + 1, c, r => ∃ o q, r = o :: q ∧ if left.testBit (L - (n + 1)) then o = -1 ∧ okR may mis left L n c.skip q
      else (o ∈ may.getD (L - (n + 1)) [] ∧ c.at o.toNat < mis.getD o.toNat 0) ∧ okR may mis left L n (c.up o.toNat) q
theorem rest_some {b L : Nat} {may : List (List Int)} {mis : List Int} {left : Nat} : ∀ n c, (Srch.rest ⟨b, L, may, mis, left, fun _ _ => true⟩ n c).isSome = true ↔ ∃ r, okR may mis left L n c r
  | 0, c => by simp [Srch.rest, okR]
  | n + 1, c => by
    unfold Srch.rest okR
    dsimp only
    cases hb : left.testBit (L - (n + 1))
    · simp only [Bool.false_eq_true, if_false]
      rw [List.findSome?_isSome_iff]
      constructor
      · rintro ⟨o, ho, h⟩
        split at h
        · rename_i hc
          rw [Option.isSome_map] at h
          obtain ⟨q, hq⟩ := (rest_some n _).1 h
          simp only [Bool.and_true, decide_eq_true_eq] at hc
          exact ⟨o :: q, o, q, rfl, ⟨ho, hc⟩, hq⟩
        · cases h
      · rintro ⟨r, o, q, rfl, ⟨h1, h2⟩, h3⟩
        refine ⟨o, h1, ?_⟩
        rw [if_pos (by rw [Bool.and_true, decide_eq_true_eq]; exact h2), Option.isSome_map]
        exact (rest_some n _).2 ⟨q, h3⟩
    · simp only [if_true]
      rw [Option.isSome_map, rest_some n c.skip]
      constructor
      · rintro ⟨q, hq⟩; exact ⟨-1 :: q, -1, q, rfl, rfl, hq⟩
      · rintro ⟨r, o, q, rfl, rfl, hq⟩; exact ⟨q, hq⟩
/-- what such a way is -/
theorem okR_iff {L : Nat} {may : List (List Int)} {mis : List Int} {left : Nat} (hmay : ∀ r ∈ may, ∀ o ∈ r, 0 ≤ o ∧ o < 5) : ∀ (n : Nat) (c : Cn) (r : List Int), n ≤ L →
    (okR may mis left L n c r ↔ r.length = n ∧ (∀ (j : Nat) (o : Int), r[j]? = some o → if left.testBit (L - n + j) then o = -1 else o ∈ may.getD (L - n + j) []) ∧ ∀ o : Nat, o < 5 → (o : Int) ∈ r → c.at o + (cntI r o : Int) ≤ mis.getD o 0)
  | 0, c, r, _ => by
    unfold okR
    constructor
    · rintro rfl; simp
    · rintro ⟨h, _⟩; exact List.eq_nil_of_length_eq_zero h
  | n + 1, c, r, hn => by
    have hg : ∀ k (o : Int), o ∈ may.getD k [] → 0 ≤ o ∧ o < 5 := by
      intro k o ho
      rw [List.getD_eq_getElem?_getD] at ho
      cases hk : may[k]? with
      | none => rw [hk] at ho; simp at ho
      | some row => rw [hk] at ho; exact hmay row (List.mem_of_getElem? hk) o ho
    unfold okR
    constructor
    · rintro ⟨o, q, rfl, h⟩
      cases hb : left.testBit (L - (n + 1))
      · simp only [hb, Bool.false_eq_true, if_false] at h
        obtain ⟨⟨h1, h2⟩, h3⟩ := h
        obtain ⟨h0, h5⟩ := hg _ _ h1
        obtain ⟨i, rfl⟩ := Int.eq_ofNat_of_zero_le h0
        have hi5 : i < 5 := by omega
        obtain ⟨k1, k2, k3⟩ := (okR_iff hmay n _ q (by omega)).1 h3
        refine ⟨by simp [k1], fun j o hj => ?_, fun o ho5 ho => ?_⟩
        · cases j with
          | zero => simp at hj; subst hj; rw [Nat.add_zero, hb]; simpa using h1
          | succ j =>
            have := k2 j o (by simpa using hj)
            rw [show L - (n + 1) + (j + 1) = L - n + j by omega]
            exact this
        · rw [cntI_cons]
          have h2' : c.at i < mis.getD i 0 := h2
          by_cases ho2 : (o : Int) ∈ q
          · have h6 := k3 o ho5 ho2
            rw [show ((i : Int)).toNat = i from rfl, Cn.up_at c hi5 ho5] at h6
            by_cases hoi : o = i
            · subst hoi; rw [if_pos rfl] at h6; rw [if_pos rfl]; omega
            · rw [if_neg hoi] at h6; rw [if_neg (by omega)]; omega
          · rw [cntI_zero ho2]
            have hoi : (o : Int) = (i : Int) := by
              rcases List.mem_cons.1 ho with h | h
              · exact h
              · exact absurd h ho2
            have : o = i := by omega
            subst this
            rw [if_pos rfl]
            omega
      · simp only [hb, if_true] at h
        obtain ⟨rfl, h3⟩ := h
        obtain ⟨k1, k2, k3⟩ := (okR_iff hmay n _ q (by omega)).1 h3
        refine ⟨by simp [k1], fun j o hj => ?_, fun o ho5 ho => ?_⟩
        · cases j with
          | zero => simp at hj; subst hj; rw [Nat.add_zero, hb]; rfl
          | succ j =>
            have := k2 j o (by simpa using hj)
            rw [show L - (n + 1) + (j + 1) = L - n + j by omega]
            exact this
        · rw [cntI_cons, if_neg (by omega)]
          have ho2 : (o : Int) ∈ q := by
            rcases List.mem_cons.1 ho with h | h
            · omega
            · exact h
          have h6 := k3 o ho5 ho2
          rw [Cn.skip_at c ho5] at h6
          omega
    · rintro ⟨h1, h2, h3⟩
      match r, h1, h2, h3 with
      | [], h1, _, _ => simp at h1
      | o :: q, h1, h2, h3 =>
        refine ⟨o, q, rfl, ?_⟩
        have hq : q.length = n := by simpa using h1
        have h20 := h2 0 o rfl
        rw [Nat.add_zero] at h20
        have hq2 : ∀ (j : Nat) (o : Int), q[j]? = some o → if left.testBit (L - n + j) then o = -1 else o ∈ may.getD (L - n + j) [] := by
          intro j o' hj
          have := h2 (j + 1) o' (by simpa using hj)
          rw [show L - (n + 1) + (j + 1) = L - n + j by omega] at this
          exact this
        cases hb : left.testBit (L - (n + 1))
        · simp only [hb, Bool.false_eq_true, if_false] at h20 ⊢
          obtain ⟨h0, h5⟩ := hg _ _ h20
          obtain ⟨i, rfl⟩ := Int.eq_ofNat_of_zero_le h0
          have hi5 : i < 5 := by omega
          have h4 := h3 i hi5 (by simp)
          rw [cntI_cons, if_pos rfl] at h4
          refine ⟨⟨h20, ?_⟩, (okR_iff hmay n _ q (by omega)).2 ⟨hq, hq2, fun o ho5 ho => ?_⟩⟩
          · show c.at i < mis.getD i 0
            omega
          · have h6 := h3 o ho5 (by simp [ho])
            rw [show ((i : Int)).toNat = i from rfl, Cn.up_at c hi5 ho5]
            rw [cntI_cons] at h6
            by_cases hoi : o = i
            · subst hoi; rw [if_pos rfl] at h6 ⊢; omega
            · rw [if_neg hoi]; rw [if_neg (by omega)] at h6; omega
        · simp only [hb, if_true] at h20 ⊢
          refine ⟨h20, (okR_iff hmay n _ q (by omega)).2 ⟨hq, hq2, fun o ho5 ho => ?_⟩⟩
          have h6 := h3 o ho5 (by simp [ho])
          rw [Cn.skip_at c ho5]
          rw [cntI_cons, if_neg (by omega)] at h6
          omega
theorem give_some {may : List (List Int)} {mis : List Int} {left : Nat} (hmay : ∀ r ∈ may, ∀ o ∈ r, 0 ≤ o ∧ o < 5) :
    (giveL may mis left (fun _ _ => true)).isSome = true ↔ ∃ r : List Int, r.length = may.length ∧ (∀ (j : Nat) (o : Int), r[j]? = some o → if left.testBit j then o = -1 else o ∈ may.getD j []) ∧ ∀ o : Nat, o < 5 → (o : Int) ∈ r → (cntI r o : Int) ≤ mis.getD o 0 := by
  unfold giveL Srch.all
  rw [rest_some]
  have hat : ∀ o : Nat, (⟨0, 0, 0, 0, 0, 0⟩ : Cn).at o = 0 := fun o => by unfold Cn.at; split <;> rfl
  constructor
  · rintro ⟨r, h⟩
    have := (okR_iff hmay may.length _ r (Nat.le_refl _)).1 h
    simp only [hat, Int.zero_add, Nat.sub_self, Nat.zero_add] at this
    exact ⟨r, this⟩
  · rintro ⟨r, h⟩
    refine ⟨r, (okR_iff hmay may.length _ r (Nat.le_refl _)).2 ?_⟩
    simp only [hat, Int.zero_add, Nat.sub_self, Nat.zero_add]
    exact h

/-- ascending lists of numbers from a on, below L -/
def Asc (L : Nat) : Nat → List Int → Prop
  | _, [] => True
  | a, i :: q => ∃ n : Nat, i = (n : Int) ∧ a ≤ n ∧ n < L ∧ Asc L (n + 1) q
def bitsF (set : Nat) (q : List Int) : Nat := q.foldl (fun s i => s ||| 2 ^ i.toNat) set
def aheadB : List Int → List Int → Bool
  | [], b => !b.isEmpty
  | _ :: _, [] => false
  | a :: x, b :: y => if a = b then aheadB x y else decide (a < b)
theorem aheadB_self : ∀ x : List Int, aheadB x x = false
  | [] => rfl
  | a :: x => by unfold aheadB; rw [if_pos rfl]; exact aheadB_self x
theorem ahead_total : ∀ {x y : List Int}, x.length = y.length → aheadB x y = false → aheadB y x = false → x = y
  | [], [], _, _, _ => rfl
  | [], _ :: _, h, _, _ => by simp at h
  | _ :: _, [], h, _, _ => by simp at h
  | a :: x, b :: y, h, h1, h2 => by
    unfold aheadB at h1 h2
    by_cases hab : a = b
    · subst hab
      rw [if_pos rfl] at h1 h2
      rw [ahead_total (by simpa using h) h1 h2]
    · rw [if_neg hab] at h1
      rw [if_neg (Ne.symm hab)] at h2
      simp at h1 h2
      omega
theorem range_some {β : Type} {f : Nat → Option β} {r : β} : ∀ {n a : Nat}, (List.range' a n).findSome? f = some r → ∃ i, a ≤ i ∧ i < a + n ∧ f i = some r ∧ ∀ j, a ≤ j → j < i → f j = none
  | 0, a, h => by simp at h
  | n + 1, a, h => by
    rw [List.range'_succ, List.findSome?_cons] at h
    cases hf : f a with
    | some x =>
      rw [hf] at h
      cases h
      exact ⟨a, Nat.le_refl _, by omega, hf, fun j h1 h2 => by omega⟩
    | none =>
      rw [hf] at h
      obtain ⟨i, h1, h2, h3, h4⟩ := range_some h
      refine ⟨i, by omega, by omega, h3, fun j h5 h6 => ?_⟩
      by_cases hja : j = a
      · subst hja; exact hf
      · exact h4 j (by omega) h6
theorem pick_none {L : Nat} {pf : Nat → Bool} : ∀ {d a set : Nat}, pickRest L pf d a set = none → ∀ r, Asc L a r → r.length = d → pf (bitsF set r) = false
  | 0, a, set, h, r, _, hr => by
    have : r = [] := List.eq_nil_of_length_eq_zero hr
    subst this
    unfold pickRest at h
    show pf set = false
    cases hp : pf set
    · rfl
    · rw [hp] at h; simp at h
  | d + 1, a, set, h, [], _, hr => by simp at hr
  | d + 1, a, set, h, i :: q, ha, hr => by
    obtain ⟨n, rfl, h1, h2, h3⟩ := ha
    unfold pickRest at h
    rw [List.findSome?_eq_none_iff] at h
    have hn := h n (by rw [List.mem_range'_1]; omega)
    rw [Option.map_eq_none_iff] at hn
    exact pick_none hn q h3 (by simpa using hr)
theorem pick_some {L : Nat} {pf : Nat → Bool} : ∀ {d a set : Nat} {r : List Int}, pickRest L pf d a set = some r →
    Asc L a r ∧ r.length = d ∧ pf (bitsF set r) = true ∧ ∀ r', Asc L a r' → r'.length = d → pf (bitsF set r') = true → aheadB r' r = false
  | 0, a, set, r, h => by
    unfold pickRest at h
    cases hp : pf set
    · rw [hp] at h; simp at h
    · rw [hp] at h
      simp at h
      subst h
      refine ⟨trivial, rfl, hp, fun r' _ h' _ => ?_⟩
      have : r' = [] := List.eq_nil_of_length_eq_zero h'
      subst this
      rfl
  | d + 1, a, set, r, h => by
    unfold pickRest at h
    obtain ⟨i, h1, h2, h3, h4⟩ := range_some h
    obtain ⟨q, hq, rfl⟩ := Option.map_eq_some_iff.1 h3
    obtain ⟨k1, k2, k3, k4⟩ := pick_some hq
    refine ⟨⟨i, rfl, h1, by omega, k1⟩, by simp [k2], k3, fun r' ha' hr' hp' => ?_⟩
    match r', ha', hr', hp' with
    | [], _, hr', _ => simp at hr'
    | j :: q', ha', hr', hp' =>
      obtain ⟨n, rfl, g1, g2, g3⟩ := ha'
      unfold aheadB
      by_cases hni : (n : Int) = (i : Int)
      · rw [if_pos hni]
        have : n = i := by omega
        subst this
        exact k4 q' g3 (by simpa using hr') hp'
      · rw [if_neg hni]
        apply decide_eq_false
        intro hlt
        have hn := h4 n g1 (by omega)
        rw [Option.map_eq_none_iff] at hn
        have := pick_none hn q' g3 (by simpa using hr')
        rw [show bitsF set ((n : Int) :: q') = bitsF (set ||| 2 ^ n) q' from rfl, this] at hp'
        cases hp'
theorem leftOf_some {may : List (List Int)} {mis : List Int} : ∀ {k m : Nat} {q : List Int}, leftOf may mis k m = some q →
    ∃ j, m ≤ j ∧ j < m + k ∧ pickRest may.length (fun set => (giveL may mis set (fun _ _ => true)).isSome) j 0 0 = some q ∧ ∀ j', m ≤ j' → j' < j → pickRest may.length (fun set => (giveL may mis set (fun _ _ => true)).isSome) j' 0 0 = none
  | 0, m, q, h => by cases h
  | k + 1, m, q, h => by
    unfold leftOf at h
    split at h
    · rename_i l hl
      cases h
      exact ⟨m, Nat.le_refl _, by omega, hl, fun j' h1 h2 => by omega⟩
    · rename_i hl
      obtain ⟨j, h1, h2, h3, h4⟩ := leftOf_some h
      refine ⟨j, by omega, by omega, h3, fun j' h5 h6 => ?_⟩
      by_cases hj : j' = m
      · subst hj; exact hl
      · exact h4 j' (by omega) h6
theorem leftOf_none {may : List (List Int)} {mis : List Int} : ∀ {k m : Nat}, leftOf may mis k m = none → ∀ j, m ≤ j → j < m + k → pickRest may.length (fun set => (giveL may mis set (fun _ _ => true)).isSome) j 0 0 = none
  | 0, m, _, j, h1, h2 => by omega
  | k + 1, m, h, j, h1, h2 => by
    unfold leftOf at h
    split at h
    · cases h
    · rename_i hl
      by_cases hj : j = m
      · subst hj; exact hl
      · exact leftOf_none h j (by omega) (by omega)
/-- a list comes before another one: it is shorter, or ahead -/
def beforeB (x y : List Int) : Bool := decide (x.length < y.length) || (decide (x.length = y.length) && aheadB x y)
theorem asc_len {L : Nat} : ∀ {a : Nat} {r : List Int}, Asc L a r → a ≤ L → r.length ≤ L - a
  | _, [], _, _ => by simp
  | a, i :: q, h, ha => by
    obtain ⟨n, rfl, h1, h2, h3⟩ := h
    have := asc_len h3 (by omega)
    simp
    omega
/-- leftL is the least of all lists that may be left -/
theorem leftL_least {may : List (List Int)} {mis : List Int} {r : List Int} (ha : Asc may.length 0 r) (hp : (giveL may mis (bitsF 0 r) (fun _ _ => true)).isSome = true) :
    Asc may.length 0 (leftL may mis) ∧ (giveL may mis (bitsF 0 (leftL may mis)) (fun _ _ => true)).isSome = true ∧ ∀ r', Asc may.length 0 r' → (giveL may mis (bitsF 0 r') (fun _ _ => true)).isSome = true → beforeB r' (leftL may mis) = false := by
  unfold leftL
  cases h : leftOf may mis (may.length + 1) 0 with
  | none =>
    have hr := asc_len ha (Nat.zero_le _)
    have := pick_none (leftOf_none h r.length (Nat.zero_le _) (by omega)) r ha rfl
    rw [hp] at this
    cases this
  | some q =>
    obtain ⟨j, h1, h2, h3, h4⟩ := leftOf_some h
    obtain ⟨k1, k2, k3, k4⟩ := pick_some h3
    refine ⟨k1, k3, fun r' ha' hp' => ?_⟩
    unfold beforeB
    show (decide (r'.length < q.length) || (decide (r'.length = q.length) && aheadB r' q)) = false
    have hn : ¬ r'.length < q.length := by
      intro hlt
      have := pick_none (h4 r'.length (Nat.zero_le _) (by omega)) r' ha' rfl
      rw [hp'] at this
      cases this
    rw [decide_eq_false hn, Bool.false_or]
    by_cases he : r'.length = q.length
    · rw [k4 r' ha' (by omega) hp', Bool.and_false]
    · rw [decide_eq_false he, Bool.false_and]
end Go.Proofs.Ytoidaigiejilcaa
