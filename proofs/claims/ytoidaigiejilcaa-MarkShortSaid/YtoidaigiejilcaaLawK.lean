/- Plain laws of MarkShort: a list of strays that lacks proves that some are left, and only that. -/
import Derived.Test.YtoidaigiejilcaaLawM
import Derived.Test.YtoidaigiejilcaaHall
namespace Go.Proofs.Ytoidaigiejilcaa
set_option linter.unusedVariables false
set_option linter.unusedSimpArgs false

/-- what the owners in p miss together, of the first n -/
def needTo (p : Nat → Bool) (mis : List Int) : Nat → Int
  | 0 => 0
  | k + 1 => needTo p mis k + if p k = true then mis.getD k 0 else 0
theorem needTo_congr {p q : Nat → Bool} {mis : List Int} : ∀ {n : Nat}, (∀ i, i < n → p i = q i) → needTo p mis n = needTo q mis n
  | 0, _ => rfl
  | n + 1, h => by unfold needTo; rw [needTo_congr fun i hi => h i (by omega), h n (by omega)]
theorem getD_pos {mis : List Int} (h : ∀ x ∈ mis, 0 ≤ x) (o : Nat) : 0 ≤ mis.getD o 0 := by
  rw [List.getD_eq_getElem?_getD]
  cases hmo : mis[o]? with
  | none => simp
  | some z => have := h z (List.mem_of_getElem? hmo); simpa using this
theorem needTo_wsum {p : Nat → Bool} {mis : List Int} (h : ∀ x ∈ mis, 0 ≤ x) : ∀ n : Nat, needTo p mis n = (wsum (fun o => (mis.getD o 0).toNat) p n : Int)
  | 0 => rfl
  | n + 1 => by
    have h1 := getD_pos h n
    unfold needTo wsum
    rw [needTo_wsum h n]
    by_cases hp : p n = true
    · rw [if_pos hp, if_pos hp]; omega
    · rw [if_neg hp, if_neg hp]; omega
/-- an owner may have one of the strays of a list -/
def hasO (may : List (List Int)) (q : List Int) (o : Nat) : Bool := q.any fun k => (may.getD k.toNat []).contains (o : Int)
def lackB (may : List (List Int)) (mis q : List Int) : Bool := decide (needTo (hasO may q) mis mis.length < (q.length : Int))
def mayM (may : List (List Int)) (k o : Nat) : Bool := (may.getD k []).contains (o : Int)
def capM (mis : List Int) (o : Nat) : Nat := (mis.getD o 0).toNat
/-- the list of those below L that are in A -/
def listOf (A : Nat → Bool) (L : Nat) : List Int := ((List.range L).filter A).map Int.ofNat
theorem asc_list (A : Nat → Bool) (L : Nat) : Asc L 0 (listOf A L) := by
  unfold listOf
  rw [List.range_eq_range']
  exact asc_filter A L L 0 (by omega)
theorem mem_list {A : Nat → Bool} {L k : Nat} : (k : Int) ∈ listOf A L ↔ k < L ∧ A k = true := by
  unfold listOf
  rw [List.mem_map]
  constructor
  · rintro ⟨i, hi, he⟩
    have : i = k := by have h2 : (i : Int) = (k : Int) := he; omega
    subst this
    simpa using hi
  · rintro ⟨h1, h2⟩
    exact ⟨k, by simpa using ⟨h1, h2⟩, rfl⟩
theorem len_list (A : Nat → Bool) : ∀ L : Nat, (listOf A L).length = wsum one A L
  | 0 => rfl
  | L + 1 => by
    have ih := len_list A L
    unfold listOf at ih ⊢
    rw [List.range_succ, List.filter_append, List.map_append, List.length_append, ih]
    show _ = wsum one A L + if A L = true then one L else 0
    by_cases hA : A L = true
    · rw [if_pos hA, List.filter_cons_of_pos hA]; rfl
    · rw [if_neg hA, List.filter_cons_of_neg hA]; rfl
theorem asc_is_list {L : Nat} {q : List Int} (h : Asc L 0 q) : q = listOf (fun k => decide ((k : Int) ∈ q)) L := by
  refine asc_ext h (asc_list _ L) fun i => ?_
  constructor
  · intro hi
    have h2 := asc_ge h i hi
    obtain ⟨k, rfl⟩ := Int.eq_ofNat_of_zero_le (show 0 ≤ i by omega)
    exact mem_list.2 ⟨by omega, by simpa using hi⟩
  · intro hi
    have h2 := asc_ge (asc_list _ L) i hi
    obtain ⟨k, rfl⟩ := Int.eq_ofNat_of_zero_le (show 0 ≤ i by omega)
    simpa using (mem_list.1 hi).2
theorem has_list {may : List (List Int)} {A : Nat → Bool} {L o : Nat} : hasO may (listOf A L) o = nbr (mayM may) A L o := by
  rw [Bool.eq_iff_iff, nbr_iff]
  unfold hasO
  rw [List.any_eq_true]
  constructor
  · rintro ⟨i, hi, h⟩
    have h2 := asc_ge (asc_list A L) i hi
    obtain ⟨k, rfl⟩ := Int.eq_ofNat_of_zero_le (show 0 ≤ i by omega)
    exact ⟨k, (mem_list.1 hi).1, (mem_list.1 hi).2, h⟩
  · rintro ⟨k, hk, hA, hm⟩
    exact ⟨(k : Int), mem_list.2 ⟨hk, hA⟩, hm⟩
theorem hall_asc {may : List (List Int)} {mis : List Int} (hmis : ∀ x ∈ mis, 0 ≤ x) {L : Nat} : HallC (mayM may) (capM mis) L mis.length ↔ ∀ q, Asc L 0 q → lackB may mis q = false := by
  have key : ∀ A : Nat → Bool, lackB may mis (listOf A L) = false ↔ wsum one A L ≤ wsum (capM mis) (nbr (mayM may) A L) mis.length := fun A => by
    unfold lackB
    rw [decide_eq_false_iff_not, needTo_congr (q := nbr (mayM may) A L) (fun i _ => has_list), needTo_wsum hmis, len_list]
    show ¬ ((wsum (capM mis) _ _ : Nat) : Int) < _ ↔ _
    omega
  constructor
  · intro h q hq
    rw [asc_is_list hq]
    exact (key _).2 (h _)
  · intro h A
    exact (key A).1 (h _ (asc_list A L))
theorem cntI_take (r : List Int) (o : Int) : ∀ n : Nat, n ≤ r.length → cntI (r.take n) o = wsum one (fun k => decide (r.getD k 0 = o)) n
  | 0, _ => rfl
  | n + 1, h => by
    have hn := List.getElem?_eq_getElem (show n < r.length by omega)
    rw [List.take_add_one, hn]
    show cntI (r.take n ++ [r[n]]) o = _
    rw [cntI_snoc, cntI_take r o n (by omega)]
    show _ = wsum one _ n + if decide (r.getD n 0 = o) = true then one n else 0
    rw [List.getD_eq_getElem?_getD, hn]
    by_cases he : r[n] = o <;> simp [he]
theorem cntI_wsum (r : List Int) (o : Int) : cntI r o = wsum one (fun k => decide (r.getD k 0 = o)) r.length := by
  have := cntI_take r o r.length (Nat.le_refl _)
  rwa [List.take_of_length_le (Nat.le_refl _)] at this
/-- all strays can be given just if no list lacks -/
theorem give_hall {may : List (List Int)} {mis : List Int} (hmay : ∀ r ∈ may, ∀ o ∈ r, 0 ≤ o ∧ o < 5 ∧ o < mis.length) (hmis : ∀ x ∈ mis, 0 ≤ x) :
    (giveL may mis 0 (fun _ _ => true)).isSome = true ↔ ∀ q, Asc may.length 0 q → lackB may mis q = false := by
  rw [← hall_asc hmis, ← hall_iff, give_some fun r hr o ho => ⟨(hmay r hr o ho).1, (hmay r hr o ho).2.1⟩]
  have hrow : ∀ j o, o ∈ may.getD j [] → 0 ≤ o ∧ o < 5 ∧ o < mis.length := fun j o ho => by
    rw [List.getD_eq_getElem?_getD] at ho
    cases hj : may[j]? with
    | none => rw [hj] at ho; simp at ho
    | some row => rw [hj] at ho; exact hmay row (List.mem_of_getElem? hj) o ho
  constructor
  · rintro ⟨r, hr, h1, h2⟩
    have hin : ∀ k, k < may.length → r.getD k 0 ∈ may.getD k [] := fun k hk => by
      have hk' := List.getElem?_eq_getElem (show k < r.length by omega)
      have := h1 k _ hk'
      simp only [Nat.zero_testBit, Bool.false_eq_true, if_false] at this
      rw [show r.getD k 0 = r[k] by rw [List.getD_eq_getElem?_getD, hk']; rfl]
      exact this
    refine ⟨fun k => (r.getD k 0).toNat, fun k hk => ?_, fun o ho => ?_⟩
    · have h3 := hrow k _ (hin k hk)
      refine ⟨by show (r.getD k 0).toNat < mis.length; omega, ?_⟩
      unfold mayM
      rw [Int.toNat_of_nonneg h3.1, List.contains_eq_mem, decide_eq_true_eq]
      exact hin k hk
    · have e : wsum one (fun k => decide ((r.getD k 0).toNat = o)) may.length = cntI r (o : Int) := by
        rw [cntI_wsum, hr]
        refine wsum_congr fun k hk => ?_
        have h3 := hrow k _ (hin k hk)
        rw [decide_eq_decide]
        omega
      rw [e]
      by_cases hm : (o : Int) ∈ r
      · obtain ⟨k, hk⟩ := List.getElem?_of_mem hm
        have hkl := (List.getElem?_eq_some_iff.1 hk).1
        have h3 := hrow k _ (hin k (by omega))
        rw [List.getD_eq_getElem?_getD, hk] at h3
        simp only [Option.getD_some] at h3
        have := h2 o (by omega) hm
        unfold capM
        omega
      · rw [cntI_zero hm]; exact Nat.zero_le _
  · rintro ⟨g, h1, h2⟩
    refine ⟨(List.range may.length).map fun k => (g k : Int), by simp, fun j o hj => ?_, fun o ho hm => ?_⟩
    · have hjl := (List.getElem?_eq_some_iff.1 hj).1
      simp at hjl
      rw [List.getElem?_map, List.getElem?_range hjl] at hj
      simp at hj
      subst hj
      simp only [Nat.zero_testBit, Bool.false_eq_true, if_false]
      have := (h1 j hjl).2
      unfold mayM at this
      rw [List.contains_eq_mem, decide_eq_true_eq] at this
      exact this
    · rw [cntI_wsum]
      obtain ⟨k, hk, he⟩ := List.mem_map.1 hm
      have hk' := List.mem_range.1 hk
      have hgo : g k = o := by omega
      have h3 := h2 o (by rw [← hgo]; exact (h1 k hk').1)
      have e : wsum one (fun k => decide (((List.range may.length).map fun k => (g k : Int)).getD k 0 = (o : Int))) ((List.range may.length).map fun k => (g k : Int)).length = wsum one (fun k => decide (g k = o)) may.length := by
        rw [List.length_map, List.length_range]
        refine wsum_congr fun i hi => ?_
        rw [List.getD_eq_getElem?_getD, List.getElem?_map, List.getElem?_range hi]
        simp only [Option.map_some, Option.getD_some, decide_eq_decide]
        omega
      rw [e]
      have := getD_pos hmis o
      unfold capM at h3
      omega

/-! ### what the program reckons with bits -/
def maskRow (s : Nat) (a : Nat) (r : List Int) : Nat := r.foldl (fun a o => a ||| s <<< o.toNat) a
def maskTo (may : List (List Int)) (set : Nat) : Nat → Nat
  | 0 => 0
  | i + 1 => maskRow (set >>> i % 2) (maskTo may set i) (may.getD i [])
theorem maskRow_test {s : Nat} (hs : s < 2) : ∀ (r : List Int) (a o : Nat), (∀ x ∈ r, 0 ≤ x) → (maskRow s a r).testBit o = (a.testBit o || (decide (s = 1) && r.contains (o : Int)))
  | [], a, o, _ => by simp [maskRow]
  | x :: r, a, o, h => by
    obtain ⟨n, rfl⟩ := Int.eq_ofNat_of_zero_le (h x (by simp))
    rw [show maskRow s a ((n : Int) :: r) = maskRow s (a ||| s <<< n) r from rfl, maskRow_test hs r _ o (fun y hy => h y (by simp [hy])), Nat.testBit_or, Bool.or_assoc]
    congr 1
    have h01 : s = 0 ∨ s = 1 := by omega
    rcases h01 with rfl | rfl
    · simp
    · rw [Nat.shiftLeft_eq, Nat.one_mul, Nat.testBit_two_pow]
      rw [Bool.eq_iff_iff]
      simp only [decide_true, Bool.true_and, Bool.or_eq_true, decide_eq_true_eq, List.contains_eq_mem, List.mem_cons]
      constructor
      · rintro (h | h)
        · left; omega
        · exact .inr h
      · rintro (h | h)
        · left; omega
        · exact .inr h
theorem maskTo_test {may : List (List Int)} {set : Nat} (hmay : ∀ r ∈ may, ∀ o ∈ r, 0 ≤ o) : ∀ (i o : Nat), (maskTo may set i).testBit o = (List.range i).any fun k => set.testBit k && mayM may k o
  | 0, o => by simp [maskTo]
  | i + 1, o => by
    have hrow : ∀ x ∈ may.getD i [], 0 ≤ x := fun x hx => by
      rw [List.getD_eq_getElem?_getD] at hx
      cases hj : may[i]? with
      | none => rw [hj] at hx; simp at hx
      | some row => rw [hj] at hx; exact hmay row (List.mem_of_getElem? hj) x hx
    show (maskRow (set >>> i % 2) (maskTo may set i) (may.getD i [])).testBit o = _
    rw [maskRow_test (Nat.mod_lt _ (by omega)) _ _ _ hrow, maskTo_test hmay i o, List.range_succ, List.any_append]
    congr 1
    simp only [List.any_cons, List.any_nil, Bool.or_false]
    show (decide (set >>> i % 2 = 1) && mayM may i o) = _
    congr 1
    rw [Nat.testBit_eq_decide_div_mod_eq, Nat.shiftRight_eq_div_pow]
def shortB (may : List (List Int)) (mis : List Int) (set : Nat) : Bool := decide (needTo (fun o => (maskTo may set may.length).testBit o) mis mis.length < (popI (set : Int) : Int))
theorem pop_list {L : Nat} (hL : L ≤ 8) {q : List Int} (h : Asc L 0 q) : popI (bitsF 0 q : Nat) = q.length := by
  have h8 : Asc 8 0 q := by
    have : ∀ {q : List Int} {a : Nat}, Asc L a q → Asc 8 a q := by
      intro q
      induction q with
      | nil => intros; trivial
      | cons i q ih => rintro a ⟨n, h1, h2, h3, h4⟩; exact ⟨n, h1, h2, by omega, ih h4⟩
    exact this h
  have hq := congrArg List.length (asc_is_list h8)
  rw [hq]
  unfold listOf popI cnt
  rw [List.length_map, List.countP_eq_length_filter]
  congr 1
  refine List.filter_congr fun j _ => ?_
  unfold bit
  rw [Int.toNat_natCast, bitsF_test q 0 j (asc_pos h)]
  simp
theorem short_lack {may : List (List Int)} {mis : List Int} (hmay : ∀ r ∈ may, ∀ o ∈ r, 0 ≤ o) (hL : may.length ≤ 8) {q : List Int} (h : Asc may.length 0 q) : shortB may mis (bitsF 0 q) = lackB may mis q := by
  unfold shortB lackB
  rw [pop_list hL h]
  congr 2
  refine needTo_congr fun o _ => ?_
  rw [maskTo_test hmay]
  unfold hasO
  rw [Bool.eq_iff_iff, List.any_eq_true, List.any_eq_true]
  constructor
  · rintro ⟨k, hk, hb⟩
    rw [Bool.and_eq_true, bitsF_test q 0 k (asc_pos h), Nat.zero_testBit, Bool.false_or, decide_eq_true_eq] at hb
    exact ⟨(k : Int), hb.1, hb.2⟩
  · rintro ⟨i, hi, hb⟩
    have h2 := asc_ge h i hi
    obtain ⟨k, rfl⟩ := Int.eq_ofNat_of_zero_le (show 0 ≤ i by omega)
    refine ⟨k, List.mem_range.2 (by omega), ?_⟩
    rw [Bool.and_eq_true, bitsF_test q 0 k (asc_pos h)]
    exact ⟨by simp [hi], hb⟩

/-! ### the first list of the fewest -/
def shortOf (may : List (List Int)) (mis : List Int) : Nat → Nat → Option (List Int)
  | 0, _ => none
  | k + 1, many => match pickRest may.length (shortB may mis) many 0 0 with
    | some l => some l
    | none => shortOf may mis k (many + 1)
def shortL (may : List (List Int)) (mis : List Int) : Option (List Int) := shortOf may mis may.length 1
/-- all ascending lists of so many numbers, in their order -/
def picksL (n : Nat) : Nat → Nat → List (List Int)
  | _, 0 => [[]]
  | a, m + 1 => (List.range' a (n - a)).flatMap fun (i : Nat) => (picksL n (i + 1) m).map fun r => (i : Int) :: r
theorem picks_mem {n : Nat} : ∀ {m a : Nat} {r : List Int}, r ∈ picksL n a m → Asc n a r ∧ r.length = m
  | 0, a, r, h => by simp [picksL] at h; subst h; exact ⟨trivial, rfl⟩
  | m + 1, a, r, h => by
    obtain ⟨i, hi, h2⟩ := List.mem_flatMap.1 h
    obtain ⟨q, hq, rfl⟩ := List.mem_map.1 h2
    obtain ⟨h3, h4⟩ := picks_mem hq
    rw [List.mem_range'_1] at hi
    exact ⟨⟨i, rfl, hi.1, by omega, h3⟩, by simp [h4]⟩
theorem picks_has {n : Nat} : ∀ {r : List Int} {a : Nat}, Asc n a r → r ∈ picksL n a r.length
  | [], a, _ => by simp [picksL]
  | i :: q, a, ⟨k, h1, h2, h3, h4⟩ => by
    subst h1
    exact List.mem_flatMap.2 ⟨k, by rw [List.mem_range'_1]; omega, List.mem_map.2 ⟨q, picks_has h4, rfl⟩⟩
theorem pick_find {L : Nat} {pf : Nat → Bool} : ∀ (d a set : Nat), pickRest L pf d a set = (picksL L a d).find? fun q => pf (bitsF set q)
  | 0, a, set => by
    unfold pickRest picksL
    cases h : pf set
    · simp [bitsF, h]
    · simp [bitsF, h]
  | d + 1, a, set => by
    unfold pickRest picksL
    rw [find_flat]
    refine findSome_congr fun i _ => ?_
    rw [find_map', pick_find d (i + 1) _]
    rfl
theorem shortOf_find {may : List (List Int)} {mis : List Int} (hmay : ∀ r ∈ may, ∀ o ∈ r, 0 ≤ o) (hL : may.length ≤ 8) (many : Nat) : pickRest may.length (shortB may mis) many 0 0 = (picksL may.length 0 many).find? (lackB may mis) := by
  rw [pick_find]
  exact find_congr fun q hq => short_lack hmay hL (picks_mem hq).1
theorem shortOf_none {may : List (List Int)} {mis : List Int} : ∀ {k m : Nat}, shortOf may mis k m = none ↔ ∀ j, m ≤ j → j < m + k → pickRest may.length (shortB may mis) j 0 0 = none
  | 0, m => by simp [shortOf]; intro j h1 h2; omega
  | k + 1, m => by
    unfold shortOf
    split
    · rename_i l hl
      constructor
      · intro h; cases h
      · intro h; rw [h m (Nat.le_refl _) (by omega)] at hl; cases hl
    · rename_i hl
      rw [shortOf_none]
      constructor
      · intro h j h1 h2
        by_cases hj : j = m
        · subst hj; exact hl
        · exact h j (by omega) (by omega)
      · intro h j h1 h2; exact h j (by omega) (by omega)
theorem shortOf_skip {may : List (List Int)} {mis : List Int} : ∀ (a b c : Nat), (∀ j, c ≤ j → j < c + a → pickRest may.length (shortB may mis) j 0 0 = none) → shortOf may mis (a + b) c = shortOf may mis b (c + a)
  | 0, b, c, _ => by rw [Nat.zero_add, Nat.add_zero]
  | a + 1, b, c, h => by
    rw [show a + 1 + b = (a + b) + 1 by omega]
    show (match pickRest may.length (shortB may mis) c 0 0 with | some l => some l | none => shortOf may mis (a + b) (c + 1)) = _
    rw [h c (Nat.le_refl _) (by omega)]
    dsimp only
    rw [shortOf_skip a b (c + 1) (fun j h1 h2 => h j (by omega) (by omega)), show c + 1 + a = c + (a + 1) by omega]
/-- some are left just if there is such a list -/
theorem short_home {may : List (List Int)} {mis : List Int} (hmay : ∀ r ∈ may, ∀ o ∈ r, 0 ≤ o ∧ o < 5 ∧ o < mis.length) (hmis : ∀ x ∈ mis, 0 ≤ x) (hL : may.length ≤ 8) :
    (giveL may mis 0 (fun _ _ => true)).isSome = true ↔ shortL may mis = none := by
  rw [give_hall hmay hmis]
  unfold shortL
  rw [shortOf_none]
  have hm : ∀ r ∈ may, ∀ o ∈ r, 0 ≤ o := fun r hr o ho => (hmay r hr o ho).1
  constructor
  · intro h j h1 h2
    rw [shortOf_find hm hL, List.find?_eq_none]
    intro q hq
    rw [h q (picks_mem hq).1]
    simp
  · intro h q hq
    by_cases h0 : q = []
    · subst h0
      unfold lackB
      rw [decide_eq_false_iff_not, needTo_wsum hmis]
      simp
    · have hl := asc_len hq (Nat.zero_le _)
      have hlp : 0 < q.length := List.length_pos_iff.2 h0
      have := h q.length (by omega) (by omega)
      rw [shortOf_find hm hL, List.find?_eq_none] at this
      have := this q (picks_has hq)
      simpa using this
end Go.Proofs.Ytoidaigiejilcaa
