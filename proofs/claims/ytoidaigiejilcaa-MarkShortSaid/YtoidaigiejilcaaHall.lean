/- Plain law: Hall's theorem with capacities (Rado's way of removing one choice after the other). -/
import Derived.Test.YtoidaigiejilcaaBase
namespace Go.Proofs.Ytoidaigiejilcaa
set_option linter.unusedVariables false
set_option linter.unusedSimpArgs false

/-- the sum of c over those below n that are in p -/
def wsum (c : Nat → Nat) (p : Nat → Bool) : Nat → Nat
  | 0 => 0
  | n + 1 => wsum c p n + if p n = true then c n else 0
abbrev one : Nat → Nat := fun _ => 1
theorem wsum_mono {c : Nat → Nat} {p q : Nat → Bool} : ∀ {n : Nat}, (∀ i, i < n → p i = true → q i = true) → wsum c p n ≤ wsum c q n
  | 0, _ => Nat.le_refl _
  | n + 1, h => by
    have ih := wsum_mono (c := c) (n := n) fun i hi => h i (by omega)
    have hn := h n (by omega)
    show wsum c p n + (if p n = true then c n else 0) ≤ wsum c q n + (if q n = true then c n else 0)
    by_cases hp : p n = true
    · rw [if_pos hp, if_pos (hn hp)]; omega
    · rw [if_neg hp]; omega
theorem wsum_congr {c : Nat → Nat} {p q : Nat → Bool} {n : Nat} (h : ∀ i, i < n → p i = q i) : wsum c p n = wsum c q n :=
  Nat.le_antisymm (wsum_mono fun i hi hp => by rw [← h i hi]; exact hp) (wsum_mono fun i hi hp => by rw [h i hi]; exact hp)
theorem wsum_le_c {c d : Nat → Nat} {p : Nat → Bool} : ∀ {n : Nat}, (∀ i, i < n → p i = true → c i ≤ d i) → wsum c p n ≤ wsum d p n
  | 0, _ => Nat.le_refl _
  | n + 1, h => by
    have ih := wsum_le_c (n := n) (p := p) fun i hi => h i (by omega)
    have hn := h n (by omega)
    show wsum c p n + (if p n = true then c n else 0) ≤ wsum d p n + (if p n = true then d n else 0)
    by_cases hp : p n = true
    · rw [if_pos hp, if_pos hp]; have := hn hp; omega
    · rw [if_neg hp, if_neg hp]; omega
theorem wsum_lt_c {c d : Nat → Nat} {p : Nat → Bool} : ∀ {n : Nat}, (∀ i, i < n → p i = true → c i ≤ d i) → (∃ i, i < n ∧ p i = true ∧ c i < d i) → wsum c p n < wsum d p n
  | 0, _, ⟨i, hi, _⟩ => by omega
  | n + 1, h, ⟨i, hi, hp, hlt⟩ => by
    have hle := wsum_le_c (n := n) (p := p) fun i hi => h i (by omega)
    have hn := h n (by omega)
    show wsum c p n + (if p n = true then c n else 0) < wsum d p n + (if p n = true then d n else 0)
    by_cases hin : i = n
    · subst hin; rw [if_pos hp, if_pos hp]; omega
    · have := wsum_lt_c (n := n) (p := p) (fun i hi => h i (by omega)) ⟨i, by omega, hp, hlt⟩
      by_cases hpn : p n = true
      · rw [if_pos hpn, if_pos hpn]; have := hn hpn; omega
      · rw [if_neg hpn, if_neg hpn]; omega
theorem wsum_mod {c : Nat → Nat} {p q : Nat → Bool} : ∀ n : Nat, wsum c (fun i => p i || q i) n + wsum c (fun i => p i && q i) n = wsum c p n + wsum c q n
  | 0 => rfl
  | n + 1 => by
    have ih := wsum_mod (c := c) (p := p) (q := q) n
    show wsum c (fun i => p i || q i) n + (if (p n || q n) = true then c n else 0) + (wsum c (fun i => p i && q i) n + if (p n && q n) = true then c n else 0) = (wsum c p n + if p n = true then c n else 0) + (wsum c q n + if q n = true then c n else 0)
    by_cases hp : p n = true
    · by_cases hq : q n = true
      · simp only [hp, hq, Bool.or_true, Bool.and_true, if_true]; omega
      · rw [Bool.not_eq_true] at hq; simp only [hp, hq, Bool.or_false, Bool.and_false, Bool.false_eq_true, if_true, if_false]; omega
    · rw [Bool.not_eq_true] at hp
      by_cases hq : q n = true
      · simp only [hp, hq, Bool.false_or, Bool.false_and, Bool.false_eq_true, if_true, if_false]; omega
      · rw [Bool.not_eq_true] at hq; simp only [hp, hq, Bool.false_or, Bool.false_and, Bool.false_eq_true, if_false]; omega
theorem wsum_cut {c : Nat → Nat} {p : Nat → Bool} {k : Nat} : ∀ n : Nat, wsum c p n = wsum c (fun i => p i && !decide (i = k)) n + if k < n ∧ p k = true then c k else 0
  | 0 => by simp [wsum]
  | n + 1 => by
    have ih := wsum_cut (c := c) (p := p) (k := k) n
    show wsum c p n + (if p n = true then c n else 0) = wsum c (fun i => p i && !decide (i = k)) n + (if (p n && !decide (n = k)) = true then c n else 0) + (if k < n + 1 ∧ p k = true then c k else 0)
    by_cases hk : n = k
    · subst hk
      rw [if_neg (fun h => by omega : ¬ (n < n ∧ p n = true))] at ih
      rw [ih]
      by_cases hp : p n = true
      · simp [hp]
      · simp [hp]
    · have e1 : (p n && !decide (n = k)) = p n := by simp [hk]
      have e2 : (k < n + 1 ∧ p k = true) ↔ (k < n ∧ p k = true) := ⟨fun h => ⟨by omega, h.2⟩, fun h => ⟨by omega, h.2⟩⟩
      rw [e1, ih]
      by_cases h : k < n ∧ p k = true
      · rw [if_pos h, if_pos (e2.2 h)]; omega
      · rw [if_neg h, if_neg (fun h' => h (e2.1 h'))]; omega
theorem wsum_pos {c : Nat → Nat} {p : Nat → Bool} : ∀ {n : Nat}, 0 < wsum c p n → ∃ i, i < n ∧ p i = true ∧ 0 < c i
  | 0, h => by simp [wsum] at h
  | n + 1, h => by
    simp only [wsum] at h
    by_cases hp : p n = true
    · by_cases hc : 0 < c n
      · exact ⟨n, by omega, hp, hc⟩
      · rw [if_pos hp] at h
        obtain ⟨i, hi, h1⟩ := wsum_pos (c := c) (p := p) (n := n) (by omega)
        exact ⟨i, by omega, h1⟩
    · rw [if_neg hp] at h
      obtain ⟨i, hi, h1⟩ := wsum_pos (c := c) (p := p) (n := n) (by omega)
      exact ⟨i, by omega, h1⟩
theorem wsum_zero {c : Nat → Nat} {p : Nat → Bool} : ∀ {n : Nat}, (∀ i, i < n → p i = false) → wsum c p n = 0
  | 0, _ => rfl
  | n + 1, h => by simp only [wsum]; rw [wsum_zero fun i hi => h i (by omega), h n (by omega)]; rfl
theorem wsum_one {c : Nat → Nat} {k n : Nat} : wsum c (fun i => decide (i = k)) n = if k < n then c k else 0 := by
  rw [wsum_cut (k := k) n, wsum_zero (fun i _ => by by_cases h : i = k <;> simp [h])]
  simp
theorem wsum_add_c {c d : Nat → Nat} {p : Nat → Bool} : ∀ n : Nat, wsum (fun i => c i + d i) p n = wsum c p n + wsum d p n
  | 0 => rfl
  | n + 1 => by
    simp only [wsum]; rw [wsum_add_c n]
    by_cases hp : p n = true
    · rw [if_pos hp, if_pos hp, if_pos hp]; omega
    · rw [if_neg hp, if_neg hp, if_neg hp]; omega
theorem wsum_ind {p : Nat → Bool} {k n : Nat} (hk : k < n) (hp : p k = true) : wsum (fun o => if k = o then 1 else 0) p n = 1 := by
  rw [wsum_cut (k := k) n, if_pos ⟨hk, hp⟩, if_pos rfl]
  have : wsum (fun o => if k = o then 1 else 0) (fun i => p i && !decide (i = k)) n ≤ wsum (fun _ => 0) (fun i => p i && !decide (i = k)) n :=
    wsum_le_c fun i _ h => by
      have : i ≠ k := by intro e; subst e; simp at h
      rw [if_neg (fun e => this e.symm)]; exact Nat.le_refl _
  have h0 : ∀ m, wsum (fun _ => 0) (fun i => p i && !decide (i = k)) m = 0 := by
    intro m; induction m with
    | zero => rfl
    | succ m ih => simp only [wsum]; rw [ih]; simp
  rw [h0] at this; omega

/-- all who can have one of A -/
def nbr (m : Nat → Nat → Bool) (A : Nat → Bool) (L o : Nat) : Bool := (List.range L).any fun k => A k && m k o
theorem nbr_iff {m : Nat → Nat → Bool} {A : Nat → Bool} {L o : Nat} : nbr m A L o = true ↔ ∃ k, k < L ∧ A k = true ∧ m k o = true := by
  unfold nbr
  rw [List.any_eq_true]
  constructor
  · rintro ⟨k, hk, h⟩; rw [Bool.and_eq_true] at h; exact ⟨k, List.mem_range.1 hk, h⟩
  · rintro ⟨k, hk, h⟩; exact ⟨k, List.mem_range.2 hk, by rw [Bool.and_eq_true]; exact h⟩
/-- no list lacks -/
def HallC (m : Nat → Nat → Bool) (c : Nat → Nat) (L N : Nat) : Prop := ∀ A : Nat → Bool, wsum one A L ≤ wsum c (nbr m A L) N
def cutE (m : Nat → Nat → Bool) (k a : Nat) : Nat → Nat → Bool := fun i o => m i o && !(decide (i = k) && decide (o = a))
theorem cutE_of {m : Nat → Nat → Bool} {k a i o : Nat} (h : m i o = true) (hne : ¬ (i = k ∧ o = a)) : cutE m k a i o = true := by
  unfold cutE; rw [h, Bool.true_and]
  by_cases h1 : i = k
  · by_cases h2 : o = a
    · exact absurd ⟨h1, h2⟩ hne
    · simp [h2]
  · simp [h1]
theorem cutE_sub {m : Nat → Nat → Bool} {k a i o : Nat} (h : cutE m k a i o = true) : m i o = true := by
  unfold cutE at h; rw [Bool.and_eq_true] at h; exact h.1
theorem bad_has {m : Nat → Nat → Bool} {c : Nat → Nat} {L N k a : Nat} {A : Nat → Bool} (h : HallC m c L N) (hA : wsum c (nbr (cutE m k a) A L) N < wsum one A L) : A k = true := by
  cases hAk : A k
  · have h1 := h A
    have h2 : wsum c (nbr m A L) N ≤ wsum c (nbr (cutE m k a) A L) N := wsum_mono fun o _ ho => by
      obtain ⟨i, hi, hai, hm⟩ := nbr_iff.1 ho
      exact nbr_iff.2 ⟨i, hi, hai, cutE_of hm fun e => by rw [e.1, hAk] at hai; cases hai⟩
    omega
  · rfl
theorem hall_cut {m : Nat → Nat → Bool} {c : Nat → Nat} {L N k a b : Nat} (hk : k < L) (hab : a ≠ b) (ha : m k a = true) (hb : m k b = true) (h : HallC m c L N) : HallC (cutE m k a) c L N ∨ HallC (cutE m k b) c L N := by
  by_cases h1 : HallC (cutE m k a) c L N
  · exact .inl h1
  by_cases h2 : HallC (cutE m k b) c L N
  · exact .inr h2
  exfalso
  unfold HallC at h1 h2
  simp only [Classical.not_forall, Nat.not_le] at h1 h2
  obtain ⟨A, hA⟩ := h1
  obtain ⟨B, hB⟩ := h2
  have kA := bad_has h hA
  have kB := bad_has h hB
  have u := h fun i => A i || B i
  have v := h fun i => (A i && B i) && !decide (i = k)
  have e1 := wsum_mod (c := one) (p := A) (q := B) L
  have e2 := wsum_cut (c := one) (p := fun i => A i && B i) (k := k) L
  rw [if_pos ⟨hk, by simp [kA, kB]⟩] at e2
  have e3 := wsum_mod (c := c) (p := nbr (cutE m k a) A L) (q := nbr (cutE m k b) B L) N
  have e4 : wsum c (nbr m (fun i => A i || B i) L) N ≤ wsum c (fun o => nbr (cutE m k a) A L o || nbr (cutE m k b) B L o) N := wsum_mono fun o _ ho => by
    obtain ⟨i, hi, hai, hm⟩ := nbr_iff.1 ho
    rw [Bool.or_eq_true]
    by_cases hik : i = k
    · subst hik
      by_cases hoa : o = a
      · exact .inr (nbr_iff.2 ⟨i, hi, kB, cutE_of hm fun e => hab (by rw [← hoa, e.2])⟩)
      · exact .inl (nbr_iff.2 ⟨i, hi, kA, cutE_of hm fun e => hoa e.2⟩)
    · rw [Bool.or_eq_true] at hai
      rcases hai with h3 | h3
      · exact .inl (nbr_iff.2 ⟨i, hi, h3, cutE_of hm fun e => hik e.1⟩)
      · exact .inr (nbr_iff.2 ⟨i, hi, h3, cutE_of hm fun e => hik e.1⟩)
  have e5 : wsum c (nbr m (fun i => (A i && B i) && !decide (i = k)) L) N ≤ wsum c (fun o => nbr (cutE m k a) A L o && nbr (cutE m k b) B L o) N := wsum_mono fun o _ ho => by
    obtain ⟨i, hi, hai, hm⟩ := nbr_iff.1 ho
    simp only [Bool.and_eq_true, Bool.not_eq_true', decide_eq_false_iff_not] at hai
    rw [Bool.and_eq_true]
    exact ⟨nbr_iff.2 ⟨i, hi, hai.1.1, cutE_of hm fun e => hai.2 e.1⟩, nbr_iff.2 ⟨i, hi, hai.1.2, cutE_of hm fun e => hai.2 e.1⟩⟩
  have e6 : wsum one (fun i => (A i && B i) && !decide (i = k)) L + one k = wsum one (fun i => A i && B i) L := e2.symm
  have e7 : one k = 1 := rfl
  omega
/-- with no list that lacks there is a giving -/
theorem hall_ex {c : Nat → Nat} {L N : Nat} : ∀ (D : Nat) (m : Nat → Nat → Bool), wsum (fun k => wsum one (m k) N) (fun _ => true) L ≤ D → HallC m c L N →
    ∃ g : Nat → Nat, (∀ k, k < L → g k < N ∧ m k (g k) = true) ∧ ∀ o, o < N → wsum one (fun k => decide (g k = o)) L ≤ c o := by
  intro D
  induction D with
  | zero => 
    intro m hD h
    refine ⟨fun _ => 0, fun k hk => ?_, fun o ho => ?_⟩
    all_goals
      have hz : ∀ k, k < L → wsum one (m k) N = 0 := fun k hk => by
        have h1 := wsum_cut (c := fun k => wsum one (m k) N) (p := fun _ => true) (k := k) L
        rw [if_pos ⟨hk, rfl⟩] at h1
        omega
      have hL : L = 0 := by
        by_cases hL : L = 0
        · exact hL
        · exfalso
          have h1 := h fun i => decide (i = 0)
          rw [wsum_one, if_pos (by omega)] at h1
          have h2 : one 0 = 1 := rfl
          obtain ⟨o, ho, hn, _⟩ := wsum_pos (c := c) (p := nbr m (fun i => decide (i = 0)) L) (n := N) (by omega)
          obtain ⟨i, hi, he, hm⟩ := nbr_iff.1 hn
          have h3 := wsum_cut (c := one) (p := m i) (k := o) N
          rw [if_pos ⟨ho, hm⟩, hz i hi] at h3
          have h4 : one o = 1 := rfl
          omega
      subst hL
      first | omega | exact Nat.zero_le _
  | succ D ih =>
    intro m hD h
    by_cases hex : ∃ k a b, k < L ∧ a < N ∧ b < N ∧ a ≠ b ∧ m k a = true ∧ m k b = true
    · obtain ⟨k, a, b, hk, ha, hb, hab, hma, hmb⟩ := hex
      have hdeg : ∀ x, x < N → m k x = true → wsum (fun k => wsum one (m k) N) (fun _ => true) L > wsum (fun i => wsum one (cutE m k x i) N) (fun _ => true) L := fun x hx hm =>
        wsum_lt_c (fun i hi _ => wsum_mono fun o _ ho => cutE_sub ho) ⟨k, hk, rfl, by
          rw [wsum_cut (c := one) (p := m k) (k := x) N, if_pos ⟨hx, hm⟩]
          have h1 : wsum one (cutE m k x k) N ≤ wsum one (fun i => m k i && !decide (i = x)) N := wsum_mono fun o _ ho => by
            unfold cutE at ho; simpa using ho
          have h4 : one x = 1 := rfl
          omega⟩
      rcases hall_cut hk hab hma hmb h with h1 | h1
      · obtain ⟨g, hg, hc⟩ := ih _ (by have := hdeg a ha hma; omega) h1
        exact ⟨g, fun k hk => ⟨(hg k hk).1, cutE_sub (hg k hk).2⟩, hc⟩
      · obtain ⟨g, hg, hc⟩ := ih _ (by have := hdeg b hb hmb; omega) h1
        exact ⟨g, fun k hk => ⟨(hg k hk).1, cutE_sub (hg k hk).2⟩, hc⟩
    · have hone : ∀ k, k < L → ∃ o, o < N ∧ m k o = true := fun k hk => by
        have h1 := h fun i => decide (i = k)
        rw [wsum_one, if_pos hk] at h1
        have h2 : one k = 1 := rfl
        obtain ⟨o, ho, hn, _⟩ := wsum_pos (c := c) (p := nbr m (fun i => decide (i = k)) L) (n := N) (by omega)
        obtain ⟨i, hi, he, hm⟩ := nbr_iff.1 hn
        rw [decide_eq_true_eq] at he
        subst he
        exact ⟨o, ho, hm⟩
      have hg : ∃ g : Nat → Nat, ∀ k, k < L → g k < N ∧ m k (g k) = true :=
        ⟨fun k => if hk : k < L then (hone k hk).choose else 0, fun k hk => by simp only [dif_pos hk]; exact (hone k hk).choose_spec⟩
      obtain ⟨g, hg⟩ := hg
      refine ⟨g, hg, fun o ho => ?_⟩
      have h1 := h fun k => decide (g k = o)
      have h2 : wsum c (nbr m (fun k => decide (g k = o)) L) N ≤ wsum c (fun x => decide (x = o)) N := wsum_mono fun x hx hn => by
        obtain ⟨i, hi, he, hm⟩ := nbr_iff.1 hn
        rw [decide_eq_true_eq] at he ⊢
        by_cases hxo : x = o
        · exact hxo
        · exact absurd ⟨i, x, g i, hi, hx, (hg i hi).1, by rw [he]; exact hxo, hm, (hg i hi).2⟩ hex
      rw [wsum_one, if_pos ho] at h2
      omega
theorem count_by {A P : Nat → Bool} {g : Nat → Nat} {N : Nat} : ∀ {L : Nat}, (∀ k, k < L → A k = true → g k < N ∧ P (g k) = true) →
    wsum one A L = wsum (fun o => wsum one (fun k => A k && decide (g k = o)) L) P N
  | 0, _ => by
    have : ∀ n, wsum (fun o => wsum one (fun k => A k && decide (g k = o)) 0) P n = 0 := by
      intro n; induction n with
      | zero => rfl
      | succ n ih => simp only [wsum] at ih ⊢; rw [ih]; simp
    rw [this]; rfl
  | L + 1, h => by
    have ih := count_by (A := A) (P := P) (g := g) (N := N) (L := L) fun k hk => h k (by omega)
    have e : (fun o => wsum one (fun k => A k && decide (g k = o)) (L + 1)) = fun o => wsum one (fun k => A k && decide (g k = o)) L + if A L = true then (if g L = o then 1 else 0) else 0 := by
      funext o
      show wsum one (fun k => A k && decide (g k = o)) L + (if (A L && decide (g L = o)) = true then one L else 0) = _
      by_cases hA : A L = true
      · by_cases hg : g L = o
        · simp [hA, hg]
        · simp [hA, hg]
      · simp [hA]
    rw [e, wsum_add_c, ← ih]
    simp only [wsum]
    by_cases hA : A L = true
    · rw [if_pos hA]
      simp only [hA, if_true]
      rw [wsum_ind (h L (by omega) hA).1 (h L (by omega) hA).2]
    · rw [if_neg hA]
      have : ∀ n, wsum (fun o => if A L = true then (if g L = o then 1 else 0) else 0) P n = 0 := by
        intro n; induction n with
        | zero => rfl
        | succ n ih => simp only [wsum] at ih ⊢; rw [ih]; simp [hA]
      rw [this]
/-- a giving leaves no list lacking -/
theorem hall_nec {m : Nat → Nat → Bool} {c : Nat → Nat} {L N : Nat} {g : Nat → Nat} (hg : ∀ k, k < L → g k < N ∧ m k (g k) = true) (hc : ∀ o, o < N → wsum one (fun k => decide (g k = o)) L ≤ c o) : HallC m c L N := fun A => by
  rw [count_by (P := nbr m A L) (g := g) (N := N) fun k hk hA => ⟨(hg k hk).1, nbr_iff.2 ⟨k, hk, hA, (hg k hk).2⟩⟩]
  have h1 : wsum (fun o => wsum one (fun k => A k && decide (g k = o)) L) (nbr m A L) N ≤ wsum (fun o => wsum one (fun k => decide (g k = o)) L) (nbr m A L) N :=
    wsum_le_c fun o _ _ => wsum_mono fun k _ h => by rw [Bool.and_eq_true] at h; exact h.2
  have h2 : ∀ n, n ≤ N → wsum (fun o => wsum one (fun k => decide (g k = o)) L) (nbr m A L) n ≤ wsum c (nbr m A L) n := fun n hn => wsum_le_c fun o ho _ => hc o (by omega)
  have := h2 N (Nat.le_refl _)
  omega
theorem hall_iff {m : Nat → Nat → Bool} {c : Nat → Nat} {L N : Nat} : (∃ g : Nat → Nat, (∀ k, k < L → g k < N ∧ m k (g k) = true) ∧ ∀ o, o < N → wsum one (fun k => decide (g k = o)) L ≤ c o) ↔ HallC m c L N :=
  ⟨fun ⟨_, h1, h2⟩ => hall_nec h1 h2, fun h => hall_ex _ m (Nat.le_refl _) h⟩
end Go.Proofs.Ytoidaigiejilcaa
