/- TopFold 21: LawK. -/
import Derived.Test.YtgnjknihgjdedaaTf01
import Derived.Test.YtgnjknihgjdedaaTf12
import Derived.Test.YtgnjknihgjdedaaTf11
namespace Go.Proofs.Ytgnjknihgjdedaa
set_option linter.unusedVariables false
set_option linter.unusedSimpArgs false

def wsum (c : Nat → Nat) (p : Nat → Bool) : Nat → Nat
  | 0 => 0
  | n + 1 => wsum c p n + if p n = true then c n else 0
abbrev one : Nat → Nat := fun _ => 1
theorem wsum_mono {c : Nat → Nat} {p q : Nat → Bool} : ∀ {n : Nat}, (∀ i, i < n → p i = true → q i = true) → wsum c p n ≤ wsum c q n
  | 0, _ => Nat.le_refl _
  | n + 1, h => by
    have ih := wsum_mono (c := c) (n := n) fun i hi => h i (by omega)
    have hn := h n (by omega)
    show wsum c p n + (if p n = true then c n else 0) ≤ wsum c q n + (if q n = true then c n else 0)
    by_cases hp : p n = true
    · rw [if_pos hp, if_pos (hn hp)]; omega
    · rw [if_neg hp]; omega
theorem wsum_congr {c : Nat → Nat} {p q : Nat → Bool} {n : Nat} (h : ∀ i, i < n → p i = q i) : wsum c p n = wsum c q n :=
  Nat.le_antisymm (wsum_mono fun i hi hp => by rw [← h i hi]; exact hp) (wsum_mono fun i hi hp => by rw [h i hi]; exact hp)
theorem wsum_le_c {c d : Nat → Nat} {p : Nat → Bool} : ∀ {n : Nat}, (∀ i, i < n → p i = true → c i ≤ d i) → wsum c p n ≤ wsum d p n
  | 0, _ => Nat.le_refl _
  | n + 1, h => by
    have ih := wsum_le_c (n := n) (p := p) fun i hi => h i (by omega)
    have hn := h n (by omega)
    show wsum c p n + (if p n = true then c n else 0) ≤ wsum d p n + (if p n = true then d n else 0)
    by_cases hp : p n = true
    · rw [if_pos hp, if_pos hp]; have := hn hp; omega
    · rw [if_neg hp, if_neg hp]; omega
theorem wsum_lt_c {c d : Nat → Nat} {p : Nat → Bool} : ∀ {n : Nat}, (∀ i, i < n → p i = true → c i ≤ d i) → (∃ i, i < n ∧ p i = true ∧ c i < d i) → wsum c p n < wsum d p n
  | 0, _, ⟨i, hi, _⟩ => by omega
  | n + 1, h, ⟨i, hi, hp, hlt⟩ => by
    have hle := wsum_le_c (n := n) (p := p) fun i hi => h i (by omega)
    have hn := h n (by omega)
    show wsum c p n + (if p n = true then c n else 0) < wsum d p n + (if p n = true then d n else 0)
    by_cases hin : i = n
    · subst hin; rw [if_pos hp, if_pos hp]; omega
    · have := wsum_lt_c (n := n) (p := p) (fun i hi => h i (by omega)) ⟨i, by omega, hp, hlt⟩
      by_cases hpn : p n = true
      · rw [if_pos hpn, if_pos hpn]; have := hn hpn; omega
      · rw [if_neg hpn, if_neg hpn]; omega
theorem wsum_mod {c : Nat → Nat} {p q : Nat → Bool} : ∀ n : Nat, wsum c (fun i => p i || q i) n + wsum c (fun i => p i && q i) n = wsum c p n + wsum c q n
  | 0 => rfl
  | n + 1 => by
    have ih := wsum_mod (c := c) (p := p) (q := q) n
    show wsum c (fun i => p i || q i) n + (if (p n || q n) = true then c n else 0) + (wsum c (fun i => p i && q i) n + if (p n && q n) = true then c n else 0) = (wsum c p n + if p n = true then c n else 0) + (wsum c q n + if q n = true then c n else 0)
    by_cases hp : p n = true
    · by_cases hq : q n = true
      · simp only [hp, hq, Bool.or_true, Bool.and_true, if_true]; omega
      · rw [Bool.not_eq_true] at hq; simp only [hp, hq, Bool.or_false, Bool.and_false, Bool.false_eq_true, if_true, if_false]; omega
    · rw [Bool.not_eq_true] at hp
      by_cases hq : q n = true
      · simp only [hp, hq, Bool.false_or, Bool.false_and, Bool.false_eq_true, if_true, if_false]; omega
      · rw [Bool.not_eq_true] at hq; simp only [hp, hq, Bool.false_or, Bool.false_and, Bool.false_eq_true, if_false]; omega
theorem wsum_cut {c : Nat → Nat} {p : Nat → Bool} {k : Nat} : ∀ n : Nat, wsum c p n = wsum c (fun i => p i && !decide (i = k)) n + if k < n ∧ p k = true then c k else 0
  | 0 => by simp [wsum]
  | n + 1 => by
    have ih := wsum_cut (c := c) (p := p) (k := k) n
    show wsum c p n + (if p n = true then c n else 0) = wsum c (fun i => p i && !decide (i = k)) n + (if (p n && !decide (n = k)) = true then c n else 0) + (if k < n + 1 ∧ p k = true then c k else 0)
    by_cases hk : n = k
    · subst hk
      rw [if_neg (fun h => by omega : ¬ (n < n ∧ p n = true))] at ih
      rw [ih]
      by_cases hp : p n = true
      · simp [hp]
      · simp [hp]
    · have e1 : (p n && !decide (n = k)) = p n := by simp [hk]
      have e2 : (k < n + 1 ∧ p k = true) ↔ (k < n ∧ p k = true) := ⟨fun h => ⟨by omega, h.2⟩, fun h => ⟨by omega, h.2⟩⟩
      rw [e1, ih]
      by_cases h : k < n ∧ p k = true
      · rw [if_pos h, if_pos (e2.2 h)]; omega
      · rw [if_neg h, if_neg (fun h' => h (e2.1 h'))]; omega
theorem wsum_pos {c : Nat → Nat} {p : Nat → Bool} : ∀ {n : Nat}, 0 < wsum c p n → ∃ i, i < n ∧ p i = true ∧ 0 < c i
  | 0, h => by simp [wsum] at h
  | n + 1, h => by
    simp only [wsum] at h
    by_cases hp : p n = true
    · by_cases hc : 0 < c n
      · exact ⟨n, by omega, hp, hc⟩
      · rw [if_pos hp] at h
        obtain ⟨i, hi, h1⟩ := wsum_pos (c := c) (p := p) (n := n) (by omega)
        exact ⟨i, by omega, h1⟩
    · rw [if_neg hp] at h
      obtain ⟨i, hi, h1⟩ := wsum_pos (c := c) (p := p) (n := n) (by omega)
      exact ⟨i, by omega, h1⟩
theorem wsum_zero {c : Nat → Nat} {p : Nat → Bool} : ∀ {n : Nat}, (∀ i, i < n → p i = false) → wsum c p n = 0
  | 0, _ => rfl
  | n + 1, h => by simp only [wsum]; rw [wsum_zero fun i hi => h i (by omega), h n (by omega)]; rfl
theorem wsum_one {c : Nat → Nat} {k n : Nat} : wsum c (fun i => decide (i = k)) n = if k < n then c k else 0 := by
  rw [wsum_cut (k := k) n, wsum_zero (fun i _ => by by_cases h : i = k <;> simp [h])]
  simp
theorem wsum_add_c {c d : Nat → Nat} {p : Nat → Bool} : ∀ n : Nat, wsum (fun i => c i + d i) p n = wsum c p n + wsum d p n
  | 0 => rfl
  | n + 1 => by
    simp only [wsum]; rw [wsum_add_c n]
    by_cases hp : p n = true
    · rw [if_pos hp, if_pos hp, if_pos hp]; omega
    · rw [if_neg hp, if_neg hp, if_neg hp]; omega
theorem wsum_ind {p : Nat → Bool} {k n : Nat} (hk : k < n) (hp : p k = true) : wsum (fun o => if k = o then 1 else 0) p n = 1 := by
  rw [wsum_cut (k := k) n, if_pos ⟨hk, hp⟩, if_pos rfl]
  have : wsum (fun o => if k = o then 1 else 0) (fun i => p i && !decide (i = k)) n ≤ wsum (fun _ => 0) (fun i => p i && !decide (i = k)) n :=
    wsum_le_c fun i _ h => by
      have : i ≠ k := by intro e; subst e; simp at h
      rw [if_neg (fun e => this e.symm)]; exact Nat.le_refl _
  have h0 : ∀ m, wsum (fun _ => 0) (fun i => p i && !decide (i = k)) m = 0 := by
    intro m; induction m with
    | zero => rfl
    | succ m ih => simp only [wsum]; rw [ih]; simp
  rw [h0] at this; omega

def nbr (m : Nat → Nat → Bool) (A : Nat → Bool) (L o : Nat) : Bool := (List.range L).any fun k => A k && m k o
theorem nbr_iff {m : Nat → Nat → Bool} {A : Nat → Bool} {L o : Nat} : nbr m A L o = true ↔ ∃ k, k < L ∧ A k = true ∧ m k o = true := by
  unfold nbr
  rw [List.any_eq_true]
  constructor
  · rintro ⟨k, hk, h⟩; rw [Bool.and_eq_true] at h; exact ⟨k, List.mem_range.1 hk, h⟩
  · rintro ⟨k, hk, h⟩; exact ⟨k, List.mem_range.2 hk, by rw [Bool.and_eq_true]; exact h⟩
def HallC (m : Nat → Nat → Bool) (c : Nat → Nat) (L N : Nat) : Prop := ∀ A : Nat → Bool, wsum one A L ≤ wsum c (nbr m A L) N
def cutE (m : Nat → Nat → Bool) (k a : Nat) : Nat → Nat → Bool := fun i o => m i o && !(decide (i = k) && decide (o = a))
theorem cutE_of {m : Nat → Nat → Bool} {k a i o : Nat} (h : m i o = true) (hne : ¬ (i = k ∧ o = a)) : cutE m k a i o = true := by
  unfold cutE; rw [h, Bool.true_and]
  by_cases h1 : i = k
  · by_cases h2 : o = a
    · exact absurd ⟨h1, h2⟩ hne
    · simp [h2]
  · simp [h1]
theorem cutE_sub {m : Nat → Nat → Bool} {k a i o : Nat} (h : cutE m k a i o = true) : m i o = true := by
  unfold cutE at h; rw [Bool.and_eq_true] at h; exact h.1
theorem bad_has {m : Nat → Nat → Bool} {c : Nat → Nat} {L N k a : Nat} {A : Nat → Bool} (h : HallC m c L N) (hA : wsum c (nbr (cutE m k a) A L) N < wsum one A L) : A k = true := by
  cases hAk : A k
  · have h1 := h A
    have h2 : wsum c (nbr m A L) N ≤ wsum c (nbr (cutE m k a) A L) N := wsum_mono fun o _ ho => by
      obtain ⟨i, hi, hai, hm⟩ := nbr_iff.1 ho
      exact nbr_iff.2 ⟨i, hi, hai, cutE_of hm fun e => by rw [e.1, hAk] at hai; cases hai⟩
    omega
  · rfl
theorem hall_cut {m : Nat → Nat → Bool} {c : Nat → Nat} {L N k a b : Nat} (hk : k < L) (hab : a ≠ b) (ha : m k a = true) (hb : m k b = true) (h : HallC m c L N) : HallC (cutE m k a) c L N ∨ HallC (cutE m k b) c L N := by
  by_cases h1 : HallC (cutE m k a) c L N
  · exact .inl h1
  by_cases h2 : HallC (cutE m k b) c L N
  · exact .inr h2
  exfalso
  unfold HallC at h1 h2
  simp only [Classical.not_forall, Nat.not_le] at h1 h2
  obtain ⟨A, hA⟩ := h1
  obtain ⟨B, hB⟩ := h2
  have kA := bad_has h hA
  have kB := bad_has h hB
  have u := h fun i => A i || B i
  have v := h fun i => (A i && B i) && !decide (i = k)
  have e1 := wsum_mod (c := one) (p := A) (q := B) L
  have e2 := wsum_cut (c := one) (p := fun i => A i && B i) (k := k) L
  rw [if_pos ⟨hk, by simp [kA, kB]⟩] at e2
  have e3 := wsum_mod (c := c) (p := nbr (cutE m k a) A L) (q := nbr (cutE m k b) B L) N
  have e4 : wsum c (nbr m (fun i => A i || B i) L) N ≤ wsum c (fun o => nbr (cutE m k a) A L o || nbr (cutE m k b) B L o) N := wsum_mono fun o _ ho => by
    obtain ⟨i, hi, hai, hm⟩ := nbr_iff.1 ho
    rw [Bool.or_eq_true]
    by_cases hik : i = k
    · subst hik
      by_cases hoa : o = a
      · exact .inr (nbr_iff.2 ⟨i, hi, kB, cutE_of hm fun e => hab (by rw [← hoa, e.2])⟩)
      · exact .inl (nbr_iff.2 ⟨i, hi, kA, cutE_of hm fun e => hoa e.2⟩)
    · rw [Bool.or_eq_true] at hai
      rcases hai with h3 | h3
      · exact .inl (nbr_iff.2 ⟨i, hi, h3, cutE_of hm fun e => hik e.1⟩)
      · exact .inr (nbr_iff.2 ⟨i, hi, h3, cutE_of hm fun e => hik e.1⟩)
  have e5 : wsum c (nbr m (fun i => (A i && B i) && !decide (i = k)) L) N ≤ wsum c (fun o => nbr (cutE m k a) A L o && nbr (cutE m k b) B L o) N := wsum_mono fun o _ ho => by
    obtain ⟨i, hi, hai, hm⟩ := nbr_iff.1 ho
    simp only [Bool.and_eq_true, Bool.not_eq_true', decide_eq_false_iff_not] at hai
    rw [Bool.and_eq_true]
    exact ⟨nbr_iff.2 ⟨i, hi, hai.1.1, cutE_of hm fun e => hai.2 e.1⟩, nbr_iff.2 ⟨i, hi, hai.1.2, cutE_of hm fun e => hai.2 e.1⟩⟩
  have e6 : wsum one (fun i => (A i && B i) && !decide (i = k)) L + one k = wsum one (fun i => A i && B i) L := e2.symm
  have e7 : one k = 1 := rfl
  omega
theorem hall_ex {c : Nat → Nat} {L N : Nat} : ∀ (D : Nat) (m : Nat → Nat → Bool), wsum (fun k => wsum one (m k) N) (fun _ => true) L ≤ D → HallC m c L N →
    ∃ g : Nat → Nat, (∀ k, k < L → g k < N ∧ m k (g k) = true) ∧ ∀ o, o < N → wsum one (fun k => decide (g k = o)) L ≤ c o := by
  intro D
  induction D with
  | zero => 
    intro m hD h
    refine ⟨fun _ => 0, fun k hk => ?_, fun o ho => ?_⟩
    all_goals
      have hz : ∀ k, k < L → wsum one (m k) N = 0 := fun k hk => by
        have h1 := wsum_cut (c := fun k => wsum one (m k) N) (p := fun _ => true) (k := k) L
        rw [if_pos ⟨hk, rfl⟩] at h1
        omega
      have hL : L = 0 := by
        by_cases hL : L = 0
        · exact hL
        · exfalso
          have h1 := h fun i => decide (i = 0)
          rw [wsum_one, if_pos (by omega)] at h1
          have h2 : one 0 = 1 := rfl
          obtain ⟨o, ho, hn, _⟩ := wsum_pos (c := c) (p := nbr m (fun i => decide (i = 0)) L) (n := N) (by omega)
          obtain ⟨i, hi, he, hm⟩ := nbr_iff.1 hn
          have h3 := wsum_cut (c := one) (p := m i) (k := o) N
          rw [if_pos ⟨ho, hm⟩, hz i hi] at h3
          have h4 : one o = 1 := rfl
          omega
      subst hL
      first | omega | exact Nat.zero_le _
  | succ D ih =>
    intro m hD h
    by_cases hex : ∃ k a b, k < L ∧ a < N ∧ b < N ∧ a ≠ b ∧ m k a = true ∧ m k b = true
    · obtain ⟨k, a, b, hk, ha, hb, hab, hma, hmb⟩ := hex
      have hdeg : ∀ x, x < N → m k x = true → wsum (fun k => wsum one (m k) N) (fun _ => true) L > wsum (fun i => wsum one (cutE m k x i) N) (fun _ => true) L := fun x hx hm =>
        wsum_lt_c (fun i hi _ => wsum_mono fun o _ ho => cutE_sub ho) ⟨k, hk, rfl, by
          rw [wsum_cut (c := one) (p := m k) (k := x) N, if_pos ⟨hx, hm⟩]
          have h1 : wsum one (cutE m k x k) N ≤ wsum one (fun i => m k i && !decide (i = x)) N := wsum_mono fun o _ ho => by
            unfold cutE at ho; simpa using ho
          have h4 : one x = 1 := rfl
          omega⟩
      rcases hall_cut hk hab hma hmb h with h1 | h1
      · obtain ⟨g, hg, hc⟩ := ih _ (by have := hdeg a ha hma; omega) h1
        exact ⟨g, fun k hk => ⟨(hg k hk).1, cutE_sub (hg k hk).2⟩, hc⟩
      · obtain ⟨g, hg, hc⟩ := ih _ (by have := hdeg b hb hmb; omega) h1
        exact ⟨g, fun k hk => ⟨(hg k hk).1, cutE_sub (hg k hk).2⟩, hc⟩
    · have hone : ∀ k, k < L → ∃ o, o < N ∧ m k o = true := fun k hk => by
        have h1 := h fun i => decide (i = k)
        rw [wsum_one, if_pos hk] at h1
        have h2 : one k = 1 := rfl
        obtain ⟨o, ho, hn, _⟩ := wsum_pos (c := c) (p := nbr m (fun i => decide (i = k)) L) (n := N) (by omega)
        obtain ⟨i, hi, he, hm⟩ := nbr_iff.1 hn
        rw [decide_eq_true_eq] at he
        subst he
        exact ⟨o, ho, hm⟩
      have hg : ∃ g : Nat → Nat, ∀ k, k < L → g k < N ∧ m k (g k) = true :=
        ⟨fun k => if hk : k < L then (hone k hk).choose else 0, fun k hk => by simp only [dif_pos hk]; exact (hone k hk).choose_spec⟩
      obtain ⟨g, hg⟩ := hg
      refine ⟨g, hg, fun o ho => ?_⟩
      have h1 := h fun k => decide (g k = o)
      have h2 : wsum c (nbr m (fun k => decide (g k = o)) L) N ≤ wsum c (fun x => decide (x = o)) N := wsum_mono fun x hx hn => by
        obtain ⟨i, hi, he, hm⟩ := nbr_iff.1 hn
        rw [decide_eq_true_eq] at he ⊢
        by_cases hxo : x = o
        · exact hxo
        · exact absurd ⟨i, x, g i, hi, hx, (hg i hi).1, by rw [he]; exact hxo, hm, (hg i hi).2⟩ hex
      rw [wsum_one, if_pos ho] at h2
      omega
theorem count_by {A P : Nat → Bool} {g : Nat → Nat} {N : Nat} : ∀ {L : Nat}, (∀ k, k < L → A k = true → g k < N ∧ P (g k) = true) →
    wsum one A L = wsum (fun o => wsum one (fun k => A k && decide (g k = o)) L) P N
  | 0, _ => by
    have : ∀ n, wsum (fun o => wsum one (fun k => A k && decide (g k = o)) 0) P n = 0 := by
      intro n; induction n with
      | zero => rfl
      | succ n ih => simp only [wsum] at ih ⊢; rw [ih]; simp
    rw [this]; rfl
  | L + 1, h => by
    have ih := count_by (A := A) (P := P) (g := g) (N := N) (L := L) fun k hk => h k (by omega)
    have e : (fun o => wsum one (fun k => A k && decide (g k = o)) (L + 1)) = fun o => wsum one (fun k => A k && decide (g k = o)) L + if A L = true then (if g L = o then 1 else 0) else 0 := by
      funext o
      show wsum one (fun k => A k && decide (g k = o)) L + (if (A L && decide (g L = o)) = true then one L else 0) = _
      by_cases hA : A L = true
      · by_cases hg : g L = o
        · simp [hA, hg]
        · simp [hA, hg]
      · simp [hA]
    rw [e, wsum_add_c, ← ih]
    simp only [wsum]
    by_cases hA : A L = true
    · rw [if_pos hA]
      simp only [hA, if_true]
      rw [wsum_ind (h L (by omega) hA).1 (h L (by omega) hA).2]
    · rw [if_neg hA]
      have : ∀ n, wsum (fun o => if A L = true then (if g L = o then 1 else 0) else 0) P n = 0 := by
        intro n; induction n with
        | zero => rfl
        | succ n ih => simp only [wsum] at ih ⊢; rw [ih]; simp [hA]
      rw [this]
theorem hall_nec {m : Nat → Nat → Bool} {c : Nat → Nat} {L N : Nat} {g : Nat → Nat} (hg : ∀ k, k < L → g k < N ∧ m k (g k) = true) (hc : ∀ o, o < N → wsum one (fun k => decide (g k = o)) L ≤ c o) : HallC m c L N := fun A => by
  rw [count_by (P := nbr m A L) (g := g) (N := N) fun k hk hA => ⟨(hg k hk).1, nbr_iff.2 ⟨k, hk, hA, (hg k hk).2⟩⟩]
  have h1 : wsum (fun o => wsum one (fun k => A k && decide (g k = o)) L) (nbr m A L) N ≤ wsum (fun o => wsum one (fun k => decide (g k = o)) L) (nbr m A L) N :=
    wsum_le_c fun o _ _ => wsum_mono fun k _ h => by rw [Bool.and_eq_true] at h; exact h.2
  have h2 : ∀ n, n ≤ N → wsum (fun o => wsum one (fun k => decide (g k = o)) L) (nbr m A L) n ≤ wsum c (nbr m A L) n := fun n hn => wsum_le_c fun o ho _ => hc o (by omega)
  have := h2 N (Nat.le_refl _)
  omega
theorem hall_iff {m : Nat → Nat → Bool} {c : Nat → Nat} {L N : Nat} : (∃ g : Nat → Nat, (∀ k, k < L → g k < N ∧ m k (g k) = true) ∧ ∀ o, o < N → wsum one (fun k => decide (g k = o)) L ≤ c o) ↔ HallC m c L N :=
  ⟨fun ⟨_, h1, h2⟩ => hall_nec h1 h2, fun h => hall_ex _ m (Nat.le_refl _) h⟩
end Go.Proofs.Ytgnjknihgjdedaa

namespace Go.Proofs.Ytgnjknihgjdedaa
set_option linter.unusedVariables false
set_option linter.unusedSimpArgs false

def needTo (p : Nat → Bool) (mis : List Int) : Nat → Int
  | 0 => 0
  | k + 1 => needTo p mis k + if p k = true then mis.getD k 0 else 0
theorem needTo_congr {p q : Nat → Bool} {mis : List Int} : ∀ {n : Nat}, (∀ i, i < n → p i = q i) → needTo p mis n = needTo q mis n
  | 0, _ => rfl
  | n + 1, h => by unfold needTo; rw [needTo_congr fun i hi => h i (by omega), h n (by omega)]
theorem getD_pos {mis : List Int} (h : ∀ x ∈ mis, 0 ≤ x) (o : Nat) : 0 ≤ mis.getD o 0 := by
  rw [List.getD_eq_getElem?_getD]
  cases hmo : mis[o]? with
  | none => simp
  | some z => have := h z (List.mem_of_getElem? hmo); simpa using this
theorem needTo_wsum {p : Nat → Bool} {mis : List Int} (h : ∀ x ∈ mis, 0 ≤ x) : ∀ n : Nat, needTo p mis n = (wsum (fun o => (mis.getD o 0).toNat) p n : Int)
  | 0 => rfl
  | n + 1 => by
    have h1 := getD_pos h n
    unfold needTo wsum
    rw [needTo_wsum h n]
    by_cases hp : p n = true
    · rw [if_pos hp, if_pos hp]; omega
    · rw [if_neg hp, if_neg hp]; omega
def hasO (may : List (List Int)) (q : List Int) (o : Nat) : Bool := q.any fun k => (may.getD k.toNat []).contains (o : Int)
def lackB (may : List (List Int)) (mis q : List Int) : Bool := decide (needTo (hasO may q) mis mis.length < (q.length : Int))
def mayM (may : List (List Int)) (k o : Nat) : Bool := (may.getD k []).contains (o : Int)
def capM (mis : List Int) (o : Nat) : Nat := (mis.getD o 0).toNat
def listOf (A : Nat → Bool) (L : Nat) : List Int := ((List.range L).filter A).map Int.ofNat
theorem asc_list (A : Nat → Bool) (L : Nat) : Asc L 0 (listOf A L) := by
  unfold listOf
  rw [List.range_eq_range']
  exact asc_filter A L L 0 (by omega)
theorem mem_list {A : Nat → Bool} {L k : Nat} : (k : Int) ∈ listOf A L ↔ k < L ∧ A k = true := by
  unfold listOf
  rw [List.mem_map]
  constructor
  · rintro ⟨i, hi, he⟩
    have : i = k := by have h2 : (i : Int) = (k : Int) := he; omega
    subst this
    simpa using hi
  · rintro ⟨h1, h2⟩
    exact ⟨k, by simpa using ⟨h1, h2⟩, rfl⟩
theorem len_list (A : Nat → Bool) : ∀ L : Nat, (listOf A L).length = wsum one A L
  | 0 => rfl
  | L + 1 => by
    have ih := len_list A L
    unfold listOf at ih ⊢
    rw [List.range_succ, List.filter_append, List.map_append, List.length_append, ih]
    show _ = wsum one A L + if A L = true then one L else 0
    by_cases hA : A L = true
    · rw [if_pos hA, List.filter_cons_of_pos hA]; rfl
    · rw [if_neg hA, List.filter_cons_of_neg hA]; rfl
theorem asc_is_list {L : Nat} {q : List Int} (h : Asc L 0 q) : q = listOf (fun k => decide ((k : Int) ∈ q)) L := by
  refine asc_ext h (asc_list _ L) fun i => ?_
  constructor
  · intro hi
    have h2 := asc_ge h i hi
    obtain ⟨k, rfl⟩ := Int.eq_ofNat_of_zero_le (show 0 ≤ i by omega)
    exact mem_list.2 ⟨by omega, by simpa using hi⟩
  · intro hi
    have h2 := asc_ge (asc_list _ L) i hi
    obtain ⟨k, rfl⟩ := Int.eq_ofNat_of_zero_le (show 0 ≤ i by omega)
    simpa using (mem_list.1 hi).2
theorem has_list {may : List (List Int)} {A : Nat → Bool} {L o : Nat} : hasO may (listOf A L) o = nbr (mayM may) A L o := by
  rw [Bool.eq_iff_iff, nbr_iff]
  unfold hasO
  rw [List.any_eq_true]
  constructor
  · rintro ⟨i, hi, h⟩
    have h2 := asc_ge (asc_list A L) i hi
    obtain ⟨k, rfl⟩ := Int.eq_ofNat_of_zero_le (show 0 ≤ i by omega)
    exact ⟨k, (mem_list.1 hi).1, (mem_list.1 hi).2, h⟩
  · rintro ⟨k, hk, hA, hm⟩
    exact ⟨(k : Int), mem_list.2 ⟨hk, hA⟩, hm⟩
theorem hall_asc {may : List (List Int)} {mis : List Int} (hmis : ∀ x ∈ mis, 0 ≤ x) {L : Nat} : HallC (mayM may) (capM mis) L mis.length ↔ ∀ q, Asc L 0 q → lackB may mis q = false := by
  have key : ∀ A : Nat → Bool, lackB may mis (listOf A L) = false ↔ wsum one A L ≤ wsum (capM mis) (nbr (mayM may) A L) mis.length := fun A => by
    unfold lackB
    rw [decide_eq_false_iff_not, needTo_congr (q := nbr (mayM may) A L) (fun i _ => has_list), needTo_wsum hmis, len_list]
    show ¬ ((wsum (capM mis) _ _ : Nat) : Int) < _ ↔ _
    omega
  constructor
  · intro h q hq
    rw [asc_is_list hq]
    exact (key _).2 (h _)
  · intro h A
    exact (key A).1 (h _ (asc_list A L))
theorem cntI_take (r : List Int) (o : Int) : ∀ n : Nat, n ≤ r.length → cntI (r.take n) o = wsum one (fun k => decide (r.getD k 0 = o)) n
  | 0, _ => rfl
  | n + 1, h => by
    have hn := List.getElem?_eq_getElem (show n < r.length by omega)
    rw [List.take_add_one, hn]
    show cntI (r.take n ++ [r[n]]) o = _
    rw [cntI_snoc, cntI_take r o n (by omega)]
    show _ = wsum one _ n + if decide (r.getD n 0 = o) = true then one n else 0
    rw [List.getD_eq_getElem?_getD, hn]
    by_cases he : r[n] = o <;> simp [he]
theorem cntI_wsum (r : List Int) (o : Int) : cntI r o = wsum one (fun k => decide (r.getD k 0 = o)) r.length := by
  have := cntI_take r o r.length (Nat.le_refl _)
  rwa [List.take_of_length_le (Nat.le_refl _)] at this
theorem give_hall {may : List (List Int)} {mis : List Int} (hmay : ∀ r ∈ may, ∀ o ∈ r, 0 ≤ o ∧ o < 5 ∧ o < mis.length) (hmis : ∀ x ∈ mis, 0 ≤ x) :
    (giveL may mis 0 (fun _ _ => true)).isSome = true ↔ ∀ q, Asc may.length 0 q → lackB may mis q = false := by
  rw [← hall_asc hmis, ← hall_iff, give_some fun r hr o ho => ⟨(hmay r hr o ho).1, (hmay r hr o ho).2.1⟩]
  have hrow : ∀ j o, o ∈ may.getD j [] → 0 ≤ o ∧ o < 5 ∧ o < mis.length := fun j o ho => by
    rw [List.getD_eq_getElem?_getD] at ho
    cases hj : may[j]? with
    | none => rw [hj] at ho; simp at ho
    | some row => rw [hj] at ho; exact hmay row (List.mem_of_getElem? hj) o ho
  constructor
  · rintro ⟨r, hr, h1, h2⟩
    have hin : ∀ k, k < may.length → r.getD k 0 ∈ may.getD k [] := fun k hk => by
      have hk' := List.getElem?_eq_getElem (show k < r.length by omega)
      have := h1 k _ hk'
      simp only [Nat.zero_testBit, Bool.false_eq_true, if_false] at this
      rw [show r.getD k 0 = r[k] by rw [List.getD_eq_getElem?_getD, hk']; rfl]
      exact this
    refine ⟨fun k => (r.getD k 0).toNat, fun k hk => ?_, fun o ho => ?_⟩
    · have h3 := hrow k _ (hin k hk)
      refine ⟨by show (r.getD k 0).toNat < mis.length; omega, ?_⟩
      unfold mayM
      rw [Int.toNat_of_nonneg h3.1, List.contains_eq_mem, decide_eq_true_eq]
      exact hin k hk
    · have e : wsum one (fun k => decide ((r.getD k 0).toNat = o)) may.length = cntI r (o : Int) := by
        rw [cntI_wsum, hr]
        refine wsum_congr fun k hk => ?_
        have h3 := hrow k _ (hin k hk)
        rw [decide_eq_decide]
        omega
      rw [e]
      by_cases hm : (o : Int) ∈ r
      · obtain ⟨k, hk⟩ := List.getElem?_of_mem hm
        have hkl := (List.getElem?_eq_some_iff.1 hk).1
        have h3 := hrow k _ (hin k (by omega))
        rw [List.getD_eq_getElem?_getD, hk] at h3
        simp only [Option.getD_some] at h3
        have := h2 o (by omega) hm
        unfold capM
        omega
      · rw [cntI_zero hm]; exact Nat.zero_le _
  · rintro ⟨g, h1, h2⟩
    refine ⟨(List.range may.length).map fun k => (g k : Int), by simp, fun j o hj => ?_, fun o ho hm => ?_⟩
    · have hjl := (List.getElem?_eq_some_iff.1 hj).1
      simp at hjl
      rw [List.getElem?_map, List.getElem?_range hjl] at hj
      simp at hj
      subst hj
      simp only [Nat.zero_testBit, Bool.false_eq_true, if_false]
      have := (h1 j hjl).2
      unfold mayM at this
      rw [List.contains_eq_mem, decide_eq_true_eq] at this
      exact this
    · rw [cntI_wsum]
      obtain ⟨k, hk, he⟩ := List.mem_map.1 hm
      have hk' := List.mem_range.1 hk
      have hgo : g k = o := by omega
      have h3 := h2 o (by rw [← hgo]; exact (h1 k hk').1)
      have e : wsum one (fun k => decide (((List.range may.length).map fun k => (g k : Int)).getD k 0 = (o : Int))) ((List.range may.length).map fun k => (g k : Int)).length = wsum one (fun k => decide (g k = o)) may.length := by
        rw [List.length_map, List.length_range]
        refine wsum_congr fun i hi => ?_
        rw [List.getD_eq_getElem?_getD, List.getElem?_map, List.getElem?_range hi]
        simp only [Option.map_some, Option.getD_some, decide_eq_decide]
        omega
      rw [e]
      have := getD_pos hmis o
      unfold capM at h3
      omega

def maskRow (s : Nat) (a : Nat) (r : List Int) : Nat := r.foldl (fun a o => a ||| s <<< o.toNat) a
def maskTo (may : List (List Int)) (set : Nat) : Nat → Nat
  | 0 => 0
  | i + 1 => maskRow (set >>> i % 2) (maskTo may set i) (may.getD i [])
theorem maskRow_test {s : Nat} (hs : s < 2) : ∀ (r : List Int) (a o : Nat), (∀ x ∈ r, 0 ≤ x) → (maskRow s a r).testBit o = (a.testBit o || (decide (s = 1) && r.contains (o : Int)))
  | [], a, o, _ => by simp [maskRow]
  | x :: r, a, o, h => by
    obtain ⟨n, rfl⟩ := Int.eq_ofNat_of_zero_le (h x (by simp))
    rw [show maskRow s a ((n : Int) :: r) = maskRow s (a ||| s <<< n) r from rfl, maskRow_test hs r _ o (fun y hy => h y (by simp [hy])), Nat.testBit_or, Bool.or_assoc]
    congr 1
    have h01 : s = 0 ∨ s = 1 := by omega
    rcases h01 with rfl | rfl
    · simp
    · rw [Nat.shiftLeft_eq, Nat.one_mul, Nat.testBit_two_pow]
      rw [Bool.eq_iff_iff]
      simp only [decide_true, Bool.true_and, Bool.or_eq_true, decide_eq_true_eq, List.contains_eq_mem, List.mem_cons]
      constructor
      · rintro (h | h)
        · left; omega
        · exact .inr h
      · rintro (h | h)
        · left; omega
        · exact .inr h
theorem maskTo_test {may : List (List Int)} {set : Nat} (hmay : ∀ r ∈ may, ∀ o ∈ r, 0 ≤ o) : ∀ (i o : Nat), (maskTo may set i).testBit o = (List.range i).any fun k => set.testBit k && mayM may k o
  | 0, o => by simp [maskTo]
  | i + 1, o => by
    have hrow : ∀ x ∈ may.getD i [], 0 ≤ x := fun x hx => by
      rw [List.getD_eq_getElem?_getD] at hx
      cases hj : may[i]? with
      | none => rw [hj] at hx; simp at hx
      | some row => rw [hj] at hx; exact hmay row (List.mem_of_getElem? hj) x hx
    show (maskRow (set >>> i % 2) (maskTo may set i) (may.getD i [])).testBit o = _
    rw [maskRow_test (Nat.mod_lt _ (by omega)) _ _ _ hrow, maskTo_test hmay i o, List.range_succ, List.any_append]
    congr 1
    simp only [List.any_cons, List.any_nil, Bool.or_false]
    show (decide (set >>> i % 2 = 1) && mayM may i o) = _
    congr 1
    rw [Nat.testBit_eq_decide_div_mod_eq, Nat.shiftRight_eq_div_pow]
def shortB (may : List (List Int)) (mis : List Int) (set : Nat) : Bool := decide (needTo (fun o => (maskTo may set may.length).testBit o) mis mis.length < (popI (set : Int) : Int))
theorem pop_list {L : Nat} (hL : L ≤ 8) {q : List Int} (h : Asc L 0 q) : popI (bitsF 0 q : Nat) = q.length := by
  have h8 : Asc 8 0 q := by
    have : ∀ {q : List Int} {a : Nat}, Asc L a q → Asc 8 a q := by
      intro q
      induction q with
      | nil => intros; trivial
      | cons i q ih => rintro a ⟨n, h1, h2, h3, h4⟩; exact ⟨n, h1, h2, by omega, ih h4⟩
    exact this h
  have hq := congrArg List.length (asc_is_list h8)
  rw [hq]
  unfold listOf popI cnt
  rw [List.length_map, List.countP_eq_length_filter]
  congr 1
  refine List.filter_congr fun j _ => ?_
  unfold bit
  rw [Int.toNat_natCast, bitsF_test q 0 j (asc_pos h)]
  simp
theorem short_lack {may : List (List Int)} {mis : List Int} (hmay : ∀ r ∈ may, ∀ o ∈ r, 0 ≤ o) (hL : may.length ≤ 8) {q : List Int} (h : Asc may.length 0 q) : shortB may mis (bitsF 0 q) = lackB may mis q := by
  unfold shortB lackB
  rw [pop_list hL h]
  congr 2
  refine needTo_congr fun o _ => ?_
  rw [maskTo_test hmay]
  unfold hasO
  rw [Bool.eq_iff_iff, List.any_eq_true, List.any_eq_true]
  constructor
  · rintro ⟨k, hk, hb⟩
    rw [Bool.and_eq_true, bitsF_test q 0 k (asc_pos h), Nat.zero_testBit, Bool.false_or, decide_eq_true_eq] at hb
    exact ⟨(k : Int), hb.1, hb.2⟩
  · rintro ⟨i, hi, hb⟩
    have h2 := asc_ge h i hi
    obtain ⟨k, rfl⟩ := Int.eq_ofNat_of_zero_le (show 0 ≤ i by omega)
    refine ⟨k, List.mem_range.2 (by omega), ?_⟩
    rw [Bool.and_eq_true, bitsF_test q 0 k (asc_pos h)]
    exact ⟨by simp [hi], hb⟩

def shortOf (may : List (List Int)) (mis : List Int) : Nat → Nat → Option (List Int)
  | 0, _ => none
  | k + 1, many => match pickRest may.length (shortB may mis) many 0 0 with
    | some l => some l
    | none => shortOf may mis k (many + 1)
def shortL (may : List (List Int)) (mis : List Int) : Option (List Int) := shortOf may mis may.length 1
def picksL (n : Nat) : Nat → Nat → List (List Int)
  | _, 0 => [[]]
  | a, m + 1 => (List.range' a (n - a)).flatMap fun (i : Nat) => (picksL n (i + 1) m).map fun r => (i : Int) :: r
theorem picks_mem {n : Nat} : ∀ {m a : Nat} {r : List Int}, r ∈ picksL n a m → Asc n a r ∧ r.length = m
  | 0, a, r, h => by simp [picksL] at h; subst h; exact ⟨trivial, rfl⟩
  | m + 1, a, r, h => by
    obtain ⟨i, hi, h2⟩ := List.mem_flatMap.1 h
    obtain ⟨q, hq, rfl⟩ := List.mem_map.1 h2
    obtain ⟨h3, h4⟩ := picks_mem hq
    rw [List.mem_range'_1] at hi
    exact ⟨⟨i, rfl, hi.1, by omega, h3⟩, by simp [h4]⟩
theorem picks_has {n : Nat} : ∀ {r : List Int} {a : Nat}, Asc n a r → r ∈ picksL n a r.length
  | [], a, _ => by simp [picksL]
  | i :: q, a, ⟨k, h1, h2, h3, h4⟩ => by
    subst h1
    exact List.mem_flatMap.2 ⟨k, by rw [List.mem_range'_1]; omega, List.mem_map.2 ⟨q, picks_has h4, rfl⟩⟩
theorem pick_find {L : Nat} {pf : Nat → Bool} : ∀ (d a set : Nat), pickRest L pf d a set = (picksL L a d).find? fun q => pf (bitsF set q)
  | 0, a, set => by
    unfold pickRest picksL
    cases h : pf set
    · simp [bitsF, h]
    · simp [bitsF, h]
  | d + 1, a, set => by
    unfold pickRest picksL
    rw [find_flat]
    refine findSome_congr fun i _ => ?_
    rw [find_map', pick_find d (i + 1) _]
    rfl
theorem shortOf_find {may : List (List Int)} {mis : List Int} (hmay : ∀ r ∈ may, ∀ o ∈ r, 0 ≤ o) (hL : may.length ≤ 8) (many : Nat) : pickRest may.length (shortB may mis) many 0 0 = (picksL may.length 0 many).find? (lackB may mis) := by
  rw [pick_find]
  exact find_congr fun q hq => short_lack hmay hL (picks_mem hq).1
theorem shortOf_none {may : List (List Int)} {mis : List Int} : ∀ {k m : Nat}, shortOf may mis k m = none ↔ ∀ j, m ≤ j → j < m + k → pickRest may.length (shortB may mis) j 0 0 = none
  | 0, m => by simp [shortOf]; intro j h1 h2; omega
  | k + 1, m => by
    unfold shortOf
    split
    · rename_i l hl
      constructor
      · intro h; cases h
      · intro h; rw [h m (Nat.le_refl _) (by omega)] at hl; cases hl
    · rename_i hl
      rw [shortOf_none]
      constructor
      · intro h j h1 h2
        by_cases hj : j = m
        · subst hj; exact hl
        · exact h j (by omega) (by omega)
      · intro h j h1 h2; exact h j (by omega) (by omega)
theorem shortOf_skip {may : List (List Int)} {mis : List Int} : ∀ (a b c : Nat), (∀ j, c ≤ j → j < c + a → pickRest may.length (shortB may mis) j 0 0 = none) → shortOf may mis (a + b) c = shortOf may mis b (c + a)
  | 0, b, c, _ => by rw [Nat.zero_add, Nat.add_zero]
  | a + 1, b, c, h => by
    rw [show a + 1 + b = (a + b) + 1 by omega]
    show (match pickRest may.length (shortB may mis) c 0 0 with | some l => some l | none => shortOf may mis (a + b) (c + 1)) = _
    rw [h c (Nat.le_refl _) (by omega)]
    dsimp only
    rw [shortOf_skip a b (c + 1) (fun j h1 h2 => h j (by omega) (by omega)), show c + 1 + a = c + (a + 1) by omega]
theorem short_home {may : List (List Int)} {mis : List Int} (hmay : ∀ r ∈ may, ∀ o ∈ r, 0 ≤ o ∧ o < 5 ∧ o < mis.length) (hmis : ∀ x ∈ mis, 0 ≤ x) (hL : may.length ≤ 8) :
    (giveL may mis 0 (fun _ _ => true)).isSome = true ↔ shortL may mis = none := by
  rw [give_hall hmay hmis]
  unfold shortL
  rw [shortOf_none]
  have hm : ∀ r ∈ may, ∀ o ∈ r, 0 ≤ o := fun r hr o ho => (hmay r hr o ho).1
  constructor
  · intro h j h1 h2
    rw [shortOf_find hm hL, List.find?_eq_none]
    intro q hq
    rw [h q (picks_mem hq).1]
    simp
  · intro h q hq
    by_cases h0 : q = []
    · subst h0
      unfold lackB
      rw [decide_eq_false_iff_not, needTo_wsum hmis]
      simp
    · have hl := asc_len hq (Nat.zero_le _)
      have hlp : 0 < q.length := List.length_pos_iff.2 h0
      have := h q.length (by omega) (by omega)
      rw [shortOf_find hm hL, List.find?_eq_none] at this
      have := this q (picks_has hq)
      simpa using this
end Go.Proofs.Ytgnjknihgjdedaa

namespace Go.Proofs.Ytgnjknihgjdedaa
set_option linter.unusedVariables false
set_option linter.unusedSimpArgs false

def lessI (mis : List Int) (o : Int) : List Int := mis.set o.toNat (mis.getD o.toNat 0 - 1)
def givs : List (List Int) → List Int → List (List Int)
  | [], _ => [[]]
  | row :: rest, mis => row.flatMap fun o => if mis.getD o.toNat 0 = 0 then [] else (givs rest (lessI mis o)).map fun r => o :: r
theorem lessI_get {mis : List Int} {o x : Nat} (ho : o < mis.length) : (lessI mis (o : Int)).getD x 0 = if x = o then mis.getD o 0 - 1 else mis.getD x 0 := by
  unfold lessI
  rw [Int.toNat_natCast, List.getD_eq_getElem?_getD]
  by_cases h : x = o
  · subst h; rw [if_pos rfl, List.getElem?_set_self ho]; rfl
  · rw [if_neg h, List.getElem?_set_ne (fun e => h e.symm), List.getD_eq_getElem?_getD]
theorem lessI_len (mis : List Int) (o : Int) : (lessI mis o).length = mis.length := by unfold lessI; simp
theorem lessI_pos {mis : List Int} {o : Nat} (h : ∀ x ∈ mis, 0 ≤ x) (ho : mis.getD o 0 ≠ 0) : ∀ x ∈ lessI mis (o : Int), 0 ≤ x := fun x hx => by
  unfold lessI at hx
  rw [Int.toNat_natCast] at hx
  rcases List.mem_or_eq_of_mem_set hx with h1 | h1
  · exact h x h1
  · have := getD_pos h o; omega
section
variable {N : Nat} {may : List (List Int)} {mis : List Int} (hrow : ∀ row ∈ may, ∃ p : Nat → Bool, row = ((List.range N).filter p).map Int.ofNat) (hN5 : N ≤ 5) (hN : mis.length = N) (hmis : ∀ x ∈ mis, 0 ≤ x)
include hrow hN5 hN hmis in
def ownG (all : List (List Int)) (N i : Nat) : List Int := ((List.range N).filter fun (o : Nat) => all.any fun x => decide (x.getD i 0 = (o : Int))).map Int.ofNat
include hrow hN5 hN hmis in
end
def dropR (left : Nat) : Nat → List (List Int) → List (List Int)
  | _, [] => []
  | k, row :: rest => if left.testBit k = true then dropR left (k + 1) rest else row :: dropR left (k + 1) rest
def okG (left k : Nat) (rows : List (List Int)) (mis r : List Int) : Prop :=
  r.length = rows.length ∧ (∀ (j : Nat) (o : Int), r[j]? = some o → if left.testBit (k + j) = true then o = -1 else o ∈ rows.getD j []) ∧ ∀ o : Nat, o < 5 → (o : Int) ∈ r → (cntI r o : Int) ≤ mis.getD o 0
theorem cntI_neg (q : List Int) (o : Nat) : cntI (-1 :: q) o = cntI q o := by rw [cntI_cons, if_neg (by omega)]; rfl
theorem okG_iff {N left : Nat} (hN5 : N ≤ 5) : ∀ {rows : List (List Int)} {k : Nat} {mis : List Int}, (∀ row ∈ rows, ∀ o ∈ row, 0 ≤ o ∧ o < N) → mis.length = N → (∀ x ∈ mis, 0 ≤ x) → ((∃ r, okG left k rows mis r) ↔ givs (dropR left k rows) mis ≠ [])
  | [], k, mis, _, _, _ => by
    unfold dropR givs okG
    constructor
    · intro _; simp
    · intro _; exact ⟨[], by simp⟩
  | row :: rest, k, mis, hrow, hN, hmis => by
    have hrow' : ∀ row ∈ rest, ∀ o ∈ row, 0 ≤ o ∧ o < N := fun row hr => hrow row (by simp [hr])
    unfold dropR
    by_cases hb : left.testBit k = true
    · rw [if_pos hb, ← okG_iff hN5 (k := k + 1) hrow' hN hmis]
      constructor
      · rintro ⟨r, h1, h2, h3⟩
        match r, h1, h2, h3 with
        | [], h1, _, _ => simp at h1
        | o :: q, h1, h2, h3 =>
          have h0 := h2 0 o rfl
          rw [Nat.add_zero, if_pos hb] at h0
          subst h0
          refine ⟨q, by simpa using h1, fun j o hj => ?_, fun o ho5 ho => ?_⟩
          · have := h2 (j + 1) o (by simpa using hj)
            rw [show k + (j + 1) = k + 1 + j by omega] at this
            simpa using this
          · have := h3 o ho5 (by simp [ho])
            rwa [cntI_neg] at this
      · rintro ⟨q, h1, h2, h3⟩
        refine ⟨-1 :: q, by simp [h1], fun j o hj => ?_, fun o ho5 ho => ?_⟩
        · cases j with
          | zero => simp at hj; subst hj; rw [Nat.add_zero, if_pos hb]
          | succ j =>
            have := h2 j o (by simpa using hj)
            rw [show k + (j + 1) = k + 1 + j by omega]
            simpa using this
        · rw [cntI_neg]
          refine h3 o ho5 ?_
          rcases List.mem_cons.1 ho with h | h
          · omega
          · exact h
    · rw [if_neg hb]
      have hne : givs (row :: dropR left (k + 1) rest) mis ≠ [] ↔ ∃ o ∈ row, mis.getD o.toNat 0 ≠ 0 ∧ givs (dropR left (k + 1) rest) (lessI mis o) ≠ [] := by
        show (row.flatMap fun o => if mis.getD o.toNat 0 = 0 then [] else (givs (dropR left (k + 1) rest) (lessI mis o)).map fun r => o :: r) ≠ [] ↔ _
        rw [Ne, List.flatMap_eq_nil_iff]
        constructor
        · intro h
          have h' := Classical.not_forall.1 h
          obtain ⟨o, ho⟩ := h'
          obtain ⟨ho1, ho2⟩ := Classical.not_imp.1 ho
          refine ⟨o, ho1, ?_⟩
          by_cases hz : mis.getD o.toNat 0 = 0
          · rw [if_pos hz] at ho2; exact absurd rfl ho2
          · rw [if_neg hz, List.map_eq_nil_iff] at ho2; exact ⟨hz, ho2⟩
        · rintro ⟨o, ho, hz, hg⟩ h
          have := h o ho
          rw [if_neg hz, List.map_eq_nil_iff] at this
          exact hg this
      rw [hne]
      constructor
      · rintro ⟨r, h1, h2, h3⟩
        match r, h1, h2, h3 with
        | [], h1, _, _ => simp at h1
        | o :: q, h1, h2, h3 =>
          have h0 := h2 0 o rfl
          rw [Nat.add_zero, if_neg hb] at h0
          have ho' : o ∈ row := by simpa using h0
          obtain ⟨hn0, hlt⟩ := hrow row (by simp) o ho'
          obtain ⟨i, rfl⟩ := Int.eq_ofNat_of_zero_le hn0
          have hi : i < mis.length := by omega
          have hc := h3 i (by omega) (by simp)
          rw [cntI_cons, if_pos rfl] at hc
          have hz : mis.getD i 0 ≠ 0 := by omega
          refine ⟨(i : Int), ho', hz, (okG_iff hN5 (k := k + 1) hrow' (by rw [lessI_len]; exact hN) (lessI_pos hmis hz)).1 ⟨q, by simpa using h1, fun j o hj => ?_, fun o ho5 ho => ?_⟩⟩
          · have := h2 (j + 1) o (by simpa using hj)
            rw [show k + (j + 1) = k + 1 + j by omega] at this
            simpa using this
          · have h := h3 o ho5 (by simp [ho])
            rw [cntI_cons] at h
            rw [lessI_get hi]
            by_cases hoi : o = i
            · subst hoi; rw [if_pos rfl] at h ⊢; omega
            · rw [if_neg (by omega)] at h; rw [if_neg hoi]; omega
      · rintro ⟨o, ho', hz, hg⟩
        obtain ⟨hn0, hlt⟩ := hrow row (by simp) o ho'
        obtain ⟨i, rfl⟩ := Int.eq_ofNat_of_zero_le hn0
        have hi : i < mis.length := by omega
        have hz' : mis.getD i 0 ≠ 0 := hz
        obtain ⟨q, h1, h2, h3⟩ := (okG_iff hN5 (k := k + 1) hrow' (by rw [lessI_len]; exact hN) (lessI_pos hmis hz')).2 hg
        refine ⟨(i : Int) :: q, by simp [h1], fun j o hj => ?_, fun o ho5 ho => ?_⟩
        · cases j with
          | zero => simp at hj; subst hj; rw [Nat.add_zero, if_neg hb]; simpa using ho'
          | succ j =>
            have := h2 j o (by simpa using hj)
            rw [show k + (j + 1) = k + 1 + j by omega]
            simpa using this
        · rw [cntI_cons]
          have hp := getD_pos hmis i
          by_cases hoq : (o : Int) ∈ q
          · have h := h3 o ho5 hoq
            rw [lessI_get hi] at h
            by_cases hoi : o = i
            · subst hoi; rw [if_pos rfl] at h ⊢; omega
            · rw [if_neg hoi] at h; rw [if_neg (by omega)]; omega
          · rw [cntI_zero hoq]
            rcases List.mem_cons.1 ho with h | h
            · have : o = i := by omega
              subst this
              rw [if_pos rfl]; omega
            · exact absurd h hoq
def withoutS (ss : List Sg) (q : List Int) (k : Nat) : List Sg := ((List.range k).filter fun (i : Nat) => !q.contains (i : Int)).map fun i => ss.getD i ⟨0, false, false, 0, 0⟩
theorem dropR_eq (left : Nat) : ∀ (rows : List (List Int)) (k : Nat), dropR left k rows = ((List.range rows.length).filter fun i => !left.testBit (k + i)).map fun i => rows.getD i []
  | [], k => by simp [dropR]
  | row :: rest, k => by
    have ih := dropR_eq left rest (k + 1)
    unfold dropR
    rw [List.length_cons, List.range_succ_eq_map, List.filter_cons]
    have e : ((List.map Nat.succ (List.range rest.length)).filter fun i => !left.testBit (k + i)).map (fun i => (row :: rest).getD i []) = dropR left (k + 1) rest := by
      rw [List.filter_map, List.map_map, ih]
      have e1 : ((fun i => !left.testBit (k + i)) ∘ Nat.succ) = fun i => !left.testBit (k + 1 + i) := by
        funext i
        show (!left.testBit (k + (i + 1))) = _
        rw [show k + (i + 1) = k + 1 + i by omega]
      rw [e1]
      rfl
    by_cases hb : left.testBit k = true
    · rw [if_pos hb, if_neg (by rw [Nat.add_zero, hb]; simp)]
      exact e.symm
    · rw [if_neg hb, if_pos (by rw [Nat.add_zero]; simpa using hb), List.map_cons, e]
      rfl
theorem mays_without {t : Int} {l : List Mk} {ss : List Sg} {q : List Int} (hq : ∀ i ∈ q, 0 ≤ i) : mays t l (withoutS ss q ss.length) = dropR (bitsF 0 q) 0 (mays t l ss) := by
  rw [dropR_eq]
  have hL : (mays t l ss).length = ss.length := by unfold mays; simp
  rw [hL]
  unfold withoutS
  show List.map (mayL t l) (List.map _ _) = _
  rw [List.map_map]
  have ef : ∀ i ∈ List.range ss.length, (!q.contains (i : Int)) = (!(bitsF 0 q).testBit (0 + i)) := fun i _ => by
    rw [Nat.zero_add, bitsF_test q 0 i hq, Nat.zero_testBit, Bool.false_or, List.contains_eq_mem]
  rw [List.filter_congr ef]
  refine List.map_congr_left fun i hi => ?_
  have hil := List.mem_range.1 (List.mem_filter.1 hi).1
  have hk := List.getElem?_eq_getElem hil
  show mayL t l (ss.getD i _) = _
  rw [mays_getD hk, List.getD_eq_getElem?_getD, hk]
  rfl
theorem left_givs {t : Int} {l : List Mk} {ss : List Sg} {mis q : List Int} (hn5 : l.length ≤ 5) (hN : mis.length = l.length) (hmis : ∀ x ∈ mis, 0 ≤ x) (hq : ∀ i ∈ q, 0 ≤ i) :
    (giveL (mays t l ss) mis (bitsF 0 q) (fun _ _ => true)).isSome = !(givs (mays t l (withoutS ss q ss.length)) mis).isEmpty := by
  have hrow2 : ∀ row ∈ mays t l ss, ∀ o ∈ row, 0 ≤ o ∧ o < l.length := fun row hr o ho => by
    unfold mays at hr
    obtain ⟨s, _, rfl⟩ := List.mem_map.1 hr
    have := mayL_mem ho
    omega
  rw [Bool.eq_iff_iff, give_some (mays_five hn5), mays_without hq]
  have h := okG_iff (left := bitsF 0 q) hn5 (k := 0) hrow2 hN hmis
  simp only [okG, Nat.zero_add] at h
  rw [h]
  simp
theorem leftOf_find {t : Int} {l : List Mk} {ss : List Sg} {mis : List Int} (hn5 : l.length ≤ 5) (hN : mis.length = l.length) (hmis : ∀ x ∈ mis, 0 ≤ x) (many : Nat) :
    pickRest (mays t l ss).length (fun set => (giveL (mays t l ss) mis set (fun _ _ => true)).isSome) many 0 0 = (picksL ss.length 0 many).find? fun q => !(givs (mays t l (withoutS ss q ss.length)) mis).isEmpty := by
  rw [pick_find]
  have hL : (mays t l ss).length = ss.length := by unfold mays; simp
  rw [hL]
  exact find_congr fun q hq => left_givs hn5 hN hmis (asc_pos (picks_mem hq).1)
theorem withoutS_succ (ss : List Sg) (q : List Int) (k : Nat) : withoutS ss q (k + 1) = withoutS ss q k ++ if q.contains (k : Int) then [] else [ss.getD k ⟨0, false, false, 0, 0⟩] := by
  unfold withoutS
  rw [List.range_succ, List.filter_append, List.map_append]
  congr 1
  by_cases h : q.contains (k : Int) = true
  · rw [if_pos h, List.filter_cons_of_neg (by simpa using h)]; rfl
  · rw [if_neg h, List.filter_cons_of_pos (by simpa using h)]; rfl
end Go.Proofs.Ytgnjknihgjdedaa
