/- TopCounted 5: Draw. -/
import Derived.StillTail
import Derived.Deep.Quiet
import Derived.Deep.QuietTactic
import Derived.Lib.QuietBelow
namespace Go.Proofs.Ytgnjknihgjdedaa
set_option linter.unusedVariables false
section
variable {P : Program} {ops : Array Oper} {md : Region.Mode} {C : World → Prop}

def wpAnyLQ (P : Program) (md : Region.Mode) (ops : Array Oper) (C : World → Prop) (n : Nat) (L : Array Bool → Act → Prop) : Nat → Array Bool → Act → Prop
  | 0, listed, a => L listed a
  | f + 1, listed, a =>
    Region.ready md ops listed ≠ [] ∧ ∀ i ∈ Region.ready md ops listed, i < n ∧ qOp P ops C i (wpAnyLQ P md ops C n L f (listed.setIfInBounds i true)) a

theorem wpAny_of_headQ {n g : Nat} {L : Array Bool → Act → Prop} {Q' : Exit → Act → World → Prop} (hL : ∀ listed a w, C w → L listed a → wpAny P md ops Q' g listed a w) :
    ∀ (f : Nat) (listed : Array Bool) (a : Act) (w : World), C w → wpAnyLQ P md ops C n L f listed a → wpAny P md ops Q' (f + g) listed a w
  | 0, listed, a, w, hw, h => by rw [Nat.zero_add]; exact hL _ _ _ hw h
  | f + 1, listed, a, w, hw, h => by
    rw [show f + 1 + g = (f + g) + 1 by omega]
    exact ⟨fun h0 => absurd h0 h.1, fun i hi => wpOp_of_qOp hw (fun a' w' hw' h' => wpAny_of_headQ hL f _ a' w' hw' h') (h.2 i hi).2⟩

theorem wpAnyLQ_first {n i : Nat} {oi : Oper} {v : Value} {L : Array Bool → Act → Prop} (hi : ops[i]? = some oi) (hsel : ∀ (j : Nat) (o : Oper) cs b, ops[j]? = some o → o.op ≠ .select cs b)
    (hs : Region.sinkB md ops n = true) (hc : Region.chainB md ops n = true) (hn : n < ops.size) (hin : i < n)
    (hdone : ∀ listed a, L listed a → ∀ j ∈ Region.ready md ops listed, n ≤ j) :
    ∀ (f : Nat) (listed : Array Bool) (a : Act), HeadInv md ops n listed →
      (∀ j oj, ops[j]? = some oj → j ≠ i → listed.getD j true = false → (∀ e ∈ oj.after, Region.binds md e = true → e.on ≠ i) → oi.apart ops oj = true) →
      i ∈ Region.ready md ops listed → YieldsIn P ops C oi v a →
      wpAnyLQ P md ops C n L f (listed.setIfInBounds i true) (a.put oi.dst v) → wpAnyLQ P md ops C n L (f + 1) listed a := by
  intro f
  induction f with
  | zero =>
    intro listed a inv _ hr hy H
    have hun := (mem_ready.1 hr).1
    refine ⟨fun h => (by rw [h] at hr; cases hr), fun j hj => ?_⟩
    have hjn : j < n := by
      rcases Nat.lt_or_ge j n with h | h
      · exact h
      · exact absurd hj (tail_waits hs hc hn inv _ i rfl hin hun j h)
    refine ⟨hjn, ?_⟩
    by_cases hji : j = i
    · subst hji; exact hy.qOp hi H
    · have := hdone _ _ H j (ready_mono hj hji)
      omega
  | succ f ih =>
    intro listed a inv hfree hr hy H
    have hun := (mem_ready.1 hr).1
    refine ⟨fun h => (by rw [h] at hr; cases hr), fun j hj => ?_⟩
    have hjn : j < n := by
      rcases Nat.lt_or_ge j n with h | h
      · exact h
      · exact absurd hj (tail_waits hs hc hn inv _ i rfl hin hun j h)
    refine ⟨hjn, ?_⟩
    by_cases hji : j = i
    · subst hji; exact hy.qOp hi H
    · have h1 := (H.2 j (ready_mono hj hji)).2
      obtain ⟨hjun, oj, hoj, hall⟩ := mem_ready.1 hj
      have hnot : ∀ e ∈ oj.after, Region.binds md e = true → e.on ≠ i := fun e he hb heq => by
        have h1 := hall e he hb
        rw [heq, getD_both hun] at h1
        cases h1
      have h2 := qOp_put hoj (hfree j oj hoj hji hjun hnot) (fun cs b => hsel i oi cs b hi) (fun cs b => hsel j oj cs b hoj) hy h1
      have hfree' : ∀ k ok, ops[k]? = some ok → k ≠ i → (listed.setIfInBounds j true).getD k true = false →
          (∀ e ∈ ok.after, Region.binds md e = true → e.on ≠ i) → oi.apart ops ok = true := fun k ok hk hki hun hno => by
        refine hfree k ok hk hki ?_ hno
        by_cases hjk : j = k
        · subst hjk; exact hjun
        · rw [getD_set_ne true hjk] at hun; exact hun
      refine qOp_mono (fun a' h3 => ih (listed.setIfInBounds j true) a' (inv.set hj hjn) hfree' (ready_mono hr (Ne.symm hji)) h3.1 ?_) h2
      rw [Array.setIfInBounds_comm _ _ hji]
      exact h3.2

theorem wpAnyLQ_lex {n g : Nat} {Lq : Act → Prop} (hsel : Region.noSelect ops = true) (hs : Region.sinkB md ops n = true) (hc : Region.chainB md ops n = true) (hn : n < ops.size) :
    ∀ (l : List Oper) (k : Nat) (listed : Array Bool) (a : Act), (∀ j, j < l.length → l[j]? = ops[k + j]?) → k + l.length = n → HeadInv md ops n listed →
    Region.lexHead md ops g l.length k listed = true → wpQuiet P ops C Lq l a →
    wpAnyLQ P md ops C n (fun listed' a' => Region.seqB md ops g n listed' = true ∧ Lq a') l.length listed a
  | [], k, listed, a, _, hk, _, hB, h => by
    have : k = n := by simpa using hk
    subst this
    exact ⟨by simpa [Region.lexHead] using hB, h⟩
  | o :: l, k, listed, a, hl, hk, inv, hB, h => by
    have h0 : ops[k]? = some o := by simpa using (hl 0 (by simp)).symm
    simp only [List.length_cons, Region.lexHead, Bool.and_eq_true] at hB
    obtain ⟨⟨hr, hf⟩, hB'⟩ := hB
    have hkn : k < n := by simp only [List.length_cons] at hk; omega
    have hr' : k ∈ Region.ready md ops listed := by simpa using hr
    have hst : qOp P ops C k (wpQuiet P ops C Lq l) a := by unfold qOp; simp only [h0]; exact h
    obtain ⟨v, hy, hK⟩ := yieldsIn_of_qOp h0 hst
    exact wpAnyLQ_first h0 (Region.noSelect_spec hsel) hs hc hn hkn (fun listed' a' hL => seqB_ready hL.1) l.length listed a inv (Region.free_spec h0 hf) hr' hy
      (wpAnyLQ_lex hsel hs hc hn l (k + 1) _ _ (fun j hj => by have := hl (j + 1) (by simp; omega); simpa [Nat.add_assoc, Nat.add_comm 1 j] using this) (by simp only [List.length_cons] at hk; omega) (inv.set hr' hkn) hB' hK)

theorem wp_region_quiet_tail {id : Nat} {Q : Exit → Act → World → Prop} {a : Act} {w : World} {l : List Oper} (n : Nat) (hm : P.follows .mixedOrders = true) (hB : Region.lexTailB .any l.toArray n = true)
    (hC : C { w with drawn := w.drawn + 1 })
    (h : wpQuiet P l.toArray C (fun a' => ∀ w', C w' → wpList P l.toArray Q (l.drop n) a' w') (l.take n) a) : (Code.region id l.toArray true).wp P Q a w := by
  simp only [Region.lexTailB, Bool.and_eq_true, decide_eq_true_eq] at hB
  obtain ⟨⟨⟨⟨hsel, hn⟩, hs⟩, hc⟩, hlex⟩ := hB
  have hn' : n < l.length := by simpa using hn
  have htl : (l.take n).length = n := by simp; omega
  have hdl : (l.drop n).length = l.toArray.size - n := by simp
  have inv0 : HeadInv .any l.toArray n (Array.replicate l.toArray.size false) :=
    ⟨by simp, fun j oj _ hl => (by rw [getD_replicate_false] at hl; cases hl), fun t _ ht => getD_in (by simpa using ht) (getD_replicate_false _ _)⟩
  have H := wpAnyLQ_lex (C := C) (md := .any) (g := l.toArray.size - n) hsel hs hc hn (l.take n) 0 _ a (fun j hj => by
    have hj' : j < n := by rw [htl] at hj; exact hj
    simp [hj']) (by simpa using htl) inv0 (by rw [htl]; exact hlex) h
  refine wp_region_any hm ?_
  have := wpAny_of_headQ (Q' := Q) (g := l.toArray.size - n) (fun listed a' w' hw' hL => by
    have := wpAny_of_seq (md := .any) (Q' := Q) (l.drop n) n listed a' w' (fun j => by simp [List.getElem?_drop]) (by rw [hdl]; exact hL.1) (hL.2 w' hw')
    rwa [hdl] at this) _ _ _ { w with drawn := w.drawn + 1 } hC H
  rw [htl, show n + (l.toArray.size - n) = l.toArray.size by omega] at this
  exact this

end
end Go.Proofs.Ytgnjknihgjdedaa

namespace Go.Proofs.Ytgnjknihgjdedaa
set_option linter.unusedVariables false
section
variable {P : Program} {ops : Array Oper} {md : Region.Mode} {C : World → Prop}

def chainAny (md : Region.Mode) (ops : Array Oper) (n : Nat) : Bool :=
  (List.range ops.size).all fun t => decide (t ≤ n) || (List.range t).any fun j => decide (n ≤ j) && Region.waitsFor md ops t j

theorem tail_waits' {n : Nat} {listed : Array Bool} (hs : Region.sinkB md ops n = true) (hc : chainAny md ops n = true) (hn : n < ops.size) (inv : HeadInv md ops n listed) :
    ∀ (d i : Nat), n - i = d → i < n → listed.getD i true = false → ∀ t, n ≤ t → t ∉ Region.ready md ops listed := by
  intro d
  induction d using Nat.strongRecOn with
  | _ d ih =>
    intro i hd hi hun t ht hr
    obtain ⟨_, ot, hot, hall⟩ := mem_ready.1 hr
    have htlt : t < ops.size := (Array.getElem?_eq_some_iff.1 hot).1
    by_cases htn : t = n
    · subst htn
      have h1 := List.all_eq_true.1 hs i (List.mem_range.2 hi)
      obtain ⟨j, hj, hj2⟩ := List.any_eq_true.1 h1
      simp only [Bool.and_eq_true, decide_eq_true_eq] at hj2
      obtain ⟨oj, hoj, e, he, hb, hon⟩ := Region.waitsFor_spec hj2.2
      have hjle : j ≤ t := by have := List.mem_range.1 hj; omega
      by_cases hjt : j = t
      · subst hjt
        have : oj = ot := Option.some.inj (hoj.symm.trans hot)
        subst this
        have h2 := hall e he hb
        rw [hon, getD_both hun] at h2
        cases h2
      · cases hl : listed.getD j false with
        | true =>
          have h2 := inv.closed j oj hoj hl e he hb
          rw [hon, getD_both hun] at h2
          cases h2
        | false =>
          have hjs : j < listed.size := by rw [inv.size]; omega
          exact ih (t - j) (by omega) j rfl (by omega) (getD_in hjs hl) t (Nat.le_refl _) hr
    · have h1 := List.all_eq_true.1 hc t (List.mem_range.2 htlt)
      simp only [Bool.or_eq_true, decide_eq_true_eq] at h1
      rcases h1 with h1 | h1
      · omega
      · obtain ⟨j, hj, hj2⟩ := List.any_eq_true.1 h1
        simp only [Bool.and_eq_true, decide_eq_true_eq] at hj2
        have hjt := List.mem_range.1 hj
        obtain ⟨o', ho', e, he, hb, hon⟩ := Region.waitsFor_spec hj2.2
        have : o' = ot := Option.some.inj (ho'.symm.trans hot)
        subst this
        have h2 := hall e he hb
        rw [hon, getD_both (inv.tail j hj2.1 (by omega))] at h2
        cases h2

theorem anyLQ_first {n i : Nat} {oi : Oper} {v : Value} {L : Array Bool → Act → Prop} (hi : ops[i]? = some oi) (hsel : ∀ (j : Nat) (o : Oper) cs b, ops[j]? = some o → o.op ≠ .select cs b)
    (hs : Region.sinkB md ops n = true) (hc : chainAny md ops n = true) (hn : n < ops.size) (hin : i < n)
    (hdone : ∀ listed a, L listed a → ∀ j ∈ Region.ready md ops listed, n ≤ j) :
    ∀ (f : Nat) (listed : Array Bool) (a : Act), HeadInv md ops n listed →
      (∀ j oj, ops[j]? = some oj → j ≠ i → listed.getD j true = false → (∀ e ∈ oj.after, Region.binds md e = true → e.on ≠ i) → oi.apart ops oj = true) →
      i ∈ Region.ready md ops listed → YieldsIn P ops C oi v a →
      wpAnyLQ P md ops C n L f (listed.setIfInBounds i true) (a.put oi.dst v) → wpAnyLQ P md ops C n L (f + 1) listed a := by
  intro f
  induction f with
  | zero =>
    intro listed a inv _ hr hy H
    have hun := (mem_ready.1 hr).1
    refine ⟨fun h => (by rw [h] at hr; cases hr), fun j hj => ?_⟩
    have hjn : j < n := by
      rcases Nat.lt_or_ge j n with h | h
      · exact h
      · exact absurd hj (tail_waits' hs hc hn inv _ i rfl hin hun j h)
    refine ⟨hjn, ?_⟩
    by_cases hji : j = i
    · subst hji; exact hy.qOp hi H
    · have := hdone _ _ H j (ready_mono hj hji)
      omega
  | succ f ih =>
    intro listed a inv hfree hr hy H
    have hun := (mem_ready.1 hr).1
    refine ⟨fun h => (by rw [h] at hr; cases hr), fun j hj => ?_⟩
    have hjn : j < n := by
      rcases Nat.lt_or_ge j n with h | h
      · exact h
      · exact absurd hj (tail_waits' hs hc hn inv _ i rfl hin hun j h)
    refine ⟨hjn, ?_⟩
    by_cases hji : j = i
    · subst hji; exact hy.qOp hi H
    · have h1 := (H.2 j (ready_mono hj hji)).2
      obtain ⟨hjun, oj, hoj, hall⟩ := mem_ready.1 hj
      have hnot : ∀ e ∈ oj.after, Region.binds md e = true → e.on ≠ i := fun e he hb heq => by
        have h1 := hall e he hb
        rw [heq, getD_both hun] at h1
        cases h1
      have h2 := qOp_put hoj (hfree j oj hoj hji hjun hnot) (fun cs b => hsel i oi cs b hi) (fun cs b => hsel j oj cs b hoj) hy h1
      have hfree' : ∀ k ok, ops[k]? = some ok → k ≠ i → (listed.setIfInBounds j true).getD k true = false →
          (∀ e ∈ ok.after, Region.binds md e = true → e.on ≠ i) → oi.apart ops ok = true := fun k ok hk hki hun hno => by
        refine hfree k ok hk hki ?_ hno
        by_cases hjk : j = k
        · subst hjk; exact hjun
        · rw [getD_set_ne true hjk] at hun; exact hun
      refine qOp_mono (fun a' h3 => ih (listed.setIfInBounds j true) a' (inv.set hj hjn) hfree' (ready_mono hr (Ne.symm hji)) h3.1 ?_) h2
      rw [Array.setIfInBounds_comm _ _ hji]
      exact h3.2

def endB (md : Region.Mode) (ops : Array Oper) (g k : Nat) (listed : Array Bool) : Bool :=
  decide (Region.ready md ops listed = [k]) && Region.lexFrom md ops g (k + 1) (listed.setIfInBounds k true)
def headB (md : Region.Mode) (ops : Array Oper) (g : Nat) : Nat → Nat → Array Bool → Bool
  | 0, k, listed => endB md ops g k listed
  | f + 1, k, listed => (Region.ready md ops listed).contains k && Region.free md ops listed k && headB md ops g f (k + 1) (listed.setIfInBounds k true)
def callB (md : Region.Mode) (ops : Array Oper) (n : Nat) : Bool :=
  Region.noSelect ops && decide (n < ops.size) && Region.sinkB md ops n && chainAny md ops n && headB md ops (ops.size - (n + 1)) n 0 (Array.replicate ops.size false)

theorem endB_ready {g k : Nat} {listed : Array Bool} (h : endB md ops g k listed = true) : ∀ j ∈ Region.ready md ops listed, k ≤ j := by
  intro j hj
  simp only [endB, Bool.and_eq_true, decide_eq_true_eq] at h
  rw [h.1] at hj
  have : j = k := by simpa using hj
  omega

theorem anyLQ_lex {n g : Nat} {Lq : Act → Prop} (hsel : Region.noSelect ops = true) (hs : Region.sinkB md ops n = true) (hc : chainAny md ops n = true) (hn : n < ops.size) :
    ∀ (l : List Oper) (k : Nat) (listed : Array Bool) (a : Act), (∀ j, j < l.length → l[j]? = ops[k + j]?) → k + l.length = n → HeadInv md ops n listed →
    headB md ops g l.length k listed = true → wpQuiet P ops C Lq l a →
    wpAnyLQ P md ops C n (fun listed' a' => endB md ops g n listed' = true ∧ Lq a') l.length listed a
  | [], k, listed, a, _, hk, _, hB, h => by
    have : k = n := by simpa using hk
    subst this
    exact ⟨by simpa [headB] using hB, h⟩
  | o :: l, k, listed, a, hl, hk, inv, hB, h => by
    have h0 : ops[k]? = some o := by simpa using (hl 0 (by simp)).symm
    simp only [List.length_cons, headB, Bool.and_eq_true] at hB
    obtain ⟨⟨hr, hf⟩, hB'⟩ := hB
    have hkn : k < n := by simp only [List.length_cons] at hk; omega
    have hr' : k ∈ Region.ready md ops listed := by simpa using hr
    have hst : qOp P ops C k (wpQuiet P ops C Lq l) a := by unfold qOp; simp only [h0]; exact h
    obtain ⟨v, hy, hK⟩ := yieldsIn_of_qOp h0 hst
    exact anyLQ_first h0 (Region.noSelect_spec hsel) hs hc hn hkn (fun listed' a' hL => endB_ready hL.1) l.length listed a inv (Region.free_spec h0 hf) hr' hy
      (anyLQ_lex hsel hs hc hn l (k + 1) _ _ (fun j hj => by have := hl (j + 1) (by simp; omega); simpa [Nat.add_assoc, Nat.add_comm 1 j] using this) (by simp only [List.length_cons] at hk; omega) (inv.set hr' hkn) hB' hK)

def Mid (Q : Exit → Act → World → Prop) (K : Act → World → Prop) (x : Exit) (a : Act) (w : World) : Prop := (x = .normal ∧ K a w) ∨ (x ≠ .normal ∧ Q x a w)

theorem wp_mid {o : Oper} {a : Act} {w : World} {K K' : Act → World → Prop} {Q : Exit → Act → World → Prop} (h : ∀ a w, K a w → K' a w) (hh : o.wp P a w K (Mid Q K')) : o.wp P a w K' Q := by
  have hx : ∀ x a w, x ≠ .normal → Mid Q K' x a w → Q x a w := fun x a w hne hm => by
    rcases hm with ⟨e, _⟩ | ⟨_, q⟩
    · exact absurd e hne
    · exact q
  unfold Oper.wp at *
  generalize (execOp a.eval o).run P w = r at *
  cases r with
  | ok n w' =>
    cases n <;> simp only [Oper.upon] at hh ⊢ <;>
      first
        | exact h _ _ hh
        | exact Calls.mono hh (fun e w'' he => by
            cases e with
            | returned v => exact h _ _ he
            | panicked c => exact hx _ _ _ (by intro e; cases e) he
            | outgrown => obtain ⟨a', w3, h3⟩ := he; exact ⟨a', w3, hx _ _ _ (by intro e; cases e) h3⟩)
        | exact Rows.mono hh (fun _ _ he => h _ _ he)
  | halt x w' =>
    cases x <;> simp only [Oper.upon] at hh ⊢ <;> first | exact hh | exact hx _ _ _ (by intro e; cases e) hh

theorem wp_region_quiet_call {id : Nat} {Q : Exit → Act → World → Prop} {a : Act} {w : World} {l : List Oper} (n : Nat) (hm : P.follows .mixedOrders = true) (hB : callB .any l.toArray n = true)
    (hC : C { w with drawn := w.drawn + 1 })
    (h : wpQuiet P l.toArray C (fun a' => ∀ w', C w' → ∀ Q2 : Exit → Act → World → Prop,
      (∀ a2 w2, wpQuiet P l.toArray (fun x => x = w2) (fun a3 => Q .normal a3 w2) (l.drop (n + 1)) a2 → Q2 .normal a2 w2) → wpList P l.toArray Q2 ((l.drop n).take 1) a' w') (l.take n) a) : (Code.region id l.toArray true).wp P Q a w := by
  simp only [callB, Bool.and_eq_true, decide_eq_true_eq] at hB
  obtain ⟨⟨⟨⟨hsel, hn⟩, hs⟩, hc⟩, hlex⟩ := hB
  have hn' : n < l.length := by simpa using hn
  have htl : (l.take n).length = n := by simp; omega
  have inv0 : HeadInv .any l.toArray n (Array.replicate l.toArray.size false) :=
    ⟨by simp, fun j oj _ hl => (by rw [getD_replicate_false] at hl; cases hl), fun t _ ht => getD_in (by simpa using ht) (getD_replicate_false _ _)⟩
  have H := anyLQ_lex (C := C) (md := .any) (g := l.toArray.size - (n + 1)) hsel hs hc hn (l.take n) 0 _ a (fun j hj => by
    have hj' : j < n := by rw [htl] at hj; exact hj
    simp [hj']) (by simpa using htl) inv0 (by rw [htl]; exact hlex) h
  refine wp_region_any hm ?_
  have hdl : (l.drop (n + 1)).length = l.toArray.size - (n + 1) := by simp
  have := wpAny_of_headQ (Q' := Q) (g := (l.toArray.size - (n + 1)) + 1) (fun listed a' w' hw' hL => by
    obtain ⟨hE, hL⟩ := hL
    simp only [endB, Bool.and_eq_true, decide_eq_true_eq] at hE
    obtain ⟨hr, hx⟩ := hE
    obtain ⟨K, hK⟩ : ∃ K : Act → World → Prop, K = fun a2 w2 => wpQuiet P l.toArray (fun x => x = w2) (fun a3 => Q .normal a3 w2) (l.drop (n + 1)) a2 := ⟨_, rfl⟩
    have h1 := hL w' hw' (Mid Q K) (fun a2 w2 h2 => .inl ⟨rfl, by rw [hK]; exact h2⟩)
    refine ⟨fun h0 => (by rw [hr] at h0; cases h0), fun i hi => ?_⟩
    rw [hr] at hi
    have hin : i = n := by simpa using hi
    subst hin
    obtain ⟨o, ho⟩ : ∃ o, l[i]? = some o := ⟨_, List.getElem?_eq_getElem hn'⟩
    have hd : (l.drop i).take 1 = [o] := by
      rw [List.drop_eq_getElem_cons hn', List.take_succ_cons, List.take_zero]
      rw [List.getElem?_eq_getElem hn'] at ho
      cases ho
      rfl
    rw [hd] at h1
    have hgo : wpOp P l.toArray Q i K a' w' := by
      unfold wpOp
      have ho' : l.toArray[i]? = some o := by simpa using ho
      simp only [ho']
      unfold wpList at h1
      split
      · rename_i hw
        rw [if_pos hw] at h1
        rcases h1 with h1 | ⟨h1, a9, w9, h9⟩
        · refine .inl (wp_mid (K := wpList P l.toArray (Mid Q K) []) (fun a w h => ?_) h1)
          rcases h with ⟨_, h⟩ | ⟨h, _⟩
          · exact h
          · exact absurd rfl h
        · refine .inr ⟨h1, a9, w9, ?_⟩
          rcases h9 with ⟨h, _⟩ | ⟨_, h⟩
          · cases h
          · exact h
      · rename_i hw
        rw [if_neg hw] at h1
        rcases h1 with ⟨_, h⟩ | ⟨h, _⟩
        · exact h
        · exact absurd rfl h
    refine wpOp_mono (fun a2 w2 h2 => ?_) hgo
    rw [hK] at h2
    refine wpAny_of_quiet (C := fun x => x = w2) (Q := fun a3 => Q .normal a3 w2) (fun a3 w3 e h3 => by subst e; exact h3) _ _ _ _ rfl ?_
    have := wpAnyQ_lex (C := fun x => x = w2) (md := .any) hsel (l.drop (i + 1)) (i + 1) (listed.setIfInBounds i true) a2 (fun j => by simp [List.getElem?_drop]) (by rw [hdl]; exact hx) h2
    rwa [hdl] at this) _ _ _ { w with drawn := w.drawn + 1 } hC H
  rw [htl, show n + ((l.toArray.size - (n + 1)) + 1) = l.toArray.size by omega] at this
  exact this
end
end Go.Proofs.Ytgnjknihgjdedaa

namespace Go.Proofs.Ytgnjknihgjdedaa
set_option linter.unusedVariables false
section
variable {P : Program} {ops : Array Oper} {T : Nat → World → World → Prop} {w0 : World}

def putAll : List Tmp → (Nat → Value) → Act → Act
  | [], _, a => a
  | d :: ds, ys, a => putAll ds ys (a.put (some d) (ys d))
def dstsOf (l : List Oper) : List Tmp := l.filterMap (·.dst)

def Does (P : Program) (ops : Array Oper) (o : Oper) (a : Act) (w : World) (R : Value → World → Prop) : Prop :=
  ∀ Q2 : Exit → Act → World → Prop, (∀ a2 w2, (∃ v, a2 = a.put o.dst v ∧ R v w2) → Q2 .normal a2 w2) → wpList P ops Q2 [o] a w

abbrev VF := Value → World → Prop
abbrev DF := Option Tmp × VF
def DF.holds (f : DF) (ys : Nat → Value) (w : World) : Prop := match f.1 with | some d => f.2 (ys d) w | none => ∃ v, f.2 v w
def FactAt (acc : List DF) (ys : Nat → Value) (j : Nat) (w : World) : Prop := ∀ f, acc[j]? = some f → f.holds ys w
def depsGo (acc : List DF) (ys : Nat → Value) (w : World) : List Edge → Prop
  | [] => True
  | e :: l => (if Region.binds .any e then (match acc[e.on]? with | some f => f.holds ys w | none => True) else True) ∧ depsGo acc ys w l
def DepsOf (acc : List DF) (ys : Nat → Value) (o : Oper) (w : World) : Prop := depsGo acc ys w o.after.toList
theorem depsGo_of {acc : List DF} {ys : Nat → Value} {w : World} : ∀ {l : List Edge}, (∀ e ∈ l, Region.binds .any e = true → FactAt acc ys e.on w) → depsGo acc ys w l
  | [], _ => trivial
  | e :: l, h => by
    refine ⟨?_, depsGo_of fun e' he' => h e' (List.mem_cons_of_mem _ he')⟩
    split
    · rename_i hb
      split
      · rename_i f hf; exact h e (List.mem_cons_self ..) hb f hf
      · trivial
    · trivial

def refA (acc : List DF) (o : Oper) (d : Tmp) : Bool := o.after.toList.any fun e => Region.binds .any e && (match acc[e.on]? with | some f => f.1 == some d | none => false)
theorem refA_spec {acc : List DF} {o : Oper} {d : Tmp} (h : refA acc o d = true) : ∃ e ∈ o.after, Region.binds .any e = true ∧ ∃ f, acc[e.on]? = some f ∧ f.1 = some d := by
  obtain ⟨e, he, h2⟩ := List.any_eq_true.1 h
  simp only [Bool.and_eq_true] at h2
  refine ⟨e, by rw [Array.mem_toList_iff] at he; exact he, h2.1, ?_⟩
  have h3 := h2.2
  split at h3
  · rename_i f hf
    exact ⟨f, hf, by simpa using h3⟩
  · cases h3

def LexI (P : Program) (ops : Array Oper) (N : Nat) (T : Nat → World → World → Prop) (w0 : World) (B : (Nat → Value) → Act) (K : List DF → Prop) : List DF → List Oper → Prop
  | acc, [] => K acc
  | acc, o :: l => ∃ F : VF, (∀ n v w w', T n w w' → F v w → F v w') ∧
      (((∀ n ys w, n < N → T n w0 w → DepsOf acc ys o w → Does P ops o (B ys) w (fun v w' => T 1 w w' ∧ F v w')) ∧
      LexI P ops N T w0 B K (acc ++ [(o.dst, F)]) l) ∨
      ∃ d, o.dst = none ∧ refA acc o d = true ∧ (∀ n ys w, n < N → T n w0 w → DepsOf acc ys o w → Does P ops o (B ys) w (fun v w' => T 1 w w' ∧ F (ys d) w')) ∧
      LexI P ops N T w0 B K (acc ++ [(some d, F)]) l)

def invB (ops : Array Oper) (n : Nat) : Bool :=
  (dstsOf ops.toList).all (fun d => decide (d < n)) &&
  (List.range ops.size).all fun i => match ops[i]? with
    | some o => o.after.toList.all (fun e => !Region.binds .any e || decide (e.on < i)) && (List.range i).all fun j => match ops[j]? with
      | some o' => match o.dst, o'.dst with | some d, some d' => d != d' | _, _ => true
      | none => true
    | none => true

theorem invB_spec {n : Nat} (h : invB ops n = true) :
    (∀ (i : Nat) (o : Oper) (d : Nat), ops[i]? = some o → o.dst = some d → d < n) ∧ (∀ (i : Nat) (o : Oper), ops[i]? = some o → ∀ e ∈ o.after, Region.binds .any e = true → e.on < i) ∧
    (∀ (i j : Nat) (o o' : Oper) (d : Nat), ops[i]? = some o → ops[j]? = some o' → i ≠ j → o.dst = some d → o'.dst ≠ some d) := by
  simp only [invB, Bool.and_eq_true] at h
  obtain ⟨h1, h2⟩ := h
  have h3 : ∀ (i : Nat) (o : Oper), ops[i]? = some o → (o.after.toList.all (fun e => !Region.binds .any e || decide (e.on < i)) = true ∧ ∀ (j : Nat) (o' : Oper), j < i → ops[j]? = some o' → ∀ d, o.dst = some d → o'.dst ≠ some d) := by
    intro i o ho
    have hi : i < ops.size := (Array.getElem?_eq_some_iff.1 ho).1
    have := List.all_eq_true.1 h2 i (List.mem_range.2 hi)
    simp only [ho, Bool.and_eq_true] at this
    refine ⟨this.1, fun j o' hj ho' d hd hd' => ?_⟩
    have h4 := List.all_eq_true.1 this.2 j (List.mem_range.2 hj)
    simp only [ho', hd, hd', bne_self_eq_false] at h4
    cases h4
  refine ⟨fun i o d ho hd => ?_, fun i o ho e he hb => ?_, fun i j o o' d ho ho' hij hd hd' => ?_⟩
  · have := List.all_eq_true.1 h1 d (List.mem_filterMap.2 ⟨o, by rw [Array.mem_toList_iff]; exact Array.mem_of_getElem? ho, hd⟩)
    simpa using this
  · have := List.all_eq_true.1 (h3 i o ho).1 e (by rw [Array.mem_toList_iff]; exact he)
    simpa [hb] using this
  · rcases Nat.lt_or_gt_of_ne hij with h | h
    · exact (h3 j o' ho').2 i o h ho d hd' hd
    · exact (h3 i o ho).2 j o' h ho' d hd hd'

theorem putAll_defers : ∀ (ds : List Tmp) (ys : Nat → Value) (a : Act), (putAll ds ys a).defers = a.defers
  | [], _, _ => rfl
  | d :: ds, ys, a => putAll_defers ds ys _
theorem putAll_size : ∀ (ds : List Tmp) (ys : Nat → Value) (a : Act), (putAll ds ys a).tmps.size = a.tmps.size
  | [], _, _ => rfl
  | d :: ds, ys, a => (putAll_size ds ys _).trans (by simp [Act.put])
theorem putAll_get : ∀ (ds : List Tmp) (ys : Nat → Value) (a : Act) (t : Nat), t < a.tmps.size → (putAll ds ys a).tmps[t]? = if t ∈ ds then some (ys t) else a.tmps[t]?
  | [], _, _, _, _ => by simp [putAll]
  | d :: ds, ys, a, t, ht => by
    unfold putAll
    rw [putAll_get ds ys _ t (by simpa [Act.put] using ht)]
    by_cases h : t ∈ ds
    · simp [h]
    · by_cases hd : d = t
      · subst hd; simp [h, Act.put, ht]
      · have : t ≠ d := fun e => hd e.symm
        simp [h, this, Act.put, Array.getElem?_setIfInBounds_ne hd]

structure WayI (ops : Array Oper) (T : Nat → World → World → Prop) (w0 : World) (a0 : Act) (Fs : List DF) (listed : Array Bool) (a : Act) (w : World) : Prop where
  t : ∃ n, n + (List.range ops.size).countP (fun i => !listed.getD i true) ≤ ops.size ∧ T n w0 w
  size : listed.size = ops.size
  defers : a.defers = a0.defers
  len : a.tmps.size = a0.tmps.size
  far : ∀ t, t ∉ dstsOf ops.toList → a.tmps[t]? = a0.tmps[t]?
  facts : ∀ j, listed.getD j false = true → FactAt Fs (fun t => a.tmps.getD t undef) j w
  whose : ∀ j, listed.getD j false = true → ∀ f d, Fs[j]? = some f → f.1 = some d → ∃ (j' : Nat) (o' : Oper), listed.getD j' false = true ∧ ops[j']? = some o' ∧ o'.dst = some d

theorem WayI.act {a0 : Act} {Fs : List DF} {listed : Array Bool} {a : Act} {w : World} (h : WayI ops T w0 a0 Fs listed a w) :
    putAll (dstsOf ops.toList) (fun t => a.tmps.getD t undef) a0 = a := by
  have h1 := putAll_defers (dstsOf ops.toList) (fun t => a.tmps.getD t undef) a0
  have h2 : (putAll (dstsOf ops.toList) (fun t => a.tmps.getD t undef) a0).tmps = a.tmps := by
    apply Array.ext_getElem?
    intro t
    rcases Nat.lt_or_ge t a0.tmps.size with ht | ht
    · rw [putAll_get _ _ _ _ ht]
      have ht' : t < a.tmps.size := by rw [h.len]; exact ht
      split
      · simp [ht']
      · rename_i hn; rw [h.far t hn]
    · rw [Array.getElem?_eq_none (by rw [putAll_size]; exact ht), Array.getElem?_eq_none (by rw [h.len]; exact ht)]
  generalize putAll (dstsOf ops.toList) (fun t => a.tmps.getD t undef) a0 = b at *
  cases b; cases a
  have h3 := h.defers
  dsimp only at h1 h2 h3
  rw [h1, h2, h3]

theorem lexI_facts {N : Nat} {B : (Nat → Value) → Act} {K : List DF → Prop} : ∀ (l : List Oper) (acc : List DF), LexI P ops N T w0 B K acc l → (∀ j, j < l.length → l[j]? = ops[acc.length + j]?) → acc.length + l.length = ops.size →
    ∃ Fs : List DF, K Fs ∧ (∃ r, Fs = acc ++ r) ∧ Fs.length = ops.size ∧ ∀ i o, acc.length ≤ i → ops[i]? = some o → ∃ r F, Fs[i]? = some (r, F) ∧ (∀ n v w w', T n w w' → F v w → F v w') ∧
      ((r = o.dst ∧ ∀ n ys w, n < N → T n w0 w → DepsOf (Fs.take i) ys o w → Does P ops o (B ys) w (fun v w' => T 1 w w' ∧ F v w')) ∨
       (o.dst = none ∧ ∃ d, r = some d ∧ refA (Fs.take i) o d = true ∧ ∀ n ys w, n < N → T n w0 w → DepsOf (Fs.take i) ys o w → Does P ops o (B ys) w (fun v w' => T 1 w w' ∧ F (ys d) w')))
  | [], acc, h, hl, hs => ⟨acc, h, ⟨[], by simp⟩, by simpa using hs, fun i o hi ho => by
      have := (Array.getElem?_eq_some_iff.1 ho).1
      simp at hs; omega⟩
  | o :: l, acc, ⟨F, hF, hD⟩, hl, hs => by
    have key : ∀ r, LexI P ops N T w0 B K (acc ++ [(r, F)]) l → (∀ Fs : List DF, (∃ r', Fs = (acc ++ [(r, F)]) ++ r') →
        ((r = o.dst ∧ ∀ n ys w, n < N → T n w0 w → DepsOf (Fs.take acc.length) ys o w → Does P ops o (B ys) w (fun v w' => T 1 w w' ∧ F v w')) ∨
       (o.dst = none ∧ ∃ d, r = some d ∧ refA (Fs.take acc.length) o d = true ∧ ∀ n ys w, n < N → T n w0 w → DepsOf (Fs.take acc.length) ys o w → Does P ops o (B ys) w (fun v w' => T 1 w w' ∧ F (ys d) w')))) →
        ∃ Fs : List DF, K Fs ∧ (∃ r, Fs = acc ++ r) ∧ Fs.length = ops.size ∧ ∀ i o, acc.length ≤ i → ops[i]? = some o → ∃ r F, Fs[i]? = some (r, F) ∧ (∀ n v w w', T n w w' → F v w → F v w') ∧
      ((r = o.dst ∧ ∀ n ys w, n < N → T n w0 w → DepsOf (Fs.take i) ys o w → Does P ops o (B ys) w (fun v w' => T 1 w w' ∧ F v w')) ∨
       (o.dst = none ∧ ∃ d, r = some d ∧ refA (Fs.take i) o d = true ∧ ∀ n ys w, n < N → T n w0 w → DepsOf (Fs.take i) ys o w → Does P ops o (B ys) w (fun v w' => T 1 w w' ∧ F (ys d) w'))) := by
      intro r hr hob
      obtain ⟨Fs, hK, ⟨r', hr'⟩, hFl, hall⟩ := lexI_facts l (acc ++ [(r, F)]) hr (fun j hj => by
        have := hl (j + 1) (by simp; omega)
        simpa [Nat.add_assoc, Nat.add_comm 1 j] using this) (by simp at hs ⊢; omega)
      refine ⟨Fs, hK, ⟨(r, F) :: r', by rw [hr']; simp⟩, hFl, fun i o' hi ho' => ?_⟩
      rcases Nat.lt_or_ge i (acc ++ [(r, F)]).length with h | h
      · have hia : i = acc.length := by simp at h; omega
        subst hia
        have ho : o = o' := by
          have := hl 0 (by simp)
          simp at this
          rw [ho'] at this
          exact Option.some.inj this
        subst ho
        exact ⟨r, F, by rw [hr']; simp, hF, hob Fs ⟨r', hr'⟩⟩
      · exact hall i o' h ho'
    have htk : ∀ r (Fs : List DF), (∃ r', Fs = (acc ++ [(r, F)]) ++ r') → Fs.take acc.length = acc := fun r Fs ⟨r', h⟩ => by rw [h]; simp
    rcases hD with ⟨hD, hr⟩ | ⟨d, hn, href, hD, hr⟩
    · exact key o.dst hr fun Fs h => .inl ⟨rfl, by rw [htk _ _ h]; exact hD⟩
    · exact key (some d) hr fun Fs h => .inr ⟨hn, d, rfl, by rw [htk _ _ h]; exact href, by rw [htk _ _ h]; exact hD⟩

theorem countP_lt {p q : Nat → Bool} {i : Nat} : ∀ {l : List Nat}, i ∈ l → (∀ j, p j = true → q j = true) → q i = true → p i = false → l.countP p < l.countP q
  | x :: l, hi, hpq, hq, hp => by
    have hle : l.countP p ≤ l.countP q := List.countP_mono_left fun j _ => hpq j
    rw [List.countP_cons, List.countP_cons]
    by_cases hx : x = i
    · subst hx; rw [hq, hp]; simp; omega
    · have hi' : i ∈ l := by
        rcases List.mem_cons.1 hi with h | h
        · exact absurd h.symm hx
        · exact h
      have := countP_lt hi' hpq hq hp
      have h3 : (if p x = true then 1 else 0) ≤ (if q x = true then 1 else 0) := by
        by_cases h : p x = true
        · simp [h, hpq x h]
        · simp [h]
      omega

theorem does_wpOp {i : Nat} {o : Oper} {a : Act} {w : World} {R : VF} {K : Act → World → Prop} {Q : Exit → Act → World → Prop} (ho : ops[i]? = some o) (h : Does P ops o a w R)
    (hK : ∀ v w', R v w' → K (a.put o.dst v) w') : wpOp P ops Q i K a w := by
  have h1 := h (Mid Q K) (fun a2 w2 ⟨v, e, hr⟩ => .inl ⟨rfl, by rw [e]; exact hK v w2 hr⟩)
  unfold wpOp
  simp only [ho]
  unfold wpList at h1
  split
  · rename_i hw
    rw [if_pos hw] at h1
    rcases h1 with h1 | ⟨h1, a9, w9, h9⟩
    · refine .inl (wp_mid (K := wpList P ops (Mid Q K) []) (fun a w h => ?_) h1)
      rcases h with ⟨_, h⟩ | ⟨h, _⟩
      · exact h
      · exact absurd rfl h
    · refine .inr ⟨h1, a9, w9, ?_⟩
      rcases h9 with ⟨h, _⟩ | ⟨_, h⟩
      · cases h
      · exact h
  · rename_i hw
    rw [if_neg hw] at h1
    rcases h1 with ⟨_, h⟩ | ⟨h, _⟩
    · exact h
    · exact absurd rfl h

theorem wayI_any {Fs : List DF} {a0 : Act} {Q : Exit → Act → World → Prop} (hinv : invB ops a0.tmps.size = true) (htr : ∀ n a b c, T n a b → T 1 b c → T (n + 1) a c)
    (hst : ∀ i o, ops[i]? = some o → ∃ r F, Fs[i]? = some (r, F) ∧ (∀ n v w w', T n w w' → F v w → F v w') ∧
      ((r = o.dst ∧ ∀ n ys w, n < ops.size → T n w0 w → DepsOf (Fs.take i) ys o w → Does P ops o (putAll (dstsOf ops.toList) ys a0) w (fun v w' => T 1 w w' ∧ F v w')) ∨
       (o.dst = none ∧ ∃ d, r = some d ∧ refA (Fs.take i) o d = true ∧ ∀ n ys w, n < ops.size → T n w0 w → DepsOf (Fs.take i) ys o w → Does P ops o (putAll (dstsOf ops.toList) ys a0) w (fun v w' => T 1 w w' ∧ F (ys d) w'))))
    (hend : ∀ n ys w, n ≤ ops.size → T n w0 w → (∀ j, j < ops.size → FactAt Fs ys j w) → Q .normal (putAll (dstsOf ops.toList) ys a0) w) :
    ∀ (f : Nat) (listed : Array Bool) (a : Act) (w : World), WayI ops T w0 a0 Fs listed a w → (List.range ops.size).countP (fun i => !listed.getD i true) ≤ f → wpAny P .any ops Q f listed a w := by
  obtain ⟨hb1, hb2, hb3⟩ := invB_spec hinv
  have hfin : ∀ (listed : Array Bool) (a : Act) (w : World), WayI ops T w0 a0 Fs listed a w → Region.ready .any ops listed = [] → Q .normal a w := by
    intro listed a w inv hr
    have hall : ∀ i, i < ops.size → listed.getD i true = true := by
      intro i
      induction i using Nat.strongRecOn with
      | _ i ih =>
        intro hi
        cases hl : listed.getD i true with
        | true => rfl
        | false =>
          have ho := Array.getElem?_eq_getElem hi
          have : i ∈ Region.ready .any ops listed := mem_ready.2 ⟨hl, _, ho, fun e he hbe => by
            have h1 := hb2 i _ ho e he hbe
            have h2 := ih e.on h1 (by omega)
            have h3 : e.on < listed.size := by rw [inv.size]; omega
            simp [h3] at h2 ⊢
            exact h2⟩
          rw [hr] at this
          cases this
    obtain ⟨m, hm, hTm⟩ := inv.t
    have := hend m (fun t => a.tmps.getD t undef) w (by omega) hTm (fun j hj => inv.facts j (by
      have h2 := hall j hj
      have h3 : j < listed.size := by rw [inv.size]; exact hj
      simp [h3] at h2 ⊢
      exact h2))
    rwa [inv.act] at this
  have hstep : ∀ (listed : Array Bool) (a : Act) (w : World), WayI ops T w0 a0 Fs listed a w → ∀ i ∈ Region.ready .any ops listed, ∀ K : Act → World → Prop,
      (∀ a' w', WayI ops T w0 a0 Fs (listed.setIfInBounds i true) a' w' → K a' w') → wpOp P ops Q i K a w := by
    intro listed a w inv i hi K hK
    obtain ⟨hun, o, ho, hall⟩ := mem_ready.1 hi
    obtain ⟨r, F, hF, hsF, hD⟩ := hst i o ho
    have hlt : i < ops.size := (Array.getElem?_eq_some_iff.1 ho).1
    have hcnt := countP_lt (p := fun j => !(listed.setIfInBounds i true).getD j true) (q := fun j => !listed.getD j true) (i := i) (List.mem_range.2 hlt) (fun j hj => by
      by_cases hij : i = j
      · subst hij
        rw [hun]; rfl
      · rw [getD_set_ne true hij] at hj; exact hj) (by rw [hun]; rfl) (by
        have : i < listed.size := by rw [inv.size]; exact hlt
        simp [this])
    obtain ⟨m, hm, hTm⟩ := inv.t
    have hdeps : DepsOf (Fs.take i) (fun t => a.tmps.getD t undef) o w := depsGo_of fun e he hb f hf => by
      have h1 := hall e (by rw [Array.mem_toList_iff] at he; exact he) hb
      have h2 := hb2 i o ho e (by rw [Array.mem_toList_iff] at he; exact he) hb
      rw [List.getElem?_take_of_lt h2] at hf
      exact inv.facts e.on h1 f hf
    have hmem : ∀ d, o.dst = some d → d ∈ dstsOf ops.toList := fun d hd' => List.mem_filterMap.2 ⟨o, by rw [Array.mem_toList_iff]; exact Array.mem_of_getElem? ho, hd'⟩
    have hiset : (listed.setIfInBounds i true).getD i false = true := by
      have : i < listed.size := by rw [inv.size]; exact hlt
      simp [this]
    -- what the step leaves: the value in its place, the relation, what is said of it
    have next : ∀ v w', T 1 w w' → (∀ d, r = some d → F ((a.put o.dst v).tmps.getD d undef) w') → (r = none → ∃ u, F u w') →
        (∀ d, r = some d → ∃ (j' : Nat) (o' : Oper), (listed.setIfInBounds i true).getD j' false = true ∧ ops[j']? = some o' ∧ o'.dst = some d) →
        WayI ops T w0 a0 Fs (listed.setIfInBounds i true) (a.put o.dst v) w' := by
      intro v w' ht hv hv0 hw
      refine ⟨⟨m + 1, by omega, htr _ _ _ _ hTm ht⟩, by simp [inv.size], ?_, ?_, ?_, ?_, ?_⟩
      · rw [← inv.defers]; cases o.dst <;> rfl
      · rw [← inv.len]; cases o.dst <;> simp [Act.put]
      · intro t hn
        cases hod : o.dst with
        | none => exact inv.far t hn
        | some d =>
          have : d ≠ t := fun e => hn (e ▸ hmem d hod)
          simp only [Act.put]
          rw [Array.getElem?_setIfInBounds_ne this]
          exact inv.far t hn
      · intro j hj
        by_cases hij : i = j
        · subst hij
          intro f hf
          rw [hF] at hf
          cases hf
          show DF.holds _ _ _
          unfold DF.holds
          cases r with
          | none => exact hv0 rfl
          | some d => exact hv d rfl
        · rw [getD_set_ne false hij] at hj
          intro f hf
          have h3 := inv.facts j hj f hf
          have hjs : j < ops.size := by
            rcases Nat.lt_or_ge j listed.size with h | h
            · rw [inv.size] at h; exact h
            · simp [Array.getElem?_eq_none h] at hj
          obtain ⟨oj, hoj⟩ : ∃ oj, ops[j]? = some oj := ⟨_, Array.getElem?_eq_getElem hjs⟩
          obtain ⟨r', F', hF', hsF', _⟩ := hst j oj hoj
          rw [hf] at hF'
          cases hF'
          unfold DF.holds at h3 ⊢
          cases r' with
          | none =>
            obtain ⟨u, hu⟩ := h3
            exact ⟨u, hsF' _ _ _ _ ht hu⟩
          | some d =>
            obtain ⟨j', o', hj', ho', hd'⟩ := inv.whose j hj _ d hf rfl
            have hne : o.dst ≠ some d := hb3 j' i o' o d ho' ho (fun e => by
              rw [e] at hj'
              have : i < listed.size := by rw [inv.size]; exact hlt
              simp [this] at hun hj'
              rw [hun] at hj'
              cases hj') hd'
            have : (a.put o.dst v).tmps.getD d undef = a.tmps.getD d undef := by
              cases hod : o.dst with
              | none => rfl
              | some d' =>
                have : d' ≠ d := fun e => hne (by rw [hod, e])
                simp [Act.put, Array.getElem?_setIfInBounds_ne this]
            show F' _ _
            simp only [this]
            exact hsF' _ _ _ _ ht h3
      · intro j hj f d hf hfd
        by_cases hij : i = j
        · subst hij
          rw [hF] at hf
          cases hf
          exact hw d hfd
        · rw [getD_set_ne false hij] at hj
          obtain ⟨j', o', hj', ho', hd'⟩ := inv.whose j hj f d hf hfd
          exact ⟨j', o', getD_set_true hj', ho', hd'⟩
    rcases hD with ⟨hrd, hD⟩ | ⟨hon, d, hrd, href, hD⟩
    · have hd := hD m (fun t => a.tmps.getD t undef) w (by omega) hTm hdeps
      rw [inv.act] at hd
      refine does_wpOp ho hd fun v w' ⟨ht, hv⟩ => hK _ _ (next v w' ht (fun d hd' => ?_) (fun _ => ⟨v, hv⟩) (fun d hd' => ⟨i, o, hiset, ho, by rw [← hrd]; exact hd'⟩))
      have hod : o.dst = some d := by rw [← hrd]; exact hd'
      have hlt : d < a.tmps.size := by rw [inv.len]; exact hb1 i o d ho hod
      simpa [hod, Act.put, hlt] using hv
    · have hd := hD m (fun t => a.tmps.getD t undef) w (by omega) hTm hdeps
      rw [inv.act] at hd
      refine does_wpOp ho hd fun v w' ⟨ht, hv⟩ => hK _ _ (next v w' ht (fun d' hd' => ?_) (fun h => by rw [hrd] at h; cases h) (fun d' hd' => ?_))
      · rw [hrd] at hd'
        cases hd'
        rw [hon]
        exact hv
      · rw [hrd] at hd'
        cases hd'
        obtain ⟨e, he, hb, f, hf, hfd⟩ := refA_spec href
        have h1 := hall e he hb
        have h2 := hb2 i o ho e he hb
        rw [List.getElem?_take_of_lt h2] at hf
        obtain ⟨j', o', hj', ho', hd'⟩ := inv.whose e.on h1 f d hf hfd
        exact ⟨j', o', getD_set_true hj', ho', hd'⟩
  intro f
  induction f with
  | zero =>
    intro listed a w inv hc
    have hr : Region.ready .any ops listed = [] := by
      rw [List.eq_nil_iff_forall_not_mem]
      intro i hi
      obtain ⟨hun, o, ho, _⟩ := mem_ready.1 hi
      have h1 : (List.range ops.size).countP (fun i => !listed.getD i true) = 0 := by omega
      rw [List.countP_eq_zero] at h1
      have := h1 i (List.mem_range.2 (Array.getElem?_eq_some_iff.1 ho).1)
      rw [hun] at this
      exact this rfl
    exact ⟨hr, hfin _ _ _ inv hr⟩
  | succ f ih =>
    intro listed a w inv hc
    refine ⟨hfin _ _ _ inv, fun i hi => hstep listed a w inv i hi _ fun a' w' inv' => ih _ _ _ inv' ?_⟩
    obtain ⟨hun, o, ho, _⟩ := mem_ready.1 hi
    have hlt : i < ops.size := (Array.getElem?_eq_some_iff.1 ho).1
    have := countP_lt (p := fun j => !(listed.setIfInBounds i true).getD j true) (q := fun j => !listed.getD j true) (i := i) (List.mem_range.2 hlt) (fun j hj => by
      by_cases hij : i = j
      · subst hij
        rw [hun]; rfl
      · rw [getD_set_ne true hij] at hj; exact hj) (by rw [hun]; rfl) (by
        have : i < listed.size := by rw [inv.size]; exact hlt
        simp [this])
    omega

def AllF : List DF → (Nat → Value) → World → Prop
  | f :: acc, ys, w => f.holds ys w ∧ AllF acc ys w
  | [], _, _ => True
theorem allF_of : ∀ (Fs : List DF) (ys : Nat → Value) (w : World), (∀ j, j < Fs.length → FactAt Fs ys j w) → AllF Fs ys w
  | [], ys, w, h => trivial
  | F :: Fs, ys, w, h => ⟨h 0 (by simp) F (by simp), allF_of Fs ys w fun j hj f hf => h (j + 1) (by simp; omega) f (by simpa using hf)⟩

theorem wp_region_inv (T : Nat → World → World → Prop) {id : Nat} {Q : Exit → Act → World → Prop} {a0 : Act} {w : World} {l : List Oper} (hm : P.follows .mixedOrders = true) (hinv : invB l.toArray a0.tmps.size = true)
    (htr : ∀ n a b c, T n a b → T 1 b c → T (n + 1) a c) (hT : T 0 w { w with drawn := w.drawn + 1 })
    (h : ∃ B : (Nat → Value) → Act, (∀ ys, putAll (dstsOf l) ys a0 = B ys) ∧ ∀ (ops : Array Oper) (K : List DF → Prop),
      (∀ Fs, (∀ n ys w', n ≤ 100 → T n w w' → AllF Fs ys w' → Q .normal (B ys) w') → K Fs) → LexI P ops 100 T w B K [] l) (hN : l.length ≤ 100 := by decide) : (Code.region id l.toArray true).wp P Q a0 w := by
  obtain ⟨B, hB, h⟩ := h
  obtain ⟨Fs, hK, _, hFl, hall⟩ := lexI_facts (ops := l.toArray) (T := T) (w0 := w) (P := P) l [] (h l.toArray (fun Fs => ∀ n ys w', n ≤ 100 → T n w w' → AllF Fs ys w' → Q .normal (B ys) w') (fun Fs h => h)) (fun j hj => by simp) (by simp)
  have hB' : ∀ ys, putAll (dstsOf l.toArray.toList) ys a0 = B ys := by simpa using hB
  refine wp_region_any hm (wayI_any (T := T) (w0 := w) (Fs := Fs) hinv htr (fun i o ho => by
      simp only [hB']
      obtain ⟨r, F, h1, h2, h3⟩ := hall i o (Nat.zero_le _) ho
      refine ⟨r, F, h1, h2, ?_⟩
      rcases h3 with ⟨h3, h4⟩ | ⟨h3, d, h4, h5, h6⟩
      · exact .inl ⟨h3, fun n ys w hn => h4 n ys w (by simp at hn; omega)⟩
      · exact .inr ⟨h3, d, h4, h5, fun n ys w hn => h6 n ys w (by simp at hn; omega)⟩) (fun n ys w' hn ht hf => by rw [hB']; exact hK n ys w' (by simp at hn; omega) ht (allF_of Fs ys w' (fun j hj => hf j (by rw [← hFl]; exact hj)))) _ _ _ _
    ⟨⟨0, by have := List.countP_le_length (p := fun i => !(Array.replicate l.toArray.size false).getD i true) (l := List.range l.toArray.size); simpa using this, hT⟩, by simp, rfl, rfl, fun _ _ => rfl, fun j (hj : (Array.replicate l.toArray.size false).getD j false = true) => (by rw [getD_replicate_false] at hj; cases hj), fun j (hj : (Array.replicate l.toArray.size false).getD j false = true) => (by rw [getD_replicate_false] at hj; cases hj)⟩ ?_)
  exact Nat.le_trans (List.countP_le_length) (by simp)

section
variable {N : Nat} {B : (Nat → Value) → Act} {K : List DF → Prop} {acc : List DF} {o : Oper} {l : List Oper}
theorem LexI.const (hr : ∀ w, T 1 w w)
    (h : ∃ c : Value, (∀ n ys w, n < N → T n w0 w → DepsOf acc ys o w → Does P ops o (B ys) w (fun v w' => w = w' ∧ v = c)) ∧
      LexI P ops N T w0 B K (acc ++ [(o.dst, fun v _ => v = c)]) l) : LexI P ops N T w0 B K acc (o :: l) :=
  let ⟨c, h, k⟩ := h
  ⟨fun v _ => v = c, fun _ _ _ _ _ h => h, .inl ⟨fun n ys w hn ht hd Q2 hQ2 => h n ys w hn ht hd Q2 fun a2 w2 ⟨v, e, hw, hv⟩ => hQ2 a2 w2 ⟨v, e, by rw [← hw]; exact hr w, hv⟩, k⟩⟩
theorem LexI.some (F : VF) (hF : ∀ n v w w', T n w w' → F v w → F v w')
    (h : ∀ n ys w, n < N → T n w0 w → DepsOf acc ys o w → Does P ops o (B ys) w (fun v w' => T 1 w w' ∧ F v w'))
    (k : LexI P ops N T w0 B K (acc ++ [(o.dst, F)]) l) : LexI P ops N T w0 B K acc (o :: l) := ⟨F, hF, .inl ⟨h, k⟩⟩
theorem LexI.ref (d : Tmp) (F : VF) (hF : ∀ n v w w', T n w w' → F v w → F v w') (hn : o.dst = none) (hr : refA acc o d = true)
    (h : ∀ n ys w, n < N → T n w0 w → DepsOf acc ys o w → Does P ops o (B ys) w (fun v w' => T 1 w w' ∧ F (ys d) w'))
    (k : LexI P ops N T w0 B K (acc ++ [(Option.some d, F)]) l) : LexI P ops N T w0 B K acc (o :: l) := ⟨F, hF, .inr ⟨d, hn, hr, h, k⟩⟩
end
end
end Go.Proofs.Ytgnjknihgjdedaa
