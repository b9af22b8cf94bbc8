/- TopCounted 11: DrawT, HdG. -/
import Derived.Test.YtgnjknihgjdedaaTc05
import Derived.Test.YtgnjknihgjdedaaTc10
namespace Go.Proofs.Ytgnjknihgjdedaa
set_option linter.unusedVariables false
section
variable {P : Program} {ops : Array Oper} {T : Nat → World → World → Prop} {Pk : Nat → World → Prop}

def reachB (ops : Array Oper) : Nat → Nat → Nat → Bool
  | 0, _, _ => false
  | f + 1, a, b => match ops[a]? with
    | some o => o.after.toList.any fun e => Region.binds .any e && (e.on == b || reachB ops f e.on b)
    | none => false
theorem reach_listed {n : Nat} {listed : Array Bool} (inv : HeadInv .any ops n listed) : ∀ (f a b : Nat), reachB ops f a b = true → (∀ o, ops[a]? = some o → ∀ e ∈ o.after, Region.binds .any e = true → listed.getD e.on false = true) → listed.getD b false = true
  | 0, a, b, h, _ => by simp [reachB] at h
  | f + 1, a, b, h, ha => by
    unfold reachB at h
    split at h
    · rename_i o ho
      obtain ⟨e, he, h2⟩ := List.any_eq_true.1 h
      simp only [Bool.and_eq_true, Bool.or_eq_true, beq_iff_eq] at h2
      have he' : e ∈ o.after := by rw [Array.mem_toList_iff] at he; exact he
      have h3 := ha o ho e he' h2.1
      rcases h2.2 with h4 | h4
      · rw [← h4]; exact h3
      · exact reach_listed inv f e.on b h4 (fun o' ho' e' he2 hb' => inv.closed e.on o' ho' h3 e' he2 hb')
    · cases h
def bef (tg : List Nat) (rl : List (Nat × Nat)) (j k : Nat) : Prop := j ≠ 0 ∧ k ≠ 0 ∧ ∃ x ∈ rl, tg[x.1]? = some j ∧ tg[x.2]? = some k
def LexT (P : Program) (ops : Array Oper) (T : Nat → World → World → Prop) (Pk : Nat → World → Prop) (gl : List Nat) (ks : Nat) (bf : Nat → Nat → Prop) (B : (Nat → Value) → Act) (K : List DF → Prop) : List DF → List Nat → List Oper → Prop
  | acc, _, [] => K acc
  | acc, [], _ :: _ => False
  | acc, k :: tg, o :: l => ∃ F : VF, (∀ j v w w', (j ≠ k ∨ k = 0) → ¬ bf k j → T j w w' → F v w → F v w') ∧
      (∀ ys w, Pk 0 w → Pk k w → (acc.length ∈ gl → Pk ks w) → DepsOf acc ys o w → Does P ops o (B ys) w (fun v w' => T k w w' ∧ F v w')) ∧ LexT P ops T Pk gl ks bf B K (acc ++ [(o.dst, F)]) tg l

def tagsB (tg : List Nat) : Bool := (List.range tg.length).all fun i => (List.range i).all fun j => tg.getD i 0 != tg.getD j 0 || tg.getD i 0 == 0
theorem tagsB_spec {tg : List Nat} (h : tagsB tg = true) {i j k : Nat} (hi : tg[i]? = some k) (hj : tg[j]? = some k) (hne : i ≠ j) : k = 0 := by
  have key : ∀ i j : Nat, j < i → tg[i]? = some k → tg[j]? = some k → k = 0 := fun i j hlt hi hj => by
    have h1 := List.all_eq_true.1 h i (List.mem_range.2 (List.getElem?_eq_some_iff.1 hi).1)
    have h2 := List.all_eq_true.1 h1 j (List.mem_range.2 hlt)
    rw [List.getD_eq_getElem?_getD, List.getD_eq_getElem?_getD, hi, hj] at h2
    simpa using h2
  rcases Nat.lt_or_gt_of_ne hne with h | h
  · exact key j i h hj hi
  · exact key i j h hi hj

def headDone (n s : Nat) : Array Bool := ((List.range s).map fun j => decide (j < n)).toArray
def tagTailB (ops : Array Oper) (n : Nat) : Bool :=
  Region.noSelect ops && decide (n < ops.size) && Region.sinkB .any ops n && Region.chainB .any ops n && Region.seqB .any ops (ops.size - n) n (headDone n ops.size)

theorem lexT_facts {gl : List Nat} {ks : Nat} {bf : Nat → Nat → Prop} {B : (Nat → Value) → Act} {K : List DF → Prop} : ∀ (l : List Oper) (tg : List Nat) (acc : List DF) (full : List Nat), LexT P ops T Pk gl ks bf B K acc tg l → (∀ j, j < l.length → l[j]? = ops[acc.length + j]?) → (∀ j, tg[j]? = full[acc.length + j]?) →
    ∃ Fs : List DF, K Fs ∧ (∃ r, Fs = acc ++ r) ∧ Fs.length = acc.length + l.length ∧ ∀ i o, acc.length ≤ i → i < acc.length + l.length → ops[i]? = some o → ∃ k F, full[i]? = some k ∧ Fs[i]? = some (o.dst, F) ∧ (∀ j v w w', (j ≠ k ∨ k = 0) → ¬ bf k j → T j w w' → F v w → F v w') ∧
      ∀ ys w, Pk 0 w → Pk k w → (i ∈ gl → Pk ks w) → DepsOf (Fs.take i) ys o w → Does P ops o (B ys) w (fun v w' => T k w w' ∧ F v w')
  | [], tg, acc, full, h, hl, ht => ⟨acc, by cases tg <;> exact h, ⟨[], by simp⟩, by simp, fun i o hi hi2 ho => by simp at hi2; omega⟩
  | o :: l, [], acc, full, h, hl, ht => h.elim
  | o :: l, k :: tg, acc, full, ⟨F, hF, hD, hr⟩, hl, ht => by
    obtain ⟨Fs, hK, ⟨r', hr'⟩, hFl, hall⟩ := lexT_facts l tg (acc ++ [(o.dst, F)]) full hr (fun j hj => by
      have := hl (j + 1) (by simp; omega)
      simpa [Nat.add_assoc, Nat.add_comm 1 j] using this) (fun j => by
      have := ht (j + 1)
      simpa [Nat.add_assoc, Nat.add_comm 1 j] using this)
    refine ⟨Fs, hK, ⟨(o.dst, F) :: r', by rw [hr']; simp⟩, by rw [hFl]; simp; omega, fun i o' hi hi2 ho' => ?_⟩
    rcases Nat.lt_or_ge i (acc ++ [(o.dst, F)]).length with h | h
    · have hia : i = acc.length := by simp at h; omega
      subst hia
      have ho : o = o' := by
        have := hl 0 (by simp)
        simp at this
        rw [ho'] at this
        exact Option.some.inj this
      subst ho
      refine ⟨k, F, by have := ht 0; simpa using this.symm, by rw [hr']; simp, hF, ?_⟩
      rw [hr']
      simpa using hD
    · exact hall i o' h (by simp at hi2 ⊢; omega) ho'

structure WayT (ops : Array Oper) (n : Nat) (Pk : Nat → World → Prop) (a0 : Act) (Fs : List DF) (tg : List Nat) (listed : Array Bool) (a : Act) (w : World) : Prop where
  inv : HeadInv .any ops n listed
  p0 : Pk 0 w
  pk : ∀ i k, i < n → listed.getD i true = false → tg[i]? = some k → Pk k w
  defers : a.defers = a0.defers
  len : a.tmps.size = a0.tmps.size
  far : ∀ t, t ∉ dstsOf (ops.toList.take n) → a.tmps[t]? = a0.tmps[t]?
  facts : ∀ j, listed.getD j false = true → FactAt Fs (fun t => a.tmps.getD t undef) j w

theorem WayT.act {n : Nat} {a0 : Act} {Fs : List DF} {tg : List Nat} {listed : Array Bool} {a : Act} {w : World} (h : WayT ops n Pk a0 Fs tg listed a w) :
    putAll (dstsOf (ops.toList.take n)) (fun t => a.tmps.getD t undef) a0 = a := by
  have h1 := putAll_defers (dstsOf (ops.toList.take n)) (fun t => a.tmps.getD t undef) a0
  have h2 : (putAll (dstsOf (ops.toList.take n)) (fun t => a.tmps.getD t undef) a0).tmps = a.tmps := by
    apply Array.ext_getElem?
    intro t
    rcases Nat.lt_or_ge t a0.tmps.size with ht | ht
    · rw [putAll_get _ _ _ _ ht]
      have ht' : t < a.tmps.size := by rw [h.len]; exact ht
      split
      · simp [ht']
      · rename_i hn; rw [h.far t hn]
    · rw [Array.getElem?_eq_none (by rw [putAll_size]; exact ht), Array.getElem?_eq_none (by rw [h.len]; exact ht)]
  generalize putAll (dstsOf (ops.toList.take n)) (fun t => a.tmps.getD t undef) a0 = b at *
  cases b; cases a
  have h3 := h.defers
  dsimp only at h1 h2 h3
  rw [h1, h2, h3]

theorem wpAny_up {md : Region.Mode} {Q : Exit → Act → World → Prop} (k : Nat) : ∀ (f : Nat) (listed : Array Bool) (a : Act) (w : World), wpAny P md ops Q f listed a w → wpAny P md ops Q (f + k) listed a w
  | 0, listed, a, w, h => by
    cases k with
    | zero => exact h
    | succ k => exact ⟨fun _ => h.2, fun i hi => by rw [h.1] at hi; cases hi⟩
  | f + 1, listed, a, w, h => by
    rw [show f + 1 + k = (f + k) + 1 by omega]
    exact ⟨h.1, fun i hi => wpOp_mono (fun a' w' h' => wpAny_up k f _ a' w' h') (h.2 i hi)⟩

theorem wayT_any {gl : List Nat} {ks s0 : Nat} {rl : List (Nat × Nat)} {fu : Nat} {n : Nat} {Fs : List DF} {tg : List Nat} {a0 : Act} {Q : Exit → Act → World → Prop} (hinv : invB ops a0.tmps.size = true) (hB : tagTailB ops n = true) (htg : tagsB tg = true) (hs0 : s0 < n) (hks : gl = [] ∨ tg[s0]? = some ks) (hgl : gl.all (fun i => Region.waitsFor .any ops s0 i) = true) (hrl : rl.all (fun x => reachB ops fu x.1 x.2) = true)
    (hP : ∀ k j w w', (j ≠ k ∨ k = 0) → ¬ bef tg rl j k → T j w w' → Pk k w → Pk k w')
    (hst : ∀ i o, i < n → ops[i]? = some o → ∃ k F, tg[i]? = some k ∧ Fs[i]? = some (o.dst, F) ∧ (∀ j v w w', (j ≠ k ∨ k = 0) → ¬ bef tg rl k j → T j w w' → F v w → F v w') ∧
      ∀ ys w, Pk 0 w → Pk k w → (i ∈ gl → Pk ks w) → DepsOf (Fs.take i) ys o w → Does P ops o (putAll (dstsOf (ops.toList.take n)) ys a0) w (fun v w' => T k w w' ∧ F v w'))
    (hend : ∀ ys w, Pk 0 w → (∀ j, j < n → FactAt Fs ys j w) → wpList P ops Q (ops.toList.drop n) (putAll (dstsOf (ops.toList.take n)) ys a0) w) :
    ∀ (f : Nat) (listed : Array Bool) (a : Act) (w : World), WayT ops n Pk a0 Fs tg listed a w → (List.range n).countP (fun i => !listed.getD i true) ≤ f → wpAny P .any ops Q (f + (ops.size - n)) listed a w := by
  obtain ⟨hb1, hb2, hb3⟩ := invB_spec hinv
  simp only [tagTailB, Bool.and_eq_true, decide_eq_true_eq] at hB
  obtain ⟨⟨⟨⟨hsel, hn⟩, hs⟩, hc⟩, hseq⟩ := hB
  have hfin : ∀ (f : Nat) (listed : Array Bool) (a : Act) (w : World), WayT ops n Pk a0 Fs tg listed a w → (∀ i, i < n → listed.getD i true = true) → wpAny P .any ops Q (f + (ops.size - n)) listed a w := by
    intro f listed a w inv hall
    have hl : listed = headDone n ops.size := by
      apply Array.ext_getElem?
      intro j
      rw [show (headDone n ops.size)[j]? = ((List.range ops.size).map fun j => decide (j < n))[j]? by unfold headDone; simp, List.getElem?_map]
      rcases Nat.lt_or_ge j ops.size with hj | hj
      · have hjl : j < listed.size := by rw [inv.inv.size]; exact hj
        rw [List.getElem?_range hj, Array.getElem?_eq_getElem hjl]
        rcases Nat.lt_or_ge j n with hjn | hjn
        · have := hall j hjn
          simp [hjl] at this
          simp [hjn, this]
        · have := inv.inv.tail j hjn hj
          simp [hjl] at this
          simp [Nat.not_lt.2 hjn, this]
      · rw [Array.getElem?_eq_none (by rw [inv.inv.size]; exact hj), List.getElem?_eq_none (by simpa using hj)]
        rfl
    have hlen : (ops.toList.drop n).length = ops.size - n := by simp
    have h1 := hend (fun t => a.tmps.getD t undef) w inv.p0 (fun j hj => inv.facts j (by
      have h2 := hall j hj
      have h3 : j < listed.size := by rw [inv.inv.size]; omega
      simp [h3] at h2 ⊢
      exact h2))
    rw [inv.act] at h1
    have h2 := wpAny_of_seq (md := .any) (Q' := Q) (ops.toList.drop n) n listed a w (fun j => by simp [List.getElem?_drop]) (by rw [hlen, hl]; exact hseq) h1
    rw [hlen] at h2
    have h3 := wpAny_up f _ _ _ _ h2
    rwa [Nat.add_comm] at h3
  have hstep : ∀ (listed : Array Bool) (a : Act) (w : World), WayT ops n Pk a0 Fs tg listed a w → ∀ i ∈ Region.ready .any ops listed, i < n → ∀ K : Act → World → Prop,
      (∀ a' w', WayT ops n Pk a0 Fs tg (listed.setIfInBounds i true) a' w' → K a' w') → wpOp P ops Q i K a w := by
    intro listed a w inv i hi hin K hK
    obtain ⟨hun, o, ho, hall⟩ := mem_ready.1 hi
    obtain ⟨k, F, hk, hF, hsF, hD⟩ := hst i o hin ho
    have hlt : i < ops.size := (Array.getElem?_eq_some_iff.1 ho).1
    have hdeps : DepsOf (Fs.take i) (fun t => a.tmps.getD t undef) o w := depsGo_of fun e he hb f hf => by
      have h1 := hall e (by rw [Array.mem_toList_iff] at he; exact he) hb
      have h2 := hb2 i o ho e (by rw [Array.mem_toList_iff] at he; exact he) hb
      rw [List.getElem?_take_of_lt h2] at hf
      exact inv.facts e.on h1 f hf
    have hmem : ∀ d, o.dst = some d → d ∈ dstsOf (ops.toList.take n) := fun d hd' => List.mem_filterMap.2 ⟨o, by
      rw [List.mem_take_iff_getElem]
      have hz : i < ops.toList.length := by simpa using hlt
      refine ⟨i, by omega, ?_⟩
      have := (Array.getElem?_eq_some_iff.1 ho).2
      simpa using this, hd'⟩
    have hguard : i ∈ gl → Pk ks w := fun hg => by
      have hk0 : tg[s0]? = some ks := by
        rcases hks with h | h
        · rw [h] at hg; cases hg
        · exact h
      obtain ⟨os, hos, e, he, hb, hon⟩ := Region.waitsFor_spec (List.all_eq_true.1 hgl i hg)
      have hss : s0 < listed.size := by rw [inv.inv.size]; exact (Array.getElem?_eq_some_iff.1 hos).1
      refine inv.pk s0 ks hs0 (getD_in hss ?_) hk0
      cases hl : listed.getD s0 false with
      | false => rfl
      | true =>
        have h2 := inv.inv.closed s0 os hos hl e he hb
        rw [hon, getD_both hun] at h2
        cases h2
    have hd := hD (fun t => a.tmps.getD t undef) w inv.p0 (inv.pk i k hin hun hk) hguard hdeps
    rw [inv.act] at hd
    refine does_wpOp ho hd fun v w' ⟨ht, hv⟩ => hK _ _ ⟨inv.inv.set hi hin, hP 0 k w w' (.inr rfl) (fun h => h.2.1 rfl) ht inv.p0, ?_, ?_, ?_, ?_, ?_⟩
    · intro i' k' hi' hun' hk'
      have hne : i ≠ i' := fun e => by
        subst e
        have h3 : i < listed.size := by rw [inv.inv.size]; exact hlt
        simp [h3] at hun'
      rw [getD_set_ne true hne] at hun'
      refine hP k' k w w' ?_ (fun hbf => ?_) ht (inv.pk i' k' hi' hun' hk')
      rotate_left
      · obtain ⟨n1, n2, x, hx, hx1, hx2⟩ := hbf
        have e1 : x.1 = i := Classical.byContradiction fun hne' => n1 (tagsB_spec htg hx1 hk hne')
        have e2 : x.2 = i' := Classical.byContradiction fun hne' => n2 (tagsB_spec htg hx2 hk' hne')
        have h3 := reach_listed inv.inv fu x.1 x.2 (List.all_eq_true.1 hrl x hx) (fun o' ho' e' he' hb' => by
          rw [e1, ho] at ho'
          cases ho'
          exact hall e' he' hb')
        rw [e2, getD_both hun'] at h3
        cases h3
      by_cases e : k = k'
      · subst e; exact .inr (tagsB_spec htg hk hk' hne)
      · exact .inl e
    · rw [← inv.defers]; cases o.dst <;> rfl
    · rw [← inv.len]; cases o.dst <;> simp [Act.put]
    · intro t hn'
      cases hod : o.dst with
      | none => exact inv.far t hn'
      | some d =>
        have : d ≠ t := fun e => hn' (e ▸ hmem d hod)
        simp only [Act.put]
        rw [Array.getElem?_setIfInBounds_ne this]
        exact inv.far t hn'
    · intro j hj
      by_cases hij : i = j
      · subst hij
        intro f hf
        rw [hF] at hf
        cases hf
        show DF.holds _ _ _
        unfold DF.holds
        cases hod : o.dst with
        | none => exact ⟨v, hv⟩
        | some d =>
          have hld : d < a.tmps.size := by rw [inv.len]; exact hb1 i o d ho hod
          simpa [hod, Act.put, hld] using hv
      · rw [getD_set_ne false hij] at hj
        intro f hf
        have h3 := inv.facts j hj f hf
        have hjs : j < listed.size := by
          rcases Nat.lt_or_ge j listed.size with h | h
          · exact h
          · simp [Array.getElem?_eq_none h] at hj
        have hjn : j < n := by
          rcases Nat.lt_or_ge j n with h | h
          · exact h
          · have := inv.inv.tail j h (by rw [← inv.inv.size]; exact hjs)
            simp [hjs] at this hj
            rw [hj] at this; cases this
        obtain ⟨oj, hoj⟩ : ∃ oj, ops[j]? = some oj := ⟨_, Array.getElem?_eq_getElem (by rw [← inv.inv.size]; exact hjs)⟩
        obtain ⟨k', F', hk', hF', hsF', _⟩ := hst j oj hjn hoj
        rw [hf] at hF'
        cases hF'
        have hcond : k ≠ k' ∨ k' = 0 := by
          by_cases e : k = k'
          · subst e; exact .inr (tagsB_spec htg hk hk' hij)
          · exact .inl e
        have hnb : ¬ bef tg rl k' k := fun hbf => by
          obtain ⟨n1, n2, x, hx, hx1, hx2⟩ := hbf
          have e1 : x.1 = j := Classical.byContradiction fun hne' => n1 (tagsB_spec htg hx1 hk' hne')
          have e2 : x.2 = i := Classical.byContradiction fun hne' => n2 (tagsB_spec htg hx2 hk hne')
          have h4 := reach_listed inv.inv fu x.1 x.2 (List.all_eq_true.1 hrl x hx) (fun o' ho' e' he' hb' => by
            rw [e1] at ho'
            exact inv.inv.closed j o' ho' hj e' he' hb')
          rw [e2, getD_both hun] at h4
          cases h4
        unfold DF.holds at h3 ⊢
        cases hod : oj.dst with
        | none =>
          simp only [hod] at h3 ⊢
          obtain ⟨u, hu⟩ := h3
          exact ⟨u, hsF' _ _ _ _ hcond hnb ht hu⟩
        | some d =>
          simp only [hod] at h3 ⊢
          have hne : o.dst ≠ some d := hb3 j i oj o d hoj ho (fun e => hij e.symm) hod
          have : (a.put o.dst v).tmps.getD d undef = a.tmps.getD d undef := by
            cases hod' : o.dst with
            | none => rfl
            | some d' =>
              have : d' ≠ d := fun e => hne (by rw [hod', e])
              simp [Act.put, Array.getElem?_setIfInBounds_ne this]
          rw [this]
          exact hsF' _ _ _ _ hcond hnb ht h3
  intro f
  induction f with
  | zero =>
    intro listed a w inv hc0
    refine hfin 0 listed a w inv fun i hi => ?_
    have h1 : (List.range n).countP (fun i => !listed.getD i true) = 0 := by omega
    rw [List.countP_eq_zero] at h1
    have := h1 i (List.mem_range.2 hi)
    simpa using this
  | succ f ih =>
    intro listed a w inv hcf
    by_cases hall : ∀ i, i < n → listed.getD i true = true
    · exact hfin (f + 1) listed a w inv hall
    · -- the least that is left is ready
      have hex : ∃ i, i < n ∧ listed.getD i true = false := by
        apply Classical.byContradiction
        intro hno
        exact hall fun i hi => by
          cases h : listed.getD i true with
          | true => rfl
          | false => exact absurd ⟨i, hi, h⟩ hno
      have hleast : ∃ i, i < n ∧ listed.getD i true = false ∧ ∀ j, j < i → listed.getD j true = true := by
        obtain ⟨i, hi⟩ := hex
        revert hi
        induction i using Nat.strongRecOn with
        | _ i ihh =>
          intro hi
          by_cases h : ∀ j, j < i → listed.getD j true = true
          · exact ⟨i, hi.1, hi.2, h⟩
          · have : ∃ j, j < i ∧ listed.getD j true = false := by
              apply Classical.byContradiction
              intro hno
              exact h fun j hj => by
                cases h' : listed.getD j true with
                | true => rfl
                | false => exact absurd ⟨j, hj, h'⟩ hno
            obtain ⟨j, hj, hj2⟩ := this
            exact ihh j hj ⟨by omega, hj2⟩
      obtain ⟨i0, h1, h2, h3⟩ := hleast
      have ho0 : ops[i0]? = some ops[i0] := Array.getElem?_eq_getElem (by omega)
      have hr0 : i0 ∈ Region.ready .any ops listed := mem_ready.2 ⟨h2, _, ho0, fun e he hbe => by
        have h4 := hb2 i0 _ ho0 e he hbe
        have h5 := h3 e.on h4
        have h6 : e.on < listed.size := by rw [inv.inv.size]; omega
        simp [h6] at h5 ⊢
        exact h5⟩
      rw [show f + 1 + (ops.size - n) = (f + (ops.size - n)) + 1 by omega]
      refine ⟨fun h => (by rw [h] at hr0; cases hr0), fun i hi => ?_⟩
      have hin : i < n := by
        rcases Nat.lt_or_ge i n with h | h
        · exact h
        · exact absurd hi (tail_waits hs hc hn inv.inv _ i0 rfl h1 h2 i h)
      refine hstep listed a w inv i hi hin _ fun a' w' inv' => ih _ _ _ inv' ?_
      obtain ⟨hun, o, ho, _⟩ := mem_ready.1 hi
      have hlt : i < ops.size := (Array.getElem?_eq_some_iff.1 ho).1
      have := countP_lt (p := fun j => !(listed.setIfInBounds i true).getD j true) (q := fun j => !listed.getD j true) (i := i) (List.mem_range.2 hin) (fun j hj => by
        by_cases hij : i = j
        · subst hij
          rw [hun]; rfl
        · rw [getD_set_ne true hij] at hj; exact hj) (by rw [hun]; rfl) (by
        have : i < listed.size := by rw [inv.inv.size]; exact hlt
        simp [this])
      omega

theorem wp_region_tag (n s0 ks : Nat) (gl : List Nat) (rl : List (Nat × Nat)) (fu : Nat) (T : Nat → World → World → Prop) (Pk : Nat → World → Prop) (tg : List Nat) {id : Nat} {Q : Exit → Act → World → Prop} {a0 : Act} {w : World} {l : List Oper} (hm : P.follows .mixedOrders = true) (hinv : invB l.toArray a0.tmps.size = true)
    (hB : tagTailB l.toArray n = true) (htg : tagsB tg = true) (hs0 : s0 < n) (hks : gl = [] ∨ tg[s0]? = some ks) (hgl : gl.all (fun i => Region.waitsFor .any l.toArray s0 i) = true) (hrl : rl.all (fun x => reachB l.toArray fu x.1 x.2) = true)
    (hP : ∀ k j w w', (j ≠ k ∨ k = 0) → ¬ bef tg rl j k → T j w w' → Pk k w → Pk k w') (h0 : ∀ k, Pk k { w with drawn := w.drawn + 1 })
    (h : ∃ B : (Nat → Value) → Act, (∀ ys, putAll (dstsOf (l.take n)) ys a0 = B ys) ∧ ∀ (ops : Array Oper) (K : List DF → Prop),
      (∀ Fs, (∀ ys w', Pk 0 w' → AllF Fs ys w' → wpList P ops Q (l.drop n) (B ys) w') → K Fs) → LexT P ops T Pk gl ks (bef tg rl) B K [] tg (l.take n)) : (Code.region id l.toArray true).wp P Q a0 w := by
  obtain ⟨B, hB', h⟩ := h
  have hB2 := hB
  simp only [tagTailB, Bool.and_eq_true, decide_eq_true_eq] at hB2
  have hn : n < l.length := by simpa using hB2.1.1.1.2
  have htl : (l.take n).length = n := by simp; omega
  obtain ⟨Fs, hK, _, hFl, hall⟩ := lexT_facts (ops := l.toArray) (T := T) (Pk := Pk) (P := P) (l.take n) tg [] tg (h l.toArray (fun Fs => ∀ ys w', Pk 0 w' → AllF Fs ys w' → wpList P l.toArray Q (l.drop n) (B ys) w') (fun Fs h => h)) (fun j hj => by
    have hj' : j < n := by rw [htl] at hj; exact hj
    simp [hj']) (fun j => by simp)
  rw [List.length_nil, Nat.zero_add, htl] at hFl
  refine wp_region_any hm ?_
  have hst : ∀ i o, i < n → l.toArray[i]? = some o → ∃ k F, tg[i]? = some k ∧ Fs[i]? = some (o.dst, F) ∧ (∀ j v w w', (j ≠ k ∨ k = 0) → ¬ bef tg rl k j → T j w w' → F v w → F v w') ∧
      ∀ ys w, Pk 0 w → Pk k w → (i ∈ gl → Pk ks w) → DepsOf (Fs.take i) ys o w → Does P l.toArray o (putAll (dstsOf (l.toArray.toList.take n)) ys a0) w (fun v w' => T k w w' ∧ F v w') := fun i o hi ho => by
    obtain ⟨k, F, h1, h2, h3, h4⟩ := hall i o (Nat.zero_le _) (by rw [List.length_nil, Nat.zero_add, htl]; exact hi) ho
    exact ⟨k, F, h1, h2, h3, fun ys w => by rw [show l.toArray.toList = l by simp, hB']; exact h4 ys w⟩
  have hend : ∀ ys w, Pk 0 w → (∀ j, j < n → FactAt Fs ys j w) → wpList P l.toArray Q (l.toArray.toList.drop n) (putAll (dstsOf (l.toArray.toList.take n)) ys a0) w := fun ys w hp hf => by
    rw [show l.toArray.toList = l by simp, hB']
    exact hK ys w hp (allF_of Fs ys w (fun j hj => hf j (by rw [← hFl]; exact hj)))
  have := wayT_any (T := T) (Pk := Pk) (Fs := Fs) (tg := tg) (Q := Q) (gl := gl) (ks := ks) (s0 := s0) (rl := rl) (fu := fu) hinv hB htg hs0 hks hgl hrl hP hst hend n (Array.replicate l.toArray.size false) a0 { w with drawn := w.drawn + 1 }
    ⟨⟨by simp, fun j oj _ hl => (by rw [getD_replicate_false] at hl; cases hl), fun t _ ht => getD_in (by simpa using ht) (getD_replicate_false _ _)⟩, h0 0, fun _ k _ _ _ => h0 k, rfl, rfl, fun _ _ => rfl,
      fun j (hj : (Array.replicate l.toArray.size false).getD j false = true) => (by rw [getD_replicate_false] at hj; cases hj)⟩ (by
        have := List.countP_le_length (p := fun i => !(Array.replicate l.toArray.size false).getD i true) (l := List.range n); simpa using this)
  rwa [show n + (l.toArray.size - n) = l.toArray.size by simp; omega] at this

section
variable {B : (Nat → Value) → Act} {K : List DF → Prop} {acc : List DF} {o : Oper} {l : List Oper} {k : Nat} {tg gl : List Nat} {ks : Nat} {bf : Nat → Nat → Prop}
theorem LexT.const (hr : ∀ w, T k w w)
    (h : ∃ c : Value, (∀ ys w, Pk 0 w → Pk k w → (acc.length ∈ gl → Pk ks w) → DepsOf acc ys o w → Does P ops o (B ys) w (fun v w' => w = w' ∧ v = c)) ∧
      LexT P ops T Pk gl ks bf B K (acc ++ [(o.dst, fun v _ => v = c)]) tg l) : LexT P ops T Pk gl ks bf B K acc (k :: tg) (o :: l) :=
  let ⟨c, h, kk⟩ := h
  ⟨fun v _ => v = c, fun _ _ _ _ _ _ _ h => h, fun ys w hp hpk hq hd Q2 hQ2 => h ys w hp hpk hq hd Q2 fun a2 w2 ⟨v, e, hw, hv⟩ => hQ2 a2 w2 ⟨v, e, by rw [← hw]; exact hr w, hv⟩, kk⟩
theorem LexT.some (F : VF) (hF : ∀ j v w w', (j ≠ k ∨ k = 0) → ¬ bf k j → T j w w' → F v w → F v w')
    (h : ∀ ys w, Pk 0 w → Pk k w → (acc.length ∈ gl → Pk ks w) → DepsOf acc ys o w → Does P ops o (B ys) w (fun v w' => T k w w' ∧ F v w'))
    (kk : LexT P ops T Pk gl ks bf B K (acc ++ [(o.dst, F)]) tg l) : LexT P ops T Pk gl ks bf B K acc (k :: tg) (o :: l) := ⟨F, hF, h, kk⟩
end
end
end Go.Proofs.Ytgnjknihgjdedaa
namespace Go.Proofs.Ytgnjknihgjdedaa
open Go.RowKit Go.MapKept
set_option linter.unusedVariables false
set_option linter.unusedSimpArgs false

theorem isOwner_any (p : Nat) (O : Value) (t : Int) (A : Option Addr) (n c : Nat) (ks hs ds : Value) (deed owner now : Int) (AL : Option Addr) (m cl : Nat) (L : List Int) (w : World) (hp : w.heap[p]? = some (bkObj t A n c ks hs ds deed owner now)) (hL : Ints w AL m L) (hn : n ≤ maxLen) (hm : m ≤ maxLen) :
    Calls Try.prog 99 #[.pointer (some ⟨p, 0, none⟩), .slice AL m cl] w fun e w' => e = .returned (.bool (L.all (ownB n))) ∧ w = w' := by
  unfold maxLen at hn hm
  have HL := Lib.hid hL.len
  obtain ⟨p0, p1, p2, p3, p4, p5, p6, p7⟩ := blkB hp
  have hpl := heap_lt hp
  clear hp
  go_enter Try.func99, Try.ntmps99
  go_wp2
  go_loopg [9] m (fun g i wr => ∃ q : Nat, q + g = m ∧ i = .int .i64 q ∧ (L.take q).all (ownB n) = true ∧ w = wr)
  case atStart => exact ⟨0, by omega, rfl, by simp, rfl⟩
  case round =>
    obtain ⟨q, hq, rfl, hall, rfl⟩ := hrel
    have HQ := Lib.hid hq
    have HA := Lib.hid hall
    have hqm : q ≤ m := by omega
    clear hq hall
    by_cases hlt : q < m
    · obtain ⟨b, off, x, rfl, hb, hx, d0⟩ := Ints.get hL hlt
      have HX := Lib.hid hx
      clear hx
      go_wp2_with (go_at_call 90; refine (betweenH_any _ _ _ _).mono ?_; rintro e w' ⟨rfl, rfl⟩)
      · have hin : ownB n x = false := by simpa [ownB] using ‹(!btw x 0 (↑n - 1)) = true›
        go_ret
        exact ⟨ret_bool (by rw [all_not HX.out hin]), rfl⟩
      · have hin : ownB n x = true := by simpa [ownB] using ‹(!btw x 0 (↑n - 1)) = false›
        go_roundg (gk - 1)
        case measure => have := HQ.out; omega
        case rel => exact ⟨q + 1, by have := HQ.out; omega, by go_num, all_step HA.out HX.out hin, rfl⟩
    · obtain rfl : q = m := by omega
      go_wp2
      go_ret
      exact ⟨ret_bool (by have := HA.out; rw [← HL.out, List.take_length] at this; exact this.symm), rfl⟩
theorem isFlock_any (p : Nat) (t : Int) (A : Option Addr) (n c : Nat) (Ak : Option Addr) (nk ck : Nat) (hs ds : Value) (deed owner now : Int) (x : Int) (w : World) (hp : w.heap[p]? = some (bkObj t A n c (.slice Ak nk ck) hs ds deed owner now)) (hn : nk ≤ maxLen) :
    Calls Try.prog 91 #[.pointer (some ⟨p, 0, none⟩), .int .i64 x] w fun e w' => e = .returned (.bool (ownB nk x)) ∧ w = w' := by
  unfold maxLen at hn
  obtain ⟨p0, p1, p2, p3, p4, p5, p6, p7⟩ := blkB hp
  have hpl := heap_lt hp
  clear hp
  go_enter Try.func91, Try.ntmps91
  go_wp2_with (go_at_call 90; refine (betweenH_any _ _ _ _).mono ?_; rintro e w' ⟨rfl, rfl⟩)
  go_ret
  exact ⟨rfl, rfl⟩

set_option maxRecDepth 100000 in
set_option maxHeartbeats 1000000 in
theorem flocks_any (p : Nat) (b : Hb) (deed owner now : Int) (w : World) (hp : w.heap[p]? = some (b.bk deed owner now)) (hin : HbIn w b) :
    Calls Try.prog 105 #[.pointer (some ⟨p, 0, none⟩)] w fun e w' => e = .returned (.int .i64 (flocksE b.l.length b.ks b.hs)) ∧ w = w' := by
  have hk := hin.k
  have hkm : b.ks.length ≤ maxLen := Nat.le_trans hin.kc hin.km
  have hnm : b.l.length ≤ maxLen := Nat.le_trans hin.mc hin.mm
  have hhm : b.hs.length ≤ maxLen := Nat.le_trans hin.hc hin.hm
  have hG := hin.h
  have HO := Lib.hid (isOwner_any p .nilFunc b.t b.A b.l.length b.c b.vk b.vh b.vd deed owner now b.Ak b.ks.length b.ck b.ks w hp hk hnm hkm)
  obtain ⟨p0, p1, p2, p3, p4, p5, p6, p7⟩ := blkB hp
  have hpl := heap_lt hp
  replace p2 : w.cell? ⟨p, 2, none⟩ = some (.slice b.Ak b.ks.length b.ck) := p2
  obtain ⟨Ah, hAh⟩ : ∃ Ah, Ah = b.Ah := ⟨_, rfl⟩
  replace p3 : w.cell? ⟨p, 3, none⟩ = some (.slice Ah b.hs.length b.ch) := by rw [hAh]; exact p3
  rw [← hAh] at hG
  obtain ⟨nk, hnk⟩ : ∃ nk, nk = b.ks.length := ⟨_, rfl⟩
  obtain ⟨nh, hnh⟩ : ∃ nh, nh = b.hs.length := ⟨_, rfl⟩
  obtain ⟨n, hnn⟩ : ∃ n, n = b.l.length := ⟨_, rfl⟩
  rw [← hnk] at p2 hkm
  rw [← hnh] at p3 hG hhm
  rw [← hnn] at p1 hnm
  have HN := Lib.hid (And.intro hnk (And.intro hnh hnn))
  unfold maxLen at hkm hnm hhm
  clear hp hin hk hAh hnk hnh hnn p0 p4 p5 p6 p7
  go_enter Try.func105, Try.ntmps105
  obtain ⟨ab, hab⟩ : ∃ ab, ab = b.ks.all (ownB b.l.length) := ⟨_, rfl⟩
  rw [← hab, ← HN.out.1] at HO
  have HAB := Lib.hid hab
  clear hab
  by_cases h0 : nk = 0
  · have x0 : ((nk : Int) == 0) = true := by simp [h0]
    have H0 := Lib.hid h0
    clear h0
    go_wp2_with fail
    go_ret
    exact ⟨ret_int (by unfold flocksE; rw [if_pos (by rw [← HN.out.1]; exact H0.out)]), rfl⟩
  have x0 : ((nk : Int) == 0) = false := by simp [h0]
  have H0 := Lib.hid h0
  clear h0
  by_cases h3 : 3 < nk
  · have x3 : decide (3 < (nk : Int)) = true := by simp; omega
    have H3 := Lib.hid h3
    clear h3
    go_wp2_with fail
    go_ret
    exact ⟨ret_int (by unfold flocksE; rw [if_neg (by rw [← HN.out.1]; exact H0.out), if_pos (by rw [← HN.out.1]; exact H3.out)]), rfl⟩
  have x3 : decide (3 < (nk : Int)) = false := by simp; omega
  have H3 := Lib.hid h3
  clear h3
  cases ab with
  | false =>
    go_wp2_with (go_at_call 99; refine HO.out.mono ?_; rintro e w' ⟨rfl, rfl⟩)
    go_ret
    exact ⟨ret_int (by unfold flocksE; rw [if_neg (by rw [← HN.out.1]; exact H0.out), if_neg (by rw [← HN.out.1]; exact H3.out), if_pos HAB.out.symm]), rfl⟩
  | true =>
  by_cases hh : nh = nk
  · have x4 : ((nh : Int) != (nk : Int)) = false := by simp [hh]
    have HE := Lib.hid (show flocksE b.l.length b.ks b.hs = if b.hs.all (fun r => decide (r.length = b.l.length)) = false then 2 else if b.hs.all (fun r => r.all fun x => btw x 0 20) = false then 1 else 0 by
      unfold flocksE; rw [if_neg (by rw [← HN.out.1]; exact H0.out), if_neg (by rw [← HN.out.1]; exact H3.out), if_neg (by rw [← HAB.out]; simp), if_neg (by rw [← HN.out.1, ← HN.out.2.1]; simpa using hh)])
    clear hh H0 H3 HAB
    go_wp2_with (go_at_call 99; refine HO.out.mono ?_; rintro e w' ⟨rfl, rfl⟩)
    clear x0 x3 x4 HO
    go_loopg [46] nh (fun g v wr => ∃ k : Nat, k + g = nh ∧ v = .int .i64 k ∧ (b.hs.take k).all (fun r => decide (r.length = b.l.length)) = true ∧ w = wr)
    case atStart => exact ⟨0, by omega, rfl, by simp, rfl⟩
    case round =>
      obtain ⟨k, hk, rfl, hall, rfl⟩ := hrel
      have HK := Lib.hid (And.intro hk hall)
      clear hk hall
      by_cases hlt : k < nh
      · obtain ⟨bi, off, B, row, cx, hA, hb, hr, d0, hin, hlc, hcm⟩ := hG.get hlt
        subst hA
        unfold maxLen at hcm
        have HR := Lib.hid (And.intro hr hin)
        clear hr hin
        by_cases hrl : row.length = n
        · have y0 : ((row.length : Int) != (n : Int)) = false := by simp [hrl]
          have HL := Lib.hid hrl
          clear hrl
          go_wp2_with fail
          go_roundg (gk - 1)
          case measure => have := HK.out; omega
          case rel => exact ⟨k + 1, by have := HK.out; omega, by go_num, by rw [List.take_add_one, HR.out.1, List.all_append, HK.out.2]; simp [HL.out, ← HN.out.2.2], rfl⟩
        · have y0 : ((row.length : Int) != (n : Int)) = true := by simp; omega
          have HL := Lib.hid hrl
          clear hrl
          go_wp2_with fail
          go_ret
          have h2 : b.hs.all (fun r => decide (r.length = b.l.length)) = false := by
            rw [List.all_eq_false]
            exact ⟨row, List.mem_of_getElem? HR.out.1, by have := HL.out; rw [HN.out.2.2] at this; simpa using this⟩
          exact ⟨ret_int (by rw [HE.out, if_pos h2]), rfl⟩
      · obtain rfl : k = nh := by have := HK.out.1; omega
        have HAL := Lib.hid (show b.hs.all (fun r => decide (r.length = b.l.length)) = true by have := HK.out.2; rw [HN.out.2.1, List.take_length] at this; exact this)
        clear hlt
        go_wp2_with fail
        go_loopg [67] k (fun g v wr => ∃ q : Nat, q + g = k ∧ v = .int .i64 q ∧ (b.hs.take q).all (fun r => r.all fun x => btw x 0 20) = true ∧ w = wr)
        case atStart => exact ⟨0, by omega, rfl, by simp, rfl⟩
        case round =>
          obtain ⟨q, hq, rfl, hall, rfl⟩ := hrel
          have HQ := Lib.hid (And.intro hq hall)
          clear hq hall
          by_cases hlt : q < k
          · obtain ⟨bi, off, B, row, cx, hA, hb, hr, d0, hin, hlc, hcm⟩ := hG.get hlt
            subst hA
            unfold maxLen at hcm
            have HR := Lib.hid hr
            clear hr
            go_wp2_with fail
            obtain ⟨go, rfl⟩ : ∃ go : Nat, go = gk := ⟨_, rfl⟩
            go_loopg [73] row.length (fun g v wr => ∃ j : Nat, j + g = row.length ∧ v = .int .i64 j ∧ (row.take j).all (fun x => btw x 0 20) = true ∧ w = wr)
            case atStart => exact ⟨0, by omega, rfl, by simp, rfl⟩
            case round =>
              obtain ⟨j, hj, rfl, hall, rfl⟩ := hrel
              have HJ := Lib.hid (And.intro hj hall)
              clear hj hall
              by_cases hjl : j < row.length
              · obtain ⟨bx, ofx, x, rfl, hbx, hx, dx⟩ := Ints.get hin hjl
                have HX := Lib.hid hx
                clear hx
                go_wp2_with (go_at_call 90; refine (betweenH_any _ _ _ _).mono ?_; rintro e w' ⟨rfl, rfl⟩)
                · have hb : btw x 0 20 = false := by simpa using ‹(!btw x 0 20) = true›
                  go_ret
                  have h2 : b.hs.all (fun r => r.all fun x => btw x 0 20) = false := List.all_eq_false.2 ⟨row, List.mem_of_getElem? HR.out, by rw [all_not (f := fun x => btw x 0 20) HX.out hb]; simp⟩
                  exact ⟨ret_int (by rw [HE.out, if_neg (by rw [HAL.out]; simp), if_pos h2]), rfl⟩
                · have hb : btw x 0 20 = true := by simpa using ‹(!btw x 0 20) = false›
                  go_roundg (gk - 1)
                  case measure => have := HJ.out; omega
                  case rel => exact ⟨j + 1, by have := HJ.out; omega, by go_num, all_step HJ.out.2 HX.out hb, rfl⟩
              · obtain rfl : j = row.length := by have := HJ.out.1; omega
                go_wp2_with fail
                go_roundg (go - 1)
                case measure => have := HQ.out; omega
                case rel => exact ⟨q + 1, by have := HQ.out; omega, by go_num, by have := HJ.out.2; rw [List.take_length] at this; rw [List.take_add_one, HR.out, List.all_append, HQ.out.2]; simp only [Option.toList, List.all_cons, List.all_nil, Bool.and_true, Bool.true_and]; exact this, rfl⟩
          · obtain rfl : q = k := by have := HQ.out.1; omega
            go_wp2_with fail
            go_ret
            have h2 : b.hs.all (fun r => r.all fun x => btw x 0 20) = true := by have := HQ.out.2; rw [HN.out.2.1, List.take_length] at this; exact this
            exact ⟨ret_int (by rw [HE.out, if_neg (by rw [HAL.out]; simp), if_neg (by rw [h2]; simp)]), rfl⟩
  · have x4 : ((nh : Int) != (nk : Int)) = true := by simp; omega
    have HH := Lib.hid hh
    clear hh
    go_wp2_with (go_at_call 99; refine HO.out.mono ?_; rintro e w' ⟨rfl, rfl⟩)
    go_ret
    exact ⟨ret_int (by unfold flocksE; rw [if_neg (by rw [← HN.out.1]; exact H0.out), if_neg (by rw [← HN.out.1]; exact H3.out), if_neg (by rw [← HAB.out]; simp), if_pos (by rw [← HN.out.1, ← HN.out.2.1]; exact HH.out)]), rfl⟩
end Go.Proofs.Ytgnjknihgjdedaa
