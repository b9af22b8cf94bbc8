/- HerdEntered 15: TalV, HdG. -/
import Derived.Test.YtmennjmjakdkcaaEn04
import Derived.Test.YtmennjmjakdkcaaEn02
import Derived.Test.YtmennjmjakdkcaaEn11
namespace Go.Proofs.Ytmennjmjakdkcaa
set_option linter.unusedVariables false
set_option linter.unusedSimpArgs false

abbrev sZ : Sg := ⟨0, false, false, 0, 0⟩
/-- a tale so far -/
structure R3 (t : Int) (l : List Mk) (ks : List Int) (hs : List (List Int)) (ds : List De) (gs : List (List Int)) (gone whose : List Int) : Prop where
  n5 : l.length ≤ 5
  n0 : 0 < l.length
  f3 : ks.length ≤ 3
  f0 : 0 < ks.length
  sh : GSh l.length ks.length gs
  ti : TaleI t l hs ds gs gone whose
  de : ∀ d ∈ ds, deedE l.length ks.length d = 0
  gn : ∀ o : Nat, 0 ≤ gone.getD o 0 ∧ gone.getD o 0 ≤ 3 * ds.length
section
variable {t : Int} {l : List Mk} {ks : List Int} {hs : List (List Int)} {ds : List De} {gs : List (List Int)} {gone whose : List Int}
theorem firstH_len (gs : List (List Int)) : (firstH gs).length = 15 := firstH_l gs
theorem R3.start (h5 : l.length ≤ 5) (h0 : 0 < l.length) (h3 : ks.length ≤ 3) (f0 : 0 < ks.length) (hl : hs.length = ks.length) (hr : ∀ r ∈ hs, r.length = l.length ∧ ∀ x ∈ r, 0 ≤ x ∧ x ≤ 4) : R3 t l ks hs [] hs (List.replicate l.length 0) [] := by
  have hb : ∀ f o, 0 ≤ getG hs f o ∧ getG hs f o ≤ 4 := fun f o => by
    unfold getG
    rw [List.getD_eq_getElem?_getD, List.getD_eq_getElem?_getD]
    cases e : hs[f]? with
    | none => simp
    | some r =>
      simp only [Option.getD_some]
      cases e2 : r[o]? with
      | none => simp
      | some x =>
        simp only [Option.getD_some]
        exact (hr r (List.mem_of_getElem? e)).2 x (List.mem_of_getElem? e2)
  have hg : ∀ f o, f < 3 → o < 5 → 0 ≤ hget (firstH hs) f o ∧ hget (firstH hs) f o ≤ 4 := fun f o h1 h2 => by rw [firstH_get hs h1 h2]; exact hb f o
  refine ⟨h5, h0, h3, f0, ⟨hl, fun r h => (hr r h).1⟩, TaleI.start (fun f o h1 h2 => (hg f o h1 h2).1) ?_, (fun _ h => nomatch h), fun o => by
    rw [List.getD_eq_getElem?_getD, List.getElem?_replicate]
    split <;> simp⟩
  have a := fun f (hf : f < 3) => hg f 0 hf (by omega)
  have b := fun f (hf : f < 3) => hg f 1 hf (by omega)
  have c := fun f (hf : f < 3) => hg f 2 hf (by omega)
  have d := fun f (hf : f < 3) => hg f 3 hf (by omega)
  have e := fun f (hf : f < 3) => hg f 4 hf (by omega)
  unfold htot hall
  have := a 0 (by omega); have := a 1 (by omega); have := a 2 (by omega)
  have := b 0 (by omega); have := b 1 (by omega); have := b 2 (by omega)
  have := c 0 (by omega); have := c 1 (by omega); have := c 2 (by omega)
  have := d 0 (by omega); have := d 1 (by omega); have := d 2 (by omega)
  have := e 0 (by omega); have := e 1 (by omega); have := e 2 (by omega)
  omega
theorem R3.get (h : R3 t l ks hs ds gs gone whose) {f o : Nat} (hf : f < ks.length) (ho : o < l.length) : getG gs f o = hget (firstH gs) f o := by
  have := h.n5; have := h.f3
  exact (firstH_get gs (by omega) (by omega)).symm
theorem R3.bd (h : R3 t l ks hs ds gs gone whose) {f o : Nat} (hf : f < ks.length) (ho : o < l.length) : 0 ≤ getG gs f o ∧ getG gs f o ≤ 60 + 3 * ds.length := by
  have h5 := h.n5; have h3 := h.f3
  rw [h.get hf ho]
  have h1 := hget_tot h.ti.nn (show f < 3 by omega) (show o < 5 by omega)
  have h2 := h.ti.tot
  exact ⟨h.ti.nn f o (by omega) (by omega), by omega⟩
theorem R3.sum (h : R3 t l ks hs ds gs gone whose) {f : Nat} (hf : f < ks.length) : (gs.getD f []).sum = hall (firstH gs) f ∧ 0 ≤ hall (firstH gs) f ∧ hall (firstH gs) f ≤ 60 + 3 * ds.length := by
  have h5 := h.n5; have h3 := h.f3
  have h1 := hget_tot h.ti.nn (show f < 3 by omega) (show 0 < 5 by omega)
  have h2 := h.ti.tot
  have h4 := h.ti.nn f 0 (by omega) (by omega)
  exact ⟨row_sum (by omega) (by rw [h.sh.row hf]; omega), by omega, by omega⟩
theorem R3.elt (h : R3 t l ks hs ds gs gone whose) : ∀ r ∈ gs, r.length ≤ 1000 ∧ ∀ x ∈ r, -100000 ≤ x ∧ x ≤ 60 + 3 * ds.length := by
  intro r hr
  have h5 := h.n5
  obtain ⟨f, hf⟩ := List.mem_iff_getElem?.1 hr
  have hfl : f < gs.length := (List.getElem?_eq_some_iff.1 hf).1
  have hr1 := h.sh.r r hr
  refine ⟨by omega, fun x hx => ?_⟩
  obtain ⟨o, ho⟩ := List.mem_iff_getElem?.1 hx
  have hol : o < r.length := (List.getElem?_eq_some_iff.1 ho).1
  have hb := h.bd (f := f) (o := o) (by rw [← h.sh.l]; exact hfl) (by omega)
  have e : getG gs f o = x := by
    unfold getG
    rw [show gs.getD f [] = r by rw [List.getD_eq_getElem?_getD, hf]; rfl, List.getD_eq_getElem?_getD, ho]
    rfl
  omega
theorem deedE_ok {n nf : Nat} {d : De} (h1 : 1 ≤ d.kind ∧ d.kind ≤ 6) (h2 : 0 ≤ d.flock ∧ d.flock < nf) (h3 : fldE n nf d = 0) (h4 : d = namD d) : deedE n nf d = 0 := by
  unfold deedE
  have e1 : btw d.kind 1 6 = true := btw_iff.2 h1
  have e2 : ownB nf d.flock = true := ownB_iff.2 h2
  rw [e1, e2, if_neg (by simp), if_neg (by simp), h3, if_neg (by simp), if_neg (by simpa using h4)]
theorem ownB_nat {n o : Nat} (h : o < n) : ownB n (o : Int) = true := ownB_iff.2 ⟨by omega, by omega⟩
theorem R3.snocD {d : De} (h : ∀ d ∈ ds, deedE l.length ks.length d = 0) (hd : deedE l.length ks.length d = 0) : ∀ x ∈ ds ++ [d], deedE l.length ks.length x = 0 := fun x hx => by
  rcases List.mem_append.1 hx with hx | hx
  · exact h x hx
  · rw [List.mem_singleton.1 hx]; exact hd

theorem R3.born (h : R3 t l ks hs ds gs gone whose) {f o : Nat} {k : Int} (hf : f < ks.length) (ho : o < l.length) (hk : 1 ≤ k ∧ k ≤ 3) : R3 t l ks hs (ds ++ [⟨1, f, o, 0, 0, k, 0, sZ⟩]) (addG gs f o k) gone (whose ++ [-1]) := by
  have h5 := h.n5; have h3 := h.f3
  have hf3 : f < 3 := by omega
  have ho5 : o < 5 := by omega
  have hl := firstH_len gs
  have e := firstH_add h.sh h.n5 h.f3 hf ho k
  refine ⟨h.n5, h.n0, h.f3, h.f0, h.sh.add hf o k, h.ti.step (fun pass _ => ?_) (.inl rfl) (fun h => by cases h) (fun f' o' h1 h2 => ?_) ?_ (fun o' h1 => ?_) rfl, R3.snocD h.de (deedE_ok (by dsimp; omega) ⟨by dsimp; omega, by dsimp; omega⟩ ?_ (by simp [namD])), fun o' => by have := h.gn o'; rw [List.length_append, List.length_singleton]; omega⟩
  · simp [succ, e]
  · rw [e, hget_hadd hl hf3 ho5 h2]
    have := h.ti.nn f' o' h1 h2
    have := h.ti.nn f o hf3 ho5
    split <;> omega
  · rw [e, htot_hadd hl hf3 ho5]; omega
  · rw [e, howned_hadd hl hf3 ho5 (by omega)]
    simp only [delta, Int.natCast_inj]
    by_cases h2 : o = o' <;> simp [h2] <;> omega
  · simp [fldE, ownB_nat ho, btw_iff]; omega

theorem R3.eaten (h : R3 t l ks hs ds gs gone whose) {f o : Nat} {k : Int} (hf : f < ks.length) (ho : o < l.length) (hk : 1 ≤ k ∧ k ≤ 20) (hg : k ≤ getG gs f o) : R3 t l ks hs (ds ++ [⟨3, f, o, 0, 0, k, 0, sZ⟩]) (addG gs f o (-k)) gone (whose ++ [-1]) := by
  have h5 := h.n5; have h3 := h.f3
  rw [h.get hf ho] at hg
  have hf3 : f < 3 := by omega
  have ho5 : o < 5 := by omega
  have hl := firstH_len gs
  have e := firstH_add h.sh h.n5 h.f3 hf ho (-k)
  refine ⟨h.n5, h.n0, h.f3, h.f0, h.sh.add hf o (-k), h.ti.step (fun pass _ => ?_) (.inl rfl) (fun h => by cases h) (fun f' o' h1 h2 => ?_) ?_ (fun o' h1 => ?_) rfl, R3.snocD h.de (deedE_ok (by dsimp; omega) ⟨by dsimp; omega, by dsimp; omega⟩ ?_ (by simp [namD])), fun o' => by have := h.gn o'; rw [List.length_append, List.length_singleton]; omega⟩
  · simp [succ, mvd, e]
    rw [if_pos (by omega)]; simp
  · rw [e, hget_hadd hl hf3 ho5 h2]
    have := h.ti.nn f' o' h1 h2
    split <;> omega
  · rw [e, htot_hadd hl hf3 ho5]; omega
  · rw [e, howned_hadd hl hf3 ho5 (by omega)]
    simp only [delta, Int.natCast_inj]
    by_cases h2 : o = o' <;> simp [h2] <;> omega
  · simp [fldE, ownB_nat ho, btw_iff]; omega

theorem R3.sold (h : R3 t l ks hs ds gs gone whose) {f o p : Nat} {k : Int} (hf : f < ks.length) (ho : o < l.length) (hp : p < l.length) (hne : o ≠ p) (hk : 1 ≤ k ∧ k ≤ 20) (hg : k ≤ getG gs f o) :
    R3 t l ks hs (ds ++ [⟨2, f, o, p, 0, k, 0, sZ⟩]) (addG (addG gs f o (-k)) f p k) gone (whose ++ [-1]) := by
  have h5 := h.n5; have h3 := h.f3
  rw [h.get hf ho] at hg
  have hf3 : f < 3 := by omega
  have ho5 : o < 5 := by omega
  have hp5 : p < 5 := by omega
  have hl := firstH_len gs
  have e1 := firstH_add h.sh h.n5 h.f3 hf ho (-k)
  have e := firstH_add (h.sh.add hf o (-k)) h.n5 h.f3 hf hp k
  rw [e1] at e
  have hl1 := hadd_l (f := f) (o := o) (k := -k) hl
  refine ⟨h.n5, h.n0, h.f3, h.f0, (h.sh.add hf o (-k)).add hf p k, h.ti.step (fun pass _ => ?_) (.inl rfl) (fun _ => by dsimp; omega) (fun f' o' h1 h2 => ?_) ?_ (fun o' h1 => ?_) rfl, R3.snocD h.de (deedE_ok (by dsimp; omega) ⟨by dsimp; omega, by dsimp; omega⟩ ?_ (by simp [namD])), fun o' => by have := h.gn o'; rw [List.length_append, List.length_singleton]; omega⟩
  · simp [succ, mvd, e]
    rw [if_pos (by omega)]; simp
  · rw [e, hget_hadd hl1 hf3 hp5 h2, hget_hadd hl hf3 ho5 hp5, hget_hadd hl hf3 ho5 h2]
    have := h.ti.nn f' o' h1 h2
    have := h.ti.nn f p hf3 hp5
    repeat' split
    all_goals omega
  · rw [e, htot_hadd hl1 hf3 hp5, htot_hadd hl hf3 ho5]; omega
  · rw [e, howned_hadd hl1 hf3 hp5 (by omega), howned_hadd hl hf3 ho5 (by omega)]
    simp only [delta, Int.natCast_inj]
    by_cases h2 : o = o' <;> by_cases h4 : p = o' <;> simp [h2, h4] <;> omega
  · have e2 : ¬ (o : Int) = p := by omega
    simp [fldE, ownB_nat ho, ownB_nat hp, btw_iff, e2, hne]; omega

theorem R3.strayed (h : R3 t l ks hs ds gs gone whose) {f g o : Nat} {s : Sg} (hf : f < ks.length) (hg : g < ks.length) (hne : f ≠ g) (ho : o < l.length) (hh : 0 < getG gs f o) (hm : (o : Int) ∈ mayL t l s) (hsn : seen s 9 6 = 0) :
    R3 t l ks hs (ds ++ [⟨5, f, 0, 0, g, 0, 0, s⟩]) (addG (addG gs f o (-1)) g o 1) gone (whose ++ [(o : Int)]) := by
  have h5 := h.n5; have h3 := h.f3
  rw [h.get hf ho] at hh
  have hf3 : f < 3 := by omega
  have hg3 : g < 3 := by omega
  have ho5 : o < 5 := by omega
  have hl := firstH_len gs
  have e1 := firstH_add h.sh h.n5 h.f3 hf ho (-1)
  have e := firstH_add (h.sh.add hf o (-1)) h.n5 h.f3 hg ho 1
  rw [e1] at e
  have hl1 := hadd_l (f := f) (o := o) (k := -1) hl
  refine ⟨h.n5, h.n0, h.f3, h.f0, (h.sh.add hf o (-1)).add hg o 1, h.ti.step (fun pass hp => ?_) (.inr ⟨by omega, by omega, rfl⟩) (fun h => by cases h) (fun f' o' h1 h2 => ?_) ?_ (fun o' h1 => ?_) rfl, R3.snocD h.de (deedE_ok (by dsimp; omega) ⟨by dsimp; omega, by dsimp; omega⟩ ?_ (by simp [namD])), fun o' => by have := h.gn o'; rw [List.length_append, List.length_singleton]; omega⟩
  · simp only [succ]
    rw [if_neg (by decide), if_neg (by decide), if_neg (by decide), if_neg (by decide), if_pos trivial, e]
    unfold strayL
    rw [List.mem_flatMap]
    refine ⟨o, List.mem_filter.2 ⟨hm, hp rfl⟩, ?_⟩
    simp only [Int.toNat_natCast, mvd]
    rw [if_pos (by omega)]; simp
  · rw [e, hget_hadd hl1 hg3 ho5 h2, hget_hadd hl hf3 ho5 ho5, hget_hadd hl hf3 ho5 h2]
    have := h.ti.nn f' o' h1 h2
    have := h.ti.nn g o hg3 ho5
    repeat' split
    all_goals omega
  · rw [e, htot_hadd hl1 hg3 ho5, htot_hadd hl hf3 ho5]; omega
  · rw [e, howned_hadd hl1 hg3 ho5 (by omega), howned_hadd hl hf3 ho5 (by omega)]
    simp only [delta]
    by_cases h2 : o = o' <;> simp [h2] <;> omega
  · have e2 : ¬ (g : Int) = f := by omega
    simp [fldE, ownB_nat hg, hsn, e2]; try omega

theorem R3.counted (h : R3 t l ks hs ds gs gone whose) {f : Nat} {a err n : Int} (hf : f < ks.length) (hn : n = hall (firstH gs) f) (he : err = 0 ∨ err = 5 ∨ err = 20) (h1 : 100 * a ≤ err * n) (h2 : -(err * n) ≤ 100 * a) (hd : ds.length ≤ 6) :
    R3 t l ks hs (ds ++ [⟨6, f, 0, 0, 0, n + a, err, sZ⟩]) gs gone (whose ++ [-1]) := by
  have h5 := h.n5; have h3 := h.f3
  obtain ⟨_, hn0, hn1⟩ := h.sum hf
  rw [← hn] at hn0 hn1
  refine ⟨h.n5, h.n0, h.f3, h.f0, h.sh, h.ti.step (fun pass _ => ?_) (.inl rfl) (fun h => by cases h) h.ti.nn (by omega) (fun o' h1 => ?_) rfl, R3.snocD h.de (deedE_ok (by dsimp; omega) ⟨by dsimp; omega, by dsimp; omega⟩ ?_ (by simp [namD])), fun o' => by have := h.gn o'; rw [List.length_append, List.length_singleton]; omega⟩
  · simp only [succ]
    rw [if_neg (by decide), if_neg (by decide), if_neg (by decide), if_neg (by decide), if_neg (by decide), if_pos ?_]
    · simp
    · unfold countB
      simp only [Int.toNat_natCast]
      rw [← hn, btw_iff]
      rcases he with rfl | rfl | rfl
      · constructor
        · rw [Int.tdiv_eq_ediv_of_nonneg (by omega)]; omega
        · rw [Int.tdiv_eq_ediv_of_nonneg (by omega)]; omega
      · constructor
        · rw [Int.tdiv_eq_ediv_of_nonneg (by omega)]; omega
        · rw [Int.tdiv_eq_ediv_of_nonneg (by omega)]; omega
      · constructor
        · rw [Int.tdiv_eq_ediv_of_nonneg (by omega)]; omega
        · rw [Int.tdiv_eq_ediv_of_nonneg (by omega)]; omega
  · simp [delta]
  · rcases he with rfl | rfl | rfl <;> simp [fldE, btw_iff] <;> omega

/-- while sheep are lost, one by one: k of m are -/
structure L3 (t : Int) (l : List Mk) (ks : List Int) (gs0 : List (List Int)) (gone0 : List Int) (f m k : Nat) (gs : List (List Int)) (gone : List Int) : Prop where
  km : k ≤ m
  sh : GSh l.length ks.length gs
  nn : ∀ f o, f < 3 → o < 5 → 0 ≤ hget (firstH gs) f o
  tot : htot (firstH gs) = htot (firstH gs0) - k
  al : hall (firstH gs) f = hall (firstH gs0) f - k
  ls : ∀ x, x ∈ lostJ l.length f l.length (firstH gs) (m - k) → x ∈ lostJ l.length f l.length (firstH gs0) m
  g : ∀ o : Nat, o < l.length → gone.getD o 0 + howned (firstH gs) o = gone0.getD o 0 + howned (firstH gs0) o
  gl : gone.length = l.length
  gn : ∀ o : Nat, gone0.getD o 0 ≤ gone.getD o 0 ∧ gone.getD o 0 ≤ gone0.getD o 0 + k
theorem L3.start (h : R3 t l ks hs ds gs gone whose) (f m : Nat) : L3 t l ks gs gone f m 0 gs gone :=
  ⟨Nat.zero_le _, h.sh, h.ti.nn, by simp, by simp, fun x hx => hx, fun _ _ => rfl, h.ti.gl, fun o => by omega⟩
theorem L3.step {gs0 : List (List Int)} {gone0 : List Int} {f m k o : Nat} (h : L3 t l ks gs0 gone0 f m k gs gone) (h5 : l.length ≤ 5) (h3 : ks.length ≤ 3) (hf : f < ks.length) (ho : o < l.length) (hg : 0 < getG gs f o) (hk : k < m) :
    L3 t l ks gs0 gone0 f m (k + 1) (addG gs f o (-1)) (gone.set o (gone.getD o 0 + 1)) := by
  have hf3 : f < 3 := by omega
  have ho5 : o < 5 := by omega
  have hl := firstH_len gs
  have e := firstH_add h.sh h5 h3 hf ho (-1)
  have hg' : 0 < hget (firstH gs) f o := by rw [firstH_get gs hf3 ho5]; exact hg
  refine ⟨hk, h.sh.add hf o (-1), fun f' o' h1 h2 => ?_, ?_, ?_, fun x hx => h.ls x ?_, fun o' h1 => ?_, by rw [List.length_set]; exact h.gl, fun o' => ?_⟩
  · rw [e, hget_hadd hl hf3 ho5 h2]
    have := h.nn f' o' h1 h2
    split <;> omega
  · rw [e, htot_hadd hl hf3 ho5, h.tot]; omega
  · rw [e, hall_hadd hl hf3 ho5, h.al, if_pos rfl]; omega
  · rw [show m - k = (m - (k + 1)) + 1 by omega]
    rw [e] at hx
    exact lostJ_pick hf3 h5 l.length _ _ o x (Nat.le_refl _) hl (fun o ho => h.nn f o hf3 ho) (by omega) ho hg' hx
  · rw [e, howned_hadd hl hf3 ho5 (by omega), ← h.g o' h1]
    by_cases h2 : o = o'
    · subst h2
      rw [List.getD_eq_getElem?_getD, List.getElem?_set_self (by rw [h.gl]; exact ho), if_pos rfl]
      simp only [Option.getD_some]
      omega
    · rw [List.getD_eq_getElem?_getD, List.getElem?_set_ne h2, if_neg h2, List.getD_eq_getElem?_getD]; omega
  · have := h.gn o'
    by_cases h2 : o = o'
    · subst h2
      rw [show (gone.set o (gone.getD o 0 + 1)).getD o 0 = gone.getD o 0 + 1 by
        rw [List.getD_eq_getElem?_getD, List.getElem?_set_self (by rw [h.gl]; exact ho)]; rfl]
      omega
    · rw [show (gone.set o (gone.getD o 0 + 1)).getD o' 0 = gone.getD o' 0 by
        rw [List.getD_eq_getElem?_getD, List.getElem?_set_ne h2, ← List.getD_eq_getElem?_getD]]
      omega
theorem L3.elt {gs0 : List (List Int)} {gone0 : List Int} {f m k : Nat} (h : L3 t l ks gs0 gone0 f m k gs gone) (h5 : l.length ≤ 5) (h3 : ks.length ≤ 3) (ht : htot (firstH gs0) ≤ 80) : (∀ f o, f < ks.length → o < l.length → 0 ≤ getG gs f o ∧ getG gs f o ≤ 80) ∧ ∀ r ∈ gs, r.length ≤ 1000 ∧ ∀ x ∈ r, -100000 ≤ x ∧ x ≤ 100000 := by
  have hb : ∀ f o, f < ks.length → o < l.length → 0 ≤ getG gs f o ∧ getG gs f o ≤ 80 := fun f o hf ho => by
    rw [← firstH_get gs (show f < 3 by omega) (show o < 5 by omega)]
    have h1 := hget_tot h.nn (show f < 3 by omega) (show o < 5 by omega)
    have h2 := h.tot
    exact ⟨h.nn f o (by omega) (by omega), by omega⟩
  refine ⟨hb, fun r hr => ?_⟩
  obtain ⟨f, hf⟩ := List.mem_iff_getElem?.1 hr
  have hfl : f < gs.length := (List.getElem?_eq_some_iff.1 hf).1
  have hr1 := h.sh.r r hr
  refine ⟨by omega, fun x hx => ?_⟩
  obtain ⟨o, ho⟩ := List.mem_iff_getElem?.1 hx
  have hol : o < r.length := (List.getElem?_eq_some_iff.1 ho).1
  have hb := hb f o (by rw [← h.sh.l]; exact hfl) (by omega)
  have e : getG gs f o = x := by
    unfold getG
    rw [show gs.getD f [] = r by rw [List.getD_eq_getElem?_getD, hf]; rfl, List.getD_eq_getElem?_getD, ho]
    rfl
  omega
theorem R3.lost {gs' : List (List Int)} {gone' : List Int} {f m : Nat} (h : R3 t l ks hs ds gs gone whose) (hf : f < ks.length) (hm : 1 ≤ m ∧ m ≤ 3) (hL : L3 t l ks gs gone f m m gs' gone') : R3 t l ks hs (ds ++ [⟨4, f, 0, 0, 0, m, 0, sZ⟩]) gs' gone' (whose ++ [-1]) := by
  have h5 := h.n5; have h3 := h.f3
  refine ⟨h.n5, h.n0, h.f3, h.f0, hL.sh, h.ti.step (fun pass _ => ?_) (.inl rfl) (fun h => by cases h) hL.nn (by rw [hL.tot]; omega) (fun o' h1 => ?_) (hL.gl.trans h.ti.gl.symm), R3.snocD h.de (deedE_ok (by dsimp; omega) ⟨by dsimp; omega, by dsimp; omega⟩ ?_ (by simp [namD])), fun o' => by have := h.gn o'; have := hL.gn o'; rw [List.length_append, List.length_singleton]; omega⟩
  · simp only [succ]
    rw [if_neg (by decide), if_neg (by decide), if_neg (by decide), if_pos trivial]
    simp only [Int.toNat_natCast]
    refine hL.ls _ ?_
    rw [Nat.sub_self, lostJ_zero]
    simp
  · rw [hL.g o' h1]; simp [delta]
  · simp [fldE, btw_iff]; omega
/-- who holds a sheep -/
theorem holds_pos {row : List Int} {o : Int} (h : (o = -1 ∧ ∀ x ∈ row, x ≤ 0) ∨ ∃ k : Nat, o = k ∧ k < row.length ∧ 0 < row.getD k 0) (hs : 0 < row.sum) : ∃ k : Nat, o = k ∧ k < row.length ∧ 0 < row.getD k 0 := by
  rcases h with ⟨_, h⟩ | h
  · exfalso
    have : ∀ l : List Int, (∀ x ∈ l, x ≤ 0) → l.sum ≤ 0 := fun l => by
      induction l with
      | nil => intro _; simp
      | cons a r ih =>
        intro hx
        have h1 := hx a (by simp)
        have h2 := ih fun x h => hx x (by simp [h])
        rw [List.sum_cons]; omega
    have := this row h
    omega
  · exact h
theorem pos_sum {row : List Int} (h0 : ∀ x ∈ row, 0 ≤ x) {k : Nat} (hk : k < row.length) (h : 0 < row.getD k 0) : 0 < row.sum := by
  induction row generalizing k with
  | nil => simp at hk
  | cons a r ih =>
    have hr : 0 ≤ r.sum := by
      have : ∀ l : List Int, (∀ x ∈ l, 0 ≤ x) → 0 ≤ l.sum := fun l => by
        induction l with
        | nil => intro _; simp
        | cons b r ih =>
          intro hx
          have h1 := hx b (by simp)
          have h2 := ih fun x h => hx x (by simp [h])
          rw [List.sum_cons]; omega
      exact this r fun x hx => h0 x (by simp [hx])
    have ha := h0 a (by simp)
    rw [List.sum_cons]
    cases k with
    | zero => simp at h; omega
    | succ k =>
      have := ih (fun x hx => h0 x (by simp [hx])) (by simpa using hk) (by simpa using h)
      omega
end
end Go.Proofs.Ytmennjmjakdkcaa
namespace Go.Proofs.Ytmennjmjakdkcaa
open Go.RowKit Go.MapKept
set_option linter.unusedVariables false
set_option linter.unusedSimpArgs false

theorem isOwner_any (p : Nat) (O : Value) (t : Int) (A : Option Addr) (n c : Nat) (ks hs ds : Value) (deed owner now : Int) (AL : Option Addr) (m cl : Nat) (L : List Int) (w : World) (hp : w.heap[p]? = some (bkObj t A n c ks hs ds deed owner now)) (hL : Ints w AL m L) (hn : n ≤ maxLen) (hm : m ≤ maxLen) :
    Calls Try.prog 89 #[.pointer (some ⟨p, 0, none⟩), .slice AL m cl] w fun e w' => e = .returned (.bool (L.all (ownB n))) ∧ w = w' := by
  unfold maxLen at hn hm
  have HL := Lib.hid hL.len
  obtain ⟨p0, p1, p2, p3, p4, p5, p6, p7⟩ := blkB hp
  have hpl := heap_lt hp
  clear hp
  go_enter Try.func89, Try.ntmps89
  go_wp2
  go_loopg [9] m (fun g i wr => ∃ q : Nat, q + g = m ∧ i = .int .i64 q ∧ (L.take q).all (ownB n) = true ∧ w = wr)
  case atStart => exact ⟨0, by omega, rfl, by simp, rfl⟩
  case round =>
    obtain ⟨q, hq, rfl, hall, rfl⟩ := hrel
    have HQ := Lib.hid hq
    have HA := Lib.hid hall
    have hqm : q ≤ m := by omega
    clear hq hall
    by_cases hlt : q < m
    · obtain ⟨b, off, x, rfl, hb, hx, d0⟩ := Ints.get hL hlt
      have HX := Lib.hid hx
      clear hx
      go_wp2_with (go_at_call 56; refine (betweenH_any _ _ _ _).mono ?_; rintro e w' ⟨rfl, rfl⟩)
      · have hin : ownB n x = false := by simpa [ownB] using ‹(!btw x 0 (↑n - 1)) = true›
        go_ret
        exact ⟨ret_bool (by rw [all_not HX.out hin]), rfl⟩
      · have hin : ownB n x = true := by simpa [ownB] using ‹(!btw x 0 (↑n - 1)) = false›
        go_roundg (gk - 1)
        case measure => have := HQ.out; omega
        case rel => exact ⟨q + 1, by have := HQ.out; omega, by go_num, all_step HA.out HX.out hin, rfl⟩
    · obtain rfl : q = m := by omega
      go_wp2
      go_ret
      exact ⟨ret_bool (by have := HA.out; rw [← HL.out, List.take_length] at this; exact this.symm), rfl⟩
theorem isFlock_any (p : Nat) (t : Int) (A : Option Addr) (n c : Nat) (Ak : Option Addr) (nk ck : Nat) (hs ds : Value) (deed owner now : Int) (x : Int) (w : World) (hp : w.heap[p]? = some (bkObj t A n c (.slice Ak nk ck) hs ds deed owner now)) (hn : nk ≤ maxLen) :
    Calls Try.prog 75 #[.pointer (some ⟨p, 0, none⟩), .int .i64 x] w fun e w' => e = .returned (.bool (ownB nk x)) ∧ w = w' := by
  unfold maxLen at hn
  obtain ⟨p0, p1, p2, p3, p4, p5, p6, p7⟩ := blkB hp
  have hpl := heap_lt hp
  clear hp
  go_enter Try.func75, Try.ntmps75
  go_wp2_with (go_at_call 56; refine (betweenH_any _ _ _ _).mono ?_; rintro e w' ⟨rfl, rfl⟩)
  go_ret
  exact ⟨rfl, rfl⟩

set_option maxRecDepth 100000 in
set_option maxHeartbeats 1000000 in
theorem flocks_any (p : Nat) (b : Hb) (deed owner now : Int) (w : World) (hp : w.heap[p]? = some (b.bk deed owner now)) (hin : HbIn w b) :
    Calls Try.prog 112 #[.pointer (some ⟨p, 0, none⟩)] w fun e w' => e = .returned (.int .i64 (flocksE b.l.length b.ks b.hs)) ∧ w = w' := by
  have hk := hin.k
  have hkm : b.ks.length ≤ maxLen := Nat.le_trans hin.kc hin.km
  have hnm : b.l.length ≤ maxLen := Nat.le_trans hin.mc hin.mm
  have hhm : b.hs.length ≤ maxLen := Nat.le_trans hin.hc hin.hm
  have hG := hin.h
  have HO := Lib.hid (isOwner_any p .nilFunc b.t b.A b.l.length b.c b.vk b.vh b.vd deed owner now b.Ak b.ks.length b.ck b.ks w hp hk hnm hkm)
  obtain ⟨p0, p1, p2, p3, p4, p5, p6, p7⟩ := blkB hp
  have hpl := heap_lt hp
  replace p2 : w.cell? ⟨p, 2, none⟩ = some (.slice b.Ak b.ks.length b.ck) := p2
  obtain ⟨Ah, hAh⟩ : ∃ Ah, Ah = b.Ah := ⟨_, rfl⟩
  replace p3 : w.cell? ⟨p, 3, none⟩ = some (.slice Ah b.hs.length b.ch) := by rw [hAh]; exact p3
  rw [← hAh] at hG
  obtain ⟨nk, hnk⟩ : ∃ nk, nk = b.ks.length := ⟨_, rfl⟩
  obtain ⟨nh, hnh⟩ : ∃ nh, nh = b.hs.length := ⟨_, rfl⟩
  obtain ⟨n, hnn⟩ : ∃ n, n = b.l.length := ⟨_, rfl⟩
  rw [← hnk] at p2 hkm
  rw [← hnh] at p3 hG hhm
  rw [← hnn] at p1 hnm
  have HN := Lib.hid (And.intro hnk (And.intro hnh hnn))
  unfold maxLen at hkm hnm hhm
  clear hp hin hk hAh hnk hnh hnn p0 p4 p5 p6 p7
  go_enter Try.func112, Try.ntmps112
  obtain ⟨ab, hab⟩ : ∃ ab, ab = b.ks.all (ownB b.l.length) := ⟨_, rfl⟩
  rw [← hab, ← HN.out.1] at HO
  have HAB := Lib.hid hab
  clear hab
  by_cases h0 : nk = 0
  · have x0 : ((nk : Int) == 0) = true := by simp [h0]
    have H0 := Lib.hid h0
    clear h0
    go_wp2_with fail
    go_ret
    exact ⟨ret_int (by unfold flocksE; rw [if_pos (by rw [← HN.out.1]; exact H0.out)]), rfl⟩
  have x0 : ((nk : Int) == 0) = false := by simp [h0]
  have H0 := Lib.hid h0
  clear h0
  by_cases h3 : 3 < nk
  · have x3 : decide (3 < (nk : Int)) = true := by simp; omega
    have H3 := Lib.hid h3
    clear h3
    go_wp2_with fail
    go_ret
    exact ⟨ret_int (by unfold flocksE; rw [if_neg (by rw [← HN.out.1]; exact H0.out), if_pos (by rw [← HN.out.1]; exact H3.out)]), rfl⟩
  have x3 : decide (3 < (nk : Int)) = false := by simp; omega
  have H3 := Lib.hid h3
  clear h3
  cases ab with
  | false =>
    go_wp2_with (go_at_call 89; refine HO.out.mono ?_; rintro e w' ⟨rfl, rfl⟩)
    go_ret
    exact ⟨ret_int (by unfold flocksE; rw [if_neg (by rw [← HN.out.1]; exact H0.out), if_neg (by rw [← HN.out.1]; exact H3.out), if_pos HAB.out.symm]), rfl⟩
  | true =>
  by_cases hh : nh = nk
  · have x4 : ((nh : Int) != (nk : Int)) = false := by simp [hh]
    have HE := Lib.hid (show flocksE b.l.length b.ks b.hs = if b.hs.all (fun r => decide (r.length = b.l.length)) = false then 2 else if b.hs.all (fun r => r.all fun x => btw x 0 20) = false then 1 else 0 by
      unfold flocksE; rw [if_neg (by rw [← HN.out.1]; exact H0.out), if_neg (by rw [← HN.out.1]; exact H3.out), if_neg (by rw [← HAB.out]; simp), if_neg (by rw [← HN.out.1, ← HN.out.2.1]; simpa using hh)])
    clear hh H0 H3 HAB
    go_wp2_with (go_at_call 89; refine HO.out.mono ?_; rintro e w' ⟨rfl, rfl⟩)
    clear x0 x3 x4 HO
    go_loopg [46] nh (fun g v wr => ∃ k : Nat, k + g = nh ∧ v = .int .i64 k ∧ (b.hs.take k).all (fun r => decide (r.length = b.l.length)) = true ∧ w = wr)
    case atStart => exact ⟨0, by omega, rfl, by simp, rfl⟩
    case round =>
      obtain ⟨k, hk, rfl, hall, rfl⟩ := hrel
      have HK := Lib.hid (And.intro hk hall)
      clear hk hall
      by_cases hlt : k < nh
      · obtain ⟨bi, off, B, row, cx, hA, hb, hr, d0, hin, hlc, hcm⟩ := hG.get hlt
        subst hA
        unfold maxLen at hcm
        have HR := Lib.hid (And.intro hr hin)
        clear hr hin
        by_cases hrl : row.length = n
        · have y0 : ((row.length : Int) != (n : Int)) = false := by simp [hrl]
          have HL := Lib.hid hrl
          clear hrl
          go_wp2_with fail
          go_roundg (gk - 1)
          case measure => have := HK.out; omega
          case rel => exact ⟨k + 1, by have := HK.out; omega, by go_num, by rw [List.take_add_one, HR.out.1, List.all_append, HK.out.2]; simp [HL.out, ← HN.out.2.2], rfl⟩
        · have y0 : ((row.length : Int) != (n : Int)) = true := by simp; omega
          have HL := Lib.hid hrl
          clear hrl
          go_wp2_with fail
          go_ret
          have h2 : b.hs.all (fun r => decide (r.length = b.l.length)) = false := by
            rw [List.all_eq_false]
            exact ⟨row, List.mem_of_getElem? HR.out.1, by have := HL.out; rw [HN.out.2.2] at this; simpa using this⟩
          exact ⟨ret_int (by rw [HE.out, if_pos h2]), rfl⟩
      · obtain rfl : k = nh := by have := HK.out.1; omega
        have HAL := Lib.hid (show b.hs.all (fun r => decide (r.length = b.l.length)) = true by have := HK.out.2; rw [HN.out.2.1, List.take_length] at this; exact this)
        clear hlt
        go_wp2_with fail
        go_loopg [67] k (fun g v wr => ∃ q : Nat, q + g = k ∧ v = .int .i64 q ∧ (b.hs.take q).all (fun r => r.all fun x => btw x 0 20) = true ∧ w = wr)
        case atStart => exact ⟨0, by omega, rfl, by simp, rfl⟩
        case round =>
          obtain ⟨q, hq, rfl, hall, rfl⟩ := hrel
          have HQ := Lib.hid (And.intro hq hall)
          clear hq hall
          by_cases hlt : q < k
          · obtain ⟨bi, off, B, row, cx, hA, hb, hr, d0, hin, hlc, hcm⟩ := hG.get hlt
            subst hA
            unfold maxLen at hcm
            have HR := Lib.hid hr
            clear hr
            go_wp2_with fail
            obtain ⟨go, rfl⟩ : ∃ go : Nat, go = gk := ⟨_, rfl⟩
            go_loopg [73] row.length (fun g v wr => ∃ j : Nat, j + g = row.length ∧ v = .int .i64 j ∧ (row.take j).all (fun x => btw x 0 20) = true ∧ w = wr)
            case atStart => exact ⟨0, by omega, rfl, by simp, rfl⟩
            case round =>
              obtain ⟨j, hj, rfl, hall, rfl⟩ := hrel
              have HJ := Lib.hid (And.intro hj hall)
              clear hj hall
              by_cases hjl : j < row.length
              · obtain ⟨bx, ofx, x, rfl, hbx, hx, dx⟩ := Ints.get hin hjl
                have HX := Lib.hid hx
                clear hx
                go_wp2_with (go_at_call 56; refine (betweenH_any _ _ _ _).mono ?_; rintro e w' ⟨rfl, rfl⟩)
                · have hb : btw x 0 20 = false := by simpa using ‹(!btw x 0 20) = true›
                  go_ret
                  have h2 : b.hs.all (fun r => r.all fun x => btw x 0 20) = false := List.all_eq_false.2 ⟨row, List.mem_of_getElem? HR.out, by rw [all_not (f := fun x => btw x 0 20) HX.out hb]; simp⟩
                  exact ⟨ret_int (by rw [HE.out, if_neg (by rw [HAL.out]; simp), if_pos h2]), rfl⟩
                · have hb : btw x 0 20 = true := by simpa using ‹(!btw x 0 20) = false›
                  go_roundg (gk - 1)
                  case measure => have := HJ.out; omega
                  case rel => exact ⟨j + 1, by have := HJ.out; omega, by go_num, all_step HJ.out.2 HX.out hb, rfl⟩
              · obtain rfl : j = row.length := by have := HJ.out.1; omega
                go_wp2_with fail
                go_roundg (go - 1)
                case measure => have := HQ.out; omega
                case rel => exact ⟨q + 1, by have := HQ.out; omega, by go_num, by have := HJ.out.2; rw [List.take_length] at this; rw [List.take_add_one, HR.out, List.all_append, HQ.out.2]; simp only [Option.toList, List.all_cons, List.all_nil, Bool.and_true, Bool.true_and]; exact this, rfl⟩
          · obtain rfl : q = k := by have := HQ.out.1; omega
            go_wp2_with fail
            go_ret
            have h2 : b.hs.all (fun r => r.all fun x => btw x 0 20) = true := by have := HQ.out.2; rw [HN.out.2.1, List.take_length] at this; exact this
            exact ⟨ret_int (by rw [HE.out, if_neg (by rw [HAL.out]; simp), if_neg (by rw [h2]; simp)]), rfl⟩
  · have x4 : ((nh : Int) != (nk : Int)) = true := by simp; omega
    have HH := Lib.hid hh
    clear hh
    go_wp2_with (go_at_call 89; refine HO.out.mono ?_; rintro e w' ⟨rfl, rfl⟩)
    go_ret
    exact ⟨ret_int (by unfold flocksE; rw [if_neg (by rw [← HN.out.1]; exact H0.out), if_neg (by rw [← HN.out.1]; exact H3.out), if_neg (by rw [← HAB.out]; simp), if_pos (by rw [← HN.out.1, ← HN.out.2.1]; exact HH.out)]), rfl⟩
end Go.Proofs.Ytmennjmjakdkcaa
