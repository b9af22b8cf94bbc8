/- mestalaw03.MarkFound returns true. -/
import Derived.Test.YtoidaigiejilcaaMarking
import Derived.Test.YtoidaigiejilcaaFoundK
import Derived.Test.YtoidaigiejilcaaLawI
import Derived.Test.YtoidaigiejilcaaLawM
import Derived.Test.YtoidaigiejilcaaWornK
import Derived.Test.YtoidaigiejilcaaLeft
import Derived.Test.YtoidaigiejilcaaOwners
import Derived.Deep.RegionHeld3
namespace Go.Proofs.Ytoidaigiejilcaa
open Go.RowKit
set_option linter.unusedVariables false
set_option linter.unusedSimpArgs false

/-- a block of integers, known whole -/
def MisB (w : World) (G : Nat) (mis : List Int) : Prop := w.heap[G]? = some (.cells (mis.map (Value.int .i64)).toArray 3 (0, 0))
theorem flat_map_int (x : List Int) : x.flatMap eInt = x.map (Value.int .i64) := by
  induction x with
  | nil => rfl
  | cons a r ih => rw [List.flatMap_cons, ih]; rfl
theorem MisB.ints {w : World} {G : Nat} {mis : List Int} (h : MisB w G mis) : Ints w (some ⟨G, 0, none⟩) mis.length mis :=
  Sl.of_blk h (flat_map_int mis).symm lenInt
theorem MisB.keep {w w' : World} {G : Nat} {mis : List Int} (h : MisB w G mis) (e : w'.heap[G]? = w.heap[G]?) : MisB w' G mis := e.trans h
theorem MisB.set {w : World} {G o : Nat} {mis : List Int} (h : MisB w G mis) (x : Int) : MisB (w.setCell ⟨G, o, none⟩ (.int .i64 x)) G (mis.set o x) := by
  unfold MisB
  rw [set_blk h, List.setIfInBounds_toArray, List.map_set]
theorem MisB.cell {w : World} {G : Nat} {mis : List Int} (h : MisB w G mis) {o : Nat} (ho : o < mis.length) : w.cell? ⟨G, o, none⟩ = some (.int .i64 (mis.getD o 0)) := by
  unfold World.cell?
  rw [show w.heap[G]? = _ from h]
  simp [ho]
theorem MisB.free {w : World} {G : Nat} {mis : List Int} (h : MisB w G mis) (i : Nat) : w.frozen? ⟨G, i, none⟩ = false := frz h i
theorem made_zero (n : Nat) : madeCells #[Value.int .i64 0] n = ((List.replicate n (0 : Int)).map (Value.int .i64)).toArray := by
  apply Array.ext
  · simp [size_madeCells]
  · intro i h1 h2
    simp [madeCells, Nat.mod_one]
theorem Own.nb {α : Type} {enc : α → List Value} {e : TypeId} {sz : Nat} {w : World} {base b : Nat} {v : Value} {l : List α} (h : Own enc e sz w base v l) (hb : b < base) : v.ownBlock ≠ some b := fun k => by
  have := (h.lt _ k).1; omega
theorem gcell {w w' : World} {v u : Value} {b o base : Nat} (hg : w.grownBy w' v.ownBlock) (hc : w.cell? ⟨b, o, none⟩ = some u) (hv : ∀ k, v.ownBlock = some k → base ≤ k) (hb : b < base) : w'.cell? ⟨b, o, none⟩ = some u :=
  hg.cell hc (fun e => by
    have e' : v.ownBlock = some b := e.symm
    have := hv b e'; omega)
theorem Sl.gbv {α : Type} {enc : α → List Value} {sz : Nat} {w w' : World} {A : Option Addr} {n base : Nat} {l : List α} {v : Value} (h : Sl enc sz w A n l) (hg : w.grownBy w' v.ownBlock) (hv : ∀ k, v.ownBlock = some k → base ≤ k) (hA : ∀ b off, A = some ⟨b, off, none⟩ → b < base) : Sl enc sz w' A n l :=
  ⟨h.1, fun hn => by
    obtain ⟨b, off, e, hc⟩ := h.2 hn
    exact ⟨b, off, e, fun i x hx j u hu => gcell hg (hc i x hx j u hu) hv (hA b off e)⟩⟩
theorem gblk {w w' : World} {v : Value} {b base : Nat} {o : Obj} (hg : w.grownBy w' v.ownBlock) (hc : w.heap[b]? = some o) (hv : ∀ k, v.ownBlock = some k → base ≤ k) (hb : b < base) : w'.heap[b]? = some o :=
  (hg.block b (heap_lt hc) (fun e => by
    have e' : v.ownBlock = some b := e.symm
    have := hv b e'; omega)).trans hc
theorem Sl.far {α : Type} {enc : α → List Value} {sz : Nat} {w : World} {A : Option Addr} {n g i : Nat} {l : List α} {v : Value} (h : Sl enc sz w A n l) (hA : ∀ b off, A = some ⟨b, off, none⟩ → b ≠ g) : Sl enc sz (w.setCell ⟨g, i, none⟩ v) A n l :=
  ⟨h.1, fun hn => by
    obtain ⟨b, off, e, hc⟩ := h.2 hn
    refine ⟨b, off, e, fun i x hx j u hu => ?_⟩
    have h1 := hc i x hx j u hu
    unfold World.cell? at h1 ⊢
    rw [Below.heap_setCell _ ⟨g, _, none⟩ _ _ (by have := hA b off e; exact this)]
    exact h1⟩
/-- strays and their owners -/
def FitL (t : Int) (l : List Mk) (ss : List Sg) (os : List Int) : Prop := ∀ (k : Nat) s o, ss[k]? = some s → os[k]? = some o → seen s 9 6 = 0 ∧ ∃ (on : Nat) (m : Mk), o = (on : Int) ∧ l[on]? = some m ∧ fits s m t = true
theorem FitL.snoc {t : Int} {l : List Mk} {ss : List Sg} {os : List Int} {s : Sg} {on : Nat} {m : Mk} (h : FitL t l ss os) (hl : ss.length = os.length) (hs : seen s 9 6 = 0) (hm : l[on]? = some m) (hf : fits s m t = true) : FitL t l (ss ++ [s]) (os ++ [(on : Int)]) := by
  intro k s' o' hs' ho'
  rcases Nat.lt_or_ge k ss.length with hk | hk
  · rw [List.getElem?_append_left hk] at hs'
    rw [List.getElem?_append_left (by omega)] at ho'
    exact h k s' o' hs' ho'
  · rw [List.getElem?_append_right hk] at hs'
    rw [List.getElem?_append_right (by omega)] at ho'
    have h0 : k - ss.length = 0 := by
      cases hd : k - ss.length with
      | zero => rfl
      | succ j => rw [hd] at hs'; simp at hs'
    rw [h0] at hs'
    rw [show k - os.length = 0 by omega] at ho'
    simp at hs' ho'
    subst hs'; subst ho'
    exact ⟨hs, on, m, rfl, hm, hf⟩
/-- what has been dealt so far -/
def FI (H RB G base n0 : Nat) (w1 : World) (tn : Nat) (A1 : Option Addr) (c1 : Nat) (l : List Mk) (g : Nat) (v6 v7 : Value) (wr : World) : Prop :=
  ∃ ss os mis, OwnS wr base v6 ss ∧ OwnI wr base v7 os ∧ MisB wr G mis ∧ wr.heap[RB]? = some (Obj.cells #[Value.int .i64 (tn : Int), .slice A1 l.length c1] 25 (0, 0)) ∧ Marks wr A1 l.length l ∧ Dealt w1 wr H (1000 * (n0 - g) + 200) ∧
    ss.length = os.length ∧ ss.length + g ≤ n0 ∧ mis.length = l.length ∧ (∀ o : Nat, o < l.length → mis.getD o 0 = (cntI os (o : Int) : Int)) ∧ base ≤ wr.heap.size ∧ FitL tn l ss os

theorem found_law {t : Int} {l : List Mk} {ss : List Sg} {os mis : List Int} (hn5 : l.length ≤ 5) (hsl : ss.length = os.length) (hft : FitL t l ss os) (hcn : ∀ o : Nat, o < l.length → (cntI os (o : Int) : Int) ≤ mis.getD o 0) (hm0 : ∀ x ∈ mis, 0 ≤ x) (hge : gatherE t l ss mis = 0) :
    homeE t l ss mis = 0 ∧ (homeL t l ss mis).length = ss.length ∧ leftR t l ss mis = [] ∧ (ownersR t l ss mis).length = ss.length ∧
      ∀ k, k < ss.length → ∃ row, (ownersR t l ss mis)[k]? = some row ∧ (∀ o, os[k]? = some o → o ∈ row) ∧ ∀ o, (homeL t l ss mis)[k]? = some o → o ∈ row := by
  have hmay : (mays t l ss).length = ss.length := by unfold mays; simp
  have hval : ∀ y ∈ os, 0 ≤ y ∧ y < l.length := fun y hy => by
    obtain ⟨k, hk⟩ := List.getElem?_of_mem hy
    have hkl := (List.getElem?_eq_some_iff.1 hk).1
    obtain ⟨_, on, m, rfl, hm, _⟩ := hft k _ y (List.getElem?_eq_getElem (show k < ss.length by omega)) hk
    have := (List.getElem?_eq_some_iff.1 hm).1
    omega
  have hg : givesB t l ss mis os = true := by
    unfold givesB
    rw [Bool.and_eq_true, List.all_eq_true, List.all_eq_true]
    refine ⟨fun o ho => decide_eq_true (hcn o (List.mem_range.1 ho)), fun i hi => ?_⟩
    have hil := List.mem_range.1 hi
    have hs := List.getElem?_eq_getElem (show i < ss.length by omega)
    have ho := List.getElem?_eq_getElem hil
    obtain ⟨_, on, m, he, hm, hf⟩ := hft i _ _ hs ho
    unfold fitAt mkAt
    rw [List.getD_eq_getElem?_getD, ho, List.getD_eq_getElem?_getD, hs]
    simp only [Option.getD_some, he, Int.toNat_natCast, hm, hf, Bool.or_true]
  have hos : os ∈ allW l ss := words_mem hsl.symm hval
  have hall := give_all (t := t) (l := l) (ss := ss) (mis := mis) hn5 hm0
  have hsome : ((allW l ss).find? (givesB t l ss mis)).isSome = true := by
    rw [List.find?_isSome]; exact ⟨os, hos, hg⟩
  obtain ⟨x, hx⟩ := Option.isSome_iff_exists.1 hsome
  have hxg := List.find?_some hx
  have hxm := List.mem_of_find?_eq_some hx
  have hxl := (wordsL_mem hxm).1
  rw [hx] at hall
  have hE : homeE t l ss mis = 0 := by
    unfold homeE
    rw [if_neg (by rw [hge]; simp), hall]
    simp
  have hL : homeL t l ss mis = x := by
    unfold homeL
    rw [if_neg (by rw [hge]; simp), hall]
    rfl
  have hO : ownersR t l ss mis = ownersG (mays t l ss) mis := by unfold ownersR; rw [if_pos hE]
  refine ⟨hE, by rw [hL]; exact hxl, ?_, by rw [hO]; unfold ownersG; simp [hmay], fun k hk => ?_⟩
  · unfold leftR
    rw [if_pos hge]
    unfold leftL
    show (match pickRest (mays t l ss).length (fun set => (giveL (mays t l ss) mis set (fun _ _ => true)).isSome) 0 0 0 with | some l => some l | none => leftOf (mays t l ss) mis (mays t l ss).length (0 + 1)).getD [] = []
    unfold pickRest
    rw [hall]
    rfl
  · have hrow := owns_all (t := t) (l := l) (ss := ss) (mis := mis) hn5 hm0 hk
    refine ⟨ownsRow (mays t l ss) mis k, ?_, fun o ho => ?_, fun o ho => ?_⟩
    · rw [hO]
      unfold ownersG
      rw [List.getElem?_map, List.getElem?_range (by rw [hmay]; exact hk)]
      rfl
    · have hov := hval o (List.mem_of_getElem? ho)
      obtain ⟨on, rfl⟩ := Int.eq_ofNat_of_zero_le hov.1
      rw [hrow, List.mem_map]
      refine ⟨on, List.mem_filter.2 ⟨List.mem_range.2 (by omega), ?_⟩, rfl⟩
      unfold hasB
      rw [List.take_of_length_le (Nat.le_refl _), List.any_eq_true]
      refine ⟨os, hos, ?_⟩
      rw [hg, Bool.true_and, List.getD_eq_getElem?_getD, ho]
      simp
    · rw [hL] at ho
      have hov := (wordsL_mem hxm).2 o (List.mem_of_getElem? ho)
      obtain ⟨on, rfl⟩ := Int.eq_ofNat_of_zero_le hov.1
      rw [hrow, List.mem_map]
      refine ⟨on, List.mem_filter.2 ⟨List.mem_range.2 (by omega), ?_⟩, rfl⟩
      unfold hasB
      rw [List.take_of_length_le (Nat.le_refl _), List.any_eq_true]
      refine ⟨x, hxm, ?_⟩
      rw [hxg, Bool.true_and, List.getD_eq_getElem?_getD, ho]
      simp
/-- what owners miss, the first o of them perhaps one more -/
def FJ (H RB G base : Nat) (w1 : World) (tn : Nat) (A1 : Option Addr) (c1 : Nat) (l : List Mk) (ss : List Sg) (os : List Int) (v6 v7 : Value) (o : Nat) (wr : World) : Prop :=
  ∃ mis, OwnS wr base v6 ss ∧ OwnI wr base v7 os ∧ MisB wr G mis ∧ wr.heap[RB]? = some (Obj.cells #[Value.int .i64 (tn : Int), .slice A1 l.length c1] 25 (0, 0)) ∧ Marks wr A1 l.length l ∧ Dealt w1 wr H (10000 + o) ∧
    mis.length = l.length ∧ (∀ o' : Nat, o' < l.length → (cntI os (o' : Int) : Int) ≤ mis.getD o' 0 ∧ mis.getD o' 0 ≤ cntI os (o' : Int) + if o' < o then 1 else 0) ∧ base ≤ wr.heap.size
theorem FJ.next {H RB G base : Nat} {w1 : World} {tn : Nat} {A1 : Option Addr} {c1 : Nat} {l : List Mk} {N o : Nat} {v6 v7 : Value} {w7 w8 : World} {ss : List Sg} {os mis : List Int} {z x : Int}
    (h1 : OwnS w7 base v6 ss) (h2 : OwnI w7 base v7 os) (h3 : MisB w7 G mis) (h4 : w7.heap[RB]? = some (Obj.cells #[Value.int .i64 (tn : Int), .slice A1 l.length c1] 25 (0, 0))) (h5 : Marks w7 A1 l.length l) (h6 : Dealt w1 w7 H N) (h7 : mis.length = l.length)
    (h8 : ∀ o' : Nat, o' < l.length → (cntI os (o' : Int) : Int) ≤ mis.getD o' 0 ∧ mis.getD o' 0 ≤ cntI os (o' : Int) + if o' < o then 1 else 0) (h9 : base ≤ w7.heap.size)
    (hd : Dealt w7 w8 H (10000 + (o + 1))) (hz : z = mis.getD o 0) (hx : x = 0 ∨ x = 1) (ho : o < l.length) (hH : H < RB) (hRG : RB < G) (hG : G < base) (hA : ∀ b off, A1 = some ⟨b, off, none⟩ → b < RB ∧ b ≠ H) (hw1 : w1.heap.size ≤ RB) :
    FJ H RB G base w1 tn A1 c1 l ss os v6 v7 (o + 1) (w8.setCell ⟨G, o, none⟩ (.int .i64 (z + x))) := by
  have hfar : ∀ j, j ≠ G → (w8.setCell ⟨G, o, none⟩ (.int .i64 (z + x))).heap[j]? = w8.heap[j]? := fun j hj => Below.heap_setCell w8 ⟨G, o, none⟩ _ j hj
  have hup : ∀ j, base ≤ j → (w8.setCell ⟨G, o, none⟩ (.int .i64 (z + x))).heap[j]? = w8.heap[j]? := fun j hj => hfar j (by omega)
  have hs8 := hd.size
  have hm8 : MisB w8 G mis := hd.blk h3 (by omega)
  refine ⟨mis.set o (z + x), (h1.kept hd.gr (.inr (Own.nb h1 (by omega)))).upon hup, (h2.kept hd.gr (.inr (Own.nb h2 (by omega)))).upon hup, hm8.set _, (hfar _ (by omega)).trans (hd.blk h4 (by omega)), (h5.dealt hd (fun b off e => (hA b off e).2)).far (fun b off e => by have := hA b off e; omega), (h6.trans hd).set (by dsimp; omega) (by dsimp; omega) _, by simpa using h7, fun o' ho' => ?_, by simp [World.setCell]; omega⟩
  have h := h8 o' ho'
  by_cases hoo : o' = o
  · subst hoo
    rw [List.getD_eq_getElem?_getD, List.getElem?_set_self (by omega)]
    show _ ≤ z + x ∧ z + x ≤ _
    rw [if_neg (by omega)] at h
    rw [if_pos (by omega), hz]
    omega
  · rw [List.getD_eq_getElem?_getD, List.getElem?_set_ne (fun e => hoo e.symm), ← List.getD_eq_getElem?_getD]
    by_cases hlt : o' < o
    · rw [if_pos hlt] at h; rw [if_pos (by omega)]; exact h
    · rw [if_neg hlt] at h; rw [if_neg (by omega)]; exact h
theorem FI.next {H RB G base n0 : Nat} {w1 : World} {tn : Nat} {A1 : Option Addr} {c1 : Nat} {l : List Mk} {g N o : Nat} {v6 v7 v8 : Value} {w7 w8 : World} {ss : List Sg} {os mis : List Int} {S : Sg} {mk : Mk} {y : Int} {ob : Obj}
    (hown7 : OwnS w7 base v6 (ss ++ [S])) (hbr7 : w7.heap[RB]? = some (Obj.cells #[Value.int .i64 (tn : Int), .slice A1 l.length c1] 25 (0, 0))) (hoo7 : OwnI w7 base v7 os) (hmr7 : Marks w7 A1 l.length l) (hD7 : Dealt w1 w7 H N) (hN : N ≤ 1000 * (n0 - (g - 1)) + 200)
    (hown8 : OwnI w8 base v8 (os ++ [(o : Int)])) (hgr8 : (w7.drew.alloc ob).grownBy w8 v7.ownBlock) (hm8 : MisB w8 G mis) (hH : H < RB) (hRG : RB < G) (hG : G < base) (hw1 : w1.heap.size ≤ RB) (hb7 : base ≤ w7.heap.size) (hA : ∀ b off, A1 = some ⟨b, off, none⟩ → b < RB)
    (hsl : ss.length = os.length) (hsg : ss.length + g ≤ n0) (hg : 0 < g) (hml : mis.length = l.length) (hcn : ∀ o : Nat, o < l.length → mis.getD o 0 = (cntI os (o : Int) : Int)) (hft : FitL tn l ss os) (hmk : l[o]? = some mk) (hfit : fits S mk tn = true) (hsee : seen S 9 6 = 0) (hy : y = mis.getD o 0) :
    FI H RB G base n0 w1 tn A1 c1 l (g - 1) v6 v8 (w8.setCell ⟨G, o, none⟩ (.int .i64 (y + 1))) := by
  have hol : o < l.length := (List.getElem?_eq_some_iff.1 hmk).1
  have hv7 : ∀ k, v7.ownBlock = some k → base ≤ k := fun k hk => (hoo7.lt k hk).1
  have hfar : ∀ j, j ≠ G → (w8.setCell ⟨G, o, none⟩ (.int .i64 (y + 1))).heap[j]? = w8.heap[j]? := fun j hj => Below.heap_setCell w8 ⟨G, o, none⟩ _ j hj
  have hup : ∀ j, base ≤ j → (w8.setCell ⟨G, o, none⟩ (.int .i64 (y + 1))).heap[j]? = w8.heap[j]? := fun j hj => hfar j (by omega)
  have hdr : Below w7.heap.size w7 (w7.drew.alloc ob) := (below_drewN (Below.refl _ _) 1).trans (bal0 w7.drew ob)
  have hs7 := hdr.size
  have hs8 := hgr8.size
  refine ⟨ss ++ [S], os ++ [(o : Int)], mis.set o (y + 1), ?_, hown8.upon hup, hm8.set _, ?_, ?_, ?_, by simp [hsl], by simp; omega, by simpa using hml, fun o' ho' => ?_, ?_, hft.snoc hsl hsee hmk hfit⟩
  · exact ((hown7.below hdr (Nat.le_refl _)).kept hgr8 (own_ne hown7 hoo7 (by decide))).upon hup
  · exact (hfar _ (by omega)).trans (gblk hgr8 (bheap hbr7 hdr (Nat.le_refl _)) hv7 (by omega))
  · exact ((hmr7.below hdr (Nat.le_refl _)).gbv hgr8 hv7 (fun b off e => by have := hA b off e; omega)).far (fun b off e => by have := hA b off e; omega)
  · exact (((hD7.less hdr (Nat.le_refl _)).grown hgr8 (fun k hk => by have := hv7 k hk; omega)).set (by dsimp; omega) (by dsimp; omega) _).mono hN
  · rw [cntI_snoc]
    by_cases hoo : o' = o
    · subst hoo
      have hz := hcn o' ho'
      rw [if_pos rfl, List.getD_eq_getElem?_getD, List.getElem?_set_self (by omega)]
      show y + 1 = _
      rw [hy, hz]
      simp
    · have hz := hcn o' ho'
      rw [if_neg (by omega), List.getD_eq_getElem?_getD, List.getElem?_set_ne (fun e => hoo e.symm), ← List.getD_eq_getElem?_getD, hz]
      simp
  · simp [World.setCell]; omega

set_option maxRecDepth 400000 in
set_option maxHeartbeats 4000000 in
theorem MarkFound_any (A : Option Addr) (n c : Nat) (nums : List Int) (w : World) (hl : Ints w A n nums) (hn : n ≤ 9223372036854775807) :
    Calls Try.prog 6 #[.slice A n c] w fun e w' => e = .returned (.bool true) ∧ Below w.heap.size w w' := by
  go_enter Try.func6, Try.ntmps6
  go_wp2_with fail
  refine (newHand_any A n c nums _ hl hn).mono ?_
  rintro e w1 ⟨rfl, hh, hb1, hz1⟩
  have HB1 := Lib.hid hb1
  clear hl hb1
  go_wp2_with fail
  refine (registerOf_any w.heap.size 0 4 _ hh (by omega) (by omega)).mono ?_
  rintro e w2 ⟨t, l, A1, c1, rfl, hck, hl4, hown, hms, hlc, hcm, hd2⟩
  obtain ⟨ht0, ht2, _, _⟩ := check_ok hck
  obtain ⟨tn, rfl⟩ := Int.eq_ofNat_of_zero_le ht0
  have HCK := Lib.hid hck
  clear hck
  have hz2 := hd2.size
  have hbase : ∀ b off, A1 = some ⟨b, off, none⟩ → w1.heap.size ≤ b ∧ b < w2.heap.size := fun b off e => by
    have := hown.lt b (by rw [e]; rfl)
    exact this
  have HBA := Lib.hid hbase
  go_upto_region 3 with (fail)
  obtain ⟨W, hW⟩ : ∃ W, W = w2.alloc (Obj.cells #[Value.int .i64 (tn : Int), .slice A1 l.length c1] 25) := ⟨_, rfl⟩
  rw [← hW]
  have bW : W.heap[w2.heap.size]? = some (Obj.cells #[Value.int .i64 (tn : Int), .slice A1 l.length c1] 25 (0, 0)) := by rw [hW]; exact alloc_at rfl
  have hDW : Dealt w1 W w.heap.size 100 := by rw [hW]; exact hd2.alloc _
  have hmsW : Marks W A1 l.length l := by rw [hW]; exact hms.alloc _
  have hzW : W.heap.size = w2.heap.size + 1 := by rw [hW]; simp
  obtain ⟨r0, r1⟩ := blk2 bW
  have hlW := heap_lt bW
  have HW := Lib.hid (And.intro bW (And.intro hDW (And.intro hmsW hzW)))
  have HZ1 := Lib.hid hz1
  clear hW bW hDW hmsW hms hown hd2 hh hbase hz1 hzW
  have hmk : ∀ W : World, (Instr.makeSlice 22 (.int .i64 (l.length : Int)) (.int .i64 (l.length : Int))).run Try.prog W = .ok (.slice (some ⟨W.heap.size, 0, none⟩) l.length l.length) (W.alloc (.cells (madeCells #[.int .i64 0] l.length) 3)) :=
    run_make_row' (P := Try.prog) 22 3 (.int .i64 0) 8 Try.underlying22 (by kernel_rfl) rfl .i64 .i64 l.length (by omega) (by omega)
  go_upto_region 6 with (fail)
  obtain ⟨W2, hW2⟩ : ∃ W2, W2 = W.alloc (.cells (madeCells #[.int .i64 0] l.length) 3) := ⟨_, rfl⟩
  rw [← hW2]
  have hb2 : Below W.heap.size W W2 := by rw [hW2]; exact bal0 W _
  have hM2 : MisB W2 W.heap.size (List.replicate l.length 0) := by
    unfold MisB
    rw [← made_zero, hW2]
    exact alloc_at rfl
  have hD2 : Dealt w1 W2 w.heap.size 100 := by rw [hW2]; exact HW.out.2.1.alloc _
  have hz2' : W2.heap.size = W.heap.size + 1 := by rw [hW2]; simp
  have HW2 := Lib.hid (And.intro hb2 (And.intro hM2 (And.intro hD2 hz2')))
  clear hW2 hb2 hM2 hD2 hmk r0 r1 hz2'
  go_wp2_with fail
  refine (upto_any w.heap.size 100 4 _ HW2.out.2.2.1.hd (by omega) (by omega)).mono ?_
  rintro e w3 ⟨n0, rfl, hn0, hd3⟩
  have hn04 : n0 ≤ 4 := by omega
  have hb3 := bheap HW.out.1 HW2.out.1 (Nat.le_refl _)
  have hne1 : w2.heap.size ≠ w.heap.size := by have := HZ1.out; omega
  have hne2 : W.heap.size ≠ w.heap.size := by have := HZ1.out; omega
  have hD3 := HW2.out.2.2.1.trans hd3
  have hoff : OffH A1 w.heap.size := fun b off e => by have := HBA.out b off e; have := HZ1.out; omega
  have hs3 := hd3.size
  have HI0 : Hid (FI w.heap.size w2.heap.size W.heap.size W2.heap.size n0 w1 tn A1 c1 l n0 (.slice none 0 0) (.slice none 0 0) w3) := Lib.hid ⟨[], [], List.replicate l.length 0, Own.nil_, Own.nil_, hd3.blk HW2.out.2.1 hne2, hd3.blk hb3 hne1, (HW.out.2.2.1.below HW2.out.1 (Nat.le_refl _)).dealt hd3 hoff, hD3.mono (by omega), rfl, by simp, by simp, (fun o ho => by simp [cntI, ho]), hs3, (fun k s o h => by simp at h)⟩
  clear hd3 hD3 hb3 hn0
  have HLO := Lib.hid (And.intro hoff (And.intro hne1 (And.intro hne2 HW2.out.2.2.2)))
  go_wp2_with fail
  go_loopg [6, 7, 8] n0 (fun g v6 v7 i wr => i = .int .i64 g ∧ g ≤ n0 ∧ (0 < g → True) ∧ FI w.heap.size w2.heap.size W.heap.size W2.heap.size n0 w1 tn A1 c1 l g v6 v7 wr)
  case atStart => exact ⟨rfl, Nat.le_refl _, fun _ => trivial, HI0.out⟩
  case round =>
    obtain ⟨rfl, hgn, -, hfi⟩ := hrel
    obtain ⟨ss, os, mis, hos, hoo, hmb, br, hmr, hD, hsl, hsg, hml, hcn, hbs, hft⟩ := hfi
    obtain ⟨r0, r1⟩ := blk2 br
    have hlr := heap_lt br
    have HF := Lib.hid (And.intro hos (And.intro hoo (And.intro hmb (And.intro br (And.intro hmr (And.intro hD (And.intro hcn hft)))))))
    have HSL := Lib.hid hsl
    have hos4 : os.length ≤ 4 := by omega
    have hsg' : ss.length ≤ 4 := by omega
    clear hos hoo hmb br hmr hcn hft hsl
    by_cases hgo : 0 < gk ∧ 0 < l.length
    · obtain ⟨hg0, hl0⟩ := hgo
      have hg1 : (0 : Int) < (gk : Int) := by omega
      have hl1 : (0 : Int) < (l.length : Int) := by omega
      have hwr : IntKind.i64.wrap ((l.length : Int) - 1) = (l.length : Int) - 1 := IntWalk.i64_in _ (by omega)
      have HDH := Lib.hid hD.hd
      clear hD
      go_wp2_with fail
      refine (upto_any w.heap.size _ ((l.length : Int) - 1) _ HDH.out (by omega) (by omega)).mono ?_
      rintro e w4 ⟨o, rfl, ho, hd4⟩
      have hol : o < l.length := by omega
      have hof := HLO.out.1
      have br4 := hd4.blk HF.out.2.2.2.1 HLO.out.2.1
      have hmr4 := HF.out.2.2.2.2.1.dealt hd4 hof
      have hmb4 := hd4.blk HF.out.2.2.1 HLO.out.2.2.1
      have hos4 := HF.out.1.kept hd4.gr (.inr (fun e => by have := HF.out.1.lt _ e; have := HLO.out.2.2.2; have := HZ1.out; omega))
      have hoo4 := HF.out.2.1.kept hd4.gr (.inr (fun e => by have := HF.out.2.1.lt _ e; have := HLO.out.2.2.2; have := HZ1.out; omega))
      have hs4 := hd4.size
      have HD4 := Lib.hid (And.intro hd4 (And.intro hmb4 (And.intro hos4 hoo4)))
      obtain ⟨bm, om, mk, hA1, hbm, hmk, m0, m1, m2⟩ := Marks.get hmr4 hol
      have hbmH : bm ≠ w.heap.size := hof bm om hA1
      have hbmb : bm < W2.heap.size := by have := HBA.out bm om hA1; have := HLO.out.2.2.2; omega
      have hmv := (check_marks HCK.out mk (List.mem_of_getElem? hmk))
      have HMK := Lib.hid (And.intro hmk (And.intro hA1 (And.intro br4 hmr4)))
      subst hA1
      clear r0 r1
      obtain ⟨r0, r1⟩ := blk2 br4
      have o0 : (0 : Int) ≤ (o : Int) := by omega
      have o1 : (o : Int) < (l.length : Int) := by omega
      obtain ⟨hmv1, hmv2, hmv3⟩ := hmv
      clear ho hd4 hmb4 hos4 hoo4 hmk br4 hmr4 hof
      go_upto_region 10 with (fail)
      have r0d : w4.drew.cell? ⟨w2.heap.size, 0, none⟩ = some (.int .i64 (tn : Int)) := r0
      have r1d : w4.drew.cell? ⟨w2.heap.size, 1, none⟩ = some (.slice (some ⟨bm, om, none⟩) l.length c1) := r1
      have m0d : w4.drew.cell? ⟨bm, om + o * 3, none⟩ = some (.int .i64 mk.n) := m0
      have m1d : w4.drew.cell? ⟨bm, om + o * 3 + 1, none⟩ = some (.int .i64 mk.b) := m1
      have m2d : w4.drew.cell? ⟨bm, om + o * 3 + 2, none⟩ = some (.int .i64 mk.p) := m2
      have hnR := HLO.out.2.1
      have HV6 := Lib.hid (fun k hk => (HD4.out.2.2.1.lt k hk).1)
      have hHW2 : w.heap.size < W2.heap.size := by have := HLO.out.2.2.2; have := HZ1.out; omega
      have HV6H := Lib.hid (Own.nb HD4.out.2.2.1 hHW2)
      have hRB : w2.heap.size < W2.heap.size := by have := HLO.out.2.2.2; omega
      have hss4 : ss.length < 4294967296 := by omega
      have hbs4 : W2.heap.size ≤ w4.heap.size := by omega
      go_region_held3 (fun w' => w'.cell? ⟨w2.heap.size, 0, none⟩ = some (.int .i64 (tn : Int)) ∧ w'.cell? ⟨w2.heap.size, 1, none⟩ = some (.slice (some ⟨bm, om, none⟩) l.length c1) ∧ w'.cell? ⟨bm, om + o * 3, none⟩ = some (.int .i64 mk.n) ∧ w'.cell? ⟨bm, om + o * 3 + 1, none⟩ = some (.int .i64 mk.b) ∧ w'.cell? ⟨bm, om + o * 3 + 2, none⟩ = some (.int .i64 mk.p))
        ((go_split_ands
          refine ⟨?_, ?_, ?_, ?_, ?_⟩
          all_goals first
            | (with_reducible exact r0d)
            | (with_reducible exact r1d)
            | (with_reducible exact m0d)
            | (with_reducible exact m1d)
            | (with_reducible exact m2d)
            | (with_reducible exact q0)
            | (with_reducible exact q1)
            | (with_reducible exact q2)
            | (with_reducible exact q3)
            | (with_reducible exact q4)
            | (with_reducible exact bcell q0 (bal0 _ _) (Nat.le_refl _))
            | (with_reducible exact bcell q1 (bal0 _ _) (Nat.le_refl _))
            | (with_reducible exact bcell q2 (bal0 _ _) (Nat.le_refl _))
            | (with_reducible exact bcell q3 (bal0 _ _) (Nat.le_refl _))
            | (with_reducible exact bcell q4 (bal0 _ _) (Nat.le_refl _))
            | fail))
        (first
          | (go_at_call 32; refine (wearOf_any w.heap.size (1000 * (n0 - gk) + 200 + 1) tn _ ?_ ?_ ?_).mono ?_; (exact HD4.out.1.hd); (omega); (omega); rintro e w5 ⟨s, rfl, hs, hp, hd5⟩; have hdx := hd5.undrew; have hsv := (seen_ok hs).1; have q0 := hdx.cell r0 hnR; have q1 := hdx.cell r1 hnR; have q2 := hdx.cell m0 hbmH; have q3 := hdx.cell m1 hbmH; have q4 := hdx.cell m2 hbmH; clear hd5)
          | (go_at_call 31; refine (wornK_any mk s _ ?_ ?_ ?_ ?_).mono ?_; (omega); (omega); (omega); (omega); rintro e w6 ⟨rfl, hb6⟩; have hdx := hdx.less hb6 (Nat.le_refl _); have q0 := bcell q0 hb6 (Nat.le_refl _); have q1 := bcell q1 hb6 (Nat.le_refl _); have q2 := bcell q2 hb6 (Nat.le_refl _); have q3 := bcell q3 hb6 (Nat.le_refl _); have q4 := bcell q4 hb6 (Nat.le_refl _); obtain ⟨S, hS⟩ : ∃ S, S = wornS mk s := ⟨_, rfl⟩; rw [← hS]; have HS := Lib.hid hS; clear hS; unfold vSg; have hsz6 := hdx.size; clear hb6)
          | (refine step_app okSight (by rfl) _ _ (by rfl) W2.heap.size _ ss S #[.int .i64 S.n, .bool S.l, .bool S.r, .int .i64 S.b, .int .i64 S.p] w6.heap.size (by rfl) (by rfl) (heap_alloc_new w6 _) rfl rfl (one_eSg S) ?_ hss4 (by decide) (by simp; omega) ?_; (exact ((HD4.out.2.2.1.kept hdx.gr (.inr HV6H.out)).alloc _)); intro g7 cap7 w7 hown7 hgr7 hb7; have q0 := gcell hgr7 (bcell q0 (bal0 _ _) (Nat.le_refl _)) HV6.out hRB; have q1 := gcell hgr7 (bcell q1 (bal0 _ _) (Nat.le_refl _)) HV6.out hRB; have q2 := gcell hgr7 (bcell q2 (bal0 _ _) (Nat.le_refl _)) HV6.out hbmb; have q3 := gcell hgr7 (bcell q3 (bal0 _ _) (Nat.le_refl _)) HV6.out hbmb; have q4 := gcell hgr7 (bcell q4 (bal0 _ _) (Nat.le_refl _)) HV6.out hbmb)
          | fail)
      have hdA := hdx.alloc (Obj.cells #[Value.int .i64 S.n, .bool S.l, .bool S.r, .int .i64 S.b, .int .i64 S.p] 44)
      have hA1b : ∀ b off, some (⟨bm, om, none⟩ : Addr) = some ⟨b, off, none⟩ → b < W2.heap.size := fun b off e => by cases e; exact hbmb
      have hGb : W.heap.size < W2.heap.size := by have := HLO.out.2.2.2; omega
      have hmb7 : MisB w7 W.heap.size mis := gblk hgr7 (hdA.blk HD4.out.2.1 HLO.out.2.2.1) HV6.out hGb
      have hbr7 := gblk hgr7 (hdA.blk HMK.out.2.2.1 HLO.out.2.1) HV6.out hRB
      have hoo7 := (HD4.out.2.2.2.kept hdA.gr (.inr (Own.nb HD4.out.2.2.2 hHW2))).kept hgr7 (own_ne HD4.out.2.2.2 HD4.out.2.2.1 (by decide))
      have hmr7 := (HMK.out.2.2.2.dealt hdA HLO.out.1).gbv hgr7 HV6.out hA1b
      have hD7 := ((HF.out.2.2.2.2.2.1.trans HD4.out.1).trans hdA).grown hgr7 (fun k hk => by have := HV6.out k hk; have := HLO.out.2.2.2; have := HZ1.out; omega)
      have hs7 := hb7.size
      have hs6A : (w6.alloc (Obj.cells #[Value.int .i64 S.n, .bool S.l, .bool S.r, .int .i64 S.b, .int .i64 S.p] 44)).heap.size = w6.heap.size + 1 := by simp
      have hb47 : W2.heap.size ≤ w7.heap.size := by omega
      have hfit : fits S mk tn = true := by rw [HS.out]; exact fits_worn hmv1 hsv (by omega)
      have hsee : seen S 9 6 = 0 := by rw [HS.out]; exact seen_worn (by omega)
      have HX7 := Lib.hid (And.intro hown7 (And.intro hmb7 (And.intro hbr7 (And.intro hoo7 (And.intro hmr7 (And.intro hD7 (And.intro hfit hsee)))))))
      have c7 : w7.cell? ⟨W.heap.size, o, none⟩ = some (.int .i64 (mis.getD o 0)) := hmb7.cell (by omega)
      have f7 : w7.frozen? ⟨W.heap.size, o, none⟩ = false := hmb7.free o
      obtain ⟨y, hy⟩ : ∃ y, y = mis.getD o 0 := ⟨_, rfl⟩
      have hyc : y = (cntI os (o : Int) : Int) := by rw [hy]; exact HF.out.2.2.2.2.2.2.1 o hol
      have hyl := cntI_le os (o : Int)
      have y0 : 0 ≤ y := by omega
      have y1 : y ≤ 4 := by omega
      have HY := Lib.hid (And.intro hy hyc)
      rw [← hy] at c7
      have hG7 : W.heap.size < w7.heap.size := by omega
      have hoo4 : os.length < 4294967296 := by omega
      have hom : o < mis.length := by omega
      clear hown7 hgr7 hb7 hmb7 hbr7 hoo7 hmr7 hD7 hfit hsee hdA hdx hs hp hsv q0 q1 q2 q3 q4 r0 r1 m0 m1 m2 r0d r1d m0d m1d m2d hy hyc hyl hs6A hs7 hA1b
      have HV7 := Lib.hid (fun k hk => (HX7.out.2.2.2.1.lt k hk).1)
      have o2 : (o : Int) < (l.length : Int) := o1
      go_upto_region 11 with (fail)
      go_region_law (refine step_app okInt (by rfl) _ _ (by rfl) W2.heap.size _ os (o : Int) #[Value.int .i64 (o : Int)] w7.drew.heap.size (by rfl) (by rfl) (heap_alloc_new w7.drew _) rfl rfl (one_eInt _) ((Own.below HX7.out.2.2.2.1 (bdraw (Below.refl _ _)) (Nat.le_refl _)).alloc _) hoo4 (by decide) (by simp; omega) ?_; intro g8 cap8 w8 hown8 hgr8 hb8; have hm8 : MisB w8 W.heap.size mis := gblk hgr8 (hblk_alloc (w := w7.drew) HX7.out.2.1 _) HV7.out hGb; have f8 := hm8.free o; have c8 : w8.cell? ⟨W.heap.size, o, none⟩ = some (.int .i64 y) := (by rw [HY.out.1]; exact hm8.cell hom); have H8 := Lib.hid (And.intro hown8 (And.intro hgr8 (And.intro hb8 hm8))); have hlw8 : W.heap.size < w8.heap.size := (by have := hb8.size; simp at this; omega); clear hown8 hgr8 hb8 hm8)
      all_goals
        have HFI := Lib.hid (FI.next HX7.out.1 HX7.out.2.2.1 HX7.out.2.2.2.1 HX7.out.2.2.2.2.1 HX7.out.2.2.2.2.2.1 (by omega) H8.out.1 H8.out.2.1 H8.out.2.2.2 (by have := HZ1.out; omega) (by omega) hGb (by omega) hb47 (fun b off e => by have := HBA.out b off e; omega) HSL.out hsg hg0 hml HF.out.2.2.2.2.2.2.1 HF.out.2.2.2.2.2.2.2 HMK.out.1 HX7.out.2.2.2.2.2.2.1 HX7.out.2.2.2.2.2.2.2 HY.out.1)
        clear c8 f8 c7 f7
        go_wp2
        go_roundg (gk - 1)
        case measure => omega
        case rel => exact ⟨by congr 1; omega, by omega, fun _ => trivial, HFI.out⟩
    · have hcase : gk = 0 ∨ (0 < gk ∧ l.length = 0) := by omega
      have HCA := Lib.hid hcase
      have HML := Lib.hid hml
      clear hcase hgo hml
      have hFJ : FJ w.heap.size w2.heap.size W.heap.size W2.heap.size w1 tn A1 c1 l ss os _ _ 0 wr :=
        ⟨mis, HF.out.1, HF.out.2.1, HF.out.2.2.1, HF.out.2.2.2.1, HF.out.2.2.2.2.1, hD.mono (by omega), HML.out, fun o' ho' => by
          have := HF.out.2.2.2.2.2.2.1 o' ho'
          rw [if_neg (by omega)]; omega, hbs⟩
      have HFJ := Lib.hid hFJ
      have HFT := Lib.hid HF.out.2.2.2.2.2.2.2
      clear hFJ HF hD
      have hbl : ¬ 0 < gk ∨ (0 < gk ∧ ¬ 0 < l.length) := by have := HCA.out; omega
      rcases hbl with hb0 | ⟨hb0, hb00⟩
      all_goals
        go_wp2_with fail
        clear r0 r1 hb0
        go_loopg [10] l.length (fun g x wr => ∃ o : Nat, o + g = l.length ∧ x = .int .i64 o ∧ FJ w.heap.size w2.heap.size W.heap.size W2.heap.size w1 tn A1 c1 l ss os _ _ o wr)
        case atStart => exact ⟨0, by omega, rfl, HFJ.out⟩
        case round =>
          obtain ⟨o, ho, rfl, mis2, j1, j2, j3, j4, j5, j6, j7, j8, j9⟩ := hrel
          have HO := Lib.hid (And.intro ho (And.intro j1 (And.intro j2 (And.intro j3 (And.intro j4 (And.intro j5 (And.intro j6 (And.intro j7 (And.intro j8 j9)))))))))
          have hol : o ≤ l.length := by omega
          have hgr := j9
          clear ho j1 j2 j3 j4 j5 j6 j7 j8 j9
          by_cases hlo : o < l.length
          · have o0 : (0 : Int) ≤ (o : Int) := by omega
            have o1 : (o : Int) < (l.length : Int) := by omega
            have hom : o < mis2.length := by have := HO.out.2.2.2.2.2.2.2.1; omega
            obtain ⟨z, hz⟩ : ∃ z, z = mis2.getD o 0 := ⟨_, rfl⟩
            have hzb := HO.out.2.2.2.2.2.2.2.2.1 o hlo
            rw [← hz] at hzb
            have hcl := cntI_le os (o : Int)
            have z0 : 0 ≤ z := by omega
            have z1 : z ≤ 5 := by
              have : z ≤ cntI os (o : Int) + 1 := by
                have h := hzb.2
                split at h <;> omega
              omega
            have HZ := Lib.hid hz
            have cG := MisB.cell HO.out.2.2.2.1 hom
            have fG := MisB.free HO.out.2.2.2.1 o
            rw [← hz] at cG
            have hHd := HO.out.2.2.2.2.2.2.1.hd
            have HHD := Lib.hid hHd
            have hgl : W.heap.size < wr.heap.size := by have := HLO.out.2.2.2; omega
            have hwl : w.heap.size < wr.heap.size := hHd.lt
            have hneG := HLO.out.2.2.1
            clear hz hzb hcl hHd
            go_upto_region 15 with (fail)
            go_region_law (first
              | (go_simp; go_at_call 33; refine (of_any w.heap.size (10000 + o) 0 (some ⟨wr.drew.heap.size, 0, none⟩) 2 2 [0, 1] _ ?_ ?_ (ints2 wr.drew 3 0 1) ?_ ?_).mono ?_; (exact Hd.alloc (w := wr.drew) HHD.out _); (omega); (intro b off e; cases e; show wr.heap.size ≠ w.heap.size; omega); (omega); rintro e w5 ⟨x, rfl, hx, hd5⟩; have hx01 : x = 0 ∨ x = 1 := (by simp only [List.mem_cons, List.not_mem_nil, or_false] at hx; omega); have hb5 := (hd5.gr); have hdx : Dealt wr w5 w.heap.size (10000 + (o + 1)) := ⟨hd5.hd, ⟨hd5.gr.os, hd5.gr.tape, hd5.gr.output, Nat.le_trans (by simp) hd5.gr.size, fun j hj hne => (hd5.gr.block j (by simp; omega) hne).trans (Below.heap_alloc _ _ _ hj)⟩⟩; have m5 : MisB w5 W.heap.size mis2 := hdx.blk HO.out.2.2.2.1 hneG; have c5 : w5.cell? ⟨W.heap.size, o, none⟩ = some (.int .i64 z) := (by rw [HZ.out]; exact m5.cell hom); have f5 := m5.free o; have H5 := Lib.hid (And.intro hdx hx01); have hs5 : W.heap.size < w5.heap.size := (by have := hdx.size; omega); have x0 : 0 ≤ x := (by omega); have x1 : x ≤ 1 := (by omega); clear hd5 hdx m5 hx hx01 hb5)
              | fail)
            all_goals
              have HFI := Lib.hid (FJ.next HO.out.2.1 HO.out.2.2.1 HO.out.2.2.2.1 HO.out.2.2.2.2.1 HO.out.2.2.2.2.2.1 HO.out.2.2.2.2.2.2.1 HO.out.2.2.2.2.2.2.2.1 HO.out.2.2.2.2.2.2.2.2.1 HO.out.2.2.2.2.2.2.2.2.2 H5.out.1 HZ.out H5.out.2 hlo (by have := HZ1.out; omega) (by omega) (by have := HLO.out.2.2.2; omega) (fun b off e => by have := HBA.out b off e; have := HZ1.out; omega) (by omega))
              clear c5 f5 cG fG
              go_wp2
              go_roundg (gk - 1)
              case measure => have := HO.out.1; omega
              case rel => exact ⟨o + 1, by have := HO.out.1; omega, by go_num, HFI.out⟩
          · obtain rfl : o = l.length := by omega
            obtain ⟨B, cb, rfl, hsv, hcb, hmb⟩ := Own.form HO.out.2.1 lenSg
            obtain ⟨Q, cq, rfl, hqv, hcq, hmq⟩ := Own.form HO.out.2.2.1 lenInt
            have hiM : Ints wr (some ⟨W.heap.size, 0, none⟩) l.length mis2 := by
              have h := MisB.ints HO.out.2.2.2.1
              rwa [HO.out.2.2.2.2.2.2.2.1] at h
            have hmv : ∀ x ∈ mis2, 0 ≤ x ∧ x ≤ 5 := fun x hx => by
              obtain ⟨k, hk⟩ := List.getElem?_of_mem hx
              have hkl := (List.getElem?_eq_some_iff.1 hk).1
              have h := HO.out.2.2.2.2.2.2.2.2.1 k (by have := HO.out.2.2.2.2.2.2.2.1; omega)
              rw [List.getD_eq_getElem?_getD, hk] at h
              simp only [Option.getD_some] at h
              have := cntI_le os (k : Int)
              have h2 := h.2
              split at h2 <;> omega
            have hge : gatherE (tn : Int) l ss mis2 = 0 := by
              unfold gatherE
              have h1 := HO.out.2.2.2.2.2.2.2.1
              have h2 : sightsE ss = 0 := sightsE_ok.2 (fun s hs => by
                obtain ⟨k, hk⟩ := List.getElem?_of_mem hs
                have hkl := (List.getElem?_eq_some_iff.1 hk).1
                exact (HFT.out k s _ hk (List.getElem?_eq_getElem (show k < os.length by have := HSL.out; omega))).1)
              rw [if_neg (by rw [HCK.out]; omega), if_neg (by omega), if_neg (by rw [h2]; omega), if_neg (by omega), if_neg (by omega), if_pos]
              rw [List.all_eq_true]
              intro x hx
              have := hmv x hx
              rw [btw_iff]
              omega
            have HLAW := Lib.hid (found_law (by omega) HSL.out HFT.out (fun o ho => (HO.out.2.2.2.2.2.2.2.2.1 o ho).1) (fun x hx => (hmv x hx).1) hge)
            obtain ⟨Rh, hRh⟩ : ∃ R, R = homeL (tn : Int) l ss mis2 := ⟨_, rfl⟩
            obtain ⟨O, hO⟩ : ∃ O, O = ownersR (tn : Int) l ss mis2 := ⟨_, rfl⟩
            have hml' : l.length ≤ maxLen := by unfold maxLen; omega
            have hsl' : ss.length ≤ maxLen := by unfold maxLen; omega
            have hmr := HO.out.2.2.2.2.2.1
            have C1 := Home_any tn A1 l.length c1 l B ss.length cb ss (some ⟨W.heap.size, 0, none⟩) l.length l.length mis2 wr hmr hlc hcm hsv hsl' hiM hml'
            have C2 := fun w' (hb' : Below wr.heap.size wr w') => Owners_any tn A1 l.length c1 l B ss.length cb ss (some ⟨W.heap.size, 0, none⟩) l.length l.length mis2 w' (hmr.below hb' (Nat.le_refl _)) hlc hcm (hsv.below hb' (Nat.le_refl _)) hsl' (hiM.below hb' (Nat.le_refl _)) hml'
            have C3 := fun w' (hb' : Below wr.heap.size wr w') => Left_any tn A1 l.length c1 l B ss.length cb ss (some ⟨W.heap.size, 0, none⟩) l.length l.length mis2 w' (hmr.below hb' (Nat.le_refl _)) hlc hcm (hsv.below hb' (Nat.le_refl _)) hsl' (hiM.below hb' (Nat.le_refl _)) hml'
            rw [HLAW.out.1, ← hRh] at C1
            rw [HLAW.out.1, ← hO] at C2
            rw [hge, HLAW.out.2.2.1] at C3
            have HC1 := Lib.hid C1
            have HC2 := Lib.hid C2
            have HC3 := Lib.hid C3
            have hRl : Rh.length = ss.length := by rw [hRh]; exact HLAW.out.2.1
            have hOl : O.length = ss.length := by rw [hO]; exact HLAW.out.2.2.2.1
            have HRO := Lib.hid (show ∀ k, k < ss.length → ∃ row, O[k]? = some row ∧ (∀ o, os[k]? = some o → o ∈ row) ∧ ∀ o, Rh[k]? = some o → o ∈ row by rw [hRh, hO]; exact HLAW.out.2.2.2.2)
            have d1 : ((Rh.length : Int) != (ss.length : Int)) = false := by rw [hRl]; simp
            have d2 : ((O.length : Int) != (ss.length : Int)) = false := by rw [hOl]; simp
            have HRL := Lib.hid (And.intro hRl hOl)
            have hbr := HO.out.2.2.2.2.1
            obtain ⟨r0, r1⟩ := blk2 hbr
            have hlr2 := heap_lt hbr
            have HQV := Lib.hid hqv
            have HBB := Lib.hid (HB1.out.trans ((HO.out.2.2.2.2.2.2.1.below (Nat.le_refl w.heap.size) (by have := HZ1.out; omega))))
            have HBR := Lib.hid hbr
            have hszw : w.heap.size ≤ wr.heap.size := HBB.out.size
            clear C1 C2 C3 hRh hO hRl hOl hmr hiM hmv hge hsv hqv hbr
            go_wp2_with fail
            (with_reducible refine HC1.out.mono ?_)
            rintro e w3 ⟨v3, rfl, ho3, hb3⟩
            obtain ⟨A3, c3, rfl, hs3, hc3, hm3⟩ := ho3.form lenInt
            have HX3 := Lib.hid (And.intro hs3 (And.intro hb3 (Nat.le_trans hc3 hm3)))
            clear ho3 hs3 r0 r1
            obtain ⟨r0, r1⟩ := blk2 (bheap HBR.out hb3 (Nat.le_refl _))
            clear hb3
            go_wp2_with fail
            (with_reducible refine (HC2.out _ HX3.out.2.1).mono ?_)
            rintro e w4 ⟨v4, rfl, ho4, hb4⟩
            have hbW4 := HX3.out.2.1.trans (hb4.mono HX3.out.2.1.size)
            obtain ⟨A4, c4, rfl, -, hc4, hm4⟩ := ho4.form
            have HX4 := Lib.hid (And.intro ho4 (And.intro hb4 hbW4))
            clear ho4 r0 r1
            obtain ⟨r0, r1⟩ := blk2 (bheap HBR.out hbW4 (Nat.le_refl _))
            clear hb4 hbW4
            go_wp2_with fail
            (with_reducible refine (HC3.out _ HX4.out.2.2).mono ?_)
            rintro e w5 ⟨⟨A5, c5, rfl, -, hc5, hm5⟩, hb5⟩
            have hbW5 := HX4.out.2.2.trans (hb5.mono HX4.out.2.2.size)
            have HX5 := Lib.hid (And.intro hb5 hbW5)
            have hs5 := hbW5.size
            have hs45 := hb5.size
            clear hb5 hbW5 r0 r1
            rw [show ([] : List Int).length = 0 from rfl]
            go_wp2_with fail
            clear d1 d2
            go_loopg [17] os.length (fun g x wq => ∃ i : Nat, i + g = os.length ∧ x = .int .i64 i ∧ Below w5.heap.size w5 wq)
            case atStart => exact ⟨0, by omega, rfl, Below.refl _ _⟩
            case round =>
              obtain ⟨i, hi, rfl, hbq⟩ := hrel
              have HI := Lib.hid (And.intro hi hbq)
              have hio : i ≤ os.length := by omega
              have hsq := hbq.size
              have hbq' := HX5.out.2.trans (hbq.mono hs5)
              have hb4q := HX5.out.1.trans (hbq.mono hs45)
              have hb3q := HX4.out.2.1.trans (hb4q.mono HX4.out.2.1.size)
              clear hi
              by_cases hlt : i < os.length
              · obtain ⟨row, hrow, hm1, hm2⟩ := HRO.out i (by have := HSL.out; omega)
                obtain ⟨b4, o4, cap4, B4, row', cr, hv4, hrow', hc4', hri, hrc, hrm, hrz⟩ := HX4.out.1.get (show i < O.length by have := HRL.out.2; have := HSL.out; omega)
                obtain ⟨rfl, rfl⟩ : A4 = some ⟨b4, o4, none⟩ ∧ c4 = cap4 := by simpa using hv4
                obtain rfl : row' = row := Option.some.inj (hrow'.symm.trans hrow)
                have cR := bcell hc4' hb4q (Nat.le_refl _)
                obtain ⟨bq, oq, y, rfl, hbq1, hy, y0⟩ := Ints.get (HQV.out.below hbq' (Nat.le_refl _)) hlt
                obtain ⟨b3, o3, z, rfl, hb31, hz, z0⟩ := Ints.get (HX3.out.1.below hb3q (Nat.le_refl _)) (show i < Rh.length by have := HRL.out.1; have := HSL.out; omega)
                obtain ⟨P1, hP1⟩ : ∃ P, P = placeI row' y := ⟨_, rfl⟩
                obtain ⟨P2, hP2⟩ : ∃ P, P = placeI row' z := ⟨_, rfl⟩
                have p1 : ¬ P1 < 0 := by rw [hP1, placeI_neg]; exact fun h => h (hm1 y hy)
                have p2 : ¬ P2 < 0 := by rw [hP2, placeI_neg]; exact fun h => h (hm2 z hz)
                have hri2 := hri.below hb4q (Nat.le_refl _)
                have cP : ∀ x d os', Calls Try.prog 25 #[.slice B4 row'.length cr, .int .i64 x] (Sort.grow (redrawn wr d) os') (fun e w'' => e = .returned (.int .i64 (placeI row' x)) ∧ ∃ p : Regrown, w'' = Sort.grow (redrawn wr p.d) p.os) := fun x d os' =>
                  regrown_left (place_any B4 row'.length cr row' x _ (hri2.below (below_regrown wr d os') (Nat.le_refl _)) (Nat.le_trans hrc hrm))
                have cP1 := cP y
                have cP2 := cP z
                rw [← hP1] at cP1
                rw [← hP2] at cP2
                have HC1' := Lib.hid cP1
                have HC2' := Lib.hid cP2
                have i0 : (0 : Int) ≤ (i : Int) := by omega
                have i1 : (i : Int) < (os.length : Int) := by omega
                have i2 : (i : Int) < (Rh.length : Int) := by have := HRL.out.1; have := HSL.out; omega
                have i3 : (i : Int) < (O.length : Int) := by have := HRL.out.2; have := HSL.out; omega
                have dp1 : decide (P1 < 0) = false := decide_eq_false p1
                have dp2 : decide (P2 < 0) = false := decide_eq_false p2
                clear hv4 hrow hrow' hc4' hri hrc hrm hrz hm1 hm2 hy hz hP1 hP2 hri2 cP cP1 cP2 hbq1 hb31 hb4q hb3q hbq' hbq
                go_upto_region 24 with (fail)
                have k0 := cell_regrown cR
                have k1 := cell_regrown y0
                have k2 := cell_regrown z0
                clear cR y0 z0
                refine wp_region_quiet_below (by kernel_rfl) (by kernel_rfl) ?_
                repeat (quiet_step (first | (with_reducible exact HC1'.out _ _) | (with_reducible exact HC2'.out _ _)))
                refine wpQuiet_nil ?_
                intro _ hw'
                obtain ⟨⟨dq, osq⟩, hw''⟩ := hw'
                subst hw''
                obtain ⟨W7, hW7⟩ : ∃ W7, W7 = Sort.grow (redrawn wr dq) osq := ⟨_, rfl⟩
                have hb7 : Below wr.heap.size wr W7 := by rw [hW7]; exact below_regrown wr dq osq
                rw [← hW7]
                have HB7 := Lib.hid (HI.out.2.trans (hb7.mono hsq))
                clear hW7 k0 k1 k2 hb7
                go_wp2
                go_roundg (gk - 1)
                case measure => have := HI.out.1; omega
                case rel => exact ⟨i + 1, by have := HI.out.1; omega, by go_num, HB7.out⟩
              · have HW9 := Lib.hid hbq'
                clear hbq hb4q hb3q hbq'
                go_wp2_with fail
                refine (marking_any _).mono ?_
                rintro e w9 ⟨rfl, hb9⟩
                go_wp2
                go_ret
                exact ⟨rfl, HBB.out.trans ((HW9.out.trans (hb9.mono HW9.out.size)).mono hszw)⟩
end Go.Proofs.Ytoidaigiejilcaa
