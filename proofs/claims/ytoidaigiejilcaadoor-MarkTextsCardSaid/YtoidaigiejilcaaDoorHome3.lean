/- strays.home: the search whole.
   mark.Home. -/
import Derived.Test.YtoidaigiejilcaaDoorGrow
import Derived.Test.YtoidaigiejilcaaDoorBase
import Derived.Laws.EntriesVeiled
import Derived.Test.YtoidaigiejilcaaDoorGather
namespace Go.Proofs.YtoidaigiejilcaaDoor
open Go.RowKit
set_option linter.unusedVariables false
set_option linter.unusedSimpArgs false

theorem grows_all (S : Srch) (xs : Array Value) (lt : Value) (w0 : World) (C : Ctx S w0 xs lt) : ∀ n, S.Grows xs lt w0 n
  | 0 => grow_zero S xs lt w0 C
  | n + 1 => grow_succ S xs lt w0 C n (grows_all S xs lt w0 C n)

/-- what a search gives -/
def Srch.all (S : Srch) : Option (List Int) := S.rest S.L ⟨0, 0, 0, 0, 0, 0⟩
def HomeRes (base : Nat) (r : Option (List Int)) (e : Ending) (w' : World) : Prop :=
  match r with
  | some l => ∃ v, e = .returned (.tuple #[v, .bool true]) ∧ OwnI w' base v l
  | none => e = .returned (.tuple #[.slice none 0 0, .bool false])

set_option maxRecDepth 100000 in
set_option maxHeartbeats 2000000 in
theorem home_any (S : Srch) (xs : Array Value) (fl : Nat) (fi ca : Array Value) (w : World) (C : Ctx S w xs (.func (.func fl) fi ca)) :
    Calls Tryd.prog 51 #[.agg xs, .int .u64 S.left, .func (.func fl) fi ca] w fun e w' => HomeRes w.heap.size S.all e w' ∧ Below w.heap.size w w' := by
  obtain ⟨t, A, nA, cA, Am, cm, Ai, ni, ci, mv, rfl, hmv, hmis, hrow⟩ := C.x
  have hmm := @run_makeMap Tryd.prog
  have hL6 := C.L
  have hb := C.hb
  have HC := Lib.hid (And.intro C hb)
  clear C hmv hmis hrow hb
  have hmf : ∀ (fn : Fn) (first cap : Array Value) (w : World), (Instr.makeFunc fn first cap).run Tryd.prog w = .ok (.func fn first cap) w := fun _ _ _ _ => rfl
  obtain ⟨i, z, hi, hz, hsize, hbytes, hzs⟩ := okInt.info
  obtain ⟨M, hM⟩ : ∃ M : Array Value, M = madeCells z.cells S.L := ⟨_, rfl⟩
  have hmk : ∀ W : World, (Instr.makeSlice 22 (.int .i64 0) (.int .i64 S.L)).run Tryd.prog W = .ok (.slice (some ⟨W.heap.size, 0, none⟩) 0 S.L) (W.alloc (.cells M 3)) := fun W => by
    have h := run_make (P := Tryd.prog) W 22 3 i z Tryd.underlying22 hi hz .i64 .i64 0 S.L (by omega) (by omega) (by rw [hbytes]; omega) (by omega)
    rw [hM]
    simpa [hsize] using h
  have HM := Lib.hid (show M.size = S.L by rw [hM, size_madeCells])
  clear hM hi hz hsize hbytes hzs
  go_enter Tryd.func51, Tryd.ntmps51
  go_upto_region 6 with (fail)
  obtain ⟨W0, hW⟩ : ∃ W0, W0 = ((((((((((w.alloc (Obj.cells #[Value.int IntKind.i64 t, Value.slice A nA cA, Value.slice Am S.L cm, Value.slice Ai ni ci] 99)).alloc (Obj.cells #[Value.int IntKind.u64 ↑S.left] 104)).alloc (Obj.cells #[Value.func (Fn.func fl) fi ca] 105)).alloc (Obj.cells #[Value.int IntKind.i64 0, Value.int IntKind.i64 0, Value.int IntKind.i64 0, Value.int IntKind.i64 0, Value.int IntKind.i64 0, Value.int IntKind.i64 0] 118)).alloc (Obj.map #[] 0)).alloc (Obj.cells #[Value.map (some (w.heap.size + 1 + 1 + 1 + 1))] 119)).alloc (Obj.cells M 3)).alloc (Obj.cells #[Value.slice (some { block := w.heap.size + 1 + 1 + 1 + 1 + 1 + 1, off := 0 }) 0 S.L] 22)).alloc (Obj.cells #[Value.nilFunc] 23)).alloc (Obj.cells #[Value.func (Fn.func 67) #[] #[Value.pointer (some { block := w.heap.size + 1 + 1 + 1, off := 0 }), Value.pointer (some { block := w.heap.size + 1 + 1 + 1 + 1 + 1 + 1 + 1, off := 0 }), Value.pointer (some { block := w.heap.size + 1 + 1 + 1 + 1 + 1 + 1 + 1 + 1, off := 0 })]] 105)) := ⟨_, rfl⟩
  rw [← hW]
  obtain ⟨C, hb⟩ := HC.out
  have hB : Below w.heap.size w W0 := by
    rw [hW]
    exact bal (bal (bal (bal (bal (bal (bal (bal (bal (bal0 w _) (Nat.le_refl _) _) (Nat.le_refl _) _) (Nat.le_refl _) _) (Nat.le_refl _) _) (Nat.le_refl _) _) (Nat.le_refl _) _) (Nat.le_refl _) _) (Nat.le_refl _) _) (Nat.le_refl _) _
  have hs0 : W0.heap.size = S.b + 10 := by rw [hW, ← hb]; simp
  have e0 : W0.heap[S.b]? = some (Obj.cells #[Value.int IntKind.i64 t, Value.slice A nA cA, Value.slice Am S.L cm, Value.slice Ai ni ci] 99 (0, 0)) := by rw [hW, ← hb]; exact hblk_alloc (hblk_alloc (hblk_alloc (hblk_alloc (hblk_alloc (hblk_alloc (hblk_alloc (hblk_alloc (hblk_alloc (alloc_at (by simp)) _) _) _) _) _) _) _) _) _
  have e1 : W0.heap[S.b + 1]? = some (Obj.cells #[Value.int IntKind.u64 ↑S.left] 104 (0, 0)) := by rw [hW, ← hb]; exact hblk_alloc (hblk_alloc (hblk_alloc (hblk_alloc (hblk_alloc (hblk_alloc (hblk_alloc (hblk_alloc (alloc_at (by simp)) _) _) _) _) _) _) _) _
  have e2 : W0.heap[S.b + 2]? = some (Obj.cells #[Value.func (Fn.func fl) fi ca] 105 (0, 0)) := by rw [hW, ← hb]; exact hblk_alloc (hblk_alloc (hblk_alloc (hblk_alloc (hblk_alloc (hblk_alloc (hblk_alloc (alloc_at (by simp)) _) _) _) _) _) _) _
  have e3 : W0.heap[S.b + 3]? = some (Obj.cells #[Value.int IntKind.i64 0, Value.int IntKind.i64 0, Value.int IntKind.i64 0, Value.int IntKind.i64 0, Value.int IntKind.i64 0, Value.int IntKind.i64 0] 118 (0, 0)) := by rw [hW, ← hb]; exact hblk_alloc (hblk_alloc (hblk_alloc (hblk_alloc (hblk_alloc (hblk_alloc (alloc_at (by simp)) _) _) _) _) _) _
  have e4 : W0.heap[S.b + 4]? = some (Obj.map #[] 0) := by rw [hW, ← hb]; exact hblk_alloc (hblk_alloc (hblk_alloc (hblk_alloc (hblk_alloc (alloc_at (by simp)) _) _) _) _) _
  have e5 : W0.heap[S.b + 5]? = some (Obj.cells #[Value.map (some (S.b + 4))] 119 (0, 0)) := by rw [hW, ← hb]; exact hblk_alloc (hblk_alloc (hblk_alloc (hblk_alloc (alloc_at (by simp)) _) _) _) _
  have e6 : W0.heap[S.b + 6]? = some (Obj.cells M 3 (0, 0)) := by rw [hW, ← hb]; exact hblk_alloc (hblk_alloc (hblk_alloc (alloc_at (by simp)) _) _) _
  have e7 : W0.heap[S.b + 7]? = some (Obj.cells #[Value.slice (some { block := S.b + 6, off := 0 }) 0 S.L] 22 (0, 0)) := by rw [hW, ← hb]; exact hblk_alloc (hblk_alloc (alloc_at (by simp)) _) _
  have e8 : W0.heap[S.b + 8]? = some (Obj.cells #[Value.nilFunc] 23 (0, 0)) := by rw [hW, ← hb]; exact hblk_alloc (alloc_at (by simp)) _
  have e9 : W0.heap[S.b + 9]? = some (Obj.cells #[Value.func (Fn.func 67) #[] #[Value.pointer (some { block := S.b + 3, off := 0 }), Value.pointer (some { block := S.b + 7, off := 0 }), Value.pointer (some { block := S.b + 8, off := 0 })]] 105 (0, 0)) := by rw [hW, ← hb]; exact alloc_at (by simp)
  clear hW
  simp only [hb, Nat.add_assoc, Nat.reduceAdd]
  have f8 : W0.frozen? ⟨S.b + 8, 0, none⟩ = false := free_of_one e8
  have c8 := blk1 e8
  go_upto_region 7 with (fail)
  obtain ⟨W1, hW⟩ : ∃ W1, W1 = W0.setCell ⟨S.b + 8, 0, none⟩ (.func (.func 69) #[] S.growCaps) := ⟨_, rfl⟩
  have hW' := hW
  unfold Srch.growCaps at hW'
  rw [← hW']
  clear hW'
  have k1 : ∀ j, j ≠ S.b + 8 → W1.heap[j]? = W0.heap[j]? := fun j hj => by rw [hW]; exact Below.heap_setCell _ _ _ _ hj
  have e8' : W1.heap[S.b + 8]? = some (Obj.cells #[.func (.func 69) #[] S.growCaps] 23 (0, 0)) := by rw [hW]; exact one_setCell e8
  have hB1 : Below w.heap.size w W1 := by rw [hW]; exact hB.setCell (by dsimp; omega) _
  have hs1 : W1.heap.size = S.b + 10 := by rw [hW]; simpa using hs0
  clear hW
  have env : Env S #[Value.int IntKind.i64 t, Value.slice A nA cA, Value.slice Am S.L cm, Value.slice Ai ni ci] (.func (.func fl) fi ca) W1 :=
    ⟨(k1 _ (by omega)).trans e0, (k1 _ (by omega)).trans e1, (k1 _ (by omega)).trans e2, (k1 _ (by omega)).trans e5, e8', (k1 _ (by omega)).trans e9⟩
  have st : St S W1 ⟨0, 0, 0, 0, 0, 0⟩ [] [] := by
    refine ⟨(k1 _ (by omega)).trans e3, (k1 _ (by omega)).trans e7, ?_, met_empty ((k1 _ (by omega)).trans e4), rfl, fun i hi => ?_⟩
    · refine ⟨rfl, .inr ⟨S.b + 6, S.L, M, rfl, by omega, (k1 _ (by omega)).trans e6, Nat.zero_le _, by (unfold maxLen; omega), by rw [HM.out]; omega, by simp⟩⟩
    · obtain rfl | rfl | rfl | rfl | rfl : i = 0 ∨ i = 1 ∨ i = 2 ∨ i = 3 ∨ i = 4 := by omega
      all_goals exact ⟨Int.le_refl _, Int.le_refl _⟩
  have c8 := blk1 e8'
  have hG := grows_all S _ _ w C S.L W1 ⟨0, 0, 0, 0, 0, 0⟩ [] [] (hb ▸ hB1) env st (fun k hk => by cases hk) (Nat.le_refl _) (by simp)
  have HG := Lib.hid hG
  clear hG
  unfold Srch.growCaps at c8
  go_wp2_with fail
  have hG := HG.out
  unfold Srch.growCaps at hG
  refine hG.mono ?_
  rintro e w5 ⟨rfl, hF, c', o', K', st5, hs5, hsome, hnone⟩
  have hB5 : Below w.heap.size w w5 := hB1.trans (hb ▸ hF.below)
  have HB := Lib.hid (And.intro hB5 (And.intro hsome hnone))
  clear hsome hnone
  have HS := Lib.hid st5.buf
  have c7 := blk1 st5.out
  cases hr : S.rest S.L ⟨0, 0, 0, 0, 0, 0⟩ with
  | some r =>
    have HR := Lib.hid (And.intro hr (HB.out.2.1 r hr))
    simp only [hr, Option.isSome_some]
    clear hr
    go_wp2
    go_ret2
    refine ⟨?_, HB.out.1⟩
    unfold HomeRes Srch.all
    rw [HR.out.1]
    refine ⟨_, rfl, ?_⟩
    have := HR.out.2
    simp only [List.nil_append] at this
    rw [← this, hb]
    exact HS.out
  | none =>
    have HR := Lib.hid hr
    simp only [hr, Option.isSome_none]
    clear hr
    go_wp2
    go_ret2
    refine ⟨?_, HB.out.1⟩
    unfold HomeRes Srch.all
    rw [HR.out]
    exact rfl
end Go.Proofs.YtoidaigiejilcaaDoor

namespace Go.Proofs.YtoidaigiejilcaaDoor
open Go.RowKit
set_option linter.unusedVariables false
set_option linter.unusedSimpArgs false

/-- the first giving, by what may be, what is missed, what is left out, what is let -/
def giveL (may : List (List Int)) (mis : List Int) (left : Nat) (lf : Nat → Int → Bool) : Option (List Int) := Srch.all ⟨0, may.length, may, mis, left, lf⟩
theorem rest_b (b b' L : Nat) (may : List (List Int)) (mis : List Int) (left : Nat) (lf : Nat → Int → Bool) : ∀ n c, Srch.rest ⟨b, L, may, mis, left, lf⟩ n c = Srch.rest ⟨b', L, may, mis, left, lf⟩ n c
  | 0, c => rfl
  | n + 1, c => by
    unfold Srch.rest
    simp only [rest_b b b' L may mis left lf n]
theorem any_any (xs : Array Value) (p o : Int) (w : World) (hx : xs.size = 4) :
    Calls Tryd.prog 52 #[.agg xs, .int .i64 p, .int .i64 o] w fun e w' => e = .returned (.bool true) ∧ Below w.heap.size w w' := by
  go_enter Tryd.func52, Tryd.ntmps52
  go_wp2
  go_ret
  exact ⟨rfl, bal0 _ _⟩

def homeE (t : Int) (l : List Mk) (ss : List Sg) (mis : List Int) : Int := if gatherE t l ss mis ≠ 0 then gatherE t l ss mis else if giveL (mays t l ss) mis 0 (fun _ _ => true) = none then 11 else 0
def homeL (t : Int) (l : List Mk) (ss : List Sg) (mis : List Int) : List Int := if gatherE t l ss mis ≠ 0 then [] else (giveL (mays t l ss) mis 0 (fun _ _ => true)).getD []
theorem mayL_mem {t : Int} {l : List Mk} {s : Sg} {o : Int} (h : o ∈ mayL t l s) : 0 ≤ o ∧ o.toNat < l.length := by
  unfold mayL mayTo at h
  simp only [List.mem_map, List.mem_filter, List.mem_range] at h
  obtain ⟨i, ⟨hi, _⟩, rfl⟩ := h
  exact ⟨Int.natCast_nonneg i, by simpa using hi⟩
theorem mayL_len (t : Int) (l : List Mk) (s : Sg) : (mayL t l s).length ≤ l.length := mayTo_len t l s l.length
/-- the setting of a search, out of what gather has laid -/
theorem ctx_of {w0 : World} {t : Int} {A : Option Addr} {n c : Nat} {Am : Option Addr} {cm : Nat} {Ai : Option Addr} {ni ci : Nat} {may : List (List Int)} {mis : List Int} {left : Nat} {lf : Nat → Int → Bool} {fl : Nat} {fi ca : Array Value}
    (hg : Grid w0 Am may.length may) (hmi : Ints w0 Ai ni mis) (hL : may.length ≤ 6) (hleft : (left : Int) < 18446744073709551616) (hm : ∀ l ∈ may, l.length ≤ 4294967296 ∧ ∀ o ∈ l, 0 ≤ o ∧ o < 5 ∧ o.toNat < ni)
    (eg : ∀ args w, (callFunc fl args).run Tryd.prog w = .ok (.enter fl args) w)
    (hlet : ∀ w, Below w0.heap.size w0 w → ∀ (p : Nat) (o : Int), p < may.length → 0 ≤ o → o < 5 → Calls Tryd.prog fl (fi ++ (#[.int .i64 p, .int .i64 o] ++ ca)) w fun e w' => e = .returned (.bool (lf p o)) ∧ Below w.heap.size w w') :
    Ctx ⟨w0.heap.size, may.length, may, mis, left, lf⟩ w0 #[.int .i64 t, .slice A n c, .slice Am may.length cm, .slice Ai ni ci] (.func (.func fl) fi ca) := by
  obtain ⟨mv, h1, h2, h3⟩ := hg
  refine ⟨rfl, hL, hleft, ⟨t, A, n, c, Am, cm, Ai, ni, ci, mv, rfl, h1, hmi, fun i v hv => ?_⟩, ⟨fl, fi, ca, rfl, eg, hlet⟩⟩
  obtain ⟨B, l, c', hl, hv', hs, _, _⟩ := h3 i v hv
  have := hm l (List.mem_of_getElem? hl)
  exact ⟨B, l, c', hv', hl, hs, this.1, this.2⟩
theorem all_b (b L : Nat) (may : List (List Int)) (mis : List Int) (left : Nat) (lf : Nat → Int → Bool) (hL : L = may.length) : Srch.all ⟨b, L, may, mis, left, lf⟩ = giveL may mis left lf := by
  subst hL
  exact rest_b b 0 may.length may mis left lf may.length ⟨0, 0, 0, 0, 0, 0⟩

/-- home, called on what gather has laid -/
theorem homeG_any {t : Int} {A : Option Addr} {n c : Nat} {Am : Option Addr} {k cm : Nat} {Ai : Option Addr} {ni ci : Nat} {may : List (List Int)} {mis : List Int} {left : Nat} {lf : Nat → Int → Bool} {fl : Nat} {fi ca : Array Value} (w0 : World)
    (hk : k = may.length) (hg : Grid w0 Am may.length may) (hmi : Ints w0 Ai ni mis) (hL : may.length ≤ 6) (hleft : (left : Int) < 18446744073709551616) (hm : ∀ l ∈ may, l.length ≤ 4294967296 ∧ ∀ o ∈ l, 0 ≤ o ∧ o < 5 ∧ o.toNat < ni)
    (eg : ∀ args w, (callFunc fl args).run Tryd.prog w = .ok (.enter fl args) w)
    (hlet : ∀ w, Below w0.heap.size w0 w → ∀ (p : Nat) (o : Int), p < may.length → 0 ≤ o → o < 5 → Calls Tryd.prog fl (fi ++ (#[.int .i64 p, .int .i64 o] ++ ca)) w fun e w' => e = .returned (.bool (lf p o)) ∧ Below w.heap.size w w') :
    Calls Tryd.prog 51 #[.agg #[.int .i64 t, .slice A n c, .slice Am k cm, .slice Ai ni ci], .int .u64 left, .func (.func fl) fi ca] w0 fun e w' => HomeRes w0.heap.size (giveL may mis left lf) e w' ∧ Below w0.heap.size w0 w' := by
  subst hk
  have h := home_any ⟨w0.heap.size, may.length, may, mis, left, lf⟩ _ fl fi ca w0 (ctx_of (t := t) (A := A) (n := n) (c := c) (cm := cm) (ci := ci) hg hmi hL hleft hm eg hlet)
  rw [all_b _ _ _ _ _ _ rfl] at h
  exact h
theorem mays_ok {t : Int} {l : List Mk} {ss : List Sg} {mis : List Int} (h : gatherE t l ss mis = 0) : check t l = 0 ∧ ss.length ≤ 6 ∧ sightsE ss = 0 ∧ mis.length = l.length ∧ mis.all (fun x => btw x 0 6) = true := by
  unfold gatherE at h
  split at h
  · contradiction
  · rename_i h1
    split at h
    · cases h
    · split at h
      · contradiction
      · rename_i h2 h3
        split at h
        · cases h
        · split at h
          · cases h
          · split at h
            · rename_i h4 h5 h6
              exact ⟨by omega, by omega, by omega, by omega, h6⟩
            · cases h
theorem mays_in {t : Int} {l : List Mk} {ss : List Sg} {mis : List Int} {ni : Nat} (h : gatherE t l ss mis = 0) (hn : mis.length = ni) : ∀ r ∈ mays t l ss, r.length ≤ 4294967296 ∧ ∀ o ∈ r, 0 ≤ o ∧ o < 5 ∧ o.toNat < ni := by
  obtain ⟨h1, h2, h3, h4, h5⟩ := mays_ok h
  have hl5 := (check_ok h1).2.2.1
  intro r hr
  unfold mays at hr
  obtain ⟨s, _, rfl⟩ := List.mem_map.1 hr
  have := mayL_len t l s
  refine ⟨by omega, fun o ho => ?_⟩
  have := mayL_mem ho
  omega

set_option maxRecDepth 100000 in
set_option maxHeartbeats 1000000 in
theorem Home_any (t : Int) (A : Option Addr) (n c : Nat) (l : List Mk) (B : Option Addr) (m cb : Nat) (ss : List Sg) (Ai : Option Addr) (ni ci : Nat) (mis : List Int) (w : World)
    (hl : Marks w A n l) (hlc : n ≤ c) (hcm : c ≤ maxLen) (hss : Sights w B m ss) (hmm : m ≤ maxLen) (hmi : Ints w Ai ni mis) (hni : ni ≤ maxLen) :
    Calls Tryd.prog 20 #[.agg #[.int .i64 t, .slice A n c], .slice B m cb, .slice Ai ni ci] w fun e w' => ∃ v, e = .returned (.tuple #[v, .int .i64 (homeE t l ss mis)]) ∧ OwnI w' w.heap.size v (homeL t l ss mis) ∧ Below w.heap.size w w' := by
  have HL := Lib.hid hl
  have HSS := Lib.hid hss
  have HMI := Lib.hid hmi
  have hml := hmi.len
  have HN := Lib.hid hml
  have hmf : ∀ (fn : Fn) (first cap : Array Value) (w : World), (Instr.makeFunc fn first cap).run Tryd.prog w = .ok (.func fn first cap) w := fun _ _ _ _ => rfl
  clear hl hss hmi hml
  go_enter Tryd.func20, Tryd.ntmps20
  go_wp2_with fail
  have hbw : Below w.heap.size w (w.alloc (Obj.cells #[Value.int .i64 t, .slice A n c] 26)) := bal0 w _
  refine (gather_any t A n c l B m cb ss Ai ni ci mis _ (HL.out.below hbw (Nat.le_refl _)) hlc hcm (HSS.out.below hbw (Nat.le_refl _)) hmm (HMI.out.below hbw (Nat.le_refl _)) hni).mono ?_
  rintro e w1 ⟨hr, hb1⟩
  have hB1 : Below w.heap.size w w1 := hbw.trans (hb1.mono (by simp))
  have hz1 := hb1.size
  simp at hz1
  by_cases hge : gatherE t l ss mis = 0
  · have hg : ∃ v, e = Ending.returned (.tuple #[.agg #[.int .i64 t, .slice A n c, v, .slice Ai ni ci], .int .i64 0]) ∧ OwnG w1 (w.heap.size + 1) v (mays t l ss) := by
      unfold GatherRes at hr
      rw [if_pos hge] at hr
      simpa using hr
    clear hr
    obtain ⟨v, rfl, hog⟩ := hg
    obtain ⟨Am, cm, rfl, hgr, hcm2, hmx⟩ := hog.form
    have HG := Lib.hid (And.intro hge (And.intro hgr hB1))
    have hk6 : (mays t l ss).length ≤ 6 := by unfold mays; rw [List.length_map]; exact (mays_ok hge).2.1
    have HK := Lib.hid (And.intro hk6 (mays_in hge HN.out))
    clear hog hgr hcm2 hmx hB1 hge hk6 hbw hb1
    generalize hk : (mays t l ss).length = k at *
    have HKE := Lib.hid hk
    clear hk
    go_wp2_with fail
    refine (homeG_any (may := mays t l ss) (mis := mis) (left := 0) (lf := fun _ _ => true) _ HKE.out.symm ?_ ?_ ?_ (by decide) HK.out.2 (fun _ _ => by kernel_rfl) ?_).mono ?_
    · rw [HKE.out]; exact HG.out.2.1.below (bal0 w1 _) (Nat.le_refl _)
    · exact HMI.out.below (bal (HG.out.2.2) (Nat.le_refl _) _) (Nat.le_refl _)
    · rw [HKE.out]; exact HK.out.1
    · intro W hW p o _ _ _
      exact any_any _ _ _ _ rfl
    rintro e w2 ⟨hr, hb2⟩
    cases hg : giveL (mays t l ss) mis 0 (fun _ _ => true) with
    | none =>
      have HE := Lib.hid (show homeE t l ss mis = 11 ∧ homeL t l ss mis = [] by unfold homeE homeL; rw [if_neg (by simp [HG.out.1]), if_pos hg, if_neg (by simp [HG.out.1]), hg]; exact ⟨rfl, rfl⟩)
      have hr2 : e = Ending.returned (.tuple #[.slice none 0 0, .bool false]) := by
        unfold HomeRes at hr; rw [hg] at hr; exact hr
      subst hr2
      clear hr hg
      go_wp2
      go_ret2
      exact ⟨.slice none 0 0, ret_val HE.out.1.symm, by rw [HE.out.2]; exact Own.nil_, (bal HG.out.2.2 (Nat.le_refl _) _).trans (hb2.mono (by simp; omega))⟩
    | some r =>
      have HE := Lib.hid (show homeE t l ss mis = 0 ∧ homeL t l ss mis = r by unfold homeE homeL; rw [if_neg (by simp [HG.out.1]), if_neg (by simp [hg]), if_neg (by simp [HG.out.1]), hg]; exact ⟨rfl, rfl⟩)
      have hr2 : ∃ v, e = Ending.returned (.tuple #[v, .bool true]) ∧ OwnI w2 (w1.heap.size + 1) v r := by
        unfold HomeRes at hr; rw [hg] at hr; simpa using hr
      obtain ⟨v, rfl, hov⟩ := hr2
      have HO := Lib.hid hov
      clear hr hg hov
      go_wp2
      go_ret2
      exact ⟨v, ret_val HE.out.1.symm, by rw [HE.out.2]; exact HO.out.mono (by omega), (bal HG.out.2.2 (Nat.le_refl _) _).trans (hb2.mono (by simp; omega))⟩
  · have hg : e = Ending.returned (.tuple #[.agg #[.int .i64 0, .slice none 0 0, .slice none 0 0, .slice none 0 0], .int .i64 (gatherE t l ss mis)]) := by
      unfold GatherRes at hr
      rwa [if_neg hge] at hr
    subst hg
    have h0 : (gatherE t l ss mis != 0) = true := by simp [hge]
    have HE := Lib.hid (show homeE t l ss mis = gatherE t l ss mis ∧ homeL t l ss mis = [] by unfold homeE homeL; rw [if_pos hge, if_pos hge]; exact ⟨rfl, rfl⟩)
    clear hr hge
    go_wp2
    go_ret2
    exact ⟨.slice none 0 0, ret_val HE.out.1.symm, by rw [HE.out.2]; exact Own.nil_, bal hB1 (Nat.le_refl _) _⟩
end Go.Proofs.YtoidaigiejilcaaDoor
