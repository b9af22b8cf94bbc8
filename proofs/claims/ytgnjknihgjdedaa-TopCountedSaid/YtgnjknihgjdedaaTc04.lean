/- TopCounted 4: Kit, TalL, HdM. -/
import Derived.Test.YtgnjknihgjdedaaTc01
import Derived.Test.YtgnjknihgjdedaaTc03
import Derived.Test.YtgnjknihgjdedaaTc02
import Derived.Laws.AppendOwnNone
import Derived.Maps.Own
import Derived.Maps.OwnOps
import Derived.Maps.RangeWalk
import Derived.DeepKeys4
namespace Go.Proofs.Ytgnjknihgjdedaa
open Go.RowKit
set_option linter.unusedVariables false
set_option linter.unusedSimpArgs false

end Go.Proofs.Ytgnjknihgjdedaa

namespace Go.Proofs.Ytgnjknihgjdedaa
open Go.RowKit
set_option linter.unusedVariables false
set_option linter.unusedSimpArgs false

theorem flat_len {α : Type} {enc : α → List Value} {sz : Nat} (h : ∀ x, (enc x).length = sz) (l : List α) : (l.flatMap enc).length = l.length * sz := by
  induction l with
  | nil => simp
  | cons a r ih => rw [List.flatMap_cons, List.length_append, ih, h, List.length_cons, Nat.succ_mul]; omega
theorem flat_at {α : Type} {enc : α → List Value} {sz : Nat} (hsz : 0 < sz) (h : ∀ x, (enc x).length = sz) : ∀ (l : List α) (j : Nat) (u : Value), (l.flatMap enc)[j]? = some u → ∃ x, l[j / sz]? = some x ∧ (enc x)[j % sz]? = some u
  | [], j, u, hu => by simp at hu
  | a :: r, j, u, hu => by
    rw [List.flatMap_cons] at hu
    rcases Nat.lt_or_ge j sz with hj | hj
    · rw [List.getElem?_append_left (by rw [h]; exact hj)] at hu
      exact ⟨a, by rw [Nat.div_eq_of_lt hj]; rfl, by rw [Nat.mod_eq_of_lt hj]; exact hu⟩
    · rw [List.getElem?_append_right (by rw [h]; exact hj), h] at hu
      obtain ⟨x, h1, h2⟩ := flat_at hsz h r (j - sz) u hu
      have e1 : j = (j - sz) + sz := by omega
      refine ⟨x, ?_, ?_⟩
      · rw [e1, Nat.add_div_right _ hsz]; simpa using h1
      · rw [e1, Nat.add_mod_right]; exact h2

theorem wp_apps {α : Type} {enc : α → List Value} {P : Program} {t e : TypeId} {sz bytes : Nat} (E : ElemOk P t e sz bytes) {ops : Array Oper} {rest : List Oper} {o : Oper} {a : Act} {Q : Exit → Act → World → Prop} {w : World}
    (hgd : o.guard = none) (s x : Operand) (ho : o.op = .call { callee := .builtin .append, args := #[s, x], argTypes := #[t, t] })
    (base : Nat) (v : Value) (l : List α) (A : Option Addr) (m c : Nat) (l2 : List α) (hs : a.eval s = v) (hx : a.eval x = .slice A m c) (hl2 : Sl enc sz w A m l2) (hz : A = none → c = 0)
    (hlen : ∀ x, (enc x).length = sz) (h1 : ∀ x, ∀ u ∈ enc x, u.oneCell' = true)
    (hown : Own enc e sz w base v l) (hll : l.length + m < 4294967296) (hby : bytes ≤ 4096) (hbase : base ≤ w.heap.size)
    (h : ∀ v' w', Own enc e sz w' base v' (l ++ l2) → w.grownBy w' v.ownBlock → Below base w w' → wpList P ops Q rest (a.put o.dst v') w') :
    wpList P ops Q (o :: rest) a w := by
  obtain ⟨i, z, hi, hzz, hsize, hbytes, hzs⟩ := E.info
  cases A with
  | none =>
    have hc := hz rfl
    subst hc
    have hm : m = 0 := by
      rcases Nat.eq_zero_or_pos m with h0 | h0
      · exact h0
      · obtain ⟨b, off, hA, _⟩ := hl2.2 h0; cases hA
    subst hm
    have hl0 : l2 = [] := List.eq_nil_of_length_eq_zero hl2.1
    subst hl0
    refine wpList_append_own_none hgd s x t ho base e i sz E.sl hi v l.length (l.flatMap enc) hs hown hx ?_
    exact h v w (by rw [List.append_nil]; exact hown) (World.grownBy.refl w _) (Below.refl _ _)
  | some ad =>
    refine wpList_append_own w hgd s x t ho base e i z sz bytes E.sl hi hzz hsize hbytes hzs E.pos v l.length (l.flatMap enc) hs hown ad m c (l2.flatMap enc) hx (by rw [flat_len hlen, hl2.1]) ?_ ?_ (by unfold maxLen; omega) ?_ hbase ?_
    · intro j u hu
      obtain ⟨y, hy, hu2⟩ := flat_at E.pos hlen l2 j u hu
      have hlt := (List.getElem?_eq_some_iff.1 hy).1
      obtain ⟨b, off, hA, hc⟩ := hl2.2 (hl2.1 ▸ Nat.lt_of_le_of_lt (Nat.zero_le _) hlt)
      cases hA
      have := hc _ y hy _ u hu2
      rw [Addr.add_lit]
      have e1 : off + j / sz * sz + j % sz = off + j := by rw [Nat.add_assoc, Nat.div_add_mod']
      rw [e1] at this
      exact this
    · intro u hu
      obtain ⟨y, hy, hu2⟩ := List.mem_flatMap.1 hu
      exact h1 y u hu2
    · calc (l.length + m) * bytes ≤ 4294967296 * 4096 := Nat.mul_le_mul (by omega) hby
        _ ≤ 140737488355328 := by omega
    · intro v' w' hown' hg _
      refine h v' w' ?_ hg ((Below.refl _ _).grown hg hbase (fun k hk => (Own.lt hown k hk).1))
      have e2 : (l ++ l2).flatMap enc = l.flatMap enc ++ l2.flatMap enc := by simp
      unfold Own
      rw [e2, List.length_append, hl2.1]
      exact hown'
end Go.Proofs.Ytgnjknihgjdedaa

namespace Go.Proofs.Ytgnjknihgjdedaa
open Go.RowKit
set_option linter.unusedVariables false
set_option linter.unusedSimpArgs false

end Go.Proofs.Ytgnjknihgjdedaa
namespace Go.Proofs.Ytgnjknihgjdedaa
set_option linter.unusedVariables false
set_option linter.unusedSimpArgs false

theorem endsTo_snoc {t : Int} {l : List Mk} {hs : List (List Int)} {ds : List De} {d : De} {deed owner : Int} : ∀ i, i ≤ ds.length → endsTo t l hs (ds ++ [d]) deed owner i = endsTo t l hs ds deed owner i
  | 0, _ => rfl
  | i + 1, hi => by
    unfold endsTo
    rw [endsTo_snoc i (by omega), List.getElem?_append_left (by omega)]
end Go.Proofs.Ytgnjknihgjdedaa
namespace Go.Proofs.Ytgnjknihgjdedaa
open Go.RowKit Go.MapKept Go.ChangeMaps
set_option linter.unusedVariables false
set_option linter.unusedSimpArgs false

def hv (h : List Int) : Value := .agg (h.map (Value.int .i64)).toArray
def HOk (h : List Int) : Prop := h.length = 15 ∧ ∀ x ∈ h, -9223372036854775808 ≤ x ∧ x ≤ 9223372036854775807
theorem HBd.ok {B : Int} {h : List Int} (hh : HBd B h) (hB : B ≤ 9223372036854775807) : HOk h := ⟨hh.1, fun x hx => by have := hh.2 x hx; omega⟩
theorem hv_inj {h k : List Int} (e : hv h = hv k) : h = k := by
  unfold hv at e
  injection e with e
  have e2 := congrArg Array.toList e
  simp only at e2
  have : ∀ (a b : List Int), a.map (Value.int .i64) = b.map (Value.int .i64) → a = b := by
    intro a
    induction a with
    | nil => intro b hb; cases b with
      | nil => rfl
      | cons y b => simp at hb
    | cons x a ih => intro b hb; cases b with
      | nil => simp at hb
      | cons y b => simp at hb; rw [hb.1, ih b (by simpa using hb.2)]
  exact this h k e2
theorem laidOutH : laidOutB Try.prog = true := by kernel_rfl
theorem hdsRow : (126 : TypeId) < Try.prog.types.size := of_decide_eq_true (by kernel_rfl)
theorem hdsWide : (match Try.prog.underlying 126 with | some (.array _ _) | some (.struct _) => true | _ => false) = true := by rw [Try.underlying126]
set_option maxRecDepth 100000 in
theorem hdsLaw : WideMaps.KeyLaw Try.prog 126 := deep_law_laid laidOutH (m := 3) (by omega) hdsRow (by kernel_rfl) hdsWide
theorem hdsKeyed : Maps.Keyed Try.prog 126 := Maps.Keyed.of_law hdsLaw
theorem cells_row : Try.prog.cellsOf 124 = 5 := by kernel_rfl
theorem cells_hds : Try.prog.cellsOf 126 = 15 := by kernel_rfl
theorem cells_int : Try.prog.cellsOf 3 = 1 := by kernel_rfl
theorem lits_int (d : Nat) (x : Int) (hx : -9223372036854775808 ≤ x ∧ x ≤ 9223372036854775807) : Try.prog.keyLits (d + 1) 3 [.int .i64 x] = some [.int .i64 x] := by
  unfold Program.keyLits
  rw [Try.underlying3]
  simp [WalkArith.wf_i64 hx]
theorem lits_row (d : Nat) {a b c e f : Int} (ha : -9223372036854775808 ≤ a ∧ a ≤ 9223372036854775807) (hb : -9223372036854775808 ≤ b ∧ b ≤ 9223372036854775807) (hc : -9223372036854775808 ≤ c ∧ c ≤ 9223372036854775807)
    (he : -9223372036854775808 ≤ e ∧ e ≤ 9223372036854775807) (hf : -9223372036854775808 ≤ f ∧ f ≤ 9223372036854775807) :
    Try.prog.keyLits (d + 2) 124 [.int .i64 a, .int .i64 b, .int .i64 c, .int .i64 e, .int .i64 f] = some [.int .i64 a, .int .i64 b, .int .i64 c, .int .i64 e, .int .i64 f] := by
  have h0 := lits_int d a ha
  have h1 := lits_int d b hb
  have h2 := lits_int d c hc
  have h3 := lits_int d e he
  have h4 := lits_int d f hf
  have hr : List.range 5 = [0, 1, 2, 3, 4] := rfl
  unfold Program.keyLits
  rw [Try.underlying124]
  simp [cells_row, cells_int, hr, h0, h1, h2, h3, h4]
theorem list15' {α : Type} {l : List α} (h : l.length = 15) : ∃ a b c d e f g i j k m n o p q, l = [a, b, c, d, e, f, g, i, j, k, m, n, o, p, q] := by
  match l, h with
  | [a, b, c, d, e, f, g, i, j, k, m, n, o, p, q], _ => exact ⟨a, b, c, d, e, f, g, i, j, k, m, n, o, p, q, rfl⟩
set_option maxRecDepth 100000 in
theorem hds_keyType : Try.prog.keyType 126 = true := by kernel_rfl
theorem keyH {h : List Int} (hh : HOk h) : ∃ l, keyOf Try.prog 126 (hv h) = some l := by
  obtain ⟨a, b, c, d, e, f, g, i, j, k, m, n, o, p, q, rfl⟩ := list15' hh.1
  have hw := hh.2
  simp only [List.mem_cons, List.not_mem_nil, or_false, forall_eq_or_imp, forall_eq] at hw
  obtain ⟨h0, h1, h2, h3, h4, h5, h6, h7, h8, h9, h10, h11, h12, h13, h14⟩ := hw
  obtain ⟨d', hd⟩ : ∃ d', Try.prog.types.size + 1 = d' + 3 := ⟨Try.prog.types.size - 2, by have : 2 ≤ Try.prog.types.size := of_decide_eq_true (by kernel_rfl); omega⟩
  have r0 := lits_row d' h0 h1 h2 h3 h4
  have r1 := lits_row d' h5 h6 h7 h8 h9
  have r2 := lits_row d' h10 h11 h12 h13 h14
  have hr : List.range 3 = [0, 1, 2] := rfl
  have hu := Try.underlying126
  have hform : (hv [a, b, c, d, e, f, g, i, j, k, m, n, o, p, q]).formed Try.prog 126 = true := by simp [Value.formed, hu, cells_hds, hv]
  have hk : Try.prog.keyLits (d' + 3) 126 (hv [a, b, c, d, e, f, g, i, j, k, m, n, o, p, q]).cells.toList = some ([[Lit.int .i64 a, .int .i64 b, .int .i64 c, .int .i64 d, .int .i64 e], [.int .i64 f, .int .i64 g, .int .i64 i, .int .i64 j, .int .i64 k], [.int .i64 m, .int .i64 n, .int .i64 o, .int .i64 p, .int .i64 q]].flatten) := by
    unfold Program.keyLits
    rw [hu]
    simp [cells_hds, cells_row, hr, hv, Value.cells, r0, r1, r2]
  exact ⟨_, by unfold keyOf; rw [hu, hds_keyType, hform, hd, hk]; rfl⟩

def MetH (w : World) (M : Nat) (K : List (List Int)) : Prop :=
  ∃ es clock, w.heap[M]? = some (.map es clock) ∧ MapKept.Stamped es clock ∧ es.toList.map (fun e => (e.key, e.val)) = K.map (fun h => (hv h, Value.bool true)) ∧ ∀ h ∈ K, HOk h
theorem MetH.lt {w : World} {M : Nat} {K : List (List Int)} (h : MetH w M K) : M < w.heap.size := by obtain ⟨es, c, h1, _⟩ := h; exact heap_lt h1
theorem MetH.keep {w w' : World} {M : Nat} {K : List (List Int)} (h : MetH w M K) (e : w'.heap[M]? = w.heap[M]?) : MetH w' M K := by
  obtain ⟨es, c, h1, h2⟩ := h
  exact ⟨es, c, by rw [e]; exact h1, h2⟩
theorem metH_empty {w : World} {M clock : Nat} (h : w.heap[M]? = some (.map #[] clock)) : MetH w M [] := ⟨_, _, h, MapKept.stamped_empty _, rfl, fun h hh => by cases hh⟩
theorem keys_of {es : List MapEntry} {K : List (List Int)} (h : es.map (fun e => (e.key, e.val)) = K.map (fun h => (hv h, Value.bool true))) : es.map (·.key) = K.map hv := by
  have := congrArg (List.map Prod.fst) h
  rw [List.map_map, List.map_map] at this
  exact this
theorem MetH.nodup {w : World} {M : Nat} {K : List (List Int)} (h : MetH w M K) : K.Nodup := by
  obtain ⟨es, c, h1, h2, h3, h4⟩ := h
  have hn := h2.2.2
  rw [keys_of h3] at hn
  exact List.Pairwise.of_map hv (fun a b hab e => hab (by rw [e])) hn
theorem entry_key {es : List MapEntry} {K : List (List Int)} (h : es.map (fun e => (e.key, e.val)) = K.map (fun h => (hv h, Value.bool true))) {e : MapEntry} (he : e ∈ es) : ∃ k ∈ K, e.key = hv k ∧ e.val = .bool true := by
  have hm : (e.key, e.val) ∈ es.map (fun e => (e.key, e.val)) := List.mem_map.2 ⟨e, he, rfl⟩
  rw [h] at hm
  obtain ⟨k, hk, e2⟩ := List.mem_map.1 hm
  injection e2 with e3 e4
  exact ⟨k, hk, e3.symm, e4.symm⟩

theorem run_putH (x : List Int) (hx : HOk x) (w : World) (M : Nat) (K : List (List Int)) (h : MetH w M K) :
    ∃ ob, (Instr.mapUpdate 187 (.map (some M)) (hv x) (.bool true)).run Try.prog w = .ok () { w with heap := w.heap.setIfInBounds M ob } ∧ M < w.heap.size
      ∧ ∃ K', (∀ w' : World, w'.heap[M]? = some ob → MetH w' M K') ∧ ∀ k, k ∈ K' ↔ k ∈ K ∨ k = x := by
  obtain ⟨es, clock, hh, hst, hes, hok⟩ := h
  obtain ⟨l, hl⟩ := keyH hx
  have hu := run_underlying (P := Try.prog) (w := w) Try.underlying187
  have hg : (getObj M).run Try.prog w = .ok (.map es clock) w := by simp [getObj, Sem.run, hh]
  have hs : ∀ o, (setObj M o).run Try.prog w = .ok () { w with heap := w.heap.setIfInBounds M o } := fun o => by simp [setObj, Sem.run, hh]
  have hlt : M < w.heap.size := heap_lt hh
  have hck := fun em => hdsKeyed.check w em hl
  have hks := hdsKeyed.stays w hl
  rcases hdsKeyed.find w hl es.toList (fun e he => by obtain ⟨k, hk, e1, _⟩ := entry_key hes he; rw [e1]; exact keyH (hok k hk)) with ⟨hr, hno⟩ | ⟨j, e, hr, hj, hke⟩
  · refine ⟨.map (es.push { key := hv x, val := .bool true, born := clock }) (clock + 1), ?_, hlt, K ++ [x], ?_, fun k => by simp⟩
    · simp [Instr.mapUpdate, hu, hg, hck, hr, hs]
    · intro w' hw'
      exact ⟨_, _, hw', MapKept.stamped_push hst hno, by simp [hes], fun k hk => by
        rcases List.mem_append.1 hk with hk | hk
        · exact hok k hk
        · simp at hk; rw [hk]; exact hx⟩
  · have hj' : es[j]? = some e := by simpa using hj
    obtain ⟨k, hk, e1, e2⟩ := entry_key hes (List.mem_of_getElem? hj)
    have hxk : x = k := hv_inj (hke.symm.trans e1)
    subst hxk
    refine ⟨.map (es.modify j fun e => { e with key := hv x, val := .bool true }) clock, ?_, hlt, K, ?_, fun k => ⟨.inl, fun h => h.elim id (fun h => h ▸ hk)⟩⟩
    · simp [Instr.mapUpdate, hu, hg, hck, hr, hj', hke, hks, hs]
    · intro w' hw'
      have hsame : es.modify j (fun e => { e with key := hv x, val := .bool true }) = es := by
        apply Array.ext_getElem?
        intro i
        rw [Array.getElem?_modify]
        split
        · rename_i hij
          subst hij
          rw [hj']
          simp only [Option.map_some]
          rw [← hke, ← e2]
        · rfl
      rw [hsame] at hw'
      exact ⟨es, clock, hw', hst, hes, hok⟩
theorem wp_putH {w : World} {ops : Array Oper} {rest : List Oper} {o : Oper} {a : Act} {Q : Exit → Act → World → Prop}
    (hg : o.guard = none) (m x v : Operand) (hop : o.op = Op.mapUpdate 187 m x v) (M : Nat) (K : List (List Int)) (k : List Int) (hk : HOk k)
    (hm : a.eval m = .map (some M)) (hx : a.eval x = hv k) (hv' : a.eval v = .bool true) (h : MetH w M K)
    (hK : ∀ ob K', M < w.heap.size → (∀ w' : World, w'.heap[M]? = some ob → MetH w' M K') → (∀ q, q ∈ K' ↔ q ∈ K ∨ q = k) → wpList Try.prog ops Q rest (a.put o.dst undef) { w with heap := w.heap.setIfInBounds M ob }) :
    wpList Try.prog ops Q (o :: rest) a w := by
  refine wpList_plain hg fun K' hK' => ?_
  obtain ⟨ob, hrun, hlt, K2, h1, h2⟩ := run_putH k hk w M K h
  unfold Oper.wp
  simp [execOp, hop, hm, hx, hv', hrun, Result.andThen]
  exact hK' _ _ (hK ob K2 hlt h1 h2)

def IterH (w : World) (M r : Nat) (K L : List (List Int)) : Prop :=
  ∃ es clock since seen c0, w.heap[M]? = some (.map es clock) ∧ MapKept.Stamped es clock ∧ es.toList.map (fun e => (e.key, e.val)) = K.map (fun h => (hv h, Value.bool true)) ∧ (∀ h ∈ K, HOk h) ∧
    w.heap[r]? = some (.mapIter (some M) since seen c0) ∧ (∀ x ∈ es.toList, x.born < since) ∧ since ≤ c0 ∧ since ≤ clock ∧ (leftOf es seen).toList.map (·.key) = L.map hv
theorem IterH.met {w : World} {M r : Nat} {K L : List (List Int)} (h : IterH w M r K L) : MetH w M K := by
  obtain ⟨es, clock, since, seen, c0, h1, h2, h3, h4, _⟩ := h
  exact ⟨es, clock, h1, h2, h3, h4⟩
theorem IterH.lt {w : World} {M r : Nat} {K L : List (List Int)} (h : IterH w M r K L) : r < w.heap.size := by
  obtain ⟨es, clock, since, seen, c0, h1, h2, h3, h4, h5, _⟩ := h
  exact heap_lt h5
theorem IterH.ne {w : World} {M r : Nat} {K L : List (List Int)} (h : IterH w M r K L) : r ≠ M := by
  obtain ⟨es, clock, since, seen, c0, h1, h2, h3, h4, h5, _⟩ := h
  intro e
  rw [e, h1] at h5
  cases h5
theorem IterH.keep {w w' : World} {M r : Nat} {K L : List (List Int)} (h : IterH w M r K L) (e : w'.heap[M]? = w.heap[M]?) (e' : w'.heap[r]? = w.heap[r]?) : IterH w' M r K L := by
  obtain ⟨es, clock, since, seen, c0, h1, h2, h3, h4, h5, h6⟩ := h
  exact ⟨es, clock, since, seen, c0, by rw [e]; exact h1, h2, h3, h4, by rw [e']; exact h5, h6⟩
theorem run_rangeH {w : World} {M : Nat} {K : List (List Int)} (h : MetH w M K) :
    ∃ w', (Instr.range 187 (.map (some M))).run Try.prog w = .ok (.pointer (some ⟨w.heap.size, 0, none⟩)) w' ∧ IterH w' M w.heap.size K K ∧ w.grownBy w' none ∧ w'.heap.size = w.heap.size + 1 := by
  obtain ⟨es, clock, h1, h2, h3, h4⟩ := h
  have hlt := heap_lt h1
  have hrun := run_range_map w 187 126 4 M es clock Try.underlying187 h1
  refine ⟨_, hrun, ⟨es, clock, clock, #[], clock, ((MapKept.heap_alloc w _).2 M hlt).trans h1, h2, h3, h4, (MapKept.heap_alloc w _).1, h2.1, Nat.le_refl _, Nat.le_refl _, ?_⟩, World.grownBy_alloc w _ none, by simp⟩
  have : leftOf es #[] = es := by simp [leftOf]
  rw [this]
  exact keys_of h3
theorem keys_split {l : List MapEntry} {L : List (List Int)} (h : l.map (·.key) = L.map hv) {e : MapEntry} (he : e ∈ l) (hn : (l.map (·.born)).Nodup) :
    ∃ x L', L.Perm (x :: L') ∧ e.key = hv x ∧ (l.filter fun y => !(y.born == e.born)).map (·.key) = L'.map hv := by
  induction l generalizing L with
  | nil => cases he
  | cons y l ih =>
    cases L with
    | nil => simp at h
    | cons z L =>
      simp only [List.map_cons, List.cons.injEq] at h
      obtain ⟨h1, h2⟩ := h
      simp only [List.map_cons, List.nodup_cons] at hn
      rcases List.mem_cons.1 he with rfl | he'
      · refine ⟨z, L, List.Perm.refl _, h1, ?_⟩
        have hf : (l.filter fun y => !(y.born == e.born)) = l := by
          rw [List.filter_eq_self]
          intro a ha
          have : a.born ≠ e.born := fun e' => hn.1 (e' ▸ List.mem_map.2 ⟨a, ha, rfl⟩)
          simp [this]
        rw [List.filter_cons]
        simp only [beq_self_eq_true, Bool.not_true, Bool.false_eq_true, if_false]
        rw [hf]
        exact h2
      · obtain ⟨x, L', hp, hx, hL⟩ := ih h2 he' hn.2
        refine ⟨x, z :: L', (hp.cons z).trans (List.Perm.swap x z L'), hx, ?_⟩
        have hne : y.born ≠ e.born := fun e' => hn.1 (e' ▸ List.mem_map.2 ⟨e, he', rfl⟩)
        rw [List.filter_cons]
        simp only [show (y.born == e.born) = false from beq_eq_false_iff_ne.2 hne, Bool.not_false, if_true, List.map_cons, h1, hL]
theorem left_push (es : Array MapEntry) (seen : Array Nat) (b : Nat) : (leftOf es (seen.push b)).toList = (leftOf es seen).toList.filter fun y => !(y.born == b) := by
  unfold leftOf
  simp only [Array.toList_filter, List.filter_filter]
  congr 1
  funext y
  simp only [Array.contains_eq_mem, Array.mem_push]
  by_cases h1 : y.born ∈ seen <;> by_cases h2 : y.born = b <;> simp [h1, h2]
theorem run_nextH {w : World} {M r : Nat} {K L : List (List Int)} (h : IterH w M r K L) (ty : TypeId) :
    (L = [] ∧ (Instr.next (.pointer (some ⟨r, 0, none⟩)) false ty).run Try.prog w = .ok (.tuple #[.bool false]) w) ∨
    ∃ x L' w', L.Perm (x :: L') ∧ HOk x ∧ (Instr.next (.pointer (some ⟨r, 0, none⟩)) false ty).run Try.prog w = .ok (.tuple #[.bool true, hv x, .bool true]) w' ∧ IterH w' M r K L' ∧ w.grownBy w' (some r) ∧ w'.heap.size = w.heap.size ∧
      (Instr.entry (.pointer (some ⟨r, 0, none⟩))).run Try.prog w' = .ok (.tuple #[hv x, .bool true]) w' := by
  have hne := h.ne
  obtain ⟨es, clock, since, seen, c0, h1, h2, h3, h4, h5, h6, h7, h8, h9⟩ := h
  rcases run_next_at (P := Try.prog) w ty r M since c0 seen es clock h5 h1 h6 h7 with ⟨h0, hrun⟩ | ⟨e, he, w1, hal, hrun⟩
  · left
    refine ⟨?_, hrun⟩
    have : (leftOf es seen) = #[] := Array.eq_empty_of_size_eq_zero h0
    rw [this] at h9
    cases L with
    | nil => rfl
    | cons a b => simp at h9
  · right
    have hb : (es.toList.map (·.born)).Nodup := h2.2.1
    have hsub : (leftOf es seen).toList.Sublist es.toList := by unfold leftOf; rw [Array.toList_filter]; exact List.filter_sublist
    have hbl : ((leftOf es seen).toList.map (·.born)).Nodup := (hsub.map _).nodup hb
    obtain ⟨x, L', hp, hx, hL⟩ := keys_split h9 he hbl
    obtain ⟨k, hk, e1, e2⟩ := entry_key h3 (hsub.subset he)
    have hxk : x = k := hv_inj (hx.symm.trans e1)
    subst hxk
    have hr1 : w1.heap[r]? = some (.mapIter (some M) since seen c0) := by rcases hal with rfl | rfl <;> exact h5
    have hb1 : w1.heap[M]? = some (.map es clock) := by rcases hal with rfl | rfl <;> exact h1
    have hset := heap_set (o' := .mapIter (some M) since (seen.push e.born) clock) hr1
    have hM : (setBlock w1 r (.mapIter (some M) since (seen.push e.born) clock)).heap[M]? = some (.map es clock) := (hset.2 M (fun e1 => hne e1.symm)).trans hb1
    have hen := run_entry_at (P := Try.prog) _ r M since seen es clock e hset.1 hM (hsub.subset he) hb
    rw [hx, e2] at hrun hen
    refine ⟨x, L', _, hp, h4 x hk, hrun, ⟨es, clock, since, seen.push e.born, clock, hM, h2, h3, h4, hset.1, h6, h8, h8, by rw [left_push]; exact hL⟩, ?_, ?_, hen⟩
    · rcases hal with rfl | rfl <;> exact ⟨rfl, rfl, rfl, by simp [setBlock], fun i _ hi => hset.2 i (fun e1 => hi (by rw [e1]))⟩
    · rcases hal with rfl | rfl <;> simp [setBlock]
theorem wp_rangeH {w : World} {ops : Array Oper} {rest : List Oper} {o : Oper} {a : Act} {Q : Exit → Act → World → Prop}
    (hg : o.guard = none) (m : Operand) (hop : o.op = Op.range 187 m) (M : Nat) (K : List (List Int)) (hm : a.eval m = .map (some M)) (h : MetH w M K)
    (hK : ∀ w', IterH w' M w.heap.size K K → w.grownBy w' none → w'.heap.size = w.heap.size + 1 → wpList Try.prog ops Q rest (a.put o.dst (.pointer (some ⟨w.heap.size, 0, none⟩))) w') : wpList Try.prog ops Q (o :: rest) a w := by
  refine wpList_plain hg fun K' hK' => ?_
  obtain ⟨w', hrun, r1, r2, r3⟩ := run_rangeH h
  unfold Oper.wp
  simp [execOp, hop, hm, hrun, Result.andThen]
  exact hK' _ _ (hK w' r1 r2 r3)
end Go.Proofs.Ytgnjknihgjdedaa
