/- A map from six integers to bool that the call makes: what a look-up finds, what a store leaves. -/
import Derived.Test.YtahlicinchehhaaApp
import Derived.Maps.Own
namespace Go.Proofs.Ytahlicinchehhaa
open Go.RowKit
set_option linter.unusedVariables false
set_option linter.unusedSimpArgs false

/-- a key: six integers -/
structure Cn where
  a : Int
  b : Int
  c : Int
  d : Int
  e : Int
  s : Int
  deriving DecidableEq
def kv (k : Cn) : Value := .agg #[.int .i64 k.a, .int .i64 k.b, .int .i64 k.c, .int .i64 k.d, .int .i64 k.e, .int .i64 k.s]
def Cn.cs (k : Cn) : Array Value := #[.int .i64 k.a, .int .i64 k.b, .int .i64 k.c, .int .i64 k.d, .int .i64 k.e, .int .i64 k.s]

theorem info_int : (Try.prog.info? 3).map (fun i => i.size) = some 1 := by kernel_rfl
theorem run_size_int (w : World) : (sizeOf 3).run Try.prog w = .ok 1 w := by
  have h := info_int
  cases hi : Try.prog.info? 3 with
  | none => rw [hi] at h; cases h
  | some i => rw [hi] at h; simp at h; simp [sizeOf, typeInfo, hi, h]
theorem run_part_int (cs : Array Value) (off : Nat) (v : Value) (h : cs[off]? = some v) (w : World) : (part 3 cs off).run Try.prog w = .ok v w := by
  have hi := run_underlying (P := Try.prog) (w := w) Try.underlying3
  simp [part, isAgg, hi, h]
theorem run_eqInt (d : Nat) (a b : Int) (w : World) : (Op.equalIn (d + 1) 3 (.int .i64 a) (.int .i64 b)).run Try.prog w = .ok (a == b) w := by
  have hi := run_underlying (P := Try.prog) (w := w) Try.underlying3
  simp [Op.equalIn, hi]
theorem run_equalIn6 (d : Nat) (x y : Cn) (w : World) : (Op.equalIn (d + 2) 132 (kv x) (kv y)).run Try.prog w = .ok (decide (x = y)) w := by
  have h := run_underlying (P := Try.prog) (w := w) Try.underlying132
  unfold Op.equalIn kv
  simp only [Sem.run_bind, h, Result.andThen_ok, run_size_int]
  have hp : ∀ i (v : Value), x.cs[i]? = some v → ∀ w, (part 3 #[.int .i64 x.a, .int .i64 x.b, .int .i64 x.c, .int .i64 x.d, .int .i64 x.e, .int .i64 x.s] i).run Try.prog w = .ok v w := fun i v h w => run_part_int _ _ _ h w
  have hq : ∀ i (v : Value), y.cs[i]? = some v → ∀ w, (part 3 #[.int .i64 y.a, .int .i64 y.b, .int .i64 y.c, .int .i64 y.d, .int .i64 y.e, .int .i64 y.s] i).run Try.prog w = .ok v w := fun i v h w => run_part_int _ _ _ h w
  have p0 := hp 0 (.int .i64 x.a) rfl
  have p1 := hp 1 (.int .i64 x.b) rfl
  have p2 := hp 2 (.int .i64 x.c) rfl
  have p3 := hp 3 (.int .i64 x.d) rfl
  have p4 := hp 4 (.int .i64 x.e) rfl
  have p5 := hp 5 (.int .i64 x.s) rfl
  have q0 := hq 0 (.int .i64 y.a) rfl
  have q1 := hq 1 (.int .i64 y.b) rfl
  have q2 := hq 2 (.int .i64 y.c) rfl
  have q3 := hq 3 (.int .i64 y.d) rfl
  have q4 := hq 4 (.int .i64 y.e) rfl
  have q5 := hq 5 (.int .i64 y.s) rfl
  clear hp hq
  have hr : List.range' 0 6 = [0, 1, 2, 3, 4, 5] := rfl
  have hd : decide (x = y) = (x.a == y.a && (x.b == y.b && (x.c == y.c && (x.d == y.d && (x.e == y.e && x.s == y.s))))) := by
    obtain ⟨a0, a1, a2, a3, a4, a5⟩ := x
    obtain ⟨b0, b1, b2, b3, b4, b5⟩ := y
    rw [Bool.eq_iff_iff]
    simp only [decide_eq_true_eq, Cn.mk.injEq, Bool.and_eq_true, beq_iff_eq]
  rw [hd]
  cases e0 : (x.a == y.a)
  · simp [hr, p0, q0, run_eqInt, e0]
  · cases e1 : (x.b == y.b)
    · simp [hr, p0, q0, p1, q1, run_eqInt, e0, e1]
    · cases e2 : (x.c == y.c)
      · simp [hr, p0, q0, p1, q1, p2, q2, run_eqInt, e0, e1, e2]
      · cases e3 : (x.d == y.d)
        · simp [hr, p0, q0, p1, q1, p2, q2, p3, q3, run_eqInt, e0, e1, e2, e3]
        · cases e4 : (x.e == y.e)
          · simp [hr, p0, q0, p1, q1, p2, q2, p3, q3, p4, q4, run_eqInt, e0, e1, e2, e3, e4]
          · cases e5 : (x.s == y.s)
            · simp [hr, p0, q0, p1, q1, p2, q2, p3, q3, p4, q4, p5, q5, run_eqInt, e0, e1, e2, e3, e4, e5]
            · simp [hr, p0, q0, p1, q1, p2, q2, p3, q3, p4, q4, p5, q5, run_eqInt, e0, e1, e2, e3, e4, e5]
theorem run_equal6 (x y : Cn) (w : World) : (Op.equal 132 (kv x) (kv y)).run Try.prog w = .ok (decide (x = y)) w := run_equalIn6 9998 x y w
theorem run_checkInt (b : Bool) (d : Nat) (a : Int) (w : World) : (Instr.checkKey b (d + 1) 3 (.int .i64 a)).run Try.prog w = .ok () w := by
  have hi := run_underlying (P := Try.prog) (w := w) Try.underlying3
  simp [Instr.checkKey, hi]
theorem run_checkIn6 (b : Bool) (d : Nat) (x : Cn) (w : World) : (Instr.checkKey b (d + 2) 132 (kv x)).run Try.prog w = .ok () w := by
  have h := run_underlying (P := Try.prog) (w := w) Try.underlying132
  unfold Instr.checkKey kv
  simp only [Sem.run_bind, h, Result.andThen_ok, run_size_int]
  have hp : ∀ i (v : Value), x.cs[i]? = some v → ∀ w, (part 3 #[.int .i64 x.a, .int .i64 x.b, .int .i64 x.c, .int .i64 x.d, .int .i64 x.e, .int .i64 x.s] i).run Try.prog w = .ok v w := fun i v h w => run_part_int _ _ _ h w
  have p0 := hp 0 (.int .i64 x.a) rfl
  have p1 := hp 1 (.int .i64 x.b) rfl
  have p2 := hp 2 (.int .i64 x.c) rfl
  have p3 := hp 3 (.int .i64 x.d) rfl
  have p4 := hp 4 (.int .i64 x.e) rfl
  have p5 := hp 5 (.int .i64 x.s) rfl
  have hr : List.range' 0 6 = [0, 1, 2, 3, 4, 5] := rfl
  have hs := run_size_int
  simp [hr, hs, p0, p1, p2, p3, p4, p5, run_checkInt]
theorem run_check6 (b : Bool) (x : Cn) (w : World) : (Instr.checkKey b 10000 132 (kv x)).run Try.prog w = .ok () w := run_checkIn6 b 9998 x w

/-- the map in block M holds true at the keys K, and nothing else -/
def MetAt (w : World) (M : Nat) (K : List Cn) : Prop :=
  ∃ es clock, w.heap[M]? = some (.map es clock) ∧ es.toList.map (fun e => (e.key, e.val)) = K.map (fun k => (kv k, Value.bool true))

theorem run_findAsking (x : Cn) (w : World) : ∀ (es : List MapEntry) (K : List Cn) (i : Nat), es.map (fun e => (e.key, e.val)) = K.map (fun k => (kv k, Value.bool true)) →
    ∃ r, (Instr.findAsking 132 (kv x) es i).run Try.prog w = .ok r w ∧ ((x ∈ K ∧ ∃ j e, es[j]? = some e ∧ e.key = kv x ∧ r = some (i + j, .bool true)) ∨ (x ∉ K ∧ r = none))
  | [], K, i, h => by
    have hK : K = [] := by cases K with
      | nil => rfl
      | cons a b => simp at h
    subst hK
    exact ⟨none, by simp [Instr.findAsking], .inr ⟨by simp, rfl⟩⟩
  | e :: es, K, i, h => by
    cases K with
    | nil => simp at h
    | cons k K =>
      simp only [List.map_cons, List.cons.injEq, Prod.mk.injEq] at h
      obtain ⟨⟨hk, hv⟩, hr⟩ := h
      by_cases hx : x = k
      · subst hx
        refine ⟨some (i, .bool true), by simp [Instr.findAsking, hk, run_equal6, hv], .inl ⟨by simp, 0, e, rfl, hk, rfl⟩⟩
      · obtain ⟨r, hrun, hcase⟩ := run_findAsking x w es K (i + 1) hr
        refine ⟨r, by simp [Instr.findAsking, hk, run_equal6, hx, hrun], ?_⟩
        rcases hcase with ⟨hin, j, e', he', hke, hre⟩ | ⟨hout, hre⟩
        · exact .inl ⟨by simp [hin], j + 1, e', by simpa using he', hke, by rw [hre, Nat.add_assoc, Nat.add_comm 1 j]⟩
        · exact .inr ⟨by simp [hx, hout], hre⟩
theorem run_findKey (x : Cn) (w : World) (es : List MapEntry) (K : List Cn) (h : es.map (fun e => (e.key, e.val)) = K.map (fun k => (kv k, Value.bool true))) :
    ∃ r, (Instr.findKey 132 (kv x) es).run Try.prog w = .ok r w ∧ ((x ∈ K ∧ ∃ j e, es[j]? = some e ∧ e.key = kv x ∧ r = some (j, .bool true)) ∨ (x ∉ K ∧ r = none)) := by
  have hu := run_underlying (P := Try.prog) (w := w) Try.underlying132
  cases es with
  | nil =>
    obtain ⟨r, h1, h2⟩ := run_findAsking x w [] K 0 h
    refine ⟨r, ?_, by simpa using h2⟩
    simp [Instr.findKey, hu, Instr.findNow]
    simpa [Instr.findAsking] using h1
  | cons e es =>
    obtain ⟨r, h1, h2⟩ := run_findAsking x w (e :: es) K 0 h
    refine ⟨r, ?_, by simpa using h2⟩
    have hk : e.key = kv (K.headD ⟨0, 0, 0, 0, 0, 0⟩) := by
      cases K with
      | nil => simp at h
      | cons k K => simp only [List.map_cons, List.cons.injEq, Prod.mk.injEq] at h; exact h.1.1
    simp [Instr.findKey, hu, Instr.findNow, Instr.sameNow, h1]
theorem run_look6 (x : Cn) (w : World) (M : Nat) (K : List Cn) (h : MetAt w M K) : (Instr.lookup 133 (.map (some M)) (kv x) false).run Try.prog w = .ok (.bool (decide (x ∈ K))) w := by
  obtain ⟨es, clock, hh, hes⟩ := h
  obtain ⟨r, hr, hc⟩ := run_findKey x w es.toList K hes
  have hu := run_underlying (P := Try.prog) (w := w) Try.underlying133
  have hz : (zeroValue 4).run Try.prog w = .ok (.bool false) w := by kernel_rfl
  have hg : (getObj M).run Try.prog w = .ok (.map es clock) w := by simp [getObj, Sem.run, hh]
  rcases hc with ⟨hin, j, e, he, hke, rfl⟩ | ⟨hout, rfl⟩
  · simp [Instr.lookup, hu, hg, run_check6, hr, hin]
  · simp [Instr.lookup, hu, hg, run_check6, hr, hout, hz]
theorem sameBits_kv (x : Cn) : Instr.sameBits 10000 (kv x) (kv x) = true := by
  simp [kv, Instr.sameBits]
/-- after a store of true at x the map holds K and x, and nothing else has changed -/
theorem run_put6 (x : Cn) (w : World) (M : Nat) (K : List Cn) (h : MetAt w M K) :
    ∃ ob, (Instr.mapUpdate 133 (.map (some M)) (kv x) (.bool true)).run Try.prog w = .ok () { w with heap := w.heap.setIfInBounds M ob } ∧ M < w.heap.size
      ∧ ∃ K', (∀ w' : World, w'.heap[M]? = some ob → MetAt w' M K') ∧ ∀ k, k ∈ K' ↔ k ∈ K ∨ k = x := by
  obtain ⟨es, clock, hh, hes⟩ := h
  obtain ⟨r, hr, hc⟩ := run_findKey x w es.toList K hes
  have hu := run_underlying (P := Try.prog) (w := w) Try.underlying133
  have hg : (getObj M).run Try.prog w = .ok (.map es clock) w := by simp [getObj, Sem.run, hh]
  have hs : ∀ o, (setObj M o).run Try.prog w = .ok () { w with heap := w.heap.setIfInBounds M o } := fun o => by simp [setObj, Sem.run, hh]
  have hlt : M < w.heap.size := (Array.getElem?_eq_some_iff.1 hh).1
  rcases hc with ⟨hin, j, e, he, hke, rfl⟩ | ⟨hout, rfl⟩
  · have hj : es[j]? = some e := by simpa using he
    refine ⟨.map (es.modify j fun e => { e with key := kv x, val := .bool true }) clock, ?_, hlt, K, ?_, fun k => ⟨.inl, fun h => h.elim id (fun h => h ▸ hin)⟩⟩
    · simp [Instr.mapUpdate, hu, hg, run_check6, hr, hj, hke, Instr.keyThatStays, sameBits_kv, hs]
    · intro w' hw'
      refine ⟨_, _, hw', ?_⟩
      rw [← hes]
      apply List.ext_getElem?
      intro i
      simp only [List.getElem?_map, Array.getElem?_toList, Array.getElem?_modify]
      by_cases hij : j = i
      · subst hij
        have hv : e.val = .bool true := by
          have h2 := congrArg (fun l => l[j]?) hes
          simp only [List.getElem?_map, Array.getElem?_toList, hj, Option.map_some] at h2
          cases hk : K[j]? with
          | none => simp [hk] at h2
          | some k => simp only [hk, Option.map_some, Option.some.injEq, Prod.mk.injEq] at h2; exact h2.2
        simp [hj, hke, hv]
      · simp [hij]
  · refine ⟨.map (es.push { key := kv x, val := .bool true, born := clock }) (clock + 1), ?_, hlt, K ++ [x], ?_, fun k => by simp⟩
    · simp [Instr.mapUpdate, hu, hg, run_check6, hr, hs]
    · intro w' hw'
      refine ⟨_, _, hw', ?_⟩
      simp [hes]
theorem wp_put6 {w : World} {ops : Array Oper} {rest : List Oper} {o : Oper} {a : Act} {Q : Exit → Act → World → Prop}
    (hg : o.guard = none) (m x v : Operand) (hop : o.op = Op.mapUpdate 133 m x v) (M : Nat) (K : List Cn) (k : Cn)
    (hm : a.eval m = .map (some M)) (hx : a.eval x = kv k) (hv : a.eval v = .bool true) (h : MetAt w M K)
    (hK : ∀ ob K', M < w.heap.size → (∀ w' : World, w'.heap[M]? = some ob → MetAt w' M K') → (∀ q, q ∈ K' ↔ q ∈ K ∨ q = k) → wpList Try.prog ops Q rest (a.put o.dst undef) { w with heap := w.heap.setIfInBounds M ob }) :
    wpList Try.prog ops Q (o :: rest) a w := by
  refine wpList_plain hg fun K' hK' => ?_
  obtain ⟨ob, hrun, hlt, K2, h1, h2⟩ := run_put6 k w M K h
  unfold Oper.wp
  simp [execOp, hop, hm, hx, hv, hrun, Result.andThen]
  exact hK' _ _ (hK ob K2 hlt h1 h2)
theorem met_empty {w : World} {M clock : Nat} (h : w.heap[M]? = some (.map #[] clock)) : MetAt w M [] := ⟨_, _, h, rfl⟩
theorem MetAt.keep {w w' : World} {M : Nat} {K : List Cn} (h : MetAt w M K) (e : w'.heap[M]? = w.heap[M]?) : MetAt w' M K := by
  obtain ⟨es, c, h1, h2⟩ := h
  exact ⟨es, c, by rw [e]; exact h1, h2⟩
end Go.Proofs.Ytahlicinchehhaa
