/- TopFold 8: TalS, Round, Worn, FreshIt, Home1. -/
import Derived.Test.YtgnjknihgjdedaaTf04
import Derived.Test.YtgnjknihgjdedaaTf07
import Derived.Test.YtgnjknihgjdedaaTf01
import Derived.Lib.QuietBelowIn
import Derived.RangeFuncNested
import Derived.RangeFuncBound
import Derived.RangeFuncCalls
import Derived.RangeFuncLeaves
import Derived.Shelf.Abstract
import Derived.Shelf.RegionOpen
import Derived.OwnWalkIn
import Derived.TacticsInMore
import Derived.LoopNIn
import Derived.LoopIn
import Derived.Test.YtgnjknihgjdedaaTf03
import Derived.Maps.Own
import Derived.Defers
namespace Go.Proofs.Ytgnjknihgjdedaa
open Go.RowKit
set_option linter.unusedVariables false
set_option linter.unusedSimpArgs false

def boxO (t : Int) (vm vk vh vd : Value) : Obj := Obj.cells #[.int .i64 t, vm, vk, vh, vd] 64 (0, 0)
abbrev OwnD (w : World) (base : Nat) (v : Value) (l : List De) : Prop := Own eDe 67 12 w base v l
theorem Dealt.ownG {w w1 w2 : World} {H N : Nat} (h : Dealt w w1 H N) {row : Option Nat} (hg : w1.grownBy w2 row) (hr : ∀ k, row = some k → H < k ∧ w.heap.size ≤ k) : Dealt w w2 H N := by
  refine ⟨h.hd.kept fun j hj => hg.block j (Nat.lt_of_le_of_lt hj h.hd.lt) (fun e => by have := hr j e.symm; omega), ⟨hg.os.trans h.gr.os, hg.tape.trans h.gr.tape, hg.output.trans h.gr.output, Nat.le_trans h.gr.size hg.size, fun j hj hne => ?_⟩⟩
  exact (hg.block j (Nat.lt_of_lt_of_le hj h.gr.size) (fun e => by have := hr j e.symm; omega)).trans (h.gr.block j hj hne)
theorem wp_appL {α : Type} {enc : α → List Value} {P : Program} {t e : TypeId} {sz bytes : Nat} (E : ElemOk P t e sz bytes) {ops : Array Oper} {rest : List Oper} {o : Oper} {a : Act} {Q : Exit → Act → World → Prop} {w : World}
    (hgd : o.guard = none) (s x : Operand) (ho : o.op = .call { callee := .builtin .append, args := #[s, x], argTypes := #[t, t] })
    (base : Nat) (v : Value) (l : List α) (y : α) (cs : Array Value) (g : Nat) (hs : a.eval s = v) (hx : a.eval x = .slice (some ⟨g, 0, none⟩) 1 1) (hg : w.heap[g]? = some (.cells cs e (0, 0))) (hcs : cs.toList = enc y)
    (hlen : (enc y).length = sz) (h1 : ∀ u ∈ enc y, u.oneCell' = true)
    (hown : Own enc e sz w base v l) (hll : l.length < 4294967296) (hby : bytes ≤ 4096) (hbase : base ≤ w.heap.size)
    (h : ∀ g' cap w', Own enc e sz w' base (.slice (some ⟨g', 0, none⟩) (l.length + 1) cap) (l ++ [y]) → w.grownBy w' v.ownBlock → (v.ownBlock = some g' ∨ g' = w.heap.size) → wpList P ops Q rest (a.put o.dst (.slice (some ⟨g', 0, none⟩) (l.length + 1) cap)) w') :
    wpList P ops Q (o :: rest) a w := by
  obtain ⟨i, z, hi, hz, hsize, hbytes, hzs⟩ := E.info
  refine wpList_append_lies w hgd s x t ho base e i z sz bytes E.sl hi hz hsize hbytes hzs E.pos v l.length (l.flatMap enc) hs hown ⟨g, 0, none⟩ 1 1 (enc y) hx (by omega) ?_ h1 (by omega) (by unfold maxLen; omega) ?_ hbase w.heap.size rfl ?_
  · rw [← hcs]; exact World.news_of_block hg
  · calc (l.length + 1) * bytes ≤ 4294967296 * 4096 := Nat.mul_le_mul (by omega) hby
      _ ≤ 140737488355328 := by omega
  · intro g' cap w' hown' hgr hl _
    refine h g' cap w' ?_ hgr hl
    have e2 : (l ++ [y]).flatMap enc = l.flatMap enc ++ enc y := by simp
    unfold Own
    rw [e2, List.length_append]
    exact hown'

theorem ApartV.nilL {v : Value} : ApartV (.slice none 0 0) v := fun k e => nomatch e
theorem ApartV.nilR {v : Value} : ApartV v (.slice none 0 0) := fun k _ e => nomatch e
theorem ApartV.ne {a b : Value} (h : ApartV a b) : a.ownBlock = none ∨ a.ownBlock ≠ b.ownBlock := by
  cases e : a.ownBlock with
  | none => exact .inl rfl
  | some k => exact .inr fun e' => h k e e'.symm
theorem ApartV.ne' {a b : Value} (h : ApartV a b) : b.ownBlock = none ∨ b.ownBlock ≠ a.ownBlock := by
  cases e : b.ownBlock with
  | none => exact .inl rfl
  | some k => exact .inr fun e' => h k e'.symm e
structure TFl (w0 : World) (H g q : Nat) (t : Int) (bm bk bh bd vm : Value) (l : List Mk) (vk : Value) (ks : List Int) (vh : Value) (mv : List Value) (hs : List (List Int)) (vu : Value) (row : List Int) (N : Nat) (w : World) : Prop where
  hg : H < g
  gq : g < q
  z0 : w0.heap.size ≤ g
  box : w.heap[q]? = some (boxO t bm bk bh bd)
  bg : w.heap[g]? = some (boxO 0 (.slice none 0 0) (.slice none 0 0) (.slice none 0 0) (.slice none 0 0))
  m : OwnM w (g + 1) vm l
  k : OwnI w (g + 1) vk ks
  h : Own eVal 22 1 w (g + 1) vh mv
  rw : Rws w (g + 1) mv hs
  u : OwnI w (g + 1) vu row
  ap : ∀ x ∈ mv, ApartV x vk
  au : ∀ x ∈ mv, ApartV x vu
  uk : ApartV vu vk
  dl : Dealt w0 w H N
section
variable {w0 w w' : World} {H g q N N' : Nat} {t : Int} {bm bk bh bd vm vk vh vu v' : Value} {l : List Mk} {ks ks' : List Int} {mv : List Value} {hs : List (List Int)} {row row' : List Int}
end

def EndZ (w : World) (base z : Nat) (v : Value) (ls : List (List Int)) : Prop :=
  ∃ mv, Own eVal 22 1 w base v mv ∧ Rws w base mv ls ∧ mv.Pairwise ApartV ∧ (∀ x ∈ mv, ∀ k, x.ownBlock = some k → k < z) ∧ ∀ k, v.ownBlock = some k → k < z
section
variable {w w' : World} {base z : Nat} {v : Value} {ls : List (List Int)}
end

structure TDe (w0 w1 : World) (H q : Nat) (t : Int) (vm vk vh bd vd : Value) (ds : List De) (vE : Value) (gs : List (List Int)) (vG : Value) (gone : List Int) (vW : Value) (whose : List Int) (ze1 ze2 zg1 zg2 z3 zr N : Nat) (w : World) : Prop where
  h1 : w0.heap.size ≤ q ∧ q < w1.heap.size ∧ H < w0.heap.size
  zz : (w1.heap.size ≤ ze1 ∧ ze2 ≤ z3 ∧ w1.heap.size ≤ zg1 ∧ zg2 ≤ z3 ∧ w1.heap.size ≤ z3 ∧ (ze2 ≤ zg1 ∨ zg2 ≤ ze1)) ∧ z3 ≤ zr ∧ zr ≤ w.heap.size
  fz : ∀ j, j < w1.heap.size → j ≠ H → j ≠ q → w.heap[j]? = w1.heap[j]?
  box : w.heap[q]? = some (boxO t vm vk vh bd)
  d : OwnD w z3 vd ds
  e : EndZ w ze1 ze2 vE gs
  g : OwnI w zg1 vG gone
  gb : ∀ k, vG.ownBlock = some k → k < zg2
  o : OwnI w z3 vW whose
  ob : ∀ k, vW.ownBlock = some k → k < zr
  db : ∀ k, vd.ownBlock = some k → k < zr
  dl : Dealt w0 w H N
section
variable {w0 w1 w w' : World} {H q N N' ze1 ze2 zg1 zg2 z3 zr zr' : Nat} {t : Int} {vm vk vh bd vd vE vG vW v' : Value} {ds ds' : List De} {gs : List (List Int)} {gone whose whose' : List Int}
end
end Go.Proofs.Ytgnjknihgjdedaa
namespace Go.Proofs.Ytgnjknihgjdedaa
open Go.RowKit Go.Sort
set_option linter.unusedVariables false
set_option linter.unusedSimpArgs false

section
variable {F : Fence} {n : Nat} {P : Program} {C : World → Prop}
end
theorem blk_kept {A B : World} {row : Option Nat} {k : Nat} {o : Obj} (h : A.heap[k]? = some o) (ho : o.isCells = true) (hg : A.grownBy B row) (hr : ∀ r, row = some r → ∃ o' : Obj, A.heap[r]? = some o' ∧ o'.isCells = false) : B.heap[k]? = some o :=
  (hg.block k (heap_lt h) (fun e => by
    obtain ⟨o', h1, h2⟩ := hr k e.symm
    rw [h] at h1
    cases h1
    rw [ho] at h2
    cases h2)).trans h
theorem inRnd {n l : Nat} {P : Program} {f : FuncId} {args : Array Value} {w : World} {R : Ending → World → Prop} (h : Calls P f args w R) : CallsIn (Fence.wide.inRound l) n P f args w R :=
  CallsIn.inRound l (callsIn_wide.2 h)
end Go.Proofs.Ytgnjknihgjdedaa
namespace Go.Proofs.Ytgnjknihgjdedaa
open Go.RowKit Go.Shelf
set_option linter.unusedVariables false
set_option linter.unusedSimpArgs false
attribute [local go_sem] Oper.semAt_some

theorem ones_any (x : Int) (w : World) (h0 : 0 ≤ x) (h1 : x ≤ 255) :
    Calls Try.prog 52 #[.int .u64 x] w fun e w' => e = .returned (.int .i64 (popI x)) ∧ w = w' := by
  go_enter Try.func52, Try.ntmps52
  go_wp2_with (go_at_call 88; refine (ones64 x _ h0 h1).mono ?_; rintro e w' ⟨rfl, rfl⟩)
  go_ret
  exact ⟨rfl, rfl⟩

end Go.Proofs.Ytgnjknihgjdedaa
namespace Go.Proofs.Ytgnjknihgjdedaa
open Go.RowKit Go.Shelf
set_option linter.unusedVariables false
set_option linter.unusedSimpArgs false
attribute [local go_sem] Oper.semAt_some

abbrev Ix := Fin 17920
end Go.Proofs.Ytgnjknihgjdedaa
namespace Go.Proofs.Ytgnjknihgjdedaa
open Go.RowKit
set_option linter.unusedVariables false
set_option linter.unusedSimpArgs false

structure Cn where
  a : Int
  b : Int
  c : Int
  d : Int
  e : Int
  s : Int
  deriving DecidableEq
def kv (k : Cn) : Value := .agg #[.int .i64 k.a, .int .i64 k.b, .int .i64 k.c, .int .i64 k.d, .int .i64 k.e, .int .i64 k.s]
def Cn.cs (k : Cn) : Array Value := #[.int .i64 k.a, .int .i64 k.b, .int .i64 k.c, .int .i64 k.d, .int .i64 k.e, .int .i64 k.s]

theorem info_int : (Try.prog.info? 3).map (fun i => i.size) = some 1 := by kernel_rfl
theorem run_size_int (w : World) : (sizeOf 3).run Try.prog w = .ok 1 w := by
  have h := info_int
  cases hi : Try.prog.info? 3 with
  | none => rw [hi] at h; cases h
  | some i => rw [hi] at h; simp at h; simp [sizeOf, typeInfo, hi, h]
theorem run_part_int (cs : Array Value) (off : Nat) (v : Value) (h : cs[off]? = some v) (w : World) : (part 3 cs off).run Try.prog w = .ok v w := by
  have hi := run_underlying (P := Try.prog) (w := w) Try.underlying3
  simp [part, isAgg, hi, h]
theorem run_eqInt (d : Nat) (a b : Int) (w : World) : (Op.equalIn (d + 1) 3 (.int .i64 a) (.int .i64 b)).run Try.prog w = .ok (a == b) w := by
  have hi := run_underlying (P := Try.prog) (w := w) Try.underlying3
  simp [Op.equalIn, hi]
theorem run_equalIn6 (d : Nat) (x y : Cn) (w : World) : (Op.equalIn (d + 2) 155 (kv x) (kv y)).run Try.prog w = .ok (decide (x = y)) w := by
  have h := run_underlying (P := Try.prog) (w := w) Try.underlying155
  unfold Op.equalIn kv
  simp only [Sem.run_bind, h, Result.andThen_ok, run_size_int]
  have hp : ∀ i (v : Value), x.cs[i]? = some v → ∀ w, (part 3 #[.int .i64 x.a, .int .i64 x.b, .int .i64 x.c, .int .i64 x.d, .int .i64 x.e, .int .i64 x.s] i).run Try.prog w = .ok v w := fun i v h w => run_part_int _ _ _ h w
  have hq : ∀ i (v : Value), y.cs[i]? = some v → ∀ w, (part 3 #[.int .i64 y.a, .int .i64 y.b, .int .i64 y.c, .int .i64 y.d, .int .i64 y.e, .int .i64 y.s] i).run Try.prog w = .ok v w := fun i v h w => run_part_int _ _ _ h w
  have p0 := hp 0 (.int .i64 x.a) rfl
  have p1 := hp 1 (.int .i64 x.b) rfl
  have p2 := hp 2 (.int .i64 x.c) rfl
  have p3 := hp 3 (.int .i64 x.d) rfl
  have p4 := hp 4 (.int .i64 x.e) rfl
  have p5 := hp 5 (.int .i64 x.s) rfl
  have q0 := hq 0 (.int .i64 y.a) rfl
  have q1 := hq 1 (.int .i64 y.b) rfl
  have q2 := hq 2 (.int .i64 y.c) rfl
  have q3 := hq 3 (.int .i64 y.d) rfl
  have q4 := hq 4 (.int .i64 y.e) rfl
  have q5 := hq 5 (.int .i64 y.s) rfl
  clear hp hq
  have hr : List.range' 0 6 = [0, 1, 2, 3, 4, 5] := rfl
  have hd : decide (x = y) = (x.a == y.a && (x.b == y.b && (x.c == y.c && (x.d == y.d && (x.e == y.e && x.s == y.s))))) := by
    obtain ⟨a0, a1, a2, a3, a4, a5⟩ := x
    obtain ⟨b0, b1, b2, b3, b4, b5⟩ := y
    rw [Bool.eq_iff_iff]
    simp only [decide_eq_true_eq, Cn.mk.injEq, Bool.and_eq_true, beq_iff_eq]
  rw [hd]
  cases e0 : (x.a == y.a)
  · simp [hr, p0, q0, run_eqInt, e0]
  · cases e1 : (x.b == y.b)
    · simp [hr, p0, q0, p1, q1, run_eqInt, e0, e1]
    · cases e2 : (x.c == y.c)
      · simp [hr, p0, q0, p1, q1, p2, q2, run_eqInt, e0, e1, e2]
      · cases e3 : (x.d == y.d)
        · simp [hr, p0, q0, p1, q1, p2, q2, p3, q3, run_eqInt, e0, e1, e2, e3]
        · cases e4 : (x.e == y.e)
          · simp [hr, p0, q0, p1, q1, p2, q2, p3, q3, p4, q4, run_eqInt, e0, e1, e2, e3, e4]
          · cases e5 : (x.s == y.s)
            · simp [hr, p0, q0, p1, q1, p2, q2, p3, q3, p4, q4, p5, q5, run_eqInt, e0, e1, e2, e3, e4, e5]
            · simp [hr, p0, q0, p1, q1, p2, q2, p3, q3, p4, q4, p5, q5, run_eqInt, e0, e1, e2, e3, e4, e5]
theorem run_equal6 (x y : Cn) (w : World) : (Op.equal 155 (kv x) (kv y)).run Try.prog w = .ok (decide (x = y)) w := run_equalIn6 9998 x y w
theorem run_checkInt (b : Bool) (d : Nat) (a : Int) (w : World) : (Instr.checkKey b (d + 1) 3 (.int .i64 a)).run Try.prog w = .ok () w := by
  have hi := run_underlying (P := Try.prog) (w := w) Try.underlying3
  simp [Instr.checkKey, hi]
theorem run_checkIn6 (b : Bool) (d : Nat) (x : Cn) (w : World) : (Instr.checkKey b (d + 2) 155 (kv x)).run Try.prog w = .ok () w := by
  have h := run_underlying (P := Try.prog) (w := w) Try.underlying155
  unfold Instr.checkKey kv
  simp only [Sem.run_bind, h, Result.andThen_ok, run_size_int]
  have hp : ∀ i (v : Value), x.cs[i]? = some v → ∀ w, (part 3 #[.int .i64 x.a, .int .i64 x.b, .int .i64 x.c, .int .i64 x.d, .int .i64 x.e, .int .i64 x.s] i).run Try.prog w = .ok v w := fun i v h w => run_part_int _ _ _ h w
  have p0 := hp 0 (.int .i64 x.a) rfl
  have p1 := hp 1 (.int .i64 x.b) rfl
  have p2 := hp 2 (.int .i64 x.c) rfl
  have p3 := hp 3 (.int .i64 x.d) rfl
  have p4 := hp 4 (.int .i64 x.e) rfl
  have p5 := hp 5 (.int .i64 x.s) rfl
  have hr : List.range' 0 6 = [0, 1, 2, 3, 4, 5] := rfl
  have hs := run_size_int
  simp [hr, hs, p0, p1, p2, p3, p4, p5, run_checkInt]
theorem run_check6 (b : Bool) (x : Cn) (w : World) : (Instr.checkKey b 10000 155 (kv x)).run Try.prog w = .ok () w := run_checkIn6 b 9998 x w

def MetAt (w : World) (M : Nat) (K : List Cn) : Prop :=
  ∃ es clock, w.heap[M]? = some (.map es clock) ∧ es.toList.map (fun e => (e.key, e.val)) = K.map (fun k => (kv k, Value.bool true))

theorem run_findAsking (x : Cn) (w : World) : ∀ (es : List MapEntry) (K : List Cn) (i : Nat), es.map (fun e => (e.key, e.val)) = K.map (fun k => (kv k, Value.bool true)) →
    ∃ r, (Instr.findAsking 155 (kv x) es i).run Try.prog w = .ok r w ∧ ((x ∈ K ∧ ∃ j e, es[j]? = some e ∧ e.key = kv x ∧ r = some (i + j, .bool true)) ∨ (x ∉ K ∧ r = none))
  | [], K, i, h => by
    have hK : K = [] := by cases K with
      | nil => rfl
      | cons a b => simp at h
    subst hK
    exact ⟨none, by simp [Instr.findAsking], .inr ⟨by simp, rfl⟩⟩
  | e :: es, K, i, h => by
    cases K with
    | nil => simp at h
    | cons k K =>
      simp only [List.map_cons, List.cons.injEq, Prod.mk.injEq] at h
      obtain ⟨⟨hk, hv⟩, hr⟩ := h
      by_cases hx : x = k
      · subst hx
        refine ⟨some (i, .bool true), by simp [Instr.findAsking, hk, run_equal6, hv], .inl ⟨by simp, 0, e, rfl, hk, rfl⟩⟩
      · obtain ⟨r, hrun, hcase⟩ := run_findAsking x w es K (i + 1) hr
        refine ⟨r, by simp [Instr.findAsking, hk, run_equal6, hx, hrun], ?_⟩
        rcases hcase with ⟨hin, j, e', he', hke, hre⟩ | ⟨hout, hre⟩
        · exact .inl ⟨by simp [hin], j + 1, e', by simpa using he', hke, by rw [hre, Nat.add_assoc, Nat.add_comm 1 j]⟩
        · exact .inr ⟨by simp [hx, hout], hre⟩
theorem run_findKey (x : Cn) (w : World) (es : List MapEntry) (K : List Cn) (h : es.map (fun e => (e.key, e.val)) = K.map (fun k => (kv k, Value.bool true))) :
    ∃ r, (Instr.findKey 155 (kv x) es).run Try.prog w = .ok r w ∧ ((x ∈ K ∧ ∃ j e, es[j]? = some e ∧ e.key = kv x ∧ r = some (j, .bool true)) ∨ (x ∉ K ∧ r = none)) := by
  have hu := run_underlying (P := Try.prog) (w := w) Try.underlying155
  cases es with
  | nil =>
    obtain ⟨r, h1, h2⟩ := run_findAsking x w [] K 0 h
    refine ⟨r, ?_, by simpa using h2⟩
    simp [Instr.findKey, hu, Instr.findNow]
    simpa [Instr.findAsking] using h1
  | cons e es =>
    obtain ⟨r, h1, h2⟩ := run_findAsking x w (e :: es) K 0 h
    refine ⟨r, ?_, by simpa using h2⟩
    have hk : e.key = kv (K.headD ⟨0, 0, 0, 0, 0, 0⟩) := by
      cases K with
      | nil => simp at h
      | cons k K => simp only [List.map_cons, List.cons.injEq, Prod.mk.injEq] at h; exact h.1.1
    simp [Instr.findKey, hu, Instr.findNow, Instr.sameNow, h1]
theorem run_look6 (x : Cn) (w : World) (M : Nat) (K : List Cn) (h : MetAt w M K) : (Instr.lookup 156 (.map (some M)) (kv x) false).run Try.prog w = .ok (.bool (decide (x ∈ K))) w := by
  obtain ⟨es, clock, hh, hes⟩ := h
  obtain ⟨r, hr, hc⟩ := run_findKey x w es.toList K hes
  have hu := run_underlying (P := Try.prog) (w := w) Try.underlying156
  have hz : (zeroValue 4).run Try.prog w = .ok (.bool false) w := by kernel_rfl
  have hg : (getObj M).run Try.prog w = .ok (.map es clock) w := by simp [getObj, Sem.run, hh]
  rcases hc with ⟨hin, j, e, he, hke, rfl⟩ | ⟨hout, rfl⟩
  · simp [Instr.lookup, hu, hg, run_check6, hr, hin]
  · simp [Instr.lookup, hu, hg, run_check6, hr, hout, hz]
theorem sameBits_kv (x : Cn) : Instr.sameBits 10000 (kv x) (kv x) = true := by
  simp [kv, Instr.sameBits]
theorem run_put6 (x : Cn) (w : World) (M : Nat) (K : List Cn) (h : MetAt w M K) :
    ∃ ob, (Instr.mapUpdate 156 (.map (some M)) (kv x) (.bool true)).run Try.prog w = .ok () { w with heap := w.heap.setIfInBounds M ob } ∧ M < w.heap.size
      ∧ ∃ K', (∀ w' : World, w'.heap[M]? = some ob → MetAt w' M K') ∧ ∀ k, k ∈ K' ↔ k ∈ K ∨ k = x := by
  obtain ⟨es, clock, hh, hes⟩ := h
  obtain ⟨r, hr, hc⟩ := run_findKey x w es.toList K hes
  have hu := run_underlying (P := Try.prog) (w := w) Try.underlying156
  have hg : (getObj M).run Try.prog w = .ok (.map es clock) w := by simp [getObj, Sem.run, hh]
  have hs : ∀ o, (setObj M o).run Try.prog w = .ok () { w with heap := w.heap.setIfInBounds M o } := fun o => by simp [setObj, Sem.run, hh]
  have hlt : M < w.heap.size := (Array.getElem?_eq_some_iff.1 hh).1
  rcases hc with ⟨hin, j, e, he, hke, rfl⟩ | ⟨hout, rfl⟩
  · have hj : es[j]? = some e := by simpa using he
    refine ⟨.map (es.modify j fun e => { e with key := kv x, val := .bool true }) clock, ?_, hlt, K, ?_, fun k => ⟨.inl, fun h => h.elim id (fun h => h ▸ hin)⟩⟩
    · simp [Instr.mapUpdate, hu, hg, run_check6, hr, hj, hke, Instr.keyThatStays, sameBits_kv, hs]
    · intro w' hw'
      refine ⟨_, _, hw', ?_⟩
      rw [← hes]
      apply List.ext_getElem?
      intro i
      simp only [List.getElem?_map, Array.getElem?_toList, Array.getElem?_modify]
      by_cases hij : j = i
      · subst hij
        have hv : e.val = .bool true := by
          have h2 := congrArg (fun l => l[j]?) hes
          simp only [List.getElem?_map, Array.getElem?_toList, hj, Option.map_some] at h2
          cases hk : K[j]? with
          | none => simp [hk] at h2
          | some k => simp only [hk, Option.map_some, Option.some.injEq, Prod.mk.injEq] at h2; exact h2.2
        simp [hj, hke, hv]
      · simp [hij]
  · refine ⟨.map (es.push { key := kv x, val := .bool true, born := clock }) (clock + 1), ?_, hlt, K ++ [x], ?_, fun k => by simp⟩
    · simp [Instr.mapUpdate, hu, hg, run_check6, hr, hs]
    · intro w' hw'
      refine ⟨_, _, hw', ?_⟩
      simp [hes]
theorem wp_put6 {w : World} {ops : Array Oper} {rest : List Oper} {o : Oper} {a : Act} {Q : Exit → Act → World → Prop}
    (hg : o.guard = none) (m x v : Operand) (hop : o.op = Op.mapUpdate 156 m x v) (M : Nat) (K : List Cn) (k : Cn)
    (hm : a.eval m = .map (some M)) (hx : a.eval x = kv k) (hv : a.eval v = .bool true) (h : MetAt w M K)
    (hK : ∀ ob K', M < w.heap.size → (∀ w' : World, w'.heap[M]? = some ob → MetAt w' M K') → (∀ q, q ∈ K' ↔ q ∈ K ∨ q = k) → wpList Try.prog ops Q rest (a.put o.dst undef) { w with heap := w.heap.setIfInBounds M ob }) :
    wpList Try.prog ops Q (o :: rest) a w := by
  refine wpList_plain hg fun K' hK' => ?_
  obtain ⟨ob, hrun, hlt, K2, h1, h2⟩ := run_put6 k w M K h
  unfold Oper.wp
  simp [execOp, hop, hm, hx, hv, hrun, Result.andThen]
  exact hK' _ _ (hK ob K2 hlt h1 h2)
theorem met_empty {w : World} {M clock : Nat} (h : w.heap[M]? = some (.map #[] clock)) : MetAt w M [] := ⟨_, _, h, rfl⟩
theorem MetAt.keep {w w' : World} {M : Nat} {K : List Cn} (h : MetAt w M K) (e : w'.heap[M]? = w.heap[M]?) : MetAt w' M K := by
  obtain ⟨es, c, h1, h2⟩ := h
  exact ⟨es, c, by rw [e]; exact h1, h2⟩
end Go.Proofs.Ytgnjknihgjdedaa

namespace Go.Proofs.Ytgnjknihgjdedaa
open Go.RowKit
set_option linter.unusedVariables false
set_option linter.unusedSimpArgs false

def Cn.at (c : Cn) : Nat → Int
  | 0 => c.a
  | 1 => c.b
  | 2 => c.c
  | 3 => c.d
  | 4 => c.e
  | _ => c.s
def Cn.add (c : Cn) (k : Int) : Nat → Cn
  | 0 => { c with a := c.a + k }
  | 1 => { c with b := c.b + k }
  | 2 => { c with c := c.c + k }
  | 3 => { c with d := c.d + k }
  | 4 => { c with e := c.e + k }
  | _ => { c with s := c.s + k }
def Cn.up (c : Cn) (i : Nat) : Cn := (c.add 1 i).add 1 5
def Cn.skip (c : Cn) : Cn := c.add 1 5
theorem Cn.at_cs (c : Cn) {i : Nat} (h : i < 6) : c.cs[i]? = some (.int .i64 (c.at i)) := by
  match i, h with
  | 0, _ => rfl
  | 1, _ => rfl
  | 2, _ => rfl
  | 3, _ => rfl
  | 4, _ => rfl
  | 5, _ => rfl
def Now (w : World) (B : Nat) (c : Cn) : Prop := w.heap[B]? = some (.cells c.cs 155 (0, 0))
theorem Now.cell {w : World} {B : Nat} {c : Cn} (h : Now w B c) {i : Nat} (hi : i < 6) : w.cell? ⟨B, i, none⟩ = some (.int .i64 (c.at i)) := by
  unfold Now at h
  simp [World.cell?, h, c.at_cs hi]
theorem Now.free {w : World} {B : Nat} {c : Cn} (h : Now w B c) (i : Nat) : w.frozen? ⟨B, i, none⟩ = false := by
  unfold Now at h
  simp [World.frozen?, h]
theorem Now.set {w : World} {B : Nat} {c : Cn} (h : Now w B c) {i : Nat} (hi : i < 6) (k x : Int) (hx : x = c.at i + k) : Now (w.setCell ⟨B, i, none⟩ (.int .i64 x)) B (c.add k i) := by
  unfold Now at *
  subst hx
  match i, hi with
  | 0, _ => simp [World.setCell, Array.getElem?_modify, h, Cn.cs, Cn.add, Cn.at]
  | 1, _ => simp [World.setCell, Array.getElem?_modify, h, Cn.cs, Cn.add, Cn.at]
  | 2, _ => simp [World.setCell, Array.getElem?_modify, h, Cn.cs, Cn.add, Cn.at]
  | 3, _ => simp [World.setCell, Array.getElem?_modify, h, Cn.cs, Cn.add, Cn.at]
  | 4, _ => simp [World.setCell, Array.getElem?_modify, h, Cn.cs, Cn.add, Cn.at]
  | 5, _ => simp [World.setCell, Array.getElem?_modify, h, Cn.cs, Cn.add, Cn.at]
theorem Now.keep {w w' : World} {B : Nat} {c : Cn} (h : Now w B c) (e : w'.heap[B]? = w.heap[B]?) : Now w' B c := by unfold Now at *; rw [e]; exact h

theorem undo_any (w : World) (u : FrameMode) (Bd Bn Bw Bo Bs : Nat) (done : Bool) (c : Cn) (o st : Nat) (A : Addr) (n cap : Nat)
    (hd : w.cell? ⟨Bd, 0, none⟩ = some (.bool done)) (hn : Now w Bn c) (hw : w.cell? ⟨Bw, 0, none⟩ = some (.int .i64 o)) (hb : w.cell? ⟨Bo, 0, none⟩ = some (.slice (some A) n cap)) (hs : w.cell? ⟨Bs, 0, none⟩ = some (.int .i64 st))
    (fo : w.frozen? ⟨Bo, 0, none⟩ = false) (ho : o < 5) (hcap : st < cap) (hcm : cap ≤ maxLen) (n1 : Bw ≠ Bn) (n2 : Bo ≠ Bn) (n3 : Bs ≠ Bn)
    (b1 : -9223372036854775807 ≤ c.at o) (b2 : c.at o ≤ 9223372036854775807) (b3 : -9223372036854775807 ≤ c.at 5) (b4 : c.at 5 ≤ 9223372036854775807) :
    CallsD Try.prog 84 #[.pointer (some ⟨Bd, 0, none⟩), .pointer (some ⟨Bn, 0, none⟩), .pointer (some ⟨Bw, 0, none⟩), .pointer (some ⟨Bo, 0, none⟩), .pointer (some ⟨Bs, 0, none⟩)] u w fun e u' w' => u' = u ∧ e = .returned (.tuple #[]) ∧
      w' = if done then w else ((w.setCell ⟨Bn, o, none⟩ (.int .i64 (c.at o - 1))).setCell ⟨Bn, 5, none⟩ (.int .i64 (c.at 5 - 1))).setCell ⟨Bo, 0, none⟩ (.slice (some A) st cap) := by
  have f0 := hn.free o
  have f5 := hn.free 5
  have c0 := hn.cell (i := o) (by omega)
  have c5 := hn.cell (i := 5) (by omega)
  have hm : maxLen = 9223372036854775807 := rfl
  generalize c.at o = x at *
  generalize c.at 5 = y at *
  obtain rfl | rfl | rfl | rfl | rfl : o = 0 ∨ o = 1 ∨ o = 2 ∨ o = 3 ∨ o = 4 := by omega
  all_goals
    cases done
    · go_enter_d Try.func84, Try.ntmps84
      go_wp2
      go_end0
      first | rfl | exact ⟨rfl, rfl⟩ | exact ⟨rfl, rfl, rfl⟩
    · go_enter_d Try.func84, Try.ntmps84
      go_wp2
      go_end0
      first | rfl | exact ⟨rfl, rfl⟩ | exact ⟨rfl, rfl, rfl⟩
end Go.Proofs.Ytgnjknihgjdedaa

namespace Go.Proofs.Ytgnjknihgjdedaa
open Go.RowKit
set_option linter.unusedVariables false
set_option linter.unusedSimpArgs false

structure Srch where
  b : Nat
  L : Nat
  may : List (List Int)
  mis : List Int
  left : Nat
  lf : Nat → Int → Bool
def Srch.rest (S : Srch) : Nat → Cn → Option (List Int)
  | 0, _ => some []
  | n + 1, c =>
    if S.left.testBit (S.L - (n + 1)) then (S.rest n c.skip).map (fun r => (-1 : Int) :: r)
    else (S.may.getD (S.L - (n + 1)) []).findSome? fun o => if c.at o.toNat < S.mis.getD o.toNat 0 && S.lf (S.L - (n + 1)) o then (S.rest n (c.up o.toNat)).map (fun r => o :: r) else none
def Srch.giveCaps (S : Srch) : Array Value := #[.pointer (some ⟨S.b + 3, 0, none⟩), .pointer (some ⟨S.b + 7, 0, none⟩), .pointer (some ⟨S.b + 8, 0, none⟩)]
def Srch.growCaps (S : Srch) : Array Value := #[.pointer (some ⟨S.b + 3, 0, none⟩), .pointer (some ⟨S.b, 0, none⟩), .pointer (some ⟨S.b + 5, 0, none⟩), .pointer (some ⟨S.b + 1, 0, none⟩), .pointer (some ⟨S.b + 7, 0, none⟩), .pointer (some ⟨S.b + 8, 0, none⟩), .pointer (some ⟨S.b + 2, 0, none⟩), .pointer (some ⟨S.b + 9, 0, none⟩)]
theorem far_put {W : World} {k g i : Nat} {o : Obj} {x : Value} (h : W.heap[k]? = some o) (hne : k ≠ g) : (W.setCell ⟨g, i, none⟩ x).heap[k]? = some o := (Below.heap_setCell W ⟨g, i, none⟩ x k hne).trans h
theorem owns_at {w w' : World} {b : Nat} {e : TypeId} {sz g cap n : Nat} {xs : List Value} (h : w.ownsRow b e sz (.slice (some ⟨g, 0, none⟩) n cap) n xs) (k : w'.heap[g]? = w.heap[g]?) :
    w'.ownsRow b e sz (.slice (some ⟨g, 0, none⟩) n cap) n xs := by
  refine ⟨h.1, ?_⟩
  rcases h.2 with ⟨hv, _⟩ | ⟨g', cap', cur, hv, h1, h2, h3⟩
  · cases hv
  · cases hv
    exact .inr ⟨_, _, _, rfl, h1, k.trans h2, h3⟩
structure Env (S : Srch) (xs : Array Value) (lt : Value) (w : World) : Prop where
  x : w.heap[S.b]? = some (.cells xs 107 (0, 0))
  l : w.heap[S.b + 1]? = some (.cells #[.int .u64 S.left] 105 (0, 0))
  t : w.heap[S.b + 2]? = some (.cells #[lt] 94 (0, 0))
  m : w.heap[S.b + 5]? = some (.cells #[.map (some (S.b + 4))] 156 (0, 0))
  v : w.heap[S.b + 8]? = some (.cells #[.func (.func 85) #[] S.growCaps] 33 (0, 0))
  g : w.heap[S.b + 9]? = some (.cells #[.func (.func 83) #[] S.giveCaps] 94 (0, 0))
structure St (S : Srch) (w : World) (c : Cn) (o : List Int) (K : List Cn) : Prop where
  now : Now w (S.b + 3) c
  out : w.heap[S.b + 7]? = some (.cells #[.slice (some ⟨S.b + 6, 0, none⟩) o.length S.L] 22 (0, 0))
  buf : w.ownsRow S.b 3 1 (.slice (some ⟨S.b + 6, 0, none⟩) o.length S.L) o.length (o.flatMap eInt)
  met : MetAt w (S.b + 4) K
  len : c.s = o.length
  ok : ∀ i, i < 5 → 0 ≤ c.at i ∧ c.at i ≤ c.s
structure Fr (b : Nat) (w w' : World) : Prop where
  below : Below b w w'
  rest : ∀ j, j < w.heap.size → j ≠ b + 3 → j ≠ b + 4 → j ≠ b + 6 → j ≠ b + 7 → w'.heap[j]? = w.heap[j]?
section
variable {b : Nat} {w w' w'' : World}
theorem Fr.refl (b : Nat) (w : World) : Fr b w w := ⟨Below.refl _ _, fun _ _ _ _ _ _ => rfl⟩
theorem Fr.trans (h : Fr b w w') (k : Fr b w' w'') : Fr b w w'' :=
  ⟨h.below.trans k.below, fun j hj a c d e => (k.rest j (Nat.lt_of_lt_of_le hj h.below.size) a c d e).trans (h.rest j hj a c d e)⟩
theorem Fr.of_below {B : Nat} (h : Below B w w') (hB : w.heap.size ≤ B) (hb : b ≤ w.heap.size) : Fr b w w' := ⟨h.mono (Nat.le_trans hb hB), fun j hj _ _ _ _ => h.block j (Nat.lt_of_lt_of_le hj hB)⟩
theorem Fr.set (h : Fr b w w') (hb : b ≤ w.heap.size) (a : Addr) (v : Value) (ha : a.block = b + 3 ∨ a.block = b + 7 ∨ w.heap.size ≤ a.block) : Fr b w (w'.setCell a v) :=
  ⟨h.below.setCell (by omega) v, fun j hj h3 h4 h6 h7 => (Below.heap_setCell w' a v j (by omega)).trans (h.rest j hj h3 h4 h6 h7)⟩
theorem Fr.grown (h : Fr b w w') (hb : b + 6 < w.heap.size) (hg : w'.grownBy w'' (some (b + 6))) : Fr b w w'' :=
  h.trans ⟨(Below.refl _ _).grown hg (by have := h.below.size; omega) (fun k hk => by cases hk; omega), fun j hj _ _ h6 _ => hg.block j hj (fun e => h6 (by cases e; rfl))⟩
theorem Fr.put (h : Fr b w w') (hb : b ≤ w.heap.size) (ob : Obj) (hM : b + 4 < w'.heap.size) : Fr b w { w' with heap := w'.heap.setIfInBounds (b + 4) ob } :=
  h.trans ⟨⟨rfl, rfl, rfl, by simp, fun k hk => by show (w'.heap.setIfInBounds (b + 4) ob)[k]? = _; rw [Array.getElem?_setIfInBounds_ne (by omega)]⟩, fun j hj _ h4 _ _ => by simp [Ne.symm h4]⟩
end
theorem Env.fr {S : Srch} {xs : Array Value} {lt : Value} {w w' : World} (h : Env S xs lt w) (k : Fr S.b w w') : Env S xs lt w' := by
  obtain ⟨h0, h1, h2, h3, h4, h5⟩ := h
  exact ⟨(k.rest _ (heap_lt h0) (by omega) (by omega) (by omega) (by omega)).trans h0, (k.rest _ (heap_lt h1) (by omega) (by omega) (by omega) (by omega)).trans h1, (k.rest _ (heap_lt h2) (by omega) (by omega) (by omega) (by omega)).trans h2,
    (k.rest _ (heap_lt h3) (by omega) (by omega) (by omega) (by omega)).trans h3, (k.rest _ (heap_lt h4) (by omega) (by omega) (by omega) (by omega)).trans h4, (k.rest _ (heap_lt h5) (by omega) (by omega) (by omega) (by omega)).trans h5⟩
def Srch.sound (S : Srch) (K : List Cn) : Prop := ∀ k, k ∈ K → ∀ n, n ≤ S.L → k.s = (S.L - n : Nat) → S.rest n k = none
def Srch.Grows (S : Srch) (xs : Array Value) (lt : Value) (w0 : World) (n : Nat) : Prop :=
  ∀ (w : World) (c : Cn) (o : List Int) (K : List Cn), Below S.b w0 w → Env S xs lt w → St S w c o K → S.sound K → n ≤ S.L → o.length = S.L - n →
    Calls Try.prog 85 S.growCaps w fun e w' => e = .returned (.bool (S.rest n c).isSome) ∧ Fr S.b w w' ∧
      ∃ c' o' K', St S w' c' o' K' ∧ S.sound K' ∧ (∀ r, S.rest n c = some r → o' = o ++ r) ∧ (S.rest n c = none → c' = c ∧ o' = o)
theorem Cn.up_s (c : Cn) {i : Nat} (h : i < 5) : (c.up i).s = c.s + 1 := by
  obtain rfl | rfl | rfl | rfl | rfl : i = 0 ∨ i = 1 ∨ i = 2 ∨ i = 3 ∨ i = 4 := by omega
  all_goals rfl
theorem Cn.up_at (c : Cn) {i j : Nat} (h : i < 5) (hj : j < 5) : (c.up i).at j = if j = i then c.at j + 1 else c.at j := by
  obtain rfl | rfl | rfl | rfl | rfl : i = 0 ∨ i = 1 ∨ i = 2 ∨ i = 3 ∨ i = 4 := by omega
  all_goals
    obtain rfl | rfl | rfl | rfl | rfl : j = 0 ∨ j = 1 ∨ j = 2 ∨ j = 3 ∨ j = 4 := by omega
    all_goals rfl
theorem Cn.up_down (c : Cn) {i : Nat} (h : i < 5) : (((c.up i).add (-1) i).add (-1) 5) = c := by
  obtain rfl | rfl | rfl | rfl | rfl : i = 0 ∨ i = 1 ∨ i = 2 ∨ i = 3 ∨ i = 4 := by omega
  all_goals simp [Cn.up, Cn.add, Int.add_neg_cancel_right]
theorem Cn.skip_s (c : Cn) : c.skip.s = c.s + 1 := rfl
theorem Cn.skip_at (c : Cn) {j : Nat} (hj : j < 5) : c.skip.at j = c.at j := by
  obtain rfl | rfl | rfl | rfl | rfl : j = 0 ∨ j = 1 ∨ j = 2 ∨ j = 3 ∨ j = 4 := by omega
  all_goals rfl
theorem Cn.skip_down (c : Cn) : c.skip.add (-1) 5 = c := by simp [Cn.skip, Cn.add, Int.add_neg_cancel_right]
theorem owns_cut {w : World} {b : Nat} {e : TypeId} {g cap : Nat} {l r : List Int} (h : w.ownsRow b e 1 (.slice (some ⟨g, 0, none⟩) (l ++ r).length cap) (l ++ r).length ((l ++ r).flatMap eInt)) :
    w.ownsRow b e 1 (.slice (some ⟨g, 0, none⟩) l.length cap) l.length (l.flatMap eInt) := by
  have hl : ∀ z : List Int, (z.flatMap eInt).length = z.length := fun z => by induction z with
    | nil => rfl
    | cons a z ih => simp [eInt] at *; exact ih
  refine ⟨by simp [hl], ?_⟩
  rcases h.2 with ⟨hv, _⟩ | ⟨g', cap', cur, hv, h1, h2, h3, h4, h5, h6⟩
  · cases hv
  · cases hv
    refine .inr ⟨_, _, _, rfl, h1, h2, by simp at h3; omega, h4, h5, ?_⟩
    have := congrArg (List.take l.length) h6
    rw [List.take_take] at this
    simp only [Nat.mul_one] at this ⊢
    rw [Nat.min_eq_left (by simp)] at this
    rw [this, List.flatMap_append, List.take_append_of_le_length (by rw [hl]; exact Nat.le_refl _), List.take_of_length_le (by rw [hl]; exact Nat.le_refl _)]
end Go.Proofs.Ytgnjknihgjdedaa
