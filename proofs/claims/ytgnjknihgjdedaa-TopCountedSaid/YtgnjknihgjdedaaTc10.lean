/- TopCounted 10: HdA, TalA, GridB, TalB, Own2, TalS, Round, FreshIt, FoundA, TyQ, AppK. -/
import Derived.Test.YtgnjknihgjdedaaTc09
import Derived.Test.YtgnjknihgjdedaaTc03
import Derived.Test.YtgnjknihgjdedaaTc04
import Derived.Test.YtgnjknihgjdedaaTc06
import Derived.Test.YtgnjknihgjdedaaTc02
import Derived.Test.YtgnjknihgjdedaaTc01
import Derived.Lib.QuietBelowIn
import Derived.RangeFuncNested
import Derived.RangeFuncBound
import Derived.RangeFuncCalls
import Derived.RangeFuncLeaves
import Derived.Shelf.Abstract
import Derived.Shelf.RegionOpen
import Derived.OwnWalkIn
import Derived.TacticsInMore
import Derived.LoopNIn
import Derived.LoopIn
import Derived.Maps.Own
import Derived.Defers
import Derived.Test.YtgnjknihgjdedaaTc05
import Derived.Laws.EntriesVeiled
import Derived.Deep.RegionLaw
import Derived.Deep.OwnRows
import Derived.ArgAppend
import Derived.Deep.CutBlock
import Derived.Deep.RegionHeld3
import Derived.Laws.Tables
namespace Go.Proofs.Ytgnjknihgjdedaa
open Go.RowKit Go.MapKept
set_option linter.unusedVariables false
set_option linter.unusedSimpArgs false

def eDe (d : De) : List Value := [.int .i64 d.kind, .int .i64 d.flock, .int .i64 d.owner, .int .i64 d.other, .int .i64 d.tof, .int .i64 d.many, .int .i64 d.err, .int .i64 d.s.n, .bool d.s.l, .bool d.s.r, .int .i64 d.s.b, .int .i64 d.s.p]
theorem lenDe (d : De) : (eDe d).length = 12 := rfl
abbrev Deeds (w : World) (A : Option Addr) (n : Nat) (l : List De) : Prop := Sl eDe 12 w A n l
theorem Deeds.get {w : World} {A : Option Addr} {n : Nat} {l : List De} (h : Deeds w A n l) {k : Nat} (hk : k < n) :
    ∃ b off d, A = some ⟨b, off, none⟩ ∧ b < w.heap.size ∧ l[k]? = some d ∧ w.cell? ⟨b, off + k * 12, none⟩ = some (.int .i64 d.kind) ∧
      w.cell? ⟨b, off + k * 12 + 1, none⟩ = some (.int .i64 d.flock) ∧ w.cell? ⟨b, off + k * 12 + 2, none⟩ = some (.int .i64 d.owner) ∧ w.cell? ⟨b, off + k * 12 + 3, none⟩ = some (.int .i64 d.other) ∧
      w.cell? ⟨b, off + k * 12 + 4, none⟩ = some (.int .i64 d.tof) ∧ w.cell? ⟨b, off + k * 12 + 5, none⟩ = some (.int .i64 d.many) ∧ w.cell? ⟨b, off + k * 12 + 6, none⟩ = some (.int .i64 d.err) ∧
      w.cell? ⟨b, off + k * 12 + 7, none⟩ = some (.int .i64 d.s.n) ∧ w.cell? ⟨b, off + k * 12 + 8, none⟩ = some (.bool d.s.l) ∧ w.cell? ⟨b, off + k * 12 + 9, none⟩ = some (.bool d.s.r) ∧
      w.cell? ⟨b, off + k * 12 + 10, none⟩ = some (.int .i64 d.s.b) ∧ w.cell? ⟨b, off + k * 12 + 11, none⟩ = some (.int .i64 d.s.p) := by
  obtain ⟨b, off, x, hA, hx, hc⟩ := h.at_ hk
  have h0 := hc 0 _ rfl
  exact ⟨b, off, x, hA, cell_lt h0, hx, h0, hc 1 _ rfl, hc 2 _ rfl, hc 3 _ rfl, hc 4 _ rfl, hc 5 _ rfl, hc 6 _ rfl, hc 7 _ rfl, hc 8 _ rfl, hc 9 _ rfl, hc 10 _ rfl, hc 11 _ rfl⟩

theorem info_deed : (Try.prog.info? 67).map (·.size) = some 12 := by kernel_rfl
abbrev dZ : Obj := .cells #[.int .i64 0, .int .i64 0, .int .i64 0, .int .i64 0, .int .i64 0, .int .i64 0, .int .i64 0, .int .i64 0, .bool false, .bool false, .int .i64 0, .int .i64 0] 67 (0, 0)
theorem wp_storeD {ops : Array Oper} {rest : List Oper} {o : Oper} {a : Act} {w : World} {Q : Exit → Act → World → Prop} {b : Nat} {d : De} {old : Array Value} (hb : w.heap[b]? = some (.cells old 67 (0, 0))) (hold : old.size = 12)
    (hg : o.guard = none) (x y : Operand) (ho : o.op = .store 67 x y) (hx : a.eval x = .pointer (some ⟨b, 0, none⟩)) (hy : a.eval y = dv d)
    (hK : ∀ w2, w2.heap[b]? = some (dObj d) → w.grownBy w2 (some b) → w2.heap.size = w.heap.size → wpList Try.prog ops Q rest (a.put o.dst undef) w2) : wpList Try.prog ops Q (o :: rest) a w := by
  refine wpList_store_row hg 67 x y ho b _ hx hy _ old hb (by rw [info_deed]; rfl) (by rw [hold]; rfl) (by simp [Value.oneCell']) (hK _ (setRow_heap _ _ _ _ _ _ hb) ⟨rfl, rfl, rfl, by simp [World.setRow], fun k hk hne => ?_⟩ (by simp [World.setRow]))
  unfold World.setRow
  rw [Array.getElem?_modify, if_neg (fun e => hne (by rw [e]))]

structure Hb where
  t : Int
  A : Option Addr
  c : Nat
  l : List Mk
  Ak : Option Addr
  ck : Nat
  ks : List Int
  Ah : Option Addr
  ch : Nat
  hs : List (List Int)
  Ad : Option Addr
  cd : Nat
  ds : List De
namespace Hb
variable (b : Hb)
abbrev vm : Value := .slice b.A b.l.length b.c
abbrev vk : Value := .slice b.Ak b.ks.length b.ck
abbrev vh : Value := .slice b.Ah b.hs.length b.ch
abbrev vd : Value := .slice b.Ad b.ds.length b.cd
abbrev v : Value := .agg #[.int .i64 b.t, .slice b.A b.l.length b.c, .slice b.Ak b.ks.length b.ck, .slice b.Ah b.hs.length b.ch, .slice b.Ad b.ds.length b.cd]
abbrev bk (deed owner now : Int) : Obj := bkObj b.t b.A b.l.length b.c b.vk b.vh b.vd deed owner now
def chk : Int := checkH b.t b.l b.ks b.hs b.ds
def ends (deed owner : Int) : List (List Int) := endsL b.t b.l b.hs b.ds deed owner
end Hb
structure HbIn (w : World) (b : Hb) : Prop where
  m : Marks w b.A b.l.length b.l
  mc : b.l.length ≤ b.c
  mm : b.c ≤ maxLen
  k : Ints w b.Ak b.ks.length b.ks
  kc : b.ks.length ≤ b.ck
  km : b.ck ≤ maxLen
  h : Grid w b.Ah b.hs.length b.hs
  hc : b.hs.length ≤ b.ch
  hm : b.ch ≤ maxLen
  d : Deeds w b.Ad b.ds.length b.ds
  dc : b.ds.length ≤ b.cd
  dm : b.cd ≤ maxLen
theorem HbIn.below {w w' : World} {b : Hb} {B : Nat} (h : HbIn w b) (hb : Below B w w') (hB : w.heap.size ≤ B) : HbIn w' b :=
  ⟨h.m.below hb hB, h.mc, h.mm, h.k.below hb hB, h.kc, h.km, h.h.below hb hB, h.hc, h.hm, h.d.below hb hB, h.dc, h.dm⟩

structure NowIn (p : Nat) (O : Int → Obj) (w w' : World) : Prop where
  os : w'.os = w.os
  tape : w'.tape = w.tape
  output : w'.output = w.output
  size : w.heap.size ≤ w'.heap.size
  block : ∀ k, k < w.heap.size → k ≠ p → w'.heap[k]? = w.heap[k]?
  hp : ∃ now, w'.heap[p]? = some (O now)
section
variable {p : Nat} {O : Int → Obj} {a b c w w' : World}
theorem NowIn.refl (h : ∃ now, w.heap[p]? = some (O now)) : NowIn p O w w := ⟨rfl, rfl, rfl, Nat.le_refl _, fun _ _ _ => rfl, h⟩
theorem NowIn.trans (h : NowIn p O a b) (k : NowIn p O b c) : NowIn p O a c :=
  ⟨k.os.trans h.os, k.tape.trans h.tape, k.output.trans h.output, Nat.le_trans h.size k.size, fun i hi hne => (k.block i (Nat.lt_of_lt_of_le hi h.size) hne).trans (h.block i hi hne), k.hp⟩
theorem NowIn.lt (h : NowIn p O a b) : p < b.heap.size := by obtain ⟨n, hn⟩ := h.hp; exact heap_lt hn
theorem NowIn.then (h : NowIn p O a b) (hp : p < a.heap.size) (os : c.os = b.os) (tape : c.tape = b.tape) (output : c.output = b.output) (size : a.heap.size ≤ c.heap.size) (block : ∀ k, k < a.heap.size → c.heap[k]? = b.heap[k]?) : NowIn p O a c :=
  ⟨os.trans h.os, tape.trans h.tape, output.trans h.output, size, fun i hi hne => (block i hi).trans (h.block i hi hne), by obtain ⟨n, hn⟩ := h.hp; exact ⟨n, (block p hp).trans hn⟩⟩
theorem NowIn.below {B : Nat} (h : NowIn p O a b) (hp : p < a.heap.size) (k : Below B b c) (hB : a.heap.size ≤ B) : NowIn p O a c :=
  h.then hp k.os k.tape k.output (Nat.le_trans h.size k.size) fun i hi => k.block i (by omega)
theorem NowIn.grown {row : Option Nat} (h : NowIn p O a b) (hp : p < a.heap.size) (k : b.grownBy c row) (hr : ∀ i, row = some i → a.heap.size ≤ i) : NowIn p O a c :=
  h.then hp k.os k.tape k.output (Nat.le_trans h.size k.size) fun i hi => k.block i (by have := h.size; omega) (fun e => by have := hr i e.symm; omega)
theorem NowIn.drew (h : NowIn p O a b) : NowIn p O a b.drew := ⟨h.os, h.tape, h.output, h.size, h.block, h.hp⟩
theorem NowIn.less {B : Nat} (h : NowIn p O a b) (hB : B ≤ p) (hw : B ≤ a.heap.size) : Below B a b := ⟨h.os, h.tape, h.output, h.size, fun k hk => h.block k (by omega) (by omega)⟩
theorem NowIn.of_below {B : Nat} (h : Below B a b) (hp : ∃ now, a.heap[p]? = some (O now)) (hB : a.heap.size ≤ B) : NowIn p O a b :=
  (NowIn.refl hp).below (by obtain ⟨n, hn⟩ := hp; exact heap_lt hn) h hB
theorem NowIn.blk {k : Nat} {o : Obj} (h : NowIn p O a b) (hk : a.heap[k]? = some o) (hne : k ≠ p) : b.heap[k]? = some o := (h.block k (heap_lt hk) hne).trans hk
end

structure Work (w0 : World) (p : Nat) (b : Hb) (deed owner : Int) (w : World) : Prop where
  hin : HbIn w0 b
  hz : w0.heap.size ≤ p
  bel : Below w0.heap.size w0 w
  hp : ∃ now, w.heap[p]? = some (b.bk deed owner now)
  ck : b.chk = 0
section
variable {w0 w w' : World} {p : Nat} {b : Hb} {deed owner : Int}
theorem Work.lt (h : Work w0 p b deed owner w) : p < w.heap.size := by obtain ⟨n, hn⟩ := h.hp; exact heap_lt hn
theorem Work.now (h : Work w0 p b deed owner w) (k : NowIn p (b.bk deed owner) w w') : Work w0 p b deed owner w' := ⟨h.hin, h.hz, h.bel.trans (k.less h.hz h.bel.size), k.hp, h.ck⟩
theorem Work.below {B : Nat} (h : Work w0 p b deed owner w) (k : Below B w w') (hB : w.heap.size ≤ B) : Work w0 p b deed owner w' := h.now (NowIn.of_below k h.hp hB)
theorem Work.inn (h : Work w0 p b deed owner w) : HbIn w b := h.hin.below h.bel (Nat.le_refl _)
theorem Work.ok (h : Work w0 p b deed owner w) : HeOk b.t b.l b.ks b.hs b.ds := checkH_ok h.ck
theorem Work.book (h : Work w0 p b deed owner w) {now : Int} (hp : w.heap[p]? = some (b.bk deed owner now)) : Book w p b.t b.A b.l.length b.c b.l b.vk b.vh b.vd deed owner now :=
  ⟨hp, h.inn.m, h.inn.mc, h.inn.mm, h.ok.ck⟩
end
def ExN (p : Nat) (A B : World) : Prop := ∃ i : Int, B = A.setCell ⟨p, 7, none⟩ (.int .i64 i)
theorem ExN.others {p : Nat} (A B : World) (h : ExN p A B) : KeepsOthers A B := by obtain ⟨i, rfl⟩ := h; exact KeepsOthers.setCell _ _ _
theorem bk_set {w : World} {p : Nat} {b : Hb} {deed owner now : Int} (h : w.heap[p]? = some (b.bk deed owner now)) (i : Int) : (w.setCell ⟨p, 7, none⟩ (.int .i64 i)).heap[p]? = some (b.bk deed owner i) := by
  rw [set_blk h]; rfl
theorem NowIn.set {p : Nat} {b : Hb} {deed owner : Int} {w w' : World} (h : NowIn p (b.bk deed owner) w w') (i : Int) : NowIn p (b.bk deed owner) w (w'.setCell ⟨p, 7, none⟩ (.int .i64 i)) := by
  obtain ⟨n, hn⟩ := h.hp
  exact ⟨h.os, h.tape, h.output, by simpa using h.size, fun k hk hne => (Below.heap_setCell _ ⟨p, 7, none⟩ _ _ hne).trans (h.block k hk hne), ⟨i, bk_set hn i⟩⟩
theorem now_abides {p : Nat} {b : Hb} {deed owner : Int} {w w' : World} {β : Type} {J : β → World → Prop} {s : β} (hJ : AbidesFrom w.heap.size J) (hE : ∀ s A B, J s A → ExN p A B → J s B) (h : NowIn p (b.bk deed owner) w w') (h0 : ∃ now, w.heap[p]? = some (b.bk deed owner now)) (hs : J s w) : J s w' := by
  obtain ⟨n, hn⟩ := h.hp
  obtain ⟨n0, hn0⟩ := h0
  refine hJ s (w.setCell ⟨p, 7, none⟩ (.int .i64 n)) w' none (hE _ _ _ hs ⟨n, rfl⟩) ⟨h.os, h.tape, h.output, by simpa using h.size, fun k hk _ => ?_⟩ (fun r e => by cases e)
  by_cases e : k = p
  · subst e; rw [hn, bk_set hn0]
  · rw [Below.heap_setCell _ ⟨p, 7, none⟩ _ _ e]
    exact h.block k (by simpa using hk) e
end Go.Proofs.Ytgnjknihgjdedaa
namespace Go.Proofs.Ytgnjknihgjdedaa
open Go.RowKit
set_option linter.unusedVariables false
set_option linter.unusedSimpArgs false

theorem among_any (H N : Nat) (lo hi : Int) (w : World) (h : Hd w H N) (hN : N ≤ 4611686018427387904) (h1 : -1000000 ≤ lo ∧ lo ≤ 1000000) (h2 : -1000000 ≤ hi ∧ hi ≤ 1000000) :
    Calls Try.prog 22 #[.pointer (some ⟨H, 0, none⟩), .int .i64 lo, .int .i64 hi] w fun e w' => ∃ x : Int, e = .returned (.int .i64 x) ∧ lo ≤ x ∧ (x ≤ hi ∨ x = lo) ∧ Dealt w w' H (N + 1) := by
  go_enter Try.func22, Try.ntmps22
  go_wp2_with fail
  refine (upto_any H N (hi - lo) _ h hN (by omega)).mono ?_
  rintro e w1 ⟨n, rfl, hn, hd⟩
  have hn' : (n : Int) ≤ 2000000 := by omega
  go_wp2_with fail
  go_ret
  exact ⟨lo + n, rfl, by omega, by omega, hd⟩

def ApartV (a b : Value) : Prop := ∀ k, a.ownBlock = some k → b.ownBlock ≠ some k
section
variable {w w' : World} {base B : Nat} {v v' u : Value} {ls : List (List Int)} {l : List Int}
theorem grownBy_cell (w : World) (g o : Nat) (x : Value) : w.grownBy (w.setCell ⟨g, o, none⟩ x) (some g) := ⟨rfl, rfl, rfl, by simp, fun j _ hj => Below.heap_setCell _ ⟨g, o, none⟩ _ _ (fun e => hj (by rw [e]))⟩
end
end Go.Proofs.Ytgnjknihgjdedaa
namespace Go.Proofs.Ytgnjknihgjdedaa
open Go.RowKit
set_option linter.unusedVariables false
set_option linter.unusedSimpArgs false

theorem Grid.len {w : World} {A : Option Addr} {n : Nat} {ls : List (List Int)} (h : Grid w A n ls) : ls.length = n := by
  obtain ⟨mv, h1, h2, _⟩ := h
  rw [← h2]; exact h1.len

end Go.Proofs.Ytgnjknihgjdedaa
namespace Go.Proofs.Ytgnjknihgjdedaa
open Go.RowKit
set_option linter.unusedVariables false
set_option linter.unusedSimpArgs false

theorem Own.formZ {α : Type} {enc : α → List Value} {e : TypeId} {sz : Nat} {w : World} {base : Nat} {v : Value} {l : List α} (h : Own enc e sz w base v l) (henc : ∀ x, (enc x).length = sz) : ∃ A c, v = .slice A l.length c ∧ Sl enc sz w A l.length l ∧ l.length ≤ c ∧ c ≤ maxLen ∧ (A = none → c = 0) := by
  obtain ⟨A, c, e, h1, h2, h3⟩ := h.form henc
  refine ⟨A, c, e, h1, h2, h3, fun hA => ?_⟩
  rcases h.2 with ⟨hv, _⟩ | ⟨g, cap, cur, hv, _⟩
  · rw [e] at hv; injection hv with _ _ e3
  · rw [e, hA] at hv; injection hv with e1; cases e1
end Go.Proofs.Ytgnjknihgjdedaa
namespace Go.Proofs.Ytgnjknihgjdedaa
open Go.RowKit
set_option linter.unusedVariables false

theorem Own.ne' {α : Type} {enc : α → List Value} {e e' : TypeId} {sz : Nat} {w : World} {base : Nat} {v : Value} {l : List α} {b : Nat} {cs : Array Value} {x : Nat × Nat} (h : Own enc e sz w base v l) (hb : w.heap[b]? = some (.cells cs e' x)) (hne : e ≠ e') : v.ownBlock ≠ some b := by
  intro hgb
  rcases h.2 with ⟨hv, _⟩ | ⟨g', cap, cur, hv, hg, hh, _⟩
  · rw [hv] at hgb; cases hgb
  · rw [hv] at hgb
    cases hgb
    rw [hh] at hb
    cases hb
    exact hne rfl

end Go.Proofs.Ytgnjknihgjdedaa

namespace Go.Proofs.Ytgnjknihgjdedaa
open Go.RowKit
set_option linter.unusedVariables false

end Go.Proofs.Ytgnjknihgjdedaa
namespace Go.Proofs.Ytgnjknihgjdedaa
open Go.RowKit
set_option linter.unusedVariables false
set_option linter.unusedSimpArgs false

def boxO (t : Int) (vm vk vh vd : Value) : Obj := Obj.cells #[.int .i64 t, vm, vk, vh, vd] 64 (0, 0)
abbrev OwnD (w : World) (base : Nat) (v : Value) (l : List De) : Prop := Own eDe 67 12 w base v l
theorem Dealt.ownG {w w1 w2 : World} {H N : Nat} (h : Dealt w w1 H N) {row : Option Nat} (hg : w1.grownBy w2 row) (hr : ∀ k, row = some k → H < k ∧ w.heap.size ≤ k) : Dealt w w2 H N := by
  refine ⟨h.hd.kept fun j hj => hg.block j (Nat.lt_of_le_of_lt hj h.hd.lt) (fun e => by have := hr j e.symm; omega), ⟨hg.os.trans h.gr.os, hg.tape.trans h.gr.tape, hg.output.trans h.gr.output, Nat.le_trans h.gr.size hg.size, fun j hj hne => ?_⟩⟩
  exact (hg.block j (Nat.lt_of_lt_of_le hj h.gr.size) (fun e => by have := hr j e.symm; omega)).trans (h.gr.block j hj hne)
theorem wp_appL {α : Type} {enc : α → List Value} {P : Program} {t e : TypeId} {sz bytes : Nat} (E : ElemOk P t e sz bytes) {ops : Array Oper} {rest : List Oper} {o : Oper} {a : Act} {Q : Exit → Act → World → Prop} {w : World}
    (hgd : o.guard = none) (s x : Operand) (ho : o.op = .call { callee := .builtin .append, args := #[s, x], argTypes := #[t, t] })
    (base : Nat) (v : Value) (l : List α) (y : α) (cs : Array Value) (g : Nat) (hs : a.eval s = v) (hx : a.eval x = .slice (some ⟨g, 0, none⟩) 1 1) (hg : w.heap[g]? = some (.cells cs e (0, 0))) (hcs : cs.toList = enc y)
    (hlen : (enc y).length = sz) (h1 : ∀ u ∈ enc y, u.oneCell' = true)
    (hown : Own enc e sz w base v l) (hll : l.length < 4294967296) (hby : bytes ≤ 4096) (hbase : base ≤ w.heap.size)
    (h : ∀ g' cap w', Own enc e sz w' base (.slice (some ⟨g', 0, none⟩) (l.length + 1) cap) (l ++ [y]) → w.grownBy w' v.ownBlock → (v.ownBlock = some g' ∨ g' = w.heap.size) → wpList P ops Q rest (a.put o.dst (.slice (some ⟨g', 0, none⟩) (l.length + 1) cap)) w') :
    wpList P ops Q (o :: rest) a w := by
  obtain ⟨i, z, hi, hz, hsize, hbytes, hzs⟩ := E.info
  refine wpList_append_lies w hgd s x t ho base e i z sz bytes E.sl hi hz hsize hbytes hzs E.pos v l.length (l.flatMap enc) hs hown ⟨g, 0, none⟩ 1 1 (enc y) hx (by omega) ?_ h1 (by omega) (by unfold maxLen; omega) ?_ hbase w.heap.size rfl ?_
  · rw [← hcs]; exact World.news_of_block hg
  · calc (l.length + 1) * bytes ≤ 4294967296 * 4096 := Nat.mul_le_mul (by omega) hby
      _ ≤ 140737488355328 := by omega
  · intro g' cap w' hown' hgr hl _
    refine h g' cap w' ?_ hgr hl
    have e2 : (l ++ [y]).flatMap enc = l.flatMap enc ++ enc y := by simp
    unfold Own
    rw [e2, List.length_append]
    exact hown'

theorem ApartV.nilL {v : Value} : ApartV (.slice none 0 0) v := fun k e => nomatch e
theorem ApartV.ne {a b : Value} (h : ApartV a b) : a.ownBlock = none ∨ a.ownBlock ≠ b.ownBlock := by
  cases e : a.ownBlock with
  | none => exact .inl rfl
  | some k => exact .inr fun e' => h k e e'.symm
theorem ApartV.ne' {a b : Value} (h : ApartV a b) : b.ownBlock = none ∨ b.ownBlock ≠ a.ownBlock := by
  cases e : b.ownBlock with
  | none => exact .inl rfl
  | some k => exact .inr fun e' => h k e'.symm e
theorem Rws.kept {w w' : World} {base : Nat} {mv : List Value} {ls : List (List Int)} {row : Option Nat} (h : Rws w base mv ls) (hg : w.grownBy w' row) (hr : ∀ x ∈ mv, x.ownBlock = none ∨ x.ownBlock ≠ row) : Rws w' base mv ls :=
  ⟨h.1, fun i v hv => by
    obtain ⟨l, hl, ho⟩ := h.2 i v hv
    exact ⟨l, hl, ho.kept hg (hr v (List.mem_of_getElem? hv))⟩⟩
theorem Rws.ltv {w : World} {base : Nat} {mv : List Value} {ls : List (List Int)} (h : Rws w base mv ls) {x : Value} (hx : x ∈ mv) : ∀ k, x.ownBlock = some k → base ≤ k ∧ k < w.heap.size := by
  obtain ⟨i, hi⟩ := List.mem_iff_getElem?.1 hx
  obtain ⟨l, _, ho⟩ := h.2 i x hi
  exact ho.lt
theorem Rws.ne {w : World} {base : Nat} {mv : List Value} {ls : List (List Int)} (h : Rws w base mv ls) {x : Value} (hx : x ∈ mv) {b : Nat} {cs : Array Value} {e' : TypeId} {y : Nat × Nat} (hb : w.heap[b]? = some (.cells cs e' y)) (hne : 3 ≠ e') : x.ownBlock ≠ some b := by
  obtain ⟨i, hi⟩ := List.mem_iff_getElem?.1 hx
  obtain ⟨l, _, ho⟩ := h.2 i x hi
  exact ho.ne' hb hne
section
variable {w0 w w' : World} {H g q N N' : Nat} {t : Int} {bm bk bh bd vm vk vh vu v' : Value} {l : List Mk} {ks ks' : List Int} {mv : List Value} {hs : List (List Int)} {row row' : List Int}
end

section
variable {w w' : World} {base z : Nat} {v : Value} {ls : List (List Int)}
end

section
variable {w0 w1 w w' : World} {H q N N' ze1 ze2 zg1 zg2 z3 zr zr' : Nat} {t : Int} {vm vk vh bd vd vE vG vW v' : Value} {ds ds' : List De} {gs : List (List Int)} {gone whose whose' : List Int}
end
end Go.Proofs.Ytgnjknihgjdedaa
namespace Go.Proofs.Ytgnjknihgjdedaa
open Go.RowKit Go.Sort
set_option linter.unusedVariables false
set_option linter.unusedSimpArgs false

section
variable {F : Fence} {n : Nat} {P : Program} {C : World → Prop}
end
theorem blk_kept {A B : World} {row : Option Nat} {k : Nat} {o : Obj} (h : A.heap[k]? = some o) (ho : o.isCells = true) (hg : A.grownBy B row) (hr : ∀ r, row = some r → ∃ o' : Obj, A.heap[r]? = some o' ∧ o'.isCells = false) : B.heap[k]? = some o :=
  (hg.block k (heap_lt h) (fun e => by
    obtain ⟨o', h1, h2⟩ := hr k e.symm
    rw [h] at h1
    cases h1
    rw [ho] at h2
    cases h2)).trans h
theorem keepsFrom_below {B : Nat} {W W' : World} (h : Below W.heap.size W W') : KeepsFrom B W W' :=
  KeepsFrom.of_grownBy (row := none) ⟨h.os, h.tape, h.output, h.size, fun k hk _ => h.block k hk⟩ (fun j e => by cases e)
theorem inRnd {n l : Nat} {P : Program} {f : FuncId} {args : Array Value} {w : World} {R : Ending → World → Prop} (h : Calls P f args w R) : CallsIn (Fence.wide.inRound l) n P f args w R :=
  CallsIn.inRound l (callsIn_wide.2 h)
end Go.Proofs.Ytgnjknihgjdedaa
namespace Go.Proofs.Ytgnjknihgjdedaa
open Go.RowKit Go.Shelf
set_option linter.unusedVariables false
set_option linter.unusedSimpArgs false
attribute [local go_sem] Oper.semAt_some

abbrev Ix := Fin 17920
end Go.Proofs.Ytgnjknihgjdedaa
namespace Go.Proofs.Ytgnjknihgjdedaa
open Go.RowKit
set_option linter.unusedVariables false
set_option linter.unusedSimpArgs false

theorem Own.nb {α : Type} {enc : α → List Value} {e : TypeId} {sz : Nat} {w : World} {base b : Nat} {v : Value} {l : List α} (h : Own enc e sz w base v l) (hb : b < base) : v.ownBlock ≠ some b := fun k => by
  have := (h.lt _ k).1; omega
end Go.Proofs.Ytgnjknihgjdedaa
namespace Go.Proofs.Ytgnjknihgjdedaa
open Go.RowKit
set_option linter.unusedVariables false
set_option linter.unusedSimpArgs false

theorem okSp : ElemOk Try.prog 27 26 2 16 := ElemOk.mk' (z := .agg #[.int .i64 0, .int .i64 0]) Try.underlying27 (by kernel_rfl) rfl (by decide)
theorem okCt : ElemOk Try.prog 28 76 4 32 := ElemOk.mk' (z := .agg #[.int .i64 0, .int .i64 0, .int .i64 0, .int .i64 0]) Try.underlying28 (by kernel_rfl) rfl (by decide)
theorem one_eSp (x : Sp) : ∀ u ∈ eSp x, u.oneCell' = true := by intro u hu; simp [eSp] at hu; rcases hu with rfl | rfl <;> rfl
theorem one_eCt (x : Ct) : ∀ u ∈ eCt x, u.oneCell' = true := by intro u hu; simp [eCt] at hu; rcases hu with rfl | rfl | rfl | rfl <;> rfl
abbrev tyC (g lo hi : Int) (vC : Value) (m : Int) (vK : Value) : Obj := .cells #[.int .i64 g, .int .i64 lo, .int .i64 hi, vC, .int .i64 m, vK] 30 (0, 0)
section
variable {w w' w'' : World} {H z q : Nat} {O : Obj} {vC : Value} {ch : List Sp} {vK : Value} {cs : List Ct} {vN : Value} {ns : List Int} {vL : Value} {ls : List Int} {M M' : Nat}
end
theorem tru_put {w : World} {z : Nat} {g lo hi m : Int} {vC vK : Value} {g' lo' hi' m' : Int} {vC' vK' : Value} (h : w.heap[z]? = some (tyC g' lo' hi' vC' m' vK')) :
    ((((((w.setCell ⟨z, 0, none⟩ (.int .i64 g)).setCell ⟨z, 1, none⟩ (.int .i64 lo)).setCell ⟨z, 2, none⟩ (.int .i64 hi)).setCell ⟨z, 3, none⟩ vC).setCell ⟨z, 4, none⟩ (.int .i64 m)).setCell ⟨z, 5, none⟩ vK).heap[z]? = some (tyC g lo hi vC m vK) ∧
    w.grownBy ((((((w.setCell ⟨z, 0, none⟩ (.int .i64 g)).setCell ⟨z, 1, none⟩ (.int .i64 lo)).setCell ⟨z, 2, none⟩ (.int .i64 hi)).setCell ⟨z, 3, none⟩ vC).setCell ⟨z, 4, none⟩ (.int .i64 m)).setCell ⟨z, 5, none⟩ vK) (some z) :=
  ⟨set_blk (set_blk (set_blk (set_blk (set_blk (set_blk h))))), (((((grownBy_cell _ _ _ _).trans (grownBy_cell _ _ _ _)).trans (grownBy_cell _ _ _ _)).trans (grownBy_cell _ _ _ _)).trans (grownBy_cell _ _ _ _)).trans (grownBy_cell _ _ _ _)⟩
theorem getD_app1 {α : Type} {l : List α} {x d : α} {k : Nat} (h : k < l.length) : (l ++ [x]).getD k d = l.getD k d := by
  rw [List.getD_eq_getElem?_getD, List.getD_eq_getElem?_getD, List.getElem?_append_left h]
theorem getD_app2 {α : Type} {l : List α} {x d : α} {k : Nat} (h : k = l.length) : (l ++ [x]).getD k d = x := by
  subst h
  rw [List.getD_eq_getElem?_getD, List.getElem?_append_right (Nat.le_refl _)]; simp
theorem ct_has {g : Int} {c : Ct} (hc : CtOk g c) {x d y : Int} (hx : 0 ≤ x) (hd : d = (c.e * x).tdiv 100) (h1 : -d ≤ y) (h2 : y ≤ d ∨ y = -d) (hn : c.n = x + y) : (readsS c).has x := by
  have he := hc.e0
  have hp : 0 ≤ c.e * x := Int.mul_nonneg he.1 hx
  rw [Int.tdiv_eq_ediv_of_nonneg hp] at hd
  refine reads_has hc ?_ ?_ <;> omega
end Go.Proofs.Ytgnjknihgjdedaa
namespace Go.Proofs.Ytgnjknihgjdedaa
open Go.RowKit
set_option linter.unusedVariables false
set_option linter.unusedSimpArgs false
theorem run_append_keep {P : Program} (w : World) (base : Nat) (t ty e : TypeId) (i : TypeInfo) (z : Value) (size bytes : Nat) (ht : P.underlying t = some (.slice e)) (hi : P.info? e = some i) (hz : i.zero = some z)
    (hsize : i.size = size) (hby : i.bytes = bytes) (hzs : z.cells.size = size) (hsz : 0 < size)
    (v : Value) (n : Nat) (xs : List Value) (hown : w.ownsRow base e size v n xs)
    (a : Addr) (m c : Nat) (news : List Value) (hl : news.length = m * size) (hnews : ∀ j u, news[j]? = some u → w.cell? (a.add j) = some u) (h1 : ∀ u ∈ news, u.oneCell' = true) (hm0 : 0 < m)
    (h63 : n + m ≤ maxLen) (hbytes : (n + m) * bytes ≤ 140737488355328) (hbase : base ≤ w.heap.size) :
    ∃ g' cap' w', (Builtin.append_ #[t, t] ty #[v, .slice (some a) m c]).run P w = .ok (.slice (some ⟨g', 0, none⟩) (n + m) cap') w' ∧ w'.ownsRow base e size (.slice (some ⟨g', 0, none⟩) (n + m) cap') (n + m) (xs ++ news) ∧ w.grownBy w' v.ownBlock ∧ (v.ownBlock = some g' ∨ g' = w.heap.size) ∧
      ((∀ k, k < w.heap.size → w'.heap[k]? = w.heap[k]?) ∨ ∃ g cap cur, v = .slice (some ⟨g, 0, none⟩) n cap ∧ n + m ≤ cap ∧ cap ≤ maxLen ∧ cur.size = cap * size ∧ base ≤ g ∧ w.heap[g]? = some (.cells cur e (0, 0)) ∧ cur.toList.take (n * size) = xs ∧
        w'.heap[g]? = some (.cells (xs ++ news ++ cur.toList.drop (n * size + news.length)).toArray e (0, 0))) := by
  subst hsize
  subst hby
  have hsmall : n + m ≤ 9223372036854775807 := by simp only [maxLen] at h63; omega
  have hlen : (xs ++ news).length = (n + m) * i.size := by rw [List.length_append, hown.1, hl, Nat.add_mul]
  have grown : ∀ (old : Nat), old < n + m → ∀ (row : Option Nat),
      (w.drew.alloc (.cells (xs.toArray ++ news.toArray ++ Builtin.zeroCells z.cells (grownCap w (n + m) old e - (n + m))) e)).ownsRow base e i.size
        (.slice (some ⟨w.heap.size, 0, none⟩) (n + m) (grownCap w (n + m) old e)) (n + m) (xs ++ news) ∧
      w.grownBy (w.drew.alloc (.cells (xs.toArray ++ news.toArray ++ Builtin.zeroCells z.cells (grownCap w (n + m) old e - (n + m))) e)) row := by
    intro old ho row
    have hge := grownCap_ge w (n + m) old e
    have hcm : grownCap w (n + m) old e ≤ maxLen := grownCap_le_maxLen w (n + m) old e h63
    refine ⟨⟨hlen, .inr ⟨w.heap.size, _, _, rfl, hbase, heap_alloc_new w.drew _, hge, hcm, ?_, ?_⟩⟩, ⟨rfl, rfl, rfl, by simp, fun k hk _ => Go.heap_alloc_old w.drew _ hk⟩⟩
    · simp only [Array.size_append, List.size_toArray, size_zeroCells, hzs, hown.1, hl, ← Nat.add_mul]
      congr 1
      omega
    · simp only [Array.toList_append, List.append_assoc]
      rw [← List.append_assoc, ← hlen]
      exact List.take_left
  rcases hown.2 with ⟨rfl, rfl⟩ | ⟨g, cap, cur, rfl, hbg, hg, hnc, hcm, hcs, htake⟩
  · have hx : xs = [] := List.eq_nil_of_length_eq_zero (by simpa using hown.1)
    subst hx
    have hr := run_append_nil (P := P) w t ty e i z ht hi hz a m c news hl hnews (by omega) (by omega) (by have hb := hbytes; simp only [Nat.zero_add] at hb; omega)
    have hgr := grown 0 (by omega) (Value.ownBlock (.slice none 0 0))
    simp only [Nat.zero_add, List.nil_append, Array.empty_append] at hgr ⊢
    exact ⟨_, _, _, hr, hgr.1, hgr.2, .inr rfl, .inl fun k hk => Go.heap_alloc_old w.drew _ hk⟩
  · by_cases hroom : n + m ≤ cap
    · have hfit : n * i.size + news.length ≤ cur.size := by rw [hl, hcs, ← Nat.add_mul]; exact Nat.mul_le_mul_right _ hroom
      have hr := run_append_room (P := P) w t ty e i ht hi g n cap cur hg a m c news hl hnews h1 hroom hfit
      rw [htake] at hr
      refine ⟨_, _, _, hr, ⟨hlen, .inr ⟨g, cap, _, rfl, hbg, setRow_heap w g cur _ e _ hg, hroom, hcm, ?_, ?_⟩⟩, ⟨rfl, rfl, rfl, by simp, fun k _ hk => setRow_other w g k _ (fun e => hk (by simp [Value.ownBlock, e]))⟩, .inl rfl, .inr ⟨g, cap, cur, rfl, hroom, hcm, hcs, hbg, hg, htake, setRow_heap w g cur _ e _ hg⟩⟩
      · have := hown.1
        simp only [List.size_toArray, List.length_append, List.length_drop, Array.length_toList]
        omega
      · rw [← hlen]
        exact List.take_left
    · have holds : ∀ j u, xs[j]? = some u → w.cell? ((⟨g, 0, none⟩ : Addr).add j) = some u := hown.cells (g := g) rfl
      have hr := run_append_grow (P := P) w t ty e i z ht hi hz ⟨g, 0, none⟩ n cap xs hown.1 holds a m c news hl hnews (by omega) (by omega) (growslice_fits (by omega) hbytes)
      have hgr := grown cap (by omega) (Value.ownBlock (.slice (some ⟨g, 0, none⟩) n cap))
      exact ⟨_, _, _, hr, hgr.1, hgr.2, .inr rfl, .inl fun k hk => Go.heap_alloc_old w.drew _ hk⟩
theorem wp_appK {α : Type} {enc : α → List Value} {P : Program} {t e : TypeId} {sz bytes : Nat} (E : ElemOk P t e sz bytes) {ops : Array Oper} {rest : List Oper} {o : Oper} {a : Act} {Q : Exit → Act → World → Prop} {w : World}
    (hgd : o.guard = none) (s x : Operand) (ho : o.op = .call { callee := .builtin .append, args := #[s, x], argTypes := #[t, t] })
    (base : Nat) (v : Value) (l : List α) (y : α) (cs : Array Value) (g : Nat) (hs : a.eval s = v) (hx : a.eval x = .slice (some ⟨g, 0, none⟩) 1 1) (hg : w.heap[g]? = some (.cells cs e (0, 0))) (hcs : cs.toList = enc y)
    (hlen : ∀ y, (enc y).length = sz) (h1 : ∀ u ∈ enc y, u.oneCell' = true)
    (hown : Own enc e sz w base v l) (hll : l.length < 4294967296) (hby : bytes ≤ 4096) (hbase : base ≤ w.heap.size)
    (h : ∀ g' cap w', Own enc e sz w' base (.slice (some ⟨g', 0, none⟩) (l.length + 1) cap) (l ++ [y]) → w.grownBy w' v.ownBlock → (v.ownBlock = some g' ∨ g' = w.heap.size) →
      (∀ v2, Own enc e sz w base v2 l → Own enc e sz w' base v2 l) → (∀ r : Nat, w.heap[r]? = some (Obj.cells cs e (0, 0)) → w'.heap[r]? = some (Obj.cells cs e (0, 0))) → wpList P ops Q rest (a.put o.dst (.slice (some ⟨g', 0, none⟩) (l.length + 1) cap)) w') :
    wpList P ops Q (o :: rest) a w := by
  obtain ⟨i, z, hi, hz, hsize, hbytes, hzs⟩ := E.info
  have hpos := E.pos
  refine wpList_plain hgd fun K hK => ?_
  have hby2 : (l.length + 1) * bytes ≤ 140737488355328 := by
    calc (l.length + 1) * bytes ≤ 4294967296 * 4096 := Nat.mul_le_mul (by omega) hby
      _ ≤ 140737488355328 := by omega
  obtain ⟨g', cap', w', hr, h2, h3, h4, h5⟩ := run_append_keep (P := P) w base t o.type e i z sz bytes E.sl hi hz hsize hbytes hzs hpos v l.length (l.flatMap enc) hown ⟨g, 0, none⟩ 1 1 (enc y) (by rw [hlen]; omega) (by rw [← hcs]; exact World.news_of_block hg) h1 (by omega) (by unfold maxLen; omega) hby2 hbase
  unfold Oper.wp execOp
  simp only [ho, resolve, invoke, builtin, Sem.run_bind, Sem.run_pure, Result.andThen_ok, List.map_toArray, List.map_cons, List.map_nil, hs, hx, hr]
  have hcz : cs.size = sz := by rw [← Array.length_toList, hcs, hlen]
  have hfl : (l.flatMap enc).length = l.length * sz := hown.1
  refine hK _ _ (h g' cap' w' ?_ h3 h4 (fun v2 ho2 => ?_) fun r hr2 => ?_)
  · have e2 : (l ++ [y]).flatMap enc = l.flatMap enc ++ enc y := by simp
    unfold Own
    rw [e2, List.length_append]
    exact h2
  · rcases h5 with h5 | ⟨gg, cap, cur, rfl, hroom, hcm, hcs2, hbg, hgg, htake, hnew⟩
    · refine ⟨ho2.1, ?_⟩
      rcases ho2.2 with hh | ⟨g2, cap2, cur2, hv, hb, hg2, r2⟩
      · exact .inl hh
      · exact .inr ⟨g2, cap2, cur2, hv, hb, (h5 g2 (heap_lt hg2)).trans hg2, r2⟩
    · refine ⟨ho2.1, ?_⟩
      rcases ho2.2 with hh | ⟨g2, cap2, cur2, hv, hb, hg2, hn2, hc2, hz2, ht2⟩
      · exact .inl hh
      · by_cases hgg2 : g2 = gg
        · subst hgg2
          rw [hgg] at hg2
          cases hg2
          refine .inr ⟨g2, cap2, _, hv, hb, hnew, hn2, hc2, ?_, ?_⟩
          · simp only [List.size_toArray, List.length_append, List.length_drop, Array.length_toList, hfl, hlen]
            have : l.length * sz + sz ≤ cap * sz := by rw [← Nat.succ_mul]; exact Nat.mul_le_mul_right _ hroom
            omega
          · rw [← hfl, List.append_assoc]
            exact List.take_left
        · exact .inr ⟨g2, cap2, cur2, hv, hb, (h3.block g2 (heap_lt hg2) (fun e => hgg2 (by injection e))).trans hg2, hn2, hc2, hz2, ht2⟩
  · rcases h5 with h5 | ⟨gg, cap, cur, rfl, hroom, hcm, hcs2, hbg, hgg, htake, hnew⟩
    · exact (h5 r (heap_lt hr2)).trans hr2
    · by_cases hrg : r = gg
      · subst hrg
        rw [hgg] at hr2
        cases hr2
        have hc1 : cap = 1 := by
          rw [hcz] at hcs2
          rcases Nat.lt_or_ge cap 2 with h | h
          · rcases Nat.eq_zero_or_pos cap with h0 | h0
            · omega
            · omega
          · have : 2 * sz ≤ cap * sz := Nat.mul_le_mul_right _ h
            omega
        have hl0 : l = [] := List.eq_nil_of_length_eq_zero (by omega)
        subst hl0
        rw [hnew]
        congr 2
        apply Array.ext'
        simp [hcs, hlen]
      · exact (h3.block r (heap_lt hr2) (fun e => hrg (by injection e))).trans hr2
end Go.Proofs.Ytgnjknihgjdedaa
