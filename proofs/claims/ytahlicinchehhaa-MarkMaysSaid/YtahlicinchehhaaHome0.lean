/- What strays.home's closures share: the counts so far, the list so far, the map of the states that were met. -/
import Derived.Test.YtahlicinchehhaaMapKey
import Derived.Defers
namespace Go.Proofs.Ytahlicinchehhaa
open Go.RowKit
set_option linter.unusedVariables false
set_option linter.unusedSimpArgs false

/-- the count at a place -/
def Cn.at (c : Cn) : Nat → Int
  | 0 => c.a
  | 1 => c.b
  | 2 => c.c
  | 3 => c.d
  | 4 => c.e
  | _ => c.s
/-- one more at a place -/
def Cn.add (c : Cn) (k : Int) : Nat → Cn
  | 0 => { c with a := c.a + k }
  | 1 => { c with b := c.b + k }
  | 2 => { c with c := c.c + k }
  | 3 => { c with d := c.d + k }
  | 4 => { c with e := c.e + k }
  | _ => { c with s := c.s + k }
def Cn.up (c : Cn) (i : Nat) : Cn := (c.add 1 i).add 1 5
def Cn.skip (c : Cn) : Cn := c.add 1 5
theorem Cn.at_cs (c : Cn) {i : Nat} (h : i < 6) : c.cs[i]? = some (.int .i64 (c.at i)) := by
  match i, h with
  | 0, _ => rfl
  | 1, _ => rfl
  | 2, _ => rfl
  | 3, _ => rfl
  | 4, _ => rfl
  | 5, _ => rfl
/-- the block B holds the counts c -/
def Now (w : World) (B : Nat) (c : Cn) : Prop := w.heap[B]? = some (.cells c.cs 132 (0, 0))
theorem Now.cell {w : World} {B : Nat} {c : Cn} (h : Now w B c) {i : Nat} (hi : i < 6) : w.cell? ⟨B, i, none⟩ = some (.int .i64 (c.at i)) := by
  unfold Now at h
  simp [World.cell?, h, c.at_cs hi]
theorem Now.free {w : World} {B : Nat} {c : Cn} (h : Now w B c) (i : Nat) : w.frozen? ⟨B, i, none⟩ = false := by
  unfold Now at h
  simp [World.frozen?, h]
theorem Now.set {w : World} {B : Nat} {c : Cn} (h : Now w B c) {i : Nat} (hi : i < 6) (k x : Int) (hx : x = c.at i + k) : Now (w.setCell ⟨B, i, none⟩ (.int .i64 x)) B (c.add k i) := by
  unfold Now at *
  subst hx
  match i, hi with
  | 0, _ => simp [World.setCell, Array.getElem?_modify, h, Cn.cs, Cn.add, Cn.at]
  | 1, _ => simp [World.setCell, Array.getElem?_modify, h, Cn.cs, Cn.add, Cn.at]
  | 2, _ => simp [World.setCell, Array.getElem?_modify, h, Cn.cs, Cn.add, Cn.at]
  | 3, _ => simp [World.setCell, Array.getElem?_modify, h, Cn.cs, Cn.add, Cn.at]
  | 4, _ => simp [World.setCell, Array.getElem?_modify, h, Cn.cs, Cn.add, Cn.at]
  | 5, _ => simp [World.setCell, Array.getElem?_modify, h, Cn.cs, Cn.add, Cn.at]
theorem Now.keep {w w' : World} {B : Nat} {c : Cn} (h : Now w B c) (e : w'.heap[B]? = w.heap[B]?) : Now w' B c := by unfold Now at *; rw [e]; exact h

/-- giving failed: the deferred closure takes it back -/
theorem undo_any (w : World) (u : FrameMode) (Bd Bn Bw Bo Bs : Nat) (done : Bool) (c : Cn) (o st : Nat) (A : Addr) (n cap : Nat)
    (hd : w.cell? ⟨Bd, 0, none⟩ = some (.bool done)) (hn : Now w Bn c) (hw : w.cell? ⟨Bw, 0, none⟩ = some (.int .i64 o)) (hb : w.cell? ⟨Bo, 0, none⟩ = some (.slice (some A) n cap)) (hs : w.cell? ⟨Bs, 0, none⟩ = some (.int .i64 st))
    (fo : w.frozen? ⟨Bo, 0, none⟩ = false) (ho : o < 5) (hcap : st < cap) (hcm : cap ≤ maxLen) (n1 : Bw ≠ Bn) (n2 : Bo ≠ Bn) (n3 : Bs ≠ Bn)
    (b1 : -9223372036854775807 ≤ c.at o) (b2 : c.at o ≤ 9223372036854775807) (b3 : -9223372036854775807 ≤ c.at 5) (b4 : c.at 5 ≤ 9223372036854775807) :
    CallsD Try.prog 99 #[.pointer (some ⟨Bd, 0, none⟩), .pointer (some ⟨Bn, 0, none⟩), .pointer (some ⟨Bw, 0, none⟩), .pointer (some ⟨Bo, 0, none⟩), .pointer (some ⟨Bs, 0, none⟩)] u w fun e u' w' => u' = u ∧ e = .returned (.tuple #[]) ∧
      w' = if done then w else ((w.setCell ⟨Bn, o, none⟩ (.int .i64 (c.at o - 1))).setCell ⟨Bn, 5, none⟩ (.int .i64 (c.at 5 - 1))).setCell ⟨Bo, 0, none⟩ (.slice (some A) st cap) := by
  have f0 := hn.free o
  have f5 := hn.free 5
  have c0 := hn.cell (i := o) (by omega)
  have c5 := hn.cell (i := 5) (by omega)
  have hm : maxLen = 9223372036854775807 := rfl
  generalize c.at o = x at *
  generalize c.at 5 = y at *
  obtain rfl | rfl | rfl | rfl | rfl : o = 0 ∨ o = 1 ∨ o = 2 ∨ o = 3 ∨ o = 4 := by omega
  all_goals
    cases done
    · go_enter_d Try.func99, Try.ntmps99
      go_wp2
      go_end0
      first | rfl | exact ⟨rfl, rfl⟩ | exact ⟨rfl, rfl, rfl⟩
    · go_enter_d Try.func99, Try.ntmps99
      go_wp2
      go_end0
      first | rfl | exact ⟨rfl, rfl⟩ | exact ⟨rfl, rfl, rfl⟩
end Go.Proofs.Ytahlicinchehhaa
