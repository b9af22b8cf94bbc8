/- mestakit.SameSights.
   Copies made in a region that draws: of a register into a variable, of sights, of integers. -/
import Derived.Test.YtoidaigiejilcaaDoorKit
import Derived.Test.YtoidaigiejilcaaDoorRegs
import Derived.Test.YtoidaigiejilcaaDoorDraw
import Derived.Test.YtoidaigiejilcaaDoorOwn2
import Derived.ArgAppend
import Derived.Deep.Upon
namespace Go.Proofs.YtoidaigiejilcaaDoor
open Go.RowKit
set_option linter.unusedVariables false
set_option linter.unusedSimpArgs false

end Go.Proofs.YtoidaigiejilcaaDoor

namespace Go.Proofs.YtoidaigiejilcaaDoor
open Go.RowKit
set_option linter.unusedVariables false
set_option linter.unusedSimpArgs false

def zReg : Obj := Obj.cells #[.int .i64 0, .slice none 0 0] 26 (0, 0)
def rgObj (gt : Int) (k : Nat) (A : Option Addr) (c : Nat) : Obj := Obj.cells #[.int .i64 gt, .slice A k c] 26 (0, 0)
/-- the block k is the copy of a register -/
def RegP (base : Nat) (gt : Int) (gl : List Mk) (w : World) (k : Nat) : Prop := ∃ A c, w.heap[k]? = some (rgObj gt gl.length A c) ∧ OwnM w base (.slice A gl.length c) gl
def ZR (gt : Int) (n : Nat) (o : Obj) : Prop := o = zReg ∨ ∃ A c, o = rgObj gt n A c
/-- blocks were laid; variables of registers from base on may have got a copy -/
def TV (base : Nat) (gt : Int) (gl : List Mk) (n : Nat) (w w' : World) : Prop :=
  w'.os = w.os ∧ w'.tape = w.tape ∧ w'.output = w.output ∧ w.heap.size ≤ w'.heap.size ∧ (∀ (k : Nat) o, w.heap[k]? = some o → w'.heap[k]? = some o ∨ (base ≤ k ∧ ZR gt gl.length o ∧ RegP base gt gl w' k)) ∧ ∀ k, RegP base gt gl w k → RegP base gt gl w' k
section
variable {base : Nat} {gt : Int} {gl : List Mk}
theorem TV.tr : ∀ n a b c, TV base gt gl n a b → TV base gt gl 1 b c → TV base gt gl (n + 1) a c := fun n a b c h k => by
  obtain ⟨h1, h2, h3, h4, h5, h6⟩ := h
  obtain ⟨k1, k2, k3, k4, k5, k6⟩ := k
  refine ⟨k1.trans h1, k2.trans h2, k3.trans h3, Nat.le_trans h4 k4, fun j o ho => ?_, fun j hj => k6 j (h6 j hj)⟩
  rcases h5 j o ho with h | ⟨ha, hb, hc⟩
  · exact k5 j o h
  · exact .inr ⟨ha, hb, k6 j hc⟩
theorem TV.of_below {w w' : World} (h : Below w.heap.size w w') : TV base gt gl 1 w w' :=
  ⟨h.os, h.tape, h.output, h.size, fun k o ho => .inl (bheap ho h (Nat.le_refl _)), fun k ⟨A, c, h1, h2⟩ => ⟨A, c, bheap h1 h (Nat.le_refl _), h2.below h (Nat.le_refl _)⟩⟩
theorem TV.rf : ∀ w, TV base gt gl 1 w w := fun w => TV.of_below (Below.refl _ _)
theorem TV.draw (w : World) : TV base gt gl 0 w { w with drawn := w.drawn + 1 } := TV.of_below (below_drewN (Below.refl _ _) 1)
theorem ZR.ty {o : Obj} {n : Nat} (h : ZR gt n o) {cs : Array Value} {e : TypeId} {x : Nat × Nat} (ho : o = .cells cs e x) : e = 26 := by
  rcases h with h | ⟨A, c, h⟩
  · rw [h] at ho; cases ho; rfl
  · rw [h] at ho; cases ho; rfl
theorem Own.tv {α : Type} {enc : α → List Value} {e : TypeId} {sz n b : Nat} {w w' : World} {v : Value} {l : List α} (h : Own enc e sz w b v l) (hT : TV base gt gl n w w') (he : e ≠ 26) : Own enc e sz w' b v l := by
  refine ⟨h.1, ?_⟩
  rcases h.2 with h2 | ⟨g, cap, cur, hv, hg, hh, r⟩
  · exact .inl h2
  · refine .inr ⟨g, cap, cur, hv, hg, ?_, r⟩
    rcases hT.2.2.2.2.1 g _ hh with h3 | ⟨_, h3, _⟩
    · exact h3
    · exact absurd (h3.ty rfl) he
theorem TV.size {n : Nat} {w w' : World} (h : TV base gt gl n w w') : w.heap.size ≤ w'.heap.size := h.2.2.2.1
theorem TV.below {n : Nat} {w w' : World} (h : TV base gt gl n w w') : Below base w w' ∨ True := .inr trivial
/-- what lies below the base abides -/
theorem TV.under {n : Nat} {w w' : World} (h : TV base gt gl n w w') (hb : base ≤ w.heap.size) : Below base w w' :=
  ⟨h.1, h.2.1, h.2.2.1, h.2.2.2.1, fun k hk => by
    have hk' : k < w.heap.size := by omega
    have h1 : w.heap[k]? = some (w.heap[k]'hk') := Array.getElem?_eq_getElem hk'
    rcases h.2.2.2.2.1 k _ h1 with h2 | ⟨h2, _⟩
    · rw [h1, h2]
    · omega⟩
def RcF (base : Nat) (gt : Int) (gl : List Mk) : VF := fun v w => ∃ A c, v = .agg #[.int .i64 gt, .slice A gl.length c] ∧ OwnM w base (.slice A gl.length c) gl
def EmF : VF := fun v _ => ∃ b, v = .slice (some ⟨b, 0, none⟩) 0 0
def SrF (base : Nat) (s : List Sg) : VF := fun v w => ∃ B c, v = .slice B s.length c ∧ (s = [] ∨ OwnS w base v s) ∧ s.length ≤ c ∧ c ≤ maxLen ∧ (B = none → c = 0)
def IrF (base : Nat) (i : List Int) : VF := fun v w => OwnI w base v i
def PzF (base : Nat) (gt : Int) (gl : List Mk) : VF := fun v w => ∃ b, v = .pointer (some ⟨b, 0, none⟩) ∧ base ≤ b ∧ (w.heap[b]? = some zReg ∨ RegP base gt gl w b)
def PtF (base : Nat) (gt : Int) (gl : List Mk) : VF := fun v w => ∃ b, v = .pointer (some ⟨b, 0, none⟩) ∧ RegP base gt gl w b
theorem RcF.st : ∀ n v w w', TV base gt gl n w w' → RcF base gt gl v w → RcF base gt gl v w' := fun n v w w' h ⟨A, c, h1, h2⟩ => ⟨A, c, h1, h2.tv h (by decide)⟩
theorem EmF.st : ∀ n v w w', TV base gt gl n w w' → EmF v w → EmF v w' := fun _ _ _ _ _ h => h
theorem SrF.st {s : List Sg} : ∀ n v w w', TV base gt gl n w w' → SrF base s v w → SrF base s v w' := fun n v w w' h ⟨B, c, h1, h2, h3⟩ => ⟨B, c, h1, h2.imp id (fun h2 => h2.tv h (by decide)), h3⟩
theorem IrF.st {i : List Int} : ∀ n v w w', TV base gt gl n w w' → IrF base i v w → IrF base i v w' := fun n v w w' h h2 => Own.tv h2 h (by decide)
theorem PzF.st : ∀ n v w w', TV base gt gl n w w' → PzF base gt gl v w → PzF base gt gl v w' := fun n v w w' h ⟨b, h1, h2, h3⟩ => ⟨b, h1, h2, by
  rcases h3 with h3 | h3
  · rcases h.2.2.2.2.1 b _ h3 with h4 | ⟨_, _, h4⟩
    · exact .inl h4
    · exact .inr h4
  · exact .inr (h.2.2.2.2.2 b h3)⟩
theorem PtF.st : ∀ n v w w', TV base gt gl n w w' → PtF base gt gl v w → PtF base gt gl v w' := fun n v w w' h ⟨b, h1, h2⟩ => ⟨b, h1, h.2.2.2.2.2 b h2⟩
theorem PzF.new {w : World} (hb : base ≤ w.heap.size) : TV base gt gl 1 w (w.alloc (.cells #[.int .i64 0, .slice none 0 0] 26)) ∧ PzF base gt gl (.pointer (some ⟨w.heap.size, 0, none⟩)) (w.alloc (.cells #[.int .i64 0, .slice none 0 0] 26)) :=
  ⟨TV.of_below (bal0 w _), w.heap.size, rfl, hb, .inl (heap_alloc_new w _)⟩
theorem TV.put {w : World} {b : Nat} {A : Option Addr} {c : Nat} (hb : base ≤ b) (h : w.heap[b]? = some zReg ∨ RegP base gt gl w b) (ho : OwnM w base (.slice A gl.length c) gl) :
    TV base gt gl 1 w ((w.setCell ⟨b, 0, none⟩ (.int .i64 gt)).setCell ⟨b, 1, none⟩ (.slice A gl.length c)) ∧ PtF base gt gl (.pointer (some ⟨b, 0, none⟩)) ((w.setCell ⟨b, 0, none⟩ (.int .i64 gt)).setCell ⟨b, 1, none⟩ (.slice A gl.length c)) := by
  have hfar : ∀ j, j ≠ b → ((w.setCell ⟨b, 0, none⟩ (.int .i64 gt)).setCell ⟨b, 1, none⟩ (.slice A gl.length c)).heap[j]? = w.heap[j]? := fun j hj => by
    rw [Below.heap_setCell _ ⟨b, 1, none⟩ _ j hj, Below.heap_setCell _ ⟨b, 0, none⟩ _ j hj]
  have hz : ∃ a0 a1 : Value, w.heap[b]? = some (.cells #[a0, a1] 26 (0, 0)) := by
    rcases h with h | ⟨A', c', h, _⟩
    · exact ⟨_, _, h⟩
    · exact ⟨_, _, h⟩
  obtain ⟨a0, a1, hz⟩ := hz
  have hblk : ((w.setCell ⟨b, 0, none⟩ (.int .i64 gt)).setCell ⟨b, 1, none⟩ (.slice A gl.length c)).heap[b]? = some (rgObj gt gl.length A c) := set_blk (set_blk hz)
  have key : ∀ {A' : Option Addr} {c' : Nat}, OwnM w base (.slice A' gl.length c') gl → OwnM ((w.setCell ⟨b, 0, none⟩ (.int .i64 gt)).setCell ⟨b, 1, none⟩ (.slice A gl.length c)) base (.slice A' gl.length c') gl := fun h => by
    refine ⟨h.1, ?_⟩
    rcases h.2 with h2 | ⟨g, cap, cur, hv, hg, hh, r⟩
    · exact .inl h2
    · refine .inr ⟨g, cap, cur, hv, hg, (hfar g (fun e => ?_)).trans hh, r⟩
      rw [e, hz] at hh
      cases hh
  have hp : RegP base gt gl ((w.setCell ⟨b, 0, none⟩ (.int .i64 gt)).setCell ⟨b, 1, none⟩ (.slice A gl.length c)) b := ⟨A, c, hblk, key ho⟩
  refine ⟨⟨rfl, rfl, rfl, by simp, fun k o hk => ?_, fun k hk => ?_⟩, b, rfl, hp⟩
  · by_cases hkb : k = b
    · subst hkb
      refine .inr ⟨hb, ?_, hp⟩
      rcases h with h | ⟨A', c', h, _⟩
      · rw [h] at hk; cases hk; exact .inl rfl
      · rw [h] at hk; cases hk; exact .inr ⟨_, _, rfl⟩
    · exact .inl ((hfar k hkb).trans hk)
  · by_cases hkb : k = b
    · subst hkb; exact hp
    · obtain ⟨A', c', h1, h2⟩ := hk
      exact ⟨A', c', (hfar k hkb).trans h1, key h2⟩
end
/-- 'append([]api.Sight{}, l...)': nothing that was there has changed -/
theorem wp_copyS {ops : Array Oper} {rest : List Oper} {o : Oper} {a : Act} {Q : Exit → Act → World → Prop} {w : World} (hgd : o.guard = none) (s x : Operand)
    (ho : o.op = .call { callee := .builtin .append, args := #[s, x], argTypes := #[56, 56] }) (b : Nat) (B : Option Addr) (c : Nat) (l : List Sg) (base : Nat) (hs : a.eval s = .slice (some ⟨b, 0, none⟩) 0 0) (hx : a.eval x = .slice B l.length c)
    (hl : Sights w B l.length l) (hz : B = none → c = 0) (hn : l.length ≤ 20) (hb : base ≤ w.heap.size)
    (h : ∀ v' w', Below w.heap.size w w' → SrF base l v' w' → wpList Tryd.prog ops Q rest (a.put o.dst v') w') : wpList Tryd.prog ops Q (o :: rest) a w := by
  obtain ⟨i, z, hi, hzz, hsize, hbytes, hzs⟩ := okSight.info
  by_cases h0 : l.length = 0
  · have hl0 : l = [] := List.eq_nil_of_length_eq_zero h0
    subst hl0
    have hk := h (.slice (some ⟨b, 0, none⟩) 0 0) w (Below.refl _ _) ⟨some ⟨b, 0, none⟩, 0, rfl, .inl rfl, Nat.le_refl _, by unfold maxLen; omega, fun h => by cases h⟩
    refine wpList_plain hgd fun K hK => ?_
    have hsrc : Src Tryd.prog i.size 56 (.slice B 0 c) 0 [] w := by
      cases B with
      | none => rw [hz rfl]; exact ⟨.inl ⟨_, okSight.sl⟩, fun w' => rfl, rfl, rfl, by simp, by simp⟩
      | some ad => exact Src.ofSlice w okSight.sl ad 0 c [] (by simp) (fun j u hu => by simp at hu) (by simp)
    have hrun := run_append_nothing (P := Tryd.prog) w 56 56 o.type 42 i okSight.sl hi (some ⟨b, 0, none⟩) 0 0 (Nat.le_refl _) (.slice B 0 c) hsrc
    unfold Oper.wp
    have hx' : a.eval x = .slice B 0 c := hx
    simp [execOp, ho, resolve, invoke, builtin, hs, hx', hrun, Result.andThen]
    exact hK _ _ hk
  · cases B with
    | none =>
      obtain ⟨b', off, hA, _⟩ := hl.2 (by omega)
      cases hA
    | some ad =>
      refine wpList_append_grows (P := Tryd.prog) w hgd s x 56 ho 42 i z 5 32 okSight.sl hi hzz hsize hbytes hzs (by decide) (some ⟨b, 0, none⟩) 0 0 [] hs (fun h => by cases h) rfl (fun b' _ j u hu => by simp at hu) ad l.length c (l.flatMap eSg) hx (flat_len lenSg l) ?_ ?_ (by omega) (by unfold maxLen; omega) (by omega) ?_
      · intro j u hu
        obtain ⟨y, hy, hu2⟩ := flat_at (by decide) lenSg l j u hu
        have hlt := (List.getElem?_eq_some_iff.1 hy).1
        obtain ⟨b', off, hA, hc⟩ := hl.2 (by omega)
        cases hA
        have := hc _ y hy _ u hu2
        rw [Addr.add_lit]
        have e1 : off + j / 5 * 5 + j % 5 = off + j := by rw [Nat.add_assoc, Nat.div_add_mod']
        rw [e1] at this
        exact this
      · intro u hu
        obtain ⟨y, hy, hu2⟩ := List.mem_flatMap.1 hu
        exact one_eSg y u hu2
      · intro v' w' hown hg
        have hown' : OwnS w' w.heap.size v' l := by
          unfold OwnS Own
          have h2 := hown
          rw [Nat.zero_add, List.nil_append] at h2
          exact h2
        obtain ⟨A', c', hv', k1, k2, k3, k4⟩ := own_shape hown' lenSg
        subst hv'
        exact h _ _ ((Below.refl _ _).grown hg (Nat.le_refl _) (fun k hk => by cases hk)) ⟨A', c', rfl, .inr (hown'.mono hb), k2, k3, k4⟩
end Go.Proofs.YtoidaigiejilcaaDoor
