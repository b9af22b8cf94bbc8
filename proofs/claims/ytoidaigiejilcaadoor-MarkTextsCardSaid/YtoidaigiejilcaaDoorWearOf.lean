/- mestakit.Bit, WearOf: wear, whichever. -/
import Derived.Test.YtoidaigiejilcaaDoorHand
namespace Go.Proofs.YtoidaigiejilcaaDoor
open Go.RowKit
set_option linter.unusedVariables false
set_option linter.unusedSimpArgs false

theorem bit_i64 (l p : Nat) (hl : l < 256) (hp : p ≤ 7) : (bits BinOp.and IntKind.i64 ((l : Int) / 2 ^ p) 1 == 1) = l.testBit p := by
  have e2 : (l : Int) / 2 ^ p = ((l / 2 ^ p : Nat) : Int) := by simp
  rw [e2]
  have hle : l / 2 ^ p ≤ l := Nat.div_le_self _ _
  show (IntKind.i64.wrap ((BitVec.ofInt 64 ((l / 2 ^ p : Nat) : Int) &&& BitVec.ofInt 64 ((1 : Nat) : Int)).toNat : Int) == 1) = _
  rw [BitVec.toNat_and, ofInt_u64 _ (by omega), ofInt_u64 1 (by omega), Nat.and_one_is_mod, Nat.testBit_eq_decide_div_mod_eq]
  have h2 := Nat.mod_lt (l / 2 ^ p) (show 0 < 2 by omega)
  rw [IntWalk.i64_in _ (by omega)]
  rw [Bool.eq_iff_iff]
  simp only [beq_iff_eq, decide_eq_true_eq]
  omega
theorem wear_tab : ∀ n : Fin 256, ∀ b : Fin 8, ∀ l r : Bool, onI (n.1 : Int) l r = n.1 → n.1.testBit b.1 = false → ((b.1 < 4 ∧ l = false) ∨ (4 ≤ b.1 ∧ r = false)) → n.1 + 2 ^ b.1 < 256 ∧ popI ((n.1 + 2 ^ b.1 : Nat) : Int) = popI (n.1 : Int) + 1 ∧ onI ((n.1 + 2 ^ b.1 : Nat) : Int) l r = ((n.1 + 2 ^ b.1 : Nat) : Int) := by
  decide +kernel
theorem wear_add {n : Int} {b : Nat} {l r : Bool} (h0 : 0 ≤ n) (h1 : n ≤ 255) (hb : b ≤ 7) (ho : onI n l r = n) (hz : bit n b = false) (he : (b < 4 ∧ l = false) ∨ (4 ≤ b ∧ r = false)) :
    n + (2 ^ b : Nat) ≤ 255 ∧ popI (n + (2 ^ b : Nat)) = popI n + 1 ∧ onI (n + (2 ^ b : Nat)) l r = n + (2 ^ b : Nat) := by
  obtain ⟨k, rfl⟩ := Int.eq_ofNat_of_zero_le h0
  have h := wear_tab ⟨k, by omega⟩ ⟨b, by omega⟩ l r ho (by unfold bit at hz; simpa using hz) he
  have e : ((k : Int) + (2 ^ b : Nat)) = ((k + 2 ^ b : Nat) : Int) := by simp
  rw [e]
  exact ⟨by have := h.1; dsimp only at this; omega, h.2.1, h.2.2⟩
/-- wear that is valid and adds at most so many notches -/
def WearRes (w : World) (H N o : Nat) (e : Ending) (w' : World) : Prop := ∃ s : Sg, e = .returned (vSg s) ∧ seen s 0 0 = 0 ∧ popI s.n ≤ o ∧ Dealt w w' H N
theorem seen_wear {n : Int} {l r : Bool} {b p : Int} (h0 : 0 ≤ n) (h1 : n ≤ 255) (ho : onI n l r = n) (hb : b = 0 ∨ b = -1) (hp : p = 0 ∨ p = -1) : seen ⟨n, l, r, b, p⟩ 0 0 = 0 := by
  unfold seen
  dsimp only
  rw [if_neg (by simp [btw_iff, h0, h1]), if_neg (by simp [ho]), if_neg, if_neg]
  · rcases hp with rfl | rfl <;> simp [btw]
  · rcases hb with rfl | rfl <;> simp [btw]
theorem set5_0 {W : World} {g : Nat} {t : TypeId} {a b c d e z : Value} (h : W.heap[g]? = some (.cells #[a, b, c, d, e] t (0, 0))) : (W.setCell ⟨g, 0, none⟩ z).heap[g]? = some (.cells #[z, b, c, d, e] t (0, 0)) := by
  simp [World.setCell, Array.getElem?_modify, h]
theorem set5_3 {W : World} {g : Nat} {t : TypeId} {a b c d e z : Value} (h : W.heap[g]? = some (.cells #[a, b, c, d, e] t (0, 0))) : (W.setCell ⟨g, 3, none⟩ z).heap[g]? = some (.cells #[a, b, c, z, e] t (0, 0)) := by
  simp [World.setCell, Array.getElem?_modify, h]
theorem set5_4 {W : World} {g : Nat} {t : TypeId} {a b c d e z : Value} (h : W.heap[g]? = some (.cells #[a, b, c, d, e] t (0, 0))) : (W.setCell ⟨g, 4, none⟩ z).heap[g]? = some (.cells #[a, b, c, d, z] t (0, 0)) := by
  simp [World.setCell, Array.getElem?_modify, h]

end Go.Proofs.YtoidaigiejilcaaDoor
