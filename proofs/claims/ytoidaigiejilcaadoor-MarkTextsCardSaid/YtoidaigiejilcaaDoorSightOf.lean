/- mestakit.SightOf: a valid sight, whichever. -/
import Derived.Test.YtoidaigiejilcaaDoorWornK
import Derived.Test.YtoidaigiejilcaaDoorWearOf
import Derived.Test.YtoidaigiejilcaaDoorRegOf
import Derived.Test.YtoidaigiejilcaaDoorLaw
import Derived.Deep.RegionHeld3
namespace Go.Proofs.YtoidaigiejilcaaDoor
open Go.RowKit
set_option linter.unusedVariables false
set_option linter.unusedSimpArgs false

theorem Dealt.cell {w w' : World} {H N : Nat} (h : Dealt w w' H N) {b o : Nat} {v : Value} (hc : w.cell? ⟨b, o, none⟩ = some v) (hne : b ≠ H) : w'.cell? ⟨b, o, none⟩ = some v := h.gr.cell hc (fun e => hne (by simpa using e))
/-- some valid sight -/
def SgRes (w : World) (H N : Nat) (e : Ending) (w' : World) : Prop := ∃ s : Sg, e = .returned (vSg s) ∧ seen s 9 6 = 0 ∧ Dealt w w' H N
theorem sgRes_mono {w w' : World} {H N M : Nat} {e : Ending} (h : SgRes w H N e w') (hM : N ≤ M) : SgRes w H M e w' := by
  obtain ⟨s, h1, h2, h3⟩ := h
  exact ⟨s, h1, h2, h3.mono hM⟩

theorem Dealt.undrew {w w' : World} {H N : Nat} (h : Dealt w.drew w' H N) : Dealt w w' H N := ⟨h.hd, ⟨h.gr.os, h.gr.tape, h.gr.output, h.gr.size, h.gr.block⟩⟩
theorem far5 {w : World} {b g o : Nat} (h : b ≠ g) (x0 x1 x2 x3 x4 : Value) : (((((w.setCell ⟨g, 0, none⟩ x0).setCell ⟨g, 1, none⟩ x1).setCell ⟨g, 2, none⟩ x2).setCell ⟨g, 3, none⟩ x3).setCell ⟨g, 4, none⟩ x4).cell? ⟨b, o, none⟩ = w.cell? ⟨b, o, none⟩ := by
  have e : (((((w.setCell ⟨g, 0, none⟩ x0).setCell ⟨g, 1, none⟩ x1).setCell ⟨g, 2, none⟩ x2).setCell ⟨g, 3, none⟩ x3).setCell ⟨g, 4, none⟩ x4).heap[b]? = w.heap[b]? :=
    (Below.heap_setCell _ ⟨g, 4, none⟩ _ _ h).trans ((Below.heap_setCell _ ⟨g, 3, none⟩ _ _ h).trans ((Below.heap_setCell _ ⟨g, 2, none⟩ _ _ h).trans ((Below.heap_setCell _ ⟨g, 1, none⟩ _ _ h).trans (Below.heap_setCell _ ⟨g, 0, none⟩ _ _ h))))
  unfold World.cell?
  rw [e]
end Go.Proofs.YtoidaigiejilcaaDoor
