/-
  No cell of these rows narrows 'for every input' (looked for: loops, veiled, ifaces, maps, wideKeys, modest, calm, conditions, laid).
  DERIVED. THE GIVEN ROWS OF THIS SEAT. 12 by the template 'for every input the law returns true; each argument reads behind the call as it read before'; 0 by the template 'total and deterministic' (their statements: YtahlicinchehhaaTotals.lean).
  GIVEN WITH THE SEED: the statements are not yours to turn. If you find one false, say at which input.
  Laid BY PROGRAM, IN A SANDBOX (cutbox-rows.mjs): the forced cells as the released guide's own fill.sh prints them over the translation a4e6a947b35afeed… (all of the seat's roots in one cut). By AI agents, Wed Nov 11 2026. No macro, syntax, notation, axiom, sorry.
-/
import Derived.Test.YtahlicinchehhaaChecked
import GoSem.Claim
import GoSem.ClaimJoined
import GoSem.ClaimMapViews
import Derived.JoinedTies
import Derived.KernelRfl
namespace Go.Proofs.Ytahlicinchehhaa
/- THE CELL 'sum', in the pinned program and in every row, IS THE sha256 OF THE DUMP (.gsa) THAT YtahlicinchehhaaProg.lean LOADS. Nothing in Lean hashes anything: it is a label: what it is worth is what the hold of that sum in a sandbox is worth. -/
noncomputable def Try.pinned : Pinned := { name := "ytahlicinchehhaa", sum := "a4e6a947b35afeed827d1bed14c60516a286ba99404c1b2cdee766478adaeb21", checked := Try.checked }
namespace Rows
def none {H : Type} : Left H := { results := [], args := [] }

/-- 'mestalaw03.MarkShows': WHATEVER THE INPUT: true; the input reads as it did. -/
def markShowsSpec : ChangeSpec := { name := "markShows", fn := fun _ => fun
  | [d1, d2, d3, d4, d5] => { results := [.lit (.bool true)], args := [d1, d2, d3, d4, d5] }
  | _ => none }
def markShowsRow : OpenClaim := { program := "ytahlicinchehhaa", sum := "a4e6a947b35afeed827d1bed14c60516a286ba99404c1b2cdee766478adaeb21", func := "mesta/mestalaw03.MarkShows", spec := "markShows", unfollowed := true, recurses := true, plainKeys := false, apart := false }
def MarkShowsSaid : Prop := markShowsRow.holds Try.pinned (OpenSpec.ofChange markShowsSpec)

/-- ITS FALSE NEIGHBOUR: 'it returns false'. Refute it at one input. -/
def markShowsWrong : ChangeSpec := { name := "markShows", fn := fun _ => fun
  | [d1, d2, d3, d4, d5] => { results := [.lit (.bool false)], args := [d1, d2, d3, d4, d5] }
  | _ => none }
def MarkShowsWrongFalsely : Prop := markShowsRow.holds Try.pinned (OpenSpec.ofChange markShowsWrong)

/-- 'mestalaw03.MarkFresh': WHATEVER THE INPUT: true; the input reads as it did. -/
def markFreshSpec : ChangeSpec := { name := "markFresh", fn := fun _ => fun
  | [d1, d2, d3] => { results := [.lit (.bool true)], args := [d1, d2, d3] }
  | _ => none }
def markFreshRow : OpenClaim := { program := "ytahlicinchehhaa", sum := "a4e6a947b35afeed827d1bed14c60516a286ba99404c1b2cdee766478adaeb21", func := "mesta/mestalaw03.MarkFresh", spec := "markFresh", unfollowed := true, recurses := true, plainKeys := false, apart := false }
def MarkFreshSaid : Prop := markFreshRow.holds Try.pinned (OpenSpec.ofChange markFreshSpec)

/-- ITS FALSE NEIGHBOUR: 'it returns false'. Refute it at one input. -/
def markFreshWrong : ChangeSpec := { name := "markFresh", fn := fun _ => fun
  | [d1, d2, d3] => { results := [.lit (.bool false)], args := [d1, d2, d3] }
  | _ => none }
def MarkFreshWrongFalsely : Prop := markFreshRow.holds Try.pinned (OpenSpec.ofChange markFreshWrong)

/-- 'mestalaw03.MarkShown': WHATEVER THE INPUT: true; the input reads as it did. -/
def markShownSpec : ChangeSpec := { name := "markShown", fn := fun _ => fun
  | [d] => { results := [.lit (.bool true)], args := [d] }
  | _ => none }
def markShownRow : OpenClaim := { program := "ytahlicinchehhaa", sum := "a4e6a947b35afeed827d1bed14c60516a286ba99404c1b2cdee766478adaeb21", func := "mesta/mestalaw03.MarkShown", spec := "markShown", unfollowed := true, recurses := true, plainKeys := false, apart := false }
def MarkShownSaid : Prop := markShownRow.holds Try.pinned (OpenSpec.ofChange markShownSpec)

/-- ITS FALSE NEIGHBOUR: 'it returns false'. Refute it at one input. -/
def markShownWrong : ChangeSpec := { name := "markShown", fn := fun _ => fun
  | [d] => { results := [.lit (.bool false)], args := [d] }
  | _ => none }
def MarkShownWrongFalsely : Prop := markShownRow.holds Try.pinned (OpenSpec.ofChange markShownWrong)

/-- 'mestalaw03.MarkSights': WHATEVER THE INPUT: true; the input reads as it did. -/
def markSightsSpec : ChangeSpec := { name := "markSights", fn := fun _ => fun
  | [d] => { results := [.lit (.bool true)], args := [d] }
  | _ => none }
def markSightsRow : OpenClaim := { program := "ytahlicinchehhaa", sum := "a4e6a947b35afeed827d1bed14c60516a286ba99404c1b2cdee766478adaeb21", func := "mesta/mestalaw03.MarkSights", spec := "markSights", unfollowed := true, recurses := true, plainKeys := false, apart := false }
def MarkSightsSaid : Prop := markSightsRow.holds Try.pinned (OpenSpec.ofChange markSightsSpec)

/-- ITS FALSE NEIGHBOUR: 'it returns false'. Refute it at one input. -/
def markSightsWrong : ChangeSpec := { name := "markSights", fn := fun _ => fun
  | [d] => { results := [.lit (.bool false)], args := [d] }
  | _ => none }
def MarkSightsWrongFalsely : Prop := markSightsRow.holds Try.pinned (OpenSpec.ofChange markSightsWrong)

/-- 'mestalaw03.MarkMixes': WHATEVER THE INPUT: true; the input reads as it did. -/
def markMixesSpec : ChangeSpec := { name := "markMixes", fn := fun _ => fun
  | [d1, d2, d3, d4, d5] => { results := [.lit (.bool true)], args := [d1, d2, d3, d4, d5] }
  | _ => none }
def markMixesRow : OpenClaim := { program := "ytahlicinchehhaa", sum := "a4e6a947b35afeed827d1bed14c60516a286ba99404c1b2cdee766478adaeb21", func := "mesta/mestalaw03.MarkMixes", spec := "markMixes", unfollowed := true, recurses := true, plainKeys := false, apart := false }
def MarkMixesSaid : Prop := markMixesRow.holds Try.pinned (OpenSpec.ofChange markMixesSpec)

/-- ITS FALSE NEIGHBOUR: 'it returns false'. Refute it at one input. -/
def markMixesWrong : ChangeSpec := { name := "markMixes", fn := fun _ => fun
  | [d1, d2, d3, d4, d5] => { results := [.lit (.bool false)], args := [d1, d2, d3, d4, d5] }
  | _ => none }
def MarkMixesWrongFalsely : Prop := markMixesRow.holds Try.pinned (OpenSpec.ofChange markMixesWrong)

/-- 'mestalaw03.MarkWorn': WHATEVER THE INPUT: true; the input reads as it did. -/
def markWornSpec : ChangeSpec := { name := "markWorn", fn := fun _ => fun
  | [d] => { results := [.lit (.bool true)], args := [d] }
  | _ => none }
def markWornRow : OpenClaim := { program := "ytahlicinchehhaa", sum := "a4e6a947b35afeed827d1bed14c60516a286ba99404c1b2cdee766478adaeb21", func := "mesta/mestalaw03.MarkWorn", spec := "markWorn", unfollowed := true, recurses := true, plainKeys := false, apart := false }
def MarkWornSaid : Prop := markWornRow.holds Try.pinned (OpenSpec.ofChange markWornSpec)

/-- ITS FALSE NEIGHBOUR: 'it returns false'. Refute it at one input. -/
def markWornWrong : ChangeSpec := { name := "markWorn", fn := fun _ => fun
  | [d] => { results := [.lit (.bool false)], args := [d] }
  | _ => none }
def MarkWornWrongFalsely : Prop := markWornRow.holds Try.pinned (OpenSpec.ofChange markWornWrong)

/-- 'mestalaw03.MarkNew': WHATEVER THE INPUT: true; the input reads as it did. -/
def markNewSpec : ChangeSpec := { name := "markNew", fn := fun _ => fun
  | [d] => { results := [.lit (.bool true)], args := [d] }
  | _ => none }
def markNewRow : OpenClaim := { program := "ytahlicinchehhaa", sum := "a4e6a947b35afeed827d1bed14c60516a286ba99404c1b2cdee766478adaeb21", func := "mesta/mestalaw03.MarkNew", spec := "markNew", unfollowed := true, recurses := true, plainKeys := false, apart := false }
def MarkNewSaid : Prop := markNewRow.holds Try.pinned (OpenSpec.ofChange markNewSpec)

/-- ITS FALSE NEIGHBOUR: 'it returns false'. Refute it at one input. -/
def markNewWrong : ChangeSpec := { name := "markNew", fn := fun _ => fun
  | [d] => { results := [.lit (.bool false)], args := [d] }
  | _ => none }
def MarkNewWrongFalsely : Prop := markNewRow.holds Try.pinned (OpenSpec.ofChange markNewWrong)

/-- 'mestalaw03.MarkMays': WHATEVER THE INPUT: true; the input reads as it did. -/
def markMaysSpec : ChangeSpec := { name := "markMays", fn := fun _ => fun
  | [d1, d2, d3, d4] => { results := [.lit (.bool true)], args := [d1, d2, d3, d4] }
  | _ => none }
def markMaysRow : OpenClaim := { program := "ytahlicinchehhaa", sum := "a4e6a947b35afeed827d1bed14c60516a286ba99404c1b2cdee766478adaeb21", func := "mesta/mestalaw03.MarkMays", spec := "markMays", unfollowed := true, recurses := true, plainKeys := false, apart := false }
def MarkMaysSaid : Prop := markMaysRow.holds Try.pinned (OpenSpec.ofChange markMaysSpec)

/-- ITS FALSE NEIGHBOUR: 'it returns false'. Refute it at one input. -/
def markMaysWrong : ChangeSpec := { name := "markMays", fn := fun _ => fun
  | [d1, d2, d3, d4] => { results := [.lit (.bool false)], args := [d1, d2, d3, d4] }
  | _ => none }
def MarkMaysWrongFalsely : Prop := markMaysRow.holds Try.pinned (OpenSpec.ofChange markMaysWrong)

/-- 'mestalaw03.MarkSure': WHATEVER THE INPUT: true; the input reads as it did. -/
def markSureSpec : ChangeSpec := { name := "markSure", fn := fun _ => fun
  | [d] => { results := [.lit (.bool true)], args := [d] }
  | _ => none }
def markSureRow : OpenClaim := { program := "ytahlicinchehhaa", sum := "a4e6a947b35afeed827d1bed14c60516a286ba99404c1b2cdee766478adaeb21", func := "mesta/mestalaw03.MarkSure", spec := "markSure", unfollowed := true, recurses := true, plainKeys := false, apart := false }
def MarkSureSaid : Prop := markSureRow.holds Try.pinned (OpenSpec.ofChange markSureSpec)

/-- ITS FALSE NEIGHBOUR: 'it returns false'. Refute it at one input. -/
def markSureWrong : ChangeSpec := { name := "markSure", fn := fun _ => fun
  | [d] => { results := [.lit (.bool false)], args := [d] }
  | _ => none }
def MarkSureWrongFalsely : Prop := markSureRow.holds Try.pinned (OpenSpec.ofChange markSureWrong)

/-- 'mestalaw03.MarkHome': WHATEVER THE INPUT: true; the input reads as it did. -/
def markHomeSpec : ChangeSpec := { name := "markHome", fn := fun _ => fun
  | [d] => { results := [.lit (.bool true)], args := [d] }
  | _ => none }
def markHomeRow : OpenClaim := { program := "ytahlicinchehhaa", sum := "a4e6a947b35afeed827d1bed14c60516a286ba99404c1b2cdee766478adaeb21", func := "mesta/mestalaw03.MarkHome", spec := "markHome", unfollowed := true, recurses := true, plainKeys := false, apart := false }
def MarkHomeSaid : Prop := markHomeRow.holds Try.pinned (OpenSpec.ofChange markHomeSpec)

/-- ITS FALSE NEIGHBOUR: 'it returns false'. Refute it at one input. -/
def markHomeWrong : ChangeSpec := { name := "markHome", fn := fun _ => fun
  | [d] => { results := [.lit (.bool false)], args := [d] }
  | _ => none }
def MarkHomeWrongFalsely : Prop := markHomeRow.holds Try.pinned (OpenSpec.ofChange markHomeWrong)

/-- 'mestalaw03.MarkForges': WHATEVER THE INPUT: true; the input reads as it did. -/
def markForgesSpec : ChangeSpec := { name := "markForges", fn := fun _ => fun
  | [d1, d2, d3, d4, d5] => { results := [.lit (.bool true)], args := [d1, d2, d3, d4, d5] }
  | _ => none }
def markForgesRow : OpenClaim := { program := "ytahlicinchehhaa", sum := "a4e6a947b35afeed827d1bed14c60516a286ba99404c1b2cdee766478adaeb21", func := "mesta/mestalaw03.MarkForges", spec := "markForges", unfollowed := true, recurses := true, plainKeys := false, apart := false }
def MarkForgesSaid : Prop := markForgesRow.holds Try.pinned (OpenSpec.ofChange markForgesSpec)

/-- ITS FALSE NEIGHBOUR: 'it returns false'. Refute it at one input. -/
def markForgesWrong : ChangeSpec := { name := "markForges", fn := fun _ => fun
  | [d1, d2, d3, d4, d5] => { results := [.lit (.bool false)], args := [d1, d2, d3, d4, d5] }
  | _ => none }
def MarkForgesWrongFalsely : Prop := markForgesRow.holds Try.pinned (OpenSpec.ofChange markForgesWrong)

/-- 'mestalaw03.MarkForged': WHATEVER THE INPUT: true; the input reads as it did. -/
def markForgedSpec : ChangeSpec := { name := "markForged", fn := fun _ => fun
  | [d] => { results := [.lit (.bool true)], args := [d] }
  | _ => none }
def markForgedRow : OpenClaim := { program := "ytahlicinchehhaa", sum := "a4e6a947b35afeed827d1bed14c60516a286ba99404c1b2cdee766478adaeb21", func := "mesta/mestalaw03.MarkForged", spec := "markForged", unfollowed := true, recurses := true, plainKeys := false, apart := false }
def MarkForgedSaid : Prop := markForgedRow.holds Try.pinned (OpenSpec.ofChange markForgedSpec)

/-- ITS FALSE NEIGHBOUR: 'it returns false'. Refute it at one input. -/
def markForgedWrong : ChangeSpec := { name := "markForged", fn := fun _ => fun
  | [d] => { results := [.lit (.bool false)], args := [d] }
  | _ => none }
def MarkForgedWrongFalsely : Prop := markForgedRow.holds Try.pinned (OpenSpec.ofChange markForgedWrong)

/- THE SECOND FORM. 'bulk': how many values and letters a reading holds, each counted each time it is reached (what is shared counts as often as it is met; a slice's spare places count too). A statement '..UptoSaid' is the law's where the arguments, and the package variables that the reading takes, are together of bulk at most 1048576: NARROWER than '..Said'. Prove '..Said' where nothing that the law and all that it calls make is longer than what came in: it says more and counts as full. Else prove '..UptoSaid'. A law counts once. -/
mutual
def uptoBulk {H : Type} : DataW H → Nat
  | .lit (.string bytes) => bytes.length + 1
  | .lit _ => 1
  | .nil => 1
  | .ptr d => uptoBulk d + 1
  | .slice elems spare => uptoBulkAll elems + uptoBulkAll spare + 1
  | .agg parts => uptoBulkAll parts + 1
  | .iface _ d => uptoBulk d + 1
  | .map entries => uptoBulkEntries entries + 1
  | .held _ => 1
def uptoBulkAll {H : Type} : List (DataW H) → Nat
  | [] => 0
  | d :: r => uptoBulk d + uptoBulkAll r
def uptoBulkEntries {H : Type} : List (Lit × DataW H) → Nat
  | [] => 0
  | x :: r => uptoBulkEntry x + uptoBulkEntries r
def uptoBulkEntry {H : Type} : Lit × DataW H → Nat
  | (.string bytes, d) => bytes.length + uptoBulk d + 1
  | (_, d) => uptoBulk d + 1
 end
def uptoSmall : (H : Type) → List (DataW H) → Bool := fun _ ds => decide (uptoBulkAll ds ≤ 1048576)
def OpenSpec.upto (s : _root_.Go.ChangeSpec) : _root_.Go.OpenSpec := { _root_.Go.OpenSpec.ofChange s with cond := some uptoSmall }

/-- 'mestalaw03.MarkShows', WHERE WHAT IT READS IS OF BULK AT MOST 1048576: true; the input reads as it did. -/
def markShowsUptoRow : OpenClaim := { program := "ytahlicinchehhaa", sum := "a4e6a947b35afeed827d1bed14c60516a286ba99404c1b2cdee766478adaeb21", func := "mesta/mestalaw03.MarkShows", spec := "markShows", unfollowed := true, recurses := true, plainKeys := false, apart := false, narrowed := true }
def MarkShowsUptoSaid : Prop := markShowsUptoRow.holds Try.pinned (OpenSpec.upto markShowsSpec)

/-- 'mestalaw03.MarkFresh', WHERE WHAT IT READS IS OF BULK AT MOST 1048576: true; the input reads as it did. -/
def markFreshUptoRow : OpenClaim := { program := "ytahlicinchehhaa", sum := "a4e6a947b35afeed827d1bed14c60516a286ba99404c1b2cdee766478adaeb21", func := "mesta/mestalaw03.MarkFresh", spec := "markFresh", unfollowed := true, recurses := true, plainKeys := false, apart := false, narrowed := true }
def MarkFreshUptoSaid : Prop := markFreshUptoRow.holds Try.pinned (OpenSpec.upto markFreshSpec)

/-- 'mestalaw03.MarkShown', WHERE WHAT IT READS IS OF BULK AT MOST 1048576: true; the input reads as it did. -/
def markShownUptoRow : OpenClaim := { program := "ytahlicinchehhaa", sum := "a4e6a947b35afeed827d1bed14c60516a286ba99404c1b2cdee766478adaeb21", func := "mesta/mestalaw03.MarkShown", spec := "markShown", unfollowed := true, recurses := true, plainKeys := false, apart := false, narrowed := true }
def MarkShownUptoSaid : Prop := markShownUptoRow.holds Try.pinned (OpenSpec.upto markShownSpec)

/-- 'mestalaw03.MarkSights', WHERE WHAT IT READS IS OF BULK AT MOST 1048576: true; the input reads as it did. -/
def markSightsUptoRow : OpenClaim := { program := "ytahlicinchehhaa", sum := "a4e6a947b35afeed827d1bed14c60516a286ba99404c1b2cdee766478adaeb21", func := "mesta/mestalaw03.MarkSights", spec := "markSights", unfollowed := true, recurses := true, plainKeys := false, apart := false, narrowed := true }
def MarkSightsUptoSaid : Prop := markSightsUptoRow.holds Try.pinned (OpenSpec.upto markSightsSpec)

/-- 'mestalaw03.MarkMixes', WHERE WHAT IT READS IS OF BULK AT MOST 1048576: true; the input reads as it did. -/
def markMixesUptoRow : OpenClaim := { program := "ytahlicinchehhaa", sum := "a4e6a947b35afeed827d1bed14c60516a286ba99404c1b2cdee766478adaeb21", func := "mesta/mestalaw03.MarkMixes", spec := "markMixes", unfollowed := true, recurses := true, plainKeys := false, apart := false, narrowed := true }
def MarkMixesUptoSaid : Prop := markMixesUptoRow.holds Try.pinned (OpenSpec.upto markMixesSpec)

/-- 'mestalaw03.MarkWorn', WHERE WHAT IT READS IS OF BULK AT MOST 1048576: true; the input reads as it did. -/
def markWornUptoRow : OpenClaim := { program := "ytahlicinchehhaa", sum := "a4e6a947b35afeed827d1bed14c60516a286ba99404c1b2cdee766478adaeb21", func := "mesta/mestalaw03.MarkWorn", spec := "markWorn", unfollowed := true, recurses := true, plainKeys := false, apart := false, narrowed := true }
def MarkWornUptoSaid : Prop := markWornUptoRow.holds Try.pinned (OpenSpec.upto markWornSpec)

/-- 'mestalaw03.MarkNew', WHERE WHAT IT READS IS OF BULK AT MOST 1048576: true; the input reads as it did. -/
def markNewUptoRow : OpenClaim := { program := "ytahlicinchehhaa", sum := "a4e6a947b35afeed827d1bed14c60516a286ba99404c1b2cdee766478adaeb21", func := "mesta/mestalaw03.MarkNew", spec := "markNew", unfollowed := true, recurses := true, plainKeys := false, apart := false, narrowed := true }
def MarkNewUptoSaid : Prop := markNewUptoRow.holds Try.pinned (OpenSpec.upto markNewSpec)

/-- 'mestalaw03.MarkMays', WHERE WHAT IT READS IS OF BULK AT MOST 1048576: true; the input reads as it did. -/
def markMaysUptoRow : OpenClaim := { program := "ytahlicinchehhaa", sum := "a4e6a947b35afeed827d1bed14c60516a286ba99404c1b2cdee766478adaeb21", func := "mesta/mestalaw03.MarkMays", spec := "markMays", unfollowed := true, recurses := true, plainKeys := false, apart := false, narrowed := true }
def MarkMaysUptoSaid : Prop := markMaysUptoRow.holds Try.pinned (OpenSpec.upto markMaysSpec)

/-- 'mestalaw03.MarkSure', WHERE WHAT IT READS IS OF BULK AT MOST 1048576: true; the input reads as it did. -/
def markSureUptoRow : OpenClaim := { program := "ytahlicinchehhaa", sum := "a4e6a947b35afeed827d1bed14c60516a286ba99404c1b2cdee766478adaeb21", func := "mesta/mestalaw03.MarkSure", spec := "markSure", unfollowed := true, recurses := true, plainKeys := false, apart := false, narrowed := true }
def MarkSureUptoSaid : Prop := markSureUptoRow.holds Try.pinned (OpenSpec.upto markSureSpec)

/-- 'mestalaw03.MarkHome', WHERE WHAT IT READS IS OF BULK AT MOST 1048576: true; the input reads as it did. -/
def markHomeUptoRow : OpenClaim := { program := "ytahlicinchehhaa", sum := "a4e6a947b35afeed827d1bed14c60516a286ba99404c1b2cdee766478adaeb21", func := "mesta/mestalaw03.MarkHome", spec := "markHome", unfollowed := true, recurses := true, plainKeys := false, apart := false, narrowed := true }
def MarkHomeUptoSaid : Prop := markHomeUptoRow.holds Try.pinned (OpenSpec.upto markHomeSpec)

/-- 'mestalaw03.MarkForges', WHERE WHAT IT READS IS OF BULK AT MOST 1048576: true; the input reads as it did. -/
def markForgesUptoRow : OpenClaim := { program := "ytahlicinchehhaa", sum := "a4e6a947b35afeed827d1bed14c60516a286ba99404c1b2cdee766478adaeb21", func := "mesta/mestalaw03.MarkForges", spec := "markForges", unfollowed := true, recurses := true, plainKeys := false, apart := false, narrowed := true }
def MarkForgesUptoSaid : Prop := markForgesUptoRow.holds Try.pinned (OpenSpec.upto markForgesSpec)

/-- 'mestalaw03.MarkForged', WHERE WHAT IT READS IS OF BULK AT MOST 1048576: true; the input reads as it did. -/
def markForgedUptoRow : OpenClaim := { program := "ytahlicinchehhaa", sum := "a4e6a947b35afeed827d1bed14c60516a286ba99404c1b2cdee766478adaeb21", func := "mesta/mestalaw03.MarkForged", spec := "markForged", unfollowed := true, recurses := true, plainKeys := false, apart := false, narrowed := true }
def MarkForgedUptoSaid : Prop := markForgedUptoRow.holds Try.pinned (OpenSpec.upto markForgedSpec)

end Rows
end Go.Proofs.Ytahlicinchehhaa
