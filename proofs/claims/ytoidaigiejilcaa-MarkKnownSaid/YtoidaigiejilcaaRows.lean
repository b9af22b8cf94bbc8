/-
  No cell of these rows narrows 'for every input' (looked for: loops, veiled, ifaces, maps, wideKeys, modest, calm, conditions, laid).
  DERIVED. THE GIVEN ROWS OF THIS SEAT. 6 by the template 'for every input the law returns true; each argument reads behind the call as it read before'; 0 by the template 'total and deterministic' (their statements: YtoidaigiejilcaaTotals.lean).
  GIVEN WITH THE SEED: the statements are not yours to turn. If you find one false, say at which input.
  Laid BY PROGRAM, IN A SANDBOX (cutbox-rows.mjs): the forced cells as the released guide's own fill.sh prints them over the translation a547284c080f5fc1… (all of the seat's roots in one cut). By AI agents, Wed Nov 11 2026. No macro, syntax, notation, axiom, sorry.
-/
import Derived.Test.YtoidaigiejilcaaChecked
import GoSem.Claim
import GoSem.ClaimJoined
import GoSem.ClaimMapViews
import Derived.JoinedTies
import Derived.KernelRfl
namespace Go.Proofs.Ytoidaigiejilcaa
/- THE CELL 'sum', in the pinned program and in every row, IS THE sha256 OF THE DUMP (.gsa) THAT YtoidaigiejilcaaProg.lean LOADS. Nothing in Lean hashes anything: it is a label: what it is worth is what the hold of that sum in a sandbox is worth. -/
noncomputable def Try.pinned : Pinned := { name := "ytoidaigiejilcaa", sum := "a547284c080f5fc12084691da011e58c0642370160942a2cd15a76ee42fb5979", checked := Try.checked }
namespace Rows
def none {H : Type} : Left H := { results := [], args := [] }

/-- 'mestalaw03.MarkLeft': WHATEVER THE INPUT: true; the input reads as it did. -/
def markLeftSpec : ChangeSpec := { name := "markLeft", fn := fun _ => fun
  | [d] => { results := [.lit (.bool true)], args := [d] }
  | _ => none }
def markLeftRow : OpenClaim := { program := "ytoidaigiejilcaa", sum := "a547284c080f5fc12084691da011e58c0642370160942a2cd15a76ee42fb5979", func := "mesta/mestalaw03.MarkLeft", spec := "markLeft", unfollowed := true, recurses := true, plainKeys := false, apart := false }
def MarkLeftSaid : Prop := markLeftRow.holds Try.pinned (OpenSpec.ofChange markLeftSpec)

/-- ITS FALSE NEIGHBOUR: 'it returns false'. Refute it at one input. -/
def markLeftWrong : ChangeSpec := { name := "markLeft", fn := fun _ => fun
  | [d] => { results := [.lit (.bool false)], args := [d] }
  | _ => none }
def MarkLeftWrongFalsely : Prop := markLeftRow.holds Try.pinned (OpenSpec.ofChange markLeftWrong)

/-- 'mestalaw03.MarkShort': WHATEVER THE INPUT: true; the input reads as it did. -/
def markShortSpec : ChangeSpec := { name := "markShort", fn := fun _ => fun
  | [d] => { results := [.lit (.bool true)], args := [d] }
  | _ => none }
def markShortRow : OpenClaim := { program := "ytoidaigiejilcaa", sum := "a547284c080f5fc12084691da011e58c0642370160942a2cd15a76ee42fb5979", func := "mesta/mestalaw03.MarkShort", spec := "markShort", unfollowed := true, recurses := true, plainKeys := false, apart := false }
def MarkShortSaid : Prop := markShortRow.holds Try.pinned (OpenSpec.ofChange markShortSpec)

/-- ITS FALSE NEIGHBOUR: 'it returns false'. Refute it at one input. -/
def markShortWrong : ChangeSpec := { name := "markShort", fn := fun _ => fun
  | [d] => { results := [.lit (.bool false)], args := [d] }
  | _ => none }
def MarkShortWrongFalsely : Prop := markShortRow.holds Try.pinned (OpenSpec.ofChange markShortWrong)

/-- 'mestatop.TopStrays': WHATEVER THE INPUT: true; the input reads as it did. -/
def topStraysSpec : ChangeSpec := { name := "topStrays", fn := fun _ => fun
  | [d] => { results := [.lit (.bool true)], args := [d] }
  | _ => none }
def topStraysRow : OpenClaim := { program := "ytoidaigiejilcaa", sum := "a547284c080f5fc12084691da011e58c0642370160942a2cd15a76ee42fb5979", func := "mesta/mestatop.TopStrays", spec := "topStrays", unfollowed := true, recurses := true, plainKeys := false, apart := false }
def TopStraysSaid : Prop := topStraysRow.holds Try.pinned (OpenSpec.ofChange topStraysSpec)

/-- ITS FALSE NEIGHBOUR: 'it returns false'. Refute it at one input. -/
def topStraysWrong : ChangeSpec := { name := "topStrays", fn := fun _ => fun
  | [d] => { results := [.lit (.bool false)], args := [d] }
  | _ => none }
def TopStraysWrongFalsely : Prop := topStraysRow.holds Try.pinned (OpenSpec.ofChange topStraysWrong)

/-- 'mestalaw03.MarkFound': WHATEVER THE INPUT: true; the input reads as it did. -/
def markFoundSpec : ChangeSpec := { name := "markFound", fn := fun _ => fun
  | [d] => { results := [.lit (.bool true)], args := [d] }
  | _ => none }
def markFoundRow : OpenClaim := { program := "ytoidaigiejilcaa", sum := "a547284c080f5fc12084691da011e58c0642370160942a2cd15a76ee42fb5979", func := "mesta/mestalaw03.MarkFound", spec := "markFound", unfollowed := true, recurses := true, plainKeys := false, apart := false }
def MarkFoundSaid : Prop := markFoundRow.holds Try.pinned (OpenSpec.ofChange markFoundSpec)

/-- ITS FALSE NEIGHBOUR: 'it returns false'. Refute it at one input. -/
def markFoundWrong : ChangeSpec := { name := "markFound", fn := fun _ => fun
  | [d] => { results := [.lit (.bool false)], args := [d] }
  | _ => none }
def MarkFoundWrongFalsely : Prop := markFoundRow.holds Try.pinned (OpenSpec.ofChange markFoundWrong)

/-- 'mestalaw03.MarkGives': WHATEVER THE INPUT: true; the input reads as it did. -/
def markGivesSpec : ChangeSpec := { name := "markGives", fn := fun _ => fun
  | [d1, d2, d3, d4] => { results := [.lit (.bool true)], args := [d1, d2, d3, d4] }
  | _ => none }
def markGivesRow : OpenClaim := { program := "ytoidaigiejilcaa", sum := "a547284c080f5fc12084691da011e58c0642370160942a2cd15a76ee42fb5979", func := "mesta/mestalaw03.MarkGives", spec := "markGives", unfollowed := true, recurses := true, plainKeys := false, apart := false }
def MarkGivesSaid : Prop := markGivesRow.holds Try.pinned (OpenSpec.ofChange markGivesSpec)

/-- ITS FALSE NEIGHBOUR: 'it returns false'. Refute it at one input. -/
def markGivesWrong : ChangeSpec := { name := "markGives", fn := fun _ => fun
  | [d1, d2, d3, d4] => { results := [.lit (.bool false)], args := [d1, d2, d3, d4] }
  | _ => none }
def MarkGivesWrongFalsely : Prop := markGivesRow.holds Try.pinned (OpenSpec.ofChange markGivesWrong)

/-- 'mestalaw03.MarkKnown': WHATEVER THE INPUT: true; the input reads as it did. -/
def markKnownSpec : ChangeSpec := { name := "markKnown", fn := fun _ => fun
  | [] => { results := [.lit (.bool true)], args := [] }
  | _ => none }
def markKnownRow : OpenClaim := { program := "ytoidaigiejilcaa", sum := "a547284c080f5fc12084691da011e58c0642370160942a2cd15a76ee42fb5979", func := "mesta/mestalaw03.MarkKnown", spec := "markKnown", unfollowed := true, recurses := true, plainKeys := false, apart := false }
def MarkKnownSaid : Prop := markKnownRow.holds Try.pinned (OpenSpec.ofChange markKnownSpec)

/-- ITS FALSE NEIGHBOUR: 'it returns false'. Refute it at one input. -/
def markKnownWrong : ChangeSpec := { name := "markKnown", fn := fun _ => fun
  | [] => { results := [.lit (.bool false)], args := [] }
  | _ => none }
def MarkKnownWrongFalsely : Prop := markKnownRow.holds Try.pinned (OpenSpec.ofChange markKnownWrong)

/- THE SECOND FORM. 'bulk': how many values and letters a reading holds, each counted each time it is reached (what is shared counts as often as it is met; a slice's spare places count too). A statement '..UptoSaid' is the law's where the arguments, and the package variables that the reading takes, are together of bulk at most 1048576: NARROWER than '..Said'. Prove '..Said' where nothing that the law and all that it calls make is longer than what came in: it says more and counts as full. Else prove '..UptoSaid'. A law counts once. -/
mutual
def uptoBulk {H : Type} : DataW H → Nat
  | .lit (.string bytes) => bytes.length + 1
  | .lit _ => 1
  | .nil => 1
  | .ptr d => uptoBulk d + 1
  | .slice elems spare => uptoBulkAll elems + uptoBulkAll spare + 1
  | .agg parts => uptoBulkAll parts + 1
  | .iface _ d => uptoBulk d + 1
  | .map entries => uptoBulkEntries entries + 1
  | .held _ => 1
def uptoBulkAll {H : Type} : List (DataW H) → Nat
  | [] => 0
  | d :: r => uptoBulk d + uptoBulkAll r
def uptoBulkEntries {H : Type} : List (Lit × DataW H) → Nat
  | [] => 0
  | x :: r => uptoBulkEntry x + uptoBulkEntries r
def uptoBulkEntry {H : Type} : Lit × DataW H → Nat
  | (.string bytes, d) => bytes.length + uptoBulk d + 1
  | (_, d) => uptoBulk d + 1
 end
def uptoSmall : (H : Type) → List (DataW H) → Bool := fun _ ds => decide (uptoBulkAll ds ≤ 1048576)
def OpenSpec.upto (s : _root_.Go.ChangeSpec) : _root_.Go.OpenSpec := { _root_.Go.OpenSpec.ofChange s with cond := some uptoSmall }

/-- 'mestalaw03.MarkLeft', WHERE WHAT IT READS IS OF BULK AT MOST 1048576: true; the input reads as it did. -/
def markLeftUptoRow : OpenClaim := { program := "ytoidaigiejilcaa", sum := "a547284c080f5fc12084691da011e58c0642370160942a2cd15a76ee42fb5979", func := "mesta/mestalaw03.MarkLeft", spec := "markLeft", unfollowed := true, recurses := true, plainKeys := false, apart := false, narrowed := true }
def MarkLeftUptoSaid : Prop := markLeftUptoRow.holds Try.pinned (OpenSpec.upto markLeftSpec)

/-- 'mestalaw03.MarkShort', WHERE WHAT IT READS IS OF BULK AT MOST 1048576: true; the input reads as it did. -/
def markShortUptoRow : OpenClaim := { program := "ytoidaigiejilcaa", sum := "a547284c080f5fc12084691da011e58c0642370160942a2cd15a76ee42fb5979", func := "mesta/mestalaw03.MarkShort", spec := "markShort", unfollowed := true, recurses := true, plainKeys := false, apart := false, narrowed := true }
def MarkShortUptoSaid : Prop := markShortUptoRow.holds Try.pinned (OpenSpec.upto markShortSpec)

/-- 'mestatop.TopStrays', WHERE WHAT IT READS IS OF BULK AT MOST 1048576: true; the input reads as it did. -/
def topStraysUptoRow : OpenClaim := { program := "ytoidaigiejilcaa", sum := "a547284c080f5fc12084691da011e58c0642370160942a2cd15a76ee42fb5979", func := "mesta/mestatop.TopStrays", spec := "topStrays", unfollowed := true, recurses := true, plainKeys := false, apart := false, narrowed := true }
def TopStraysUptoSaid : Prop := topStraysUptoRow.holds Try.pinned (OpenSpec.upto topStraysSpec)

/-- 'mestalaw03.MarkFound', WHERE WHAT IT READS IS OF BULK AT MOST 1048576: true; the input reads as it did. -/
def markFoundUptoRow : OpenClaim := { program := "ytoidaigiejilcaa", sum := "a547284c080f5fc12084691da011e58c0642370160942a2cd15a76ee42fb5979", func := "mesta/mestalaw03.MarkFound", spec := "markFound", unfollowed := true, recurses := true, plainKeys := false, apart := false, narrowed := true }
def MarkFoundUptoSaid : Prop := markFoundUptoRow.holds Try.pinned (OpenSpec.upto markFoundSpec)

/-- 'mestalaw03.MarkGives', WHERE WHAT IT READS IS OF BULK AT MOST 1048576: true; the input reads as it did. -/
def markGivesUptoRow : OpenClaim := { program := "ytoidaigiejilcaa", sum := "a547284c080f5fc12084691da011e58c0642370160942a2cd15a76ee42fb5979", func := "mesta/mestalaw03.MarkGives", spec := "markGives", unfollowed := true, recurses := true, plainKeys := false, apart := false, narrowed := true }
def MarkGivesUptoSaid : Prop := markGivesUptoRow.holds Try.pinned (OpenSpec.upto markGivesSpec)

/-- 'mestalaw03.MarkKnown', WHERE WHAT IT READS IS OF BULK AT MOST 1048576: true; the input reads as it did. -/
def markKnownUptoRow : OpenClaim := { program := "ytoidaigiejilcaa", sum := "a547284c080f5fc12084691da011e58c0642370160942a2cd15a76ee42fb5979", func := "mesta/mestalaw03.MarkKnown", spec := "markKnown", unfollowed := true, recurses := true, plainKeys := false, apart := false, narrowed := true }
def MarkKnownUptoSaid : Prop := markKnownUptoRow.holds Try.pinned (OpenSpec.upto markKnownSpec)

end Rows
end Go.Proofs.Ytoidaigiejilcaa
