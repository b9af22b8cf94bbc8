/-
  No cell of these rows narrows 'for every input' (looked for: loops, veiled, ifaces, maps, wideKeys, modest, calm, conditions, laid).
  DERIVED. THE GIVEN ROWS OF THIS SEAT. 7 by the template 'for every input the law returns true; each argument reads behind the call as it read before'; 0 by the template 'total and deterministic' (their statements: YtmennjmjakdkcaaTotals.lean).
  GIVEN WITH THE SEED: the statements are not yours to turn. If you find one false, say at which input.
  Laid BY PROGRAM, IN A SANDBOX (cutbox-rows.mjs): the forced cells as the released guide's own fill.sh prints them over the translation f222f33f11630be6… (all of the seat's roots in one cut). By AI agents, Wed Nov 11 2026. No macro, syntax, notation, axiom, sorry.
-/
import Derived.Test.YtmennjmjakdkcaaChecked
import GoSem.Claim
import GoSem.ClaimJoined
import GoSem.ClaimMapViews
import Derived.JoinedTies
import Derived.KernelRfl
namespace Go.Proofs.Ytmennjmjakdkcaa
/- THE CELL 'sum', in the pinned program and in every row, IS THE sha256 OF THE DUMP (.gsa) THAT YtmennjmjakdkcaaProg.lean LOADS. Nothing in Lean hashes anything: it is a label: what it is worth is what the hold of that sum in a sandbox is worth. -/
noncomputable def Try.pinned : Pinned := { name := "ytmennjmjakdkcaa", sum := "f222f33f11630be678ce6ed7d3c894f60954efd4322d0a52711a4c810b566c8b", checked := Try.checked }
namespace Rows
def none {H : Type} : Left H := { results := [], args := [] }

/-- 'mestatop.TopStrays': WHATEVER THE INPUT: true; the input reads as it did. -/
def topStraysSpec : ChangeSpec := { name := "topStrays", fn := fun _ => fun
  | [d] => { results := [.lit (.bool true)], args := [d] }
  | _ => none }
def topStraysRow : OpenClaim := { program := "ytmennjmjakdkcaa", sum := "f222f33f11630be678ce6ed7d3c894f60954efd4322d0a52711a4c810b566c8b", func := "mesta/mestatop.TopStrays", spec := "topStrays", unfollowed := true, recurses := true, plainKeys := false, apart := false }
def TopStraysSaid : Prop := topStraysRow.holds Try.pinned (OpenSpec.ofChange topStraysSpec)

/-- ITS FALSE NEIGHBOUR: 'it returns false'. Refute it at one input. -/
def topStraysWrong : ChangeSpec := { name := "topStrays", fn := fun _ => fun
  | [d] => { results := [.lit (.bool false)], args := [d] }
  | _ => none }
def TopStraysWrongFalsely : Prop := topStraysRow.holds Try.pinned (OpenSpec.ofChange topStraysWrong)

/-- 'mestalaw09.HerdWhose': WHATEVER THE INPUT: true; the input reads as it did. -/
def herdWhoseSpec : ChangeSpec := { name := "herdWhose", fn := fun _ => fun
  | [d] => { results := [.lit (.bool true)], args := [d] }
  | _ => none }
def herdWhoseRow : OpenClaim := { program := "ytmennjmjakdkcaa", sum := "f222f33f11630be678ce6ed7d3c894f60954efd4322d0a52711a4c810b566c8b", func := "mesta/mestalaw09.HerdWhose", spec := "herdWhose", unfollowed := true, recurses := true, plainKeys := false, apart := false }
def HerdWhoseSaid : Prop := herdWhoseRow.holds Try.pinned (OpenSpec.ofChange herdWhoseSpec)

/-- ITS FALSE NEIGHBOUR: 'it returns false'. Refute it at one input. -/
def herdWhoseWrong : ChangeSpec := { name := "herdWhose", fn := fun _ => fun
  | [d] => { results := [.lit (.bool false)], args := [d] }
  | _ => none }
def HerdWhoseWrongFalsely : Prop := herdWhoseRow.holds Try.pinned (OpenSpec.ofChange herdWhoseWrong)

/-- 'mestalaw09.HerdParted': WHATEVER THE INPUT: true; the input reads as it did. -/
def herdPartedSpec : ChangeSpec := { name := "herdParted", fn := fun _ => fun
  | [d] => { results := [.lit (.bool true)], args := [d] }
  | _ => none }
def herdPartedRow : OpenClaim := { program := "ytmennjmjakdkcaa", sum := "f222f33f11630be678ce6ed7d3c894f60954efd4322d0a52711a4c810b566c8b", func := "mesta/mestalaw09.HerdParted", spec := "herdParted", unfollowed := true, recurses := true, plainKeys := false, apart := false }
def HerdPartedSaid : Prop := herdPartedRow.holds Try.pinned (OpenSpec.ofChange herdPartedSpec)

/-- ITS FALSE NEIGHBOUR: 'it returns false'. Refute it at one input. -/
def herdPartedWrong : ChangeSpec := { name := "herdParted", fn := fun _ => fun
  | [d] => { results := [.lit (.bool false)], args := [d] }
  | _ => none }
def HerdPartedWrongFalsely : Prop := herdPartedRow.holds Try.pinned (OpenSpec.ofChange herdPartedWrong)

/-- 'mestalaw09.HerdGiven': WHATEVER THE INPUT: true; the input reads as it did. -/
def herdGivenSpec : ChangeSpec := { name := "herdGiven", fn := fun _ => fun
  | [d] => { results := [.lit (.bool true)], args := [d] }
  | _ => none }
def herdGivenRow : OpenClaim := { program := "ytmennjmjakdkcaa", sum := "f222f33f11630be678ce6ed7d3c894f60954efd4322d0a52711a4c810b566c8b", func := "mesta/mestalaw09.HerdGiven", spec := "herdGiven", unfollowed := true, recurses := true, plainKeys := false, apart := false }
def HerdGivenSaid : Prop := herdGivenRow.holds Try.pinned (OpenSpec.ofChange herdGivenSpec)

/-- ITS FALSE NEIGHBOUR: 'it returns false'. Refute it at one input. -/
def herdGivenWrong : ChangeSpec := { name := "herdGiven", fn := fun _ => fun
  | [d] => { results := [.lit (.bool false)], args := [d] }
  | _ => none }
def HerdGivenWrongFalsely : Prop := herdGivenRow.holds Try.pinned (OpenSpec.ofChange herdGivenWrong)

/-- 'mestalaw09.HerdEntered': WHATEVER THE INPUT: true; the input reads as it did. -/
def herdEnteredSpec : ChangeSpec := { name := "herdEntered", fn := fun _ => fun
  | [d] => { results := [.lit (.bool true)], args := [d] }
  | _ => none }
def herdEnteredRow : OpenClaim := { program := "ytmennjmjakdkcaa", sum := "f222f33f11630be678ce6ed7d3c894f60954efd4322d0a52711a4c810b566c8b", func := "mesta/mestalaw09.HerdEntered", spec := "herdEntered", unfollowed := true, recurses := true, plainKeys := false, apart := false }
def HerdEnteredSaid : Prop := herdEnteredRow.holds Try.pinned (OpenSpec.ofChange herdEnteredSpec)

/-- ITS FALSE NEIGHBOUR: 'it returns false'. Refute it at one input. -/
def herdEnteredWrong : ChangeSpec := { name := "herdEntered", fn := fun _ => fun
  | [d] => { results := [.lit (.bool false)], args := [d] }
  | _ => none }
def HerdEnteredWrongFalsely : Prop := herdEnteredRow.holds Try.pinned (OpenSpec.ofChange herdEnteredWrong)

/-- 'mestalaw09.HerdConserved': WHATEVER THE INPUT: true; the input reads as it did. -/
def herdConservedSpec : ChangeSpec := { name := "herdConserved", fn := fun _ => fun
  | [d] => { results := [.lit (.bool true)], args := [d] }
  | _ => none }
def herdConservedRow : OpenClaim := { program := "ytmennjmjakdkcaa", sum := "f222f33f11630be678ce6ed7d3c894f60954efd4322d0a52711a4c810b566c8b", func := "mesta/mestalaw09.HerdConserved", spec := "herdConserved", unfollowed := true, recurses := true, plainKeys := false, apart := false }
def HerdConservedSaid : Prop := herdConservedRow.holds Try.pinned (OpenSpec.ofChange herdConservedSpec)

/-- ITS FALSE NEIGHBOUR: 'it returns false'. Refute it at one input. -/
def herdConservedWrong : ChangeSpec := { name := "herdConserved", fn := fun _ => fun
  | [d] => { results := [.lit (.bool false)], args := [d] }
  | _ => none }
def HerdConservedWrongFalsely : Prop := herdConservedRow.holds Try.pinned (OpenSpec.ofChange herdConservedWrong)

/-- 'mestalaw09.HerdRenamed': WHATEVER THE INPUT: true; the input reads as it did. -/
def herdRenamedSpec : ChangeSpec := { name := "herdRenamed", fn := fun _ => fun
  | [d] => { results := [.lit (.bool true)], args := [d] }
  | _ => none }
def herdRenamedRow : OpenClaim := { program := "ytmennjmjakdkcaa", sum := "f222f33f11630be678ce6ed7d3c894f60954efd4322d0a52711a4c810b566c8b", func := "mesta/mestalaw09.HerdRenamed", spec := "herdRenamed", unfollowed := true, recurses := true, plainKeys := false, apart := false }
def HerdRenamedSaid : Prop := herdRenamedRow.holds Try.pinned (OpenSpec.ofChange herdRenamedSpec)

/-- ITS FALSE NEIGHBOUR: 'it returns false'. Refute it at one input. -/
def herdRenamedWrong : ChangeSpec := { name := "herdRenamed", fn := fun _ => fun
  | [d] => { results := [.lit (.bool false)], args := [d] }
  | _ => none }
def HerdRenamedWrongFalsely : Prop := herdRenamedRow.holds Try.pinned (OpenSpec.ofChange herdRenamedWrong)

/- THE SECOND FORM. 'bulk': how many values and letters a reading holds, each counted each time it is reached (what is shared counts as often as it is met; a slice's spare places count too). A statement '..UptoSaid' is the law's where the arguments, and the package variables that the reading takes, are together of bulk at most 1048576: NARROWER than '..Said'. Prove '..Said' where nothing that the law and all that it calls make is longer than what came in: it says more and counts as full. Else prove '..UptoSaid'. A law counts once. -/
mutual
def uptoBulk {H : Type} : DataW H → Nat
  | .lit (.string bytes) => bytes.length + 1
  | .lit _ => 1
  | .nil => 1
  | .ptr d => uptoBulk d + 1
  | .slice elems spare => uptoBulkAll elems + uptoBulkAll spare + 1
  | .agg parts => uptoBulkAll parts + 1
  | .iface _ d => uptoBulk d + 1
  | .map entries => uptoBulkEntries entries + 1
  | .held _ => 1
def uptoBulkAll {H : Type} : List (DataW H) → Nat
  | [] => 0
  | d :: r => uptoBulk d + uptoBulkAll r
def uptoBulkEntries {H : Type} : List (Lit × DataW H) → Nat
  | [] => 0
  | x :: r => uptoBulkEntry x + uptoBulkEntries r
def uptoBulkEntry {H : Type} : Lit × DataW H → Nat
  | (.string bytes, d) => bytes.length + uptoBulk d + 1
  | (_, d) => uptoBulk d + 1
 end
def uptoSmall : (H : Type) → List (DataW H) → Bool := fun _ ds => decide (uptoBulkAll ds ≤ 1048576)
def OpenSpec.upto (s : _root_.Go.ChangeSpec) : _root_.Go.OpenSpec := { _root_.Go.OpenSpec.ofChange s with cond := some uptoSmall }

/-- 'mestatop.TopStrays', WHERE WHAT IT READS IS OF BULK AT MOST 1048576: true; the input reads as it did. -/
def topStraysUptoRow : OpenClaim := { program := "ytmennjmjakdkcaa", sum := "f222f33f11630be678ce6ed7d3c894f60954efd4322d0a52711a4c810b566c8b", func := "mesta/mestatop.TopStrays", spec := "topStrays", unfollowed := true, recurses := true, plainKeys := false, apart := false, narrowed := true }
def TopStraysUptoSaid : Prop := topStraysUptoRow.holds Try.pinned (OpenSpec.upto topStraysSpec)

/-- 'mestalaw09.HerdWhose', WHERE WHAT IT READS IS OF BULK AT MOST 1048576: true; the input reads as it did. -/
def herdWhoseUptoRow : OpenClaim := { program := "ytmennjmjakdkcaa", sum := "f222f33f11630be678ce6ed7d3c894f60954efd4322d0a52711a4c810b566c8b", func := "mesta/mestalaw09.HerdWhose", spec := "herdWhose", unfollowed := true, recurses := true, plainKeys := false, apart := false, narrowed := true }
def HerdWhoseUptoSaid : Prop := herdWhoseUptoRow.holds Try.pinned (OpenSpec.upto herdWhoseSpec)

/-- 'mestalaw09.HerdParted', WHERE WHAT IT READS IS OF BULK AT MOST 1048576: true; the input reads as it did. -/
def herdPartedUptoRow : OpenClaim := { program := "ytmennjmjakdkcaa", sum := "f222f33f11630be678ce6ed7d3c894f60954efd4322d0a52711a4c810b566c8b", func := "mesta/mestalaw09.HerdParted", spec := "herdParted", unfollowed := true, recurses := true, plainKeys := false, apart := false, narrowed := true }
def HerdPartedUptoSaid : Prop := herdPartedUptoRow.holds Try.pinned (OpenSpec.upto herdPartedSpec)

/-- 'mestalaw09.HerdGiven', WHERE WHAT IT READS IS OF BULK AT MOST 1048576: true; the input reads as it did. -/
def herdGivenUptoRow : OpenClaim := { program := "ytmennjmjakdkcaa", sum := "f222f33f11630be678ce6ed7d3c894f60954efd4322d0a52711a4c810b566c8b", func := "mesta/mestalaw09.HerdGiven", spec := "herdGiven", unfollowed := true, recurses := true, plainKeys := false, apart := false, narrowed := true }
def HerdGivenUptoSaid : Prop := herdGivenUptoRow.holds Try.pinned (OpenSpec.upto herdGivenSpec)

/-- 'mestalaw09.HerdEntered', WHERE WHAT IT READS IS OF BULK AT MOST 1048576: true; the input reads as it did. -/
def herdEnteredUptoRow : OpenClaim := { program := "ytmennjmjakdkcaa", sum := "f222f33f11630be678ce6ed7d3c894f60954efd4322d0a52711a4c810b566c8b", func := "mesta/mestalaw09.HerdEntered", spec := "herdEntered", unfollowed := true, recurses := true, plainKeys := false, apart := false, narrowed := true }
def HerdEnteredUptoSaid : Prop := herdEnteredUptoRow.holds Try.pinned (OpenSpec.upto herdEnteredSpec)

/-- 'mestalaw09.HerdConserved', WHERE WHAT IT READS IS OF BULK AT MOST 1048576: true; the input reads as it did. -/
def herdConservedUptoRow : OpenClaim := { program := "ytmennjmjakdkcaa", sum := "f222f33f11630be678ce6ed7d3c894f60954efd4322d0a52711a4c810b566c8b", func := "mesta/mestalaw09.HerdConserved", spec := "herdConserved", unfollowed := true, recurses := true, plainKeys := false, apart := false, narrowed := true }
def HerdConservedUptoSaid : Prop := herdConservedUptoRow.holds Try.pinned (OpenSpec.upto herdConservedSpec)

/-- 'mestalaw09.HerdRenamed', WHERE WHAT IT READS IS OF BULK AT MOST 1048576: true; the input reads as it did. -/
def herdRenamedUptoRow : OpenClaim := { program := "ytmennjmjakdkcaa", sum := "f222f33f11630be678ce6ed7d3c894f60954efd4322d0a52711a4c810b566c8b", func := "mesta/mestalaw09.HerdRenamed", spec := "herdRenamed", unfollowed := true, recurses := true, plainKeys := false, apart := false, narrowed := true }
def HerdRenamedUptoSaid : Prop := herdRenamedUptoRow.holds Try.pinned (OpenSpec.upto herdRenamedSpec)

end Rows
end Go.Proofs.Ytmennjmjakdkcaa
