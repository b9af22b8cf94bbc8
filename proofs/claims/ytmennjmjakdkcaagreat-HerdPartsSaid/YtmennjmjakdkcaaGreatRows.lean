/-
  No cell of these rows narrows 'for every input' (looked for: loops, veiled, ifaces, maps, wideKeys, modest, calm, conditions, laid).
  DERIVED. THE GIVEN ROWS OF THIS SEAT. 4 by the template 'for every input the law returns true; each argument reads behind the call as it read before'; 0 by the template 'total and deterministic' (their statements: YtmennjmjakdkcaaGreatTotals.lean).
  GIVEN WITH THE SEED: the statements are not yours to turn. If you find one false, say at which input.
  Laid BY PROGRAM, IN A SANDBOX (cutbox-rows.mjs): the forced cells as the released guide's own fill.sh prints them over the translation 8b1af4f790697f84… (all of the seat's roots in one cut). By AI agents, Wed Nov 11 2026. No macro, syntax, notation, axiom, sorry.
-/
import Derived.Test.YtmennjmjakdkcaaGreatChecked
import GoSem.Claim
import GoSem.ClaimJoined
import GoSem.ClaimMapViews
import Derived.JoinedTies
import Derived.KernelRfl
namespace Go.Proofs.YtmennjmjakdkcaaGreat
/- THE CELL 'sum', in the pinned program and in every row, IS THE sha256 OF THE DUMP (.gsa) THAT YtmennjmjakdkcaaGreatProg.lean LOADS. Nothing in Lean hashes anything: it is a label: what it is worth is what the hold of that sum in a sandbox is worth. -/
noncomputable def Tryz.pinned : Pinned := { name := "ytmennjmjakdkcaagreat", sum := "8b1af4f790697f8490ab96145d1bf6eaca7f11a0f22be2ac8e443c6fb1029c26", checked := Tryz.checked }
namespace Rows
def none {H : Type} : Left H := { results := [], args := [] }

/-- 'mestalaw09.HerdChecks': WHATEVER THE INPUT: true; the input reads as it did. -/
def herdChecksSpec : ChangeSpec := { name := "herdChecks", fn := fun _ => fun
  | [d1, d2, d3, d4] => { results := [.lit (.bool true)], args := [d1, d2, d3, d4] }
  | _ => none }
def herdChecksRow : OpenClaim := { program := "ytmennjmjakdkcaagreat", sum := "8b1af4f790697f8490ab96145d1bf6eaca7f11a0f22be2ac8e443c6fb1029c26", func := "mesta/mestalaw09.HerdChecks", spec := "herdChecks", unfollowed := true, recurses := true, plainKeys := false, apart := false }
def HerdChecksSaid : Prop := herdChecksRow.holds Tryz.pinned (OpenSpec.ofChange herdChecksSpec)

/-- ITS FALSE NEIGHBOUR: 'it returns false'. Refute it at one input. -/
def herdChecksWrong : ChangeSpec := { name := "herdChecks", fn := fun _ => fun
  | [d1, d2, d3, d4] => { results := [.lit (.bool false)], args := [d1, d2, d3, d4] }
  | _ => none }
def HerdChecksWrongFalsely : Prop := herdChecksRow.holds Tryz.pinned (OpenSpec.ofChange herdChecksWrong)

/-- 'mestalaw09.HerdParts': WHATEVER THE INPUT: true; the input reads as it did. -/
def herdPartsSpec : ChangeSpec := { name := "herdParts", fn := fun _ => fun
  | [d1, d2, d3, d4, d5] => { results := [.lit (.bool true)], args := [d1, d2, d3, d4, d5] }
  | _ => none }
def herdPartsRow : OpenClaim := { program := "ytmennjmjakdkcaagreat", sum := "8b1af4f790697f8490ab96145d1bf6eaca7f11a0f22be2ac8e443c6fb1029c26", func := "mesta/mestalaw09.HerdParts", spec := "herdParts", unfollowed := true, recurses := true, plainKeys := false, apart := false }
def HerdPartsSaid : Prop := herdPartsRow.holds Tryz.pinned (OpenSpec.ofChange herdPartsSpec)

/-- ITS FALSE NEIGHBOUR: 'it returns false'. Refute it at one input. -/
def herdPartsWrong : ChangeSpec := { name := "herdParts", fn := fun _ => fun
  | [d1, d2, d3, d4, d5] => { results := [.lit (.bool false)], args := [d1, d2, d3, d4, d5] }
  | _ => none }
def HerdPartsWrongFalsely : Prop := herdPartsRow.holds Tryz.pinned (OpenSpec.ofChange herdPartsWrong)

/-- 'mestalaw09.HerdAll': WHATEVER THE INPUT: true; the input reads as it did. -/
def herdAllSpec : ChangeSpec := { name := "herdAll", fn := fun _ => fun
  | [d] => { results := [.lit (.bool true)], args := [d] }
  | _ => none }
def herdAllRow : OpenClaim := { program := "ytmennjmjakdkcaagreat", sum := "8b1af4f790697f8490ab96145d1bf6eaca7f11a0f22be2ac8e443c6fb1029c26", func := "mesta/mestalaw09.HerdAll", spec := "herdAll", unfollowed := true, recurses := true, plainKeys := false, apart := false }
def HerdAllSaid : Prop := herdAllRow.holds Tryz.pinned (OpenSpec.ofChange herdAllSpec)

/-- ITS FALSE NEIGHBOUR: 'it returns false'. Refute it at one input. -/
def herdAllWrong : ChangeSpec := { name := "herdAll", fn := fun _ => fun
  | [d] => { results := [.lit (.bool false)], args := [d] }
  | _ => none }
def HerdAllWrongFalsely : Prop := herdAllRow.holds Tryz.pinned (OpenSpec.ofChange herdAllWrong)

/-- 'mestalaw09.HerdHas': WHATEVER THE INPUT: true; the input reads as it did. -/
def herdHasSpec : ChangeSpec := { name := "herdHas", fn := fun _ => fun
  | [d1, d2, d3, d4] => { results := [.lit (.bool true)], args := [d1, d2, d3, d4] }
  | _ => none }
def herdHasRow : OpenClaim := { program := "ytmennjmjakdkcaagreat", sum := "8b1af4f790697f8490ab96145d1bf6eaca7f11a0f22be2ac8e443c6fb1029c26", func := "mesta/mestalaw09.HerdHas", spec := "herdHas", unfollowed := true, recurses := true, plainKeys := false, apart := false }
def HerdHasSaid : Prop := herdHasRow.holds Tryz.pinned (OpenSpec.ofChange herdHasSpec)

/-- ITS FALSE NEIGHBOUR: 'it returns false'. Refute it at one input. -/
def herdHasWrong : ChangeSpec := { name := "herdHas", fn := fun _ => fun
  | [d1, d2, d3, d4] => { results := [.lit (.bool false)], args := [d1, d2, d3, d4] }
  | _ => none }
def HerdHasWrongFalsely : Prop := herdHasRow.holds Tryz.pinned (OpenSpec.ofChange herdHasWrong)

/- THE SECOND FORM. 'bulk': how many values and letters a reading holds, each counted each time it is reached (what is shared counts as often as it is met; a slice's spare places count too). A statement '..UptoSaid' is the law's where the arguments, and the package variables that the reading takes, are together of bulk at most 1048576: NARROWER than '..Said'. Prove '..Said' where nothing that the law and all that it calls make is longer than what came in: it says more and counts as full. Else prove '..UptoSaid'. A law counts once. -/
mutual
def uptoBulk {H : Type} : DataW H → Nat
  | .lit (.string bytes) => bytes.length + 1
  | .lit _ => 1
  | .nil => 1
  | .ptr d => uptoBulk d + 1
  | .slice elems spare => uptoBulkAll elems + uptoBulkAll spare + 1
  | .agg parts => uptoBulkAll parts + 1
  | .iface _ d => uptoBulk d + 1
  | .map entries => uptoBulkEntries entries + 1
  | .held _ => 1
def uptoBulkAll {H : Type} : List (DataW H) → Nat
  | [] => 0
  | d :: r => uptoBulk d + uptoBulkAll r
def uptoBulkEntries {H : Type} : List (Lit × DataW H) → Nat
  | [] => 0
  | x :: r => uptoBulkEntry x + uptoBulkEntries r
def uptoBulkEntry {H : Type} : Lit × DataW H → Nat
  | (.string bytes, d) => bytes.length + uptoBulk d + 1
  | (_, d) => uptoBulk d + 1
 end
def uptoSmall : (H : Type) → List (DataW H) → Bool := fun _ ds => decide (uptoBulkAll ds ≤ 1048576)
def OpenSpec.upto (s : _root_.Go.ChangeSpec) : _root_.Go.OpenSpec := { _root_.Go.OpenSpec.ofChange s with cond := some uptoSmall }

/-- 'mestalaw09.HerdChecks', WHERE WHAT IT READS IS OF BULK AT MOST 1048576: true; the input reads as it did. -/
def herdChecksUptoRow : OpenClaim := { program := "ytmennjmjakdkcaagreat", sum := "8b1af4f790697f8490ab96145d1bf6eaca7f11a0f22be2ac8e443c6fb1029c26", func := "mesta/mestalaw09.HerdChecks", spec := "herdChecks", unfollowed := true, recurses := true, plainKeys := false, apart := false, narrowed := true }
def HerdChecksUptoSaid : Prop := herdChecksUptoRow.holds Tryz.pinned (OpenSpec.upto herdChecksSpec)

/-- 'mestalaw09.HerdParts', WHERE WHAT IT READS IS OF BULK AT MOST 1048576: true; the input reads as it did. -/
def herdPartsUptoRow : OpenClaim := { program := "ytmennjmjakdkcaagreat", sum := "8b1af4f790697f8490ab96145d1bf6eaca7f11a0f22be2ac8e443c6fb1029c26", func := "mesta/mestalaw09.HerdParts", spec := "herdParts", unfollowed := true, recurses := true, plainKeys := false, apart := false, narrowed := true }
def HerdPartsUptoSaid : Prop := herdPartsUptoRow.holds Tryz.pinned (OpenSpec.upto herdPartsSpec)

/-- 'mestalaw09.HerdAll', WHERE WHAT IT READS IS OF BULK AT MOST 1048576: true; the input reads as it did. -/
def herdAllUptoRow : OpenClaim := { program := "ytmennjmjakdkcaagreat", sum := "8b1af4f790697f8490ab96145d1bf6eaca7f11a0f22be2ac8e443c6fb1029c26", func := "mesta/mestalaw09.HerdAll", spec := "herdAll", unfollowed := true, recurses := true, plainKeys := false, apart := false, narrowed := true }
def HerdAllUptoSaid : Prop := herdAllUptoRow.holds Tryz.pinned (OpenSpec.upto herdAllSpec)

/-- 'mestalaw09.HerdHas', WHERE WHAT IT READS IS OF BULK AT MOST 1048576: true; the input reads as it did. -/
def herdHasUptoRow : OpenClaim := { program := "ytmennjmjakdkcaagreat", sum := "8b1af4f790697f8490ab96145d1bf6eaca7f11a0f22be2ac8e443c6fb1029c26", func := "mesta/mestalaw09.HerdHas", spec := "herdHas", unfollowed := true, recurses := true, plainKeys := false, apart := false, narrowed := true }
def HerdHasUptoSaid : Prop := herdHasUptoRow.holds Tryz.pinned (OpenSpec.upto herdHasSpec)

end Rows
end Go.Proofs.YtmennjmjakdkcaaGreat
