/-
  No cell of these rows narrows 'for every input' (looked for: loops, veiled, ifaces, maps, wideKeys, modest, calm, conditions, laid).
  DERIVED. THE GIVEN ROWS OF THIS SEAT. 8 by the template 'for every input the law returns true; each argument reads behind the call as it read before'; 0 by the template 'total and deterministic' (their statements: YteppmfabggkiiaaTotals.lean).
  GIVEN WITH THE SEED: the statements are not yours to turn. If you find one false, say at which input.
  Laid BY PROGRAM, IN A SANDBOX (cutbox-rows.mjs): the forced cells as the released guide's own fill.sh prints them over the translation 843161f9e26d7963… (all of the seat's roots in one cut). By AI agents, Wed Nov 11 2026. No macro, syntax, notation, axiom, sorry.
-/
import Derived.Test.YteppmfabggkiiaaChecked
import GoSem.Claim
import GoSem.ClaimJoined
import GoSem.ClaimMapViews
import Derived.JoinedTies
import Derived.KernelRfl
namespace Go.Proofs.Yteppmfabggkiiaa
/- THE CELL 'sum', in the pinned program and in every row, IS THE sha256 OF THE DUMP (.gsa) THAT YteppmfabggkiiaaProg.lean LOADS. Nothing in Lean hashes anything: it is a label: what it is worth is what the hold of that sum in a sandbox is worth. -/
noncomputable def Try.pinned : Pinned := { name := "yteppmfabggkiiaa", sum := "843161f9e26d79635c2fb33c92400e7543579f9ab1ba239819a9c0e78ca1a2f4", checked := Try.checked }
namespace Rows
def none {H : Type} : Left H := { results := [], args := [] }

/-- 'laws.FnExactLiftAt': WHATEVER THE INPUT: true; the input reads as it did. -/
def fnExactLiftAtSpec : ChangeSpec := { name := "fnExactLiftAt", fn := fun _ => fun
  | [d1, d2] => { results := [.lit (.bool true)], args := [d1, d2] }
  | _ => none }
def fnExactLiftAtRow : OpenClaim := { program := "yteppmfabggkiiaa", sum := "843161f9e26d79635c2fb33c92400e7543579f9ab1ba239819a9c0e78ca1a2f4", func := "loop.example/g01003/laws.FnExactLiftAt", spec := "fnExactLiftAt", unfollowed := true, recurses := true, apart := false }
def FnExactLiftAtSaid : Prop := fnExactLiftAtRow.holds Try.pinned (OpenSpec.ofChange fnExactLiftAtSpec)

/-- ITS FALSE NEIGHBOUR: 'it returns false'. Refute it at one input. -/
def fnExactLiftAtWrong : ChangeSpec := { name := "fnExactLiftAt", fn := fun _ => fun
  | [d1, d2] => { results := [.lit (.bool false)], args := [d1, d2] }
  | _ => none }
def FnExactLiftAtWrongFalsely : Prop := fnExactLiftAtRow.holds Try.pinned (OpenSpec.ofChange fnExactLiftAtWrong)

/-- 'laws.FnExactLiftBefore': WHATEVER THE INPUT: true; the input reads as it did. -/
def fnExactLiftBeforeSpec : ChangeSpec := { name := "fnExactLiftBefore", fn := fun _ => fun
  | [d1, d2] => { results := [.lit (.bool true)], args := [d1, d2] }
  | _ => none }
def fnExactLiftBeforeRow : OpenClaim := { program := "yteppmfabggkiiaa", sum := "843161f9e26d79635c2fb33c92400e7543579f9ab1ba239819a9c0e78ca1a2f4", func := "loop.example/g01003/laws.FnExactLiftBefore", spec := "fnExactLiftBefore", unfollowed := true, recurses := true, apart := false }
def FnExactLiftBeforeSaid : Prop := fnExactLiftBeforeRow.holds Try.pinned (OpenSpec.ofChange fnExactLiftBeforeSpec)

/-- ITS FALSE NEIGHBOUR: 'it returns false'. Refute it at one input. -/
def fnExactLiftBeforeWrong : ChangeSpec := { name := "fnExactLiftBefore", fn := fun _ => fun
  | [d1, d2] => { results := [.lit (.bool false)], args := [d1, d2] }
  | _ => none }
def FnExactLiftBeforeWrongFalsely : Prop := fnExactLiftBeforeRow.holds Try.pinned (OpenSpec.ofChange fnExactLiftBeforeWrong)

/-- 'laws.FnExactIsRotationProof': WHATEVER THE INPUT: true; the input reads as it did. -/
def fnExactIsRotationProofSpec : ChangeSpec := { name := "fnExactIsRotationProof", fn := fun _ => fun
  | [d1, d2, d3] => { results := [.lit (.bool true)], args := [d1, d2, d3] }
  | _ => none }
def fnExactIsRotationProofRow : OpenClaim := { program := "yteppmfabggkiiaa", sum := "843161f9e26d79635c2fb33c92400e7543579f9ab1ba239819a9c0e78ca1a2f4", func := "loop.example/g01003/laws.FnExactIsRotationProof", spec := "fnExactIsRotationProof", unfollowed := true, recurses := true, apart := false }
def FnExactIsRotationProofSaid : Prop := fnExactIsRotationProofRow.holds Try.pinned (OpenSpec.ofChange fnExactIsRotationProofSpec)

/-- ITS FALSE NEIGHBOUR: 'it returns false'. Refute it at one input. -/
def fnExactIsRotationProofWrong : ChangeSpec := { name := "fnExactIsRotationProof", fn := fun _ => fun
  | [d1, d2, d3] => { results := [.lit (.bool false)], args := [d1, d2, d3] }
  | _ => none }
def FnExactIsRotationProofWrongFalsely : Prop := fnExactIsRotationProofRow.holds Try.pinned (OpenSpec.ofChange fnExactIsRotationProofWrong)

/-- 'laws.FnExactAverageMove': WHATEVER THE INPUT: true; the input reads as it did. -/
def fnExactAverageMoveSpec : ChangeSpec := { name := "fnExactAverageMove", fn := fun _ => fun
  | [d1, d2, d3] => { results := [.lit (.bool true)], args := [d1, d2, d3] }
  | _ => none }
def fnExactAverageMoveRow : OpenClaim := { program := "yteppmfabggkiiaa", sum := "843161f9e26d79635c2fb33c92400e7543579f9ab1ba239819a9c0e78ca1a2f4", func := "loop.example/g01003/laws.FnExactAverageMove", spec := "fnExactAverageMove", unfollowed := true, recurses := true, apart := false }
def FnExactAverageMoveSaid : Prop := fnExactAverageMoveRow.holds Try.pinned (OpenSpec.ofChange fnExactAverageMoveSpec)

/-- ITS FALSE NEIGHBOUR: 'it returns false'. Refute it at one input. -/
def fnExactAverageMoveWrong : ChangeSpec := { name := "fnExactAverageMove", fn := fun _ => fun
  | [d1, d2, d3] => { results := [.lit (.bool false)], args := [d1, d2, d3] }
  | _ => none }
def FnExactAverageMoveWrongFalsely : Prop := fnExactAverageMoveRow.holds Try.pinned (OpenSpec.ofChange fnExactAverageMoveWrong)

/-- 'laws.FnExactRotationBounds': WHATEVER THE INPUT: true; the input reads as it did. -/
def fnExactRotationBoundsSpec : ChangeSpec := { name := "fnExactRotationBounds", fn := fun _ => fun
  | [d1, d2] => { results := [.lit (.bool true)], args := [d1, d2] }
  | _ => none }
def fnExactRotationBoundsRow : OpenClaim := { program := "yteppmfabggkiiaa", sum := "843161f9e26d79635c2fb33c92400e7543579f9ab1ba239819a9c0e78ca1a2f4", func := "loop.example/g01003/laws.FnExactRotationBounds", spec := "fnExactRotationBounds", unfollowed := true, recurses := true, apart := false }
def FnExactRotationBoundsSaid : Prop := fnExactRotationBoundsRow.holds Try.pinned (OpenSpec.ofChange fnExactRotationBoundsSpec)

/-- ITS FALSE NEIGHBOUR: 'it returns false'. Refute it at one input. -/
def fnExactRotationBoundsWrong : ChangeSpec := { name := "fnExactRotationBounds", fn := fun _ => fun
  | [d1, d2] => { results := [.lit (.bool false)], args := [d1, d2] }
  | _ => none }
def FnExactRotationBoundsWrongFalsely : Prop := fnExactRotationBoundsRow.holds Try.pinned (OpenSpec.ofChange fnExactRotationBoundsWrong)

/-- 'laws.FnExactLiftCycle': WHATEVER THE INPUT: true; the input reads as it did. -/
def fnExactLiftCycleSpec : ChangeSpec := { name := "fnExactLiftCycle", fn := fun _ => fun
  | [d1, d2, d3] => { results := [.lit (.bool true)], args := [d1, d2, d3] }
  | _ => none }
def fnExactLiftCycleRow : OpenClaim := { program := "yteppmfabggkiiaa", sum := "843161f9e26d79635c2fb33c92400e7543579f9ab1ba239819a9c0e78ca1a2f4", func := "loop.example/g01003/laws.FnExactLiftCycle", spec := "fnExactLiftCycle", unfollowed := true, recurses := true, apart := false }
def FnExactLiftCycleSaid : Prop := fnExactLiftCycleRow.holds Try.pinned (OpenSpec.ofChange fnExactLiftCycleSpec)

/-- ITS FALSE NEIGHBOUR: 'it returns false'. Refute it at one input. -/
def fnExactLiftCycleWrong : ChangeSpec := { name := "fnExactLiftCycle", fn := fun _ => fun
  | [d1, d2, d3] => { results := [.lit (.bool false)], args := [d1, d2, d3] }
  | _ => none }
def FnExactLiftCycleWrongFalsely : Prop := fnExactLiftCycleRow.holds Try.pinned (OpenSpec.ofChange fnExactLiftCycleWrong)

/-- 'laws.FnExactOrbitType': WHATEVER THE INPUT: true; the input reads as it did. -/
def fnExactOrbitTypeSpec : ChangeSpec := { name := "fnExactOrbitType", fn := fun _ => fun
  | [d1, d2, d3] => { results := [.lit (.bool true)], args := [d1, d2, d3] }
  | _ => none }
def fnExactOrbitTypeRow : OpenClaim := { program := "yteppmfabggkiiaa", sum := "843161f9e26d79635c2fb33c92400e7543579f9ab1ba239819a9c0e78ca1a2f4", func := "loop.example/g01003/laws.FnExactOrbitType", spec := "fnExactOrbitType", unfollowed := true, recurses := true, apart := false }
def FnExactOrbitTypeSaid : Prop := fnExactOrbitTypeRow.holds Try.pinned (OpenSpec.ofChange fnExactOrbitTypeSpec)

/-- ITS FALSE NEIGHBOUR: 'it returns false'. Refute it at one input. -/
def fnExactOrbitTypeWrong : ChangeSpec := { name := "fnExactOrbitType", fn := fun _ => fun
  | [d1, d2, d3] => { results := [.lit (.bool false)], args := [d1, d2, d3] }
  | _ => none }
def FnExactOrbitTypeWrongFalsely : Prop := fnExactOrbitTypeRow.holds Try.pinned (OpenSpec.ofChange fnExactOrbitTypeWrong)

/-- 'laws.FnExactLiftOrbit': WHATEVER THE INPUT: true; the input reads as it did. -/
def fnExactLiftOrbitSpec : ChangeSpec := { name := "fnExactLiftOrbit", fn := fun _ => fun
  | [d1, d2, d3] => { results := [.lit (.bool true)], args := [d1, d2, d3] }
  | _ => none }
def fnExactLiftOrbitRow : OpenClaim := { program := "yteppmfabggkiiaa", sum := "843161f9e26d79635c2fb33c92400e7543579f9ab1ba239819a9c0e78ca1a2f4", func := "loop.example/g01003/laws.FnExactLiftOrbit", spec := "fnExactLiftOrbit", unfollowed := true, recurses := true, apart := false }
def FnExactLiftOrbitSaid : Prop := fnExactLiftOrbitRow.holds Try.pinned (OpenSpec.ofChange fnExactLiftOrbitSpec)

/-- ITS FALSE NEIGHBOUR: 'it returns false'. Refute it at one input. -/
def fnExactLiftOrbitWrong : ChangeSpec := { name := "fnExactLiftOrbit", fn := fun _ => fun
  | [d1, d2, d3] => { results := [.lit (.bool false)], args := [d1, d2, d3] }
  | _ => none }
def FnExactLiftOrbitWrongFalsely : Prop := fnExactLiftOrbitRow.holds Try.pinned (OpenSpec.ofChange fnExactLiftOrbitWrong)

/- THE SECOND FORM. 'bulk': how many values and letters a reading holds, each counted each time it is reached (what is shared counts as often as it is met; a slice's spare places count too). A statement '..UptoSaid' is the law's where the arguments, and the package variables that the reading takes, are together of bulk at most 1048576: NARROWER than '..Said'. Prove '..Said' where nothing that the law and all that it calls make is longer than what came in: it says more and counts as full. Else prove '..UptoSaid'. A law counts once. -/
mutual
def uptoBulk {H : Type} : DataW H → Nat
  | .lit (.string bytes) => bytes.length + 1
  | .lit _ => 1
  | .nil => 1
  | .ptr d => uptoBulk d + 1
  | .slice elems spare => uptoBulkAll elems + uptoBulkAll spare + 1
  | .agg parts => uptoBulkAll parts + 1
  | .iface _ d => uptoBulk d + 1
  | .map entries => uptoBulkEntries entries + 1
  | .held _ => 1
def uptoBulkAll {H : Type} : List (DataW H) → Nat
  | [] => 0
  | d :: r => uptoBulk d + uptoBulkAll r
def uptoBulkEntries {H : Type} : List (Lit × DataW H) → Nat
  | [] => 0
  | x :: r => uptoBulkEntry x + uptoBulkEntries r
def uptoBulkEntry {H : Type} : Lit × DataW H → Nat
  | (.string bytes, d) => bytes.length + uptoBulk d + 1
  | (_, d) => uptoBulk d + 1
 end
def uptoSmall : (H : Type) → List (DataW H) → Bool := fun _ ds => decide (uptoBulkAll ds ≤ 1048576)
def OpenSpec.upto (s : _root_.Go.ChangeSpec) : _root_.Go.OpenSpec := { _root_.Go.OpenSpec.ofChange s with cond := some uptoSmall }

/-- 'laws.FnExactLiftAt', WHERE WHAT IT READS IS OF BULK AT MOST 1048576: true; the input reads as it did. -/
def fnExactLiftAtUptoRow : OpenClaim := { program := "yteppmfabggkiiaa", sum := "843161f9e26d79635c2fb33c92400e7543579f9ab1ba239819a9c0e78ca1a2f4", func := "loop.example/g01003/laws.FnExactLiftAt", spec := "fnExactLiftAt", unfollowed := true, recurses := true, apart := false, narrowed := true }
def FnExactLiftAtUptoSaid : Prop := fnExactLiftAtUptoRow.holds Try.pinned (OpenSpec.upto fnExactLiftAtSpec)

/-- 'laws.FnExactLiftBefore', WHERE WHAT IT READS IS OF BULK AT MOST 1048576: true; the input reads as it did. -/
def fnExactLiftBeforeUptoRow : OpenClaim := { program := "yteppmfabggkiiaa", sum := "843161f9e26d79635c2fb33c92400e7543579f9ab1ba239819a9c0e78ca1a2f4", func := "loop.example/g01003/laws.FnExactLiftBefore", spec := "fnExactLiftBefore", unfollowed := true, recurses := true, apart := false, narrowed := true }
def FnExactLiftBeforeUptoSaid : Prop := fnExactLiftBeforeUptoRow.holds Try.pinned (OpenSpec.upto fnExactLiftBeforeSpec)

/-- 'laws.FnExactIsRotationProof', WHERE WHAT IT READS IS OF BULK AT MOST 1048576: true; the input reads as it did. -/
def fnExactIsRotationProofUptoRow : OpenClaim := { program := "yteppmfabggkiiaa", sum := "843161f9e26d79635c2fb33c92400e7543579f9ab1ba239819a9c0e78ca1a2f4", func := "loop.example/g01003/laws.FnExactIsRotationProof", spec := "fnExactIsRotationProof", unfollowed := true, recurses := true, apart := false, narrowed := true }
def FnExactIsRotationProofUptoSaid : Prop := fnExactIsRotationProofUptoRow.holds Try.pinned (OpenSpec.upto fnExactIsRotationProofSpec)

/-- 'laws.FnExactAverageMove', WHERE WHAT IT READS IS OF BULK AT MOST 1048576: true; the input reads as it did. -/
def fnExactAverageMoveUptoRow : OpenClaim := { program := "yteppmfabggkiiaa", sum := "843161f9e26d79635c2fb33c92400e7543579f9ab1ba239819a9c0e78ca1a2f4", func := "loop.example/g01003/laws.FnExactAverageMove", spec := "fnExactAverageMove", unfollowed := true, recurses := true, apart := false, narrowed := true }
def FnExactAverageMoveUptoSaid : Prop := fnExactAverageMoveUptoRow.holds Try.pinned (OpenSpec.upto fnExactAverageMoveSpec)

/-- 'laws.FnExactRotationBounds', WHERE WHAT IT READS IS OF BULK AT MOST 1048576: true; the input reads as it did. -/
def fnExactRotationBoundsUptoRow : OpenClaim := { program := "yteppmfabggkiiaa", sum := "843161f9e26d79635c2fb33c92400e7543579f9ab1ba239819a9c0e78ca1a2f4", func := "loop.example/g01003/laws.FnExactRotationBounds", spec := "fnExactRotationBounds", unfollowed := true, recurses := true, apart := false, narrowed := true }
def FnExactRotationBoundsUptoSaid : Prop := fnExactRotationBoundsUptoRow.holds Try.pinned (OpenSpec.upto fnExactRotationBoundsSpec)

/-- 'laws.FnExactLiftCycle', WHERE WHAT IT READS IS OF BULK AT MOST 1048576: true; the input reads as it did. -/
def fnExactLiftCycleUptoRow : OpenClaim := { program := "yteppmfabggkiiaa", sum := "843161f9e26d79635c2fb33c92400e7543579f9ab1ba239819a9c0e78ca1a2f4", func := "loop.example/g01003/laws.FnExactLiftCycle", spec := "fnExactLiftCycle", unfollowed := true, recurses := true, apart := false, narrowed := true }
def FnExactLiftCycleUptoSaid : Prop := fnExactLiftCycleUptoRow.holds Try.pinned (OpenSpec.upto fnExactLiftCycleSpec)

/-- 'laws.FnExactOrbitType', WHERE WHAT IT READS IS OF BULK AT MOST 1048576: true; the input reads as it did. -/
def fnExactOrbitTypeUptoRow : OpenClaim := { program := "yteppmfabggkiiaa", sum := "843161f9e26d79635c2fb33c92400e7543579f9ab1ba239819a9c0e78ca1a2f4", func := "loop.example/g01003/laws.FnExactOrbitType", spec := "fnExactOrbitType", unfollowed := true, recurses := true, apart := false, narrowed := true }
def FnExactOrbitTypeUptoSaid : Prop := fnExactOrbitTypeUptoRow.holds Try.pinned (OpenSpec.upto fnExactOrbitTypeSpec)

/-- 'laws.FnExactLiftOrbit', WHERE WHAT IT READS IS OF BULK AT MOST 1048576: true; the input reads as it did. -/
def fnExactLiftOrbitUptoRow : OpenClaim := { program := "yteppmfabggkiiaa", sum := "843161f9e26d79635c2fb33c92400e7543579f9ab1ba239819a9c0e78ca1a2f4", func := "loop.example/g01003/laws.FnExactLiftOrbit", spec := "fnExactLiftOrbit", unfollowed := true, recurses := true, apart := false, narrowed := true }
def FnExactLiftOrbitUptoSaid : Prop := fnExactLiftOrbitUptoRow.holds Try.pinned (OpenSpec.upto fnExactLiftOrbitSpec)

end Rows
end Go.Proofs.Yteppmfabggkiiaa
