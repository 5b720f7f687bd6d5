/-
  No cell of these rows narrows 'for every input' (looked for: loops, veiled, ifaces, maps, wideKeys, modest, calm, conditions, laid).
  DERIVED. THE GIVEN ROWS OF THIS SEAT. 10 by the template 'for every input the law returns true; each argument reads behind the call as it read before'; 0 by the template 'total and deterministic' (their statements: YtlajjggemadajaaTotals.lean).
  GIVEN WITH THE SEED: the statements are not yours to turn. If you find one false, say at which input.
  Laid BY PROGRAM, IN A SANDBOX (cutbox-rows.mjs): the forced cells as the released guide's own fill.sh prints them over the translation ecaca7e8dcf24a6b… (all of the seat's roots in one cut). By AI agents, Wed Nov 11 2026. No macro, syntax, notation, axiom, sorry.
-/
import Derived.Test.YtlajjggemadajaaChecked
import GoSem.Claim
import GoSem.ClaimJoined
import GoSem.ClaimMapViews
import Derived.JoinedTies
import Derived.KernelRfl
namespace Go.Proofs.Ytlajjggemadajaa
/- THE CELL 'sum', in the pinned program and in every row, IS THE sha256 OF THE DUMP (.gsa) THAT YtlajjggemadajaaProg.lean LOADS. Nothing in Lean hashes anything: it is a label: what it is worth is what the hold of that sum in a sandbox is worth. -/
noncomputable def Try.pinned : Pinned := { name := "ytlajjggemadajaa", sum := "ecaca7e8dcf24a6bcbe314649f79ec7892d00c205439fbd2df4543de9b2216f5", checked := Try.checked }
namespace Rows
def none {H : Type} : Left H := { results := [], args := [] }

/-- 'laws.FnExactIsLift': WHATEVER THE INPUT: true; the input reads as it did. -/
def fnExactIsLiftSpec : ChangeSpec := { name := "fnExactIsLift", fn := fun _ => fun
  | [d] => { results := [.lit (.bool true)], args := [d] }
  | _ => none }
def fnExactIsLiftRow : OpenClaim := { program := "ytlajjggemadajaa", sum := "ecaca7e8dcf24a6bcbe314649f79ec7892d00c205439fbd2df4543de9b2216f5", func := "loop.example/g01003/laws.FnExactIsLift", spec := "fnExactIsLift", unfollowed := true, recurses := true, apart := false }
def FnExactIsLiftSaid : Prop := fnExactIsLiftRow.holds Try.pinned (OpenSpec.ofChange fnExactIsLiftSpec)

/-- ITS FALSE NEIGHBOUR: 'it returns false'. Refute it at one input. -/
def fnExactIsLiftWrong : ChangeSpec := { name := "fnExactIsLift", fn := fun _ => fun
  | [d] => { results := [.lit (.bool false)], args := [d] }
  | _ => none }
def FnExactIsLiftWrongFalsely : Prop := fnExactIsLiftRow.holds Try.pinned (OpenSpec.ofChange fnExactIsLiftWrong)

/-- 'laws.FnExactIsStrictLift': WHATEVER THE INPUT: true; the input reads as it did. -/
def fnExactIsStrictLiftSpec : ChangeSpec := { name := "fnExactIsStrictLift", fn := fun _ => fun
  | [d] => { results := [.lit (.bool true)], args := [d] }
  | _ => none }
def fnExactIsStrictLiftRow : OpenClaim := { program := "ytlajjggemadajaa", sum := "ecaca7e8dcf24a6bcbe314649f79ec7892d00c205439fbd2df4543de9b2216f5", func := "loop.example/g01003/laws.FnExactIsStrictLift", spec := "fnExactIsStrictLift", unfollowed := true, recurses := true, apart := false }
def FnExactIsStrictLiftSaid : Prop := fnExactIsStrictLiftRow.holds Try.pinned (OpenSpec.ofChange fnExactIsStrictLiftSpec)

/-- ITS FALSE NEIGHBOUR: 'it returns false'. Refute it at one input. -/
def fnExactIsStrictLiftWrong : ChangeSpec := { name := "fnExactIsStrictLift", fn := fun _ => fun
  | [d] => { results := [.lit (.bool false)], args := [d] }
  | _ => none }
def FnExactIsStrictLiftWrongFalsely : Prop := fnExactIsStrictLiftRow.holds Try.pinned (OpenSpec.ofChange fnExactIsStrictLiftWrong)

/-- 'laws.FnExactReverseLift': WHATEVER THE INPUT: true; the input reads as it did. -/
def fnExactReverseLiftSpec : ChangeSpec := { name := "fnExactReverseLift", fn := fun _ => fun
  | [d] => { results := [.lit (.bool true)], args := [d] }
  | _ => none }
def fnExactReverseLiftRow : OpenClaim := { program := "ytlajjggemadajaa", sum := "ecaca7e8dcf24a6bcbe314649f79ec7892d00c205439fbd2df4543de9b2216f5", func := "loop.example/g01003/laws.FnExactReverseLift", spec := "fnExactReverseLift", unfollowed := true, recurses := true, apart := false }
def FnExactReverseLiftSaid : Prop := fnExactReverseLiftRow.holds Try.pinned (OpenSpec.ofChange fnExactReverseLiftSpec)

/-- ITS FALSE NEIGHBOUR: 'it returns false'. Refute it at one input. -/
def fnExactReverseLiftWrong : ChangeSpec := { name := "fnExactReverseLift", fn := fun _ => fun
  | [d] => { results := [.lit (.bool false)], args := [d] }
  | _ => none }
def FnExactReverseLiftWrongFalsely : Prop := fnExactReverseLiftRow.holds Try.pinned (OpenSpec.ofChange fnExactReverseLiftWrong)

/-- 'laws.FnExactPlateausOf': WHATEVER THE INPUT: true; the input reads as it did. -/
def fnExactPlateausOfSpec : ChangeSpec := { name := "fnExactPlateausOf", fn := fun _ => fun
  | [d] => { results := [.lit (.bool true)], args := [d] }
  | _ => none }
def fnExactPlateausOfRow : OpenClaim := { program := "ytlajjggemadajaa", sum := "ecaca7e8dcf24a6bcbe314649f79ec7892d00c205439fbd2df4543de9b2216f5", func := "loop.example/g01003/laws.FnExactPlateausOf", spec := "fnExactPlateausOf", unfollowed := true, recurses := true, apart := false }
def FnExactPlateausOfSaid : Prop := fnExactPlateausOfRow.holds Try.pinned (OpenSpec.ofChange fnExactPlateausOfSpec)

/-- ITS FALSE NEIGHBOUR: 'it returns false'. Refute it at one input. -/
def fnExactPlateausOfWrong : ChangeSpec := { name := "fnExactPlateausOf", fn := fun _ => fun
  | [d] => { results := [.lit (.bool false)], args := [d] }
  | _ => none }
def FnExactPlateausOfWrongFalsely : Prop := fnExactPlateausOfRow.holds Try.pinned (OpenSpec.ofChange fnExactPlateausOfWrong)

/-- 'laws.FnExactDisplacements': WHATEVER THE INPUT: true; the input reads as it did. -/
def fnExactDisplacementsSpec : ChangeSpec := { name := "fnExactDisplacements", fn := fun _ => fun
  | [d] => { results := [.lit (.bool true)], args := [d] }
  | _ => none }
def fnExactDisplacementsRow : OpenClaim := { program := "ytlajjggemadajaa", sum := "ecaca7e8dcf24a6bcbe314649f79ec7892d00c205439fbd2df4543de9b2216f5", func := "loop.example/g01003/laws.FnExactDisplacements", spec := "fnExactDisplacements", unfollowed := true, recurses := true, apart := false }
def FnExactDisplacementsSaid : Prop := fnExactDisplacementsRow.holds Try.pinned (OpenSpec.ofChange fnExactDisplacementsSpec)

/-- ITS FALSE NEIGHBOUR: 'it returns false'. Refute it at one input. -/
def fnExactDisplacementsWrong : ChangeSpec := { name := "fnExactDisplacements", fn := fun _ => fun
  | [d] => { results := [.lit (.bool false)], args := [d] }
  | _ => none }
def FnExactDisplacementsWrongFalsely : Prop := fnExactDisplacementsRow.holds Try.pinned (OpenSpec.ofChange fnExactDisplacementsWrong)

/-- 'laws.FnExactTurnLift': WHATEVER THE INPUT: true; the input reads as it did. -/
def fnExactTurnLiftSpec : ChangeSpec := { name := "fnExactTurnLift", fn := fun _ => fun
  | [d1, d2] => { results := [.lit (.bool true)], args := [d1, d2] }
  | _ => none }
def fnExactTurnLiftRow : OpenClaim := { program := "ytlajjggemadajaa", sum := "ecaca7e8dcf24a6bcbe314649f79ec7892d00c205439fbd2df4543de9b2216f5", func := "loop.example/g01003/laws.FnExactTurnLift", spec := "fnExactTurnLift", unfollowed := true, recurses := true, apart := false }
def FnExactTurnLiftSaid : Prop := fnExactTurnLiftRow.holds Try.pinned (OpenSpec.ofChange fnExactTurnLiftSpec)

/-- ITS FALSE NEIGHBOUR: 'it returns false'. Refute it at one input. -/
def fnExactTurnLiftWrong : ChangeSpec := { name := "fnExactTurnLift", fn := fun _ => fun
  | [d1, d2] => { results := [.lit (.bool false)], args := [d1, d2] }
  | _ => none }
def FnExactTurnLiftWrongFalsely : Prop := fnExactTurnLiftRow.holds Try.pinned (OpenSpec.ofChange fnExactTurnLiftWrong)

/-- 'laws.FnExactIsGrowthBound': WHATEVER THE INPUT: true; the input reads as it did. -/
def fnExactIsGrowthBoundSpec : ChangeSpec := { name := "fnExactIsGrowthBound", fn := fun _ => fun
  | [d1, d2, d3, d4] => { results := [.lit (.bool true)], args := [d1, d2, d3, d4] }
  | _ => none }
def fnExactIsGrowthBoundRow : OpenClaim := { program := "ytlajjggemadajaa", sum := "ecaca7e8dcf24a6bcbe314649f79ec7892d00c205439fbd2df4543de9b2216f5", func := "loop.example/g01003/laws.FnExactIsGrowthBound", spec := "fnExactIsGrowthBound", unfollowed := true, recurses := true, apart := false }
def FnExactIsGrowthBoundSaid : Prop := fnExactIsGrowthBoundRow.holds Try.pinned (OpenSpec.ofChange fnExactIsGrowthBoundSpec)

/-- ITS FALSE NEIGHBOUR: 'it returns false'. Refute it at one input. -/
def fnExactIsGrowthBoundWrong : ChangeSpec := { name := "fnExactIsGrowthBound", fn := fun _ => fun
  | [d1, d2, d3, d4] => { results := [.lit (.bool false)], args := [d1, d2, d3, d4] }
  | _ => none }
def FnExactIsGrowthBoundWrongFalsely : Prop := fnExactIsGrowthBoundRow.holds Try.pinned (OpenSpec.ofChange fnExactIsGrowthBoundWrong)

/-- 'laws.FnExactBestGrowth': WHATEVER THE INPUT: true; the input reads as it did. -/
def fnExactBestGrowthSpec : ChangeSpec := { name := "fnExactBestGrowth", fn := fun _ => fun
  | [d] => { results := [.lit (.bool true)], args := [d] }
  | _ => none }
def fnExactBestGrowthRow : OpenClaim := { program := "ytlajjggemadajaa", sum := "ecaca7e8dcf24a6bcbe314649f79ec7892d00c205439fbd2df4543de9b2216f5", func := "loop.example/g01003/laws.FnExactBestGrowth", spec := "fnExactBestGrowth", unfollowed := true, recurses := true, apart := false }
def FnExactBestGrowthSaid : Prop := fnExactBestGrowthRow.holds Try.pinned (OpenSpec.ofChange fnExactBestGrowthSpec)

/-- ITS FALSE NEIGHBOUR: 'it returns false'. Refute it at one input. -/
def fnExactBestGrowthWrong : ChangeSpec := { name := "fnExactBestGrowth", fn := fun _ => fun
  | [d] => { results := [.lit (.bool false)], args := [d] }
  | _ => none }
def FnExactBestGrowthWrongFalsely : Prop := fnExactBestGrowthRow.holds Try.pinned (OpenSpec.ofChange fnExactBestGrowthWrong)

/-- 'laws.FnExactGrowsFaster': WHATEVER THE INPUT: true; the input reads as it did. -/
def fnExactGrowsFasterSpec : ChangeSpec := { name := "fnExactGrowsFaster", fn := fun _ => fun
  | [d1, d2] => { results := [.lit (.bool true)], args := [d1, d2] }
  | _ => none }
def fnExactGrowsFasterRow : OpenClaim := { program := "ytlajjggemadajaa", sum := "ecaca7e8dcf24a6bcbe314649f79ec7892d00c205439fbd2df4543de9b2216f5", func := "loop.example/g01003/laws.FnExactGrowsFaster", spec := "fnExactGrowsFaster", unfollowed := true, recurses := true, apart := false }
def FnExactGrowsFasterSaid : Prop := fnExactGrowsFasterRow.holds Try.pinned (OpenSpec.ofChange fnExactGrowsFasterSpec)

/-- ITS FALSE NEIGHBOUR: 'it returns false'. Refute it at one input. -/
def fnExactGrowsFasterWrong : ChangeSpec := { name := "fnExactGrowsFaster", fn := fun _ => fun
  | [d1, d2] => { results := [.lit (.bool false)], args := [d1, d2] }
  | _ => none }
def FnExactGrowsFasterWrongFalsely : Prop := fnExactGrowsFasterRow.holds Try.pinned (OpenSpec.ofChange fnExactGrowsFasterWrong)

/-- 'laws.FnExactGrowthBounds': WHATEVER THE INPUT: true; the input reads as it did. -/
def fnExactGrowthBoundsSpec : ChangeSpec := { name := "fnExactGrowthBounds", fn := fun _ => fun
  | [d1, d2] => { results := [.lit (.bool true)], args := [d1, d2] }
  | _ => none }
def fnExactGrowthBoundsRow : OpenClaim := { program := "ytlajjggemadajaa", sum := "ecaca7e8dcf24a6bcbe314649f79ec7892d00c205439fbd2df4543de9b2216f5", func := "loop.example/g01003/laws.FnExactGrowthBounds", spec := "fnExactGrowthBounds", unfollowed := true, recurses := true, apart := false }
def FnExactGrowthBoundsSaid : Prop := fnExactGrowthBoundsRow.holds Try.pinned (OpenSpec.ofChange fnExactGrowthBoundsSpec)

/-- ITS FALSE NEIGHBOUR: 'it returns false'. Refute it at one input. -/
def fnExactGrowthBoundsWrong : ChangeSpec := { name := "fnExactGrowthBounds", fn := fun _ => fun
  | [d1, d2] => { results := [.lit (.bool false)], args := [d1, d2] }
  | _ => none }
def FnExactGrowthBoundsWrongFalsely : Prop := fnExactGrowthBoundsRow.holds Try.pinned (OpenSpec.ofChange fnExactGrowthBoundsWrong)

/- THE SECOND FORM. 'bulk': how many values and letters a reading holds, each counted each time it is reached (what is shared counts as often as it is met; a slice's spare places count too). A statement '..UptoSaid' is the law's where the arguments, and the package variables that the reading takes, are together of bulk at most 1048576: NARROWER than '..Said'. Prove '..Said' where nothing that the law and all that it calls make is longer than what came in: it says more and counts as full. Else prove '..UptoSaid'. A law counts once. -/
mutual
def uptoBulk {H : Type} : DataW H → Nat
  | .lit (.string bytes) => bytes.length + 1
  | .lit _ => 1
  | .nil => 1
  | .ptr d => uptoBulk d + 1
  | .slice elems spare => uptoBulkAll elems + uptoBulkAll spare + 1
  | .agg parts => uptoBulkAll parts + 1
  | .iface _ d => uptoBulk d + 1
  | .map entries => uptoBulkEntries entries + 1
  | .held _ => 1
def uptoBulkAll {H : Type} : List (DataW H) → Nat
  | [] => 0
  | d :: r => uptoBulk d + uptoBulkAll r
def uptoBulkEntries {H : Type} : List (Lit × DataW H) → Nat
  | [] => 0
  | x :: r => uptoBulkEntry x + uptoBulkEntries r
def uptoBulkEntry {H : Type} : Lit × DataW H → Nat
  | (.string bytes, d) => bytes.length + uptoBulk d + 1
  | (_, d) => uptoBulk d + 1
 end
def uptoSmall : (H : Type) → List (DataW H) → Bool := fun _ ds => decide (uptoBulkAll ds ≤ 1048576)
def OpenSpec.upto (s : _root_.Go.ChangeSpec) : _root_.Go.OpenSpec := { _root_.Go.OpenSpec.ofChange s with cond := some uptoSmall }

/-- 'laws.FnExactIsLift', WHERE WHAT IT READS IS OF BULK AT MOST 1048576: true; the input reads as it did. -/
def fnExactIsLiftUptoRow : OpenClaim := { program := "ytlajjggemadajaa", sum := "ecaca7e8dcf24a6bcbe314649f79ec7892d00c205439fbd2df4543de9b2216f5", func := "loop.example/g01003/laws.FnExactIsLift", spec := "fnExactIsLift", unfollowed := true, recurses := true, apart := false, narrowed := true }
def FnExactIsLiftUptoSaid : Prop := fnExactIsLiftUptoRow.holds Try.pinned (OpenSpec.upto fnExactIsLiftSpec)

/-- 'laws.FnExactIsStrictLift', WHERE WHAT IT READS IS OF BULK AT MOST 1048576: true; the input reads as it did. -/
def fnExactIsStrictLiftUptoRow : OpenClaim := { program := "ytlajjggemadajaa", sum := "ecaca7e8dcf24a6bcbe314649f79ec7892d00c205439fbd2df4543de9b2216f5", func := "loop.example/g01003/laws.FnExactIsStrictLift", spec := "fnExactIsStrictLift", unfollowed := true, recurses := true, apart := false, narrowed := true }
def FnExactIsStrictLiftUptoSaid : Prop := fnExactIsStrictLiftUptoRow.holds Try.pinned (OpenSpec.upto fnExactIsStrictLiftSpec)

/-- 'laws.FnExactReverseLift', WHERE WHAT IT READS IS OF BULK AT MOST 1048576: true; the input reads as it did. -/
def fnExactReverseLiftUptoRow : OpenClaim := { program := "ytlajjggemadajaa", sum := "ecaca7e8dcf24a6bcbe314649f79ec7892d00c205439fbd2df4543de9b2216f5", func := "loop.example/g01003/laws.FnExactReverseLift", spec := "fnExactReverseLift", unfollowed := true, recurses := true, apart := false, narrowed := true }
def FnExactReverseLiftUptoSaid : Prop := fnExactReverseLiftUptoRow.holds Try.pinned (OpenSpec.upto fnExactReverseLiftSpec)

/-- 'laws.FnExactPlateausOf', WHERE WHAT IT READS IS OF BULK AT MOST 1048576: true; the input reads as it did. -/
def fnExactPlateausOfUptoRow : OpenClaim := { program := "ytlajjggemadajaa", sum := "ecaca7e8dcf24a6bcbe314649f79ec7892d00c205439fbd2df4543de9b2216f5", func := "loop.example/g01003/laws.FnExactPlateausOf", spec := "fnExactPlateausOf", unfollowed := true, recurses := true, apart := false, narrowed := true }
def FnExactPlateausOfUptoSaid : Prop := fnExactPlateausOfUptoRow.holds Try.pinned (OpenSpec.upto fnExactPlateausOfSpec)

/-- 'laws.FnExactDisplacements', WHERE WHAT IT READS IS OF BULK AT MOST 1048576: true; the input reads as it did. -/
def fnExactDisplacementsUptoRow : OpenClaim := { program := "ytlajjggemadajaa", sum := "ecaca7e8dcf24a6bcbe314649f79ec7892d00c205439fbd2df4543de9b2216f5", func := "loop.example/g01003/laws.FnExactDisplacements", spec := "fnExactDisplacements", unfollowed := true, recurses := true, apart := false, narrowed := true }
def FnExactDisplacementsUptoSaid : Prop := fnExactDisplacementsUptoRow.holds Try.pinned (OpenSpec.upto fnExactDisplacementsSpec)

/-- 'laws.FnExactTurnLift', WHERE WHAT IT READS IS OF BULK AT MOST 1048576: true; the input reads as it did. -/
def fnExactTurnLiftUptoRow : OpenClaim := { program := "ytlajjggemadajaa", sum := "ecaca7e8dcf24a6bcbe314649f79ec7892d00c205439fbd2df4543de9b2216f5", func := "loop.example/g01003/laws.FnExactTurnLift", spec := "fnExactTurnLift", unfollowed := true, recurses := true, apart := false, narrowed := true }
def FnExactTurnLiftUptoSaid : Prop := fnExactTurnLiftUptoRow.holds Try.pinned (OpenSpec.upto fnExactTurnLiftSpec)

/-- 'laws.FnExactIsGrowthBound', WHERE WHAT IT READS IS OF BULK AT MOST 1048576: true; the input reads as it did. -/
def fnExactIsGrowthBoundUptoRow : OpenClaim := { program := "ytlajjggemadajaa", sum := "ecaca7e8dcf24a6bcbe314649f79ec7892d00c205439fbd2df4543de9b2216f5", func := "loop.example/g01003/laws.FnExactIsGrowthBound", spec := "fnExactIsGrowthBound", unfollowed := true, recurses := true, apart := false, narrowed := true }
def FnExactIsGrowthBoundUptoSaid : Prop := fnExactIsGrowthBoundUptoRow.holds Try.pinned (OpenSpec.upto fnExactIsGrowthBoundSpec)

/-- 'laws.FnExactBestGrowth', WHERE WHAT IT READS IS OF BULK AT MOST 1048576: true; the input reads as it did. -/
def fnExactBestGrowthUptoRow : OpenClaim := { program := "ytlajjggemadajaa", sum := "ecaca7e8dcf24a6bcbe314649f79ec7892d00c205439fbd2df4543de9b2216f5", func := "loop.example/g01003/laws.FnExactBestGrowth", spec := "fnExactBestGrowth", unfollowed := true, recurses := true, apart := false, narrowed := true }
def FnExactBestGrowthUptoSaid : Prop := fnExactBestGrowthUptoRow.holds Try.pinned (OpenSpec.upto fnExactBestGrowthSpec)

/-- 'laws.FnExactGrowsFaster', WHERE WHAT IT READS IS OF BULK AT MOST 1048576: true; the input reads as it did. -/
def fnExactGrowsFasterUptoRow : OpenClaim := { program := "ytlajjggemadajaa", sum := "ecaca7e8dcf24a6bcbe314649f79ec7892d00c205439fbd2df4543de9b2216f5", func := "loop.example/g01003/laws.FnExactGrowsFaster", spec := "fnExactGrowsFaster", unfollowed := true, recurses := true, apart := false, narrowed := true }
def FnExactGrowsFasterUptoSaid : Prop := fnExactGrowsFasterUptoRow.holds Try.pinned (OpenSpec.upto fnExactGrowsFasterSpec)

/-- 'laws.FnExactGrowthBounds', WHERE WHAT IT READS IS OF BULK AT MOST 1048576: true; the input reads as it did. -/
def fnExactGrowthBoundsUptoRow : OpenClaim := { program := "ytlajjggemadajaa", sum := "ecaca7e8dcf24a6bcbe314649f79ec7892d00c205439fbd2df4543de9b2216f5", func := "loop.example/g01003/laws.FnExactGrowthBounds", spec := "fnExactGrowthBounds", unfollowed := true, recurses := true, apart := false, narrowed := true }
def FnExactGrowthBoundsUptoSaid : Prop := fnExactGrowthBoundsUptoRow.holds Try.pinned (OpenSpec.upto fnExactGrowthBoundsSpec)

end Rows
end Go.Proofs.Ytlajjggemadajaa
