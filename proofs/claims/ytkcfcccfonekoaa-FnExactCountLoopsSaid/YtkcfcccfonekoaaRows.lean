/-
  No cell of these rows narrows 'for every input' (looked for: loops, veiled, ifaces, maps, wideKeys, modest, calm, conditions, laid).
  DERIVED. THE GIVEN ROWS OF THIS SEAT. 11 by the template 'for every input the law returns true; each argument reads behind the call as it read before'; 0 by the template 'total and deterministic' (their statements: YtkcfcccfonekoaaTotals.lean).
  GIVEN WITH THE SEED: the statements are not yours to turn. If you find one false, say at which input.
  Laid BY PROGRAM, IN A SANDBOX (cutbox-rows.mjs): the forced cells as the released guide's own fill.sh prints them over the translation df7f960eaf5124e0… (all of the seat's roots in one cut). By AI agents, Wed Nov 11 2026. No macro, syntax, notation, axiom, sorry.
-/
import Derived.Test.YtkcfcccfonekoaaChecked
import GoSem.Claim
import GoSem.ClaimJoined
import GoSem.ClaimMapViews
import Derived.JoinedTies
import Derived.KernelRfl
namespace Go.Proofs.Ytkcfcccfonekoaa
/- THE CELL 'sum', in the pinned program and in every row, IS THE sha256 OF THE DUMP (.gsa) THAT YtkcfcccfonekoaaProg.lean LOADS. Nothing in Lean hashes anything: it is a label: what it is worth is what the hold of that sum in a sandbox is worth. -/
noncomputable def Try.pinned : Pinned := { name := "ytkcfcccfonekoaa", sum := "df7f960eaf5124e029ae58229ce7ec5f340d4e496a988ada91b0fdf306af753a", checked := Try.checked }
namespace Rows
def none {H : Type} : Left H := { results := [], args := [] }

/-- 'laws.FnExactVariationOf': WHATEVER THE INPUT: true; the input reads as it did. -/
def fnExactVariationOfSpec : ChangeSpec := { name := "fnExactVariationOf", fn := fun _ => fun
  | [d] => { results := [.lit (.bool true)], args := [d] }
  | _ => none }
def fnExactVariationOfRow : OpenClaim := { program := "ytkcfcccfonekoaa", sum := "df7f960eaf5124e029ae58229ce7ec5f340d4e496a988ada91b0fdf306af753a", func := "loop.example/g01003/laws.FnExactVariationOf", spec := "fnExactVariationOf", unfollowed := true, recurses := true, apart := false }
def FnExactVariationOfSaid : Prop := fnExactVariationOfRow.holds Try.pinned (OpenSpec.ofChange fnExactVariationOfSpec)

/-- ITS FALSE NEIGHBOUR: 'it returns false'. Refute it at one input. -/
def fnExactVariationOfWrong : ChangeSpec := { name := "fnExactVariationOf", fn := fun _ => fun
  | [d] => { results := [.lit (.bool false)], args := [d] }
  | _ => none }
def FnExactVariationOfWrongFalsely : Prop := fnExactVariationOfRow.holds Try.pinned (OpenSpec.ofChange fnExactVariationOfWrong)

/-- 'laws.FnExactIsStrict': WHATEVER THE INPUT: true; the input reads as it did. -/
def fnExactIsStrictSpec : ChangeSpec := { name := "fnExactIsStrict", fn := fun _ => fun
  | [d] => { results := [.lit (.bool true)], args := [d] }
  | _ => none }
def fnExactIsStrictRow : OpenClaim := { program := "ytkcfcccfonekoaa", sum := "df7f960eaf5124e029ae58229ce7ec5f340d4e496a988ada91b0fdf306af753a", func := "loop.example/g01003/laws.FnExactIsStrict", spec := "fnExactIsStrict", unfollowed := true, recurses := true, apart := false }
def FnExactIsStrictSaid : Prop := fnExactIsStrictRow.holds Try.pinned (OpenSpec.ofChange fnExactIsStrictSpec)

/-- ITS FALSE NEIGHBOUR: 'it returns false'. Refute it at one input. -/
def fnExactIsStrictWrong : ChangeSpec := { name := "fnExactIsStrict", fn := fun _ => fun
  | [d] => { results := [.lit (.bool false)], args := [d] }
  | _ => none }
def FnExactIsStrictWrongFalsely : Prop := fnExactIsStrictRow.holds Try.pinned (OpenSpec.ofChange fnExactIsStrictWrong)

/-- 'laws.FnExactLapBound': WHATEVER THE INPUT: true; the input reads as it did. -/
def fnExactLapBoundSpec : ChangeSpec := { name := "fnExactLapBound", fn := fun _ => fun
  | [d1, d2] => { results := [.lit (.bool true)], args := [d1, d2] }
  | _ => none }
def fnExactLapBoundRow : OpenClaim := { program := "ytkcfcccfonekoaa", sum := "df7f960eaf5124e029ae58229ce7ec5f340d4e496a988ada91b0fdf306af753a", func := "loop.example/g01003/laws.FnExactLapBound", spec := "fnExactLapBound", unfollowed := true, recurses := true, apart := false }
def FnExactLapBoundSaid : Prop := fnExactLapBoundRow.holds Try.pinned (OpenSpec.ofChange fnExactLapBoundSpec)

/-- ITS FALSE NEIGHBOUR: 'it returns false'. Refute it at one input. -/
def fnExactLapBoundWrong : ChangeSpec := { name := "fnExactLapBound", fn := fun _ => fun
  | [d1, d2] => { results := [.lit (.bool false)], args := [d1, d2] }
  | _ => none }
def FnExactLapBoundWrongFalsely : Prop := fnExactLapBoundRow.holds Try.pinned (OpenSpec.ofChange fnExactLapBoundWrong)

/-- 'laws.FnExactIsUnimodal': WHATEVER THE INPUT: true; the input reads as it did. -/
def fnExactIsUnimodalSpec : ChangeSpec := { name := "fnExactIsUnimodal", fn := fun _ => fun
  | [d] => { results := [.lit (.bool true)], args := [d] }
  | _ => none }
def fnExactIsUnimodalRow : OpenClaim := { program := "ytkcfcccfonekoaa", sum := "df7f960eaf5124e029ae58229ce7ec5f340d4e496a988ada91b0fdf306af753a", func := "loop.example/g01003/laws.FnExactIsUnimodal", spec := "fnExactIsUnimodal", unfollowed := true, recurses := true, apart := false }
def FnExactIsUnimodalSaid : Prop := fnExactIsUnimodalRow.holds Try.pinned (OpenSpec.ofChange fnExactIsUnimodalSpec)

/-- ITS FALSE NEIGHBOUR: 'it returns false'. Refute it at one input. -/
def fnExactIsUnimodalWrong : ChangeSpec := { name := "fnExactIsUnimodal", fn := fun _ => fun
  | [d] => { results := [.lit (.bool false)], args := [d] }
  | _ => none }
def FnExactIsUnimodalWrongFalsely : Prop := fnExactIsUnimodalRow.holds Try.pinned (OpenSpec.ofChange fnExactIsUnimodalWrong)

/-- 'laws.FnExactFullLaps': WHATEVER THE INPUT: true; the input reads as it did. -/
def fnExactFullLapsSpec : ChangeSpec := { name := "fnExactFullLaps", fn := fun _ => fun
  | [d] => { results := [.lit (.bool true)], args := [d] }
  | _ => none }
def fnExactFullLapsRow : OpenClaim := { program := "ytkcfcccfonekoaa", sum := "df7f960eaf5124e029ae58229ce7ec5f340d4e496a988ada91b0fdf306af753a", func := "loop.example/g01003/laws.FnExactFullLaps", spec := "fnExactFullLaps", unfollowed := true, recurses := true, apart := false }
def FnExactFullLapsSaid : Prop := fnExactFullLapsRow.holds Try.pinned (OpenSpec.ofChange fnExactFullLapsSpec)

/-- ITS FALSE NEIGHBOUR: 'it returns false'. Refute it at one input. -/
def fnExactFullLapsWrong : ChangeSpec := { name := "fnExactFullLaps", fn := fun _ => fun
  | [d] => { results := [.lit (.bool false)], args := [d] }
  | _ => none }
def FnExactFullLapsWrongFalsely : Prop := fnExactFullLapsRow.holds Try.pinned (OpenSpec.ofChange fnExactFullLapsWrong)

/-- 'laws.FnExactLapNumber': WHATEVER THE INPUT: true; the input reads as it did. -/
def fnExactLapNumberSpec : ChangeSpec := { name := "fnExactLapNumber", fn := fun _ => fun
  | [d1, d2] => { results := [.lit (.bool true)], args := [d1, d2] }
  | _ => none }
def fnExactLapNumberRow : OpenClaim := { program := "ytkcfcccfonekoaa", sum := "df7f960eaf5124e029ae58229ce7ec5f340d4e496a988ada91b0fdf306af753a", func := "loop.example/g01003/laws.FnExactLapNumber", spec := "fnExactLapNumber", unfollowed := true, recurses := true, apart := false }
def FnExactLapNumberSaid : Prop := fnExactLapNumberRow.holds Try.pinned (OpenSpec.ofChange fnExactLapNumberSpec)

/-- ITS FALSE NEIGHBOUR: 'it returns false'. Refute it at one input. -/
def fnExactLapNumberWrong : ChangeSpec := { name := "fnExactLapNumber", fn := fun _ => fun
  | [d1, d2] => { results := [.lit (.bool false)], args := [d1, d2] }
  | _ => none }
def FnExactLapNumberWrongFalsely : Prop := fnExactLapNumberRow.holds Try.pinned (OpenSpec.ofChange fnExactLapNumberWrong)

/-- 'laws.FnExactHighestAndLowest': WHATEVER THE INPUT: true; the input reads as it did. -/
def fnExactHighestAndLowestSpec : ChangeSpec := { name := "fnExactHighestAndLowest", fn := fun _ => fun
  | [d1, d2] => { results := [.lit (.bool true)], args := [d1, d2] }
  | _ => none }
def fnExactHighestAndLowestRow : OpenClaim := { program := "ytkcfcccfonekoaa", sum := "df7f960eaf5124e029ae58229ce7ec5f340d4e496a988ada91b0fdf306af753a", func := "loop.example/g01003/laws.FnExactHighestAndLowest", spec := "fnExactHighestAndLowest", unfollowed := true, recurses := true, apart := false }
def FnExactHighestAndLowestSaid : Prop := fnExactHighestAndLowestRow.holds Try.pinned (OpenSpec.ofChange fnExactHighestAndLowestSpec)

/-- ITS FALSE NEIGHBOUR: 'it returns false'. Refute it at one input. -/
def fnExactHighestAndLowestWrong : ChangeSpec := { name := "fnExactHighestAndLowest", fn := fun _ => fun
  | [d1, d2] => { results := [.lit (.bool false)], args := [d1, d2] }
  | _ => none }
def FnExactHighestAndLowestWrongFalsely : Prop := fnExactHighestAndLowestRow.holds Try.pinned (OpenSpec.ofChange fnExactHighestAndLowestWrong)

/-- 'laws.FnExactVariationOfIterate': WHATEVER THE INPUT: true; the input reads as it did. -/
def fnExactVariationOfIterateSpec : ChangeSpec := { name := "fnExactVariationOfIterate", fn := fun _ => fun
  | [d1, d2] => { results := [.lit (.bool true)], args := [d1, d2] }
  | _ => none }
def fnExactVariationOfIterateRow : OpenClaim := { program := "ytkcfcccfonekoaa", sum := "df7f960eaf5124e029ae58229ce7ec5f340d4e496a988ada91b0fdf306af753a", func := "loop.example/g01003/laws.FnExactVariationOfIterate", spec := "fnExactVariationOfIterate", unfollowed := true, recurses := true, apart := false }
def FnExactVariationOfIterateSaid : Prop := fnExactVariationOfIterateRow.holds Try.pinned (OpenSpec.ofChange fnExactVariationOfIterateSpec)

/-- ITS FALSE NEIGHBOUR: 'it returns false'. Refute it at one input. -/
def fnExactVariationOfIterateWrong : ChangeSpec := { name := "fnExactVariationOfIterate", fn := fun _ => fun
  | [d1, d2] => { results := [.lit (.bool false)], args := [d1, d2] }
  | _ => none }
def FnExactVariationOfIterateWrongFalsely : Prop := fnExactVariationOfIterateRow.holds Try.pinned (OpenSpec.ofChange fnExactVariationOfIterateWrong)

/-- 'laws.FnExactLapGrowth': WHATEVER THE INPUT: true; the input reads as it did. -/
def fnExactLapGrowthSpec : ChangeSpec := { name := "fnExactLapGrowth", fn := fun _ => fun
  | [d1, d2] => { results := [.lit (.bool true)], args := [d1, d2] }
  | _ => none }
def fnExactLapGrowthRow : OpenClaim := { program := "ytkcfcccfonekoaa", sum := "df7f960eaf5124e029ae58229ce7ec5f340d4e496a988ada91b0fdf306af753a", func := "loop.example/g01003/laws.FnExactLapGrowth", spec := "fnExactLapGrowth", unfollowed := true, recurses := true, apart := false }
def FnExactLapGrowthSaid : Prop := fnExactLapGrowthRow.holds Try.pinned (OpenSpec.ofChange fnExactLapGrowthSpec)

/-- ITS FALSE NEIGHBOUR: 'it returns false'. Refute it at one input. -/
def fnExactLapGrowthWrong : ChangeSpec := { name := "fnExactLapGrowth", fn := fun _ => fun
  | [d1, d2] => { results := [.lit (.bool false)], args := [d1, d2] }
  | _ => none }
def FnExactLapGrowthWrongFalsely : Prop := fnExactLapGrowthRow.holds Try.pinned (OpenSpec.ofChange fnExactLapGrowthWrong)

/-- 'laws.FnExactEndValues': WHATEVER THE INPUT: true; the input reads as it did. -/
def fnExactEndValuesSpec : ChangeSpec := { name := "fnExactEndValues", fn := fun _ => fun
  | [d1, d2] => { results := [.lit (.bool true)], args := [d1, d2] }
  | _ => none }
def fnExactEndValuesRow : OpenClaim := { program := "ytkcfcccfonekoaa", sum := "df7f960eaf5124e029ae58229ce7ec5f340d4e496a988ada91b0fdf306af753a", func := "loop.example/g01003/laws.FnExactEndValues", spec := "fnExactEndValues", unfollowed := true, recurses := true, apart := false }
def FnExactEndValuesSaid : Prop := fnExactEndValuesRow.holds Try.pinned (OpenSpec.ofChange fnExactEndValuesSpec)

/-- ITS FALSE NEIGHBOUR: 'it returns false'. Refute it at one input. -/
def fnExactEndValuesWrong : ChangeSpec := { name := "fnExactEndValues", fn := fun _ => fun
  | [d1, d2] => { results := [.lit (.bool false)], args := [d1, d2] }
  | _ => none }
def FnExactEndValuesWrongFalsely : Prop := fnExactEndValuesRow.holds Try.pinned (OpenSpec.ofChange fnExactEndValuesWrong)

/-- 'laws.FnExactCountLoops': WHATEVER THE INPUT: true; the input reads as it did. -/
def fnExactCountLoopsSpec : ChangeSpec := { name := "fnExactCountLoops", fn := fun _ => fun
  | [d1, d2, d3] => { results := [.lit (.bool true)], args := [d1, d2, d3] }
  | _ => none }
def fnExactCountLoopsRow : OpenClaim := { program := "ytkcfcccfonekoaa", sum := "df7f960eaf5124e029ae58229ce7ec5f340d4e496a988ada91b0fdf306af753a", func := "loop.example/g01003/laws.FnExactCountLoops", spec := "fnExactCountLoops", unfollowed := true, recurses := true, apart := false }
def FnExactCountLoopsSaid : Prop := fnExactCountLoopsRow.holds Try.pinned (OpenSpec.ofChange fnExactCountLoopsSpec)

/-- ITS FALSE NEIGHBOUR: 'it returns false'. Refute it at one input. -/
def fnExactCountLoopsWrong : ChangeSpec := { name := "fnExactCountLoops", fn := fun _ => fun
  | [d1, d2, d3] => { results := [.lit (.bool false)], args := [d1, d2, d3] }
  | _ => none }
def FnExactCountLoopsWrongFalsely : Prop := fnExactCountLoopsRow.holds Try.pinned (OpenSpec.ofChange fnExactCountLoopsWrong)

/- THE SECOND FORM. 'bulk': how many values and letters a reading holds, each counted each time it is reached (what is shared counts as often as it is met; a slice's spare places count too). A statement '..UptoSaid' is the law's where the arguments, and the package variables that the reading takes, are together of bulk at most 1048576: NARROWER than '..Said'. Prove '..Said' where nothing that the law and all that it calls make is longer than what came in: it says more and counts as full. Else prove '..UptoSaid'. A law counts once. -/
mutual
def uptoBulk {H : Type} : DataW H → Nat
  | .lit (.string bytes) => bytes.length + 1
  | .lit _ => 1
  | .nil => 1
  | .ptr d => uptoBulk d + 1
  | .slice elems spare => uptoBulkAll elems + uptoBulkAll spare + 1
  | .agg parts => uptoBulkAll parts + 1
  | .iface _ d => uptoBulk d + 1
  | .map entries => uptoBulkEntries entries + 1
  | .held _ => 1
def uptoBulkAll {H : Type} : List (DataW H) → Nat
  | [] => 0
  | d :: r => uptoBulk d + uptoBulkAll r
def uptoBulkEntries {H : Type} : List (Lit × DataW H) → Nat
  | [] => 0
  | x :: r => uptoBulkEntry x + uptoBulkEntries r
def uptoBulkEntry {H : Type} : Lit × DataW H → Nat
  | (.string bytes, d) => bytes.length + uptoBulk d + 1
  | (_, d) => uptoBulk d + 1
 end
def uptoSmall : (H : Type) → List (DataW H) → Bool := fun _ ds => decide (uptoBulkAll ds ≤ 1048576)
def OpenSpec.upto (s : _root_.Go.ChangeSpec) : _root_.Go.OpenSpec := { _root_.Go.OpenSpec.ofChange s with cond := some uptoSmall }

/-- 'laws.FnExactVariationOf', WHERE WHAT IT READS IS OF BULK AT MOST 1048576: true; the input reads as it did. -/
def fnExactVariationOfUptoRow : OpenClaim := { program := "ytkcfcccfonekoaa", sum := "df7f960eaf5124e029ae58229ce7ec5f340d4e496a988ada91b0fdf306af753a", func := "loop.example/g01003/laws.FnExactVariationOf", spec := "fnExactVariationOf", unfollowed := true, recurses := true, apart := false, narrowed := true }
def FnExactVariationOfUptoSaid : Prop := fnExactVariationOfUptoRow.holds Try.pinned (OpenSpec.upto fnExactVariationOfSpec)

/-- 'laws.FnExactIsStrict', WHERE WHAT IT READS IS OF BULK AT MOST 1048576: true; the input reads as it did. -/
def fnExactIsStrictUptoRow : OpenClaim := { program := "ytkcfcccfonekoaa", sum := "df7f960eaf5124e029ae58229ce7ec5f340d4e496a988ada91b0fdf306af753a", func := "loop.example/g01003/laws.FnExactIsStrict", spec := "fnExactIsStrict", unfollowed := true, recurses := true, apart := false, narrowed := true }
def FnExactIsStrictUptoSaid : Prop := fnExactIsStrictUptoRow.holds Try.pinned (OpenSpec.upto fnExactIsStrictSpec)

/-- 'laws.FnExactLapBound', WHERE WHAT IT READS IS OF BULK AT MOST 1048576: true; the input reads as it did. -/
def fnExactLapBoundUptoRow : OpenClaim := { program := "ytkcfcccfonekoaa", sum := "df7f960eaf5124e029ae58229ce7ec5f340d4e496a988ada91b0fdf306af753a", func := "loop.example/g01003/laws.FnExactLapBound", spec := "fnExactLapBound", unfollowed := true, recurses := true, apart := false, narrowed := true }
def FnExactLapBoundUptoSaid : Prop := fnExactLapBoundUptoRow.holds Try.pinned (OpenSpec.upto fnExactLapBoundSpec)

/-- 'laws.FnExactIsUnimodal', WHERE WHAT IT READS IS OF BULK AT MOST 1048576: true; the input reads as it did. -/
def fnExactIsUnimodalUptoRow : OpenClaim := { program := "ytkcfcccfonekoaa", sum := "df7f960eaf5124e029ae58229ce7ec5f340d4e496a988ada91b0fdf306af753a", func := "loop.example/g01003/laws.FnExactIsUnimodal", spec := "fnExactIsUnimodal", unfollowed := true, recurses := true, apart := false, narrowed := true }
def FnExactIsUnimodalUptoSaid : Prop := fnExactIsUnimodalUptoRow.holds Try.pinned (OpenSpec.upto fnExactIsUnimodalSpec)

/-- 'laws.FnExactFullLaps', WHERE WHAT IT READS IS OF BULK AT MOST 1048576: true; the input reads as it did. -/
def fnExactFullLapsUptoRow : OpenClaim := { program := "ytkcfcccfonekoaa", sum := "df7f960eaf5124e029ae58229ce7ec5f340d4e496a988ada91b0fdf306af753a", func := "loop.example/g01003/laws.FnExactFullLaps", spec := "fnExactFullLaps", unfollowed := true, recurses := true, apart := false, narrowed := true }
def FnExactFullLapsUptoSaid : Prop := fnExactFullLapsUptoRow.holds Try.pinned (OpenSpec.upto fnExactFullLapsSpec)

/-- 'laws.FnExactLapNumber', WHERE WHAT IT READS IS OF BULK AT MOST 1048576: true; the input reads as it did. -/
def fnExactLapNumberUptoRow : OpenClaim := { program := "ytkcfcccfonekoaa", sum := "df7f960eaf5124e029ae58229ce7ec5f340d4e496a988ada91b0fdf306af753a", func := "loop.example/g01003/laws.FnExactLapNumber", spec := "fnExactLapNumber", unfollowed := true, recurses := true, apart := false, narrowed := true }
def FnExactLapNumberUptoSaid : Prop := fnExactLapNumberUptoRow.holds Try.pinned (OpenSpec.upto fnExactLapNumberSpec)

/-- 'laws.FnExactHighestAndLowest', WHERE WHAT IT READS IS OF BULK AT MOST 1048576: true; the input reads as it did. -/
def fnExactHighestAndLowestUptoRow : OpenClaim := { program := "ytkcfcccfonekoaa", sum := "df7f960eaf5124e029ae58229ce7ec5f340d4e496a988ada91b0fdf306af753a", func := "loop.example/g01003/laws.FnExactHighestAndLowest", spec := "fnExactHighestAndLowest", unfollowed := true, recurses := true, apart := false, narrowed := true }
def FnExactHighestAndLowestUptoSaid : Prop := fnExactHighestAndLowestUptoRow.holds Try.pinned (OpenSpec.upto fnExactHighestAndLowestSpec)

/-- 'laws.FnExactVariationOfIterate', WHERE WHAT IT READS IS OF BULK AT MOST 1048576: true; the input reads as it did. -/
def fnExactVariationOfIterateUptoRow : OpenClaim := { program := "ytkcfcccfonekoaa", sum := "df7f960eaf5124e029ae58229ce7ec5f340d4e496a988ada91b0fdf306af753a", func := "loop.example/g01003/laws.FnExactVariationOfIterate", spec := "fnExactVariationOfIterate", unfollowed := true, recurses := true, apart := false, narrowed := true }
def FnExactVariationOfIterateUptoSaid : Prop := fnExactVariationOfIterateUptoRow.holds Try.pinned (OpenSpec.upto fnExactVariationOfIterateSpec)

/-- 'laws.FnExactLapGrowth', WHERE WHAT IT READS IS OF BULK AT MOST 1048576: true; the input reads as it did. -/
def fnExactLapGrowthUptoRow : OpenClaim := { program := "ytkcfcccfonekoaa", sum := "df7f960eaf5124e029ae58229ce7ec5f340d4e496a988ada91b0fdf306af753a", func := "loop.example/g01003/laws.FnExactLapGrowth", spec := "fnExactLapGrowth", unfollowed := true, recurses := true, apart := false, narrowed := true }
def FnExactLapGrowthUptoSaid : Prop := fnExactLapGrowthUptoRow.holds Try.pinned (OpenSpec.upto fnExactLapGrowthSpec)

/-- 'laws.FnExactEndValues', WHERE WHAT IT READS IS OF BULK AT MOST 1048576: true; the input reads as it did. -/
def fnExactEndValuesUptoRow : OpenClaim := { program := "ytkcfcccfonekoaa", sum := "df7f960eaf5124e029ae58229ce7ec5f340d4e496a988ada91b0fdf306af753a", func := "loop.example/g01003/laws.FnExactEndValues", spec := "fnExactEndValues", unfollowed := true, recurses := true, apart := false, narrowed := true }
def FnExactEndValuesUptoSaid : Prop := fnExactEndValuesUptoRow.holds Try.pinned (OpenSpec.upto fnExactEndValuesSpec)

/-- 'laws.FnExactCountLoops', WHERE WHAT IT READS IS OF BULK AT MOST 1048576: true; the input reads as it did. -/
def fnExactCountLoopsUptoRow : OpenClaim := { program := "ytkcfcccfonekoaa", sum := "df7f960eaf5124e029ae58229ce7ec5f340d4e496a988ada91b0fdf306af753a", func := "loop.example/g01003/laws.FnExactCountLoops", spec := "fnExactCountLoops", unfollowed := true, recurses := true, apart := false, narrowed := true }
def FnExactCountLoopsUptoSaid : Prop := fnExactCountLoopsUptoRow.holds Try.pinned (OpenSpec.upto fnExactCountLoopsSpec)

end Rows
end Go.Proofs.Ytkcfcccfonekoaa
