/-
  No cell of these rows narrows 'for every input' (looked for: loops, veiled, ifaces, maps, wideKeys, modest, calm, conditions, laid).
  DERIVED. THE GIVEN ROWS OF THIS SEAT. 12 by the template 'for every input the law returns true; each argument reads behind the call as it read before'; 0 by the template 'total and deterministic' (their statements: YtbdedaimgddjoaaTotals.lean).
  GIVEN WITH THE SEED: the statements are not yours to turn. If you find one false, say at which input.
  Laid BY PROGRAM, IN A SANDBOX (cutbox-rows.mjs): the forced cells as the released guide's own fill.sh prints them over the translation 4d0608a32782075d… (all of the seat's roots in one cut). By AI agents, Wed Nov 11 2026. No macro, syntax, notation, axiom, sorry.
-/
import Derived.Test.YtbdedaimgddjoaaChecked
import GoSem.Claim
import GoSem.ClaimJoined
import GoSem.ClaimMapViews
import Derived.JoinedTies
import Derived.KernelRfl
namespace Go.Proofs.Ytbdedaimgddjoaa
/- THE CELL 'sum', in the pinned program and in every row, IS THE sha256 OF THE DUMP (.gsa) THAT YtbdedaimgddjoaaProg.lean LOADS. Nothing in Lean hashes anything: it is a label: what it is worth is what the hold of that sum in a sandbox is worth. -/
noncomputable def Try.pinned : Pinned := { name := "ytbdedaimgddjoaa", sum := "4d0608a32782075d67e2a0200f6de8f8875d93eba16306a1a88f137237580d97", checked := Try.checked }
namespace Rows
def none {H : Type} : Left H := { results := [], args := [] }

/-- 'laws.FnExactIsVector': WHATEVER THE INPUT: true; the input reads as it did. -/
def fnExactIsVectorSpec : ChangeSpec := { name := "fnExactIsVector", fn := fun _ => fun
  | [d] => { results := [.lit (.bool true)], args := [d] }
  | _ => none }
def fnExactIsVectorRow : OpenClaim := { program := "ytbdedaimgddjoaa", sum := "4d0608a32782075d67e2a0200f6de8f8875d93eba16306a1a88f137237580d97", func := "loop.example/g01003/laws.FnExactIsVector", spec := "fnExactIsVector", unfollowed := true, recurses := true, apart := false }
def FnExactIsVectorSaid : Prop := fnExactIsVectorRow.holds Try.pinned (OpenSpec.ofChange fnExactIsVectorSpec)

/-- ITS FALSE NEIGHBOUR: 'it returns false'. Refute it at one input. -/
def fnExactIsVectorWrong : ChangeSpec := { name := "fnExactIsVector", fn := fun _ => fun
  | [d] => { results := [.lit (.bool false)], args := [d] }
  | _ => none }
def FnExactIsVectorWrongFalsely : Prop := fnExactIsVectorRow.holds Try.pinned (OpenSpec.ofChange fnExactIsVectorWrong)

/-- 'laws.FnExactReduceRat': WHATEVER THE INPUT: true; the input reads as it did. -/
def fnExactReduceRatSpec : ChangeSpec := { name := "fnExactReduceRat", fn := fun _ => fun
  | [d] => { results := [.lit (.bool true)], args := [d] }
  | _ => none }
def fnExactReduceRatRow : OpenClaim := { program := "ytbdedaimgddjoaa", sum := "4d0608a32782075d67e2a0200f6de8f8875d93eba16306a1a88f137237580d97", func := "loop.example/g01003/laws.FnExactReduceRat", spec := "fnExactReduceRat", apart := false }
def FnExactReduceRatSaid : Prop := fnExactReduceRatRow.holds Try.pinned (OpenSpec.ofChange fnExactReduceRatSpec)

/-- ITS FALSE NEIGHBOUR: 'it returns false'. Refute it at one input. -/
def fnExactReduceRatWrong : ChangeSpec := { name := "fnExactReduceRat", fn := fun _ => fun
  | [d] => { results := [.lit (.bool false)], args := [d] }
  | _ => none }
def FnExactReduceRatWrongFalsely : Prop := fnExactReduceRatRow.holds Try.pinned (OpenSpec.ofChange fnExactReduceRatWrong)

/-- 'laws.FnExactTimesVector': WHATEVER THE INPUT: true; the input reads as it did. -/
def fnExactTimesVectorSpec : ChangeSpec := { name := "fnExactTimesVector", fn := fun _ => fun
  | [d1, d2] => { results := [.lit (.bool true)], args := [d1, d2] }
  | _ => none }
def fnExactTimesVectorRow : OpenClaim := { program := "ytbdedaimgddjoaa", sum := "4d0608a32782075d67e2a0200f6de8f8875d93eba16306a1a88f137237580d97", func := "loop.example/g01003/laws.FnExactTimesVector", spec := "fnExactTimesVector", unfollowed := true, recurses := true, apart := false }
def FnExactTimesVectorSaid : Prop := fnExactTimesVectorRow.holds Try.pinned (OpenSpec.ofChange fnExactTimesVectorSpec)

/-- ITS FALSE NEIGHBOUR: 'it returns false'. Refute it at one input. -/
def fnExactTimesVectorWrong : ChangeSpec := { name := "fnExactTimesVector", fn := fun _ => fun
  | [d1, d2] => { results := [.lit (.bool false)], args := [d1, d2] }
  | _ => none }
def FnExactTimesVectorWrongFalsely : Prop := fnExactTimesVectorRow.holds Try.pinned (OpenSpec.ofChange fnExactTimesVectorWrong)

/-- 'laws.FnExactTotalWalks': WHATEVER THE INPUT: true; the input reads as it did. -/
def fnExactTotalWalksSpec : ChangeSpec := { name := "fnExactTotalWalks", fn := fun _ => fun
  | [d1, d2] => { results := [.lit (.bool true)], args := [d1, d2] }
  | _ => none }
def fnExactTotalWalksRow : OpenClaim := { program := "ytbdedaimgddjoaa", sum := "4d0608a32782075d67e2a0200f6de8f8875d93eba16306a1a88f137237580d97", func := "loop.example/g01003/laws.FnExactTotalWalks", spec := "fnExactTotalWalks", unfollowed := true, recurses := true, apart := false }
def FnExactTotalWalksSaid : Prop := fnExactTotalWalksRow.holds Try.pinned (OpenSpec.ofChange fnExactTotalWalksSpec)

/-- ITS FALSE NEIGHBOUR: 'it returns false'. Refute it at one input. -/
def fnExactTotalWalksWrong : ChangeSpec := { name := "fnExactTotalWalks", fn := fun _ => fun
  | [d1, d2] => { results := [.lit (.bool false)], args := [d1, d2] }
  | _ => none }
def FnExactTotalWalksWrongFalsely : Prop := fnExactTotalWalksRow.holds Try.pinned (OpenSpec.ofChange fnExactTotalWalksWrong)

/-- 'laws.FnExactRowSums': WHATEVER THE INPUT: true; the input reads as it did. -/
def fnExactRowSumsSpec : ChangeSpec := { name := "fnExactRowSums", fn := fun _ => fun
  | [d] => { results := [.lit (.bool true)], args := [d] }
  | _ => none }
def fnExactRowSumsRow : OpenClaim := { program := "ytbdedaimgddjoaa", sum := "4d0608a32782075d67e2a0200f6de8f8875d93eba16306a1a88f137237580d97", func := "loop.example/g01003/laws.FnExactRowSums", spec := "fnExactRowSums", unfollowed := true, recurses := true, apart := false }
def FnExactRowSumsSaid : Prop := fnExactRowSumsRow.holds Try.pinned (OpenSpec.ofChange fnExactRowSumsSpec)

/-- ITS FALSE NEIGHBOUR: 'it returns false'. Refute it at one input. -/
def fnExactRowSumsWrong : ChangeSpec := { name := "fnExactRowSums", fn := fun _ => fun
  | [d] => { results := [.lit (.bool false)], args := [d] }
  | _ => none }
def FnExactRowSumsWrongFalsely : Prop := fnExactRowSumsRow.holds Try.pinned (OpenSpec.ofChange fnExactRowSumsWrong)

/-- 'laws.FnExactWalkDigits': WHATEVER THE INPUT: true; the input reads as it did. -/
def fnExactWalkDigitsSpec : ChangeSpec := { name := "fnExactWalkDigits", fn := fun _ => fun
  | [d1, d2] => { results := [.lit (.bool true)], args := [d1, d2] }
  | _ => none }
def fnExactWalkDigitsRow : OpenClaim := { program := "ytbdedaimgddjoaa", sum := "4d0608a32782075d67e2a0200f6de8f8875d93eba16306a1a88f137237580d97", func := "loop.example/g01003/laws.FnExactWalkDigits", spec := "fnExactWalkDigits", unfollowed := true, recurses := true, apart := false }
def FnExactWalkDigitsSaid : Prop := fnExactWalkDigitsRow.holds Try.pinned (OpenSpec.ofChange fnExactWalkDigitsSpec)

/-- ITS FALSE NEIGHBOUR: 'it returns false'. Refute it at one input. -/
def fnExactWalkDigitsWrong : ChangeSpec := { name := "fnExactWalkDigits", fn := fun _ => fun
  | [d1, d2] => { results := [.lit (.bool false)], args := [d1, d2] }
  | _ => none }
def FnExactWalkDigitsWrongFalsely : Prop := fnExactWalkDigitsRow.holds Try.pinned (OpenSpec.ofChange fnExactWalkDigitsWrong)

/-- 'laws.FnExactCycleCount': WHATEVER THE INPUT: true; the input reads as it did. -/
def fnExactCycleCountSpec : ChangeSpec := { name := "fnExactCycleCount", fn := fun _ => fun
  | [d1, d2] => { results := [.lit (.bool true)], args := [d1, d2] }
  | _ => none }
def fnExactCycleCountRow : OpenClaim := { program := "ytbdedaimgddjoaa", sum := "4d0608a32782075d67e2a0200f6de8f8875d93eba16306a1a88f137237580d97", func := "loop.example/g01003/laws.FnExactCycleCount", spec := "fnExactCycleCount", unfollowed := true, recurses := true, apart := false }
def FnExactCycleCountSaid : Prop := fnExactCycleCountRow.holds Try.pinned (OpenSpec.ofChange fnExactCycleCountSpec)

/-- ITS FALSE NEIGHBOUR: 'it returns false'. Refute it at one input. -/
def fnExactCycleCountWrong : ChangeSpec := { name := "fnExactCycleCount", fn := fun _ => fun
  | [d1, d2] => { results := [.lit (.bool false)], args := [d1, d2] }
  | _ => none }
def FnExactCycleCountWrongFalsely : Prop := fnExactCycleCountRow.holds Try.pinned (OpenSpec.ofChange fnExactCycleCountWrong)

/-- 'laws.FnExactWalkVector': WHATEVER THE INPUT: true; the input reads as it did. -/
def fnExactWalkVectorSpec : ChangeSpec := { name := "fnExactWalkVector", fn := fun _ => fun
  | [d1, d2] => { results := [.lit (.bool true)], args := [d1, d2] }
  | _ => none }
def fnExactWalkVectorRow : OpenClaim := { program := "ytbdedaimgddjoaa", sum := "4d0608a32782075d67e2a0200f6de8f8875d93eba16306a1a88f137237580d97", func := "loop.example/g01003/laws.FnExactWalkVector", spec := "fnExactWalkVector", unfollowed := true, recurses := true, apart := false }
def FnExactWalkVectorSaid : Prop := fnExactWalkVectorRow.holds Try.pinned (OpenSpec.ofChange fnExactWalkVectorSpec)

/-- ITS FALSE NEIGHBOUR: 'it returns false'. Refute it at one input. -/
def fnExactWalkVectorWrong : ChangeSpec := { name := "fnExactWalkVector", fn := fun _ => fun
  | [d1, d2] => { results := [.lit (.bool false)], args := [d1, d2] }
  | _ => none }
def FnExactWalkVectorWrongFalsely : Prop := fnExactWalkVectorRow.holds Try.pinned (OpenSpec.ofChange fnExactWalkVectorWrong)

/-- 'laws.FnExactCharacteristicOf': WHATEVER THE INPUT: true; the input reads as it did. -/
def fnExactCharacteristicOfSpec : ChangeSpec := { name := "fnExactCharacteristicOf", fn := fun _ => fun
  | [d] => { results := [.lit (.bool true)], args := [d] }
  | _ => none }
def fnExactCharacteristicOfRow : OpenClaim := { program := "ytbdedaimgddjoaa", sum := "4d0608a32782075d67e2a0200f6de8f8875d93eba16306a1a88f137237580d97", func := "loop.example/g01003/laws.FnExactCharacteristicOf", spec := "fnExactCharacteristicOf", unfollowed := true, recurses := true, apart := false }
def FnExactCharacteristicOfSaid : Prop := fnExactCharacteristicOfRow.holds Try.pinned (OpenSpec.ofChange fnExactCharacteristicOfSpec)

/-- ITS FALSE NEIGHBOUR: 'it returns false'. Refute it at one input. -/
def fnExactCharacteristicOfWrong : ChangeSpec := { name := "fnExactCharacteristicOf", fn := fun _ => fun
  | [d] => { results := [.lit (.bool false)], args := [d] }
  | _ => none }
def FnExactCharacteristicOfWrongFalsely : Prop := fnExactCharacteristicOfRow.holds Try.pinned (OpenSpec.ofChange fnExactCharacteristicOfWrong)

/-- 'laws.FnExactZetaDenominator': WHATEVER THE INPUT: true; the input reads as it did. -/
def fnExactZetaDenominatorSpec : ChangeSpec := { name := "fnExactZetaDenominator", fn := fun _ => fun
  | [d] => { results := [.lit (.bool true)], args := [d] }
  | _ => none }
def fnExactZetaDenominatorRow : OpenClaim := { program := "ytbdedaimgddjoaa", sum := "4d0608a32782075d67e2a0200f6de8f8875d93eba16306a1a88f137237580d97", func := "loop.example/g01003/laws.FnExactZetaDenominator", spec := "fnExactZetaDenominator", unfollowed := true, recurses := true, apart := false }
def FnExactZetaDenominatorSaid : Prop := fnExactZetaDenominatorRow.holds Try.pinned (OpenSpec.ofChange fnExactZetaDenominatorSpec)

/-- ITS FALSE NEIGHBOUR: 'it returns false'. Refute it at one input. -/
def fnExactZetaDenominatorWrong : ChangeSpec := { name := "fnExactZetaDenominator", fn := fun _ => fun
  | [d] => { results := [.lit (.bool false)], args := [d] }
  | _ => none }
def FnExactZetaDenominatorWrongFalsely : Prop := fnExactZetaDenominatorRow.holds Try.pinned (OpenSpec.ofChange fnExactZetaDenominatorWrong)

/-- 'laws.FnExactCycleTable': WHATEVER THE INPUT: true; the input reads as it did. -/
def fnExactCycleTableSpec : ChangeSpec := { name := "fnExactCycleTable", fn := fun _ => fun
  | [d1, d2] => { results := [.lit (.bool true)], args := [d1, d2] }
  | _ => none }
def fnExactCycleTableRow : OpenClaim := { program := "ytbdedaimgddjoaa", sum := "4d0608a32782075d67e2a0200f6de8f8875d93eba16306a1a88f137237580d97", func := "loop.example/g01003/laws.FnExactCycleTable", spec := "fnExactCycleTable", unfollowed := true, recurses := true, apart := false }
def FnExactCycleTableSaid : Prop := fnExactCycleTableRow.holds Try.pinned (OpenSpec.ofChange fnExactCycleTableSpec)

/-- ITS FALSE NEIGHBOUR: 'it returns false'. Refute it at one input. -/
def fnExactCycleTableWrong : ChangeSpec := { name := "fnExactCycleTable", fn := fun _ => fun
  | [d1, d2] => { results := [.lit (.bool false)], args := [d1, d2] }
  | _ => none }
def FnExactCycleTableWrongFalsely : Prop := fnExactCycleTableRow.holds Try.pinned (OpenSpec.ofChange fnExactCycleTableWrong)

/-- 'laws.FnExactRatioBounds': WHATEVER THE INPUT: true; the input reads as it did. -/
def fnExactRatioBoundsSpec : ChangeSpec := { name := "fnExactRatioBounds", fn := fun _ => fun
  | [d1, d2] => { results := [.lit (.bool true)], args := [d1, d2] }
  | _ => none }
def fnExactRatioBoundsRow : OpenClaim := { program := "ytbdedaimgddjoaa", sum := "4d0608a32782075d67e2a0200f6de8f8875d93eba16306a1a88f137237580d97", func := "loop.example/g01003/laws.FnExactRatioBounds", spec := "fnExactRatioBounds", unfollowed := true, recurses := true, apart := false }
def FnExactRatioBoundsSaid : Prop := fnExactRatioBoundsRow.holds Try.pinned (OpenSpec.ofChange fnExactRatioBoundsSpec)

/-- ITS FALSE NEIGHBOUR: 'it returns false'. Refute it at one input. -/
def fnExactRatioBoundsWrong : ChangeSpec := { name := "fnExactRatioBounds", fn := fun _ => fun
  | [d1, d2] => { results := [.lit (.bool false)], args := [d1, d2] }
  | _ => none }
def FnExactRatioBoundsWrongFalsely : Prop := fnExactRatioBoundsRow.holds Try.pinned (OpenSpec.ofChange fnExactRatioBoundsWrong)

/- THE SECOND FORM. 'bulk': how many values and letters a reading holds, each counted each time it is reached (what is shared counts as often as it is met; a slice's spare places count too). A statement '..UptoSaid' is the law's where the arguments, and the package variables that the reading takes, are together of bulk at most 1048576: NARROWER than '..Said'. Prove '..Said' where nothing that the law and all that it calls make is longer than what came in: it says more and counts as full. Else prove '..UptoSaid'. A law counts once. -/
mutual
def uptoBulk {H : Type} : DataW H → Nat
  | .lit (.string bytes) => bytes.length + 1
  | .lit _ => 1
  | .nil => 1
  | .ptr d => uptoBulk d + 1
  | .slice elems spare => uptoBulkAll elems + uptoBulkAll spare + 1
  | .agg parts => uptoBulkAll parts + 1
  | .iface _ d => uptoBulk d + 1
  | .map entries => uptoBulkEntries entries + 1
  | .held _ => 1
def uptoBulkAll {H : Type} : List (DataW H) → Nat
  | [] => 0
  | d :: r => uptoBulk d + uptoBulkAll r
def uptoBulkEntries {H : Type} : List (Lit × DataW H) → Nat
  | [] => 0
  | x :: r => uptoBulkEntry x + uptoBulkEntries r
def uptoBulkEntry {H : Type} : Lit × DataW H → Nat
  | (.string bytes, d) => bytes.length + uptoBulk d + 1
  | (_, d) => uptoBulk d + 1
 end
def uptoSmall : (H : Type) → List (DataW H) → Bool := fun _ ds => decide (uptoBulkAll ds ≤ 1048576)
def OpenSpec.upto (s : _root_.Go.ChangeSpec) : _root_.Go.OpenSpec := { _root_.Go.OpenSpec.ofChange s with cond := some uptoSmall }

/-- 'laws.FnExactIsVector', WHERE WHAT IT READS IS OF BULK AT MOST 1048576: true; the input reads as it did. -/
def fnExactIsVectorUptoRow : OpenClaim := { program := "ytbdedaimgddjoaa", sum := "4d0608a32782075d67e2a0200f6de8f8875d93eba16306a1a88f137237580d97", func := "loop.example/g01003/laws.FnExactIsVector", spec := "fnExactIsVector", unfollowed := true, recurses := true, apart := false, narrowed := true }
def FnExactIsVectorUptoSaid : Prop := fnExactIsVectorUptoRow.holds Try.pinned (OpenSpec.upto fnExactIsVectorSpec)

/-- 'laws.FnExactReduceRat', WHERE WHAT IT READS IS OF BULK AT MOST 1048576: true; the input reads as it did. -/
def fnExactReduceRatUptoRow : OpenClaim := { program := "ytbdedaimgddjoaa", sum := "4d0608a32782075d67e2a0200f6de8f8875d93eba16306a1a88f137237580d97", func := "loop.example/g01003/laws.FnExactReduceRat", spec := "fnExactReduceRat", apart := false, narrowed := true }
def FnExactReduceRatUptoSaid : Prop := fnExactReduceRatUptoRow.holds Try.pinned (OpenSpec.upto fnExactReduceRatSpec)

/-- 'laws.FnExactTimesVector', WHERE WHAT IT READS IS OF BULK AT MOST 1048576: true; the input reads as it did. -/
def fnExactTimesVectorUptoRow : OpenClaim := { program := "ytbdedaimgddjoaa", sum := "4d0608a32782075d67e2a0200f6de8f8875d93eba16306a1a88f137237580d97", func := "loop.example/g01003/laws.FnExactTimesVector", spec := "fnExactTimesVector", unfollowed := true, recurses := true, apart := false, narrowed := true }
def FnExactTimesVectorUptoSaid : Prop := fnExactTimesVectorUptoRow.holds Try.pinned (OpenSpec.upto fnExactTimesVectorSpec)

/-- 'laws.FnExactTotalWalks', WHERE WHAT IT READS IS OF BULK AT MOST 1048576: true; the input reads as it did. -/
def fnExactTotalWalksUptoRow : OpenClaim := { program := "ytbdedaimgddjoaa", sum := "4d0608a32782075d67e2a0200f6de8f8875d93eba16306a1a88f137237580d97", func := "loop.example/g01003/laws.FnExactTotalWalks", spec := "fnExactTotalWalks", unfollowed := true, recurses := true, apart := false, narrowed := true }
def FnExactTotalWalksUptoSaid : Prop := fnExactTotalWalksUptoRow.holds Try.pinned (OpenSpec.upto fnExactTotalWalksSpec)

/-- 'laws.FnExactRowSums', WHERE WHAT IT READS IS OF BULK AT MOST 1048576: true; the input reads as it did. -/
def fnExactRowSumsUptoRow : OpenClaim := { program := "ytbdedaimgddjoaa", sum := "4d0608a32782075d67e2a0200f6de8f8875d93eba16306a1a88f137237580d97", func := "loop.example/g01003/laws.FnExactRowSums", spec := "fnExactRowSums", unfollowed := true, recurses := true, apart := false, narrowed := true }
def FnExactRowSumsUptoSaid : Prop := fnExactRowSumsUptoRow.holds Try.pinned (OpenSpec.upto fnExactRowSumsSpec)

/-- 'laws.FnExactWalkDigits', WHERE WHAT IT READS IS OF BULK AT MOST 1048576: true; the input reads as it did. -/
def fnExactWalkDigitsUptoRow : OpenClaim := { program := "ytbdedaimgddjoaa", sum := "4d0608a32782075d67e2a0200f6de8f8875d93eba16306a1a88f137237580d97", func := "loop.example/g01003/laws.FnExactWalkDigits", spec := "fnExactWalkDigits", unfollowed := true, recurses := true, apart := false, narrowed := true }
def FnExactWalkDigitsUptoSaid : Prop := fnExactWalkDigitsUptoRow.holds Try.pinned (OpenSpec.upto fnExactWalkDigitsSpec)

/-- 'laws.FnExactCycleCount', WHERE WHAT IT READS IS OF BULK AT MOST 1048576: true; the input reads as it did. -/
def fnExactCycleCountUptoRow : OpenClaim := { program := "ytbdedaimgddjoaa", sum := "4d0608a32782075d67e2a0200f6de8f8875d93eba16306a1a88f137237580d97", func := "loop.example/g01003/laws.FnExactCycleCount", spec := "fnExactCycleCount", unfollowed := true, recurses := true, apart := false, narrowed := true }
def FnExactCycleCountUptoSaid : Prop := fnExactCycleCountUptoRow.holds Try.pinned (OpenSpec.upto fnExactCycleCountSpec)

/-- 'laws.FnExactWalkVector', WHERE WHAT IT READS IS OF BULK AT MOST 1048576: true; the input reads as it did. -/
def fnExactWalkVectorUptoRow : OpenClaim := { program := "ytbdedaimgddjoaa", sum := "4d0608a32782075d67e2a0200f6de8f8875d93eba16306a1a88f137237580d97", func := "loop.example/g01003/laws.FnExactWalkVector", spec := "fnExactWalkVector", unfollowed := true, recurses := true, apart := false, narrowed := true }
def FnExactWalkVectorUptoSaid : Prop := fnExactWalkVectorUptoRow.holds Try.pinned (OpenSpec.upto fnExactWalkVectorSpec)

/-- 'laws.FnExactCharacteristicOf', WHERE WHAT IT READS IS OF BULK AT MOST 1048576: true; the input reads as it did. -/
def fnExactCharacteristicOfUptoRow : OpenClaim := { program := "ytbdedaimgddjoaa", sum := "4d0608a32782075d67e2a0200f6de8f8875d93eba16306a1a88f137237580d97", func := "loop.example/g01003/laws.FnExactCharacteristicOf", spec := "fnExactCharacteristicOf", unfollowed := true, recurses := true, apart := false, narrowed := true }
def FnExactCharacteristicOfUptoSaid : Prop := fnExactCharacteristicOfUptoRow.holds Try.pinned (OpenSpec.upto fnExactCharacteristicOfSpec)

/-- 'laws.FnExactZetaDenominator', WHERE WHAT IT READS IS OF BULK AT MOST 1048576: true; the input reads as it did. -/
def fnExactZetaDenominatorUptoRow : OpenClaim := { program := "ytbdedaimgddjoaa", sum := "4d0608a32782075d67e2a0200f6de8f8875d93eba16306a1a88f137237580d97", func := "loop.example/g01003/laws.FnExactZetaDenominator", spec := "fnExactZetaDenominator", unfollowed := true, recurses := true, apart := false, narrowed := true }
def FnExactZetaDenominatorUptoSaid : Prop := fnExactZetaDenominatorUptoRow.holds Try.pinned (OpenSpec.upto fnExactZetaDenominatorSpec)

/-- 'laws.FnExactCycleTable', WHERE WHAT IT READS IS OF BULK AT MOST 1048576: true; the input reads as it did. -/
def fnExactCycleTableUptoRow : OpenClaim := { program := "ytbdedaimgddjoaa", sum := "4d0608a32782075d67e2a0200f6de8f8875d93eba16306a1a88f137237580d97", func := "loop.example/g01003/laws.FnExactCycleTable", spec := "fnExactCycleTable", unfollowed := true, recurses := true, apart := false, narrowed := true }
def FnExactCycleTableUptoSaid : Prop := fnExactCycleTableUptoRow.holds Try.pinned (OpenSpec.upto fnExactCycleTableSpec)

/-- 'laws.FnExactRatioBounds', WHERE WHAT IT READS IS OF BULK AT MOST 1048576: true; the input reads as it did. -/
def fnExactRatioBoundsUptoRow : OpenClaim := { program := "ytbdedaimgddjoaa", sum := "4d0608a32782075d67e2a0200f6de8f8875d93eba16306a1a88f137237580d97", func := "loop.example/g01003/laws.FnExactRatioBounds", spec := "fnExactRatioBounds", unfollowed := true, recurses := true, apart := false, narrowed := true }
def FnExactRatioBoundsUptoSaid : Prop := fnExactRatioBoundsUptoRow.holds Try.pinned (OpenSpec.upto fnExactRatioBoundsSpec)

end Rows
end Go.Proofs.Ytbdedaimgddjoaa
