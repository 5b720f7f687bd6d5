/-
  DERIVED. GIVEN WITH THE SEED: THE CARDS: each row of YtgebigiffoiagaaGreatDoorRows.lean that lists a variable, with what it lists TIED to the program's text (the seventh form; the later family's looks); each row that meets fmt, with fmt's text TOLD by the authors' own Lean function (tested against real Go, not proved from fmt's source: count such statements apart). THE CARD IS WHAT COUNTS. Prove the row's statement (the work); the ties are given (YtgebigiffoiagaaGreatDoorTie.lean); close each card by the builder's one call (the guide's Derived/Test/ToyasCard.lean, 'card_holds'). Laid BY PROGRAM, IN A SANDBOX (cutbox-door.mjs). By AI agents, Wed Nov 11 2026. No macro, syntax, notation, axiom, sorry.
-/
import Derived.Test.YtgebigiffoiagaaGreatDoorRows
import GoSem.ClaimSeven
namespace Go.Proofs.YtgebigiffoiagaaGreatDoor
namespace Rows

/-- THE TIED CARD OF 'laws.FnWalkCounts'. -/
def fnWalkCountsCard : Claim7 := { stood := { row := fnWalkCountsRow, standIns := [], harness := (true, "647b68a9626183e6f3cf091a2034781e8040bbe8abd24690a0f5d91ca163eeb0"), looks := false }, kinds := [], alts := [], laidByText := true, laidKinds := [.data, .data, .data], laidTests := true, laidLooks := .later }
def FnWalkCountsCardSaid : Prop := Claim7.holds Tryz.pinned (.plain (OpenSpec.ofChange fnWalkCountsSpec)) fnWalkCountsCard

/-- THE SECOND FORM's CARD OF 'laws.FnWalkCounts'. -/
def fnWalkCountsUptoCard : Claim7 := { stood := { row := fnWalkCountsUptoRow, standIns := [], harness := (true, "647b68a9626183e6f3cf091a2034781e8040bbe8abd24690a0f5d91ca163eeb0"), looks := false }, kinds := [], alts := [], laidByText := true, laidKinds := [.data, .data, .data], laidTests := true, laidLooks := .later }
def FnWalkCountsUptoCardSaid : Prop := Claim7.holds Tryz.pinned (.plain (OpenSpec.upto fnWalkCountsSpec)) fnWalkCountsUptoCard
end Rows
end Go.Proofs.YtgebigiffoiagaaGreatDoor
