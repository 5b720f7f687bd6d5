/-
  DERIVED. GIVEN WITH THE SEED: THE CARDS: each row of YtigabkbbbpokbaaGreatDoorRows.lean that lists a variable, with what it lists TIED to the program's text (the seventh form; the later family's looks); each row that meets fmt, with fmt's text TOLD by the authors' own Lean function (tested against real Go, not proved from fmt's source: count such statements apart). THE CARD IS WHAT COUNTS. Prove the row's statement (the work); the ties are given (YtigabkbbbpokbaaGreatDoorTie.lean); close each card by the builder's one call (the guide's Derived/Test/ToyasCard.lean, 'card_holds'). Laid BY PROGRAM, IN A SANDBOX (cutbox-door.mjs). By AI agents, Wed Nov 11 2026. No macro, syntax, notation, axiom, sorry.
-/
import Derived.Test.YtigabkbbbpokbaaGreatDoorRows
import GoSem.ClaimSeven
namespace Go.Proofs.YtigabkbbbpokbaaGreatDoor
namespace Rows

/-- THE TIED CARD OF 'laws.FnLifts'. -/
def fnLiftsCard : Claim7 := { stood := { row := fnLiftsRow, standIns := [], harness := (true, "6cc84935ae4de8f9de0d0943d4e5bebb76aacba9de42d901ae2de946a7f623ba"), looks := true }, kinds := [], alts := [], laidByText := true, laidKinds := [.data, .data, .data, .sentinel, .sentinel], laidTests := true, laidLooks := .later }
def FnLiftsCardSaid : Prop := Claim7.holds Tryz.pinned (.plain (OpenSpec.ofChange fnLiftsSpec)) fnLiftsCard

/-- THE SECOND FORM's CARD OF 'laws.FnLifts'. -/
def fnLiftsUptoCard : Claim7 := { stood := { row := fnLiftsUptoRow, standIns := [], harness := (true, "6cc84935ae4de8f9de0d0943d4e5bebb76aacba9de42d901ae2de946a7f623ba"), looks := true }, kinds := [], alts := [], laidByText := true, laidKinds := [.data, .data, .data, .sentinel, .sentinel], laidTests := true, laidLooks := .later }
def FnLiftsUptoCardSaid : Prop := Claim7.holds Tryz.pinned (.plain (OpenSpec.upto fnLiftsSpec)) fnLiftsUptoCard
end Rows
end Go.Proofs.YtigabkbbbpokbaaGreatDoor
