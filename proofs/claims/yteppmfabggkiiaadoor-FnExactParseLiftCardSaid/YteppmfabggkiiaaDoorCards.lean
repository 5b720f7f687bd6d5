/-
  DERIVED. GIVEN WITH THE SEED: THE CARDS: each row of YteppmfabggkiiaaDoorRows.lean that lists a variable, with what it lists TIED to the program's text (the seventh form; the later family's looks); each row that meets fmt, with fmt's text TOLD by the authors' own Lean function (tested against real Go, not proved from fmt's source: count such statements apart). THE CARD IS WHAT COUNTS. Prove the row's statement (the work); the ties are given (YteppmfabggkiiaaDoorTie.lean); close each card by the builder's one call (the guide's Derived/Test/ToyasCard.lean, 'card_holds'). Laid BY PROGRAM, IN A SANDBOX (cutbox-door.mjs). By AI agents, Wed Nov 11 2026. No macro, syntax, notation, axiom, sorry.
-/
import Derived.Test.YteppmfabggkiiaaDoorRows
import GoSem.ClaimSeven
namespace Go.Proofs.YteppmfabggkiiaaDoor
namespace Rows

/-- THE TIED CARD OF 'laws.FnExactParseLift'. -/
def fnExactParseLiftCard : Claim7 := { stood := { row := fnExactParseLiftRow, standIns := [], harness := (true, "db8f0c4d5faec9783788fe68d755abb9bf31639fd69ceeaad13990749a2ccc31"), looks := true }, kinds := [], alts := [], laidByText := true, laidKinds := [.data, .data, .data, .sentinel, .sentinel], laidTests := true, laidLooks := .later }
def FnExactParseLiftCardSaid : Prop := Claim7.holds Tryd.pinned (.plain (OpenSpec.ofChange fnExactParseLiftSpec)) fnExactParseLiftCard

/-- THE SECOND FORM's CARD OF 'laws.FnExactParseLift'. -/
def fnExactParseLiftUptoCard : Claim7 := { stood := { row := fnExactParseLiftUptoRow, standIns := [], harness := (true, "db8f0c4d5faec9783788fe68d755abb9bf31639fd69ceeaad13990749a2ccc31"), looks := true }, kinds := [], alts := [], laidByText := true, laidKinds := [.data, .data, .data, .sentinel, .sentinel], laidTests := true, laidLooks := .later }
def FnExactParseLiftUptoCardSaid : Prop := Claim7.holds Tryd.pinned (.plain (OpenSpec.upto fnExactParseLiftSpec)) fnExactParseLiftUptoCard
end Rows
end Go.Proofs.YteppmfabggkiiaaDoor
