/-
  DERIVED. GIVEN WITH THE SEED: THE CARDS: each row of YtgamijfefbhklaaGreatDoorRows.lean that lists a variable, with what it lists TIED to the program's text (the seventh form; the later family's looks); each row that meets fmt, with fmt's text TOLD by the authors' own Lean function (tested against real Go, not proved from fmt's source: count such statements apart). THE CARD IS WHAT COUNTS. Prove the row's statement (the work); the ties are given (YtgamijfefbhklaaGreatDoorTie.lean); close each card by the builder's one call (the guide's Derived/Test/ToyasCard.lean, 'card_holds'). Laid BY PROGRAM, IN A SANDBOX (cutbox-door.mjs). By AI agents, Wed Nov 11 2026. No macro, syntax, notation, axiom, sorry.
-/
import Derived.Test.YtgamijfefbhklaaGreatDoorRows
import GoSem.ClaimSeven
namespace Go.Proofs.YtgamijfefbhklaaGreatDoor
namespace Rows

/-- THE TIED CARD OF 'laws.FnExactHeightFor'. -/
def fnExactHeightForCard : Claim7 := { stood := { row := fnExactHeightForRow, standIns := [], harness := (true, "3715503fa09e1745ded76272b24762831e50af5212f40f1e77425e652f435179"), looks := false }, kinds := [], alts := [], laidByText := true, laidKinds := [.data, .pinned], laidTests := true, laidLooks := .later }
def FnExactHeightForCardSaid : Prop := Claim7.holds Tryz.pinned (.plain (OpenSpec.ofChange fnExactHeightForSpec)) fnExactHeightForCard

/-- THE TIED CARD OF 'laws.FnKneading'. -/
def fnKneadingCard : Claim7 := { stood := { row := fnKneadingRow, standIns := [], harness := (true, "3715503fa09e1745ded76272b24762831e50af5212f40f1e77425e652f435179"), looks := false }, kinds := [], alts := [], laidByText := true, laidKinds := [.data, .pinned], laidTests := true, laidLooks := .later }
def FnKneadingCardSaid : Prop := Claim7.holds Tryz.pinned (.plain (OpenSpec.ofChange fnKneadingSpec)) fnKneadingCard

/-- THE SECOND FORM's CARD OF 'laws.FnExactHeightFor'. -/
def fnExactHeightForUptoCard : Claim7 := { stood := { row := fnExactHeightForUptoRow, standIns := [], harness := (true, "3715503fa09e1745ded76272b24762831e50af5212f40f1e77425e652f435179"), looks := false }, kinds := [], alts := [], laidByText := true, laidKinds := [.data, .pinned], laidTests := true, laidLooks := .later }
def FnExactHeightForUptoCardSaid : Prop := Claim7.holds Tryz.pinned (.plain (OpenSpec.upto fnExactHeightForSpec)) fnExactHeightForUptoCard

/-- THE SECOND FORM's CARD OF 'laws.FnKneading'. -/
def fnKneadingUptoCard : Claim7 := { stood := { row := fnKneadingUptoRow, standIns := [], harness := (true, "3715503fa09e1745ded76272b24762831e50af5212f40f1e77425e652f435179"), looks := false }, kinds := [], alts := [], laidByText := true, laidKinds := [.data, .pinned], laidTests := true, laidLooks := .later }
def FnKneadingUptoCardSaid : Prop := Claim7.holds Tryz.pinned (.plain (OpenSpec.upto fnKneadingSpec)) fnKneadingUptoCard
end Rows
end Go.Proofs.YtgamijfefbhklaaGreatDoor
