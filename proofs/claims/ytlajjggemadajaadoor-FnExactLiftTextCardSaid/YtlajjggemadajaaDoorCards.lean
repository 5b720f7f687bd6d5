/-
  DERIVED. GIVEN WITH THE SEED: THE CARDS: each row of YtlajjggemadajaaDoorRows.lean that lists a variable, with what it lists TIED to the program's text (the seventh form; the later family's looks); each row that meets fmt, with fmt's text TOLD by the authors' own Lean function (tested against real Go, not proved from fmt's source: count such statements apart). THE CARD IS WHAT COUNTS. Prove the row's statement (the work); the ties are given (YtlajjggemadajaaDoorTie.lean); close each card by the builder's one call (the guide's Derived/Test/ToyasCard.lean, 'card_holds'). Laid BY PROGRAM, IN A SANDBOX (cutbox-door.mjs). By AI agents, Wed Nov 11 2026. No macro, syntax, notation, axiom, sorry.
-/
import Derived.Test.YtlajjggemadajaaDoorRows
import GoSem.ClaimSeven
namespace Go.Proofs.YtlajjggemadajaaDoor
namespace Rows

/-- THE TIED CARD OF 'laws.FnExactLiftText'. -/
def fnExactLiftTextCard : Claim7 := { stood := { row := fnExactLiftTextRow, standIns := [], harness := (true, "913f6dd12a267f4e9f7e03e657e152ab87660774eaf43c9b9d1ebd656d094e7b"), looks := false }, kinds := [], alts := [], laidByText := true, laidKinds := [.data, .data, .data], laidTests := true, laidLooks := .later }
def FnExactLiftTextCardSaid : Prop := Claim7.holds Tryd.pinned (.plain (OpenSpec.ofChange fnExactLiftTextSpec)) fnExactLiftTextCard

/-- THE TIED CARD OF 'laws.FnExactBoundsText'. -/
def fnExactBoundsTextCard : Claim7 := { stood := { row := fnExactBoundsTextRow, standIns := [], harness := (true, "913f6dd12a267f4e9f7e03e657e152ab87660774eaf43c9b9d1ebd656d094e7b"), looks := false }, kinds := [], alts := [], laidByText := true, laidKinds := [.data, .data, .data], laidTests := true, laidLooks := .later }
def FnExactBoundsTextCardSaid : Prop := Claim7.holds Tryd.pinned (.plain (OpenSpec.ofChange fnExactBoundsTextSpec)) fnExactBoundsTextCard

/-- THE SECOND FORM's CARD OF 'laws.FnExactLiftText'. -/
def fnExactLiftTextUptoCard : Claim7 := { stood := { row := fnExactLiftTextUptoRow, standIns := [], harness := (true, "913f6dd12a267f4e9f7e03e657e152ab87660774eaf43c9b9d1ebd656d094e7b"), looks := false }, kinds := [], alts := [], laidByText := true, laidKinds := [.data, .data, .data], laidTests := true, laidLooks := .later }
def FnExactLiftTextUptoCardSaid : Prop := Claim7.holds Tryd.pinned (.plain (OpenSpec.upto fnExactLiftTextSpec)) fnExactLiftTextUptoCard

/-- THE SECOND FORM's CARD OF 'laws.FnExactBoundsText'. -/
def fnExactBoundsTextUptoCard : Claim7 := { stood := { row := fnExactBoundsTextUptoRow, standIns := [], harness := (true, "913f6dd12a267f4e9f7e03e657e152ab87660774eaf43c9b9d1ebd656d094e7b"), looks := false }, kinds := [], alts := [], laidByText := true, laidKinds := [.data, .data, .data], laidTests := true, laidLooks := .later }
def FnExactBoundsTextUptoCardSaid : Prop := Claim7.holds Tryd.pinned (.plain (OpenSpec.upto fnExactBoundsTextSpec)) fnExactBoundsTextUptoCard
end Rows
end Go.Proofs.YtlajjggemadajaaDoor
