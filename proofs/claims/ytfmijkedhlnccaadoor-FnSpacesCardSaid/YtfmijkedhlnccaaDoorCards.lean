/-
  DERIVED. GIVEN WITH THE SEED: THE CARDS: each row of YtfmijkedhlnccaaDoorRows.lean that lists a variable, with what it lists TIED to the program's text (the seventh form; the later family's looks); each row that meets fmt, with fmt's text TOLD by the authors' own Lean function (tested against real Go, not proved from fmt's source: count such statements apart). THE CARD IS WHAT COUNTS. Prove the row's statement (the work); the ties are given (YtfmijkedhlnccaaDoorTie.lean); close each card by the builder's one call (the guide's Derived/Test/ToyasCard.lean, 'card_holds'). Laid BY PROGRAM, IN A SANDBOX (cutbox-door.mjs). By AI agents, Wed Nov 11 2026. No macro, syntax, notation, axiom, sorry.
-/
import Derived.Test.YtfmijkedhlnccaaDoorRows
import GoSem.ClaimSeven
namespace Go.Proofs.YtfmijkedhlnccaaDoor
namespace Rows

/-- THE TIED CARD OF 'laws.FnSpaces'. -/
def fnSpacesCard : Claim7 := { stood := { row := fnSpacesRow, standIns := [], harness := (true, "a6973494b0fa96269edcc175e4925abe364404895d1336870a962c5ee6e2319c"), looks := false }, kinds := [], alts := [], laidByText := true, laidKinds := [.data, .data, .data], laidTests := true, laidLooks := .later }
def FnSpacesCardSaid : Prop := Claim7.holds Tryd.pinned (.plain (OpenSpec.ofChange fnSpacesSpec)) fnSpacesCard

/-- THE TIED CARD OF 'laws.FnExactSpaceText'. -/
def fnExactSpaceTextCard : Claim7 := { stood := { row := fnExactSpaceTextRow, standIns := [], harness := (true, "a6973494b0fa96269edcc175e4925abe364404895d1336870a962c5ee6e2319c"), looks := false }, kinds := [], alts := [], laidByText := true, laidKinds := [.data, .data, .data], laidTests := true, laidLooks := .later }
def FnExactSpaceTextCardSaid : Prop := Claim7.holds Tryd.pinned (.plain (OpenSpec.ofChange fnExactSpaceTextSpec)) fnExactSpaceTextCard

/-- THE SECOND FORM's CARD OF 'laws.FnSpaces'. -/
def fnSpacesUptoCard : Claim7 := { stood := { row := fnSpacesUptoRow, standIns := [], harness := (true, "a6973494b0fa96269edcc175e4925abe364404895d1336870a962c5ee6e2319c"), looks := false }, kinds := [], alts := [], laidByText := true, laidKinds := [.data, .data, .data], laidTests := true, laidLooks := .later }
def FnSpacesUptoCardSaid : Prop := Claim7.holds Tryd.pinned (.plain (OpenSpec.upto fnSpacesSpec)) fnSpacesUptoCard

/-- THE SECOND FORM's CARD OF 'laws.FnExactSpaceText'. -/
def fnExactSpaceTextUptoCard : Claim7 := { stood := { row := fnExactSpaceTextUptoRow, standIns := [], harness := (true, "a6973494b0fa96269edcc175e4925abe364404895d1336870a962c5ee6e2319c"), looks := false }, kinds := [], alts := [], laidByText := true, laidKinds := [.data, .data, .data], laidTests := true, laidLooks := .later }
def FnExactSpaceTextUptoCardSaid : Prop := Claim7.holds Tryd.pinned (.plain (OpenSpec.upto fnExactSpaceTextSpec)) fnExactSpaceTextUptoCard
end Rows
end Go.Proofs.YtfmijkedhlnccaaDoor
