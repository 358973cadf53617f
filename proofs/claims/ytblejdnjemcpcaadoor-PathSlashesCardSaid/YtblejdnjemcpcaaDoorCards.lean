/-
  DERIVED. GIVEN WITH THE SEED: THE CARDS: each row of YtblejdnjemcpcaaDoorRows.lean that lists a variable, with what it lists TIED to the program's text (the seventh form; the later family's looks); each row that meets fmt, with fmt's text TOLD by the authors' own Lean function (tested against real Go, not proved from fmt's source: count such statements apart). THE CARD IS WHAT COUNTS. Prove the row's statement (the work); the ties are given (YtblejdnjemcpcaaDoorTie.lean); close each card by the builder's one call (the guide's Derived/Test/ToyasCard.lean, 'card_holds'). Laid BY PROGRAM, IN A SANDBOX (cutbox-door.mjs). By AI agents, Wed Nov 11 2026. No macro, syntax, notation, axiom, sorry.
-/
import Derived.Test.YtblejdnjemcpcaaDoorRows
import GoSem.ClaimSeven
namespace Go.Proofs.YtblejdnjemcpcaaDoor
namespace Rows

/-- THE TIED CARD OF 'purlinlaw12.PathTells'. -/
def pathTellsCard : Claim7 := { stood := { row := pathTellsRow, standIns := [], harness := (true, "186732936f4d3031f7a6e4e2660ed60d518c204d8e61ac7112bd71c1bd490ba2"), looks := false }, kinds := [], alts := [], laidByText := true, laidKinds := [.data, .pinned], laidTests := true, laidLooks := .later }
def PathTellsCardSaid : Prop := Claim7.holds Tryd.pinned (.plain (OpenSpec.ofChange pathTellsSpec)) pathTellsCard

/-- THE TIED CARD OF 'purlinlaw12.PathClean'. -/
def pathCleanCard : Claim7 := { stood := { row := pathCleanRow, standIns := [], harness := (true, "186732936f4d3031f7a6e4e2660ed60d518c204d8e61ac7112bd71c1bd490ba2"), looks := false }, kinds := [], alts := [], laidByText := true, laidKinds := [.data, .pinned], laidTests := true, laidLooks := .later }
def PathCleanCardSaid : Prop := Claim7.holds Tryd.pinned (.plain (OpenSpec.ofChange pathCleanSpec)) pathCleanCard

/-- THE TIED CARD OF 'purlinlaw12.PathParts'. -/
def pathPartsCard : Claim7 := { stood := { row := pathPartsRow, standIns := [], harness := (true, "186732936f4d3031f7a6e4e2660ed60d518c204d8e61ac7112bd71c1bd490ba2"), looks := false }, kinds := [], alts := [], laidByText := true, laidKinds := [.data, .pinned], laidTests := true, laidLooks := .later }
def PathPartsCardSaid : Prop := Claim7.holds Tryd.pinned (.plain (OpenSpec.ofChange pathPartsSpec)) pathPartsCard

/-- THE TIED CARD OF 'purlinlaw12.PathTargets'. -/
def pathTargetsCard : Claim7 := { stood := { row := pathTargetsRow, standIns := [], harness := (true, "186732936f4d3031f7a6e4e2660ed60d518c204d8e61ac7112bd71c1bd490ba2"), looks := false }, kinds := [], alts := [], laidByText := true, laidKinds := [.data, .pinned], laidTests := true, laidLooks := .later }
def PathTargetsCardSaid : Prop := Claim7.holds Tryd.pinned (.plain (OpenSpec.ofChange pathTargetsSpec)) pathTargetsCard

/-- THE TIED CARD OF 'purlinlaw12.PathSlashes'. -/
def pathSlashesCard : Claim7 := { stood := { row := pathSlashesRow, standIns := [], harness := (true, "186732936f4d3031f7a6e4e2660ed60d518c204d8e61ac7112bd71c1bd490ba2"), looks := false }, kinds := [], alts := [], laidByText := true, laidKinds := [.data, .pinned], laidTests := true, laidLooks := .later }
def PathSlashesCardSaid : Prop := Claim7.holds Tryd.pinned (.plain (OpenSpec.ofChange pathSlashesSpec)) pathSlashesCard

/-- THE SECOND FORM's CARD OF 'purlinlaw12.PathTells'. -/
def pathTellsUptoCard : Claim7 := { stood := { row := pathTellsUptoRow, standIns := [], harness := (true, "186732936f4d3031f7a6e4e2660ed60d518c204d8e61ac7112bd71c1bd490ba2"), looks := false }, kinds := [], alts := [], laidByText := true, laidKinds := [.data, .pinned], laidTests := true, laidLooks := .later }
def PathTellsUptoCardSaid : Prop := Claim7.holds Tryd.pinned (.plain (OpenSpec.upto pathTellsSpec)) pathTellsUptoCard

/-- THE SECOND FORM's CARD OF 'purlinlaw12.PathClean'. -/
def pathCleanUptoCard : Claim7 := { stood := { row := pathCleanUptoRow, standIns := [], harness := (true, "186732936f4d3031f7a6e4e2660ed60d518c204d8e61ac7112bd71c1bd490ba2"), looks := false }, kinds := [], alts := [], laidByText := true, laidKinds := [.data, .pinned], laidTests := true, laidLooks := .later }
def PathCleanUptoCardSaid : Prop := Claim7.holds Tryd.pinned (.plain (OpenSpec.upto pathCleanSpec)) pathCleanUptoCard

/-- THE SECOND FORM's CARD OF 'purlinlaw12.PathParts'. -/
def pathPartsUptoCard : Claim7 := { stood := { row := pathPartsUptoRow, standIns := [], harness := (true, "186732936f4d3031f7a6e4e2660ed60d518c204d8e61ac7112bd71c1bd490ba2"), looks := false }, kinds := [], alts := [], laidByText := true, laidKinds := [.data, .pinned], laidTests := true, laidLooks := .later }
def PathPartsUptoCardSaid : Prop := Claim7.holds Tryd.pinned (.plain (OpenSpec.upto pathPartsSpec)) pathPartsUptoCard

/-- THE SECOND FORM's CARD OF 'purlinlaw12.PathTargets'. -/
def pathTargetsUptoCard : Claim7 := { stood := { row := pathTargetsUptoRow, standIns := [], harness := (true, "186732936f4d3031f7a6e4e2660ed60d518c204d8e61ac7112bd71c1bd490ba2"), looks := false }, kinds := [], alts := [], laidByText := true, laidKinds := [.data, .pinned], laidTests := true, laidLooks := .later }
def PathTargetsUptoCardSaid : Prop := Claim7.holds Tryd.pinned (.plain (OpenSpec.upto pathTargetsSpec)) pathTargetsUptoCard

/-- THE SECOND FORM's CARD OF 'purlinlaw12.PathSlashes'. -/
def pathSlashesUptoCard : Claim7 := { stood := { row := pathSlashesUptoRow, standIns := [], harness := (true, "186732936f4d3031f7a6e4e2660ed60d518c204d8e61ac7112bd71c1bd490ba2"), looks := false }, kinds := [], alts := [], laidByText := true, laidKinds := [.data, .pinned], laidTests := true, laidLooks := .later }
def PathSlashesUptoCardSaid : Prop := Claim7.holds Tryd.pinned (.plain (OpenSpec.upto pathSlashesSpec)) pathSlashesUptoCard
end Rows
end Go.Proofs.YtblejdnjemcpcaaDoor
