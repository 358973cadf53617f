/-
  DERIVED. GIVEN WITH THE SEED: THE CARDS: each row of YtibjgmhhecbhbaaDoorRows.lean that lists a variable, with what it lists TIED to the program's text (the seventh form; the later family's looks); each row that meets fmt, with fmt's text TOLD by the authors' own Lean function (tested against real Go, not proved from fmt's source: count such statements apart). THE CARD IS WHAT COUNTS. Prove the row's statement (the work); the ties are given (YtibjgmhhecbhbaaDoorTie.lean); close each card by the builder's one call (the guide's Derived/Test/ToyasCard.lean, 'card_holds'). Laid BY PROGRAM, IN A SANDBOX (cutbox-door.mjs). By AI agents, Wed Nov 11 2026. No macro, syntax, notation, axiom, sorry.
-/
import Derived.Test.YtibjgmhhecbhbaaDoorRows
import GoSem.ClaimSeven
namespace Go.Proofs.YtibjgmhhecbhbaaDoor
namespace Rows

/-- THE TIED CARD OF 'purlinlaw25.SpellTells'. -/
def spellTellsCard : Claim7 := { stood := { row := spellTellsRow, standIns := [], harness := (true, "fd2307b8a8c102254cf6b7e1c10e4fb1a42ff11e45810994468bbfc61b4a78ab"), looks := true }, kinds := [], alts := [], laidByText := true, laidKinds := [.data, .data, .data, .data, .sentinel, .sentinel, .data, .pinned], laidTests := true, laidLooks := .later }
def SpellTellsCardSaid : Prop := Claim7.holds Tryd.pinned (.plain (OpenSpec.ofChange spellTellsSpec)) spellTellsCard

/-- THE TIED CARD OF 'purlinlaw25.SpellBack'. -/
def spellBackCard : Claim7 := { stood := { row := spellBackRow, standIns := [], harness := (true, "fd2307b8a8c102254cf6b7e1c10e4fb1a42ff11e45810994468bbfc61b4a78ab"), looks := true }, kinds := [], alts := [], laidByText := true, laidKinds := [.data, .data, .data, .data, .sentinel, .sentinel, .data, .pinned], laidTests := true, laidLooks := .later }
def SpellBackCardSaid : Prop := Claim7.holds Tryd.pinned (.plain (OpenSpec.ofChange spellBackSpec)) spellBackCard

/-- THE TIED CARD OF 'purlinlaw25.SpellLong'. -/
def spellLongCard : Claim7 := { stood := { row := spellLongRow, standIns := [], harness := (true, "fd2307b8a8c102254cf6b7e1c10e4fb1a42ff11e45810994468bbfc61b4a78ab"), looks := true }, kinds := [], alts := [], laidByText := true, laidKinds := [.data, .data, .data, .data, .sentinel, .sentinel, .data, .pinned], laidTests := true, laidLooks := .later }
def SpellLongCardSaid : Prop := Claim7.holds Tryd.pinned (.plain (OpenSpec.ofChange spellLongSpec)) spellLongCard

/-- THE SECOND FORM's CARD OF 'purlinlaw25.SpellTells'. -/
def spellTellsUptoCard : Claim7 := { stood := { row := spellTellsUptoRow, standIns := [], harness := (true, "fd2307b8a8c102254cf6b7e1c10e4fb1a42ff11e45810994468bbfc61b4a78ab"), looks := true }, kinds := [], alts := [], laidByText := true, laidKinds := [.data, .data, .data, .data, .sentinel, .sentinel, .data, .pinned], laidTests := true, laidLooks := .later }
def SpellTellsUptoCardSaid : Prop := Claim7.holds Tryd.pinned (.plain (OpenSpec.upto spellTellsSpec)) spellTellsUptoCard

/-- THE SECOND FORM's CARD OF 'purlinlaw25.SpellBack'. -/
def spellBackUptoCard : Claim7 := { stood := { row := spellBackUptoRow, standIns := [], harness := (true, "fd2307b8a8c102254cf6b7e1c10e4fb1a42ff11e45810994468bbfc61b4a78ab"), looks := true }, kinds := [], alts := [], laidByText := true, laidKinds := [.data, .data, .data, .data, .sentinel, .sentinel, .data, .pinned], laidTests := true, laidLooks := .later }
def SpellBackUptoCardSaid : Prop := Claim7.holds Tryd.pinned (.plain (OpenSpec.upto spellBackSpec)) spellBackUptoCard

/-- THE SECOND FORM's CARD OF 'purlinlaw25.SpellLong'. -/
def spellLongUptoCard : Claim7 := { stood := { row := spellLongUptoRow, standIns := [], harness := (true, "fd2307b8a8c102254cf6b7e1c10e4fb1a42ff11e45810994468bbfc61b4a78ab"), looks := true }, kinds := [], alts := [], laidByText := true, laidKinds := [.data, .data, .data, .data, .sentinel, .sentinel, .data, .pinned], laidTests := true, laidLooks := .later }
def SpellLongUptoCardSaid : Prop := Claim7.holds Tryd.pinned (.plain (OpenSpec.upto spellLongSpec)) spellLongUptoCard
end Rows
end Go.Proofs.YtibjgmhhecbhbaaDoor
