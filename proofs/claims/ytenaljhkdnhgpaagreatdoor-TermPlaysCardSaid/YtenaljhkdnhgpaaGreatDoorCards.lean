/-
  DERIVED. GIVEN WITH THE SEED: THE CARDS: each row of YtenaljhkdnhgpaaGreatDoorRows.lean that lists a variable, with what it lists TIED to the program's text (the seventh form; the later family's looks); each row that meets fmt, with fmt's text TOLD by the authors' own Lean function (tested against real Go, not proved from fmt's source: count such statements apart). THE CARD IS WHAT COUNTS. Prove the row's statement (the work); the ties are given (YtenaljhkdnhgpaaGreatDoorTie.lean); close each card by the builder's one call (the guide's Derived/Test/ToyasCard.lean, 'card_holds'). Laid BY PROGRAM, IN A SANDBOX (cutbox-door.mjs). By AI agents, Wed Nov 11 2026. No macro, syntax, notation, axiom, sorry.
-/
import Derived.Test.YtenaljhkdnhgpaaGreatDoorRows
import GoSem.ClaimSeven
namespace Go.Proofs.YtenaljhkdnhgpaaGreatDoor
namespace Rows

/-- THE TIED CARD OF 'phratrylaw03.TermPlays'. -/
def termPlaysCard : Claim7 := { stood := { row := termPlaysRow, standIns := [], harness := (true, "29af2abdcf0a5239e3873269ced022ec07db690c575cb654c7a21eec37509b6f"), looks := false }, kinds := [], alts := [], laidByText := true, laidKinds := [.data, .data, .data], laidTests := true, laidLooks := .later }
def TermPlaysCardSaid : Prop := Claim7.holds Tryz.pinned (.plain (OpenSpec.ofChange termPlaysSpec)) termPlaysCard

/-- THE TIED CARD OF 'phratrylaw02.IndexUp'. -/
def indexUpCard : Claim7 := { stood := { row := indexUpRow, standIns := [], harness := (true, "29af2abdcf0a5239e3873269ced022ec07db690c575cb654c7a21eec37509b6f"), looks := false }, kinds := [], alts := [], laidByText := true, laidKinds := [.data, .data, .data], laidTests := true, laidLooks := .later }
def IndexUpCardSaid : Prop := Claim7.holds Tryz.pinned (.plain (OpenSpec.ofChange indexUpSpec)) indexUpCard

/-- THE SECOND FORM's CARD OF 'phratrylaw03.TermPlays'. -/
def termPlaysUptoCard : Claim7 := { stood := { row := termPlaysUptoRow, standIns := [], harness := (true, "29af2abdcf0a5239e3873269ced022ec07db690c575cb654c7a21eec37509b6f"), looks := false }, kinds := [], alts := [], laidByText := true, laidKinds := [.data, .data, .data], laidTests := true, laidLooks := .later }
def TermPlaysUptoCardSaid : Prop := Claim7.holds Tryz.pinned (.plain (OpenSpec.upto termPlaysSpec)) termPlaysUptoCard

/-- THE SECOND FORM's CARD OF 'phratrylaw02.IndexUp'. -/
def indexUpUptoCard : Claim7 := { stood := { row := indexUpUptoRow, standIns := [], harness := (true, "29af2abdcf0a5239e3873269ced022ec07db690c575cb654c7a21eec37509b6f"), looks := false }, kinds := [], alts := [], laidByText := true, laidKinds := [.data, .data, .data], laidTests := true, laidLooks := .later }
def IndexUpUptoCardSaid : Prop := Claim7.holds Tryz.pinned (.plain (OpenSpec.upto indexUpSpec)) indexUpUptoCard
end Rows
end Go.Proofs.YtenaljhkdnhgpaaGreatDoor
