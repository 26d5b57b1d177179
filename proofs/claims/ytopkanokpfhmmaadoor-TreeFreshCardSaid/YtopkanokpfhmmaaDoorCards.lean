/-
  DERIVED. GIVEN WITH THE SEED: THE CARDS: each row of YtopkanokpfhmmaaDoorRows.lean that lists a variable, with what it lists TIED to the program's text (the seventh form; the later family's looks); each row that meets fmt, with fmt's text TOLD by the authors' own Lean function (tested against real Go, not proved from fmt's source: count such statements apart). THE CARD IS WHAT COUNTS. Prove the row's statement (the work); the ties are given (YtopkanokpfhmmaaDoorTie.lean); close each card by the builder's one call (the guide's Derived/Test/ToyasCard.lean, 'card_holds'). Laid BY PROGRAM, IN A SANDBOX (cutbox-door.mjs). By AI agents, Wed Nov 11 2026. No macro, syntax, notation, axiom, sorry.
-/
import Derived.Test.YtopkanokpfhmmaaDoorRows
import GoSem.ClaimSeven
namespace Go.Proofs.YtopkanokpfhmmaaDoor
namespace Rows

/-- THE TIED CARD OF 'phratrylaw08.TreeStays'. -/
def treeStaysCard : Claim7 := { stood := { row := treeStaysRow, standIns := [], harness := (true, "ad7ebbf4e656603cfdae1e2c7b587827c0a60fce6925a415c658f0871b52c73f"), looks := false }, kinds := [], alts := [], laidByText := true, laidKinds := [.data], laidTests := true, laidLooks := .later }
def TreeStaysCardSaid : Prop := Claim7.holds Tryd.pinned (.plain (OpenSpec.ofChange treeStaysSpec)) treeStaysCard

/-- THE TIED CARD OF 'phratrylaw08.TreeFills'. -/
def treeFillsCard : Claim7 := { stood := { row := treeFillsRow, standIns := [], harness := (true, "ad7ebbf4e656603cfdae1e2c7b587827c0a60fce6925a415c658f0871b52c73f"), looks := false }, kinds := [], alts := [], laidByText := true, laidKinds := [.data], laidTests := true, laidLooks := .later }
def TreeFillsCardSaid : Prop := Claim7.holds Tryd.pinned (.plain (OpenSpec.ofChange treeFillsSpec)) treeFillsCard

/-- THE TIED CARD OF 'phratrylaw08.TreeForgets'. -/
def treeForgetsCard : Claim7 := { stood := { row := treeForgetsRow, standIns := [], harness := (true, "ad7ebbf4e656603cfdae1e2c7b587827c0a60fce6925a415c658f0871b52c73f"), looks := false }, kinds := [], alts := [], laidByText := true, laidKinds := [.data], laidTests := true, laidLooks := .later }
def TreeForgetsCardSaid : Prop := Claim7.holds Tryd.pinned (.plain (OpenSpec.ofChange treeForgetsSpec)) treeForgetsCard

/-- THE TIED CARD OF 'phratrylaw08.TreeCovers'. -/
def treeCoversCard : Claim7 := { stood := { row := treeCoversRow, standIns := [], harness := (true, "ad7ebbf4e656603cfdae1e2c7b587827c0a60fce6925a415c658f0871b52c73f"), looks := false }, kinds := [], alts := [], laidByText := true, laidKinds := [.data], laidTests := true, laidLooks := .later }
def TreeCoversCardSaid : Prop := Claim7.holds Tryd.pinned (.plain (OpenSpec.ofChange treeCoversSpec)) treeCoversCard

/-- THE TIED CARD OF 'phratrylaw08.TreeFresh'. -/
def treeFreshCard : Claim7 := { stood := { row := treeFreshRow, standIns := [], harness := (true, "ad7ebbf4e656603cfdae1e2c7b587827c0a60fce6925a415c658f0871b52c73f"), looks := false }, kinds := [], alts := [], laidByText := true, laidKinds := [.data], laidTests := true, laidLooks := .later }
def TreeFreshCardSaid : Prop := Claim7.holds Tryd.pinned (.plain (OpenSpec.ofChange treeFreshSpec)) treeFreshCard

/-- THE SECOND FORM's CARD OF 'phratrylaw08.TreeStays'. -/
def treeStaysUptoCard : Claim7 := { stood := { row := treeStaysUptoRow, standIns := [], harness := (true, "ad7ebbf4e656603cfdae1e2c7b587827c0a60fce6925a415c658f0871b52c73f"), looks := false }, kinds := [], alts := [], laidByText := true, laidKinds := [.data], laidTests := true, laidLooks := .later }
def TreeStaysUptoCardSaid : Prop := Claim7.holds Tryd.pinned (.plain (OpenSpec.upto treeStaysSpec)) treeStaysUptoCard

/-- THE SECOND FORM's CARD OF 'phratrylaw08.TreeFills'. -/
def treeFillsUptoCard : Claim7 := { stood := { row := treeFillsUptoRow, standIns := [], harness := (true, "ad7ebbf4e656603cfdae1e2c7b587827c0a60fce6925a415c658f0871b52c73f"), looks := false }, kinds := [], alts := [], laidByText := true, laidKinds := [.data], laidTests := true, laidLooks := .later }
def TreeFillsUptoCardSaid : Prop := Claim7.holds Tryd.pinned (.plain (OpenSpec.upto treeFillsSpec)) treeFillsUptoCard

/-- THE SECOND FORM's CARD OF 'phratrylaw08.TreeForgets'. -/
def treeForgetsUptoCard : Claim7 := { stood := { row := treeForgetsUptoRow, standIns := [], harness := (true, "ad7ebbf4e656603cfdae1e2c7b587827c0a60fce6925a415c658f0871b52c73f"), looks := false }, kinds := [], alts := [], laidByText := true, laidKinds := [.data], laidTests := true, laidLooks := .later }
def TreeForgetsUptoCardSaid : Prop := Claim7.holds Tryd.pinned (.plain (OpenSpec.upto treeForgetsSpec)) treeForgetsUptoCard

/-- THE SECOND FORM's CARD OF 'phratrylaw08.TreeCovers'. -/
def treeCoversUptoCard : Claim7 := { stood := { row := treeCoversUptoRow, standIns := [], harness := (true, "ad7ebbf4e656603cfdae1e2c7b587827c0a60fce6925a415c658f0871b52c73f"), looks := false }, kinds := [], alts := [], laidByText := true, laidKinds := [.data], laidTests := true, laidLooks := .later }
def TreeCoversUptoCardSaid : Prop := Claim7.holds Tryd.pinned (.plain (OpenSpec.upto treeCoversSpec)) treeCoversUptoCard

/-- THE SECOND FORM's CARD OF 'phratrylaw08.TreeFresh'. -/
def treeFreshUptoCard : Claim7 := { stood := { row := treeFreshUptoRow, standIns := [], harness := (true, "ad7ebbf4e656603cfdae1e2c7b587827c0a60fce6925a415c658f0871b52c73f"), looks := false }, kinds := [], alts := [], laidByText := true, laidKinds := [.data], laidTests := true, laidLooks := .later }
def TreeFreshUptoCardSaid : Prop := Claim7.holds Tryd.pinned (.plain (OpenSpec.upto treeFreshSpec)) treeFreshUptoCard
end Rows
end Go.Proofs.YtopkanokpfhmmaaDoor
