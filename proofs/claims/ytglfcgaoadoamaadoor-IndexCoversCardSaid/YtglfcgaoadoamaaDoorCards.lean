/-
  DERIVED. GIVEN WITH THE SEED: THE CARDS: each row of YtglfcgaoadoamaaDoorRows.lean that lists a variable, with what it lists TIED to the program's text (the seventh form; the later family's looks); each row that meets fmt, with fmt's text TOLD by the authors' own Lean function (tested against real Go, not proved from fmt's source: count such statements apart). THE CARD IS WHAT COUNTS. Prove the row's statement (the work); the ties are given (YtglfcgaoadoamaaDoorTie.lean); close each card by the builder's one call (the guide's Derived/Test/ToyasCard.lean, 'card_holds'). Laid BY PROGRAM, IN A SANDBOX (cutbox-door.mjs). By AI agents, Wed Nov 11 2026. No macro, syntax, notation, axiom, sorry.
-/
import Derived.Test.YtglfcgaoadoamaaDoorRows
import GoSem.ClaimSeven
namespace Go.Proofs.YtglfcgaoadoamaaDoor
namespace Rows

/-- THE TIED CARD OF 'phratrylaw02.IndexMeets'. -/
def indexMeetsCard : Claim7 := { stood := { row := indexMeetsRow, standIns := [], harness := (true, "aa6bcf604ade0669286b4d9889d271732b5a71c0bc1459215ef26a44b1f90ff5"), looks := false }, kinds := [], alts := [], laidByText := true, laidKinds := [.data], laidTests := true, laidLooks := .later }
def IndexMeetsCardSaid : Prop := Claim7.holds Tryd.pinned (.plain (OpenSpec.ofChange indexMeetsSpec)) indexMeetsCard

/-- THE TIED CARD OF 'phratrylaw02.IndexPaths'. -/
def indexPathsCard : Claim7 := { stood := { row := indexPathsRow, standIns := [], harness := (true, "aa6bcf604ade0669286b4d9889d271732b5a71c0bc1459215ef26a44b1f90ff5"), looks := false }, kinds := [], alts := [], laidByText := true, laidKinds := [.data], laidTests := true, laidLooks := .later }
def IndexPathsCardSaid : Prop := Claim7.holds Tryd.pinned (.plain (OpenSpec.ofChange indexPathsSpec)) indexPathsCard

/-- THE TIED CARD OF 'phratrylaw02.IndexCovers'. -/
def indexCoversCard : Claim7 := { stood := { row := indexCoversRow, standIns := [], harness := (true, "aa6bcf604ade0669286b4d9889d271732b5a71c0bc1459215ef26a44b1f90ff5"), looks := false }, kinds := [], alts := [], laidByText := true, laidKinds := [.data], laidTests := true, laidLooks := .later }
def IndexCoversCardSaid : Prop := Claim7.holds Tryd.pinned (.plain (OpenSpec.ofChange indexCoversSpec)) indexCoversCard

/-- THE TIED CARD OF 'phratrylaw02.IndexNodes'. -/
def indexNodesCard : Claim7 := { stood := { row := indexNodesRow, standIns := [], harness := (true, "aa6bcf604ade0669286b4d9889d271732b5a71c0bc1459215ef26a44b1f90ff5"), looks := false }, kinds := [], alts := [], laidByText := true, laidKinds := [.data], laidTests := true, laidLooks := .later }
def IndexNodesCardSaid : Prop := Claim7.holds Tryd.pinned (.plain (OpenSpec.ofChange indexNodesSpec)) indexNodesCard

/-- THE TIED CARD OF 'phratrylaw02.IndexFamily'. -/
def indexFamilyCard : Claim7 := { stood := { row := indexFamilyRow, standIns := [], harness := (true, "aa6bcf604ade0669286b4d9889d271732b5a71c0bc1459215ef26a44b1f90ff5"), looks := false }, kinds := [], alts := [], laidByText := true, laidKinds := [.data], laidTests := true, laidLooks := .later }
def IndexFamilyCardSaid : Prop := Claim7.holds Tryd.pinned (.plain (OpenSpec.ofChange indexFamilySpec)) indexFamilyCard

/-- THE SECOND FORM's CARD OF 'phratrylaw02.IndexMeets'. -/
def indexMeetsUptoCard : Claim7 := { stood := { row := indexMeetsUptoRow, standIns := [], harness := (true, "aa6bcf604ade0669286b4d9889d271732b5a71c0bc1459215ef26a44b1f90ff5"), looks := false }, kinds := [], alts := [], laidByText := true, laidKinds := [.data], laidTests := true, laidLooks := .later }
def IndexMeetsUptoCardSaid : Prop := Claim7.holds Tryd.pinned (.plain (OpenSpec.upto indexMeetsSpec)) indexMeetsUptoCard

/-- THE SECOND FORM's CARD OF 'phratrylaw02.IndexPaths'. -/
def indexPathsUptoCard : Claim7 := { stood := { row := indexPathsUptoRow, standIns := [], harness := (true, "aa6bcf604ade0669286b4d9889d271732b5a71c0bc1459215ef26a44b1f90ff5"), looks := false }, kinds := [], alts := [], laidByText := true, laidKinds := [.data], laidTests := true, laidLooks := .later }
def IndexPathsUptoCardSaid : Prop := Claim7.holds Tryd.pinned (.plain (OpenSpec.upto indexPathsSpec)) indexPathsUptoCard

/-- THE SECOND FORM's CARD OF 'phratrylaw02.IndexCovers'. -/
def indexCoversUptoCard : Claim7 := { stood := { row := indexCoversUptoRow, standIns := [], harness := (true, "aa6bcf604ade0669286b4d9889d271732b5a71c0bc1459215ef26a44b1f90ff5"), looks := false }, kinds := [], alts := [], laidByText := true, laidKinds := [.data], laidTests := true, laidLooks := .later }
def IndexCoversUptoCardSaid : Prop := Claim7.holds Tryd.pinned (.plain (OpenSpec.upto indexCoversSpec)) indexCoversUptoCard

/-- THE SECOND FORM's CARD OF 'phratrylaw02.IndexNodes'. -/
def indexNodesUptoCard : Claim7 := { stood := { row := indexNodesUptoRow, standIns := [], harness := (true, "aa6bcf604ade0669286b4d9889d271732b5a71c0bc1459215ef26a44b1f90ff5"), looks := false }, kinds := [], alts := [], laidByText := true, laidKinds := [.data], laidTests := true, laidLooks := .later }
def IndexNodesUptoCardSaid : Prop := Claim7.holds Tryd.pinned (.plain (OpenSpec.upto indexNodesSpec)) indexNodesUptoCard

/-- THE SECOND FORM's CARD OF 'phratrylaw02.IndexFamily'. -/
def indexFamilyUptoCard : Claim7 := { stood := { row := indexFamilyUptoRow, standIns := [], harness := (true, "aa6bcf604ade0669286b4d9889d271732b5a71c0bc1459215ef26a44b1f90ff5"), looks := false }, kinds := [], alts := [], laidByText := true, laidKinds := [.data], laidTests := true, laidLooks := .later }
def IndexFamilyUptoCardSaid : Prop := Claim7.holds Tryd.pinned (.plain (OpenSpec.upto indexFamilySpec)) indexFamilyUptoCard
end Rows
end Go.Proofs.YtglfcgaoadoamaaDoor
