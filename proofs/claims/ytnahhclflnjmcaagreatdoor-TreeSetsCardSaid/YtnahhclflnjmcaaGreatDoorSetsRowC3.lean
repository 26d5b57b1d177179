/- TreeSets: the row's facts, fact 3. -/
import Derived.Test.YtnahhclflnjmcaaGreatDoorSetsRowA
namespace Go.Proofs.YtnahhclflnjmcaaGreatDoor.treeSetsRow
open Go.ChangeShapes Go.WideShapes Go.ChangeAt Go.RowKit Go.Deep
theorem c3 : Tryz.prog.recurses 5 = Rows.treeSetsRow.recurses := by kernel_rfl
end Go.Proofs.YtnahhclflnjmcaaGreatDoor.treeSetsRow
