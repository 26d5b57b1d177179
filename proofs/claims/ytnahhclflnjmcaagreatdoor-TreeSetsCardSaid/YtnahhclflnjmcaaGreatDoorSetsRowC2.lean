/- TreeSets: the row's facts, fact 2. -/
import Derived.Test.YtnahhclflnjmcaaGreatDoorSetsRowA
namespace Go.Proofs.YtnahhclflnjmcaaGreatDoor.treeSetsRow
open Go.ChangeShapes Go.WideShapes Go.ChangeAt Go.RowKit Go.Deep
theorem c2 : Tryz.prog.unfollowed 5 = Rows.treeSetsRow.unfollowed := by kernel_rfl
end Go.Proofs.YtnahhclflnjmcaaGreatDoor.treeSetsRow
