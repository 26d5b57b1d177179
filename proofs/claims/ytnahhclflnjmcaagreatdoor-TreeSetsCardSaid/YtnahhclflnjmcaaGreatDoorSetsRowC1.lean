/- TreeSets: the row's facts, fact 1. -/
import Derived.Test.YtnahhclflnjmcaaGreatDoorSetsRowA
namespace Go.Proofs.YtnahhclflnjmcaaGreatDoor.treeSetsRow
open Go.ChangeShapes Go.WideShapes Go.ChangeAt Go.RowKit Go.Deep
theorem c1 : Tryz.prog.inPlace 5 = Rows.treeSetsRow.inPlace := by kernel_rfl
end Go.Proofs.YtnahhclflnjmcaaGreatDoor.treeSetsRow
