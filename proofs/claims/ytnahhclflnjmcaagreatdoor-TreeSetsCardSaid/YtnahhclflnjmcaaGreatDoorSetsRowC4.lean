/- TreeSets: the row's facts, fact 4. -/
import Derived.Test.YtnahhclflnjmcaaGreatDoorSetsRowA
namespace Go.Proofs.YtnahhclflnjmcaaGreatDoor.treeSetsRow
open Go.ChangeShapes Go.WideShapes Go.ChangeAt Go.RowKit Go.Deep
theorem c4 : Tryz.prog.varsNamed 5 = Rows.treeSetsRow.named := by kernel_rfl
end Go.Proofs.YtnahhclflnjmcaaGreatDoor.treeSetsRow
