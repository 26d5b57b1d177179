/- TreeTells: the row's facts, fact 1. -/
import Derived.Test.YtnahhclflnjmcaaGreatDoorTellsRowA
namespace Go.Proofs.YtnahhclflnjmcaaGreatDoor.treeTellsRow
open Go.ChangeShapes Go.WideShapes Go.ChangeAt Go.RowKit Go.Deep
theorem c1 : Tryz.prog.inPlace 3 = Rows.treeTellsRow.inPlace := by kernel_rfl
end Go.Proofs.YtnahhclflnjmcaaGreatDoor.treeTellsRow
