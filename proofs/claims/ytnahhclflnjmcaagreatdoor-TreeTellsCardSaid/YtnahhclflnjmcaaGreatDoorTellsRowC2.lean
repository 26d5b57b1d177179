/- TreeTells: the row's facts, fact 2. -/
import Derived.Test.YtnahhclflnjmcaaGreatDoorTellsRowA
namespace Go.Proofs.YtnahhclflnjmcaaGreatDoor.treeTellsRow
open Go.ChangeShapes Go.WideShapes Go.ChangeAt Go.RowKit Go.Deep
theorem c2 : Tryz.prog.unfollowed 3 = Rows.treeTellsRow.unfollowed := by kernel_rfl
end Go.Proofs.YtnahhclflnjmcaaGreatDoor.treeTellsRow
