/- TreeTurns: the row's facts, fact 2. -/
import Derived.Test.YtnahhclflnjmcaaGreatDoorTurnsRowA
namespace Go.Proofs.YtnahhclflnjmcaaGreatDoor.treeTurnsRow
open Go.ChangeShapes Go.WideShapes Go.ChangeAt Go.RowKit Go.Deep
theorem c2 : Tryz.prog.unfollowed 4 = Rows.treeTurnsRow.unfollowed := by kernel_rfl
end Go.Proofs.YtnahhclflnjmcaaGreatDoor.treeTurnsRow
