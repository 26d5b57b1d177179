/- TreeTurns: the row's facts, fact 3. -/
import Derived.Test.YtnahhclflnjmcaaGreatDoorTurnsRowA
namespace Go.Proofs.YtnahhclflnjmcaaGreatDoor.treeTurnsRow
open Go.ChangeShapes Go.WideShapes Go.ChangeAt Go.RowKit Go.Deep
theorem c3 : Tryz.prog.recurses 4 = Rows.treeTurnsRow.recurses := by kernel_rfl
end Go.Proofs.YtnahhclflnjmcaaGreatDoor.treeTurnsRow
