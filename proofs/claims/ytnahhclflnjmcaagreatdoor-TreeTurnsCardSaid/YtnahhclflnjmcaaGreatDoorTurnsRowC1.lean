/- TreeTurns: the row's facts, fact 1. -/
import Derived.Test.YtnahhclflnjmcaaGreatDoorTurnsRowA
namespace Go.Proofs.YtnahhclflnjmcaaGreatDoor.treeTurnsRow
open Go.ChangeShapes Go.WideShapes Go.ChangeAt Go.RowKit Go.Deep
theorem c1 : Tryz.prog.inPlace 4 = Rows.treeTurnsRow.inPlace := by kernel_rfl
end Go.Proofs.YtnahhclflnjmcaaGreatDoor.treeTurnsRow
