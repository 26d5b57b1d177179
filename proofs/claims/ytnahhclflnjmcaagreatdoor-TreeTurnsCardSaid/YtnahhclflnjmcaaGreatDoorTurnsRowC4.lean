/- TreeTurns: the row's facts, fact 4. -/
import Derived.Test.YtnahhclflnjmcaaGreatDoorTurnsRowA
namespace Go.Proofs.YtnahhclflnjmcaaGreatDoor.treeTurnsRow
open Go.ChangeShapes Go.WideShapes Go.ChangeAt Go.RowKit Go.Deep
theorem c4 : Tryz.prog.varsNamed 4 = Rows.treeTurnsRow.named := by kernel_rfl
end Go.Proofs.YtnahhclflnjmcaaGreatDoor.treeTurnsRow
