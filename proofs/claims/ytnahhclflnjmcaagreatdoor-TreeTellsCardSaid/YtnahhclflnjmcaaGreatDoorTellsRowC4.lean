/- TreeTells: the row's facts, fact 4. -/
import Derived.Test.YtnahhclflnjmcaaGreatDoorTellsRowA
namespace Go.Proofs.YtnahhclflnjmcaaGreatDoor.treeTellsRow
open Go.ChangeShapes Go.WideShapes Go.ChangeAt Go.RowKit Go.Deep
theorem c4 : Tryz.prog.varsNamed 3 = Rows.treeTellsRow.named := by kernel_rfl
end Go.Proofs.YtnahhclflnjmcaaGreatDoor.treeTellsRow
