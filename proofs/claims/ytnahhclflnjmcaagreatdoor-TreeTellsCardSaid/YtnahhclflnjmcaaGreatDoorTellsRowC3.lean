/- TreeTells: the row's facts, fact 3. -/
import Derived.Test.YtnahhclflnjmcaaGreatDoorTellsRowA
namespace Go.Proofs.YtnahhclflnjmcaaGreatDoor.treeTellsRow
open Go.ChangeShapes Go.WideShapes Go.ChangeAt Go.RowKit Go.Deep
theorem c3 : Tryz.prog.recurses 3 = Rows.treeTellsRow.recurses := by kernel_rfl
end Go.Proofs.YtnahhclflnjmcaaGreatDoor.treeTellsRow
