/- TreeTells: the row's facts, joined. -/
import Derived.Test.YtnahhclflnjmcaaGreatDoorTellsRowC1
import Derived.Test.YtnahhclflnjmcaaGreatDoorTellsRowC2
import Derived.Test.YtnahhclflnjmcaaGreatDoorTellsRowC3
import Derived.Test.YtnahhclflnjmcaaGreatDoorTellsRowC4
namespace Go.Proofs.YtnahhclflnjmcaaGreatDoor.treeTellsRow
open Go.ChangeShapes Go.WideShapes Go.ChangeAt Go.RowKit Go.Deep
theorem closed : joinedFacts Tryz.prog 3 Tryz.f3 (OpenSpec.ofChange Rows.treeTellsSpec).bare Rows.treeTellsRow = true := by
  unfold joinedFacts
  rw [c1, c2, c3, c4]
  kernel_rfl
end Go.Proofs.YtnahhclflnjmcaaGreatDoor.treeTellsRow
