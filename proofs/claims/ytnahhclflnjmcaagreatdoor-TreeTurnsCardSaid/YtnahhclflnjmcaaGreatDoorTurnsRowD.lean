/- TreeTurns: the row's facts, joined. -/
import Derived.Test.YtnahhclflnjmcaaGreatDoorTurnsRowC1
import Derived.Test.YtnahhclflnjmcaaGreatDoorTurnsRowC2
import Derived.Test.YtnahhclflnjmcaaGreatDoorTurnsRowC3
import Derived.Test.YtnahhclflnjmcaaGreatDoorTurnsRowC4
namespace Go.Proofs.YtnahhclflnjmcaaGreatDoor.treeTurnsRow
open Go.ChangeShapes Go.WideShapes Go.ChangeAt Go.RowKit Go.Deep
theorem closed : joinedFacts Tryz.prog 4 Tryz.f4 (OpenSpec.ofChange Rows.treeTurnsSpec).bare Rows.treeTurnsRow = true := by
  unfold joinedFacts
  rw [c1, c2, c3, c4]
  kernel_rfl
end Go.Proofs.YtnahhclflnjmcaaGreatDoor.treeTurnsRow
