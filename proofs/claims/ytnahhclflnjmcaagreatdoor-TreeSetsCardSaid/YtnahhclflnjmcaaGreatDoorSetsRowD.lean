/- TreeSets: the row's facts, joined. -/
import Derived.Test.YtnahhclflnjmcaaGreatDoorSetsRowC1
import Derived.Test.YtnahhclflnjmcaaGreatDoorSetsRowC2
import Derived.Test.YtnahhclflnjmcaaGreatDoorSetsRowC3
import Derived.Test.YtnahhclflnjmcaaGreatDoorSetsRowC4
namespace Go.Proofs.YtnahhclflnjmcaaGreatDoor.treeSetsRow
open Go.ChangeShapes Go.WideShapes Go.ChangeAt Go.RowKit Go.Deep
theorem closed : joinedFacts Tryz.prog 5 Tryz.f5 (OpenSpec.ofChange Rows.treeSetsSpec).bare Rows.treeSetsRow = true := by
  unfold joinedFacts
  rw [c1, c2, c3, c4]
  kernel_rfl
end Go.Proofs.YtnahhclflnjmcaaGreatDoor.treeSetsRow
