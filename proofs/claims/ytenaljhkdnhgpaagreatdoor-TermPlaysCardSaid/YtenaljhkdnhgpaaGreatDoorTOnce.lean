/- The walk of TermOnce. -/
import Derived.Test.YtenaljhkdnhgpaaGreatDoorTGood
namespace Go.Proofs.YtenaljhkdnhgpaaGreatDoor.T
open Go.RowKit

theorem run_eql_ptr (w : World) (b : Addr) : (binOp .eql 24 (.pointer (some b)) (.pointer none)).run Tryz.prog w = .ok (.bool false) w := by kernel_rfl
end Go.Proofs.YtenaljhkdnhgpaaGreatDoor.T
