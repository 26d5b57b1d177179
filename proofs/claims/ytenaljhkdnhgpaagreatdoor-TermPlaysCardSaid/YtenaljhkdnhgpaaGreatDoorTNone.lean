/- The walk of TermNone, lives' answer given. -/
import Derived.Test.YtenaljhkdnhgpaaGreatDoorTSame
namespace Go.Proofs.YtenaljhkdnhgpaaGreatDoor.T
open Go.RowKit

theorem none_nil (w : World) : ∀ w1, Below w.heap.size w w1 → Calls Tryz.prog 30 #[.pointer none] w1 fun e w' => e = .returned (.bool false) ∧ w1 = w' := fun w1 _ => made_nil w1
end Go.Proofs.YtenaljhkdnhgpaaGreatDoor.T
