/- The document's Data: as the program's. -/
import Derived.Test.YtenaljhkdnhgpaaGreatDoorTRList
namespace Go.Proofs.YtenaljhkdnhgpaaGreatDoor.T
open Go.RowKit

theorem RSt.pushed {w w' : World} {B B' g : Nat} {L : List Tm} {v s : Value} {l : List Int} {o : Obj} (h : RSt w B g L v) (ho : OI w B' s l) (hg : (w.alloc o).grownBy w' s.ownBlock) : RSt w' B g L v := by
  have hb : Below w.heap.size w (w.alloc o) := (Below.refl _ _).alloc (Nat.le_refl _) _
  have h1 := h.below hb
  have ho1 : OI (w.alloc o) B' s l := World.ownsRow.alloc ho o
  exact ⟨h.lo, Nat.le_trans h1.hB hg.size, block_row h1.blk (fun _ e => by injection e with _ e; cases e) ho1 hg, row_row h1.row ho1 (by decide) hg⟩
end Go.Proofs.YtenaljhkdnhgpaaGreatDoor.T
