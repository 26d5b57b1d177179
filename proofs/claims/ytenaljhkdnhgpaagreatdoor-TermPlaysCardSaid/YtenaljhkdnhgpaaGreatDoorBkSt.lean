/- The book with lists of one kind. -/
import Derived.Test.YtenaljhkdnhgpaaGreatDoorBk0
namespace Go.Proofs.YtenaljhkdnhgpaaGreatDoor.Bk
open Go Go.RowKit
set_option linter.unusedVariables false
set_option linter.unusedSimpArgs false

/-- A book that holds lists of one kind alone: off: the field's place; FP: the blocks that it has, but for its own; all others are from the world w0. -/
structure St1 (K : KD) (BT : TypeId) (off : Nat) (w0 w : World) (B bb L kfull N : Nat) (FP : Nat → Prop) : Prop where
  out : ∃ (bc : Array Value) (lv : Value) (hs : List (Value × Int)) (F : Nat → Prop) (m : Int), w.heap[bb]? = some (.cells bc BT (0, 0)) ∧ bc[off]? = some lv ∧ (∀ j, 1 ≤ j → j < 35 → j ≠ off → bc[j]? = some (.slice none 0 0)) ∧ bc[0]? = some (.int .i64 m) ∧ (-9223372036854775808 ≤ m ∧ m ≤ 9223372036854775807) ∧
    HL K w B F lv hs (fun _ => L) (fun _ => kfull) ∧ ¬ F bb ∧ (∀ b, F b → b < w.heap.size ∧ B ≤ b) ∧ (∀ b, F b → FP b) ∧ hs.length ≤ N
  hB : B ≤ bb
  lo : B ≤ w0.heap.size
  below : Below B w0 w
section
variable {K : KD} {BT : TypeId} {off : Nat} {w0 w w' : World} {B bb L kfull N : Nat} {FP : Nat → Prop}
theorem St1.nil (h : St1 K BT off w0 w B bb L kfull N FP) (j : Nat) (h1 : 1 ≤ j) (h2 : j < 35) (h3 : j ≠ off) : w.cell? ⟨bb, j, none⟩ = some (.slice none 0 0) := by
  obtain ⟨bc, lv, hs, F, m, k1, k2, k3, _⟩ := h.out
  exact (cell_of_row w bb _ _ _ _ k1).trans (k3 j h1 h2 h3)
theorem St1.keep (h : St1 K BT off w0 w B bb L kfull N FP) (hb : Below w.heap.size w w') : St1 K BT off w0 w' B bb L kfull N FP := by
  obtain ⟨bc, lv, hs, F, m, k1, k2, k3, k4, k5, k6, k7, k8, k9⟩ := h.out
  exact ⟨⟨bc, lv, hs, F, m, (hb.block _ (lt_of_some k1)).trans k1, k2, k3, k4, k5, k6.keep (X := fun _ => False) (Chg.of_below hb) (fun _ _ h => h), k7, fun b hb' => ⟨Nat.lt_of_lt_of_le (k8 b hb').1 hb.size, (k8 b hb').2⟩, k9⟩, h.hB, h.lo, h.below.trans (hb.mono (Nat.le_trans h.lo h.below.size))⟩
theorem St1.drew (h : St1 K BT off w0 w B bb L kfull N FP) : St1 K BT off w0 w.drew B bb L kfull N FP := h.keep (Below.refl _ _).drew
end
end Go.Proofs.YtenaljhkdnhgpaaGreatDoor.Bk
