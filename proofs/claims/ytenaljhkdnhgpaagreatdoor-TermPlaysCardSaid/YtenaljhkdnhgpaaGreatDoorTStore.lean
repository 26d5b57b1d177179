/- The store of terms: what its small methods answer. -/
import Derived.Test.YtenaljhkdnhgpaaGreatDoorProg
import Derived.WalkKit
import Derived.WalkSpells
import Derived.WalkLawsBesides
import Derived.Lib.Hide
import Derived.Handy
namespace Go.Proofs.YtenaljhkdnhgpaaGreatDoor.T
open Go.RowKit

theorem made_nil (w : World) : Calls Tryz.prog 30 #[.pointer none] w fun e w' => e = .returned (.bool false) ∧ w = w' := by
  go_enter Tryz.func30, Tryz.ntmps30
  go_wp2
  go_ret
  exact ⟨rfl, rfl⟩
theorem made_un (g : Nat) (w : World) (h1 : w.cell? ⟨g, 1, none⟩ = some (.map none)) : Calls Tryz.prog 30 #[.pointer (some ⟨g, 0, none⟩)] w fun e w' => e = .returned (.bool false) ∧ w = w' := by
  have q : ∀ (w : World) (r : Option Nat), (binOp .neq 88 (.map r) (.map none)).run Tryz.prog w = .ok (.bool (!r.isNone)) w := fun w r => run_neq_map_nil w 88 _ _ r Tryz.underlying88
  go_enter Tryz.func30, Tryz.ntmps30
  go_wp2
  go_ret
  exact ⟨rfl, rfl⟩
theorem made_yes (g m : Nat) (w : World) (h1 : w.cell? ⟨g, 1, none⟩ = some (.map (some m))) : Calls Tryz.prog 30 #[.pointer (some ⟨g, 0, none⟩)] w fun e w' => e = .returned (.bool true) ∧ w = w' := by
  have q : ∀ (w : World) (r : Option Nat), (binOp .neq 88 (.map r) (.map none)).run Tryz.prog w = .ok (.bool (!r.isNone)) w := fun w r => run_neq_map_nil w 88 _ _ r Tryz.underlying88
  go_enter Tryz.func30, Tryz.ntmps30
  go_wp2
  go_ret
  exact ⟨rfl, rfl⟩
theorem len_no (v : Value) (w : World) (hm : Calls Tryz.prog 30 #[v] w fun e w' => e = .returned (.bool false) ∧ w = w') : Calls Tryz.prog 6 #[v] w fun e w' => e = .returned (.int .i64 0) ∧ w = w' := by
  go_enter Tryz.func6, Tryz.ntmps6
  go_wp2_with (go_at_call 30; refine hm.mono ?_; rintro e w' ⟨rfl, rfl⟩)
  go_ret
  exact ⟨rfl, rfl⟩
theorem len_yes (g m n c : Nat) (A : Option Addr) (w : World) (h0 : w.cell? ⟨g, 0, none⟩ = some (.slice A n c)) (h1 : w.cell? ⟨g, 1, none⟩ = some (.map (some m))) :
    Calls Tryz.prog 6 #[.pointer (some ⟨g, 0, none⟩)] w fun e w' => e = .returned (.int .i64 n) ∧ w = w' := by
  have hm := made_yes g m w h1
  go_enter Tryz.func6, Tryz.ntmps6
  go_wp2_with (go_at_call 30; refine hm.mono ?_; rintro e w' ⟨rfl, rfl⟩)
  go_ret
  exact ⟨rfl, rfl⟩
theorem there (g n c : Nat) (A : Option Addr) (x : Int) (w : World) (h0 : w.cell? ⟨g, 0, none⟩ = some (.slice A n c)) :
    Calls Tryz.prog 31 #[.pointer (some ⟨g, 0, none⟩), .int .i64 x] w fun e w' => e = .returned (.bool (decide (1 ≤ x) && decide (x ≤ n))) ∧ w = w' := by
  by_cases h1 : 1 ≤ x
  · have t1 : decide (1 ≤ x) = true := decide_eq_true h1
    go_enter Tryz.func31, Tryz.ntmps31
    go_wp2
    go_ret
    rw [t1]
    exact ⟨rfl, rfl⟩
  · have t1 : decide (1 ≤ x) = false := decide_eq_false h1
    go_enter Tryz.func31, Tryz.ntmps31
    go_wp2
    go_ret
    exact ⟨rfl, rfl⟩
theorem list_no (v s : Value) (w : World) (hm : Calls Tryz.prog 30 #[v] w fun e w' => e = .returned (.bool false) ∧ w = w') : Calls Tryz.prog 136 #[v, s] w fun e w' => e = .returned (.tuple #[.int .i64 0, .int .i64 2]) ∧ w = w' := by
  go_enter Tryz.func136, Tryz.ntmps136
  go_wp2_with (go_at_call 30; refine hm.mono ?_; rintro e w' ⟨rfl, rfl⟩)
  go_ret2
  exact ⟨rfl, rfl⟩
theorem data_no (v s : Value) (w : World) (hm : Calls Tryz.prog 30 #[v] w fun e w' => e = .returned (.bool false) ∧ w = w') : Calls Tryz.prog 135 #[v, s] w fun e w' => e = .returned (.tuple #[.int .i64 0, .int .i64 2]) ∧ w = w' := by
  go_enter Tryz.func135, Tryz.ntmps135
  go_wp2_with (go_at_call 30; refine hm.mono ?_; rintro e w' ⟨rfl, rfl⟩)
  go_ret2
  exact ⟨rfl, rfl⟩
/-- A term's value. -/
structure Tm where
  k : Int
  n : Int
  a : Int
  b : Int
def Tm.v (t : Tm) : Value := .agg #[.int .u8 t.k, .int .i64 t.n, .int .i64 t.a, .int .i64 t.b]
theorem make_no (v : Value) (k n a b : Int) (w : World) (hm : ∀ w1, Below w.heap.size w w1 → Calls Tryz.prog 30 #[v] w1 fun e w' => e = .returned (.bool false) ∧ w1 = w') :
    Calls Tryz.prog 28 #[v, .agg #[.int .u8 k, .int .i64 n, .int .i64 a, .int .i64 b]] w fun e w' => e = .returned (.tuple #[.int .i64 0, .int .i64 2]) ∧ Below w.heap.size w w' := by
  go_enter Tryz.func28, Tryz.ntmps28
  go_wp2_with (go_at_call 30; refine (hm _ ((Below.refl _ _).alloc (Nat.le_refl _) _)).mono ?_; rintro e w' ⟨rfl, rfl⟩)
  go_ret2
  exact ⟨rfl, (Below.refl _ _).alloc (Nat.le_refl _) _⟩
theorem get_no (v : Value) (x : Int) (w : World) (hm : ∀ w1, Below w.heap.size w w1 → Calls Tryz.prog 30 #[v] w1 fun e w' => e = .returned (.bool false) ∧ w1 = w') :
    Calls Tryz.prog 7 #[v, .int .i64 x] w fun e w' => e = .returned (.tuple #[.agg #[.int .u8 0, .int .i64 0, .int .i64 0, .int .i64 0], .bool false]) ∧ Below w.heap.size w w' := by
  go_enter Tryz.func7, Tryz.ntmps7
  go_wp2_with (go_at_call 30; refine (hm _ ((Below.refl _ _).alloc (Nat.le_refl _) _)).mono ?_; rintro e w' ⟨rfl, rfl⟩)
  go_returns
  exact ⟨rfl, (Below.refl _ _).alloc (Nat.le_refl _) _⟩
theorem dag_no (v : Value) (x : Int) (w : World) (hm : Calls Tryz.prog 30 #[v] w fun e w' => e = .returned (.bool false) ∧ w = w') :
    Calls Tryz.prog 9 #[v, .int .i64 x] w fun e w' => e = .returned (.slice none 0 0) ∧ w = w' := by
  go_enter Tryz.func9, Tryz.ntmps9
  go_wp2_with (go_at_call 30; refine hm.mono ?_; rintro e w' ⟨rfl, rfl⟩)
  go_ret
  exact ⟨rfl, rfl⟩
end Go.Proofs.YtenaljhkdnhgpaaGreatDoor.T
