/- The document's store: a list. -/
import Derived.Test.YtenaljhkdnhgpaaGreatDoorTOnce
import Derived.Test.YtenaljhkdnhgpaaGreatDoorPhase
namespace Go.Proofs.YtenaljhkdnhgpaaGreatDoor.T
open Go.RowKit Go.Proofs.Phase
set_option linter.unusedVariables false
set_option linter.unusedSimpArgs false

/-- The document's store: its block g, its list. -/
structure RSt (w : World) (B g : Nat) (L : List Tm) (v : Value) : Prop where
  lo : B ≤ g
  hB : B ≤ w.heap.size
  blk : w.heap[g]? = some (.cells #[v] 30 (0, 0))
  row : w.ownsRow B 69 4 v L.length (rowOf L)
variable {w w' : World} {B g : Nat} {L : List Tm} {v : Value}
theorem RSt.c0 (h : RSt w B g L v) : w.cell? ⟨g, 0, none⟩ = some v := by rw [cell_of_row w g 0 _ _ _ h.blk]; rfl
theorem RSt.fr (h : RSt w B g L v) (i : Nat) : w.frozen? ⟨g, i, none⟩ = false := frozen_of_row w g i _ _ h.blk
theorem RSt.slice (h : RSt w B g L v) : ∃ A c, v = .slice A L.length c := by
  rcases h.row.2 with ⟨h1, h2⟩ | ⟨g', cap, cur, h1, _⟩
  · exact ⟨none, 0, by rw [h1, h2]⟩
  · exact ⟨_, _, h1⟩
theorem RSt.below (h : RSt w B g L v) (hb : Below w.heap.size w w') : RSt w' B g L v :=
  ⟨h.lo, Nat.le_trans h.hB hb.size, (hb.block g (lt_of_some h.blk)).trans h.blk, own_below h.row hb⟩
theorem RSt.drewN (h : RSt w B g L v) (n : Nat) : RSt (w.drewN n) B g L v := h.below (below_drewN (Below.refl _ _) n)
theorem RSt.far (h : RSt w B g L v) : some g ≠ v.ownBlock := by
  intro e
  obtain ⟨cur, hc⟩ := row_typed h.row g e.symm
  rw [h.blk] at hc
  injection hc with hc
  injection hc with _ hc
  cases hc
theorem RSt.len_le (h : RSt w B g L v) : L.length ≤ 9223372036854775807 := by
  rcases h.row.2 with ⟨_, h2⟩ | ⟨g', cap, cur, h1, _, h3, h4, h5, _⟩
  · omega
  · unfold maxLen at h5
    omega
theorem RT.of_own' {w : World} {B : Nat} {v : Value} {l : List Tm} (h : w.ownsRow B 69 4 v l.length (rowOf l)) : RT w v l :=
  ⟨h.1, h.2.imp id fun ⟨g, cap, cur, h1, h2, h3⟩ => ⟨g, cap, cur, h1, Nat.zero_le _, h3⟩⟩
theorem rnew (w : World) : Calls Tryz.prog 27 #[] w fun e w' => ∃ g v, e = .returned (.pointer (some ⟨g, 0, none⟩)) ∧ RSt w' w.heap.size g [] v ∧ Below w.heap.size w w' := by
  go_enter Tryz.func27, Tryz.ntmps27
  go_wp2
  go_ret
  exact ⟨_, .slice none 0 0, rfl, ⟨Nat.le_refl _, by simp, heap_alloc_new w _, World.ownsRow_nil _ _ _ _⟩, (Below.refl _ _).alloc (Nat.le_refl _) _⟩
theorem rthere (g n c : Nat) (A : Option Addr) (x : Int) (w : World) (h0 : w.cell? ⟨g, 0, none⟩ = some (.slice A n c)) :
    Calls Tryz.prog 32 #[.pointer (some ⟨g, 0, none⟩), .int .i64 x] w fun e w' => e = .returned (.bool (thereB n x)) ∧ w = w' := by
  unfold thereB
  by_cases h1 : 1 ≤ x
  · have t1 : decide (1 ≤ x) = true := decide_eq_true h1
    go_enter Tryz.func32, Tryz.ntmps32
    go_wp2
    go_ret
    rw [t1]
    exact ⟨rfl, rfl⟩
  · have t1 : decide (1 ≤ x) = false := decide_eq_false h1
    go_enter Tryz.func32, Tryz.ntmps32
    go_wp2
    go_ret
    exact ⟨rfl, rfl⟩
set_option maxHeartbeats 2000000 in
set_option maxRecDepth 100000 in
theorem rmay (g n c : Nat) (A : Option Addr) (k m a b : Int) (w : World) (h0 : w.cell? ⟨g, 0, none⟩ = some (.slice A n c)) :
    Calls Tryz.prog 148 #[.pointer (some ⟨g, 0, none⟩), .agg #[.int .u8 k, .int .i64 m, .int .i64 a, .int .i64 b]] w fun e w' => e = .returned (.bool (mayB n ⟨k, m, a, b⟩)) ∧ Below w.heap.size w w' := by
  have hlt := World.block_lt_of_cell? w _ h0
  have hw1 : ∀ m, (w.alloc (.cells #[.int .u8 k, .int .i64 m, .int .i64 a, .int .i64 b] 69)).cell? ⟨g, 0, none⟩ = some (.slice A n c) := fun m => by rw [World.cell?_alloc_lt _ _ _ hlt]; exact h0
  have M1 := fun m => rthere g n c A a (w.alloc (.cells #[.int .u8 k, .int .i64 m, .int .i64 a, .int .i64 b] 69)) (hw1 m)
  have M2 := fun m => rthere g n c A b (w.alloc (.cells #[.int .u8 k, .int .i64 m, .int .i64 a, .int .i64 b] 69)) (hw1 m)
  clear hw1
  have hr : ∃ r, r = mayB n ⟨k, m, a, b⟩ := ⟨_, rfl⟩
  obtain ⟨r, hr⟩ := hr
  rw [← hr]
  unfold mayB at hr
  simp only [] at hr
  generalize thereB n a = ta at *
  generalize thereB n b = tb at *
  have HR := Lib.hid hr
  clear hr
  go_enter Tryz.func148, Tryz.ntmps148
  go_wp2_with (go_at_call 32; (first | (with_reducible refine (M1 _).mono ?_; rintro e w' ⟨rfl, rfl⟩) | (with_reducible refine (M2 _).mono ?_; rintro e w' ⟨rfl, rfl⟩)))
  all_goals go_ret
  all_goals refine ⟨?_, ?_⟩
  all_goals (try exact (Below.refl _ _).alloc (Nat.le_refl _) _)
  all_goals rw [HR.out]
  all_goals clear HR M1 M2
  all_goals (first | rfl | (simp_all; done) | (simp_all; exact Bool.or_comm _ _) | (simp_all; omega))
end Go.Proofs.YtenaljhkdnhgpaaGreatDoor.T
