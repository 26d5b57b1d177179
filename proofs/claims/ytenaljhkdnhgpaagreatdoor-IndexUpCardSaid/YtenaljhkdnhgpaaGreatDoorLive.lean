/- The walk of alive, and of the law IndexMeets. -/
import Derived.Test.YtenaljhkdnhgpaaGreatDoorSame
namespace Go.Proofs.YtenaljhkdnhgpaaGreatDoor
open Go.RowKit

theorem Ints.mk2 {w : World} {x y : Int} : Ints (w.alloc (.cells #[.int .i64 x, .int .i64 y] 3)) (.slice (some ⟨w.heap.size, 0, none⟩) 2 2) [x, y] := by
  refine ⟨_, 2, rfl, by simp, by decide, fun _ => ⟨_, 0, rfl, fun i z hz => ?_⟩⟩
  rw [World.cell?_alloc_at _ _ _ _ rfl]
  match i, hz with
  | 0, hz => simpa using hz
  | 1, hz => simpa using hz
theorem meet_024 : anc 0 (meet 0 2 0 2 0) = 1 := by decide
set_option maxHeartbeats 1000000 in
theorem alive (w : World) (hT : Tab w) : Calls Tryz.prog 25 #[] w fun e w' => e = .returned (.bool true) ∧ Below w.heap.size w w' := by
  have hpos := hT.pos
  have h28 : ∀ w, Tab w → Calls Tryz.prog 15 #[.int .i64 5, .int .i64 4] w fun e w' => e = .returned (.tuple #[.int .i64 3, .bool true]) ∧ w = w' := fun w hT =>
    parent_yes 5 1 1 2 (by decide) (by unfold Nd; decide) (by decide) (by decide) w hT
  have h17 : ∀ w, Tab w → Calls Tryz.prog 18 #[.int .i64 4, .int .i64 4] w fun e w' => ∃ v, e = .returned v ∧ OwnI w' w.heap.size v [6, 1] ∧ Below w.heap.size w w' := fun w hT =>
    copath_yes 4 0 2 2 (by decide) (by unfold Nd; decide) (by decide) w hT
  have h8 : ∀ w, Tab w → Calls Tryz.prog 144 #[.int .i64 0, .int .i64 2, .int .i64 4] w fun e w' => e = .returned (.int .i64 1) ∧ Below w.heap.size w w' := fun w hT =>
    common_yes 0 0 0 2 0 1 2 (by decide) (by unfold Nd; decide) (by unfold Nd; decide) (by decide) (by decide) w hT
  have h18 : ∀ w, Calls Tryz.prog 145 #[.int .i64 4] w fun e w' => e = .returned (.int .i64 7) ∧ w = w' := fun w => by
    have := width 4 w (by decide)
    rw [widthOf, if_pos (show isT 4 = true from isT_pow 2 (by decide))] at this
    exact this
  have h16 : ∀ w, Calls Tryz.prog 146 #[.int .i64 3] w fun e w' => e = .returned (.int .i64 (-1)) ∧ w = w' := fun w => by
    have := root 3 w (by decide)
    rw [rootOf, if_neg (by decide)] at this
    exact this
  go_enter Tryz.func25, Tryz.ntmps25
  go_wp2_with (go_at_call 15; refine (h28 _ hT).mono ?_; rintro e w' ⟨rfl, rfl⟩)
  refine (h17 _ hT).mono ?_
  rintro e w1 ⟨v, rfl, ho, hb1⟩
  have hi := (ho.ints).below (w' := w1.alloc (.cells #[.int .i64 6, .int .i64 1] 3)) ((Below.refl _ _).alloc (Nat.le_refl _) _)
  have hsm := same v _ [6, 1] [6, 1] _ hi Ints.mk2
  rw [show sameB [6, 1] [6, 1] = true from rfl] at hsm
  have hT1 := hT.below hpos hb1
  have hs1 := hb1.size
  clear ho hi
  go_wp2_with fail
  refine hsm.mono ?_
  rintro e w2 ⟨rfl, n, rfl⟩
  have hb2 : Below w.heap.size w ((w1.alloc (.cells #[.int .i64 6, .int .i64 1] 3)).drewN n) := below_drewN (hb1.alloc hs1 _) n
  have hT2 := hT.below hpos hb2
  generalize (w1.alloc (.cells #[.int .i64 6, .int .i64 1] 3)).drewN n = w3 at *
  clear hsm hb1 hT1 hs1
  go_wp2_with fail
  refine (h8 _ hT2).mono ?_
  rintro e w4 ⟨rfl, hb3⟩
  have hb4 := hb2.trans (hb3.mono hb2.size)
  clear hb2 hb3 hT2
  go_wp2_with (first | (go_at_call 145; refine (h18 _).mono ?_; rintro e w' ⟨rfl, rfl⟩) | (go_at_call 146; refine (h16 _).mono ?_; rintro e w' ⟨rfl, rfl⟩))
  go_ret
  exact ⟨rfl, hb4⟩

end Go.Proofs.YtenaljhkdnhgpaaGreatDoor
