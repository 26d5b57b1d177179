/- What both answer, function by function; the walks of the laws IndexNodes and IndexFamily. -/
import Derived.Test.YtglfcgaoadoamaaDoorLive
namespace Go.Proofs.YtglfcgaoadoamaaDoor
open Go.RowKit

theorem lev_nd (x c j : Nat) (h : Nd x c j) (hx : x ≤ 9223372036854775807) : lev x = c := by
  rw [lev, if_neg (by omega), Int.toNat_natCast, lev_of x c j h hx]
theorem both_level (x : Int) (hx : x ≤ 9223372036854775807) : ∃ z, (∀ w, Tab w → Calls Tryd.prog 15 #[.int .i64 x] w fun e w' => e = .returned (.int .i64 z) ∧ w = w') ∧
    (∀ w, Calls Tryd.prog 25 #[.int .i64 x] w fun e w' => e = .returned (.int .i64 z) ∧ w = w') := by
  by_cases h : x < 0
  · exact ⟨-1, fun w _ => level_neg x w (decide_eq_true h), fun w => rlevel_neg x w (decide_eq_true h)⟩
  · obtain ⟨n, rfl⟩ := Int.eq_ofNat_of_zero_le (show 0 ≤ x by omega)
    obtain ⟨c, j, hN⟩ := Nd.make n
    exact ⟨c, fun w hT => level_at n c j hN (by omega) w hT, fun w => rlevel n c j hN (by omega) w⟩
theorem both_left (x : Int) (hx : x ≤ 9223372036854775807) : ∃ z b, (∀ w, Tab w → Calls Tryd.prog 20 #[.int .i64 x] w fun e w' => e = .returned (.tuple #[.int .i64 z, .bool b]) ∧ w = w') ∧
    (∀ w, Calls Tryd.prog 22 #[.int .i64 x] w fun e w' => e = .returned (.tuple #[.int .i64 z, .bool b]) ∧ w = w') := by
  by_cases h : x < 0
  · exact ⟨0, false, fun w hT => left_no x w hT hx (by rw [lev, if_pos h]; decide), fun w => rleft_neg x w (decide_eq_true h)⟩
  · obtain ⟨n, rfl⟩ := Int.eq_ofNat_of_zero_le (show 0 ≤ x by omega)
    obtain ⟨c, j, hN⟩ := Nd.make n
    by_cases h0 : c = 0
    · subst h0
      exact ⟨0, false, fun w hT => left_no n w hT hx (by rw [lev_nd n 0 j hN (by omega)]; decide), fun w => rleft_leaf n j hN (by omega) w⟩
    · exact ⟨_, true, fun w hT => left_yes n c j hN (by omega) (by omega) (by have := hN.level_lt (n := 64) (by omega); omega) w hT, fun w => rleft_yes n c j hN (by omega) (by omega) w⟩
theorem both_right (x : Int) (hx : x ≤ 9223372036854775807) : ∃ z b, (∀ w, Tab w → Calls Tryd.prog 21 #[.int .i64 x] w fun e w' => e = .returned (.tuple #[.int .i64 z, .bool b]) ∧ w = w') ∧
    (∀ w, Calls Tryd.prog 23 #[.int .i64 x] w fun e w' => e = .returned (.tuple #[.int .i64 z, .bool b]) ∧ w = w') := by
  by_cases h : x < 0
  · exact ⟨0, false, fun w hT => right_no x w hT hx (by rw [lev, if_pos h]; decide), fun w => rright_neg x w (decide_eq_true h)⟩
  · obtain ⟨n, rfl⟩ := Int.eq_ofNat_of_zero_le (show 0 ≤ x by omega)
    obtain ⟨c, j, hN⟩ := Nd.make n
    have hc := hN.level_lt (n := 64) (by omega)
    by_cases h0 : c = 0
    · subst h0
      exact ⟨0, false, fun w hT => right_no n w hT hx (by rw [lev_nd n 0 j hN (by omega)]; decide), fun w => rright_leaf n j hN (by omega) w⟩
    · by_cases h63 : c = 63
      · subst h63
        exact ⟨0, false, fun w hT => right_top n j hN (by omega) w hT, fun w => rright_top n j hN (by omega) w⟩
      · exact ⟨_, true, fun w hT => right_yes n c j hN (by omega) (by omega) (by omega) w hT, fun w => rright_yes n c j hN (by omega) (by omega) (by omega) w⟩
theorem both_span (x : Int) (hx : x ≤ 9223372036854775807) : ∃ z b, (∀ w, Tab w → Calls Tryd.prog 19 #[.int .i64 x] w fun e w' => e = .returned (.tuple #[.int .i64 z, .int .i64 b]) ∧ ∃ n, w' = w.drewN n) ∧
    (∀ w, Calls Tryd.prog 24 #[.int .i64 x] w fun e w' => e = .returned (.tuple #[.int .i64 z, .int .i64 b]) ∧ w = w') := by
  by_cases h : x < 0
  · exact ⟨-1, -1, fun w _ => (span_neg x w h).mono fun e w' h => ⟨h.1, 0, h.2.symm⟩, fun w => rspan_neg x w (decide_eq_true h)⟩
  · obtain ⟨n, rfl⟩ := Int.eq_ofNat_of_zero_le (show 0 ≤ x by omega)
    obtain ⟨c, j, hN⟩ := Nd.make n
    have hc := hN.level_lt (n := 64) (by omega)
    by_cases h63 : c = 63
    · subst h63
      have hg := hN.ge
      obtain rfl : n = 9223372036854775807 := by omega
      exact ⟨-1, -1, fun w hT => (span_top _ j hN (by omega) w hT).mono fun e w' h => ⟨h.1, 0, h.2.symm⟩, fun w => rspan_top w⟩
    · exact ⟨_, _, fun w hT => span_yes n c j hN (by omega) (by omega) w hT, fun w => rspan_yes n c j hN (by omega) (by omega) w⟩
set_option maxHeartbeats 2000000 in
set_option maxRecDepth 100000 in
theorem nodes (x l : Int) (hx : x ≤ 9223372036854775807) (hl : l ≤ 9223372036854775807) (w : World) (hT : Tab w) :
    Calls Tryd.prog 6 #[.int .i64 x, .int .i64 l] w fun e w' => e = .returned (.bool true) ∧ Below w.heap.size w w' := by
  obtain ⟨zl, bl, h20, h22⟩ := both_left x hx
  obtain ⟨zr, br, h21, h23⟩ := both_right x hx
  obtain ⟨zs, bs, h19, h24⟩ := both_span x hx
  obtain ⟨zv, h15, h25⟩ := both_level x hx
  have h18 := fun w => width l w hl
  have h26 := fun w => rwidth l w
  have h16 := fun w => root l w hl
  have h27 := fun w => rroot l w
  generalize widthOf l = zw at *
  generalize rootOf l = zo at *
  go_enter Tryd.func6, Tryd.ntmps6
  go_wp2_with (first | (go_at_call 20; refine (h20 _ hT).mono ?_; rintro e w' ⟨rfl, rfl⟩) | (go_at_call 21; refine (h21 _ hT).mono ?_; rintro e w' ⟨rfl, rfl⟩) | (go_at_call 22; refine (h22 _).mono ?_; rintro e w' ⟨rfl, rfl⟩) | (go_at_call 23; refine (h23 _).mono ?_; rintro e w' ⟨rfl, rfl⟩))
  refine (h19 _ hT).mono ?_
  rintro e w1 ⟨rfl, nd, rfl⟩
  have hb : Below w.heap.size w (w.drewN nd) := below_drewN (Below.refl _ _) nd
  have hT1 := hT.drewN nd
  generalize w.drewN nd = w1 at *
  go_wp2_with (first | (go_at_call 24; refine (h24 _).mono ?_; rintro e w' ⟨rfl, rfl⟩) | (go_at_call 15; refine (h15 _ hT1).mono ?_; rintro e w' ⟨rfl, rfl⟩) | (go_at_call 25; refine (h25 _).mono ?_; rintro e w' ⟨rfl, rfl⟩) | (go_at_call 18; refine (h18 _).mono ?_; rintro e w' ⟨rfl, rfl⟩) | (go_at_call 26; refine (h26 _).mono ?_; rintro e w' ⟨rfl, rfl⟩) | (go_at_call 16; refine (h16 _).mono ?_; rintro e w' ⟨rfl, rfl⟩) | (go_at_call 27; refine (h27 _).mono ?_; rintro e w' ⟨rfl, rfl⟩))
  refine (alive _ hT1).mono ?_
  rintro e w2 ⟨rfl, b2⟩
  have hb2 := hb.trans (b2.mono hb.size)
  go_wp2
  go_ret
  exact ⟨rfl, hb2⟩
end Go.Proofs.YtglfcgaoadoamaaDoor
