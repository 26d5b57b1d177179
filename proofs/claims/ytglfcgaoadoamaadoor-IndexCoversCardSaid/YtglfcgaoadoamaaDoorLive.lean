/- The walk of alive, and of the law IndexMeets. -/
import Derived.Test.YtglfcgaoadoamaaDoorSame
namespace Go.Proofs.YtglfcgaoadoamaaDoor
open Go.RowKit

theorem Ints.mk2 {w : World} {x y : Int} : Ints (w.alloc (.cells #[.int .i64 x, .int .i64 y] 3)) (.slice (some ⟨w.heap.size, 0, none⟩) 2 2) [x, y] := by
  refine ⟨_, 2, rfl, by simp, by decide, fun _ => ⟨_, 0, rfl, fun i z hz => ?_⟩⟩
  rw [World.cell?_alloc_at _ _ _ _ rfl]
  match i, hz with
  | 0, hz => simpa using hz
  | 1, hz => simpa using hz
theorem meet_024 : anc 0 (meet 0 2 0 2 0) = 1 := by decide
set_option maxHeartbeats 1000000 in
theorem alive (w : World) (hT : Tab w) : Calls Tryd.prog 12 #[] w fun e w' => e = .returned (.bool true) ∧ Below w.heap.size w w' := by
  have hpos := hT.pos
  have h28 : ∀ w, Tab w → Calls Tryd.prog 28 #[.int .i64 5, .int .i64 4] w fun e w' => e = .returned (.tuple #[.int .i64 3, .bool true]) ∧ w = w' := fun w hT =>
    parent_yes 5 1 1 2 (by decide) (by unfold Nd; decide) (by decide) (by decide) w hT
  have h17 : ∀ w, Tab w → Calls Tryd.prog 17 #[.int .i64 4, .int .i64 4] w fun e w' => ∃ v, e = .returned v ∧ OwnI w' w.heap.size v [6, 1] ∧ Below w.heap.size w w' := fun w hT =>
    copath_yes 4 0 2 2 (by decide) (by unfold Nd; decide) (by decide) w hT
  have h8 : ∀ w, Tab w → Calls Tryd.prog 8 #[.int .i64 0, .int .i64 2, .int .i64 4] w fun e w' => e = .returned (.int .i64 1) ∧ Below w.heap.size w w' := fun w hT =>
    common_yes 0 0 0 2 0 1 2 (by decide) (by unfold Nd; decide) (by unfold Nd; decide) (by decide) (by decide) w hT
  have h18 : ∀ w, Calls Tryd.prog 18 #[.int .i64 4] w fun e w' => e = .returned (.int .i64 7) ∧ w = w' := fun w => by
    have := width 4 w (by decide)
    rw [widthOf, if_pos (show isT 4 = true from isT_pow 2 (by decide))] at this
    exact this
  have h16 : ∀ w, Calls Tryd.prog 16 #[.int .i64 3] w fun e w' => e = .returned (.int .i64 (-1)) ∧ w = w' := fun w => by
    have := root 3 w (by decide)
    rw [rootOf, if_neg (by decide)] at this
    exact this
  go_enter Tryd.func12, Tryd.ntmps12
  go_wp2_with (go_at_call 28; refine (h28 _ hT).mono ?_; rintro e w' ⟨rfl, rfl⟩)
  refine (h17 _ hT).mono ?_
  rintro e w1 ⟨v, rfl, ho, hb1⟩
  have hi := (ho.ints).below (w' := w1.alloc (.cells #[.int .i64 6, .int .i64 1] 3)) ((Below.refl _ _).alloc (Nat.le_refl _) _)
  have hsm := same v _ [6, 1] [6, 1] _ hi Ints.mk2
  rw [show sameB [6, 1] [6, 1] = true from rfl] at hsm
  have hT1 := hT.below hpos hb1
  have hs1 := hb1.size
  clear ho hi
  go_wp2_with fail
  refine hsm.mono ?_
  rintro e w2 ⟨rfl, n, rfl⟩
  have hb2 : Below w.heap.size w ((w1.alloc (.cells #[.int .i64 6, .int .i64 1] 3)).drewN n) := below_drewN (hb1.alloc hs1 _) n
  have hT2 := hT.below hpos hb2
  generalize (w1.alloc (.cells #[.int .i64 6, .int .i64 1] 3)).drewN n = w3 at *
  clear hsm hb1 hT1 hs1
  go_wp2_with fail
  refine (h8 _ hT2).mono ?_
  rintro e w4 ⟨rfl, hb3⟩
  have hb4 := hb2.trans (hb3.mono hb2.size)
  clear hb2 hb3 hT2
  go_wp2_with (first | (go_at_call 18; refine (h18 _).mono ?_; rintro e w' ⟨rfl, rfl⟩) | (go_at_call 16; refine (h16 _).mono ?_; rintro e w' ⟨rfl, rfl⟩))
  go_ret
  exact ⟨rfl, hb4⟩

/-- What both answer at two nodes. -/
theorem both_common (a b l : Int) (hl : l ≤ 9223372036854775807) : ∃ z, (∀ w, Tab w → Calls Tryd.prog 8 #[.int .i64 a, .int .i64 b, .int .i64 l] w fun e w' => e = .returned (.int .i64 z) ∧ Below w.heap.size w w') ∧
    (∀ w, Tab w → Calls Tryd.prog 9 #[.int .i64 a, .int .i64 b, .int .i64 l] w fun e w' => e = .returned (.int .i64 z) ∧ Below w.heap.size w w') := by
  by_cases h : inT a l = false ∨ inT b l = false
  · refine ⟨-1, fun w hT => (common_no a b l w hl h).mono fun e w' h => ⟨h.1, h.2 ▸ Below.refl _ _⟩, fun w hT => (rcommon_no a b l w h).mono fun e w' h => ⟨h.1, h.2 ▸ Below.refl _ _⟩⟩
  · have ha : inT a l = true := by cases e : inT a l <;> simp_all
    have hb : inT b l = true := by cases e : inT b l <;> simp_all
    obtain ⟨n, d, hd, rfl, rfl, hn⟩ := inT_iff.1 ha
    obtain ⟨m, d', hd', e1, rfl, hm⟩ := inT_iff.1 hb
    have e2 : 2 ^ d = 2 ^ d' := by omega
    obtain rfl : d = d' := (Nat.pow_right_inj (by decide)).1 e2
    obtain ⟨ca, ja, hN⟩ := Nd.make n
    obtain ⟨cb, jb, hM⟩ := Nd.make m
    exact ⟨_, fun w hT => common_yes n ca ja m cb jb d hd hN hM hn hm w hT, fun w hT => rcommon_yes n ca ja m cb jb d hd hN hM hn hm w hT.pos⟩
theorem both_within (x y : Int) (hx : x ≤ 9223372036854775807) (hy : y ≤ 9223372036854775807) : ∃ z, (∀ w, Tab w → Calls Tryd.prog 10 #[.int .i64 x, .int .i64 y] w fun e w' => e = .returned (.bool z) ∧ Below w.heap.size w w') ∧
    (∀ w, Tab w → Calls Tryd.prog 11 #[.int .i64 x, .int .i64 y] w fun e w' => e = .returned (.bool z) ∧ Below w.heap.size w w') := by
  by_cases h : x < 0 ∨ y < 0
  · exact ⟨false, fun w hT => (within_neg x y w h).mono fun e w' h => ⟨h.1, h.2 ▸ Below.refl _ _⟩, fun w hT => (rwithin_neg x y w h).mono fun e w' h => ⟨h.1, h.2 ▸ Below.refl _ _⟩⟩
  · obtain ⟨n, rfl⟩ := Int.eq_ofNat_of_zero_le (show 0 ≤ x by omega)
    obtain ⟨m, rfl⟩ := Int.eq_ofNat_of_zero_le (show 0 ≤ y by omega)
    obtain ⟨c, i, hN⟩ := Nd.make n
    obtain ⟨k, j, hM⟩ := Nd.make m
    have hk := hM.level_lt (n := 64) (by omega)
    have drawn : ∀ {w w' : World}, (∃ n, w' = w.drewN n) → Below w.heap.size w w' := fun ⟨n, e⟩ => e ▸ below_drewN (Below.refl _ _) n
    by_cases h63 : k = 63
    · subst h63
      have hg := hM.ge
      obtain rfl : m = 9223372036854775807 := by omega
      exact ⟨true, fun w hT => (within_top n c i _ j hN hM (by omega) (by omega) w hT).mono fun e w' h => ⟨h.1, drawn h.2⟩, fun w hT => (rwithin_top n w).mono fun e w' h => ⟨h.1, h.2 ▸ Below.refl _ _⟩⟩
    · refine ⟨decide (c ≤ k ∧ anc n k = m), fun w hT => ?_, fun w hT => (rwithin_yes n c i m k j hN hM (by omega) (by omega) (by omega) w).mono fun e w' h => ⟨h.1, h.2 ▸ Below.refl _ _⟩⟩
      by_cases hck : c ≤ k
      · refine (within_at n c i m k j hN hM (by omega) (by omega) w hT hck (by omega)).mono fun e w' h => ⟨?_, drawn h.2⟩
        rw [h.1]; simp [hck]
      · refine (within_below n c i m k j hN hM (by omega) (by omega) w hT (by omega)).mono fun e w' h => ⟨?_, drawn h.2⟩
        rw [h.1]; simp [hck]
set_option maxHeartbeats 1000000 in
theorem meets (a b l : Int) (ha : a ≤ 9223372036854775807) (hb : b ≤ 9223372036854775807) (hl : l ≤ 9223372036854775807) (w : World) (hT : Tab w) :
    Calls Tryd.prog 3 #[.int .i64 a, .int .i64 b, .int .i64 l] w fun e w' => e = .returned (.bool true) ∧ Below w.heap.size w w' := by
  obtain ⟨z, h8, h9⟩ := both_common a b l hl
  obtain ⟨q, h10, h11⟩ := both_within a b ha hb
  have hpos := hT.pos
  go_enter Tryd.func3, Tryd.ntmps3
  go_wp2_with fail
  refine (h8 _ hT).mono ?_
  rintro e w1 ⟨rfl, b1⟩
  have T1 := hT.below hpos b1
  go_wp2_with fail
  refine (h9 _ T1).mono ?_
  rintro e w2 ⟨rfl, b2⟩
  have b2 := b1.trans (b2.mono b1.size)
  have T2 := hT.below hpos b2
  clear b1 T1
  go_wp2_with fail
  refine (h10 _ T2).mono ?_
  rintro e w3 ⟨rfl, b3⟩
  have b3 := b2.trans (b3.mono b2.size)
  have T3 := hT.below hpos b3
  clear b2 T2
  go_wp2_with fail
  refine (h11 _ T3).mono ?_
  rintro e w4 ⟨rfl, b4⟩
  have b4 := b3.trans (b4.mono b3.size)
  have T4 := hT.below hpos b4
  clear b3 T3
  go_wp2_with fail
  refine (alive _ T4).mono ?_
  rintro e w5 ⟨rfl, b5⟩
  have b5 := b4.trans (b5.mono b4.size)
  clear b4 T4
  go_wp2
  go_ret
  exact ⟨rfl, b5⟩
end Go.Proofs.YtglfcgaoadoamaaDoor
