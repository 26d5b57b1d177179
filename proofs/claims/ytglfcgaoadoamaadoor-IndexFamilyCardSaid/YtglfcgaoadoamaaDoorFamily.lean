/- The walk of the law IndexFamily. -/
import Derived.Test.YtglfcgaoadoamaaDoorNodes
namespace Go.Proofs.YtglfcgaoadoamaaDoor
open Go.RowKit

set_option maxHeartbeats 2000000 in
set_option maxRecDepth 100000 in
/-- No children, or none on the right, or beyond the tree. -/
theorem family_out (x l z1 z2 zw : Int) (b1 b2 : Bool) (hzw : -9223372036854775808 ≤ zw - 1 ∧ zw - 1 ≤ 9223372036854775807) (w : World) (hT : Tab w)
    (h20 : Calls Tryd.prog 20 #[.int .i64 x] w fun e w' => e = .returned (.tuple #[.int .i64 z1, .bool b1]) ∧ w = w')
    (h21 : Calls Tryd.prog 21 #[.int .i64 x] w fun e w' => e = .returned (.tuple #[.int .i64 z2, .bool b2]) ∧ w = w')
    (h18 : Calls Tryd.prog 18 #[.int .i64 l] w fun e w' => e = .returned (.int .i64 zw) ∧ w = w')
    (hout : b1 = false ∨ b2 = false ∨ decide (zw - 1 < x) = true) :
    Calls Tryd.prog 7 #[.int .i64 x, .int .i64 l] w fun e w' => e = .returned (.bool true) ∧ Below w.heap.size w w' := by
  have ha := alive w hT
  cases b1
  · clear hout
    go_enter Tryd.func7, Tryd.ntmps7
    go_wp2_with (first | (go_at_call 20; refine h20.mono ?_; rintro e w' ⟨rfl, rfl⟩) | (go_at_call 21; refine h21.mono ?_; rintro e w' ⟨rfl, rfl⟩) | (go_at_call 18; refine h18.mono ?_; rintro e w' ⟨rfl, rfl⟩))
    refine ha.mono ?_
    rintro e w2 ⟨rfl, b2⟩
    go_wp2
    go_ret
    exact ⟨rfl, b2⟩
  · cases b2
    · clear hout
      go_enter Tryd.func7, Tryd.ntmps7
      go_wp2_with (first | (go_at_call 20; refine h20.mono ?_; rintro e w' ⟨rfl, rfl⟩) | (go_at_call 21; refine h21.mono ?_; rintro e w' ⟨rfl, rfl⟩) | (go_at_call 18; refine h18.mono ?_; rintro e w' ⟨rfl, rfl⟩))
      refine ha.mono ?_
      rintro e w2 ⟨rfl, b2⟩
      go_wp2
      go_ret
      exact ⟨rfl, b2⟩
    · have q : decide (zw - 1 < x) = true := by simpa using hout
      obtain ⟨q1, q2⟩ := hzw
      clear hout
      go_enter Tryd.func7, Tryd.ntmps7
      go_wp2_with (first | (go_at_call 20; refine h20.mono ?_; rintro e w' ⟨rfl, rfl⟩) | (go_at_call 21; refine h21.mono ?_; rintro e w' ⟨rfl, rfl⟩) | (go_at_call 18; refine h18.mono ?_; rintro e w' ⟨rfl, rfl⟩))
      refine ha.mono ?_
      rintro e w2 ⟨rfl, b2⟩
      go_wp2
      go_ret
      exact ⟨rfl, b2⟩
set_option maxHeartbeats 4000000 in
set_option maxRecDepth 100000 in
theorem family_in (x c j d : Nat) (hd : d ≤ 30) (hN : Nd x c j) (hx : x + 1 < 2 ^ (d + 1)) (h1 : 1 ≤ c) (w : World) (hT : Tab w) :
    Calls Tryd.prog 7 #[.int .i64 x, .int .i64 (2 ^ d : Nat)] w fun e w' => e = .returned (.bool true) ∧ Below w.heap.size w w' := by
  have hcd : c ≤ d := by have := hN.level_lt hx; omega
  have hp := pow_le hd
  have hs := two_succ d
  have hN' : Nd x (c - 1 + 1) j := by rw [show c - 1 + 1 = c by omega]; exact hN
  obtain ⟨hkL, hkR⟩ := hN'.kids
  have hx9 : x ≤ 9223372036854775807 := by omega
  have hg := hN.ge
  have hs1 := two_succ (c - 1)
  rw [show c - 1 + 1 = c by omega] at hs1
  have hp1 := two_pos (c - 1)
  have hdiv : ∀ y q, Nd y (c - 1) q → q / 2 = j → anc y c = x := fun y q h hq => by
    unfold anc
    rw [div_div_pow y (c - 1 + 1) (c + 1) (by omega), h.div, show c + 1 - (c - 1 + 1) = 1 by omega, Nat.pow_one, hq]
    exact hN.eq.symm
  have hL := hdiv _ _ hkL (by omega)
  have hR := hdiv _ _ hkR (by omega)
  have hRlt : x + 2 ^ (c - 1) + 1 < 2 ^ (d + 1) := by
    have hu := hkR.eq
    have hb : anc x d = 2 ^ d - 1 := anc_root x d (by omega)
    have e := hN.eq
    have hlt : (j + 1) * 2 ^ (c + 1) ≤ 2 ^ (d + 1) := by
      obtain ⟨m, hm⟩ : ∃ m, d + 1 = m + (c + 1) := ⟨d - c, by omega⟩
      rw [hm, Nat.pow_add 2 m]
      apply Nat.mul_le_mul_right
      apply Nat.succ_le_of_lt
      rw [← hN.div]
      apply Nat.div_lt_of_lt_mul
      rw [Nat.mul_comm, ← Nat.pow_add, ← hm]
      omega
    have hc1 := two_succ c
    rw [Nat.add_mul, Nat.one_mul] at hlt
    omega
  have h20 : ∀ w, Tab w → _ := fun w hT => left_yes x c j hN hx9 h1 (by omega) w hT
  have h21 : ∀ w, Tab w → _ := fun w hT => right_yes x c j hN hx9 h1 (by omega) w hT
  have h18 : ∀ w, Calls Tryd.prog 18 #[.int .i64 (2 ^ d : Nat)] w fun e w' => e = .returned (.int .i64 (2 * (2 ^ d : Nat) - 1)) ∧ w = w' := fun w => by
    have := width (2 ^ d : Nat) w (by omega)
    rw [widthOf, if_pos (isT_pow d hd)] at this
    exact this
  have hPL : ∀ w, Tab w → _ := fun w hT => parent_yes _ (c - 1) _ d hd hkL (by omega) (by omega) w hT
  have hPR : ∀ w, Tab w → _ := fun w hT => parent_yes _ (c - 1) _ d hd hkR hRlt (by omega) w hT
  have hSL : ∀ w, Tab w → _ := fun w hT => sibling_yes _ (c - 1) _ d hd hkL (by omega) (by omega) w hT
  have hSR : ∀ w, Tab w → _ := fun w hT => sibling_yes _ (c - 1) _ d hd hkR hRlt (by omega) w hT
  rw [show c - 1 + 1 = c by omega] at hPL hPR hSL hSR
  rw [hL] at hPL hSL
  rw [hR] at hPR hSR
  have hvL : ∀ w, Tab w → _ := fun w hT => level_at _ (c - 1) _ hkL (by omega) w hT
  have hvR : ∀ w, Tab w → _ := fun w hT => level_at _ (c - 1) _ hkR (by omega) w hT
  have hvx : ∀ w, Tab w → _ := fun w hT => level_at x c j hN hx9 w hT
  have hsx : ∀ w, Tab w → _ := fun w hT => span_yes x c j hN hx9 (by omega) w hT
  have hsL : ∀ w, Tab w → _ := fun w hT => span_yes _ (c - 1) _ hkL (by omega) (by omega) w hT
  have hsR : ∀ w, Tab w → _ := fun w hT => span_yes _ (c - 1) _ hkR (by omega) (by omega) w hT
  have hwL : ∀ w, Tab w → _ := fun w hT => within_at _ (c - 1) _ x c j hkL hN (by omega) hx9 w hT (by omega) (by omega)
  have hwR : ∀ w, Tab w → _ := fun w hT => within_at _ (c - 1) _ x c j hkR hN (by omega) hx9 w hT (by omega) (by omega)
  have hwx : ∀ w, Tab w → _ := fun w hT => within_below x c j _ (c - 1) _ hN hkL hx9 (by omega) w hT (by omega)
  rw [decide_eq_true hL] at hwL
  rw [decide_eq_true hR] at hwR
  have hf1 : j * 2 ^ c = 2 * j * 2 ^ (c - 1) := by rw [hs1, Nat.mul_left_comm, Nat.mul_assoc]
  have hf2 : (2 * j + 1) * 2 ^ (c - 1) = 2 * j * 2 ^ (c - 1) + 2 ^ (c - 1) := Nat.succ_mul _ _
  rw [hf1, hs1] at hsx
  rw [hf2] at hsR
  have b1 : x + 2 ^ (c - 1) ≤ 4294967296 := by omega
  have b2 : 2 ^ (c - 1) ≤ x := by omega
  have b3 : 2 * j * 2 ^ (c - 1) + 2 * 2 ^ (c - 1) ≤ 9223372036854775807 := by
    have := span_lt x c j hN (by omega) (by omega)
    rw [hf1, hs1] at this
    exact this
  have b4 : x + 2 ≤ 2 * 2 ^ d := by omega
  clear hL hR hkL hkR hN hN' hdiv hRlt hg hs1 hf1 hf2
  generalize 2 * j * 2 ^ (c - 1) = m at *
  generalize 2 ^ (c - 1) = p at *
  generalize 2 ^ d = D at *
  have e1 : ((x - p : Nat) : Int) = (x : Int) - p := by omega
  have e2 : ((x + p : Nat) : Int) = (x : Int) + p := by omega
  have e3 : 2 * (x : Int) - ((x - p : Nat) : Int) = ((x + p : Nat) : Int) := by omega
  have e4 : 2 * (x : Int) - ((x + p : Nat) : Int) = ((x - p : Nat) : Int) := by omega
  have e5 : ((m : Int) + ((2 * p : Nat) : Int) - 1) = ((m + p : Nat) : Int) + (p : Int) - 1 := by omega
  have e6 : ((m : Int) + (p : Int) - 1) = ((m + p : Nat) : Int) - 1 := by omega
  rw [e3] at hSL
  rw [e4] at hSR
  rw [e5] at hsx
  rw [e6] at hsL
  have f1 : x - p ≤ 4294967296 := by omega
  have f3 : 0 ≤ ((m + p : Nat) : Int) + p - 1 ∧ ((m + p : Nat) : Int) + p - 1 ≤ 9223372036854775807 := by omega
  have f4 : m + p ≤ 9223372036854775807 := by omega
  obtain ⟨z, hz⟩ : ∃ z : Int, z = ((m + p : Nat) : Int) + p - 1 := ⟨_, rfl⟩
  rw [← hz] at hsx hsR f3
  have q0 : decide (2 * (D : Int) - 1 - 1 < x) = false := decide_eq_false (by omega)
  clear e1 e2 e3 e4 e5 e6 hz b3 b2 hp1
  generalize x - p = L at *
  generalize x + p = R at *
  generalize m + p = n at *
  obtain ⟨k, rfl⟩ : ∃ k, c = k + 1 := ⟨c - 1, by omega⟩
  rw [Nat.add_sub_cancel] at hvL hvR
  have b5 : k ≤ 64 := by omega
  clear hx h1 hcd hx9 hs hd
  have T0 := hT
  have hpos := hT.pos
  go_enter Tryd.func7, Tryd.ntmps7
  go_wp2_with fail
  refine (h20 _ hT).mono ?_
  rintro e w' ⟨rfl, rfl⟩
  go_wp2_with fail
  refine (h21 _ hT).mono ?_
  rintro e w' ⟨rfl, rfl⟩
  go_wp2_with fail
  refine (h18 _).mono ?_
  rintro e w' ⟨rfl, rfl⟩
  go_wp2_with fail
  refine (hPL _ hT).mono ?_
  rintro e w' ⟨rfl, rfl⟩
  go_wp2_with fail
  refine (hPR _ hT).mono ?_
  rintro e w' ⟨rfl, rfl⟩
  go_wp2_with fail
  refine (hSL _ hT).mono ?_
  rintro e w' ⟨rfl, rfl⟩
  go_wp2_with fail
  refine (hSR _ hT).mono ?_
  rintro e w' ⟨rfl, rfl⟩
  clear h20 h21 h18 hPL hPR hSL hSR
  go_wp2_with fail
  refine (hvL _ hT).mono ?_
  rintro e w' ⟨rfl, rfl⟩
  go_wp2_with fail
  refine (hvx _ hT).mono ?_
  rintro e w' ⟨rfl, rfl⟩
  go_wp2_with fail
  refine (hvR _ hT).mono ?_
  rintro e w' ⟨rfl, rfl⟩
  go_wp2_with fail
  refine (hvL _ hT).mono ?_
  rintro e w' ⟨rfl, rfl⟩
  go_wp2_with fail
  refine (hsx _ hT).mono ?_
  rintro e w1 ⟨rfl, n1, rfl⟩
  go_wp2_with fail
  refine (hsL _ (hT.drewN _)).mono ?_
  rintro e w1 ⟨rfl, n2, rfl⟩
  go_wp2_with fail
  refine (hsR _ (hT.drewN _)).mono ?_
  rintro e w1 ⟨rfl, n3, rfl⟩
  go_wp2_with fail
  refine (hwL _ (hT.drewN _)).mono ?_
  rintro e w1 ⟨rfl, n4, rfl⟩
  go_wp2_with fail
  refine (hwR _ (hT.drewN _)).mono ?_
  rintro e w1 ⟨rfl, n5, rfl⟩
  go_wp2_with fail
  refine (hwx _ (hT.drewN _)).mono ?_
  rintro e w1 ⟨rfl, n6, rfl⟩
  go_wp2_with fail
  refine (alive _ (hT.drewN _)).mono ?_
  rintro e w1 ⟨rfl, b⟩
  go_wp2
  go_ret
  exact ⟨rfl, ⟨b.os, b.tape, b.output, b.size, b.block⟩⟩
theorem family (x l : Int) (hx : x ≤ 9223372036854775807) (hl : l ≤ 9223372036854775807) (w : World) (hT : Tab w) :
    Calls Tryd.prog 7 #[.int .i64 x, .int .i64 l] w fun e w' => e = .returned (.bool true) ∧ Below w.heap.size w w' := by
  obtain ⟨z1, b1, h20, -⟩ := both_left x hx
  obtain ⟨z2, b2, h21, -⟩ := both_right x hx
  have hzw : -9223372036854775808 ≤ widthOf l - 1 ∧ widthOf l - 1 ≤ 9223372036854775807 := by
    unfold widthOf
    split
    · rename_i h
      obtain ⟨d, hd, rfl⟩ := isT_iff.1 h
      have := pow_le hd
      have := two_pos d
      omega
    · omega
  by_cases hin : inT x l = true ∧ 0 < lev x
  · obtain ⟨hi, hlev⟩ := hin
    obtain ⟨n, d, hd, rfl, rfl, hn⟩ := inT_iff.1 hi
    obtain ⟨c, j, hN⟩ := Nd.make n
    rw [lev_nd n c j hN (by omega)] at hlev
    exact family_in n c j d hd hN hn (by omega) w hT
  · by_cases hlev : lev x < 1
    · exact family_out x l _ _ _ false false hzw w hT (left_no x w hT hx hlev) (right_no x w hT hx hlev) (width l w hl) (.inl rfl)
    · have hi : inT x l = false := by
        cases e : inT x l with
        | false => rfl
        | true => exact absurd ⟨e, by omega⟩ hin
      have hx0 : 0 ≤ x := by
        by_cases h : x < 0
        · rw [lev, if_pos h] at hlev; omega
        · omega
      refine family_out x l z1 z2 _ b1 b2 hzw w hT (h20 w hT) (h21 w hT) (width l w hl) (.inr (.inr (decide_eq_true ?_)))
      unfold widthOf
      unfold inT at hi
      split
      · rename_i h
        rw [h] at hi
        simp [hx0] at hi
        omega
      · omega
end Go.Proofs.YtglfcgaoadoamaaDoor
