/- Walks of the functions of package index that answer numbers: each returns what its plain form says, in every world that holds the table of math/bits; the world stays as it was but for draws. -/
import Derived.Test.YtenaljhkdnhgpaaGreatDoorRows
import Derived.WalkKit
import Derived.Test.YtenaljhkdnhgpaaGreatDoorNum
import Derived.WalkSpells
import Derived.WalkLawsBesides
import Derived.Deep.QuietTactic
import Derived.BigQuiet
import Derived.Laws.Bits64b
import Derived.Lib.TrailingZeros
import Derived.Lib.Zigzag
import Derived.Lib.Hide
namespace Go.Proofs.YtenaljhkdnhgpaaGreatDoor
open Go.RowKit

/-- The table of math/bits in its variable. -/
def Tab (w : World) : Prop := ∀ j, j < 64 → w.cell? ⟨0, j, none⟩ = some (.int .u8 (Lib.deBruijn64tab.getD j 0))

theorem Tab.drew {w : World} (h : Tab w) : Tab w.drew := h
theorem Tab.drewN {w : World} (h : Tab w) (n : Nat) : Tab (w.drewN n) := h
set_option maxHeartbeats 1000000 in
theorem tz_core (x k idx : Nat) (w : World) (hx0 : ((x : Int) == 0) = false)
    (key : IntKind.u64.wrap (bits BinOp.and IntKind.u64 (x : Int) (IntKind.u64.wrap (-(x : Int))) * 285870213051353865) / 288230376151711744 = (idx : Int))
    (hi : idx < 64) (hk : k < 64) (hcell : w.cell? ⟨0, idx, none⟩ = some (.int .u8 k)) :
    Calls Tryz.prog 216 #[.int .u64 x] w fun e w' => e = .returned (.int .i64 k) ∧ w = w' := by
  go_enter Tryz.func216, Tryz.ntmps216
  go_wp2_with (simp only [key])
  go_ret
  exact ⟨rfl, rfl⟩
theorem tz_zero (w : World) : Calls Tryz.prog 216 #[.int .u64 0] w fun e w' => e = .returned (.int .i64 64) ∧ w = w' := by
  go_enter Tryz.func216, Tryz.ntmps216
  go_wp2
  go_ret
  exact ⟨rfl, rfl⟩
theorem tz_key (x a : Nat) (hx : x < 18446744073709551616) (hx0 : x ≠ 0) (hlow : x &&& (18446744073709551616 - x) = a) :
    IntKind.u64.wrap (bits BinOp.and IntKind.u64 (x : Int) (IntKind.u64.wrap (-(x : Int))) * 285870213051353865) / 288230376151711744 = ((a * 285870213051353865 % 18446744073709551616 / 288230376151711744 : Nat) : Int) := by
  have e1 : IntKind.u64.wrap (-(x : Int)) = ((18446744073709551616 - x : Nat) : Int) := by rw [IntKind.wrap_u64]; omega
  rw [e1, bits_and_u64_nat x _ hx (by omega), hlow, IntKind.wrap_u64]
  omega
theorem tz (x : Nat) (hx : x < 18446744073709551616) (w : World) (hT : Tab w) :
    Calls Tryz.prog 216 #[.int .u64 x] w fun e w' => e = .returned (.int .i64 (Lib.ctz 64 x)) ∧ w = w' := by
  by_cases hx0 : x = 0
  · subst hx0
    exact tz_zero w
  · obtain ⟨hlow, hk⟩ := Lib.lowest_bit 64 x hx0 hx
    obtain ⟨hi, htab⟩ := Lib.deBruijn64_at _ hk
    have hcell := hT _ hi
    rw [htab] at hcell
    exact tz_core x _ _ w (by simp; omega) (tz_key x _ hx hx0 hlow) hi hk hcell

/-- index.Level -/
def lev (x : Int) : Int := if x < 0 then -1 else (Lib.ctz 64 (18446744073709551615 - x.toNat) : Nat)
theorem level_neg (x : Int) (w : World) (h : decide (x < 0) = true) : Calls Tryz.prog 138 #[.int .i64 x] w fun e w' => e = .returned (.int .i64 (-1)) ∧ w = w' := by
  go_enter Tryz.func138, Tryz.ntmps138
  go_wp2
  go_ret
  exact ⟨rfl, rfl⟩
theorem max_xor (x : Nat) (h : x ≤ 9223372036854775807) : bits .xor .u64 IntKind.u64.max (x : Int) = ((18446744073709551615 - x : Nat) : Int) := by
  have e : IntKind.u64.max = ((18446744073709551615 : Nat) : Int) := by decide
  rw [e, bits_xor_u64_nat _ _ (by decide) (by omega), Lib.xor_ones64 _ (by omega)]
theorem level_pos (x : Nat) (w : World) (hT : Tab w) (hx : x ≤ 9223372036854775807) : Calls Tryz.prog 138 #[.int .i64 x] w fun e w' => e = .returned (.int .i64 (Lib.ctz 64 (18446744073709551615 - x) : Nat)) ∧ w = w' := by
  have h0 : decide ((x : Int) < 0) = false := by simp
  go_enter Tryz.func138, Tryz.ntmps138
  go_wp2_with fail
  rw [max_xor x hx]
  refine (tz _ (by omega) w hT).mono ?_
  rintro e w' ⟨rfl, rfl⟩
  go_wp2
  go_ret
  exact ⟨rfl, rfl⟩
theorem level (x : Int) (w : World) (hT : Tab w) (h : x ≤ 9223372036854775807) : Calls Tryz.prog 138 #[.int .i64 x] w fun e w' => e = .returned (.int .i64 (lev x)) ∧ w = w' := by
  by_cases h0 : x < 0
  · rw [lev, if_pos h0]
    exact level_neg x w (decide_eq_true h0)
  · rw [lev, if_neg h0]
    obtain ⟨n, rfl⟩ := Int.eq_ofNat_of_zero_le (show 0 ≤ x by omega)
    exact level_pos n w hT (by omega)
theorem level_at (x c j : Nat) (h : Nd x c j) (hx : x ≤ 9223372036854775807) (w : World) (hT : Tab w) :
    Calls Tryz.prog 138 #[.int .i64 x] w fun e w' => e = .returned (.int .i64 c) ∧ w = w' := by
  have := level_pos x w hT hx
  rw [lev_of x c j h hx] at this
  exact this
theorem wrap_pow {m : Nat} (h : m ≤ 62) : wrap64 (2 ^ m) = ((2 ^ m : Nat) : Int) := by
  have hm : 2 ^ m ≤ 2 ^ 62 := Nat.pow_le_pow_right (by decide) h
  rw [show ((2 : Int) ^ m) = ((2 ^ m : Nat) : Int) by push_cast; rfl]
  generalize 2 ^ m = p at hm ⊢
  unfold wrap64
  omega
theorem tree (l : Int) (w : World) (hl : l ≤ 9223372036854775807) : Calls Tryz.prog 215 #[.int .i64 l] w fun e w' => e = .returned (.bool (isT l)) ∧ w = w' := by
  by_cases h0 : 0 < l
  · by_cases h1 : l ≤ 1073741824
    · have hm := Lib.hid (isT_mid l h0 h1)
      have a0 : decide (0 < l) = true := decide_eq_true h0
      have a1 : decide (l ≤ 1073741824) = true := decide_eq_true h1
      go_enter Tryz.func215, Tryz.ntmps215
      go_wp2
      go_ret
      rw [← hm.out]
      exact ⟨rfl, rfl⟩
    · rw [isT_high (by omega)]
      have a0 : decide (0 < l) = true := decide_eq_true h0
      have a1 : decide (l ≤ 1073741824) = false := decide_eq_false h1
      go_enter Tryz.func215, Tryz.ntmps215
      go_wp2
      go_ret
      exact ⟨rfl, rfl⟩
  · rw [isT_low (by omega)]
    have a0 : decide (0 < l) = false := decide_eq_false h0
    go_enter Tryz.func215, Tryz.ntmps215
    go_wp2
    go_ret
    exact ⟨rfl, rfl⟩
theorem in_ (x l : Int) (w : World) (hl : l ≤ 9223372036854775807) : Calls Tryz.prog 137 #[.int .i64 x, .int .i64 l] w fun e w' => e = .returned (.bool (inT x l)) ∧ w = w' := by
  have hc := tree l w hl
  unfold inT
  cases e : isT l with
  | false =>
    rw [e] at hc
    go_enter Tryz.func137, Tryz.ntmps137
    go_wp2_with (go_at_call 215; refine hc.mono ?_; rintro e w' ⟨rfl, rfl⟩)
    go_ret
    exact ⟨rfl, rfl⟩
  | true =>
    rw [e] at hc
    obtain ⟨d, hd, e2⟩ := isT_iff.1 e
    have hp := pow_le hd
    have hp2 := two_pos d
    have b0 : 0 < l := by omega
    have b1 : l ≤ 1073741824 := by omega
    clear e e2 hp hp2 hd
    by_cases h0 : 0 ≤ x
    · have a0 : decide (0 ≤ x) = true := decide_eq_true h0
      go_enter Tryz.func137, Tryz.ntmps137
      go_wp2_with (go_at_call 215; refine hc.mono ?_; rintro e w' ⟨rfl, rfl⟩)
      go_ret
      exact ⟨by simp [a0], rfl⟩
    · have a0 : decide (0 ≤ x) = false := decide_eq_false h0
      go_enter Tryz.func137, Tryz.ntmps137
      go_wp2_with (go_at_call 215; refine hc.mono ?_; rintro e w' ⟨rfl, rfl⟩)
      go_ret
      exact ⟨by simp [a0], rfl⟩
theorem parent_no (x l : Int) (w : World) (hl : l ≤ 9223372036854775807) (h : inT x l = false) :
    Calls Tryz.prog 15 #[.int .i64 x, .int .i64 l] w fun e w' => e = .returned (.tuple #[.int .i64 0, .bool false]) ∧ w = w' := by
  have hi := in_ x l w hl
  rw [h] at hi
  clear h
  go_enter Tryz.func15, Tryz.ntmps15
  go_wp2_with (go_at_call 137; refine hi.mono ?_; rintro e w' ⟨rfl, rfl⟩)
  go_ret2
  exact ⟨rfl, rfl⟩
theorem parent_root (l : Int) (w : World) (hl : l ≤ 1073741824) (hl0 : 0 < l) (h : inT (l - 1) l = true) :
    Calls Tryz.prog 15 #[.int .i64 (l - 1), .int .i64 l] w fun e w' => e = .returned (.tuple #[.int .i64 0, .bool false]) ∧ w = w' := by
  have hi := in_ (l - 1) l w (by omega)
  rw [h] at hi
  clear h
  go_enter Tryz.func15, Tryz.ntmps15
  go_wp2_with (go_at_call 137; refine hi.mono ?_; rintro e w' ⟨rfl, rfl⟩)
  go_ret2
  exact ⟨rfl, rfl⟩
theorem parent_yes (x c j d : Nat) (hd : d ≤ 30) (hN : Nd x c j) (hx : x + 1 < 2 ^ (d + 1)) (hc : c < d) (w : World) (hT : Tab w) :
    Calls Tryz.prog 15 #[.int .i64 x, .int .i64 (2 ^ d : Nat)] w fun e w' => e = .returned (.tuple #[.int .i64 (anc x (c + 1) : Nat), .bool true]) ∧ w = w' := by
  have hi := in_ x (2 ^ d : Nat) w (by have := pow_le hd; omega)
  rw [inT_nd hd hx] at hi
  have hp := pow_le hd
  have hs := two_succ d
  have hL := level_at x c j hN (by omega) w hT
  have hne : ((x : Int) == ((2 ^ d : Nat) : Int) - 1) = false := by
    rw [beq_eq_false_iff_ne]
    intro e
    have h1 : Nd x d 0 := by unfold Nd; omega
    have := h1.unique hN
    omega
  have hpn := parent_num x c j hN (by omega) (by omega)
  have hw1 : wrap64 (2 ^ c) = ((2 ^ c : Nat) : Int) := wrap_pow (by omega)
  have hc1 := two_succ c
  have hcp : 2 ^ c ≤ 2 ^ 30 := Nat.pow_le_pow_right (by decide) (by omega)
  have hw2 : wrap64 (wrap64 (2 ^ c) * 2) = ((2 ^ (c + 1) : Nat) : Int) := by
    rw [hw1, hc1]
    generalize 2 ^ c = p at *
    unfold wrap64
    omega
  have b1 : ((2 ^ d : Nat) : Int) ≤ 1073741824 := by omega
  have b2 : 0 < ((2 ^ d : Nat) : Int) := by omega
  have b3 : c ≤ 62 := by omega
  have HE := Lib.hid (show bits .andNot .i64 (bits .or .i64 (x : Int) (wrap64 (2 ^ c))) (wrap64 (wrap64 (2 ^ c) * 2)) = (anc x (c + 1) : Nat) by rw [hw2, hw1]; exact hpn)
  generalize anc x (c + 1) = z at HE ⊢
  clear hp hs hN hpn hw1 hw2 hc1 hcp hx hd
  generalize ((2 ^ d : Nat) : Int) = l at *
  go_enter Tryz.func15, Tryz.ntmps15
  go_wp2_with (first | (go_at_call 138; refine hL.mono ?_; rintro e w' ⟨rfl, rfl⟩) | (go_at_call 137; refine hi.mono ?_; rintro e w' ⟨rfl, rfl⟩))
  go_ret2
  rw [← HE.out]
  exact ⟨rfl, rfl⟩
theorem sibling_no (x l : Int) (w : World) (hp : Calls Tryz.prog 15 #[.int .i64 x, .int .i64 l] w fun e w' => e = .returned (.tuple #[.int .i64 0, .bool false]) ∧ w = w') :
    Calls Tryz.prog 16 #[.int .i64 x, .int .i64 l] w fun e w' => e = .returned (.tuple #[.int .i64 0, .bool false]) ∧ w = w' := by
  go_enter Tryz.func16, Tryz.ntmps16
  go_wp2_with (go_at_call 15; refine hp.mono ?_; rintro e w' ⟨rfl, rfl⟩)
  go_ret2
  exact ⟨rfl, rfl⟩
theorem sibling_yes (x c j d : Nat) (hd : d ≤ 30) (hN : Nd x c j) (hx : x + 1 < 2 ^ (d + 1)) (hc : c < d) (w : World) (hT : Tab w) :
    Calls Tryz.prog 16 #[.int .i64 x, .int .i64 (2 ^ d : Nat)] w fun e w' => e = .returned (.tuple #[.int .i64 (2 * (anc x (c + 1) : Nat) - x), .bool true]) ∧ w = w' := by
  have hp := parent_yes x c j d hd hN hx hc w hT
  have h1 := pow_le hd
  have hs := two_succ d
  have h2 : anc x (c + 1) < 4294967296 := by
    have := anc_lt hx (show c + 1 ≤ d by omega)
    omega
  have h3 : x < 4294967296 := by omega
  generalize anc x (c + 1) = z at *
  clear hN hx hc hd h1 hs
  generalize ((2 ^ d : Nat) : Int) = l at *
  go_enter Tryz.func16, Tryz.ntmps16
  go_wp2_with (go_at_call 15; refine hp.mono ?_; rintro e w' ⟨rfl, rfl⟩)
  go_ret2
  exact ⟨rfl, rfl⟩
theorem within_neg (x y : Int) (w : World) (h : x < 0 ∨ y < 0) :
    Calls Tryz.prog 219 #[.int .i64 x, .int .i64 y] w fun e w' => e = .returned (.bool false) ∧ w = w' := by
  by_cases h0 : x < 0
  · have a0 : decide (x < 0) = true := decide_eq_true h0
    clear h h0
    go_enter Tryz.func219, Tryz.ntmps219
    go_wp2
    go_ret
    exact ⟨rfl, rfl⟩
  · have a0 : decide (x < 0) = false := decide_eq_false h0
    have a1 : decide (y < 0) = true := decide_eq_true (by omega)
    clear h h0
    go_enter Tryz.func219, Tryz.ntmps219
    go_wp2
    go_ret
    exact ⟨rfl, rfl⟩
theorem within_below (x c i y k j : Nat) (hN : Nd x c i) (hM : Nd y k j) (hx : x ≤ 9223372036854775807) (hy : y ≤ 9223372036854775807) (w : World) (hT : Tab w) (h : k < c) :
    Calls Tryz.prog 219 #[.int .i64 x, .int .i64 y] w fun e w' => e = .returned (.bool false) ∧ ∃ n, w' = w.drewN n := by
  have hL : ∀ w, Tab w → Calls Tryz.prog 138 #[.int .i64 x] w fun e w' => e = .returned (.int .i64 c) ∧ w = w' := fun w hT => level_at x c i hN hx w hT
  have hK := level_at y k j hM hy w hT
  have a0 : decide ((x : Int) < 0) = false := by simp
  have a1 : decide ((y : Int) < 0) = false := by simp
  have a2 : decide (c ≤ k) = false := decide_eq_false (by omega)
  clear hN hM hx hy h
  go_enter Tryz.func219, Tryz.ntmps219
  go_wp2_with (go_at_call 138; refine hK.mono ?_; rintro e w' ⟨rfl, rfl⟩)
  go_quiet ((go_at_call 138; exact Calls.quiet_of_same ((hL _ (by first | exact hT | exact hT.drewN _ | exact hT.drew)).mono (fun e w' h => ⟨h.1, h.2.symm⟩))))
  go_wp2
  go_ret
  exact ⟨rfl, _, rfl⟩
theorem within_at (x c i y k j : Nat) (hN : Nd x c i) (hM : Nd y k j) (hx : x ≤ 9223372036854775807) (hy : y ≤ 9223372036854775807) (w : World) (hT : Tab w) (h : c ≤ k) (hk : k ≤ 62) :
    Calls Tryz.prog 219 #[.int .i64 x, .int .i64 y] w fun e w' => e = .returned (.bool (decide (anc x k = y))) ∧ ∃ n, w' = w.drewN n := by
  have hL : ∀ w, Tab w → Calls Tryz.prog 138 #[.int .i64 x] w fun e w' => e = .returned (.int .i64 c) ∧ w = w' := fun w hT => level_at x c i hN hx w hT
  have hK := level_at y k j hM hy w hT
  have a0 : decide ((x : Int) < 0) = false := by simp
  have a1 : decide ((y : Int) < 0) = false := by simp
  have a2 : decide (c ≤ k) = true := decide_eq_true (by omega)
  have a3 : ∀ w, (Builtin.min_ #[3, 3] 3 #[.int .i64 (k + 1), .int .i64 63]).run Tryz.prog w = .ok (.int .i64 (k + 1)) w := fun w => by
    rw [run_min_int2, if_neg (by omega)]
  have HE := Lib.hid (anc_eq_iff (x := x) hM)
  clear hN hx hy h hM
  generalize decide (anc x k = y) = b at *
  go_enter Tryz.func219, Tryz.ntmps219
  go_wp2_with (go_at_call 138; refine hK.mono ?_; rintro e w' ⟨rfl, rfl⟩)
  go_quiet ((go_at_call 138; exact Calls.quiet_of_same ((hL _ (by first | exact hT | exact hT.drewN _ | exact hT.drew)).mono (fun e w' h => ⟨h.1, h.2.symm⟩))))
  go_wp2
  go_ret
  rw [← HE.out]
  exact ⟨rfl, _, rfl⟩
theorem within_top (x c i y j : Nat) (hN : Nd x c i) (hM : Nd y 63 j) (hx : x ≤ 9223372036854775807) (hy : y ≤ 9223372036854775807) (w : World) (hT : Tab w) :
    Calls Tryz.prog 219 #[.int .i64 x, .int .i64 y] w fun e w' => e = .returned (.bool true) ∧ ∃ n, w' = w.drewN n := by
  have hL : ∀ w, Tab w → Calls Tryz.prog 138 #[.int .i64 x] w fun e w' => e = .returned (.int .i64 c) ∧ w = w' := fun w hT => level_at x c i hN hx w hT
  have hK := level_at y 63 j hM hy w hT
  have a0 : decide ((x : Int) < 0) = false := by simp
  have a1 : decide ((y : Int) < 0) = false := by simp
  have a2 : decide ((c : Int) ≤ 63) = true := decide_eq_true (by have := hN.level_lt (n := 64) (by omega); omega)
  have HE := Lib.hid (show ((x : Int) / 9223372036854775808 == (y : Int) / 9223372036854775808) = true by rw [beq_iff_eq]; omega)
  clear hN hx hy hM
  go_enter Tryz.func219, Tryz.ntmps219
  go_wp2_with (go_at_call 138; refine hK.mono ?_; rintro e w' ⟨rfl, rfl⟩)
  go_quiet ((go_at_call 138; exact Calls.quiet_of_same ((hL _ (by first | exact hT | exact hT.drewN _ | exact hT.drew)).mono (fun e w' h => ⟨h.1, h.2.symm⟩))))
  go_wp2
  go_ret
  rw [← HE.out]
  exact ⟨rfl, _, rfl⟩
end Go.Proofs.YtenaljhkdnhgpaaGreatDoor
