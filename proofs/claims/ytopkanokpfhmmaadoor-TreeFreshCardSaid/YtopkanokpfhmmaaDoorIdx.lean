/- Walks of the functions of package index that answer numbers: each returns what its plain form says, in every world that holds the table of math/bits; the world stays as it was but for draws. -/
import Derived.Test.YtopkanokpfhmmaaDoorRows
import Derived.WalkKit
import Derived.Test.YtopkanokpfhmmaaDoorNum
import Derived.WalkSpells
import Derived.WalkLawsBesides
import Derived.Deep.QuietTactic
import Derived.BigQuiet
import Derived.Laws.Bits64b
import Derived.Lib.TrailingZeros
import Derived.Lib.Zigzag
import Derived.Lib.Hide
namespace Go.Proofs.YtopkanokpfhmmaaDoor
open Go.RowKit

/-- The table of math/bits in its variable. -/
def Tab (w : World) : Prop := ∀ j, j < 64 → w.cell? ⟨0, j, none⟩ = some (.int .u8 (Lib.deBruijn64tab.getD j 0))

theorem Tab.drew {w : World} (h : Tab w) : Tab w.drew := h
theorem Tab.drewN {w : World} (h : Tab w) (n : Nat) : Tab (w.drewN n) := h
set_option maxHeartbeats 1000000 in
theorem tz_core (x k idx : Nat) (w : World) (hx0 : ((x : Int) == 0) = false)
    (key : IntKind.u64.wrap (bits BinOp.and IntKind.u64 (x : Int) (IntKind.u64.wrap (-(x : Int))) * 285870213051353865) / 288230376151711744 = (idx : Int))
    (hi : idx < 64) (hk : k < 64) (hcell : w.cell? ⟨0, idx, none⟩ = some (.int .u8 k)) :
    Calls Tryd.prog 63 #[.int .u64 x] w fun e w' => e = .returned (.int .i64 k) ∧ w = w' := by
  go_enter Tryd.func63, Tryd.ntmps63
  go_wp2_with (simp only [key])
  go_ret
  exact ⟨rfl, rfl⟩
theorem tz_zero (w : World) : Calls Tryd.prog 63 #[.int .u64 0] w fun e w' => e = .returned (.int .i64 64) ∧ w = w' := by
  go_enter Tryd.func63, Tryd.ntmps63
  go_wp2
  go_ret
  exact ⟨rfl, rfl⟩
theorem tz_key (x a : Nat) (hx : x < 18446744073709551616) (hx0 : x ≠ 0) (hlow : x &&& (18446744073709551616 - x) = a) :
    IntKind.u64.wrap (bits BinOp.and IntKind.u64 (x : Int) (IntKind.u64.wrap (-(x : Int))) * 285870213051353865) / 288230376151711744 = ((a * 285870213051353865 % 18446744073709551616 / 288230376151711744 : Nat) : Int) := by
  have e1 : IntKind.u64.wrap (-(x : Int)) = ((18446744073709551616 - x : Nat) : Int) := by rw [IntKind.wrap_u64]; omega
  rw [e1, bits_and_u64_nat x _ hx (by omega), hlow, IntKind.wrap_u64]
  omega
theorem tz (x : Nat) (hx : x < 18446744073709551616) (w : World) (hT : Tab w) :
    Calls Tryd.prog 63 #[.int .u64 x] w fun e w' => e = .returned (.int .i64 (Lib.ctz 64 x)) ∧ w = w' := by
  by_cases hx0 : x = 0
  · subst hx0
    exact tz_zero w
  · obtain ⟨hlow, hk⟩ := Lib.lowest_bit 64 x hx0 hx
    obtain ⟨hi, htab⟩ := Lib.deBruijn64_at _ hk
    have hcell := hT _ hi
    rw [htab] at hcell
    exact tz_core x _ _ w (by simp; omega) (tz_key x _ hx hx0 hlow) hi hk hcell

/-- index.Level -/
def lev (x : Int) : Int := if x < 0 then -1 else (Lib.ctz 64 (18446744073709551615 - x.toNat) : Nat)
theorem level_neg (x : Int) (w : World) (h : decide (x < 0) = true) : Calls Tryd.prog 57 #[.int .i64 x] w fun e w' => e = .returned (.int .i64 (-1)) ∧ w = w' := by
  go_enter Tryd.func57, Tryd.ntmps57
  go_wp2
  go_ret
  exact ⟨rfl, rfl⟩
theorem max_xor (x : Nat) (h : x ≤ 9223372036854775807) : bits .xor .u64 IntKind.u64.max (x : Int) = ((18446744073709551615 - x : Nat) : Int) := by
  have e : IntKind.u64.max = ((18446744073709551615 : Nat) : Int) := by decide
  rw [e, bits_xor_u64_nat _ _ (by decide) (by omega), Lib.xor_ones64 _ (by omega)]
theorem level_pos (x : Nat) (w : World) (hT : Tab w) (hx : x ≤ 9223372036854775807) : Calls Tryd.prog 57 #[.int .i64 x] w fun e w' => e = .returned (.int .i64 (Lib.ctz 64 (18446744073709551615 - x) : Nat)) ∧ w = w' := by
  have h0 : decide ((x : Int) < 0) = false := by simp
  go_enter Tryd.func57, Tryd.ntmps57
  go_wp2_with fail
  rw [max_xor x hx]
  refine (tz _ (by omega) w hT).mono ?_
  rintro e w' ⟨rfl, rfl⟩
  go_wp2
  go_ret
  exact ⟨rfl, rfl⟩
theorem level (x : Int) (w : World) (hT : Tab w) (h : x ≤ 9223372036854775807) : Calls Tryd.prog 57 #[.int .i64 x] w fun e w' => e = .returned (.int .i64 (lev x)) ∧ w = w' := by
  by_cases h0 : x < 0
  · rw [lev, if_pos h0]
    exact level_neg x w (decide_eq_true h0)
  · rw [lev, if_neg h0]
    obtain ⟨n, rfl⟩ := Int.eq_ofNat_of_zero_le (show 0 ≤ x by omega)
    exact level_pos n w hT (by omega)
theorem level_at (x c j : Nat) (h : Nd x c j) (hx : x ≤ 9223372036854775807) (w : World) (hT : Tab w) :
    Calls Tryd.prog 57 #[.int .i64 x] w fun e w' => e = .returned (.int .i64 c) ∧ w = w' := by
  have := level_pos x w hT hx
  rw [lev_of x c j h hx] at this
  exact this
theorem left_no (x : Int) (w : World) (hT : Tab w) (hx : x ≤ 9223372036854775807) (h1 : lev x < 1) :
    Calls Tryd.prog 51 #[.int .i64 x] w fun e w' => e = .returned (.tuple #[.int .i64 0, .bool false]) ∧ w = w' := by
  have hL := level x w hT hx
  generalize lev x = k at hL h1
  go_enter Tryd.func51, Tryd.ntmps51
  go_wp2_with (go_at_call 57; refine hL.mono ?_; rintro e w' ⟨rfl, rfl⟩)
  go_ret2
  exact ⟨rfl, rfl⟩
theorem wrap_pow {m : Nat} (h : m ≤ 62) : wrap64 (2 ^ m) = ((2 ^ m : Nat) : Int) := by
  have hm : 2 ^ m ≤ 2 ^ 62 := Nat.pow_le_pow_right (by decide) h
  rw [show ((2 : Int) ^ m) = ((2 ^ m : Nat) : Int) by push_cast; rfl]
  generalize 2 ^ m = p at hm ⊢
  unfold wrap64
  omega
theorem left_yes (x c j : Nat) (hN : Nd x c j) (hx : x ≤ 9223372036854775807) (h1 : 1 ≤ c) (h2 : c ≤ 63) (w : World) (hT : Tab w) :
    Calls Tryd.prog 51 #[.int .i64 x] w fun e w' => e = .returned (.tuple #[.int .i64 (x - 2 ^ (c - 1) : Nat), .bool true]) ∧ w = w' := by
  have hL := level_at x c j hN hx w hT
  have hfin : bits .andNot .i64 (x : Int) (wrap64 (2 ^ (c - 1))) = ((x - 2 ^ (c - 1) : Nat) : Int) := by
    have hm : 2 ^ (c - 1) ≤ 2 ^ 62 := Nat.pow_le_pow_right (by decide) (by omega)
    have := left_num x c j hN (by omega) h1 h2
    rw [← this, wrap_pow (by omega)]
  have HF := Lib.hid hfin
  clear hfin hN
  go_enter Tryd.func51, Tryd.ntmps51
  go_wp2_with (go_at_call 57; refine hL.mono ?_; rintro e w' ⟨rfl, rfl⟩)
  go_ret2
  rw [← HF.out]
  exact ⟨rfl, rfl⟩

theorem right_no (x : Int) (w : World) (hT : Tab w) (hx : x ≤ 9223372036854775807) (h1 : lev x < 1) :
    Calls Tryd.prog 52 #[.int .i64 x] w fun e w' => e = .returned (.tuple #[.int .i64 0, .bool false]) ∧ w = w' := by
  have hL := level x w hT hx
  have hl := left_no x w hT hx h1
  generalize lev x = k at hL
  clear h1
  go_enter Tryd.func52, Tryd.ntmps52
  go_wp2_with (first | (go_at_call 57; refine hL.mono ?_; rintro e w' ⟨rfl, rfl⟩) | (go_at_call 51; refine hl.mono ?_; rintro e w' ⟨rfl, rfl⟩))
  go_ret2
  exact ⟨rfl, rfl⟩
theorem right_top (x j : Nat) (hN : Nd x 63 j) (hx : x ≤ 9223372036854775807) (w : World) (hT : Tab w) :
    Calls Tryd.prog 52 #[.int .i64 x] w fun e w' => e = .returned (.tuple #[.int .i64 0, .bool false]) ∧ w = w' := by
  have hL := level_at x 63 j hN hx w hT
  have hl := left_yes x 63 j hN hx (by decide) (by decide) w hT
  generalize x - 2 ^ (63 - 1) = y at hl
  clear hN
  go_enter Tryd.func52, Tryd.ntmps52
  go_wp2_with (first | (go_at_call 57; refine hL.mono ?_; rintro e w' ⟨rfl, rfl⟩) | (go_at_call 51; refine hl.mono ?_; rintro e w' ⟨rfl, rfl⟩))
  go_ret2
  exact ⟨rfl, rfl⟩
theorem right_yes (x c j : Nat) (hN : Nd x c j) (hx : x ≤ 9223372036854775807) (h1 : 1 ≤ c) (h2 : c ≤ 62) (w : World) (hT : Tab w) :
    Calls Tryd.prog 52 #[.int .i64 x] w fun e w' => e = .returned (.tuple #[.int .i64 (x + 2 ^ (c - 1) : Nat), .bool true]) ∧ w = w' := by
  have hL := level_at x c j hN hx w hT
  have hl := left_yes x c j hN hx h1 (by omega) w hT
  have ht := right_le x c j hN (by omega) h1 h2
  have hg := hN.ge
  have hs := two_succ (c - 1)
  rw [show c - 1 + 1 = c by omega] at hs
  have hw : wrap64 (2 ^ c) = ((2 ^ c : Nat) : Int) := wrap_pow (by omega)
  have e1 : wrap64 (((x - 2 ^ (c - 1) : Nat) : Int) + wrap64 (2 ^ c)) = ((x + 2 ^ (c - 1) : Nat) : Int) := by
    rw [hw]
    generalize 2 ^ c = p at *
    generalize 2 ^ (c - 1) = q at *
    unfold wrap64
    omega
  have a1 : ((c : Int) == 63) = false := by rw [beq_eq_false_iff_ne]; omega
  have a2 : decide (wrap64 (9223372036854775807 - wrap64 (2 ^ c)) < ((x - 2 ^ (c - 1) : Nat) : Int)) = false := by
    apply decide_eq_false
    rw [hw]
    generalize 2 ^ c = p at *
    generalize 2 ^ (c - 1) = q at *
    unfold wrap64
    omega
  have HE := Lib.hid e1
  clear hN hg hs ht e1 hw
  generalize hp : x + 2 ^ (c - 1) = z at HE ⊢
  generalize hq : x - 2 ^ (c - 1) = y at hl HE a2
  clear hp hq
  go_enter Tryd.func52, Tryd.ntmps52
  go_wp2_with (first | (go_at_call 57; refine hL.mono ?_; rintro e w' ⟨rfl, rfl⟩) | (go_at_call 51; refine hl.mono ?_; rintro e w' ⟨rfl, rfl⟩))
  go_ret2
  rw [← HE.out]
  exact ⟨rfl, rfl⟩
theorem tree (l : Int) (w : World) (hl : l ≤ 9223372036854775807) : Calls Tryd.prog 56 #[.int .i64 l] w fun e w' => e = .returned (.bool (isT l)) ∧ w = w' := by
  by_cases h0 : 0 < l
  · by_cases h1 : l ≤ 1073741824
    · have hm := Lib.hid (isT_mid l h0 h1)
      have a0 : decide (0 < l) = true := decide_eq_true h0
      have a1 : decide (l ≤ 1073741824) = true := decide_eq_true h1
      go_enter Tryd.func56, Tryd.ntmps56
      go_wp2
      go_ret
      rw [← hm.out]
      exact ⟨rfl, rfl⟩
    · rw [isT_high (by omega)]
      have a0 : decide (0 < l) = true := decide_eq_true h0
      have a1 : decide (l ≤ 1073741824) = false := decide_eq_false h1
      go_enter Tryd.func56, Tryd.ntmps56
      go_wp2
      go_ret
      exact ⟨rfl, rfl⟩
  · rw [isT_low (by omega)]
    have a0 : decide (0 < l) = false := decide_eq_false h0
    go_enter Tryd.func56, Tryd.ntmps56
    go_wp2
    go_ret
    exact ⟨rfl, rfl⟩
theorem in_ (x l : Int) (w : World) (hl : l ≤ 9223372036854775807) : Calls Tryd.prog 58 #[.int .i64 x, .int .i64 l] w fun e w' => e = .returned (.bool (inT x l)) ∧ w = w' := by
  have hc := tree l w hl
  unfold inT
  cases e : isT l with
  | false =>
    rw [e] at hc
    go_enter Tryd.func58, Tryd.ntmps58
    go_wp2_with (go_at_call 56; refine hc.mono ?_; rintro e w' ⟨rfl, rfl⟩)
    go_ret
    exact ⟨rfl, rfl⟩
  | true =>
    rw [e] at hc
    obtain ⟨d, hd, e2⟩ := isT_iff.1 e
    have hp := pow_le hd
    have hp2 := two_pos d
    have b0 : 0 < l := by omega
    have b1 : l ≤ 1073741824 := by omega
    clear e e2 hp hp2 hd
    by_cases h0 : 0 ≤ x
    · have a0 : decide (0 ≤ x) = true := decide_eq_true h0
      go_enter Tryd.func58, Tryd.ntmps58
      go_wp2_with (go_at_call 56; refine hc.mono ?_; rintro e w' ⟨rfl, rfl⟩)
      go_ret
      exact ⟨by simp [a0], rfl⟩
    · have a0 : decide (0 ≤ x) = false := decide_eq_false h0
      go_enter Tryd.func58, Tryd.ntmps58
      go_wp2_with (go_at_call 56; refine hc.mono ?_; rintro e w' ⟨rfl, rfl⟩)
      go_ret
      exact ⟨by simp [a0], rfl⟩
theorem parent_no (x l : Int) (w : World) (hl : l ≤ 9223372036854775807) (h : inT x l = false) :
    Calls Tryd.prog 59 #[.int .i64 x, .int .i64 l] w fun e w' => e = .returned (.tuple #[.int .i64 0, .bool false]) ∧ w = w' := by
  have hi := in_ x l w hl
  rw [h] at hi
  clear h
  go_enter Tryd.func59, Tryd.ntmps59
  go_wp2_with (go_at_call 58; refine hi.mono ?_; rintro e w' ⟨rfl, rfl⟩)
  go_ret2
  exact ⟨rfl, rfl⟩
theorem parent_root (l : Int) (w : World) (hl : l ≤ 1073741824) (hl0 : 0 < l) (h : inT (l - 1) l = true) :
    Calls Tryd.prog 59 #[.int .i64 (l - 1), .int .i64 l] w fun e w' => e = .returned (.tuple #[.int .i64 0, .bool false]) ∧ w = w' := by
  have hi := in_ (l - 1) l w (by omega)
  rw [h] at hi
  clear h
  go_enter Tryd.func59, Tryd.ntmps59
  go_wp2_with (go_at_call 58; refine hi.mono ?_; rintro e w' ⟨rfl, rfl⟩)
  go_ret2
  exact ⟨rfl, rfl⟩
theorem parent_yes (x c j d : Nat) (hd : d ≤ 30) (hN : Nd x c j) (hx : x + 1 < 2 ^ (d + 1)) (hc : c < d) (w : World) (hT : Tab w) :
    Calls Tryd.prog 59 #[.int .i64 x, .int .i64 (2 ^ d : Nat)] w fun e w' => e = .returned (.tuple #[.int .i64 (anc x (c + 1) : Nat), .bool true]) ∧ w = w' := by
  have hi := in_ x (2 ^ d : Nat) w (by have := pow_le hd; omega)
  rw [inT_nd hd hx] at hi
  have hp := pow_le hd
  have hs := two_succ d
  have hL := level_at x c j hN (by omega) w hT
  have hne : ((x : Int) == ((2 ^ d : Nat) : Int) - 1) = false := by
    rw [beq_eq_false_iff_ne]
    intro e
    have h1 : Nd x d 0 := by unfold Nd; omega
    have := h1.unique hN
    omega
  have hpn := parent_num x c j hN (by omega) (by omega)
  have hw1 : wrap64 (2 ^ c) = ((2 ^ c : Nat) : Int) := wrap_pow (by omega)
  have hc1 := two_succ c
  have hcp : 2 ^ c ≤ 2 ^ 30 := Nat.pow_le_pow_right (by decide) (by omega)
  have hw2 : wrap64 (wrap64 (2 ^ c) * 2) = ((2 ^ (c + 1) : Nat) : Int) := by
    rw [hw1, hc1]
    generalize 2 ^ c = p at *
    unfold wrap64
    omega
  have b1 : ((2 ^ d : Nat) : Int) ≤ 1073741824 := by omega
  have b2 : 0 < ((2 ^ d : Nat) : Int) := by omega
  have b3 : c ≤ 62 := by omega
  have HE := Lib.hid (show bits .andNot .i64 (bits .or .i64 (x : Int) (wrap64 (2 ^ c))) (wrap64 (wrap64 (2 ^ c) * 2)) = (anc x (c + 1) : Nat) by rw [hw2, hw1]; exact hpn)
  generalize anc x (c + 1) = z at HE ⊢
  clear hp hs hN hpn hw1 hw2 hc1 hcp hx hd
  generalize ((2 ^ d : Nat) : Int) = l at *
  go_enter Tryd.func59, Tryd.ntmps59
  go_wp2_with (first | (go_at_call 57; refine hL.mono ?_; rintro e w' ⟨rfl, rfl⟩) | (go_at_call 58; refine hi.mono ?_; rintro e w' ⟨rfl, rfl⟩))
  go_ret2
  rw [← HE.out]
  exact ⟨rfl, rfl⟩
theorem sibling_no (x l : Int) (w : World) (hp : Calls Tryd.prog 59 #[.int .i64 x, .int .i64 l] w fun e w' => e = .returned (.tuple #[.int .i64 0, .bool false]) ∧ w = w') :
    Calls Tryd.prog 62 #[.int .i64 x, .int .i64 l] w fun e w' => e = .returned (.tuple #[.int .i64 0, .bool false]) ∧ w = w' := by
  go_enter Tryd.func62, Tryd.ntmps62
  go_wp2_with (go_at_call 59; refine hp.mono ?_; rintro e w' ⟨rfl, rfl⟩)
  go_ret2
  exact ⟨rfl, rfl⟩
theorem sibling_yes (x c j d : Nat) (hd : d ≤ 30) (hN : Nd x c j) (hx : x + 1 < 2 ^ (d + 1)) (hc : c < d) (w : World) (hT : Tab w) :
    Calls Tryd.prog 62 #[.int .i64 x, .int .i64 (2 ^ d : Nat)] w fun e w' => e = .returned (.tuple #[.int .i64 (2 * (anc x (c + 1) : Nat) - x), .bool true]) ∧ w = w' := by
  have hp := parent_yes x c j d hd hN hx hc w hT
  have h1 := pow_le hd
  have hs := two_succ d
  have h2 : anc x (c + 1) < 4294967296 := by
    have := anc_lt hx (show c + 1 ≤ d by omega)
    omega
  have h3 : x < 4294967296 := by omega
  generalize anc x (c + 1) = z at *
  clear hN hx hc hd h1 hs
  generalize ((2 ^ d : Nat) : Int) = l at *
  go_enter Tryd.func62, Tryd.ntmps62
  go_wp2_with (go_at_call 59; refine hp.mono ?_; rintro e w' ⟨rfl, rfl⟩)
  go_ret2
  exact ⟨rfl, rfl⟩
theorem span_neg (x : Int) (w : World) (hx : x < 0) :
    Calls Tryd.prog 43 #[.int .i64 x] w fun e w' => e = .returned (.tuple #[.int .i64 (-1), .int .i64 (-1)]) ∧ w = w' := by
  have hL := level_neg x w (decide_eq_true hx)
  clear hx
  go_enter Tryd.func43, Tryd.ntmps43
  go_wp2_with (go_at_call 57; refine hL.mono ?_; rintro e w' ⟨rfl, rfl⟩)
  go_ret2
  exact ⟨rfl, rfl⟩
theorem span_top (x j : Nat) (hN : Nd x 63 j) (hx : x ≤ 9223372036854775807) (w : World) (hT : Tab w) :
    Calls Tryd.prog 43 #[.int .i64 x] w fun e w' => e = .returned (.tuple #[.int .i64 (-1), .int .i64 (-1)]) ∧ w = w' := by
  have hL := level_at x 63 j hN hx w hT
  clear hN
  go_enter Tryd.func43, Tryd.ntmps43
  go_wp2_with (go_at_call 57; refine hL.mono ?_; rintro e w' ⟨rfl, rfl⟩)
  go_ret2
  exact ⟨rfl, rfl⟩
theorem span_yes (x c j : Nat) (hN : Nd x c j) (hx : x ≤ 9223372036854775807) (hc : c ≤ 62) (w : World) (hT : Tab w) :
    Calls Tryd.prog 43 #[.int .i64 x] w fun e w' => e = .returned (.tuple #[.int .i64 (j * 2 ^ c : Nat), .int .i64 ((j * 2 ^ c : Nat) + (2 ^ c : Nat) - 1 : Int)]) ∧ ∃ n, w' = w.drewN n := by
  have hL := level_at x c j hN hx w hT
  have e1 : wrap64 ((x : Int) / 2 ^ (c + 1) * 2 ^ c) = ((j * 2 ^ c : Nat) : Int) := by
    rw [show ((x : Int) / 2 ^ (c + 1)) = ((x / 2 ^ (c + 1) : Nat) : Int) by push_cast; rfl, hN.div, show ((j : Int) * 2 ^ c) = ((j * 2 ^ c : Nat) : Int) by push_cast; rfl]
    have h1 := span_lt x c j hN (by omega) hc
    have h2 : j * 2 ^ c ≤ 9223372036854775807 := Nat.le_trans (Nat.le_add_right _ _) h1
    clear h1
    generalize j * 2 ^ c = p at *
    unfold wrap64
    omega
  have hw := wrap_pow (m := c) (by omega)
  have e2 : wrap64 (wrap64 (wrap64 ((x : Int) / 2 ^ (c + 1) * 2 ^ c) + wrap64 (2 ^ c)) - 1) = ((j * 2 ^ c : Nat) + (2 ^ c : Nat) - 1 : Int) := by
    rw [e1, hw]
    have := span_lt x c j hN (by omega) hc
    have := two_pos c
    generalize j * 2 ^ c = p at *
    generalize 2 ^ c = q at *
    unfold wrap64
    omega
  have a1 : ((c : Int) == 63) = false := by rw [beq_eq_false_iff_ne]; omega
  have a0 : decide ((c : Int) < 0) = false := by simp
  have E1 := Lib.hid e1
  have E2 := Lib.hid e2
  clear e1 e2 hw hN
  generalize j * 2 ^ c = p at *
  generalize hq : ((p : Nat) + (2 ^ c : Nat) - 1 : Int) = q at *
  clear hq
  go_enter Tryd.func43, Tryd.ntmps43
  go_wp2_with (go_at_call 57; refine hL.mono ?_; rintro e w' ⟨rfl, rfl⟩)
  go_region
  all_goals go_wp2
  all_goals go_ret2
  all_goals rw [← E2.out, ← E1.out]
  all_goals exact ⟨rfl, 1, rfl⟩
end Go.Proofs.YtopkanokpfhmmaaDoor
