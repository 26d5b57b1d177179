/- Walks of the document's own answer for the layer index (package phratryref02), and of SameNumbers: each returns what its plain form says. -/
import Derived.Test.YtopkanokpfhmmaaDoorUps
namespace Go.Proofs.YtopkanokpfhmmaaDoor
open Go.RowKit

/-- Width, Root. -/
def widthOf (l : Int) : Int := if isT l = true then 2 * l - 1 else 0
def rootOf (l : Int) : Int := if isT l = true then l - 1 else -1
set_option maxHeartbeats 1000000 in
theorem width (l : Int) (w : World) (hl : l ≤ 9223372036854775807) : Calls Tryd.prog 42 #[.int .i64 l] w fun e w' => e = .returned (.int .i64 (widthOf l)) ∧ w = w' := by
  have hc := tree l w hl
  unfold widthOf
  cases e : isT l with
  | false =>
    rw [e] at hc
    rw [if_neg (by decide)]
    go_enter Tryd.func42, Tryd.ntmps42
    go_wp2_with (go_at_call 56; refine hc.mono ?_; rintro e w' ⟨rfl, rfl⟩)
    go_ret
    exact ⟨rfl, rfl⟩
  | true =>
    rw [e] at hc
    rw [if_pos rfl]
    obtain ⟨d, hd, e2⟩ := isT_iff.1 e
    have hp := pow_le hd
    have hp2 := two_pos d
    have b0 : 0 < l := by omega
    have b1 : l ≤ 1073741824 := by omega
    clear e e2 hp hp2 hd
    go_enter Tryd.func42, Tryd.ntmps42
    go_wp2_with (go_at_call 56; refine hc.mono ?_; rintro e w' ⟨rfl, rfl⟩)
    go_ret
    exact ⟨rfl, rfl⟩
theorem Nd.odd {x c j : Nat} (h : Nd x c j) : x % 2 = 1 ↔ 0 < c := by
  unfold Nd at h
  cases c with
  | zero => simp at h; omega
  | succ c => rw [two_succ, Nat.mul_assoc] at h; omega
theorem Nd.half {x c j : Nat} (h : Nd x (c + 1) j) : Nd (x / 2) c j := by
  unfold Nd at h ⊢
  rw [two_succ, Nat.mul_assoc] at h
  omega
theorem rlevel_neg (x : Int) (w : World) (h : decide (x < 0) = true) : Calls Tryd.prog 53 #[.int .i64 x] w fun e w' => e = .returned (.int .i64 (-1)) ∧ w = w' := by
  go_enter Tryd.func53, Tryd.ntmps53
  go_wp2
  go_ret
  exact ⟨rfl, rfl⟩
set_option maxHeartbeats 1000000 in
theorem rlevel (x c j : Nat) (hN : Nd x c j) (hx : x ≤ 9223372036854775807) (w : World) : Calls Tryd.prog 53 #[.int .i64 x] w fun e w' => e = .returned (.int .i64 c) ∧ w = w' := by
  have h0 : decide ((x : Int) < 0) = false := by simp
  have hc := hN.level_lt (n := 64) (by omega)
  go_enter Tryd.func53, Tryd.ntmps53
  go_wp2_with fail
  go_loop [0, 3] (fun v0 v3 => ∃ n y : Nat, n ≤ c ∧ y ≤ x ∧ v0 = .int .i64 y ∧ v3 = .int .i64 n ∧ Nd y (c - n) j) (fun _ v3 => c + 1 - (intOf v3).toNat)
  case atStart => exact ⟨0, x, by omega, by omega, rfl, rfl, hN⟩
  case round =>
    obtain ⟨n, y, hn, hy, rfl, rfl, hM⟩ := hrel
    by_cases hnc : n = c
    · have hodd := hM.odd
      have q : ((y : Int) % 2 == 1) = false := by rw [beq_eq_false_iff_ne]; omega
      have HC := Lib.hid hnc
      clear hodd hnc hM
      go_wp2
      go_ret
      rw [HC.out]
      exact ⟨rfl, rfl⟩
    · have hodd := hM.odd
      have q : ((y : Int) % 2 == 1) = true := by rw [beq_iff_eq]; omega
      have HM := Lib.hid (show Nd (y / 2) (c - (n + 1)) j by
        have : c - n = c - (n + 1) + 1 := by omega
        rw [this] at hM
        exact hM.half)
      have hn2 : n < c := by omega
      clear hodd hnc hM
      go_wp2
      go_round
      case rel => exact ⟨n + 1, y / 2, by omega, by omega, by go_num, by go_num, HM.out⟩
      case measure => simp [intOf]; omega
/-- half: 2^(c-1) of a parent, else 0. -/
def halfOf (c : Nat) : Nat := if c = 0 then 0 else 2 ^ (c - 1)
theorem rhalf_neg (x : Int) (w : World) (h : decide (x < 0) = true) : Calls Tryd.prog 38 #[.int .i64 x] w fun e w' => e = .returned (.int .i64 0) ∧ w = w' := by
  have hc := rlevel_neg x w h
  go_enter Tryd.func38, Tryd.ntmps38
  go_wp2_with (go_at_call 53; refine hc.mono ?_; rintro e w' ⟨rfl, rfl⟩)
  go_ret
  exact ⟨rfl, rfl⟩
set_option maxHeartbeats 1000000 in
theorem rhalf (x c j : Nat) (hN : Nd x c j) (hx : x ≤ 9223372036854775807) (w : World) : Calls Tryd.prog 38 #[.int .i64 x] w fun e w' => e = .returned (.int .i64 (halfOf c)) ∧ w = w' := by
  have hL := rlevel x c j hN hx w
  have hc := hN.level_lt (n := 64) (by omega)
  unfold halfOf
  by_cases h0 : c = 0
  · rw [if_pos h0]
    subst h0
    go_enter Tryd.func38, Tryd.ntmps38
    go_wp2_with (go_at_call 53; refine hL.mono ?_; rintro e w' ⟨rfl, rfl⟩)
    go_ret
    exact ⟨rfl, rfl⟩
  · rw [if_neg h0]
    have h1 : 1 ≤ c := by omega
    clear hN h0
    go_enter Tryd.func38, Tryd.ntmps38
    go_wp2_with (go_at_call 53; refine hL.mono ?_; rintro e w' ⟨rfl, rfl⟩)
    go_loop [4, 5] (fun v4 v5 => ∃ k : Nat, 1 ≤ k ∧ k ≤ c ∧ v4 = .int .i64 (2 ^ (k - 1) : Nat) ∧ v5 = .int .i64 k) (fun _ v5 => c + 1 - (intOf v5).toNat)
    case atStart => exact ⟨1, by omega, by omega, rfl, rfl⟩
    case round =>
      obtain ⟨k, hk1, hk, rfl, rfl⟩ := hrel
      by_cases he : k = c
      · subst he
        go_wp2
        go_ret
        exact ⟨by push_cast; rfl, rfl⟩
      · have hs := two_succ (k - 1)
        have hp : 2 ^ (k - 1) ≤ 2 ^ 61 := Nat.pow_le_pow_right (by decide) (by omega)
        have hkc : k < c := by omega
        obtain ⟨p, hpe⟩ : ∃ p, p = 2 ^ (k - 1) := ⟨_, rfl⟩
        have HS := Lib.hid (show 2 ^ (k + 1 - 1) = 2 * p by rw [hpe, ← hs]; congr 1; omega)
        rw [← hpe] at hp ⊢
        clear hpe hs he
        go_wp2
        go_round
        case rel => exact ⟨k + 1, by omega, by omega, by rw [HS.out]; go_num, by go_num⟩
        case measure => simp [intOf]; omega

theorem halfOf_pos {c : Nat} (h : 1 ≤ c) : halfOf c = 2 ^ (c - 1) := by unfold halfOf; rw [if_neg (by omega)]
theorem Nd.kids {p m q : Nat} (h : Nd p (m + 1) q) : Nd (p - 2 ^ m) m (2 * q) ∧ Nd (p + 2 ^ m) m (2 * q + 1) := by
  have e := h.eq
  have hs := two_succ m
  have hs2 := two_succ (m + 1)
  have hp := two_pos m
  have e1 : q * 2 ^ (m + 1 + 1) = 2 * q * 2 ^ (m + 1) := by rw [hs2, Nat.mul_left_comm, Nat.mul_assoc]
  have e2 : (2 * q + 1) * 2 ^ (m + 1) = 2 * q * 2 ^ (m + 1) + 2 ^ (m + 1) := Nat.succ_mul _ _
  exact ⟨Nd.of_eq (by omega), Nd.of_eq (by omega)⟩
theorem ne_level {x c j y m q : Nat} (hN : Nd x c j) (hM : Nd y m q) (h : ¬ c = m) : ((y : Int) == x) = false := by
  rw [beq_eq_false_iff_ne]
  intro e
  obtain rfl : y = x := by omega
  exact h (hN.unique hM)
theorem rwithin_neg (x y : Int) (w : World) (h : x < 0 ∨ y < 0) :
    Calls Tryd.prog 24 #[.int .i64 x, .int .i64 y] w fun e w' => e = .returned (.bool false) ∧ w = w' := by
  by_cases h0 : x < 0
  · have a0 : decide (x < 0) = true := decide_eq_true h0
    clear h h0
    go_enter Tryd.func24, Tryd.ntmps24
    go_wp2
    go_ret
    exact ⟨rfl, rfl⟩
  · have a0 : decide (x < 0) = false := decide_eq_false h0
    have a1 : decide (y < 0) = true := decide_eq_true (by omega)
    clear h h0
    go_enter Tryd.func24, Tryd.ntmps24
    go_wp2
    go_ret
    exact ⟨rfl, rfl⟩
theorem rwithin_top (x : Nat) (w : World) : Calls Tryd.prog 24 #[.int .i64 x, .int .i64 9223372036854775807] w fun e w' => e = .returned (.bool true) ∧ w = w' := by
  have a0 : decide ((x : Int) < 0) = false := by simp
  go_enter Tryd.func24, Tryd.ntmps24
  go_wp2
  go_ret
  exact ⟨rfl, rfl⟩
theorem rwithin_yes (x c i y k j : Nat) (hN : Nd x c i) (hM : Nd y k j) (hx : x ≤ 9223372036854775807) (hy : y ≤ 9223372036854775807) (hk : k ≤ 62) (w : World) :
    Calls Tryd.prog 24 #[.int .i64 x, .int .i64 y] w fun e w' => e = .returned (.bool (decide (c ≤ k ∧ anc x k = y))) ∧ w = w' := by
  have hc := rhalf y k j hM hy w
  have a0 : decide ((x : Int) < 0) = false := by simp
  have a1 : decide ((y : Int) < 0) = false := by simp
  have hne : y ≠ 9223372036854775807 := by
    intro e
    have : Nd y 63 0 := by subst e; unfold Nd; decide
    have := this.unique hM
    omega
  have q1 : ((y : Int) == 9223372036854775807) = false := by rw [beq_eq_false_iff_ne]; omega
  have hiff := within_iff hN hM
  by_cases h0 : k = 0
  · subst h0
    rw [show halfOf 0 = 0 from rfl] at hc
    have HE := Lib.hid (show decide (c ≤ 0 ∧ anc x 0 = y) = ((x : Int) == y) by
      rw [Bool.eq_iff_iff, decide_eq_true_eq, beq_iff_eq, ← hiff]; simp; omega)
    clear hN hM hne hiff
    go_enter Tryd.func24, Tryd.ntmps24
    go_wp2_with (go_at_call 38; refine hc.mono ?_; rintro e w' ⟨rfl, rfl⟩)
    go_ret
    rw [HE.out]
    exact ⟨rfl, rfl⟩
  · rw [halfOf_pos (by omega)] at hc
    have hs1 := two_succ (k - 1)
    rw [show k - 1 + 1 = k by omega] at hs1
    have hp := two_pos (k - 1)
    have hpb : 2 ^ (k - 1) ≤ 2 ^ 61 := Nat.pow_le_pow_right (by decide) (by omega)
    have hg := hM.ge
    have HD := Lib.hid (show decide (c ≤ k ∧ anc x k = y) = decide (y ≤ x + (2 ^ k - 1) ∧ x ≤ y + (2 ^ k - 1)) by congr 1; rw [eq_iff_iff]; exact hiff.symm)
    clear hiff hN hM
    generalize 2 ^ k = p2 at *
    generalize 2 ^ (k - 1) = p at *
    have q : (2 * (p : Int) == 0) = false := by rw [beq_eq_false_iff_ne]; omega
    have b3 : 1 ≤ p := by omega
    have b4 : 2 * p ≤ y + 1 := by omega
    have b5 : p ≤ 2305843009213693952 := by omega
    subst hs1
    by_cases h1 : (y : Int) - (2 * p - 1) ≤ x
    · have q2 : decide ((y : Int) - (2 * p - 1) ≤ x) = true := decide_eq_true h1
      have HE := Lib.hid (show decide (y ≤ x + (2 * p - 1) ∧ x ≤ y + (2 * p - 1)) = decide ((x : Int) - y ≤ 2 * p - 1) by congr 1; rw [eq_iff_iff]; omega)
      clear h1 hne hg hp hpb
      go_enter Tryd.func24, Tryd.ntmps24
      go_wp2_with (go_at_call 38; refine hc.mono ?_; rintro e w' ⟨rfl, rfl⟩)
      go_ret
      rw [HD.out, HE.out]
      exact ⟨rfl, rfl⟩
    · have q2 : decide ((y : Int) - (2 * p - 1) ≤ x) = false := decide_eq_false h1
      have HE := Lib.hid (show decide (y ≤ x + (2 * p - 1) ∧ x ≤ y + (2 * p - 1)) = false by apply decide_eq_false; omega)
      clear h1 hne hg hp hpb
      go_enter Tryd.func24, Tryd.ntmps24
      go_wp2_with (go_at_call 38; refine hc.mono ?_; rintro e w' ⟨rfl, rfl⟩)
      go_ret
      rw [HD.out, HE.out]
      exact ⟨rfl, rfl⟩

end Go.Proofs.YtopkanokpfhmmaaDoor
