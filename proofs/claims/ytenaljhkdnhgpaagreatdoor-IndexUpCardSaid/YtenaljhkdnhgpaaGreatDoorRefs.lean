/- Walks of the document's own answer for the layer index (package phratryref02), and of SameNumbers: each returns what its plain form says. -/
import Derived.Test.YtenaljhkdnhgpaaGreatDoorUps
namespace Go.Proofs.YtenaljhkdnhgpaaGreatDoor
open Go.RowKit

set_option maxHeartbeats 1000000 in
theorem rtree (l : Int) (w : World) : Calls Tryz.prog 217 #[.int .i64 l] w fun e w' => e = .returned (.bool (isT l)) ∧ w = w' := by
  go_enter Tryz.func217, Tryz.ntmps217
  go_wp2_with fail
  go_loop [3] (fun v3 => ∃ k : Nat, k ≤ 31 ∧ v3 = .int .i64 (2 ^ k : Nat) ∧ ∀ m, m < k → l ≠ ((2 ^ m : Nat) : Int)) (fun v3 => 4294967296 - (intOf v3).toNat)
  case atStart => exact ⟨0, by omega, rfl, fun m hm => by omega⟩
  case round =>
    obtain ⟨k, hk, rfl, hno⟩ := hrel
    by_cases h31 : k = 31
    · subst h31
      have hf : isT l = false := by
        cases e : isT l with
        | false => rfl
        | true =>
          obtain ⟨d, hd, e2⟩ := isT_iff.1 e
          exact absurd e2 (hno d (by omega))
      have HF := Lib.hid hf
      clear hno hf
      go_wp2
      go_ret
      rw [HF.out]
      exact ⟨rfl, rfl⟩
    · have hp := pow_le (show k ≤ 30 by omega)
      have hs := two_succ k
      have hp0 := two_pos k
      by_cases he : l = ((2 ^ k : Nat) : Int)
      · have hf : isT l = true := isT_iff.2 ⟨k, by omega, he⟩
        have HF := Lib.hid hf
        clear hno hf hs
        obtain ⟨p, hpe⟩ : ∃ p, p = 2 ^ k := ⟨_, rfl⟩
        rw [← hpe] at he hp hp0 ⊢
        clear hpe
        have q : ((p : Int) == l) = true := beq_iff_eq.2 he.symm
        clear he
        go_wp2
        go_ret
        rw [HF.out]
        exact ⟨rfl, rfl⟩
      · have hno' : ∀ m, m < k + 1 → l ≠ ((2 ^ m : Nat) : Int) := fun m hm => by
          by_cases hmk : m = k
          · rw [hmk]; exact he
          · exact hno m (by omega)
        have HN := Lib.hid hno'
        clear hno hno'
        obtain ⟨p, hpe⟩ : ∃ p, p = 2 ^ k := ⟨_, rfl⟩
        have HS := Lib.hid (show 2 ^ (k + 1) = 2 * p by rw [hpe]; exact hs)
        rw [← hpe] at he hp hp0 ⊢
        clear hpe hs
        have q : ((p : Int) == l) = false := beq_eq_false_iff_ne.2 (fun h => he h.symm)
        clear he
        go_wp2
        go_round
        case rel => exact ⟨k + 1, by omega, by rw [HS.out]; go_num, HN.out⟩
        case measure => simp [intOf]; omega
set_option maxHeartbeats 1000000 in
theorem rin (x l : Int) (w : World) : Calls Tryz.prog 140 #[.int .i64 x, .int .i64 l] w fun e w' => e = .returned (.bool (inT x l)) ∧ w = w' := by
  have hc := rtree l w
  unfold inT
  cases e : isT l with
  | false =>
    rw [e] at hc
    go_enter Tryz.func140, Tryz.ntmps140
    go_wp2_with (go_at_call 217; refine hc.mono ?_; rintro e w' ⟨rfl, rfl⟩)
    go_ret
    exact ⟨rfl, rfl⟩
  | true =>
    rw [e] at hc
    obtain ⟨d, hd, e2⟩ := isT_iff.1 e
    have hp := pow_le hd
    have hp2 := two_pos d
    have b0 : 0 < l := by omega
    have b1 : l ≤ 1073741824 := by omega
    have HE := Lib.hid (show decide (x < 2 * l - 1) = decide (x ≤ 2 * l - 2) by congr 1; rw [eq_iff_iff]; omega)
    clear e e2 hp hp2 hd
    by_cases h0 : 0 ≤ x
    · have a0 : decide (0 ≤ x) = true := decide_eq_true h0
      go_enter Tryz.func140, Tryz.ntmps140
      go_wp2_with (go_at_call 217; refine hc.mono ?_; rintro e w' ⟨rfl, rfl⟩)
      go_ret
      rw [HE.out]
      exact ⟨by simp [a0], rfl⟩
    · have a0 : decide (0 ≤ x) = false := decide_eq_false h0
      go_enter Tryz.func140, Tryz.ntmps140
      go_wp2_with (go_at_call 217; refine hc.mono ?_; rintro e w' ⟨rfl, rfl⟩)
      go_ret
      exact ⟨by simp [a0], rfl⟩
/-- Width, Root. -/
def widthOf (l : Int) : Int := if isT l = true then 2 * l - 1 else 0
def rootOf (l : Int) : Int := if isT l = true then l - 1 else -1
set_option maxHeartbeats 1000000 in
theorem width (l : Int) (w : World) (hl : l ≤ 9223372036854775807) : Calls Tryz.prog 145 #[.int .i64 l] w fun e w' => e = .returned (.int .i64 (widthOf l)) ∧ w = w' := by
  have hc := tree l w hl
  unfold widthOf
  cases e : isT l with
  | false =>
    rw [e] at hc
    rw [if_neg (by decide)]
    go_enter Tryz.func145, Tryz.ntmps145
    go_wp2_with (go_at_call 215; refine hc.mono ?_; rintro e w' ⟨rfl, rfl⟩)
    go_ret
    exact ⟨rfl, rfl⟩
  | true =>
    rw [e] at hc
    rw [if_pos rfl]
    obtain ⟨d, hd, e2⟩ := isT_iff.1 e
    have hp := pow_le hd
    have hp2 := two_pos d
    have b0 : 0 < l := by omega
    have b1 : l ≤ 1073741824 := by omega
    clear e e2 hp hp2 hd
    go_enter Tryz.func145, Tryz.ntmps145
    go_wp2_with (go_at_call 215; refine hc.mono ?_; rintro e w' ⟨rfl, rfl⟩)
    go_ret
    exact ⟨rfl, rfl⟩
set_option maxHeartbeats 1000000 in
theorem root (l : Int) (w : World) (hl : l ≤ 9223372036854775807) : Calls Tryz.prog 146 #[.int .i64 l] w fun e w' => e = .returned (.int .i64 (rootOf l)) ∧ w = w' := by
  have hc := tree l w hl
  unfold rootOf
  cases e : isT l with
  | false =>
    rw [e] at hc
    rw [if_neg (by decide)]
    go_enter Tryz.func146, Tryz.ntmps146
    go_wp2_with (go_at_call 215; refine hc.mono ?_; rintro e w' ⟨rfl, rfl⟩)
    go_ret
    exact ⟨rfl, rfl⟩
  | true =>
    rw [e] at hc
    rw [if_pos rfl]
    obtain ⟨d, hd, e2⟩ := isT_iff.1 e
    have hp := pow_le hd
    have hp2 := two_pos d
    have b0 : 0 < l := by omega
    have b1 : l ≤ 1073741824 := by omega
    clear e e2 hp hp2 hd
    go_enter Tryz.func146, Tryz.ntmps146
    go_wp2_with (go_at_call 215; refine hc.mono ?_; rintro e w' ⟨rfl, rfl⟩)
    go_ret
    exact ⟨rfl, rfl⟩

theorem Nd.odd {x c j : Nat} (h : Nd x c j) : x % 2 = 1 ↔ 0 < c := by
  unfold Nd at h
  cases c with
  | zero => simp at h; omega
  | succ c => rw [two_succ, Nat.mul_assoc] at h; omega
theorem Nd.half {x c j : Nat} (h : Nd x (c + 1) j) : Nd (x / 2) c j := by
  unfold Nd at h ⊢
  rw [two_succ, Nat.mul_assoc] at h
  omega
theorem rlevel_neg (x : Int) (w : World) (h : decide (x < 0) = true) : Calls Tryz.prog 221 #[.int .i64 x] w fun e w' => e = .returned (.int .i64 (-1)) ∧ w = w' := by
  go_enter Tryz.func221, Tryz.ntmps221
  go_wp2
  go_ret
  exact ⟨rfl, rfl⟩
set_option maxHeartbeats 1000000 in
theorem rlevel (x c j : Nat) (hN : Nd x c j) (hx : x ≤ 9223372036854775807) (w : World) : Calls Tryz.prog 221 #[.int .i64 x] w fun e w' => e = .returned (.int .i64 c) ∧ w = w' := by
  have h0 : decide ((x : Int) < 0) = false := by simp
  have hc := hN.level_lt (n := 64) (by omega)
  go_enter Tryz.func221, Tryz.ntmps221
  go_wp2_with fail
  go_loop [0, 3] (fun v0 v3 => ∃ n y : Nat, n ≤ c ∧ y ≤ x ∧ v0 = .int .i64 y ∧ v3 = .int .i64 n ∧ Nd y (c - n) j) (fun _ v3 => c + 1 - (intOf v3).toNat)
  case atStart => exact ⟨0, x, by omega, by omega, rfl, rfl, hN⟩
  case round =>
    obtain ⟨n, y, hn, hy, rfl, rfl, hM⟩ := hrel
    by_cases hnc : n = c
    · have hodd := hM.odd
      have q : ((y : Int) % 2 == 1) = false := by rw [beq_eq_false_iff_ne]; omega
      have HC := Lib.hid hnc
      clear hodd hnc hM
      go_wp2
      go_ret
      rw [HC.out]
      exact ⟨rfl, rfl⟩
    · have hodd := hM.odd
      have q : ((y : Int) % 2 == 1) = true := by rw [beq_iff_eq]; omega
      have HM := Lib.hid (show Nd (y / 2) (c - (n + 1)) j by
        have : c - n = c - (n + 1) + 1 := by omega
        rw [this] at hM
        exact hM.half)
      have hn2 : n < c := by omega
      clear hodd hnc hM
      go_wp2
      go_round
      case rel => exact ⟨n + 1, y / 2, by omega, by omega, by go_num, by go_num, HM.out⟩
      case measure => simp [intOf]; omega
/-- half: 2^(c-1) of a parent, else 0. -/
def halfOf (c : Nat) : Nat := if c = 0 then 0 else 2 ^ (c - 1)
theorem rhalf_neg (x : Int) (w : World) (h : decide (x < 0) = true) : Calls Tryz.prog 218 #[.int .i64 x] w fun e w' => e = .returned (.int .i64 0) ∧ w = w' := by
  have hc := rlevel_neg x w h
  go_enter Tryz.func218, Tryz.ntmps218
  go_wp2_with (go_at_call 221; refine hc.mono ?_; rintro e w' ⟨rfl, rfl⟩)
  go_ret
  exact ⟨rfl, rfl⟩
set_option maxHeartbeats 1000000 in
theorem rhalf (x c j : Nat) (hN : Nd x c j) (hx : x ≤ 9223372036854775807) (w : World) : Calls Tryz.prog 218 #[.int .i64 x] w fun e w' => e = .returned (.int .i64 (halfOf c)) ∧ w = w' := by
  have hL := rlevel x c j hN hx w
  have hc := hN.level_lt (n := 64) (by omega)
  unfold halfOf
  by_cases h0 : c = 0
  · rw [if_pos h0]
    subst h0
    go_enter Tryz.func218, Tryz.ntmps218
    go_wp2_with (go_at_call 221; refine hL.mono ?_; rintro e w' ⟨rfl, rfl⟩)
    go_ret
    exact ⟨rfl, rfl⟩
  · rw [if_neg h0]
    have h1 : 1 ≤ c := by omega
    clear hN h0
    go_enter Tryz.func218, Tryz.ntmps218
    go_wp2_with (go_at_call 221; refine hL.mono ?_; rintro e w' ⟨rfl, rfl⟩)
    go_loop [4, 5] (fun v4 v5 => ∃ k : Nat, 1 ≤ k ∧ k ≤ c ∧ v4 = .int .i64 (2 ^ (k - 1) : Nat) ∧ v5 = .int .i64 k) (fun _ v5 => c + 1 - (intOf v5).toNat)
    case atStart => exact ⟨1, by omega, by omega, rfl, rfl⟩
    case round =>
      obtain ⟨k, hk1, hk, rfl, rfl⟩ := hrel
      by_cases he : k = c
      · subst he
        go_wp2
        go_ret
        exact ⟨by push_cast; rfl, rfl⟩
      · have hs := two_succ (k - 1)
        have hp : 2 ^ (k - 1) ≤ 2 ^ 61 := Nat.pow_le_pow_right (by decide) (by omega)
        have hkc : k < c := by omega
        obtain ⟨p, hpe⟩ : ∃ p, p = 2 ^ (k - 1) := ⟨_, rfl⟩
        have HS := Lib.hid (show 2 ^ (k + 1 - 1) = 2 * p by rw [hpe, ← hs]; congr 1; omega)
        rw [← hpe] at hp ⊢
        clear hpe hs he
        go_wp2
        go_round
        case rel => exact ⟨k + 1, by omega, by omega, by rw [HS.out]; go_num, by go_num⟩
        case measure => simp [intOf]; omega

theorem rleft_neg (x : Int) (w : World) (h : decide (x < 0) = true) : Calls Tryz.prog 141 #[.int .i64 x] w fun e w' => e = .returned (.tuple #[.int .i64 0, .bool false]) ∧ w = w' := by
  have hc := rhalf_neg x w h
  clear h
  go_enter Tryz.func141, Tryz.ntmps141
  go_wp2_with (go_at_call 218; refine hc.mono ?_; rintro e w' ⟨rfl, rfl⟩)
  go_ret2
  exact ⟨rfl, rfl⟩
theorem rleft_leaf (x j : Nat) (hN : Nd x 0 j) (hx : x ≤ 9223372036854775807) (w : World) : Calls Tryz.prog 141 #[.int .i64 x] w fun e w' => e = .returned (.tuple #[.int .i64 0, .bool false]) ∧ w = w' := by
  have hc := rhalf x 0 j hN hx w
  rw [show halfOf 0 = 0 from rfl] at hc
  clear hN
  go_enter Tryz.func141, Tryz.ntmps141
  go_wp2_with (go_at_call 218; refine hc.mono ?_; rintro e w' ⟨rfl, rfl⟩)
  go_ret2
  exact ⟨rfl, rfl⟩
theorem halfOf_pos {c : Nat} (h : 1 ≤ c) : halfOf c = 2 ^ (c - 1) := by unfold halfOf; rw [if_neg (by omega)]
theorem rleft_yes (x c j : Nat) (hN : Nd x c j) (hx : x ≤ 9223372036854775807) (h1 : 1 ≤ c) (w : World) :
    Calls Tryz.prog 141 #[.int .i64 x] w fun e w' => e = .returned (.tuple #[.int .i64 (x - 2 ^ (c - 1) : Nat), .bool true]) ∧ w = w' := by
  have hc := rhalf x c j hN hx w
  rw [halfOf_pos h1] at hc
  have hg := hN.ge
  have hs := two_succ (c - 1)
  rw [show c - 1 + 1 = c by omega] at hs
  have hp := two_pos (c - 1)
  generalize 2 ^ (c - 1) = p at *
  have b1 : p ≤ x := by omega
  have q : ((p : Int) == 0) = false := by rw [beq_eq_false_iff_ne]; omega
  have HE := Lib.hid (show ((x - p : Nat) : Int) = (x : Int) - p by omega)
  clear hN hg hs hp
  go_enter Tryz.func141, Tryz.ntmps141
  go_wp2_with (go_at_call 218; refine hc.mono ?_; rintro e w' ⟨rfl, rfl⟩)
  go_ret2
  rw [HE.out]
  exact ⟨rfl, rfl⟩
theorem rright_neg (x : Int) (w : World) (h : decide (x < 0) = true) : Calls Tryz.prog 142 #[.int .i64 x] w fun e w' => e = .returned (.tuple #[.int .i64 0, .bool false]) ∧ w = w' := by
  have hc := rhalf_neg x w h
  clear h
  go_enter Tryz.func142, Tryz.ntmps142
  go_wp2_with (go_at_call 218; refine hc.mono ?_; rintro e w' ⟨rfl, rfl⟩)
  go_ret2
  exact ⟨rfl, rfl⟩
theorem rright_leaf (x j : Nat) (hN : Nd x 0 j) (hx : x ≤ 9223372036854775807) (w : World) : Calls Tryz.prog 142 #[.int .i64 x] w fun e w' => e = .returned (.tuple #[.int .i64 0, .bool false]) ∧ w = w' := by
  have hc := rhalf x 0 j hN hx w
  rw [show halfOf 0 = 0 from rfl] at hc
  clear hN
  go_enter Tryz.func142, Tryz.ntmps142
  go_wp2_with (go_at_call 218; refine hc.mono ?_; rintro e w' ⟨rfl, rfl⟩)
  go_ret2
  exact ⟨rfl, rfl⟩
theorem rright_top (x j : Nat) (hN : Nd x 63 j) (hx : x ≤ 9223372036854775807) (w : World) : Calls Tryz.prog 142 #[.int .i64 x] w fun e w' => e = .returned (.tuple #[.int .i64 0, .bool false]) ∧ w = w' := by
  have hc := rhalf x 63 j hN hx w
  have hg := hN.ge
  obtain rfl : x = 9223372036854775807 := by omega
  rw [show halfOf 63 = 4611686018427387904 from rfl] at hc
  clear hN hg
  go_enter Tryz.func142, Tryz.ntmps142
  go_wp2_with (go_at_call 218; refine hc.mono ?_; rintro e w' ⟨rfl, rfl⟩)
  go_ret2
  exact ⟨rfl, rfl⟩
theorem rright_yes (x c j : Nat) (hN : Nd x c j) (hx : x ≤ 9223372036854775807) (h1 : 1 ≤ c) (h2 : c ≤ 62) (w : World) :
    Calls Tryz.prog 142 #[.int .i64 x] w fun e w' => e = .returned (.tuple #[.int .i64 (x + 2 ^ (c - 1) : Nat), .bool true]) ∧ w = w' := by
  have hc := rhalf x c j hN hx w
  rw [halfOf_pos h1] at hc
  have ht := right_le x c j hN (by omega) h1 h2
  have hp := two_pos (c - 1)
  generalize 2 ^ (c - 1) = p at *
  have q : ((p : Int) == 0) = false := by rw [beq_eq_false_iff_ne]; omega
  have q2 : decide (9223372036854775807 - (p : Int) < x) = false := by apply decide_eq_false; omega
  have HE := Lib.hid (show ((x + p : Nat) : Int) = (x : Int) + p by omega)
  have b1 : (x : Int) + p ≤ 9223372036854775807 := by omega
  have b2 : p ≤ 9223372036854775807 := by omega
  clear hN hp ht
  go_enter Tryz.func142, Tryz.ntmps142
  go_wp2_with (go_at_call 218; refine hc.mono ?_; rintro e w' ⟨rfl, rfl⟩)
  go_ret2
  rw [HE.out]
  exact ⟨rfl, rfl⟩
theorem Nd.kids {p m q : Nat} (h : Nd p (m + 1) q) : Nd (p - 2 ^ m) m (2 * q) ∧ Nd (p + 2 ^ m) m (2 * q + 1) := by
  have e := h.eq
  have hs := two_succ m
  have hs2 := two_succ (m + 1)
  have hp := two_pos m
  have e1 : q * 2 ^ (m + 1 + 1) = 2 * q * 2 ^ (m + 1) := by rw [hs2, Nat.mul_left_comm, Nat.mul_assoc]
  have e2 : (2 * q + 1) * 2 ^ (m + 1) = 2 * q * 2 ^ (m + 1) + 2 ^ (m + 1) := Nat.succ_mul _ _
  exact ⟨Nd.of_eq (by omega), Nd.of_eq (by omega)⟩
theorem ne_level {x c j y m q : Nat} (hN : Nd x c j) (hM : Nd y m q) (h : ¬ c = m) : ((y : Int) == x) = false := by
  rw [beq_eq_false_iff_ne]
  intro e
  obtain rfl : y = x := by omega
  exact h (hN.unique hM)
theorem rparent_no (x l : Int) (w : World) (h : inT x l = false) :
    Calls Tryz.prog 19 #[.int .i64 x, .int .i64 l] w fun e w' => e = .returned (.tuple #[.int .i64 0, .bool false]) ∧ w = w' := by
  have hi := rin x l w
  rw [h] at hi
  clear h
  go_enter Tryz.func19, Tryz.ntmps19
  go_wp2_with (go_at_call 140; refine hi.mono ?_; rintro e w' ⟨rfl, rfl⟩)
  go_ret2
  exact ⟨rfl, rfl⟩
theorem rparent_root (l : Int) (w : World) (hl : l ≤ 1073741824) (hl0 : 0 < l) (h : inT (l - 1) l = true) :
    Calls Tryz.prog 19 #[.int .i64 (l - 1), .int .i64 l] w fun e w' => e = .returned (.tuple #[.int .i64 0, .bool false]) ∧ w = w' := by
  have hi := rin (l - 1) l w
  rw [h] at hi
  clear h
  go_enter Tryz.func19, Tryz.ntmps19
  go_wp2_with (go_at_call 140; refine hi.mono ?_; rintro e w' ⟨rfl, rfl⟩)
  go_ret2
  exact ⟨rfl, rfl⟩
set_option maxHeartbeats 1000000 in
theorem rparent_yes (x c j d : Nat) (hd : d ≤ 30) (hN : Nd x c j) (hx : x + 1 < 2 ^ (d + 1)) (hc : c < d) (w : World) :
    Calls Tryz.prog 19 #[.int .i64 x, .int .i64 (2 ^ d : Nat)] w fun e w' => e = .returned (.tuple #[.int .i64 (anc x (c + 1) : Nat), .bool true]) ∧ w = w' := by
  have hi := rin x (2 ^ d : Nat) w
  rw [inT_nd hd hx] at hi
  have hp := pow_le hd
  have hp0 := two_pos d
  have hs := two_succ d
  have hne : ((x : Int) == ((2 ^ d : Nat) : Int) - 1) = false := by
    rw [beq_eq_false_iff_ne]
    intro e
    have h1 : Nd x d 0 := by unfold Nd; omega
    have := h1.unique hN
    omega
  have hroot : ((2 ^ d : Nat) : Int) - 1 = (anc x d : Nat) := by rw [anc_root x d (by omega)]; omega
  have b1 : ((2 ^ d : Nat) : Int) ≤ 1073741824 := by omega
  have b2 : 0 < ((2 ^ d : Nat) : Int) := by omega
  have hlt : ∀ m, m ≤ d → anc x m < 4294967296 := fun m hm => by have := anc_lt hx hm; omega
  have hw : ∀ m w, m + 1 ≤ d → Calls Tryz.prog 141 #[.int .i64 (anc x (m + 1) : Nat)] w fun e w' => e = .returned (.tuple #[.int .i64 (anc x (m + 1) - 2 ^ m : Nat), .bool true]) ∧ w = w' := fun m w hm => by
    have := hlt (m + 1) hm
    exact rleft_yes _ (m + 1) _ (anc_nd x (m + 1)) (by omega) (by omega) w
  have hr : ∀ m w, m + 1 ≤ d → Calls Tryz.prog 142 #[.int .i64 (anc x (m + 1) : Nat)] w fun e w' => e = .returned (.tuple #[.int .i64 (anc x (m + 1) + 2 ^ m : Nat), .bool true]) ∧ w = w' := fun m w hm => by
    have := hlt (m + 1) hm
    exact rright_yes _ (m + 1) _ (anc_nd x (m + 1)) (by omega) (by omega) (by omega) w
  generalize ((2 ^ d : Nat) : Int) = l at *
  have HR := Lib.hid hroot
  clear hroot hs hp0 hp
  go_enter Tryz.func19, Tryz.ntmps19
  go_wp2_with (go_at_call 140; refine hi.mono ?_; rintro e w' ⟨rfl, rfl⟩)
  rw [HR.out]
  have HNE := Lib.hid hne
  clear hne
  go_loopg [6, 7, 9] d (fun g v6 _ _ wr => w = wr ∧ c < g ∧ g ≤ d ∧ v6 = .int .i64 (anc x g : Nat))
  case atStart => exact ⟨rfl, hc, Nat.le_refl _, rfl⟩
  case round =>
    obtain ⟨rfl, hg1, hg2, rfl⟩ := hrel
    obtain ⟨m, rfl⟩ : ∃ m, gk = m + 1 := ⟨gk - 1, by omega⟩
    have hL := hw m w hg2
    have hK := hr m w hg2
    obtain ⟨hk1, hk2⟩ := (anc_nd x (m + 1)).kids
    obtain ⟨hd0, hd1, hd2⟩ := anc_down x c j m hN (by omega)
    obtain ⟨p, hp⟩ : ∃ p, p = anc x (m + 1) := ⟨_, rfl⟩
    have hp9 : p < 4294967296 := by rw [hp]; exact hlt _ hg2
    have hm9 : anc x m < 4294967296 := hlt _ (by omega)
    rw [← hp] at hk1 hk2 hd0 hd1 hd2 hL hK ⊢
    have HP := Lib.hid hp
    clear hp hw hr hlt
    by_cases hxp : x < p
    · have e1 := hd1 hxp
      rw [← e1] at hL hk1
      have t1 : decide (x < p) = true := decide_eq_true hxp
      obtain ⟨r, hre⟩ : ∃ r, r = p + 2 ^ m := ⟨_, rfl⟩
      rw [← hre] at hK hk2
      clear hd0 hd1 hd2 hxp
      by_cases hcm : c = m
      · subst hcm
        rw [hN.anc_self] at hL
        have HQ := Lib.hid HP.out
        clear hre e1 hk1 hk2 HP
        go_wp2_with (first | (go_at_call 141; refine hL.mono ?_; rintro e w' ⟨rfl, rfl⟩) | (go_at_call 142; refine hK.mono ?_; rintro e w' ⟨rfl, rfl⟩))
        go_ret2
        rw [HQ.out]
        exact ⟨rfl, rfl⟩
      · obtain ⟨y, hy⟩ : ∃ y, y = anc x m := ⟨_, rfl⟩
        rw [← hy] at hL hk1 hm9
        have s1 : ((y : Int) == x) = false := ne_level hN hk1 hcm
        have s2 : ((r : Int) == x) = false := ne_level hN hk2 hcm
        have HY := Lib.hid hy
        clear hre e1 hk1 hk2 hy
        go_wp2_with (first | (go_at_call 141; refine hL.mono ?_; rintro e w' ⟨rfl, rfl⟩) | (go_at_call 142; refine hK.mono ?_; rintro e w' ⟨rfl, rfl⟩))
        go_roundg m
        case rel => exact ⟨rfl, by omega, by omega, by rw [HY.out]⟩
        case measure => omega
    · have e1 := hd2 hxp
      rw [← e1] at hK hk2
      have t1 : decide (x < p) = false := decide_eq_false hxp
      obtain ⟨r, hre⟩ : ∃ r, r = p - 2 ^ m := ⟨_, rfl⟩
      rw [← hre] at hL hk1
      have hr9 : r < x := by have := two_pos m; omega
      clear hd0 hd1 hd2 hxp
      have s2 : ((r : Int) == x) = false := by rw [beq_eq_false_iff_ne]; omega
      by_cases hcm : c = m
      · subst hcm
        rw [hN.anc_self] at hK
        have HQ := Lib.hid HP.out
        clear hre e1 hk1 hk2 HP
        go_wp2_with (first | (go_at_call 141; refine hL.mono ?_; rintro e w' ⟨rfl, rfl⟩) | (go_at_call 142; refine hK.mono ?_; rintro e w' ⟨rfl, rfl⟩))
        go_ret2
        rw [HQ.out]
        exact ⟨rfl, rfl⟩
      · obtain ⟨y, hy⟩ : ∃ y, y = anc x m := ⟨_, rfl⟩
        rw [← hy] at hK hk2 hm9
        have s1 : ((y : Int) == x) = false := ne_level hN hk2 hcm
        have HY := Lib.hid hy
        clear hre e1 hk1 hk2 hy
        go_wp2_with (first | (go_at_call 141; refine hL.mono ?_; rintro e w' ⟨rfl, rfl⟩) | (go_at_call 142; refine hK.mono ?_; rintro e w' ⟨rfl, rfl⟩))
        go_roundg m
        case rel => exact ⟨rfl, by omega, by omega, by rw [HY.out]⟩
        case measure => omega

set_option maxHeartbeats 1000000 in
theorem rdirect_no (x l : Int) (w : World) (hp : Calls Tryz.prog 19 #[.int .i64 x, .int .i64 l] w fun e w' => e = .returned (.tuple #[.int .i64 0, .bool false]) ∧ w = w') :
    Calls Tryz.prog 21 #[.int .i64 x, .int .i64 l] w fun e w' => ∃ v, e = .returned v ∧ OwnI w' w.heap.size v [] ∧ Below w.heap.size w w' := by
  go_enter Tryz.func21, Tryz.ntmps21
  go_wp2_with (go_at_call 19; refine hp.mono ?_; rintro e w' ⟨rfl, rfl⟩)
  refine wp_loop_rounds 1 ?_
  rw [rounds_succ]
  go_wp2
  go_ret
  exact ⟨_, rfl, World.ownsRow_nil _ _ _ _, Below.refl _ _⟩
theorem rparent_next (x c d : Nat) (hd : d ≤ 30) (hx : x + 1 < 2 ^ (d + 1)) (hc : c ≤ d) (w : World) :
    Calls Tryz.prog 19 #[.int .i64 (anc x c : Nat), .int .i64 (2 ^ d : Nat)] w fun e w' => e = .returned (.tuple #[.int .i64 (if c < d then ((anc x (c + 1) : Nat) : Int) else 0), .bool (decide (c < d))]) ∧ w = w' := by
  by_cases h : c < d
  · have := rparent_yes (anc x c) c _ d hd (anc_nd x c) (anc_lt hx hc) h w
    rw [anc_anc _ _ _ (by omega)] at this
    rw [if_pos h, decide_eq_true h]
    exact this
  · obtain rfl : c = d := by omega
    have hp := pow_le hd
    have hp0 := two_pos c
    have e : ((anc x c : Nat) : Int) = ((2 ^ c : Nat) : Int) - 1 := by rw [anc_root x c (by omega)]; omega
    rw [if_neg h, decide_eq_false h, e]
    refine rparent_root _ w (by omega) (by omega) ?_
    rw [← e]
    exact inT_nd hd (anc_lt hx (Nat.le_refl c))
set_option maxHeartbeats 1000000 in
theorem rdirect_yes (x c j d : Nat) (hd : d ≤ 30) (hN : Nd x c j) (hx : x + 1 < 2 ^ (d + 1)) (w : World) (hpos : 0 < w.heap.size) :
    Calls Tryz.prog 21 #[.int .i64 x, .int .i64 (2 ^ d : Nat)] w fun e w' => ∃ v, e = .returned v ∧ OwnI w' w.heap.size v (upL x (c + 1) (d - c)) ∧ Below w.heap.size w w' := by
  have hcd : c ≤ d := by have := hN.level_lt hx; omega
  have hP : ∀ n, n ≤ d - c → ∀ w, Calls Tryz.prog 19 #[.int .i64 (anc x (c + n) : Nat), .int .i64 (2 ^ d : Nat)] w fun e w' => e = .returned (.tuple #[.int .i64 (if c + n < d then ((anc x (c + n + 1) : Nat) : Int) else 0), .bool (decide (c + n < d))]) ∧ w = w' := fun n hn w => rparent_next x (c + n) d hd hx (by omega) w
  have h0 := hP 0 (by omega) w
  rw [Nat.add_zero, hN.anc_self] at h0
  generalize ((2 ^ d : Nat) : Int) = l at *
  obtain ⟨q0, hq0⟩ : ∃ q, q = decide (c < d) := ⟨_, rfl⟩
  obtain ⟨z0, hz0⟩ : ∃ q, q = if c < d then ((anc x (c + 1) : Nat) : Int) else 0 := ⟨_, rfl⟩
  rw [← hq0, ← hz0] at h0
  have HQ := Lib.hid hq0
  have HZ := Lib.hid hz0
  clear hq0 hz0
  go_enter Tryz.func21, Tryz.ntmps21
  go_wp2_with (go_at_call 19; refine h0.mono ?_; rintro e w' ⟨rfl, rfl⟩)
  go_loopg [5, 6, 7] (d - c + 1) (fun g v5 v6 v7 wr => ∃ n : Nat, n + g = d - c + 1 ∧ n ≤ d - c ∧ OwnI wr w.heap.size v5 (upL x (c + 1) n) ∧ Below w.heap.size w wr ∧ v6 = .int .i64 (if c + n < d then ((anc x (c + n + 1) : Nat) : Int) else 0) ∧ v7 = .bool (decide (c + n < d)))
  case atStart => exact ⟨0, by omega, by omega, World.ownsRow_nil _ _ _ _, Below.refl _ _, by rw [HZ.out]; rfl, by rw [HQ.out]; rfl⟩
  case round =>
    obtain ⟨n, hg, hn, hown, hb, rfl, rfl⟩ := hrel
    have hB := hb.size
    have HG := Lib.hid hg
    clear hg HQ HZ h0
    by_cases hlt : c + n < d
    · rw [if_pos hlt, decide_eq_true hlt]
      have hown' := Lib.hid hown
      obtain ⟨p5, hp5⟩ : ∃ p, p = upL x (c + 1) n := ⟨_, rfl⟩
      rw [← hp5] at hown'
      have HP5 := Lib.hid hp5
      have HLEN := Lib.hid (show p5.length = n by rw [hp5]; exact upL_length _ _ _)
      have hN1 := hP (n + 1) (by omega)
      rw [show c + (n + 1) = c + n + 1 by omega] at hN1
      obtain ⟨q1, hq1⟩ : ∃ q, q = decide (c + n + 1 < d) := ⟨_, rfl⟩
      obtain ⟨z1, hz1⟩ : ∃ q, q = if c + n + 1 < d then ((anc x (c + n + 1 + 1) : Nat) : Int) else 0 := ⟨_, rfl⟩
      rw [← hq1, ← hz1] at hN1
      have HQ1 := Lib.hid hq1
      have HZ1 := Lib.hid hz1
      clear hown hp5 hq1 hz1
      go_wp2_with (at_builtin; refine push rfl _ _ rfl rfl rfl hown' hb hB ?c1 ?_)
      case c1 => have := HLEN.out; omega
      intro v' w' h1 h2 h3
      have H1 := Lib.hid (show OwnI w' w.heap.size v' (upL x (c + 1) (n + 1)) by rw [upL_succ, ← HP5.out, show c + 1 + n = c + n + 1 by omega]; exact h1)
      clear h1 hown'
      go_wp2_with (go_at_call 19; refine (hN1 _).mono ?_; rintro e w' ⟨rfl, rfl⟩)
      go_roundg (gk - 1)
      case rel => exact ⟨n + 1, by have := HG.out; omega, by omega, H1.out, h2, by rw [HZ1.out]; rfl, by rw [HQ1.out]; rfl⟩
      case measure => have := HG.out; omega
    · rw [if_neg hlt, decide_eq_false hlt]
      have hown' := Lib.hid hown
      have hnd : n = d - c := by omega
      rw [hnd] at hown'
      clear hown hnd
      go_wp2
      go_ret
      exact ⟨_, rfl, hown'.out, hb⟩
end Go.Proofs.YtenaljhkdnhgpaaGreatDoor
