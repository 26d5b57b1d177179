import Derived.Test.YtnahhclflnjmcaaGreatDoorA1
import Derived.Test.YtnahhclflnjmcaaGreatDoorA4
import Derived.Test.YtnahhclflnjmcaaGreatDoorK0
import Derived.Test.YtnahhclflnjmcaaGreatDoorB2
/- Walks of the document's own answer for the layer index: Left, Right, Parent, Direct. -/
namespace Go.Proofs.YtnahhclflnjmcaaGreatDoor
open Go.RowKit
set_option maxRecDepth 100000

set_option maxHeartbeats 1000000 in
theorem rtree (l : Int) (w : World) : Calls Tryz.prog 280 #[.int .i64 l] w fun e w' => e = .returned (.bool (isT l)) ∧ w = w' := by
  go_enter Tryz.func280, Tryz.ntmps280
  go_wp2_with fail
  go_loop [3] (fun v3 => ∃ k : Nat, k ≤ 31 ∧ v3 = .int .i64 (2 ^ k : Nat) ∧ ∀ m, m < k → l ≠ ((2 ^ m : Nat) : Int)) (fun v3 => 4294967296 - (intOf v3).toNat)
  case atStart => exact ⟨0, by omega, rfl, fun m hm => by omega⟩
  case round =>
    obtain ⟨k, hk, rfl, hno⟩ := hrel
    by_cases h31 : k = 31
    · subst h31
      have hf : isT l = false := by
        cases e : isT l with
        | false => rfl
        | true =>
          obtain ⟨d, hd, e2⟩ := isT_iff.1 e
          exact absurd e2 (hno d (by omega))
      have HF := Lib.hid hf
      clear hno hf
      go_wp2
      go_ret
      rw [HF.out]
      exact ⟨rfl, rfl⟩
    · have hp := pow_le (show k ≤ 30 by omega)
      have hs := two_succ k
      have hp0 := two_pos k
      by_cases he : l = ((2 ^ k : Nat) : Int)
      · have hf : isT l = true := isT_iff.2 ⟨k, by omega, he⟩
        have HF := Lib.hid hf
        clear hno hf hs
        obtain ⟨p, hpe⟩ : ∃ p, p = 2 ^ k := ⟨_, rfl⟩
        rw [← hpe] at he hp hp0 ⊢
        clear hpe
        have q : ((p : Int) == l) = true := beq_iff_eq.2 he.symm
        clear he
        go_wp2
        go_ret
        rw [HF.out]
        exact ⟨rfl, rfl⟩
      · have hno' : ∀ m, m < k + 1 → l ≠ ((2 ^ m : Nat) : Int) := fun m hm => by
          by_cases hmk : m = k
          · rw [hmk]; exact he
          · exact hno m (by omega)
        have HN := Lib.hid hno'
        clear hno hno'
        obtain ⟨p, hpe⟩ : ∃ p, p = 2 ^ k := ⟨_, rfl⟩
        have HS := Lib.hid (show 2 ^ (k + 1) = 2 * p by rw [hpe]; exact hs)
        rw [← hpe] at he hp hp0 ⊢
        clear hpe hs
        have q : ((p : Int) == l) = false := beq_eq_false_iff_ne.2 (fun h => he h.symm)
        clear he
        go_wp2
        go_round
        case rel => exact ⟨k + 1, by omega, by rw [HS.out]; go_num, HN.out⟩
        case measure => simp [intOf]; omega
set_option maxHeartbeats 1000000 in
theorem rin (x l : Int) (w : World) : Calls Tryz.prog 274 #[.int .i64 x, .int .i64 l] w fun e w' => e = .returned (.bool (inT x l)) ∧ w = w' := by
  have hc := rtree l w
  unfold inT
  cases e : isT l with
  | false =>
    rw [e] at hc
    go_enter Tryz.func274, Tryz.ntmps274
    go_wp2_with (go_at_call 280; refine hc.mono ?_; rintro e w' ⟨rfl, rfl⟩)
    go_ret
    exact ⟨rfl, rfl⟩
  | true =>
    rw [e] at hc
    obtain ⟨d, hd, e2⟩ := isT_iff.1 e
    have hp := pow_le hd
    have hp2 := two_pos d
    have b0 : 0 < l := by omega
    have b1 : l ≤ 1073741824 := by omega
    have HE := Lib.hid (show decide (x < 2 * l - 1) = decide (x ≤ 2 * l - 2) by congr 1; rw [eq_iff_iff]; omega)
    clear e e2 hp hp2 hd
    by_cases h0 : 0 ≤ x
    · have a0 : decide (0 ≤ x) = true := decide_eq_true h0
      go_enter Tryz.func274, Tryz.ntmps274
      go_wp2_with (go_at_call 280; refine hc.mono ?_; rintro e w' ⟨rfl, rfl⟩)
      go_ret
      rw [HE.out]
      exact ⟨by simp [a0], rfl⟩
    · have a0 : decide (0 ≤ x) = false := decide_eq_false h0
      go_enter Tryz.func274, Tryz.ntmps274
      go_wp2_with (go_at_call 280; refine hc.mono ?_; rintro e w' ⟨rfl, rfl⟩)
      go_ret
      exact ⟨by simp [a0], rfl⟩
theorem rleft_neg (x : Int) (w : World) (h : decide (x < 0) = true) : Calls Tryz.prog 263 #[.int .i64 x] w fun e w' => e = .returned (.tuple #[.int .i64 0, .bool false]) ∧ w = w' := by
  have hc := rhalf_neg x w h
  clear h
  go_enter Tryz.func263, Tryz.ntmps263
  go_wp2_with (go_at_call 268; refine hc.mono ?_; rintro e w' ⟨rfl, rfl⟩)
  go_ret2
  exact ⟨rfl, rfl⟩
theorem rleft_leaf (x j : Nat) (hN : Nd x 0 j) (hx : x ≤ 9223372036854775807) (w : World) : Calls Tryz.prog 263 #[.int .i64 x] w fun e w' => e = .returned (.tuple #[.int .i64 0, .bool false]) ∧ w = w' := by
  have hc := rhalf x 0 j hN hx w
  rw [show halfOf 0 = 0 from rfl] at hc
  clear hN
  go_enter Tryz.func263, Tryz.ntmps263
  go_wp2_with (go_at_call 268; refine hc.mono ?_; rintro e w' ⟨rfl, rfl⟩)
  go_ret2
  exact ⟨rfl, rfl⟩
theorem rleft_yes (x c j : Nat) (hN : Nd x c j) (hx : x ≤ 9223372036854775807) (h1 : 1 ≤ c) (w : World) :
    Calls Tryz.prog 263 #[.int .i64 x] w fun e w' => e = .returned (.tuple #[.int .i64 (x - 2 ^ (c - 1) : Nat), .bool true]) ∧ w = w' := by
  have hc := rhalf x c j hN hx w
  rw [halfOf_pos h1] at hc
  have hg := hN.ge
  have hs := two_succ (c - 1)
  rw [show c - 1 + 1 = c by omega] at hs
  have hp := two_pos (c - 1)
  generalize 2 ^ (c - 1) = p at *
  have b1 : p ≤ x := by omega
  have q : ((p : Int) == 0) = false := by rw [beq_eq_false_iff_ne]; omega
  have HE := Lib.hid (show ((x - p : Nat) : Int) = (x : Int) - p by omega)
  clear hN hg hs hp
  go_enter Tryz.func263, Tryz.ntmps263
  go_wp2_with (go_at_call 268; refine hc.mono ?_; rintro e w' ⟨rfl, rfl⟩)
  go_ret2
  rw [HE.out]
  exact ⟨rfl, rfl⟩
theorem rright_neg (x : Int) (w : World) (h : decide (x < 0) = true) : Calls Tryz.prog 264 #[.int .i64 x] w fun e w' => e = .returned (.tuple #[.int .i64 0, .bool false]) ∧ w = w' := by
  have hc := rhalf_neg x w h
  clear h
  go_enter Tryz.func264, Tryz.ntmps264
  go_wp2_with (go_at_call 268; refine hc.mono ?_; rintro e w' ⟨rfl, rfl⟩)
  go_ret2
  exact ⟨rfl, rfl⟩
theorem rright_leaf (x j : Nat) (hN : Nd x 0 j) (hx : x ≤ 9223372036854775807) (w : World) : Calls Tryz.prog 264 #[.int .i64 x] w fun e w' => e = .returned (.tuple #[.int .i64 0, .bool false]) ∧ w = w' := by
  have hc := rhalf x 0 j hN hx w
  rw [show halfOf 0 = 0 from rfl] at hc
  clear hN
  go_enter Tryz.func264, Tryz.ntmps264
  go_wp2_with (go_at_call 268; refine hc.mono ?_; rintro e w' ⟨rfl, rfl⟩)
  go_ret2
  exact ⟨rfl, rfl⟩
theorem rright_top (x j : Nat) (hN : Nd x 63 j) (hx : x ≤ 9223372036854775807) (w : World) : Calls Tryz.prog 264 #[.int .i64 x] w fun e w' => e = .returned (.tuple #[.int .i64 0, .bool false]) ∧ w = w' := by
  have hc := rhalf x 63 j hN hx w
  have hg := hN.ge
  obtain rfl : x = 9223372036854775807 := by omega
  rw [show halfOf 63 = 4611686018427387904 from rfl] at hc
  clear hN hg
  go_enter Tryz.func264, Tryz.ntmps264
  go_wp2_with (go_at_call 268; refine hc.mono ?_; rintro e w' ⟨rfl, rfl⟩)
  go_ret2
  exact ⟨rfl, rfl⟩
theorem rright_yes (x c j : Nat) (hN : Nd x c j) (hx : x ≤ 9223372036854775807) (h1 : 1 ≤ c) (h2 : c ≤ 62) (w : World) :
    Calls Tryz.prog 264 #[.int .i64 x] w fun e w' => e = .returned (.tuple #[.int .i64 (x + 2 ^ (c - 1) : Nat), .bool true]) ∧ w = w' := by
  have hc := rhalf x c j hN hx w
  rw [halfOf_pos h1] at hc
  have ht := right_le x c j hN (by omega) h1 h2
  have hp := two_pos (c - 1)
  generalize 2 ^ (c - 1) = p at *
  have q : ((p : Int) == 0) = false := by rw [beq_eq_false_iff_ne]; omega
  have q2 : decide (9223372036854775807 - (p : Int) < x) = false := by apply decide_eq_false; omega
  have HE := Lib.hid (show ((x + p : Nat) : Int) = (x : Int) + p by omega)
  have b1 : (x : Int) + p ≤ 9223372036854775807 := by omega
  have b2 : p ≤ 9223372036854775807 := by omega
  clear hN hp ht
  go_enter Tryz.func264, Tryz.ntmps264
  go_wp2_with (go_at_call 268; refine hc.mono ?_; rintro e w' ⟨rfl, rfl⟩)
  go_ret2
  rw [HE.out]
  exact ⟨rfl, rfl⟩
theorem rparent_no (x l : Int) (w : World) (h : inT x l = false) :
    Calls Tryz.prog 254 #[.int .i64 x, .int .i64 l] w fun e w' => e = .returned (.tuple #[.int .i64 0, .bool false]) ∧ w = w' := by
  have hi := rin x l w
  rw [h] at hi
  clear h
  go_enter Tryz.func254, Tryz.ntmps254
  go_wp2_with (go_at_call 274; refine hi.mono ?_; rintro e w' ⟨rfl, rfl⟩)
  go_ret2
  exact ⟨rfl, rfl⟩
theorem rparent_root (l : Int) (w : World) (hl : l ≤ 1073741824) (hl0 : 0 < l) (h : inT (l - 1) l = true) :
    Calls Tryz.prog 254 #[.int .i64 (l - 1), .int .i64 l] w fun e w' => e = .returned (.tuple #[.int .i64 0, .bool false]) ∧ w = w' := by
  have hi := rin (l - 1) l w
  rw [h] at hi
  clear h
  go_enter Tryz.func254, Tryz.ntmps254
  go_wp2_with (go_at_call 274; refine hi.mono ?_; rintro e w' ⟨rfl, rfl⟩)
  go_ret2
  exact ⟨rfl, rfl⟩
set_option maxHeartbeats 1000000 in
theorem rparent_yes (x c j d : Nat) (hd : d ≤ 30) (hN : Nd x c j) (hx : x + 1 < 2 ^ (d + 1)) (hc : c < d) (w : World) :
    Calls Tryz.prog 254 #[.int .i64 x, .int .i64 (2 ^ d : Nat)] w fun e w' => e = .returned (.tuple #[.int .i64 (anc x (c + 1) : Nat), .bool true]) ∧ w = w' := by
  have hi := rin x (2 ^ d : Nat) w
  rw [inT_nd hd hx] at hi
  have hp := pow_le hd
  have hp0 := two_pos d
  have hs := two_succ d
  have hne : ((x : Int) == ((2 ^ d : Nat) : Int) - 1) = false := by
    rw [beq_eq_false_iff_ne]
    intro e
    have h1 : Nd x d 0 := by unfold Nd; omega
    have := h1.unique hN
    omega
  have hroot : ((2 ^ d : Nat) : Int) - 1 = (anc x d : Nat) := by rw [anc_root x d (by omega)]; omega
  have b1 : ((2 ^ d : Nat) : Int) ≤ 1073741824 := by omega
  have b2 : 0 < ((2 ^ d : Nat) : Int) := by omega
  have hlt : ∀ m, m ≤ d → anc x m < 4294967296 := fun m hm => by have := anc_lt hx hm; omega
  have hw : ∀ m w, m + 1 ≤ d → Calls Tryz.prog 263 #[.int .i64 (anc x (m + 1) : Nat)] w fun e w' => e = .returned (.tuple #[.int .i64 (anc x (m + 1) - 2 ^ m : Nat), .bool true]) ∧ w = w' := fun m w hm => by
    have := hlt (m + 1) hm
    exact rleft_yes _ (m + 1) _ (anc_nd x (m + 1)) (by omega) (by omega) w
  have hr : ∀ m w, m + 1 ≤ d → Calls Tryz.prog 264 #[.int .i64 (anc x (m + 1) : Nat)] w fun e w' => e = .returned (.tuple #[.int .i64 (anc x (m + 1) + 2 ^ m : Nat), .bool true]) ∧ w = w' := fun m w hm => by
    have := hlt (m + 1) hm
    exact rright_yes _ (m + 1) _ (anc_nd x (m + 1)) (by omega) (by omega) (by omega) w
  generalize ((2 ^ d : Nat) : Int) = l at *
  have HR := Lib.hid hroot
  clear hroot hs hp0 hp
  go_enter Tryz.func254, Tryz.ntmps254
  go_wp2_with (go_at_call 274; refine hi.mono ?_; rintro e w' ⟨rfl, rfl⟩)
  rw [HR.out]
  have HNE := Lib.hid hne
  clear hne
  go_loopg [6, 7, 9] d (fun g v6 _ _ wr => w = wr ∧ c < g ∧ g ≤ d ∧ v6 = .int .i64 (anc x g : Nat))
  case atStart => exact ⟨rfl, hc, Nat.le_refl _, rfl⟩
  case round =>
    obtain ⟨rfl, hg1, hg2, rfl⟩ := hrel
    obtain ⟨m, rfl⟩ : ∃ m, gk = m + 1 := ⟨gk - 1, by omega⟩
    have hL := hw m w hg2
    have hK := hr m w hg2
    obtain ⟨hk1, hk2⟩ := (anc_nd x (m + 1)).kids
    obtain ⟨hd0, hd1, hd2⟩ := anc_down x c j m hN (by omega)
    obtain ⟨p, hp⟩ : ∃ p, p = anc x (m + 1) := ⟨_, rfl⟩
    have hp9 : p < 4294967296 := by rw [hp]; exact hlt _ hg2
    have hm9 : anc x m < 4294967296 := hlt _ (by omega)
    rw [← hp] at hk1 hk2 hd0 hd1 hd2 hL hK ⊢
    have HP := Lib.hid hp
    clear hp hw hr hlt
    by_cases hxp : x < p
    · have e1 := hd1 hxp
      rw [← e1] at hL hk1
      have t1 : decide (x < p) = true := decide_eq_true hxp
      obtain ⟨r, hre⟩ : ∃ r, r = p + 2 ^ m := ⟨_, rfl⟩
      rw [← hre] at hK hk2
      clear hd0 hd1 hd2 hxp
      by_cases hcm : c = m
      · subst hcm
        rw [hN.anc_self] at hL
        have HQ := Lib.hid HP.out
        clear hre e1 hk1 hk2 HP
        go_wp2_with (first | (go_at_call 263; refine hL.mono ?_; rintro e w' ⟨rfl, rfl⟩) | (go_at_call 264; refine hK.mono ?_; rintro e w' ⟨rfl, rfl⟩))
        go_ret2
        rw [HQ.out]
        exact ⟨rfl, rfl⟩
      · obtain ⟨y, hy⟩ : ∃ y, y = anc x m := ⟨_, rfl⟩
        rw [← hy] at hL hk1 hm9
        have s1 : ((y : Int) == x) = false := ne_level hN hk1 hcm
        have s2 : ((r : Int) == x) = false := ne_level hN hk2 hcm
        have HY := Lib.hid hy
        clear hre e1 hk1 hk2 hy
        go_wp2_with (first | (go_at_call 263; refine hL.mono ?_; rintro e w' ⟨rfl, rfl⟩) | (go_at_call 264; refine hK.mono ?_; rintro e w' ⟨rfl, rfl⟩))
        go_roundg m
        case rel => exact ⟨rfl, by omega, by omega, by rw [HY.out]⟩
        case measure => omega
    · have e1 := hd2 hxp
      rw [← e1] at hK hk2
      have t1 : decide (x < p) = false := decide_eq_false hxp
      obtain ⟨r, hre⟩ : ∃ r, r = p - 2 ^ m := ⟨_, rfl⟩
      rw [← hre] at hL hk1
      have hr9 : r < x := by have := two_pos m; omega
      clear hd0 hd1 hd2 hxp
      have s2 : ((r : Int) == x) = false := by rw [beq_eq_false_iff_ne]; omega
      by_cases hcm : c = m
      · subst hcm
        rw [hN.anc_self] at hK
        have HQ := Lib.hid HP.out
        clear hre e1 hk1 hk2 HP
        go_wp2_with (first | (go_at_call 263; refine hL.mono ?_; rintro e w' ⟨rfl, rfl⟩) | (go_at_call 264; refine hK.mono ?_; rintro e w' ⟨rfl, rfl⟩))
        go_ret2
        rw [HQ.out]
        exact ⟨rfl, rfl⟩
      · obtain ⟨y, hy⟩ : ∃ y, y = anc x m := ⟨_, rfl⟩
        rw [← hy] at hK hk2 hm9
        have s1 : ((y : Int) == x) = false := ne_level hN hk2 hcm
        have HY := Lib.hid hy
        clear hre e1 hk1 hk2 hy
        go_wp2_with (first | (go_at_call 263; refine hL.mono ?_; rintro e w' ⟨rfl, rfl⟩) | (go_at_call 264; refine hK.mono ?_; rintro e w' ⟨rfl, rfl⟩))
        go_roundg m
        case rel => exact ⟨rfl, by omega, by omega, by rw [HY.out]⟩
        case measure => omega

set_option maxHeartbeats 1000000 in
theorem rdirect_no (x l : Int) (w : World) (hp : Calls Tryz.prog 254 #[.int .i64 x, .int .i64 l] w fun e w' => e = .returned (.tuple #[.int .i64 0, .bool false]) ∧ w = w') :
    Calls Tryz.prog 161 #[.int .i64 x, .int .i64 l] w fun e w' => ∃ v, e = .returned v ∧ OwnI w' w.heap.size v [] ∧ Below w.heap.size w w' := by
  go_enter Tryz.func161, Tryz.ntmps161
  go_wp2_with (go_at_call 254; refine hp.mono ?_; rintro e w' ⟨rfl, rfl⟩)
  refine wp_loop_rounds 1 ?_
  rw [rounds_succ]
  go_wp2
  go_ret
  exact ⟨_, rfl, World.ownsRow_nil _ _ _ _, Below.refl _ _⟩
theorem rparent_next (x c d : Nat) (hd : d ≤ 30) (hx : x + 1 < 2 ^ (d + 1)) (hc : c ≤ d) (w : World) :
    Calls Tryz.prog 254 #[.int .i64 (anc x c : Nat), .int .i64 (2 ^ d : Nat)] w fun e w' => e = .returned (.tuple #[.int .i64 (if c < d then ((anc x (c + 1) : Nat) : Int) else 0), .bool (decide (c < d))]) ∧ w = w' := by
  by_cases h : c < d
  · have := rparent_yes (anc x c) c _ d hd (anc_nd x c) (anc_lt hx hc) h w
    rw [anc_anc _ _ _ (by omega)] at this
    rw [if_pos h, decide_eq_true h]
    exact this
  · obtain rfl : c = d := by omega
    have hp := pow_le hd
    have hp0 := two_pos c
    have e : ((anc x c : Nat) : Int) = ((2 ^ c : Nat) : Int) - 1 := by rw [anc_root x c (by omega)]; omega
    rw [if_neg h, decide_eq_false h, e]
    refine rparent_root _ w (by omega) (by omega) ?_
    rw [← e]
    exact inT_nd hd (anc_lt hx (Nat.le_refl c))
set_option maxHeartbeats 1000000 in
theorem rdirect_yes (x c j d : Nat) (hd : d ≤ 30) (hN : Nd x c j) (hx : x + 1 < 2 ^ (d + 1)) (w : World) (hpos : 0 < w.heap.size) :
    Calls Tryz.prog 161 #[.int .i64 x, .int .i64 (2 ^ d : Nat)] w fun e w' => ∃ v, e = .returned v ∧ OwnI w' w.heap.size v (upL x (c + 1) (d - c)) ∧ Below w.heap.size w w' := by
  have hcd : c ≤ d := by have := hN.level_lt hx; omega
  have hP : ∀ n, n ≤ d - c → ∀ w, Calls Tryz.prog 254 #[.int .i64 (anc x (c + n) : Nat), .int .i64 (2 ^ d : Nat)] w fun e w' => e = .returned (.tuple #[.int .i64 (if c + n < d then ((anc x (c + n + 1) : Nat) : Int) else 0), .bool (decide (c + n < d))]) ∧ w = w' := fun n hn w => rparent_next x (c + n) d hd hx (by omega) w
  have h0 := hP 0 (by omega) w
  rw [Nat.add_zero, hN.anc_self] at h0
  generalize ((2 ^ d : Nat) : Int) = l at *
  obtain ⟨q0, hq0⟩ : ∃ q, q = decide (c < d) := ⟨_, rfl⟩
  obtain ⟨z0, hz0⟩ : ∃ q, q = if c < d then ((anc x (c + 1) : Nat) : Int) else 0 := ⟨_, rfl⟩
  rw [← hq0, ← hz0] at h0
  have HQ := Lib.hid hq0
  have HZ := Lib.hid hz0
  clear hq0 hz0
  go_enter Tryz.func161, Tryz.ntmps161
  go_wp2_with (go_at_call 254; refine h0.mono ?_; rintro e w' ⟨rfl, rfl⟩)
  go_loopg [5, 6, 7] (d - c + 1) (fun g v5 v6 v7 wr => ∃ n : Nat, n + g = d - c + 1 ∧ n ≤ d - c ∧ OwnI wr w.heap.size v5 (upL x (c + 1) n) ∧ Below w.heap.size w wr ∧ v6 = .int .i64 (if c + n < d then ((anc x (c + n + 1) : Nat) : Int) else 0) ∧ v7 = .bool (decide (c + n < d)))
  case atStart => exact ⟨0, by omega, by omega, World.ownsRow_nil _ _ _ _, Below.refl _ _, by rw [HZ.out]; rfl, by rw [HQ.out]; rfl⟩
  case round =>
    obtain ⟨n, hg, hn, hown, hb, rfl, rfl⟩ := hrel
    have hB := hb.size
    have HG := Lib.hid hg
    clear hg HQ HZ h0
    by_cases hlt : c + n < d
    · rw [if_pos hlt, decide_eq_true hlt]
      have hown' := Lib.hid hown
      obtain ⟨p5, hp5⟩ : ∃ p, p = upL x (c + 1) n := ⟨_, rfl⟩
      rw [← hp5] at hown'
      have HP5 := Lib.hid hp5
      have HLEN := Lib.hid (show p5.length = n by rw [hp5]; exact upL_length _ _ _)
      have hN1 := hP (n + 1) (by omega)
      rw [show c + (n + 1) = c + n + 1 by omega] at hN1
      obtain ⟨q1, hq1⟩ : ∃ q, q = decide (c + n + 1 < d) := ⟨_, rfl⟩
      obtain ⟨z1, hz1⟩ : ∃ q, q = if c + n + 1 < d then ((anc x (c + n + 1 + 1) : Nat) : Int) else 0 := ⟨_, rfl⟩
      rw [← hq1, ← hz1] at hN1
      have HQ1 := Lib.hid hq1
      have HZ1 := Lib.hid hz1
      clear hown hp5 hq1 hz1
      go_wp2_with (at_builtin; refine push rfl _ _ rfl rfl rfl hown' hb hB ?c1 ?_)
      case c1 => have := HLEN.out; omega
      intro v' w' h1 h2 h3
      have H1 := Lib.hid (show OwnI w' w.heap.size v' (upL x (c + 1) (n + 1)) by rw [upL_succ, ← HP5.out, show c + 1 + n = c + n + 1 by omega]; exact h1)
      clear h1 hown'
      go_wp2_with (go_at_call 254; refine (hN1 _).mono ?_; rintro e w' ⟨rfl, rfl⟩)
      go_roundg (gk - 1)
      case rel => exact ⟨n + 1, by have := HG.out; omega, by omega, H1.out, h2, by rw [HZ1.out]; rfl, by rw [HQ1.out]; rfl⟩
      case measure => have := HG.out; omega
    · rw [if_neg hlt, decide_eq_false hlt]
      have hown' := Lib.hid hown
      have hnd : n = d - c := by omega
      rw [hnd] at hown'
      clear hown hnd
      go_wp2
      go_ret
      exact ⟨_, rfl, hown'.out, hb⟩
end Go.Proofs.YtnahhclflnjmcaaGreatDoor

/- A tree that the document's own answer makes: its nodes lie in a row of its own, which grows by append and is written over in part. -/
namespace Go.Proofs.YtnahhclflnjmcaaGreatDoor
open Go Go.RowKit Go.Proofs.YtnahhclflnjmcaaGreatDoor.Bk
set_option linter.unusedVariables false
set_option linter.unusedSimpArgs false
set_option maxRecDepth 100000

def ndCells (F : Nat → Node) (uv : Nat → Value) (n : Nat) : List Value := (List.range (n * 4)).map (cellF F uv)
theorem ndCells_length (F : Nat → Node) (uv : Nat → Value) (n : Nat) : (ndCells F uv n).length = n * 4 := by simp [ndCells]
theorem ndCells_get (F : Nat → Node) (uv : Nat → Value) {n j : Nat} (h : j < n * 4) : (ndCells F uv n)[j]? = some (cellF F uv j) := by
  unfold ndCells
  rw [List.getElem?_map, List.getElem?_range h]
  rfl
theorem ndCells_succ (F : Nat → Node) (uv : Nat → Value) (n : Nat) : ndCells F uv (n + 1) = ndCells F uv n ++ [.int .i64 (F n).pub, .int .i64 (F n).mem, .int .i64 (F n).ep, uv n] := by
  unfold ndCells
  rw [show (n + 1) * 4 = n * 4 + 1 + 1 + 1 + 1 by omega, List.range_succ, List.range_succ, List.range_succ, List.range_succ]
  simp only [List.map_append, List.map_cons, List.map_nil, List.append_assoc, List.cons_append, List.nil_append]
  rw [cellF0, cellF1, show n * 4 + 1 + 1 = n * 4 + 2 by omega, cellF2, show n * 4 + 2 + 1 = n * 4 + 3 by omega, cellF3]
theorem cellF_congr {F G : Nat → Node} {uv vv : Nat → Value} {j : Nat} (h : F (j / 4) = G (j / 4) ∧ uv (j / 4) = vv (j / 4)) : cellF F uv j = cellF G vv j := by
  unfold cellF
  rw [h.1, h.2]
theorem ndCells_congr {F G : Nat → Node} {uv vv : Nat → Value} {n : Nat} (h : ∀ y, y < n → F y = G y ∧ uv y = vv y) : ndCells F uv n = ndCells G vv n := by
  unfold ndCells
  refine List.map_congr_left fun j hj => cellF_congr (h _ ?_)
  have := List.mem_range.1 hj
  omega
/-- The document's own tree. -/
structure RwT (w : World) (B : Nat) (v : Value) (n : Nat) (F : Nat → Node) (uv : Nat → Value) : Prop where
  row : w.ownsRow B 95 4 v n (ndCells F uv n)
  un : ∀ y, y < n → OwnI w B (uv y) (F y).un
  nb : ∀ y, y < n → ∀ q, (uv y).ownBlock = some q → v.ownBlock ≠ some q
  wf : ∀ y, y < n → (Lit.int .i64 (F y).mem).wf = true
section
variable {w w' : World} {B n : Nat} {v : Value} {F : Nat → Node} {uv : Nat → Value}
theorem RwT.nil (w : World) (B : Nat) (F : Nat → Node) (uv : Nat → Value) : RwT w B (.slice none 0 0) 0 F uv := ⟨World.ownsRow_nil _ _ _ _, fun y h => by omega, fun y h => by omega, fun y h => by omega⟩
theorem RwT.below (h : RwT w B v n F uv) (hb : Below w.heap.size w w') : RwT w' B v n F uv := ⟨row_below h.row hb, fun y hy => (h.un y hy).below hb, h.nb, h.wf⟩
theorem RwT.lower {B' : Nat} (hB : B' ≤ B) (h : RwT w B v n F uv) : RwT w B' v n F uv := ⟨row_lower hB h.row, fun y hy => own_lower hB (h.un y hy), h.nb, h.wf⟩
theorem RwT.congr {G : Nat → Node} (h : RwT w B v n F uv) (he : ∀ y, y < n → F y = G y) : RwT w B v n G uv :=
  ⟨by rw [← ndCells_congr (F := F) (uv := uv) fun y hy => ⟨he y hy, rfl⟩]; exact h.row, fun y hy => by rw [← he y hy]; exact h.un y hy, h.nb, fun y hy => by rw [← he y hy]; exact h.wf y hy⟩
theorem RwT.at (h : RwT w B v n F uv) (h0 : 0 < n) : ∃ b c cur, v = .slice (some ⟨b, 0, none⟩) n c ∧ w.heap[b]? = some (.cells cur 95 (0, 0)) ∧ B ≤ b ∧ n ≤ c ∧ c ≤ maxLen ∧ n * 4 ≤ cur.size ∧ cur.size = c * 4 ∧ ∀ j, j < n * 4 → cur[j]? = some (cellF F uv j) := by
  rcases h.row.2 with ⟨_, e⟩ | ⟨g, cap, cur, h1, h2, h3, h4, h5, h6, h7⟩
  · omega
  · refine ⟨g, cap, cur, h1, h3, h2, h4, h5, by rw [h6]; exact Nat.mul_le_mul_right _ h4, h6, fun j hj => ?_⟩
    have := ndCells_get F uv hj
    rw [← h7, List.getElem?_take_of_lt hj, Array.getElem?_toList] at this
    exact this
theorem RwT.slice (h : RwT w B v n F uv) : ∃ A c, v = .slice A n c ∧ n ≤ c ∧ c ≤ maxLen := by
  rcases h.row.2 with ⟨e, e2⟩ | ⟨g, cap, cur, h1, h2, h3, h4, h5, h6, h7⟩
  · exact ⟨none, 0, by rw [e, e2], by omega, by unfold maxLen; omega⟩
  · exact ⟨_, _, h1, h4, h5⟩
theorem RwT.cells (h : RwT w B v n F uv) {y : Nat} (hy : y < n) : ∃ b c, v = .slice (some ⟨b, 0, none⟩) n c ∧ b < w.heap.size ∧ B ≤ b ∧ w.cell? ⟨b, y * 4, none⟩ = some (.int .i64 (F y).pub) ∧ w.cell? ⟨b, y * 4 + 1, none⟩ = some (.int .i64 (F y).mem) ∧ w.cell? ⟨b, y * 4 + 2, none⟩ = some (.int .i64 (F y).ep) ∧ w.cell? ⟨b, y * 4 + 3, none⟩ = some (uv y) ∧ ∀ k, w.frozen? ⟨b, k, none⟩ = false := by
  obtain ⟨b, c, cur, h1, h2, h3, h4, h5, h6, h6', h7⟩ := h.at (by omega)
  refine ⟨b, c, h1, lt_of_some h2, h3, ?_, ?_, ?_, ?_, fun k => frozen_of_row w b _ _ _ h2⟩
  · exact (cell_of_row w b _ _ _ _ h2).trans ((h7 _ (by omega)).trans (by rw [cellF0]))
  · exact (cell_of_row w b _ _ _ _ h2).trans ((h7 _ (by omega)).trans (by rw [cellF1]))
  · exact (cell_of_row w b _ _ _ _ h2).trans ((h7 _ (by omega)).trans (by rw [cellF2]))
  · exact (cell_of_row w b _ _ _ _ h2).trans ((h7 _ (by omega)).trans (by rw [cellF3]))
theorem RwT.trR (h : RwT w B v n F uv) : TrR w v n F := by
  obtain ⟨A, c, rfl, h1, h2⟩ := h.slice
  refine ⟨A, c, rfl, h1, h2, fun h0 => ?_⟩
  obtain ⟨b, c', e, -⟩ := h.cells h0
  injection e with e1 _ e3
  subst e1 e3
  refine ⟨b, 0, rfl, fun y hy => ?_⟩
  obtain ⟨b', c', e, -, -, x0, x1, x2, x3, -⟩ := h.cells hy
  injection e with e1 _ _
  injection e1 with e1
  injection e1 with e1
  subst e1
  rw [Nat.zero_add]
  obtain ⟨A', c2, e⟩ := (h.un y hy).slice
  exact ⟨x0, x1, x2, ⟨A', c2, by rw [x3, e], by rw [← e]; exact (h.un y hy).ints⟩, h.wf y hy⟩
theorem grown_setRow (w : World) (g : Nat) (vs : Array Value) : w.grownBy (w.setRow g vs) (some g) :=
  ⟨rfl, rfl, rfl, by simp, fun k hk hx => setRow_other w g k vs (fun e => hx (by rw [e]))⟩
theorem own_kept {u : Value} {l : List Int} {row : Option Nat} (hu : OwnI w B u l) (hg : w.grownBy w' row) (hq : ∀ q, u.ownBlock = some q → row ≠ some q) : OwnI w' B u l := by
  refine World.ownsRow.kept hu hg ?_
  cases e : u.ownBlock with
  | none => exact .inl rfl
  | some q => exact .inr fun e2 => hq q e e2.symm
/-- One node is written over. -/
theorem RwT.over {b c y : Nat} {cur : Array Value} (h : RwT w B (.slice (some ⟨b, 0, none⟩) n c) n F uv) (hcur : w.heap[b]? = some (.cells cur 95 (0, 0))) (hy : y < n) (a : Node) (u : Value) (hu : OwnI w B u a.un) (hub : u.ownBlock ≠ some b) (hw : (Lit.int .i64 a.mem).wf = true) :
    RwT (w.setRow b (Bk.over cur (y * 4) #[.int .i64 a.pub, .int .i64 a.mem, .int .i64 a.ep, u])) B (.slice (some ⟨b, 0, none⟩) n c) n (fun z => if z = y then a else F z) (fun z => if z = y then u else uv z) := by
  obtain ⟨b', c', cur', e, k2, k3, k4, k5, k6, k6', k7⟩ := h.at (by omega)
  injection e with e1 _ e3
  injection e1 with e1
  injection e1 with e1
  subst e1 e3
  rw [hcur] at k2
  injection k2 with k2
  injection k2 with k2
  subst k2
  have hfit : y * 4 + (#[.int .i64 a.pub, .int .i64 a.mem, .int .i64 a.ep, u] : Array Value).size ≤ cur.size := by
    show y * 4 + 4 ≤ cur.size
    omega
  have hg := grown_setRow w b (Bk.over cur (y * 4) #[.int .i64 a.pub, .int .i64 a.mem, .int .i64 a.ep, u])
  refine ⟨⟨ndCells_length _ _ _, .inr ⟨b, c, _, rfl, k3, setRow_same hcur, k4, k5, by rw [size_over hfit]; exact k6', ?_⟩⟩, fun z hz => ?_, fun z hz q hq => ?_, fun z hz => ?_⟩
  · apply List.ext_getElem?
    intro j
    by_cases hj : j < n * 4
    · rw [List.getElem?_take_of_lt hj, Array.getElem?_toList, over_get hfit, ndCells_get _ _ hj, k7 j hj]
      by_cases h1 : j < y * 4
      · rw [if_pos h1]
        congr 1
        exact cellF_congr (by rw [if_neg (by omega), if_neg (by omega)]; exact ⟨rfl, rfl⟩)
      · rw [if_neg h1, show (#[.int .i64 a.pub, .int .i64 a.mem, .int .i64 a.ep, u] : Array Value).size = 4 from rfl]
        by_cases h2 : j < y * 4 + 4
        · rw [if_pos h2]
          obtain ⟨k, rfl⟩ : ∃ k, j = y * 4 + k := ⟨j - y * 4, by omega⟩
          rw [Nat.add_sub_cancel_left]
          have hk : k = 0 ∨ k = 1 ∨ k = 2 ∨ k = 3 := by omega
          rcases hk with rfl | rfl | rfl | rfl
          · rw [Nat.add_zero, cellF0, if_pos rfl]; rfl
          · rw [cellF1, if_pos rfl]; rfl
          · rw [cellF2, if_pos rfl]; rfl
          · rw [cellF3, if_pos rfl]; rfl
        · rw [if_neg h2]
          congr 1
          exact cellF_congr (by rw [if_neg (by omega), if_neg (by omega)]; exact ⟨rfl, rfl⟩)
    · rw [List.getElem?_eq_none (by rw [List.length_take]; omega), List.getElem?_eq_none (by rw [ndCells_length]; omega)]
  · by_cases e : z = y
    · simp only [if_pos e]
      exact own_kept hu hg fun q hq e2 => hub (by rw [hq, ← e2])
    · simp only [if_neg e]
      exact own_kept (h.un z hz) hg fun q hq e2 => h.nb z hz q hq e2
  · by_cases e : z = y
    · simp only [if_pos e] at hq
      exact fun e2 => hub (by rw [hq]; exact e2.symm)
    · simp only [if_neg e] at hq
      exact h.nb z hz q hq
  · by_cases e : z = y
    · simp only [if_pos e]; exact hw
    · simp only [if_neg e]; exact h.wf z hz
end
theorem info95r : (Tryz.prog.info? 95).map (fun i => (i.zero, i.size, i.bytes)) = some (some (.agg #[.int .i64 0, .int .i64 0, .int .i64 0, .slice none 0 0]), 4, 48) := by kernel_rfl
/-- One node more. -/
theorem pushNd {ops : Array Oper} {rest : List Oper} {o : Oper} {a : Act} {Q : Exit → Act → World → Prop} {w : World} {B g n : Nat} {vr u : Value} {F : Nat → Node} {uv : Nat → Value} {x : Node}
    (hgd : o.guard = none) (s y : Operand) (ho : o.op = .call { callee := .builtin .append, args := #[s, y], argTypes := #[22, 22] })
    (hs : a.eval s = vr) (hy : a.eval y = .slice (some ⟨g, 0, none⟩) 1 1) (hR : Hid (RwT w B vr n F uv)) (hl : Hid (OwnI w B u x.un)) (hlb : Hid ((∀ q, u.ownBlock = some q → vr.ownBlock ≠ some q) ∧ u.oneCell' = true ∧ (Lit.int .i64 x.mem).wf = true)) (hB : B ≤ w.heap.size) (hg : g = w.heap.size) (hn : n ≤ 1000000)
    (h : ∀ v' w', RwT w' B v' (n + 1) (fun z => if z = n then x else F z) (fun z => if z = n then u else uv z) → Below B w w' → w.grownBy w' vr.ownBlock → (∀ q, v'.ownBlock = some q → vr.ownBlock = some q ∨ w.heap.size ≤ q) → wpList Tryz.prog ops Q rest (a.put o.dst v') w') :
    wpList Tryz.prog ops Q (o :: rest) a (w.alloc (.cells #[.int .i64 x.pub, .int .i64 x.mem, .int .i64 x.ep, u] 95)) := by
  subst hg
  obtain ⟨i0, hinf, hz0, hz1, hz2⟩ := info_parts info95r
  have hR' := hR.out
  have hal := World.grownBy_alloc w (.cells #[.int .i64 x.pub, .int .i64 x.mem, .int .i64 x.ep, u] 95) vr.ownBlock
  have hvl := World.ownsRow.lt hR'.row
  have hll := World.ownsRow.lt hl.out
  refine wpList_append_lies _ hgd s y 22 ho B 95 i0 (.agg #[.int .i64 0, .int .i64 0, .int .i64 0, .slice none 0 0]) 4 48 Tryz.underlying22 hinf hz0 hz1 hz2 rfl (by decide) vr n (ndCells F uv n) hs (hR'.row.alloc _) ⟨w.heap.size, 0, none⟩ 1 1 [.int .i64 x.pub, .int .i64 x.mem, .int .i64 x.ep, u] hy rfl
    (fun j u hj => by
      rw [Addr.add_lit, Nat.zero_add, cell_of_row _ _ _ _ _ _ (heap_alloc_new w _)]
      simpa using hj)
    (fun z hz => by
      simp only [List.mem_cons, List.not_mem_nil, or_false] at hz
      rcases hz with rfl | rfl | rfl | rfl
      · rfl
      · rfl
      · rfl
      · exact hlb.out.2.1) (by decide) (by unfold maxLen; omega) (by omega) (by simp; omega) (w.heap.size + 1) (by simp) (fun g cap w' h1 h2 h3 _ => h _ w' ?_ ?_ (hal.trans h2) ?_)
  · have h12 := hal.trans h2
    have new : ∀ q, q < w.heap.size → vr.ownBlock ≠ some q → g ≠ q := fun q hq hne e => by
      rcases h3 with e2 | e2
      · exact hne (by rw [e2, e])
      · omega
    refine ⟨?_, fun z hz => ?_, fun z hz q hq => ?_, fun z hz => ?_⟩
    · rw [ndCells_succ, if_pos rfl, if_pos rfl]
      rw [← ndCells_congr (F := F) (uv := uv) fun y hy => by rw [if_neg (by omega), if_neg (by omega)]; exact ⟨rfl, rfl⟩]
      exact h1
    · by_cases e : z = n
      · simp only [if_pos e]
        exact own_kept hl.out h12 hlb.out.1
      · simp only [if_neg e]
        exact own_kept (hR'.un z (by omega)) h12 (hR'.nb z (by omega))
    · show some g ≠ some q
      intro e
      have e := Option.some.inj e
      by_cases e2 : z = n
      · simp only [if_pos e2] at hq
        exact new q (hll q hq).2 (hlb.out.1 q hq) e
      · simp only [if_neg e2] at hq
        exact new q (World.ownsRow.lt (hR'.un z (by omega)) q hq).2 (hR'.nb z (by omega) q hq) e
    · by_cases e : z = n
      · simp only [if_pos e]; exact hlb.out.2.2
      · simp only [if_neg e]; exact hR'.wf z (by omega)
  · exact ((Below.refl B w).alloc hB _).grown h2 (by simp; omega) (fun q hq => (hvl q hq).1)
  · intro q hq
    obtain rfl : g = q := by simpa [Value.ownBlock] using hq
    exact h3.imp id fun e => by omega
end Go.Proofs.YtnahhclflnjmcaaGreatDoor

/- A tree that the document's own answer makes, held in a box. -/
namespace Go.Proofs.YtnahhclflnjmcaaGreatDoor
open Go Go.RowKit Go.Proofs.YtnahhclflnjmcaaGreatDoor.Bk
set_option linter.unusedVariables false
set_option linter.unusedSimpArgs false
set_option maxRecDepth 100000

theorem RwT.grown {w w' : World} {B n g : Nat} {v : Value} {F : Nat → Node} {uv : Nat → Value} (h : RwT w B v n F uv) (hg : w.grownBy w' (some g)) (h1 : v.ownBlock ≠ some g) (h2 : ∀ y, y < n → (uv y).ownBlock ≠ some g) : RwT w' B v n F uv := by
  refine ⟨World.ownsRow.kept h.row hg ?_, fun y hy => own_kept (h.un y hy) hg fun q hq e => h2 y hy (by rw [hq]; exact e.symm), h.nb, h.wf⟩
  cases e : v.ownBlock with
  | none => exact .inl rfl
  | some q => exact .inr fun e2 => h1 (e.trans e2)
theorem grown_setCell (w : World) (a : Addr) (u : Value) : w.grownBy (w.setCell a u) (some a.block) :=
  ⟨rfl, rfl, rfl, by simp [World.setCell], fun k hk hx => heap_setCell_other w a k u (fun e => hx (by rw [e]))⟩
/-- The list of one node is anew. -/
theorem RwT.setUn {w : World} {B n b c y : Nat} {F : Nat → Node} {uv : Nat → Value} (h : RwT w B (.slice (some ⟨b, 0, none⟩) n c) n F uv) (hy : y < n) (u : Value) (l : List Int) (hu : OwnI w B u l) (hub : u.ownBlock ≠ some b) :
    RwT (w.setCell ⟨b, y * 4 + 3, none⟩ u) B (.slice (some ⟨b, 0, none⟩) n c) n (fun z => if z = y then { F y with un := l } else F z) (fun z => if z = y then u else uv z) := by
  obtain ⟨b', c', cur, e, k2, k3, k4, k5, k6, k6', k7⟩ := h.at (by omega)
  injection e with e1 _ e3
  injection e1 with e1
  injection e1 with e1
  subst e1 e3
  have hg := grown_setCell w ⟨b, y * 4 + 3, none⟩ u
  have hz := heap_setCell_same w b (y * 4 + 3) cur 95 u k2
  refine ⟨⟨ndCells_length _ _ _, .inr ⟨b, c, _, rfl, k3, hz, k4, k5, by simpa using k6', ?_⟩⟩, fun z hz => ?_, fun z hz q hq => ?_, fun z hz => ?_⟩
  · apply List.ext_getElem?
    intro j
    by_cases hj : j < n * 4
    · rw [List.getElem?_take_of_lt hj, Array.getElem?_toList, ndCells_get _ _ hj]
      by_cases e : j = y * 4 + 3
      · subst e
        rw [Array.getElem?_setIfInBounds_self_of_lt (by omega), cellF3, if_pos rfl]
      · rw [Array.getElem?_setIfInBounds_ne (fun e2 => e e2.symm), k7 j hj]
        congr 1
        unfold cellF
        by_cases e2 : j / 4 = y
        · simp only [if_pos e2]
          by_cases c0 : j % 4 = 0
          · rw [if_pos c0, if_pos c0, e2]
          by_cases c1 : j % 4 = 1
          · rw [if_neg c0, if_neg c0, if_pos c1, if_pos c1, e2]
          by_cases c2 : j % 4 = 2
          · rw [if_neg c0, if_neg c0, if_neg c1, if_neg c1, if_pos c2, if_pos c2, e2]
          omega
        · simp only [if_neg e2]
    · rw [List.getElem?_eq_none (by rw [List.length_take]; omega), List.getElem?_eq_none (by rw [ndCells_length]; omega)]
  · by_cases e : z = y
    · simp only [if_pos e]
      exact own_kept hu hg fun q hq e2 => hub (by rw [hq]; exact e2.symm)
    · simp only [if_neg e]
      exact own_kept (h.un z hz) hg fun q hq e2 => h.nb z hz q hq e2
  · by_cases e : z = y
    · simp only [if_pos e] at hq
      exact fun e2 => hub (by rw [hq]; exact e2.symm)
    · simp only [if_neg e] at hq
      exact h.nb z hz q hq
  · by_cases e : z = y
    · simp only [if_pos e]; exact h.wf y hy
    · simp only [if_neg e]; exact h.wf z hz
theorem RwT.cut {w : World} {B n m b c : Nat} {F : Nat → Node} {uv : Nat → Value} (h : RwT w B (.slice (some ⟨b, 0, none⟩) n c) n F uv) (hm : m ≤ n) (h0 : 0 < n) : RwT w B (.slice (some ⟨b, 0, none⟩) m c) m F uv := by
  obtain ⟨b', c', cur, e, k2, k3, k4, k5, k6, k6', k7⟩ := h.at h0
  injection e with e1 _ e3
  injection e1 with e1
  injection e1 with e1
  subst e1 e3
  refine ⟨⟨ndCells_length _ _ _, .inr ⟨b, c, cur, rfl, k3, k2, by omega, k5, k6', ?_⟩⟩, fun z hz => h.un z (by omega), fun z hz => h.nb z (by omega), fun z hz => h.wf z (by omega)⟩
  apply List.ext_getElem?
  intro j
  by_cases hj : j < m * 4
  · rw [List.getElem?_take_of_lt hj, Array.getElem?_toList, ndCells_get _ _ hj, k7 j (by omega)]
  · rw [List.getElem?_eq_none (by rw [List.length_take]; omega), List.getElem?_eq_none (by rw [ndCells_length]; omega)]
/-- The tree lies in the box g. -/
structure RX (S g k : Nat) (G : Nat → Node) (W : World) (vt : Value) (uv : Nat → Value) : Prop where
  box : W.heap[g]? = some (.cells #[vt] 24 (0, 0))
  tr : RwT W S vt k G uv
  nv : ∀ q, vt.ownBlock = some q → q ≠ g
  nu : ∀ y, y < k → ∀ q, (uv y).ownBlock = some q → q ≠ g
  hg : S ≤ g
section
variable {S g k : Nat} {G : Nat → Node} {W W' : World} {vt : Value} {uv : Nat → Value}
theorem RX.lt (h : RX S g k G W vt uv) : g < W.heap.size := lt_of_some h.box
theorem RX.cell (h : RX S g k G W vt uv) : W.cell? ⟨g, 0, none⟩ = some vt ∧ W.frozen? ⟨g, 0, none⟩ = false := ⟨(cell_of_row W g _ _ _ _ h.box).trans rfl, frozen_of_row W g _ _ _ h.box⟩
theorem RX.under (h : RX S g k G W vt uv) (hb : Below W.heap.size W W') : RX S g k G W' vt uv := ⟨(hb.block g h.lt).trans h.box, h.tr.below hb, h.nv, h.nu, h.hg⟩
theorem RX.congr {G' : Nat → Node} (h : RX S g k G W vt uv) (he : ∀ y, y < k → G y = G' y) : RX S g k G' W vt uv := ⟨h.box, h.tr.congr he, h.nv, h.nu, h.hg⟩
theorem box_set {v u : Value} (h : W.heap[g]? = some (.cells #[v] 24 (0, 0))) : (W.setCell ⟨g, 0, none⟩ u).heap[g]? = some (.cells #[u] 24 (0, 0)) := by
  have := heap_setCell_same W g 0 #[v] 24 u h
  simpa using this
/-- The tree in the box is another one. -/
theorem RX.put {v2 : Value} {k2 : Nat} {G2 : Nat → Node} {uv2 : Nat → Value} {vo : Value} (hbox : W.heap[g]? = some (.cells #[vo] 24 (0, 0))) (hg : S ≤ g) (h : RwT W S v2 k2 G2 uv2) (h1 : ∀ q, v2.ownBlock = some q → q ≠ g) (h2 : ∀ y, y < k2 → ∀ q, (uv2 y).ownBlock = some q → q ≠ g) : RX S g k2 G2 (W.setCell ⟨g, 0, none⟩ v2) v2 uv2 :=
  ⟨box_set hbox, h.grown (grown_setCell W ⟨g, 0, none⟩ v2) (fun e => h1 g e rfl) (fun y hy e => h2 y hy g e rfl), h1, h2, hg⟩
theorem RX.slice (h : RX S g k G W vt uv) (h0 : 0 < k) : ∃ b c cur, vt = .slice (some ⟨b, 0, none⟩) k c ∧ W.heap[b]? = some (.cells cur 95 (0, 0)) ∧ S ≤ b ∧ b < W.heap.size ∧ b ≠ g ∧ k * 4 ≤ cur.size ∧ k ≤ c ∧ c ≤ maxLen := by
  obtain ⟨b, c, cur, h1, h2, h3, h4, h5, h6, -, -⟩ := h.tr.at h0
  exact ⟨b, c, cur, h1, h2, h3, lt_of_some h2, h.nv b (by rw [h1]; rfl), h6, h4, h5⟩
/-- One node is written over. -/
theorem RX.node {b c y : Nat} {cur : Array Value} (h : RX S g k G W (.slice (some ⟨b, 0, none⟩) k c) uv) (hcur : W.heap[b]? = some (.cells cur 95 (0, 0))) (hy : y < k) (a : Node) (hu : a.un = []) (hw : (Lit.int .i64 a.mem).wf = true) :
    RX S g k (fun z => if z = y then a else G z) (W.setRow b (Bk.over cur (y * 4) #[.int .i64 a.pub, .int .i64 a.mem, .int .i64 a.ep, .slice none 0 0])) (.slice (some ⟨b, 0, none⟩) k c) (fun z => if z = y then .slice none 0 0 else uv z) := by
  have hbg : b ≠ g := h.nv b rfl
  refine ⟨(setRow_other W b g _ (fun e => hbg e.symm)).trans h.box, h.tr.over hcur hy a _ (by rw [hu]; exact World.ownsRow_nil _ _ _ _) (by intro e; cases e) hw, h.nv, fun z hz q hq => ?_, h.hg⟩
  by_cases e : z = y
  · simp only [if_pos e] at hq
    cases hq
  · simp only [if_neg e] at hq
    exact h.nu z hz q hq
/-- One list is anew: it was made in the world that is now. -/
theorem RX.un {b c y B2 : Nat} (h : RX S g k G W (.slice (some ⟨b, 0, none⟩) k c) uv) (hb : Below W.heap.size W W') (hy : y < k) (u : Value) (l : List Int) (hu : OwnI W' W.heap.size u l) (hS : S ≤ W.heap.size) :
    RX S g k (fun z => if z = y then { G y with un := l } else G z) (W'.setCell ⟨b, y * 4 + 3, none⟩ u) (.slice (some ⟨b, 0, none⟩) k c) (fun z => if z = y then u else uv z) := by
  have h2 := h.under hb
  have hbg : b ≠ g := h.nv b rfl
  have hlt := World.ownsRow.lt hu
  have hbl := (World.ownsRow.lt h.tr.row b rfl).2
  have hgl := h.lt
  refine ⟨(heap_setCell_other W' ⟨b, y * 4 + 3, none⟩ g u (fun e => hbg e.symm)).trans h2.box, h2.tr.setUn hy u l (own_lower hS hu) (fun e => by have := (hlt b e).1; omega), h.nv, fun z hz q hq => ?_, h.hg⟩
  by_cases e : z = y
  · simp only [if_pos e] at hq
    have := (hlt q hq).1
    omega
  · simp only [if_neg e] at hq
    exact h.nu z hz q hq
end
theorem dirs_up (d i : Nat) : upL (2 * i) (0 + 1) d = natL (dirs d i) := by
  unfold upL natL dirs
  rw [List.map_map]
  refine List.map_congr_left fun k _ => ?_
  show ((anc (2 * i) (0 + 1 + k) : Nat) : Int) = ((anc (2 * i) (k + 1) : Nat) : Int)
  rw [show 0 + 1 + k = k + 1 by omega]
theorem rdirect (d i l : Nat) (hd : d ≤ 3) (hl : l = 2 ^ d) (hi : i < l) (w : World) (hpos : 0 < w.heap.size) :
    Calls Tryz.prog 161 #[.int .i64 (2 * (i : Int)), .int .i64 l] w fun e w' => ∃ v, e = .returned v ∧ OwnI w' w.heap.size v (natL (dirs d i)) ∧ Below w.heap.size w w' := by
  have h2 := two_succ d
  have h2p := two_pos d
  have := rdirect_yes (2 * i) 0 i d (by omega) (Nd.of_eq (by simp; omega)) (by omega) w hpos
  rw [dirs_up, Nat.sub_zero, ← hl] at this
  rw [show ((2 * i : Nat) : Int) = 2 * (i : Int) by omega] at this
  exact this
end Go.Proofs.YtnahhclflnjmcaaGreatDoor

/- Chapter 08's own Twin. -/
namespace Go.Proofs.YtnahhclflnjmcaaGreatDoor
open Go Go.RowKit Go.Proofs.YtnahhclflnjmcaaGreatDoor.Bk
set_option linter.unusedVariables false
set_option linter.unusedSimpArgs false
set_option maxRecDepth 100000

/-- What Twin leaves. -/
structure RTw (w : World) (n : Nat) (F : Nat → Node) (e : Ending) (w' : World) : Prop where
  out : ∃ v' uv, e = .returned (.agg #[v']) ∧ RwT w' w.heap.size v' n F uv
  bel : Below w.heap.size w w'
set_option maxHeartbeats 8000000 in
theorem rtwin (v : Value) (n : Nat) (F : Nat → Node) (w : World) (hR : TrR w v n F) (hn : n ≤ 262144) (hun : ∀ y, y < n → (F y).un.length ≤ 1000000) :
    Calls Tryz.prog 159 #[.agg #[v]] w fun e w' => RTw w n F e w' := by
  obtain ⟨A, c, rfl, -, -, -⟩ := id hR
  obtain ⟨W0, hW0⟩ : ∃ W0, W0 = ((w.alloc (.cells #[.slice A n c] 24)).alloc (.cells #[.slice none 0 0] 24)) := ⟨_, rfl⟩
  have h0 : W0.heap[w.heap.size]? = some (.cells #[.slice A n c] 24 (0, 0)) := by
    rw [hW0, Below.heap_alloc _ _ _ (by simp)]
    exact heap_alloc_new _ _
  have h1 : W0.heap[w.heap.size + 1]? = some (.cells #[.slice none 0 0] 24 (0, 0)) := by
    rw [hW0]
    have := heap_alloc_new (w.alloc (.cells #[.slice A n c] 24)) (.cells #[.slice none 0 0] 24)
    rw [show (w.alloc (.cells #[.slice A n c] 24)).heap.size = w.heap.size + 1 by simp] at this
    exact this
  have hb0 : Below w.heap.size w W0 := by rw [hW0]; exact ((Below.refl _ _).alloc (Nat.le_refl _) _).alloc (by simp) _
  have hsz : W0.heap.size = w.heap.size + 2 := by rw [hW0]; simp
  have HB := Lib.hid (And.intro hb0 (And.intro hsz (And.intro h0 h1)))
  have HR := Lib.hid (hR.below hb0)
  have HUN := Lib.hid hun
  clear hR hb0 hsz h0 h1 hun
  go_enter Tryz.func159, Tryz.ntmps159
  go_wp2_with fail
  rw [← hW0]
  clear hW0
  go_loopg [3, 4] (n + 1) (fun g v3 v4 wr => ∃ (i : Nat) (uv : Nat → Value) (A3 : Option Addr) (c3 : Nat), i ≤ n ∧ i + g = n + 1 ∧ v3 = .slice A3 i c3 ∧ v4 = .int .i64 (i : Int) ∧ Hid (RwT wr W0.heap.size (.slice A3 i c3) i F uv ∧ Below W0.heap.size W0 wr))
  case atStart => exact ⟨0, fun _ => .slice none 0 0, none, 0, by omega, by omega, rfl, rfl, Lib.hid ⟨RwT.nil _ _ _ _, Below.refl _ _⟩⟩
  case round =>
    obtain ⟨i, uv, A3, c3, hi, hg, rfl, rfl, HT⟩ := hrel
    obtain ⟨hRw, hbr⟩ := HT.out
    obtain ⟨hb0, hsz, h0, h1⟩ := HB.out
    have g0 := (hbr.block w.heap.size (by omega)).trans h0
    have g1 := (hbr.block (w.heap.size + 1) (by omega)).trans h1
    have c0 : wr.cell? ⟨w.heap.size, 0, none⟩ = some (.slice A n c) := by rw [cell_of_row _ _ _ _ _ _ g0]; rfl
    have d0 : wr.cell? ⟨w.heap.size + 1, 0, none⟩ = some (.slice none 0 0) := by rw [cell_of_row _ _ _ _ _ _ g1]; rfl
    have df : wr.frozen? ⟨w.heap.size + 1, 0, none⟩ = false := frozen_of_row _ _ _ _ _ g1
    have s0 : w.heap.size < wr.heap.size := World.block_lt_of_cell? _ _ c0
    have s1 : w.heap.size + 1 < wr.heap.size := World.block_lt_of_cell? _ _ d0
    have HG := Lib.hid (And.intro hg hi)
    by_cases hlt : i < n
    · have hTr := HR.out.below hbr
      obtain ⟨b, o, rfl, hN⟩ := hTr.at' hlt
      obtain ⟨y0, y1, y2, ⟨Au, cu, y3, hI⟩, hwf⟩ := hN
      have hbl := World.block_lt_of_cell? _ _ y0
      have hul := HUN.out i hlt
      obtain ⟨x, hx⟩ : ∃ x, x = F i := ⟨_, rfl⟩
      rw [← hx] at y0 y1 y2 y3 hI hwf hul
      have HXE := Lib.hid hx
      clear hx
      obtain ⟨p, m, ep, us⟩ := x
      simp only at y0 y1 y2 y3 hI hwf hul
      obtain ⟨ul, hul2⟩ : ∃ ul, ul = us.length := ⟨_, rfl⟩
      rw [← hul2] at y3 hI hul
      obtain ⟨W1, hW1⟩ : ∃ W1, W1 = wr.alloc (.cells #[.int .i64 p, .int .i64 m, .int .i64 ep, .slice Au ul cu] 95) := ⟨_, rfl⟩
      have hs1 : W1.heap.size = wr.heap.size + 1 := by rw [hW1]; simp
      have k1 : W1.heap[wr.heap.size]? = some (.cells #[.int .i64 p, .int .i64 m, .int .i64 ep, .slice Au ul cu] 95 (0, 0)) := by rw [hW1]; exact heap_alloc_new _ _
      have hbr1 : Below wr.heap.size wr W1 := by rw [hW1]; exact (Below.refl _ _).alloc (Nat.le_refl _) _
      have hb12 : Below W1.heap.size W1 (W1.alloc (.cells #[] 3)) := (Below.refl _ _).alloc (Nat.le_refl _) _
      have how : OwnI (W1.alloc (.cells #[] 3)) W1.heap.size (.slice (some ⟨W1.heap.size, 0, none⟩) 0 0) [] := ⟨rfl, .inr ⟨W1.heap.size, 0, #[], rfl, Nat.le_refl _, heap_alloc_new _ _, Nat.le_refl _, by unfold maxLen; omega, rfl, rfl⟩⟩
      have HX := Lib.hid ((hI.below hbr1).below hb12)
      have HBX := Lib.hid (And.intro hb12 hb12.size)
      have i1 : (0 : Int) ≤ (i : Int) := by omega
      have i2 : (i : Int) < (n : Int) := by omega
      have k12 : ∀ j, (W1.alloc (.cells #[] 3)).cell? ⟨wr.heap.size, j, none⟩ = (#[.int .i64 p, .int .i64 m, .int .i64 ep, .slice Au ul cu] : Array Value)[j]? := fun j => by
        rw [World.cell?_alloc_lt _ _ _ (by rw [hs1]; exact Nat.lt_succ_self _)]
        exact cell_of_row _ _ _ _ _ _ k1
      have e3 : (W1.alloc (.cells #[] 3)).cell? ⟨wr.heap.size, 3, none⟩ = some (.slice Au ul cu) := (k12 3).trans rfl
      rw [hs1] at how HBX
      have HOW := Lib.hid how
      have HK := Lib.hid (And.intro k1 (And.intro hbr1 (And.intro hs1 (And.intro hwf (And.intro hlt (And.intro hul hul2))))))
      clear hTr hI hul how hwf hlt hb0 hsz h0 h1 g0 g1 hRw hbr hb12 hbr1 k1 hg hi k12 hul2
      go_wp2_with (first | (rw [← hW1]) | (at_builtin; refine append_ints rfl _ _ rfl rfl rfl HOW HX.out HBX.out.1 HBX.out.2 ?c1 ?_))
      case c1 =>
        obtain ⟨_, _, _, _, _, h6, h7⟩ := HK.out
        first | omega | (simp; omega)
      intro v' w3 q1 q2 q3
      obtain ⟨A', c', rfl⟩ := q1.slice
      obtain ⟨k1, hbr1, hs1', hwf, hlt, hul, hul2⟩ := HK.out
      obtain ⟨hRw, hbr⟩ := HT.out
      rw [← hul2] at q1 ⊢
      have r3 := (q2.block wr.heap.size (Nat.lt_succ_self _)).trans k1
      have z0 : w3.cell? ⟨wr.heap.size, 3, none⟩ = some (.slice Au ul cu) := by rw [cell_of_row _ _ _ _ _ _ r3]; rfl
      have zf : w3.frozen? ⟨wr.heap.size, 3, none⟩ = false := frozen_of_row _ _ _ _ _ r3
      have zl : wr.heap.size < w3.heap.size := World.block_lt_of_cell? _ _ z0
      obtain ⟨W4, hW4⟩ : ∃ W4, W4 = w3.setCell ⟨wr.heap.size, 3, none⟩ (.slice A' ul c') := ⟨_, rfl⟩
      have r4 : W4.heap[wr.heap.size]? = some (.cells #[.int .i64 p, .int .i64 m, .int .i64 ep, .slice A' ul c'] 95 (0, 0)) := by
        rw [hW4]
        have := heap_setCell_same w3 wr.heap.size 3 _ 95 (.slice A' ul c') r3
        simpa using this
      have t0 : W4.cell? ⟨wr.heap.size, 0, none⟩ = some (.int .i64 p) := by rw [cell_of_row _ _ _ _ _ _ r4]; rfl
      have t1 : W4.cell? ⟨wr.heap.size, 1, none⟩ = some (.int .i64 m) := by rw [cell_of_row _ _ _ _ _ _ r4]; rfl
      have t2 : W4.cell? ⟨wr.heap.size, 2, none⟩ = some (.int .i64 ep) := by rw [cell_of_row _ _ _ _ _ _ r4]; rfl
      have t3 : W4.cell? ⟨wr.heap.size, 3, none⟩ = some (.slice A' ul c') := by rw [cell_of_row _ _ _ _ _ _ r4]; rfl
      have hb3 : Below wr.heap.size wr w3 := hbr1.trans (q2.mono (Nat.le_succ _))
      have hb4 : Below wr.heap.size wr W4 := by rw [hW4]; exact hb3.setCell (p := ⟨wr.heap.size, 3, none⟩) (Nat.le_refl _) _
      have hs4 : W0.heap.size ≤ W4.heap.size := Nat.le_trans hbr.size hb4.size
      have hql := World.ownsRow.lt q1
      have hrl := World.ownsRow.lt hRw.row
      have ho4 : OwnI W4 W0.heap.size (.slice A' ul c') us := by
        rw [hW4]
        exact own_lower (Nat.le_trans hbr.size (Nat.le_succ _)) (q1.setOther (a := ⟨wr.heap.size, 3, none⟩) (fun e => by have := (hql _ e).1; simp only at this; omega) _)
      have HR4 := Lib.hid (hRw.below hb4)
      have HO4 := Lib.hid ho4
      have HLB : Hid ((∀ q, (Value.slice A' ul c').ownBlock = some q → (Value.slice A3 i c3).ownBlock ≠ some q) ∧ (Value.slice A' ul c').oneCell' = true ∧ (Lit.int .i64 m).wf = true) :=
        Lib.hid ⟨fun q hq e => absurd (Nat.lt_of_le_of_lt (hql q hq).1 (hrl q e).2) (Nat.not_lt.2 (Nat.le_succ _)), rfl, hwf⟩
      have H5 := Lib.hid (And.intro hbr (And.intro hb4 hlt))
      subst hW4
      clear q1 q2 q3 r3 r4 hb3 hb4 ho4 hql hrl k1 hbr1 hs1' hwf hlt hul hul2 hRw hbr HOW HX HBX e3 hW1 hs1
      go_wp2_with ((at_builtin; go_loud (refine pushNd (x := ⟨p, m, ep, us⟩) rfl _ _ rfl rfl rfl HR4 HO4 HLB hs4 (by simp) ?c2 ?_)))
      case c2 => have := H5.out.2.2; omega
      intro v2 w5 g1 g2 g3 g4
      obtain ⟨A5, c5, rfl, -, -⟩ := g1.slice
      have hN : RwT w5 W0.heap.size (.slice A5 (i + 1) c5) (i + 1) F (fun z => if z = i then .slice A' ul c' else uv z) ∧ Below W0.heap.size W0 w5 := by
        refine ⟨g1.congr fun y hy => ?_, (H5.out.1.trans (H5.out.2.1.mono H5.out.1.size)).trans g2⟩
        by_cases e : y = i
        · rw [if_pos e, HXE.out, e]
        · rw [if_neg e]
      have HN := Lib.hid hN
      clear g1 g2 g3 g4 hN t0 t1 t2 t3 z0 zf zl
      go_wp2_with fail
      go_roundg (gk - 1)
      case rel => exact ⟨i + 1, _, A5, c5, by have := H5.out.2.2; omega, by have := HG.out.1; omega, rfl, by go_num, HN⟩
      case measure => have := HG.out.1; omega
    · obtain rfl : i = n := by omega
      have q9 : ∀ u, (wr.setCell ⟨w.heap.size + 1, 0, none⟩ u).cell? ⟨w.heap.size + 1, 0, none⟩ = some u := fun u => by
        apply World.cell?_setCell_same
        exact d0
      clear hlt hRw hbr hb0 hsz h0 h1 g0 g1 hi hg
      go_wp2_with fail
      refine bodyPost_ret (by simp [results, Tryz.results159, go_sem, q9]; rfl) rfl ?_
      obtain ⟨hRw, hbr⟩ := HT.out
      obtain ⟨hb0, hsz, h0, h1⟩ := HB.out
      have hrl := World.ownsRow.lt hRw.row
      refine ⟨⟨_, uv, rfl, (hRw.grown (grown_setCell wr ⟨w.heap.size + 1, 0, none⟩ _) (fun e => ?_) (fun y hy e => ?_)).lower (by omega)⟩, (hb0.trans (hbr.mono hb0.size)).setCell (p := ⟨w.heap.size + 1, 0, none⟩) (Nat.le_succ _) _⟩
      · have := (hrl _ e).1
        simp only at this
        omega
      · have := (World.ownsRow.lt (hRw.un y hy) _ e).1
        simp only at this
        omega
end Go.Proofs.YtnahhclflnjmcaaGreatDoor
