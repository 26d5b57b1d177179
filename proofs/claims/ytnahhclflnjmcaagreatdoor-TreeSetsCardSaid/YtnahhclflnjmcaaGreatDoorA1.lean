import Derived.Laws.Bits64b
import Derived.IntWalk
import Derived.Lib.TrailingZeros
import Derived.Test.YtnahhclflnjmcaaGreatDoorRows
import Derived.WalkKit
import Derived.WalkSpells
import Derived.WalkLawsBesides
import Derived.Deep.QuietTactic
import Derived.BigQuiet
import Derived.Lib.Zigzag
import Derived.Lib.Hide
import Derived.Deep.LoopGhost
import Derived.Laws.Rows
/- Plain arithmetic of nodes: a number x is 2^c (2 j + 1) - 1, c its level; what stands above it at the level k is anc x k. No program. -/
namespace Go.Proofs.YtnahhclflnjmcaaGreatDoor
open Go.IntWalk

/-- A number as a node: its level, and which one of the level it is. -/
def Nd (x c j : Nat) : Prop := x + 1 = 2 ^ c * (2 * j + 1)
/-- What stands above x (or is x) at the level k. -/
def anc (x k : Nat) : Nat := x / 2 ^ (k + 1) * 2 ^ (k + 1) + (2 ^ k - 1)

theorem two_pos (k : Nat) : 0 < 2 ^ k := Nat.pow_pos (by decide)
theorem two_succ (k : Nat) : 2 ^ (k + 1) = 2 * 2 ^ k := by rw [Nat.pow_succ]; omega
theorem Nd.make : ∀ x, ∃ c j, Nd x c j := by
  intro x
  induction x using Nat.strongRecOn with
  | _ x ih =>
    by_cases h : x % 2 = 1
    · obtain ⟨c, j, hc⟩ := ih (x / 2) (by omega)
      refine ⟨c + 1, j, ?_⟩
      unfold Nd at *
      rw [two_succ, Nat.mul_assoc, ← hc]
      omega
    · exact ⟨0, x / 2, by unfold Nd; simp; omega⟩
theorem Nd.eq {x c j : Nat} (h : Nd x c j) : x = j * 2 ^ (c + 1) + (2 ^ c - 1) := by
  unfold Nd at h
  have := two_pos c
  have e : 2 ^ c * (2 * j + 1) = j * (2 * 2 ^ c) + 2 ^ c := by rw [Nat.mul_add, Nat.mul_one, Nat.mul_comm (2 ^ c), Nat.mul_comm 2 j, Nat.mul_assoc]
  rw [two_succ]
  omega
theorem Nd.of_eq {x c j : Nat} (h : x = j * 2 ^ (c + 1) + (2 ^ c - 1)) : Nd x c j := by
  unfold Nd
  have := two_pos c
  have e : 2 ^ c * (2 * j + 1) = j * (2 * 2 ^ c) + 2 ^ c := by rw [Nat.mul_add, Nat.mul_one, Nat.mul_comm (2 ^ c), Nat.mul_comm 2 j, Nat.mul_assoc]
  rw [two_succ] at h
  omega
theorem Nd.div {x c j : Nat} (h : Nd x c j) : x / 2 ^ (c + 1) = j := by
  rw [h.eq, Nat.add_comm, Nat.add_mul_div_right _ _ (two_pos _), Nat.div_eq_of_lt, Nat.zero_add]
  rw [two_succ]; have := two_pos c; omega
theorem Nd.ge {x c j : Nat} (h : Nd x c j) : 2 ^ c - 1 ≤ x := by rw [h.eq]; omega
theorem Nd.level_lt {x c j n : Nat} (h : Nd x c j) (hx : x + 1 < 2 ^ n) : c < n := by
  apply Nat.lt_of_not_le
  intro hn
  have h1 : 2 ^ n ≤ 2 ^ c := Nat.pow_le_pow_right (by decide) hn
  have := h.ge
  omega
theorem Nd.unique {x c j c' j' : Nat} (h : Nd x c j) (h' : Nd x c' j') : c = c' := by
  have key : ∀ {x c j c' j' : Nat}, Nd x c j → Nd x c' j' → c < c' → False := by
    intro x c j c' j' h h' hl
    obtain ⟨d, rfl⟩ : ∃ d, c' = c + (d + 1) := ⟨c' - c - 1, by omega⟩
    unfold Nd at h h'
    rw [h, Nat.pow_add, Nat.mul_assoc] at h'
    have := Nat.eq_of_mul_eq_mul_left (two_pos c) h'
    rw [two_succ, Nat.mul_assoc] at this
    omega
  rcases Nat.lt_trichotomy c c' with hl | hl | hl
  · exact (key h h' hl).elim
  · exact hl
  · exact (key h' h hl).elim
theorem Nd.anc_self {x c j : Nat} (h : Nd x c j) : anc x c = x := by unfold anc; rw [h.div]; exact h.eq.symm
theorem anc_nd (x k : Nat) : Nd (anc x k) k (x / 2 ^ (k + 1)) := Nd.of_eq rfl
theorem div_div_pow (x a b : Nat) (h : a ≤ b) : x / 2 ^ b = x / 2 ^ a / 2 ^ (b - a) := by
  rw [Nat.div_div_eq_div_mul, ← Nat.pow_add]
  congr 2
  omega
theorem anc_anc (x k m : Nat) (h : k ≤ m) : anc (anc x k) m = anc x m := by
  have : anc x k / 2 ^ (m + 1) = x / 2 ^ (m + 1) := by
    rw [div_div_pow _ (k + 1) (m + 1) (by omega), div_div_pow x (k + 1) (m + 1) (by omega), (anc_nd x k).div]
  unfold anc at *
  rw [this]
theorem anc_root (x d : Nat) (h : x < 2 ^ (d + 1)) : anc x d = 2 ^ d - 1 := by
  unfold anc
  rw [Nat.div_eq_of_lt h]
  omega
/-- One step up: with q = x / 2^(k+2). -/
theorem anc_bounds (x k : Nat) : x / 2 ^ (k + 1) * 2 ^ (k + 1) ≤ x ∧ x < x / 2 ^ (k + 1) * 2 ^ (k + 1) + 2 ^ (k + 1) := by
  have h1 := Nat.div_add_mod x (2 ^ (k + 1))
  have h2 := Nat.mod_lt x (two_pos (k + 1))
  rw [Nat.mul_comm] at h1
  omega
theorem lev_of (x c j : Nat) (h : Nd x c j) (hx : x ≤ 9223372036854775807) : Lib.ctz 64 (18446744073709551615 - x) = c := by
  unfold Lib.ctz
  rw [if_neg (by omega)]
  obtain ⟨m, hm, hlt⟩ := Lib.ctzFrom_spec 64 (18446744073709551615 - x) (by omega) (by omega)
  generalize Lib.ctzFrom 64 (18446744073709551615 - x) = b at hm hlt
  obtain ⟨d, hd⟩ : ∃ d, 64 = b + (d + 1) := ⟨64 - b - 1, by omega⟩
  have h64 : (18446744073709551616 : Nat) = 2 ^ b * 2 ^ (d + 1) := by rw [← Nat.pow_add, ← hd]
  refine Nd.unique (j := 2 ^ d - m - 1) (j' := j) ?_ h
  unfold Nd
  have e1 : x + 1 = 2 ^ b * 2 ^ (d + 1) - 2 ^ b * (2 * m + 1) := by omega
  rw [e1, ← Nat.mul_sub]
  congr 1
  have hlt2 : 2 * m + 1 < 2 ^ (d + 1) := by
    apply Nat.lt_of_not_le
    intro hle
    have := Nat.mul_le_mul_left (2 ^ b) hle
    omega
  rw [two_succ] at hlt2 ⊢
  omega

/-! bits -/
theorem testBit_add (a b i j : Nat) (h : b < 2 ^ i) : (a * 2 ^ i + b).testBit j = if j < i then b.testBit j else a.testBit (j - i) := by
  rw [Nat.mul_comm]; exact Nat.testBit_two_pow_mul_add a h j
theorem i64_small (n : Nat) (h : n < 9223372036854775808) : IntKind.i64.wrap (n : Int) = n := by
  rw [IntKind.wrap_i64]; omega
theorem bv_of (a : Nat) (ha : a < 9223372036854775808) : (BitVec.ofInt 64 (a : Int)).toNat = a := by
  rw [BitVec.ofInt_natCast, BitVec.toNat_ofNat]; exact Nat.mod_eq_of_lt (by omega)
theorem bits_and_i64 (a b : Nat) (ha : a < 9223372036854775808) (hb : b < 9223372036854775808) : bits .and .i64 (a : Int) (b : Int) = ((a &&& b : Nat) : Int) := by
  have hx : a &&& b < 2 ^ 63 := Nat.and_lt_two_pow _ (by omega)
  show IntKind.i64.wrap ((BitVec.ofInt 64 (a : Int) &&& BitVec.ofInt 64 (b : Int)).toNat : Int) = _
  rw [BitVec.toNat_and, bv_of a ha, bv_of b hb, i64_small _ (by omega)]
theorem bits_or_i64 (a b : Nat) (ha : a < 9223372036854775808) (hb : b < 9223372036854775808) : bits .or .i64 (a : Int) (b : Int) = ((a ||| b : Nat) : Int) := by
  have hx : a ||| b < 2 ^ 63 := Nat.or_lt_two_pow (by omega) (by omega)
  show IntKind.i64.wrap ((BitVec.ofInt 64 (a : Int) ||| BitVec.ofInt 64 (b : Int)).toNat : Int) = _
  rw [BitVec.toNat_or, bv_of a ha, bv_of b hb, i64_small _ (by omega)]
theorem bits_andNot_i64 (a b : Nat) (ha : a < 9223372036854775808) (hb : b < 9223372036854775808) : bits .andNot .i64 (a : Int) (b : Int) = ((a &&& (18446744073709551615 - b) : Nat) : Int) := by
  have hx : a &&& (18446744073709551615 - b) < 2 ^ 63 := by rw [Nat.and_comm]; exact Nat.and_lt_two_pow _ (by omega)
  show IntKind.i64.wrap ((BitVec.ofInt 64 (a : Int) &&& ~~~ BitVec.ofInt 64 (b : Int)).toNat : Int) = _
  rw [BitVec.toNat_and, BitVec.toNat_not, bv_of a ha, bv_of b hb, show 2 ^ 64 - 1 - b = 18446744073709551615 - b from rfl, i64_small _ (by omega)]
/-- The bit m cleared: a = h 2^(m+1) + t 2^m + l. -/
theorem clear_bit (h t l m : Nat) (hm : m < 64) (ht : t < 2) (hl : l < 2 ^ m) : (h * 2 ^ (m + 1) + (t * 2 ^ m + l)) &&& (18446744073709551615 - 2 ^ m) = if h * 2 ^ (m + 1) + (t * 2 ^ m + l) < 18446744073709551616 then h * 2 ^ (m + 1) + l else (h * 2 ^ (m + 1) + (t * 2 ^ m + l)) &&& (18446744073709551615 - 2 ^ m) := by
  split
  case isFalse => rfl
  case isTrue hlt =>
  have htl : t * 2 ^ m + l < 2 ^ (m + 1) := by
    rw [two_succ]
    have : t * 2 ^ m ≤ 1 * 2 ^ m := Nat.mul_le_mul_right _ (by omega)
    omega
  have hll : l < 2 ^ (m + 1) := by rw [two_succ]; omega
  have hm2 : 2 ^ m < 2 ^ 64 := Nat.pow_lt_pow_right (by decide) hm
  apply Nat.eq_of_testBit_eq
  intro i
  rw [Nat.testBit_and, show 18446744073709551615 - 2 ^ m = 2 ^ 64 - (2 ^ m + 1) by omega, Nat.testBit_two_pow_sub_succ hm2, Nat.testBit_two_pow, testBit_add _ _ _ _ htl, testBit_add _ _ _ _ hll, testBit_add _ _ _ _ hl]
  by_cases h64 : i < 64
  · by_cases him : i < m + 1
    · simp only [him, if_true, h64, decide_true, Bool.true_and]
      by_cases hi2 : i < m
      · have : ¬ m = i := by omega
        simp [hi2, this]
      · obtain rfl : m = i := by omega
        have : l.testBit m = false := Nat.testBit_lt_two_pow hl
        simp [this]
    · have : ¬ m = i := by omega
      simp [him, h64, this]
  · have hb : h.testBit (i - (m + 1)) = false := by
      apply Nat.testBit_lt_two_pow
      have h3 : h * 2 ^ (m + 1) < 2 ^ 64 := by omega
      have e4 : 2 ^ 64 ≤ 2 ^ (i - (m + 1)) * 2 ^ (m + 1) := by
        rw [← Nat.pow_add]
        exact Nat.pow_le_pow_right (by decide) (by omega)
      apply Nat.lt_of_not_le
      intro hle
      have := Nat.mul_le_mul_right (2 ^ (m + 1)) hle
      omega
    have him : ¬ i < m + 1 := by omega
    simp [h64, him, hb]
theorem set_bit (h l m : Nat) (hl : l < 2 ^ m) : (h * 2 ^ (m + 1) + l) ||| 2 ^ m = h * 2 ^ (m + 1) + (2 ^ m + l) := by
  have hll : l < 2 ^ (m + 1) := by rw [two_succ]; omega
  have htl : 2 ^ m + l < 2 ^ (m + 1) := by rw [two_succ]; omega
  apply Nat.eq_of_testBit_eq
  intro i
  rw [Nat.testBit_or, Nat.testBit_two_pow, testBit_add _ _ _ _ htl, testBit_add _ _ _ _ hll]
  by_cases him : i < m + 1
  · simp only [him, if_true]
    have e := testBit_add 1 l m i hl
    rw [Nat.one_mul] at e
    rw [e]
    by_cases hi2 : i < m
    · have : ¬ m = i := by omega
      simp [hi2, this]
    · obtain rfl : m = i := by omega
      simp
  · have : ¬ m = i := by omega
    simp [him, this]

/-- index.Left's number. -/
theorem left_num (x c j : Nat) (h : Nd x c j) (hx : x < 9223372036854775808) (h1 : 1 ≤ c) (h2 : c ≤ 63) :
    bits .andNot .i64 (x : Int) ((2 ^ (c - 1) : Nat) : Int) = ((x - 2 ^ (c - 1) : Nat) : Int) := by
  obtain ⟨m, rfl⟩ : ∃ m, c = m + 1 := ⟨c - 1, by omega⟩
  rw [Nat.add_sub_cancel]
  have hm : 2 ^ m < 2 ^ 63 := Nat.pow_lt_pow_right (by decide) (by omega)
  have h0 := two_pos m
  have e : x = (2 * j) * 2 ^ (m + 1) + (1 * 2 ^ m + (2 ^ m - 1)) := by
    have := h.eq
    rw [two_succ (m + 1), two_succ] at this
    rw [two_succ, this, Nat.mul_assoc 2, Nat.mul_left_comm 2 j]
    omega
  rw [bits_andNot_i64 _ _ hx (by omega)]
  have := clear_bit (2 * j) 1 (2 ^ m - 1) m (by omega) (by decide) (by omega)
  rw [← e, if_pos (by omega)] at this
  rw [this]
  congr 1
  omega
/-- index.Parent's number. -/
theorem parent_num (x c j : Nat) (h : Nd x c j) (hx : x < 4611686018427387904) (h2 : c ≤ 60) :
    bits .andNot .i64 (bits .or .i64 (x : Int) ((2 ^ c : Nat) : Int)) ((2 ^ (c + 1) : Nat) : Int) = (anc x (c + 1) : Nat) := by
  have h0 := two_pos c
  have hc : 2 ^ c ≤ 2 ^ 60 := Nat.pow_le_pow_right (by decide) h2
  have hc1 := two_succ c
  have hc2 := two_succ (c + 1)
  have e := h.eq
  have hs := set_bit j (2 ^ c - 1) c (by omega)
  rw [← e] at hs
  rw [bits_or_i64 _ _ (by omega) (by omega), hs]
  have hd : j = 2 * (j / 2) + j % 2 := by omega
  have e2 : j * 2 ^ (c + 1) + (2 ^ c + (2 ^ c - 1)) = (j / 2) * 2 ^ (c + 1 + 1) + ((j % 2) * 2 ^ (c + 1) + (2 ^ (c + 1) - 1)) := by
    have : j * 2 ^ (c + 1) = (2 * (j / 2) + j % 2) * 2 ^ (c + 1) := by rw [← hd]
    rw [this, Nat.add_mul, hc2, Nat.mul_assoc 2, Nat.mul_left_comm 2 (j / 2)]
    omega
  have hb := clear_bit (j / 2) (j % 2) (2 ^ (c + 1) - 1) (c + 1) (by omega) (by omega) (by omega)
  rw [← e2, if_pos (by omega)] at hb
  rw [bits_andNot_i64 _ _ (by omega) (by omega), hb]
  unfold anc
  rw [div_div_pow x (c + 1) (c + 1 + 1) (by omega), h.div, show c + 1 + 1 - (c + 1) = 1 by omega, Nat.pow_one]
/-- index.tree's number. -/
theorem tree_num (l : Nat) (h0 : 0 < l) (h : l ≤ 1073741824) : (bits .and .i64 (l : Int) ((l - 1 : Nat) : Int) == 0) = decide (∃ d, d ≤ 30 ∧ l = 2 ^ d) := by
  rw [bits_and_i64 _ _ (by omega) (by omega)]
  have hp := Nat.and_sub_one_eq_zero_iff_isPowerOfTwo (n := l) (by omega)
  rw [Bool.eq_iff_iff, beq_iff_eq, decide_eq_true_eq]
  constructor
  · intro h1
    obtain ⟨d, hd⟩ := hp.1 (by omega)
    refine ⟨d, ?_, hd⟩
    apply Nat.le_of_not_lt
    intro hl
    have : 2 ^ 31 ≤ 2 ^ d := Nat.pow_le_pow_right (by decide) hl
    omega
  · rintro ⟨d, _, hd⟩
    have := hp.2 ⟨d, hd⟩
    omega

theorem right_le (x c j : Nat) (h : Nd x c j) (hx : x < 9223372036854775808) (h1 : 1 ≤ c) (h2 : c ≤ 62) : x + 2 ^ (c - 1) ≤ 9223372036854775807 := by
  have e := h.eq
  have hs := two_succ (c - 1)
  have hs2 := two_succ c
  have hp := two_pos (c - 1)
  rw [show c - 1 + 1 = c by omega] at hs
  have hj : (j + 1) * 2 ^ (c + 1) ≤ 2 ^ 63 := by
    obtain ⟨d, hd⟩ : ∃ d, 63 = (c + 1) + d := ⟨63 - (c + 1), by omega⟩
    have e63 : 2 ^ 63 = 2 ^ d * 2 ^ (c + 1) := by rw [← Nat.pow_add, hd, Nat.add_comm]
    rw [e63]
    apply Nat.mul_le_mul_right
    apply Nat.succ_le_of_lt
    apply Nat.lt_of_not_le
    intro hle
    have := Nat.mul_le_mul_right (2 ^ (c + 1)) hle
    omega
  rw [Nat.add_mul, Nat.one_mul] at hj
  omega
theorem anc_lt {x d k : Nat} (hx : x + 1 < 2 ^ (d + 1)) (hk : k ≤ d) : anc x k + 1 < 2 ^ (d + 1) := by
  unfold anc
  have h1 := anc_bounds x k
  have h2 := two_succ k
  have h3 := two_pos k
  have hq : (x / 2 ^ (k + 1) + 1) * 2 ^ (k + 1) ≤ 2 ^ (d + 1) := by
    obtain ⟨e, he⟩ : ∃ e, d + 1 = e + (k + 1) := ⟨d - k, by omega⟩
    rw [he, Nat.pow_add 2 e]
    apply Nat.mul_le_mul_right
    apply Nat.succ_le_of_lt
    apply Nat.div_lt_of_lt_mul
    rw [Nat.mul_comm, ← Nat.pow_add, ← he]
    omega
  rw [Nat.add_mul, Nat.one_mul] at hq
  omega
theorem span_lt (x c j : Nat) (h : Nd x c j) (hx : x < 9223372036854775808) (hc : c ≤ 62) : j * 2 ^ c + 2 ^ c ≤ 9223372036854775807 := by
  have e := h.eq
  have hs := two_succ c
  have hp := two_pos c
  have : j * 2 ^ (c + 1) = 2 * (j * 2 ^ c) := by rw [hs, Nat.mul_left_comm]
  by_cases hj : j = 0
  · subst hj
    have : 2 ^ c ≤ 2 ^ 62 := Nat.pow_le_pow_right (by decide) hc
    omega
  · have : 1 * 2 ^ c ≤ j * 2 ^ c := Nat.mul_le_mul_right _ (by omega)
    omega
theorem anc_eq_iff {x y k j : Nat} (hM : Nd y k j) : ((x : Int) / 2 ^ (k + 1) == (y : Int) / 2 ^ (k + 1)) = decide (anc x k = y) := by
  rw [show ((x : Int) / 2 ^ (k + 1)) = ((x / 2 ^ (k + 1) : Nat) : Int) by push_cast; rfl, show ((y : Int) / 2 ^ (k + 1)) = ((y / 2 ^ (k + 1) : Nat) : Int) by push_cast; rfl, Bool.eq_iff_iff, beq_iff_eq, decide_eq_true_eq]
  constructor
  · intro h
    have h' : x / 2 ^ (k + 1) = y / 2 ^ (k + 1) := by omega
    refine Eq.trans ?_ hM.anc_self
    unfold anc
    rw [h']
  · intro h
    rw [← h, (anc_nd x k).div]
/-- x lies at or below y, told by distance. -/
theorem within_iff {x c i y k j : Nat} (hN : Nd x c i) (hM : Nd y k j) : (y ≤ x + (2 ^ k - 1) ∧ x ≤ y + (2 ^ k - 1)) ↔ (c ≤ k ∧ anc x k = y) := by
  have e := hM.eq
  have hs := two_succ k
  have hp := two_pos k
  have hb := anc_bounds x k
  constructor
  · rintro ⟨h1, h2⟩
    have hq : x / 2 ^ (k + 1) = j := by
      apply Nat.div_eq_of_lt_le
      · omega
      · rw [Nat.add_mul, Nat.one_mul]; omega
    refine ⟨?_, ?_⟩
    · apply Nat.le_of_not_lt
      intro hc
      obtain ⟨d, rfl⟩ : ∃ d, c = (k + 1) + d := ⟨c - (k + 1), by omega⟩
      unfold Nd at hN
      rw [Nat.pow_add, Nat.mul_assoc] at hN
      generalize 2 ^ d * (2 * i + 1) = m at hN
      have h3 : j * 2 ^ (k + 1) < m * 2 ^ (k + 1) := by rw [Nat.mul_comm m]; omega
      have h4 := Nat.lt_of_mul_lt_mul_right h3
      have h5 := Nat.mul_le_mul_right (2 ^ (k + 1)) h4
      rw [Nat.succ_mul, Nat.mul_comm m] at h5
      omega
    · unfold anc
      rw [hq]
      omega
  · rintro ⟨hc, h⟩
    have hq : x / 2 ^ (k + 1) = j := by rw [← hM.div, ← h, (anc_nd x k).div]
    rw [hq] at hb
    refine ⟨by omega, ?_⟩
    apply Nat.le_of_not_lt
    intro hx
    have hx2 : x + 1 = (j + 1) * 2 ^ (k + 1) := by rw [Nat.add_mul, Nat.one_mul]; omega
    unfold Nd at hN
    obtain ⟨d, hd⟩ : ∃ d, k + 1 = c + (d + 1) := ⟨k - c, by omega⟩
    rw [hN, hd, Nat.pow_add, Nat.mul_left_comm] at hx2
    have := Nat.eq_of_mul_eq_mul_left (two_pos c) hx2
    rw [two_succ, Nat.mul_left_comm] at this
    omega
/-- One level down from p = anc x (m + 1). -/
theorem anc_down (x c i m : Nat) (hN : Nd x c i) (hc : c ≤ m) :
    2 ^ m ≤ anc x (m + 1) ∧ (x < anc x (m + 1) → anc x m = anc x (m + 1) - 2 ^ m) ∧ (¬ x < anc x (m + 1) → anc x m = anc x (m + 1) + 2 ^ m) := by
  have hs := two_succ m
  have hs2 := two_succ (m + 1)
  have hp := two_pos m
  have e1 : x / 2 ^ (m + 1 + 1) = x / 2 ^ (m + 1) / 2 := by rw [div_div_pow x (m + 1) (m + 1 + 1) (by omega), show m + 1 + 1 - (m + 1) = 1 by omega, Nat.pow_one]
  have hw := (within_iff hN (anc_nd x m)).2 ⟨hc, rfl⟩
  unfold anc at *
  rw [e1]
  generalize x / 2 ^ (m + 1) = q at *
  have hq : q / 2 * 2 ^ (m + 1 + 1) = 2 * (q / 2) * 2 ^ (m + 1) := by rw [hs2]; rw [Nat.mul_left_comm, Nat.mul_assoc]
  rw [hq]
  have hd : q = 2 * (q / 2) ∨ q = 2 * (q / 2) + 1 := by omega
  rcases hd with hd | hd
  · have e2 : q * 2 ^ (m + 1) = 2 * (q / 2) * 2 ^ (m + 1) := by rw [← hd]
    omega
  · have e2 : q * 2 ^ (m + 1) = 2 * (q / 2) * 2 ^ (m + 1) + 2 ^ (m + 1) := by
      rw [← Nat.succ_mul, Nat.succ_eq_add_one, ← hd]
    omega
/-! trees -/
/-- Is there a tree of so many leaves? -/
def isT (l : Int) : Bool := decide (∃ d : Nat, d ≤ 30 ∧ l = ((2 ^ d : Nat) : Int))
theorem isT_pow (d : Nat) (h : d ≤ 30) : isT ((2 ^ d : Nat) : Int) = true := decide_eq_true ⟨d, h, rfl⟩
theorem isT_iff {l : Int} : isT l = true ↔ ∃ d : Nat, d ≤ 30 ∧ l = ((2 ^ d : Nat) : Int) := by unfold isT; exact decide_eq_true_iff
theorem pow_le {d : Nat} (h : d ≤ 30) : 2 ^ d ≤ 1073741824 := by
  have : 2 ^ d ≤ 2 ^ 30 := Nat.pow_le_pow_right (by decide) h
  omega
theorem isT_low {l : Int} (h : l ≤ 0) : isT l = false := by
  cases e : isT l with
  | false => rfl
  | true =>
    obtain ⟨d, _, rfl⟩ := isT_iff.1 e
    have := two_pos d
    omega
theorem isT_high {l : Int} (h : 1073741824 < l) : isT l = false := by
  cases e : isT l with
  | false => rfl
  | true =>
    obtain ⟨d, hd, rfl⟩ := isT_iff.1 e
    have := pow_le hd
    omega
theorem isT_mid (l : Int) (h0 : 0 < l) (h : l ≤ 1073741824) : (bits .and .i64 l (l - 1) == 0) = isT l := by
  obtain ⟨n, rfl⟩ := Int.eq_ofNat_of_zero_le (show 0 ≤ l by omega)
  have := tree_num n (by omega) (by omega)
  rw [show ((n : Int) - 1) = ((n - 1 : Nat) : Int) by omega, this]
  unfold isT
  congr 1
  rw [eq_iff_iff]
  constructor
  · rintro ⟨d, hd, e⟩; exact ⟨d, hd, by omega⟩
  · rintro ⟨d, hd, e⟩; exact ⟨d, hd, by omega⟩
/-- Is a node in it? -/
def inT (x l : Int) : Bool := isT l && (decide (0 ≤ x) && decide (x < 2 * l - 1))
theorem inT_iff {x l : Int} : inT x l = true ↔ ∃ n d : Nat, d ≤ 30 ∧ l = ((2 ^ d : Nat) : Int) ∧ x = n ∧ n + 1 < 2 ^ (d + 1) := by
  unfold inT
  simp only [Bool.and_eq_true, decide_eq_true_eq]
  constructor
  · rintro ⟨h, h0, h1⟩
    obtain ⟨d, hd, rfl⟩ := isT_iff.1 h
    obtain ⟨n, rfl⟩ := Int.eq_ofNat_of_zero_le h0
    exact ⟨n, d, hd, rfl, rfl, by rw [two_succ]; omega⟩
  · rintro ⟨n, d, hd, rfl, rfl, h⟩
    rw [two_succ] at h
    exact ⟨isT_pow d hd, by omega, by omega⟩
theorem inT_nd {n d : Nat} (hd : d ≤ 30) (h : n + 1 < 2 ^ (d + 1)) : inT n ((2 ^ d : Nat) : Int) = true := inT_iff.2 ⟨n, d, hd, rfl, rfl, h⟩
end Go.Proofs.YtnahhclflnjmcaaGreatDoor

/- Chapter 08's trees, plainly: n nodes, F gives each; what may be, who is in it, what is made of it. No program. -/
namespace Go.Proofs.YtnahhclflnjmcaaGreatDoor
set_option linter.unusedVariables false
set_option linter.unusedSimpArgs false

/-- A node of a tree. -/
structure Node where
  pub : Int
  mem : Int
  ep : Int
  un : List Int
def zeroN : Node := ⟨0, 0, 0, []⟩
def Node.blank (a : Node) : Bool := a.pub == 0 && a.mem == 0 && a.ep == 0 && a.un.isEmpty
theorem blank_zero : zeroN.blank = true := rfl
theorem Node.blank_iff {a : Node} : a.blank = true ↔ a = zeroN := by
  obtain ⟨p, m, e, u⟩ := a
  simp [Node.blank, zeroN, and_assoc]
/-- The level of a place below 31. -/
def lvN (x : Nat) : Nat := if x % 2 = 0 then 0 else if x % 4 = 1 then 1 else if x % 8 = 3 then 2 else if x % 16 = 7 then 3 else 4
theorem nd_lvN : ∀ x : Fin 31, Nd x.val (lvN x.val) (x.val / 2 ^ (lvN x.val + 1)) := by
  unfold Nd
  decide
theorem nd_lv {x : Nat} (h : x < 31) : Nd x (lvN x) (x / 2 ^ (lvN x + 1)) := nd_lvN ⟨x, h⟩
/-- The first and the last leaf below. -/
def lo (x : Nat) : Nat := x / 2 ^ (lvN x + 1) * 2 ^ lvN x
def hi (x : Nat) : Nat := lo x + (2 ^ lvN x - 1)
/-- Is a leaf at or below a node? -/
def wi (i y : Nat) : Bool := anc (2 * i) (lvN y) == y
def upB (F : Nat → Node) : Int → Int → List Int → Bool
  | _, _, [] => true
  | first, last, u :: us => if u < first ∨ last < u then false else if (F (2 * u).toNat).pub = 0 then false else upB F (u + 1) last us
def parB (F : Nat → Node) (x : Nat) : Bool := if (F x).pub < 1 ∨ (F x).mem ≠ 0 ∨ (F x).ep ≠ 0 then (F x).blank else upB F (lo x) (hi x) (F x).un
/-- The members of the leaves ahead of a place. -/
def prior (F : Nat → Node) : Nat → List Int
  | 0 => []
  | x + 1 => if x % 2 = 0 ∧ (F x).blank = false then (F x).mem :: prior F x else prior F x
def leafB (a : Node) : Bool := decide (1 ≤ a.pub) && (decide (0 ≤ a.mem) && (decide (0 ≤ a.ep) && a.un.isEmpty))
def goodB (F : Nat → Node) (x : Nat) : Bool := if x % 2 = 1 then parB F x else (F x).blank || (leafB (F x) && !(prior F x).contains (F x).mem)
def goodsB (F : Nat → Node) : Nat → Bool
  | 0 => true
  | x + 1 => goodsB F x && goodB F x
def lastM (F : Nat → Node) : Nat → Int
  | 0 => -1
  | x + 1 => if x % 2 = 0 ∧ (F x).blank = false then ((x / 2 : Nat) : Int) else lastM F x
/-- How many leaves so many nodes have; 0: there is no such tree. -/
def lvs (n : Nat) : Nat := if n = 1 then 1 else if n = 3 then 2 else if n = 7 then 4 else if n = 15 then 8 else 0
/-- May a tree be? -/
def chk (n : Nat) (F : Nat → Node) : Bool := n == 0 || (lvs n != 0 && (goodsB F n && decide (((lvs n / 2 : Nat) : Int) ≤ lastM F n)))
/-- What it means that a tree may be. -/
structure Ok (d n : Nat) (F : Nat → Node) : Prop where
  hd : d ≤ 3
  hn : n = 2 ^ (d + 1) - 1
  par : ∀ x, x < n → x % 2 = 1 → (F x).blank = true ∨ (1 ≤ (F x).pub ∧ (F x).mem = 0 ∧ (F x).ep = 0 ∧ (∀ u ∈ (F x).un, (lo x : Int) ≤ u ∧ u ≤ hi x ∧ (F (2 * u).toNat).pub ≠ 0) ∧ (F x).un.Pairwise (· < ·))
  leaf : ∀ i, i < 2 ^ d → (F (2 * i)).blank = true ∨ (1 ≤ (F (2 * i)).pub ∧ 0 ≤ (F (2 * i)).mem ∧ 0 ≤ (F (2 * i)).ep ∧ (F (2 * i)).un = [])
  dist : ∀ i j, i < j → j < 2 ^ d → (F (2 * i)).blank = false → (F (2 * j)).blank = false → (F (2 * i)).mem ≠ (F (2 * j)).mem
  last : ∃ i, 2 ^ d / 2 ≤ i ∧ i < 2 ^ d ∧ (F (2 * i)).blank = false
theorem upB_iff (F : Nat → Node) (last : Int) : ∀ (us : List Int) (first : Int), upB F first last us = true ↔ (∀ u ∈ us, first ≤ u ∧ u ≤ last ∧ (F (2 * u).toNat).pub ≠ 0) ∧ us.Pairwise (· < ·)
  | [], first => by simp [upB]
  | u :: us, first => by
    have ih := upB_iff F last us (u + 1)
    unfold upB
    by_cases h1 : u < first ∨ last < u
    · rw [if_pos h1]
      simp only [Bool.false_eq_true, false_iff]
      rintro ⟨h, _⟩
      have := h u (by simp)
      omega
    · rw [if_neg h1]
      by_cases h2 : (F (2 * u).toNat).pub = 0
      · rw [if_pos h2]
        simp only [Bool.false_eq_true, false_iff]
        rintro ⟨h, _⟩
        exact (h u (by simp)).2.2 h2
      · rw [if_neg h2, ih, List.pairwise_cons]
        constructor
        · rintro ⟨h3, h4⟩
          refine ⟨fun v hv => ?_, fun v hv => by have := (h3 v hv).1; omega, h4⟩
          rcases List.mem_cons.1 hv with rfl | hv
          · exact ⟨by omega, by omega, h2⟩
          · have := h3 v hv
            exact ⟨by omega, this.2⟩
        · rintro ⟨h3, h4, h5⟩
          exact ⟨fun v hv => ⟨by have := h4 v hv; omega, (h3 v (by simp [hv])).2⟩, h5⟩
theorem parB_iff (F : Nat → Node) (x : Nat) : parB F x = true ↔ ((F x).blank = true ∨ (1 ≤ (F x).pub ∧ (F x).mem = 0 ∧ (F x).ep = 0 ∧ (∀ u ∈ (F x).un, (lo x : Int) ≤ u ∧ u ≤ hi x ∧ (F (2 * u).toNat).pub ≠ 0) ∧ (F x).un.Pairwise (· < ·))) := by
  unfold parB
  by_cases h : (F x).pub < 1 ∨ (F x).mem ≠ 0 ∨ (F x).ep ≠ 0
  · rw [if_pos h]
    constructor
    · exact .inl
    · rintro (h1 | ⟨h1, h2, h3, _⟩)
      · exact h1
      · omega
  · rw [if_neg h, upB_iff]
    constructor
    · rintro ⟨h1, h2⟩
      exact .inr ⟨by omega, by omega, by omega, h1, h2⟩
    · rintro (h1 | ⟨_, _, _, h1⟩)
      · have := Node.blank_iff.1 h1
        rw [this] at h
        exact absurd (.inl (by decide)) h
      · exact h1
theorem goodsB_iff (F : Nat → Node) : ∀ n, goodsB F n = true ↔ ∀ x, x < n → goodB F x = true
  | 0 => by simp [goodsB]
  | n + 1 => by
    rw [goodsB, Bool.and_eq_true, goodsB_iff F n]
    constructor
    · rintro ⟨h1, h2⟩ x hx
      by_cases e : x = n
      · rw [e]; exact h2
      · exact h1 x (by omega)
    · intro h
      exact ⟨fun x hx => h x (by omega), h n (by omega)⟩
theorem mem_prior (F : Nat → Node) (m : Int) : ∀ n, m ∈ prior F n ↔ ∃ x, x < n ∧ x % 2 = 0 ∧ (F x).blank = false ∧ (F x).mem = m
  | 0 => by simp [prior]
  | n + 1 => by
    have ih := mem_prior F m n
    unfold prior
    by_cases h : n % 2 = 0 ∧ (F n).blank = false
    · rw [if_pos h, List.mem_cons, ih]
      constructor
      · rintro (h1 | ⟨x, h1, h2⟩)
        · exact ⟨n, by omega, h.1, h.2, h1.symm⟩
        · exact ⟨x, by omega, h2⟩
      · rintro ⟨x, h1, h2, h3, h4⟩
        by_cases e : x = n
        · subst e; exact .inl h4.symm
        · exact .inr ⟨x, by omega, h2, h3, h4⟩
    · rw [if_neg h, ih]
      constructor
      · rintro ⟨x, h1, h2⟩
        exact ⟨x, by omega, h2⟩
      · rintro ⟨x, h1, h2, h3, h4⟩
        by_cases e : x = n
        · subst e; exact absurd ⟨h2, h3⟩ h
        · exact ⟨x, by omega, h2, h3, h4⟩
theorem lastM_ge (F : Nat → Node) (k : Int) (hk : 0 ≤ k) : ∀ n, k ≤ lastM F n ↔ ∃ x, x < n ∧ x % 2 = 0 ∧ (F x).blank = false ∧ k ≤ ((x / 2 : Nat) : Int)
  | 0 => by simp [lastM]; omega
  | n + 1 => by
    have ih := lastM_ge F k hk n
    unfold lastM
    by_cases h : n % 2 = 0 ∧ (F n).blank = false
    · rw [if_pos h]
      constructor
      · intro h1
        exact ⟨n, by omega, h.1, h.2, h1⟩
      · rintro ⟨x, h1, h2, h3, h4⟩
        omega
    · rw [if_neg h, ih]
      constructor
      · rintro ⟨x, h1, h2⟩
        exact ⟨x, by omega, h2⟩
      · rintro ⟨x, h1, h2, h3, h4⟩
        by_cases e : x = n
        · subst e; exact absurd ⟨h2, h3⟩ h
        · exact ⟨x, by omega, h2, h3, h4⟩
theorem lvs_iff {n : Nat} : lvs n ≠ 0 ↔ ∃ d, d ≤ 3 ∧ n = 2 ^ (d + 1) - 1 := by
  unfold lvs
  constructor
  · intro h
    by_cases h1 : n = 1
    · exact ⟨0, by decide, h1⟩
    by_cases h2 : n = 3
    · exact ⟨1, by decide, h2⟩
    by_cases h3 : n = 7
    · exact ⟨2, by decide, h3⟩
    by_cases h4 : n = 15
    · exact ⟨3, by decide, h4⟩
    simp [h1, h2, h3, h4] at h
  · rintro ⟨d, hd, rfl⟩
    have : ∀ d : Fin 4, lvs (2 ^ (d.val + 1) - 1) ≠ 0 := by decide
    exact this ⟨d, by omega⟩
theorem lvs_pow {d : Nat} (hd : d ≤ 3) : lvs (2 ^ (d + 1) - 1) = 2 ^ d := by
  have : ∀ d : Fin 4, lvs (2 ^ (d.val + 1) - 1) = 2 ^ d.val := by decide
  exact this ⟨d, by omega⟩
theorem Ok.lvs {d n : Nat} {F : Nat → Node} (h : Ok d n F) : lvs n = 2 ^ d := by rw [h.hn]; exact lvs_pow h.hd
theorem leafB_iff {a : Node} : leafB a = true ↔ 1 ≤ a.pub ∧ 0 ≤ a.mem ∧ 0 ≤ a.ep ∧ a.un = [] := by
  unfold leafB
  simp [List.isEmpty_iff]
theorem goodB_leaf (F : Nat → Node) (i : Nat) : goodB F (2 * i) = true ↔ ((F (2 * i)).blank = true ∨ ((1 ≤ (F (2 * i)).pub ∧ 0 ≤ (F (2 * i)).mem ∧ 0 ≤ (F (2 * i)).ep ∧ (F (2 * i)).un = []) ∧ ¬ (F (2 * i)).mem ∈ prior F (2 * i))) := by
  unfold goodB
  rw [if_neg (by omega), Bool.or_eq_true, Bool.and_eq_true, leafB_iff]
  simp
theorem chk_iff {n : Nat} {F : Nat → Node} : chk n F = true ↔ n = 0 ∨ ∃ d, Ok d n F := by
  unfold chk
  rw [Bool.or_eq_true, beq_iff_eq, Bool.and_eq_true, bne_iff_ne, Bool.and_eq_true, decide_eq_true_eq, goodsB_iff, lastM_ge F _ (by omega)]
  constructor
  · rintro (h | ⟨h1, h2, x, h3, h4, h5, h6⟩)
    · exact .inl h
    · obtain ⟨d, hd, hn⟩ := lvs_iff.1 h1
      have hl : lvs n = 2 ^ d := by rw [hn]; exact lvs_pow hd
      have hp := two_succ d
      have hp0 := two_pos d
      rw [hl] at h6
      refine .inr ⟨d, hd, hn, fun x hx ho => ?_, fun i hi => ?_, fun i j hij hj bi bj e => ?_, x / 2, by omega, by omega, by rw [show 2 * (x / 2) = x by omega]; exact h5⟩
      · have := h2 x hx
        unfold goodB at this
        rw [if_pos ho] at this
        exact (parB_iff F x).1 this
      · rcases (goodB_leaf F i).1 (h2 (2 * i) (by omega)) with h | h
        · exact .inl h
        · exact .inr h.1
      · rcases (goodB_leaf F j).1 (h2 (2 * j) (by omega)) with h | h
        · rw [h] at bj; cases bj
        · exact h.2 ((mem_prior F _ _).2 ⟨2 * i, by omega, by omega, bi, e⟩)
  · rintro (h | ⟨d, h⟩)
    · exact .inl h
    · have hp := two_succ d
      have hp0 := two_pos d
      have hn := h.hn
      obtain ⟨i, h1, h2, h3⟩ := h.last
      refine .inr ⟨by rw [h.lvs]; omega, fun x hx => ?_, 2 * i, by omega, by omega, h3, by rw [h.lvs]; omega⟩
      by_cases ho : x % 2 = 1
      · unfold goodB
        rw [if_pos ho]
        exact (parB_iff F x).2 (h.par x hx ho)
      · obtain ⟨j, rfl⟩ : ∃ j, x = 2 * j := ⟨x / 2, by omega⟩
        refine (goodB_leaf F j).2 ?_
        rcases h.leaf j (by omega) with h4 | h4
        · exact .inl h4
        · by_cases hb : (F (2 * j)).blank = true
          · exact .inl hb
          · refine .inr ⟨h4, fun hm => ?_⟩
            obtain ⟨y, y1, y2, y3, y4⟩ := (mem_prior F _ _).1 hm
            obtain ⟨k, rfl⟩ : ∃ k, y = 2 * k := ⟨y / 2, by omega⟩
            exact h.dist k j (by omega) (by omega) y3 (by simpa using hb) y4

/-! who is in it -/
def memL (F : Nat → Node) : Nat → List Int
  | 0 => []
  | i + 1 => if 0 < (F (2 * i)).pub then memL F i ++ [(F (2 * i)).mem] else memL F i
def findM (F : Nat → Node) (m : Int) : Nat → Int
  | 0 => -1
  | i + 1 => if 0 ≤ findM F m i then findM F m i else if 0 < (F (2 * i)).pub ∧ (F (2 * i)).mem = m then i else -1
/-- How many leaves, if the tree may be. -/
def sizeM (n : Nat) (F : Nat → Node) : Nat := if chk n F then lvs n else 0
/-- The first blank leaf, or i. -/
def fb (F : Nat → Node) : Nat → Nat
  | 0 => 0
  | i + 1 => if fb F i < i then fb F i else if 0 < (F (2 * i)).pub then i + 1 else i
/-! what is made of it -/
def pad (n : Nat) (F : Nat → Node) (y : Nat) : Node := if y < n then F y else zeroN
/-- The nodes above a leaf, in a tree of 2^d leaves. -/
def dirs (d i : Nat) : List Nat := (List.range d).map fun k => anc (2 * i) (k + 1)
def ins (i : Int) : List Int → List Int
  | [] => [i]
  | u :: us => if u < i then u :: ins i us else i :: u :: us
structure Addx where
  mem : Int
  ep : Int
  pub : Int
/-- The nodes behind an Add at a leaf. -/
def addF (n : Nat) (F : Nat → Node) (d i : Nat) (a : Addx) (y : Nat) : Node :=
  if y = 2 * i then ⟨a.pub, a.mem, a.ep, []⟩ else if y ∈ dirs d i ∧ 0 < (pad n F y).pub then { pad n F y with un := ins i (pad n F y).un } else pad n F y
/-- How many levels so many leaves have. -/
def lg (n : Nat) : Nat := if n = 8 then 3 else if n = 4 then 2 else if n = 2 then 1 else 0
def addN (n : Nat) (F : Nat → Node) : Nat := if fb F (lvs n) = lvs n then max 1 (2 * lvs n) else lvs n
def addE (n : Nat) (F : Nat → Node) (a : Addx) : Int :=
  if chk n F = false ∨ a.mem < 0 ∨ a.ep < 0 ∨ a.pub < 1 then 1 else if 0 ≤ findM F a.mem (sizeM n F) then 13 else if fb F (lvs n) = lvs n ∧ lvs n = 8 then 3 else 0
def blankF (F : Nat → Node) (d i : Nat) (y : Nat) : Node := if y = 2 * i ∨ y ∈ dirs d i then zeroN else F y
/-- Is a leaf of the right half taken? -/
def takenB (F : Nat → Node) (d : Nat) : Bool := (List.range (2 ^ d)).any fun i => !(F (2 * (2 ^ d + i))).blank
/-- The levels that are left. -/
def cut (F : Nat → Node) : Nat → Nat
  | 0 => 0
  | d + 1 => if takenB F d then d + 1 else cut F d
def remE (n : Nat) (F : Nat → Node) (m : Int) : Int :=
  if chk n F = false then 1 else if findM F m (sizeM n F) < 0 then 7 else if (memL F (sizeM n F)).length = 1 then 9 else 0
/-- The Resolution of a node of the level k. -/
def resM (F : Nat → Node) : Nat → Nat → List Int
  | 0, x => if 0 < (F x).pub then (x : Int) :: (F x).un.map (2 * ·) else []
  | k + 1, x => if 0 < (F x).pub then (x : Int) :: (F x).un.map (2 * ·) else resM F k (x - 2 ^ k) ++ resM F k (x + 2 ^ k)
/-- The other child of the parent of what stands above x at the level k. -/
def sib (x k : Nat) : Nat := 2 * anc x (k + 1) - anc x k
def rowsM (F : Nat → Node) (d i : Nat) : List (Nat × List Int) := ((List.range d).map fun k => (anc (2 * i) (k + 1), resM F k (sib (2 * i) k))).filter fun r => !r.2.isEmpty
def freshB (fresh : List Int) (x : Int) : Bool := x.tmod 2 == 0 && fresh.contains (x.tdiv 2)
/-- New keys along a path. -/
def setF (F : Nat → Node) (d i : Nat) (ep pub : Int) (ps : List (Nat × Int)) (y : Nat) : Node :=
  if y = 2 * i then { F y with ep := ep, pub := pub } else match ps.find? (fun p => p.1 == y) with
    | some p => ⟨p.2, 0, 0, []⟩
    | none => if y ∈ dirs d i then zeroN else F y
end Go.Proofs.YtnahhclflnjmcaaGreatDoor

/- Walks of the functions of package index that answer numbers: each returns what its plain form says, in every world that holds the table of math/bits; the world stays as it was but for draws. -/
namespace Go.Proofs.YtnahhclflnjmcaaGreatDoor
open Go.RowKit

/-- The table of math/bits in its variable. -/
def Tab (w : World) : Prop := ∀ j, j < 64 → w.cell? ⟨0, j, none⟩ = some (.int .u8 (Lib.deBruijn64tab.getD j 0))

theorem Tab.drew {w : World} (h : Tab w) : Tab w.drew := h
theorem Tab.drewN {w : World} (h : Tab w) (n : Nat) : Tab (w.drewN n) := h
set_option maxHeartbeats 1000000 in
theorem tz_core (x k idx : Nat) (w : World) (hx0 : ((x : Int) == 0) = false)
    (key : IntKind.u64.wrap (bits BinOp.and IntKind.u64 (x : Int) (IntKind.u64.wrap (-(x : Int))) * 285870213051353865) / 288230376151711744 = (idx : Int))
    (hi : idx < 64) (hk : k < 64) (hcell : w.cell? ⟨0, idx, none⟩ = some (.int .u8 k)) :
    Calls Tryz.prog 276 #[.int .u64 x] w fun e w' => e = .returned (.int .i64 k) ∧ w = w' := by
  go_enter Tryz.func276, Tryz.ntmps276
  go_wp2_with (simp only [key])
  go_ret
  exact ⟨rfl, rfl⟩
theorem tz_zero (w : World) : Calls Tryz.prog 276 #[.int .u64 0] w fun e w' => e = .returned (.int .i64 64) ∧ w = w' := by
  go_enter Tryz.func276, Tryz.ntmps276
  go_wp2
  go_ret
  exact ⟨rfl, rfl⟩
theorem tz_key (x a : Nat) (hx : x < 18446744073709551616) (hx0 : x ≠ 0) (hlow : x &&& (18446744073709551616 - x) = a) :
    IntKind.u64.wrap (bits BinOp.and IntKind.u64 (x : Int) (IntKind.u64.wrap (-(x : Int))) * 285870213051353865) / 288230376151711744 = ((a * 285870213051353865 % 18446744073709551616 / 288230376151711744 : Nat) : Int) := by
  have e1 : IntKind.u64.wrap (-(x : Int)) = ((18446744073709551616 - x : Nat) : Int) := by rw [IntKind.wrap_u64]; omega
  rw [e1, bits_and_u64_nat x _ hx (by omega), hlow, IntKind.wrap_u64]
  omega
theorem tz (x : Nat) (hx : x < 18446744073709551616) (w : World) (hT : Tab w) :
    Calls Tryz.prog 276 #[.int .u64 x] w fun e w' => e = .returned (.int .i64 (Lib.ctz 64 x)) ∧ w = w' := by
  by_cases hx0 : x = 0
  · subst hx0
    exact tz_zero w
  · obtain ⟨hlow, hk⟩ := Lib.lowest_bit 64 x hx0 hx
    obtain ⟨hi, htab⟩ := Lib.deBruijn64_at _ hk
    have hcell := hT _ hi
    rw [htab] at hcell
    exact tz_core x _ _ w (by simp; omega) (tz_key x _ hx hx0 hlow) hi hk hcell

/-- index.Level -/
def lev (x : Int) : Int := if x < 0 then -1 else (Lib.ctz 64 (18446744073709551615 - x.toNat) : Nat)
theorem level_neg (x : Int) (w : World) (h : decide (x < 0) = true) : Calls Tryz.prog 267 #[.int .i64 x] w fun e w' => e = .returned (.int .i64 (-1)) ∧ w = w' := by
  go_enter Tryz.func267, Tryz.ntmps267
  go_wp2
  go_ret
  exact ⟨rfl, rfl⟩
theorem max_xor (x : Nat) (h : x ≤ 9223372036854775807) : bits .xor .u64 IntKind.u64.max (x : Int) = ((18446744073709551615 - x : Nat) : Int) := by
  have e : IntKind.u64.max = ((18446744073709551615 : Nat) : Int) := by decide
  rw [e, bits_xor_u64_nat _ _ (by decide) (by omega), Lib.xor_ones64 _ (by omega)]
theorem level_pos (x : Nat) (w : World) (hT : Tab w) (hx : x ≤ 9223372036854775807) : Calls Tryz.prog 267 #[.int .i64 x] w fun e w' => e = .returned (.int .i64 (Lib.ctz 64 (18446744073709551615 - x) : Nat)) ∧ w = w' := by
  have h0 : decide ((x : Int) < 0) = false := by simp
  go_enter Tryz.func267, Tryz.ntmps267
  go_wp2_with fail
  rw [max_xor x hx]
  refine (tz _ (by omega) w hT).mono ?_
  rintro e w' ⟨rfl, rfl⟩
  go_wp2
  go_ret
  exact ⟨rfl, rfl⟩
theorem level (x : Int) (w : World) (hT : Tab w) (h : x ≤ 9223372036854775807) : Calls Tryz.prog 267 #[.int .i64 x] w fun e w' => e = .returned (.int .i64 (lev x)) ∧ w = w' := by
  by_cases h0 : x < 0
  · rw [lev, if_pos h0]
    exact level_neg x w (decide_eq_true h0)
  · rw [lev, if_neg h0]
    obtain ⟨n, rfl⟩ := Int.eq_ofNat_of_zero_le (show 0 ≤ x by omega)
    exact level_pos n w hT (by omega)
theorem level_at (x c j : Nat) (h : Nd x c j) (hx : x ≤ 9223372036854775807) (w : World) (hT : Tab w) :
    Calls Tryz.prog 267 #[.int .i64 x] w fun e w' => e = .returned (.int .i64 c) ∧ w = w' := by
  have := level_pos x w hT hx
  rw [lev_of x c j h hx] at this
  exact this
theorem left_no (x : Int) (w : World) (hT : Tab w) (hx : x ≤ 9223372036854775807) (h1 : lev x < 1) :
    Calls Tryz.prog 258 #[.int .i64 x] w fun e w' => e = .returned (.tuple #[.int .i64 0, .bool false]) ∧ w = w' := by
  have hL := level x w hT hx
  generalize lev x = k at hL h1
  go_enter Tryz.func258, Tryz.ntmps258
  go_wp2_with (go_at_call 267; refine hL.mono ?_; rintro e w' ⟨rfl, rfl⟩)
  go_ret2
  exact ⟨rfl, rfl⟩
theorem wrap_pow {m : Nat} (h : m ≤ 62) : wrap64 (2 ^ m) = ((2 ^ m : Nat) : Int) := by
  have hm : 2 ^ m ≤ 2 ^ 62 := Nat.pow_le_pow_right (by decide) h
  rw [show ((2 : Int) ^ m) = ((2 ^ m : Nat) : Int) by push_cast; rfl]
  generalize 2 ^ m = p at hm ⊢
  unfold wrap64
  omega
theorem left_yes (x c j : Nat) (hN : Nd x c j) (hx : x ≤ 9223372036854775807) (h1 : 1 ≤ c) (h2 : c ≤ 63) (w : World) (hT : Tab w) :
    Calls Tryz.prog 258 #[.int .i64 x] w fun e w' => e = .returned (.tuple #[.int .i64 (x - 2 ^ (c - 1) : Nat), .bool true]) ∧ w = w' := by
  have hL := level_at x c j hN hx w hT
  have hfin : bits .andNot .i64 (x : Int) (wrap64 (2 ^ (c - 1))) = ((x - 2 ^ (c - 1) : Nat) : Int) := by
    have hm : 2 ^ (c - 1) ≤ 2 ^ 62 := Nat.pow_le_pow_right (by decide) (by omega)
    have := left_num x c j hN (by omega) h1 h2
    rw [← this, wrap_pow (by omega)]
  have HF := Lib.hid hfin
  clear hfin hN
  go_enter Tryz.func258, Tryz.ntmps258
  go_wp2_with (go_at_call 267; refine hL.mono ?_; rintro e w' ⟨rfl, rfl⟩)
  go_ret2
  rw [← HF.out]
  exact ⟨rfl, rfl⟩

theorem right_no (x : Int) (w : World) (hT : Tab w) (hx : x ≤ 9223372036854775807) (h1 : lev x < 1) :
    Calls Tryz.prog 259 #[.int .i64 x] w fun e w' => e = .returned (.tuple #[.int .i64 0, .bool false]) ∧ w = w' := by
  have hL := level x w hT hx
  have hl := left_no x w hT hx h1
  generalize lev x = k at hL
  clear h1
  go_enter Tryz.func259, Tryz.ntmps259
  go_wp2_with (first | (go_at_call 267; refine hL.mono ?_; rintro e w' ⟨rfl, rfl⟩) | (go_at_call 258; refine hl.mono ?_; rintro e w' ⟨rfl, rfl⟩))
  go_ret2
  exact ⟨rfl, rfl⟩
theorem right_top (x j : Nat) (hN : Nd x 63 j) (hx : x ≤ 9223372036854775807) (w : World) (hT : Tab w) :
    Calls Tryz.prog 259 #[.int .i64 x] w fun e w' => e = .returned (.tuple #[.int .i64 0, .bool false]) ∧ w = w' := by
  have hL := level_at x 63 j hN hx w hT
  have hl := left_yes x 63 j hN hx (by decide) (by decide) w hT
  generalize x - 2 ^ (63 - 1) = y at hl
  clear hN
  go_enter Tryz.func259, Tryz.ntmps259
  go_wp2_with (first | (go_at_call 267; refine hL.mono ?_; rintro e w' ⟨rfl, rfl⟩) | (go_at_call 258; refine hl.mono ?_; rintro e w' ⟨rfl, rfl⟩))
  go_ret2
  exact ⟨rfl, rfl⟩
theorem right_yes (x c j : Nat) (hN : Nd x c j) (hx : x ≤ 9223372036854775807) (h1 : 1 ≤ c) (h2 : c ≤ 62) (w : World) (hT : Tab w) :
    Calls Tryz.prog 259 #[.int .i64 x] w fun e w' => e = .returned (.tuple #[.int .i64 (x + 2 ^ (c - 1) : Nat), .bool true]) ∧ w = w' := by
  have hL := level_at x c j hN hx w hT
  have hl := left_yes x c j hN hx h1 (by omega) w hT
  have ht := right_le x c j hN (by omega) h1 h2
  have hg := hN.ge
  have hs := two_succ (c - 1)
  rw [show c - 1 + 1 = c by omega] at hs
  have hw : wrap64 (2 ^ c) = ((2 ^ c : Nat) : Int) := wrap_pow (by omega)
  have e1 : wrap64 (((x - 2 ^ (c - 1) : Nat) : Int) + wrap64 (2 ^ c)) = ((x + 2 ^ (c - 1) : Nat) : Int) := by
    rw [hw]
    generalize 2 ^ c = p at *
    generalize 2 ^ (c - 1) = q at *
    unfold wrap64
    omega
  have a1 : ((c : Int) == 63) = false := by rw [beq_eq_false_iff_ne]; omega
  have a2 : decide (wrap64 (9223372036854775807 - wrap64 (2 ^ c)) < ((x - 2 ^ (c - 1) : Nat) : Int)) = false := by
    apply decide_eq_false
    rw [hw]
    generalize 2 ^ c = p at *
    generalize 2 ^ (c - 1) = q at *
    unfold wrap64
    omega
  have HE := Lib.hid e1
  clear hN hg hs ht e1 hw
  generalize hp : x + 2 ^ (c - 1) = z at HE ⊢
  generalize hq : x - 2 ^ (c - 1) = y at hl HE a2
  clear hp hq
  go_enter Tryz.func259, Tryz.ntmps259
  go_wp2_with (first | (go_at_call 267; refine hL.mono ?_; rintro e w' ⟨rfl, rfl⟩) | (go_at_call 258; refine hl.mono ?_; rintro e w' ⟨rfl, rfl⟩))
  go_ret2
  rw [← HE.out]
  exact ⟨rfl, rfl⟩
theorem tree (l : Int) (w : World) (hl : l ≤ 9223372036854775807) : Calls Tryz.prog 266 #[.int .i64 l] w fun e w' => e = .returned (.bool (isT l)) ∧ w = w' := by
  by_cases h0 : 0 < l
  · by_cases h1 : l ≤ 1073741824
    · have hm := Lib.hid (isT_mid l h0 h1)
      have a0 : decide (0 < l) = true := decide_eq_true h0
      have a1 : decide (l ≤ 1073741824) = true := decide_eq_true h1
      go_enter Tryz.func266, Tryz.ntmps266
      go_wp2
      go_ret
      rw [← hm.out]
      exact ⟨rfl, rfl⟩
    · rw [isT_high (by omega)]
      have a0 : decide (0 < l) = true := decide_eq_true h0
      have a1 : decide (l ≤ 1073741824) = false := decide_eq_false h1
      go_enter Tryz.func266, Tryz.ntmps266
      go_wp2
      go_ret
      exact ⟨rfl, rfl⟩
  · rw [isT_low (by omega)]
    have a0 : decide (0 < l) = false := decide_eq_false h0
    go_enter Tryz.func266, Tryz.ntmps266
    go_wp2
    go_ret
    exact ⟨rfl, rfl⟩
theorem in_ (x l : Int) (w : World) (hl : l ≤ 9223372036854775807) : Calls Tryz.prog 270 #[.int .i64 x, .int .i64 l] w fun e w' => e = .returned (.bool (inT x l)) ∧ w = w' := by
  have hc := tree l w hl
  unfold inT
  cases e : isT l with
  | false =>
    rw [e] at hc
    go_enter Tryz.func270, Tryz.ntmps270
    go_wp2_with (go_at_call 266; refine hc.mono ?_; rintro e w' ⟨rfl, rfl⟩)
    go_ret
    exact ⟨rfl, rfl⟩
  | true =>
    rw [e] at hc
    obtain ⟨d, hd, e2⟩ := isT_iff.1 e
    have hp := pow_le hd
    have hp2 := two_pos d
    have b0 : 0 < l := by omega
    have b1 : l ≤ 1073741824 := by omega
    clear e e2 hp hp2 hd
    by_cases h0 : 0 ≤ x
    · have a0 : decide (0 ≤ x) = true := decide_eq_true h0
      go_enter Tryz.func270, Tryz.ntmps270
      go_wp2_with (go_at_call 266; refine hc.mono ?_; rintro e w' ⟨rfl, rfl⟩)
      go_ret
      exact ⟨by simp [a0], rfl⟩
    · have a0 : decide (0 ≤ x) = false := decide_eq_false h0
      go_enter Tryz.func270, Tryz.ntmps270
      go_wp2_with (go_at_call 266; refine hc.mono ?_; rintro e w' ⟨rfl, rfl⟩)
      go_ret
      exact ⟨by simp [a0], rfl⟩
theorem parent_no (x l : Int) (w : World) (hl : l ≤ 9223372036854775807) (h : inT x l = false) :
    Calls Tryz.prog 271 #[.int .i64 x, .int .i64 l] w fun e w' => e = .returned (.tuple #[.int .i64 0, .bool false]) ∧ w = w' := by
  have hi := in_ x l w hl
  rw [h] at hi
  clear h
  go_enter Tryz.func271, Tryz.ntmps271
  go_wp2_with (go_at_call 270; refine hi.mono ?_; rintro e w' ⟨rfl, rfl⟩)
  go_ret2
  exact ⟨rfl, rfl⟩
theorem parent_root (l : Int) (w : World) (hl : l ≤ 1073741824) (hl0 : 0 < l) (h : inT (l - 1) l = true) :
    Calls Tryz.prog 271 #[.int .i64 (l - 1), .int .i64 l] w fun e w' => e = .returned (.tuple #[.int .i64 0, .bool false]) ∧ w = w' := by
  have hi := in_ (l - 1) l w (by omega)
  rw [h] at hi
  clear h
  go_enter Tryz.func271, Tryz.ntmps271
  go_wp2_with (go_at_call 270; refine hi.mono ?_; rintro e w' ⟨rfl, rfl⟩)
  go_ret2
  exact ⟨rfl, rfl⟩
theorem parent_yes (x c j d : Nat) (hd : d ≤ 30) (hN : Nd x c j) (hx : x + 1 < 2 ^ (d + 1)) (hc : c < d) (w : World) (hT : Tab w) :
    Calls Tryz.prog 271 #[.int .i64 x, .int .i64 (2 ^ d : Nat)] w fun e w' => e = .returned (.tuple #[.int .i64 (anc x (c + 1) : Nat), .bool true]) ∧ w = w' := by
  have hi := in_ x (2 ^ d : Nat) w (by have := pow_le hd; omega)
  rw [inT_nd hd hx] at hi
  have hp := pow_le hd
  have hs := two_succ d
  have hL := level_at x c j hN (by omega) w hT
  have hne : ((x : Int) == ((2 ^ d : Nat) : Int) - 1) = false := by
    rw [beq_eq_false_iff_ne]
    intro e
    have h1 : Nd x d 0 := by unfold Nd; omega
    have := h1.unique hN
    omega
  have hpn := parent_num x c j hN (by omega) (by omega)
  have hw1 : wrap64 (2 ^ c) = ((2 ^ c : Nat) : Int) := wrap_pow (by omega)
  have hc1 := two_succ c
  have hcp : 2 ^ c ≤ 2 ^ 30 := Nat.pow_le_pow_right (by decide) (by omega)
  have hw2 : wrap64 (wrap64 (2 ^ c) * 2) = ((2 ^ (c + 1) : Nat) : Int) := by
    rw [hw1, hc1]
    generalize 2 ^ c = p at *
    unfold wrap64
    omega
  have b1 : ((2 ^ d : Nat) : Int) ≤ 1073741824 := by omega
  have b2 : 0 < ((2 ^ d : Nat) : Int) := by omega
  have b3 : c ≤ 62 := by omega
  have HE := Lib.hid (show bits .andNot .i64 (bits .or .i64 (x : Int) (wrap64 (2 ^ c))) (wrap64 (wrap64 (2 ^ c) * 2)) = (anc x (c + 1) : Nat) by rw [hw2, hw1]; exact hpn)
  generalize anc x (c + 1) = z at HE ⊢
  clear hp hs hN hpn hw1 hw2 hc1 hcp hx hd
  generalize ((2 ^ d : Nat) : Int) = l at *
  go_enter Tryz.func271, Tryz.ntmps271
  go_wp2_with (first | (go_at_call 267; refine hL.mono ?_; rintro e w' ⟨rfl, rfl⟩) | (go_at_call 270; refine hi.mono ?_; rintro e w' ⟨rfl, rfl⟩))
  go_ret2
  rw [← HE.out]
  exact ⟨rfl, rfl⟩
theorem sibling_no (x l : Int) (w : World) (hp : Calls Tryz.prog 271 #[.int .i64 x, .int .i64 l] w fun e w' => e = .returned (.tuple #[.int .i64 0, .bool false]) ∧ w = w') :
    Calls Tryz.prog 275 #[.int .i64 x, .int .i64 l] w fun e w' => e = .returned (.tuple #[.int .i64 0, .bool false]) ∧ w = w' := by
  go_enter Tryz.func275, Tryz.ntmps275
  go_wp2_with (go_at_call 271; refine hp.mono ?_; rintro e w' ⟨rfl, rfl⟩)
  go_ret2
  exact ⟨rfl, rfl⟩
theorem sibling_yes (x c j d : Nat) (hd : d ≤ 30) (hN : Nd x c j) (hx : x + 1 < 2 ^ (d + 1)) (hc : c < d) (w : World) (hT : Tab w) :
    Calls Tryz.prog 275 #[.int .i64 x, .int .i64 (2 ^ d : Nat)] w fun e w' => e = .returned (.tuple #[.int .i64 (2 * (anc x (c + 1) : Nat) - x), .bool true]) ∧ w = w' := by
  have hp := parent_yes x c j d hd hN hx hc w hT
  have h1 := pow_le hd
  have hs := two_succ d
  have h2 : anc x (c + 1) < 4294967296 := by
    have := anc_lt hx (show c + 1 ≤ d by omega)
    omega
  have h3 : x < 4294967296 := by omega
  generalize anc x (c + 1) = z at *
  clear hN hx hc hd h1 hs
  generalize ((2 ^ d : Nat) : Int) = l at *
  go_enter Tryz.func275, Tryz.ntmps275
  go_wp2_with (go_at_call 271; refine hp.mono ?_; rintro e w' ⟨rfl, rfl⟩)
  go_ret2
  exact ⟨rfl, rfl⟩
theorem span_neg (x : Int) (w : World) (hx : x < 0) :
    Calls Tryz.prog 181 #[.int .i64 x] w fun e w' => e = .returned (.tuple #[.int .i64 (-1), .int .i64 (-1)]) ∧ w = w' := by
  have hL := level_neg x w (decide_eq_true hx)
  clear hx
  go_enter Tryz.func181, Tryz.ntmps181
  go_wp2_with (go_at_call 267; refine hL.mono ?_; rintro e w' ⟨rfl, rfl⟩)
  go_ret2
  exact ⟨rfl, rfl⟩
theorem span_top (x j : Nat) (hN : Nd x 63 j) (hx : x ≤ 9223372036854775807) (w : World) (hT : Tab w) :
    Calls Tryz.prog 181 #[.int .i64 x] w fun e w' => e = .returned (.tuple #[.int .i64 (-1), .int .i64 (-1)]) ∧ w = w' := by
  have hL := level_at x 63 j hN hx w hT
  clear hN
  go_enter Tryz.func181, Tryz.ntmps181
  go_wp2_with (go_at_call 267; refine hL.mono ?_; rintro e w' ⟨rfl, rfl⟩)
  go_ret2
  exact ⟨rfl, rfl⟩
theorem span_yes (x c j : Nat) (hN : Nd x c j) (hx : x ≤ 9223372036854775807) (hc : c ≤ 62) (w : World) (hT : Tab w) :
    Calls Tryz.prog 181 #[.int .i64 x] w fun e w' => e = .returned (.tuple #[.int .i64 (j * 2 ^ c : Nat), .int .i64 ((j * 2 ^ c : Nat) + (2 ^ c : Nat) - 1 : Int)]) ∧ ∃ n, w' = w.drewN n := by
  have hL := level_at x c j hN hx w hT
  have e1 : wrap64 ((x : Int) / 2 ^ (c + 1) * 2 ^ c) = ((j * 2 ^ c : Nat) : Int) := by
    rw [show ((x : Int) / 2 ^ (c + 1)) = ((x / 2 ^ (c + 1) : Nat) : Int) by push_cast; rfl, hN.div, show ((j : Int) * 2 ^ c) = ((j * 2 ^ c : Nat) : Int) by push_cast; rfl]
    have h1 := span_lt x c j hN (by omega) hc
    have h2 : j * 2 ^ c ≤ 9223372036854775807 := Nat.le_trans (Nat.le_add_right _ _) h1
    clear h1
    generalize j * 2 ^ c = p at *
    unfold wrap64
    omega
  have hw := wrap_pow (m := c) (by omega)
  have e2 : wrap64 (wrap64 (wrap64 ((x : Int) / 2 ^ (c + 1) * 2 ^ c) + wrap64 (2 ^ c)) - 1) = ((j * 2 ^ c : Nat) + (2 ^ c : Nat) - 1 : Int) := by
    rw [e1, hw]
    have := span_lt x c j hN (by omega) hc
    have := two_pos c
    generalize j * 2 ^ c = p at *
    generalize 2 ^ c = q at *
    unfold wrap64
    omega
  have a1 : ((c : Int) == 63) = false := by rw [beq_eq_false_iff_ne]; omega
  have a0 : decide ((c : Int) < 0) = false := by simp
  have E1 := Lib.hid e1
  have E2 := Lib.hid e2
  clear e1 e2 hw hN
  generalize j * 2 ^ c = p at *
  generalize hq : ((p : Nat) + (2 ^ c : Nat) - 1 : Int) = q at *
  clear hq
  go_enter Tryz.func181, Tryz.ntmps181
  go_wp2_with (go_at_call 267; refine hL.mono ?_; rintro e w' ⟨rfl, rfl⟩)
  go_region
  all_goals go_wp2
  all_goals go_ret2
  all_goals rw [← E2.out, ← E1.out]
  all_goals exact ⟨rfl, 1, rfl⟩
end Go.Proofs.YtnahhclflnjmcaaGreatDoor

/- Walks of the functions of package index that answer lists, and of Common. -/
namespace Go.Proofs.YtnahhclflnjmcaaGreatDoor
open Go.RowKit

theorem Tab.below {w w' : World} (h : Tab w) {B : Nat} (hB : 0 < B) (hb : Below B w w') : Tab w' := fun j hj => (hb.cell (p := ⟨0, j, none⟩) hB).trans (h j hj)
theorem Tab.pos {w : World} (h : Tab w) : 0 < w.heap.size := World.block_lt_of_cell? w _ (h 0 (by decide))
theorem info3 : (Tryz.prog.info? 3).map (fun i => (i.zero, i.size, i.bytes)) = some (some (.int .i64 0), 1, 8) := by kernel_rfl

/-- A list of ints of the call's own. -/
def OwnI (w : World) (base : Nat) (v : Value) (l : List Int) : Prop := w.ownsRow base 3 1 v l.length (l.map (Value.int .i64))
/-- A list of ints that can be read. -/
def Ints (w : World) (v : Value) (l : List Int) : Prop :=
  ∃ A c, v = .slice A l.length c ∧ l.length ≤ c ∧ c ≤ maxLen ∧ (0 < l.length → ∃ b off, A = some ⟨b, off, none⟩ ∧ ∀ i x, l[i]? = some x → w.cell? ⟨b, off + i, none⟩ = some (.int .i64 x))
theorem OwnI.ints {w : World} {base : Nat} {v : Value} {l : List Int} (h : OwnI w base v l) : Ints w v l := by
  rcases h.2 with ⟨rfl, h0⟩ | ⟨g, cap, cur, rfl, hb, hh, hn, hm, hs, ht⟩
  · obtain rfl := List.eq_nil_of_length_eq_zero h0
    exact ⟨none, 0, rfl, by simp, by decide, by simp⟩
  · refine ⟨_, cap, rfl, hn, hm, fun _ => ⟨g, 0, rfl, fun i x hi => ?_⟩⟩
    have := h.cells (g := g) rfl i (.int .i64 x) (by rw [List.getElem?_map, hi]; rfl)
    rw [Addr.add_lit] at this
    simpa using this
theorem Ints.below {w w' : World} {v : Value} {l : List Int} (h : Ints w v l) (hb : Below w.heap.size w w') : Ints w' v l := by
  obtain ⟨A, c, rfl, h1, h2, h3⟩ := h
  refine ⟨A, c, rfl, h1, h2, fun h0 => ?_⟩
  obtain ⟨b, off, rfl, hc⟩ := h3 h0
  refine ⟨b, off, rfl, fun i x hi => ?_⟩
  have := hc i x hi
  rw [hb.cell (World.block_lt_of_cell? w _ this)]
  exact this

/-- 'l = append(l, x)': the row has one more. -/
theorem push {ops : Array Oper} {rest : List Oper} {o : Oper} {a : Act} {Q : Exit → Act → World → Prop} {w0 w : World} {B : Nat} {v : Value} {l : List Int} {u : Int}
    (hgd : o.guard = none) (s x : Operand) (ho : o.op = .call { callee := .builtin .append, args := #[s, x], argTypes := #[31, 31] })
    (hs : a.eval s = v) (hx : a.eval x = .slice (some ⟨w.heap.size, 0, none⟩) 1 1) (hown : Hid (OwnI w B v l)) (hb : Below B w0 w) (hB : B ≤ w.heap.size) (hl : l.length < 4294967296)
    (h : ∀ v' w', OwnI w' B v' (l ++ [u]) → Below B w0 w' → B ≤ w'.heap.size → wpList Tryz.prog ops Q rest (a.put o.dst v') w') :
    wpList Tryz.prog ops Q (o :: rest) a (w.alloc (.cells #[.int .i64 u] 3)) := by
  obtain ⟨i0, hinf, hz0, hz1, hz2⟩ := info_parts info3
  have hown1 : w.ownsRow B 3 1 v l.length (l.map (Value.int .i64)) := hown.out
  have hal : Below B w0 (w.alloc (.cells #[.int .i64 u] 3)) := hb.alloc hB _
  refine wpList_append_own _ hgd s x 31 ho B 3 i0 (.int .i64 0) 1 8 Tryz.underlying31 hinf hz0 hz1 hz2 rfl (by decide) v l.length (l.map (Value.int .i64)) hs (hown1.alloc _) ⟨w.heap.size, 0, none⟩ 1 1 [.int .i64 u] hx rfl (cell_one_new _ _ _)
    (by simp [Value.oneCell']) (by unfold maxLen; omega) (by omega) (by simp; omega) (fun v' w' h1 h2 _ => h v' w' ?_ ?_ ?_)
  · show w'.ownsRow B 3 1 v' _ _
    rw [List.length_append, List.map_append]
    exact h1
  · exact hal.grown h2 (by simp; omega) (fun k hk => (hown1.lt k hk).1)
  · have := h2.size
    simp at this
    omega
/-- 'append(l, x...)', whatever x is: nil, empty, any list that can be read. -/
theorem run_append_ints {w0 w : World} {B : Nat} {v x : Value} {l m : List Int} (ty : TypeId) (hown : OwnI w B v l) (hx : Ints w x m) (hb : Below B w0 w) (hB : B ≤ w.heap.size) (hl : l.length + m.length < 4294967296) :
    ∃ v' w', (Builtin.append_ #[31, 31] ty #[v, x]).run Tryz.prog w = .ok v' w' ∧ OwnI w' B v' (l ++ m) ∧ Below B w0 w' ∧ B ≤ w'.heap.size := by
  obtain ⟨i0, hinf, hz0, hz1, hz2⟩ := info_parts info3
  obtain ⟨A, c, rfl, h1, h2, h3⟩ := hx
  by_cases h0 : m = []
  · subst h0
    have hr : (Builtin.append_ #[31, 31] ty #[v, .slice A ([] : List Int).length c]).run Tryz.prog w = .ok v w := by
      rcases hown.2 with ⟨rfl, hn⟩ | ⟨g, cap, cur, rfl, hg, hh, hc, _⟩
      · cases A <;> simp [Builtin.append_, run_underlying Tryz.underlying31, run_underlying Tryz.underlying3, sizeOf, typeInfo, hinf, Builtin.lenOf, Builtin.firstCells, loadCells, loadCellsFrom]
      · have hc' : l.length ≤ cap := hc
        cases A <;> simp [Builtin.append_, run_underlying Tryz.underlying31, run_underlying Tryz.underlying3, sizeOf, typeInfo, hinf, Builtin.lenOf, Builtin.firstCells, loadCells, loadCellsFrom, hc', storeCells]
    exact ⟨v, w, hr, by rw [List.append_nil]; exact hown, hb, hB⟩
  · have hlen : 0 < m.length := List.length_pos_iff.2 h0
    obtain ⟨b, off, rfl, hcell⟩ := h3 hlen
    obtain ⟨v', w', hr, ho, hg, _⟩ := run_append_own (P := Tryz.prog) w B 31 ty 3 i0 (.int .i64 0) 1 8 Tryz.underlying31 hinf hz0 hz1 hz2 rfl (by decide) v l.length (l.map (Value.int .i64)) hown ⟨b, off, none⟩ m.length c (m.map (Value.int .i64)) (by simp)
      (fun j u hu => by
        rw [List.getElem?_map, Option.map_eq_some_iff] at hu
        obtain ⟨z, hz, rfl⟩ := hu
        rw [Addr.add_lit]
        exact hcell j z hz) (by intro u hu; rw [List.mem_map] at hu; obtain ⟨z, _, rfl⟩ := hu; rfl) (by unfold maxLen; omega) (by omega) hB
    refine ⟨v', w', hr, ?_, hb.grown hg hB (fun k hk => (World.ownsRow.lt hown k hk).1), Nat.le_trans hB hg.size⟩
    show w'.ownsRow B 3 1 v' _ _
    rw [List.length_append, List.map_append]
    exact ho
theorem append_ints {ops : Array Oper} {rest : List Oper} {o : Oper} {a : Act} {Q : Exit → Act → World → Prop} {w0 w : World} {B : Nat} {v x : Value} {l m : List Int}
    (hgd : o.guard = none) (s y : Operand) (ho : o.op = .call { callee := .builtin .append, args := #[s, y], argTypes := #[31, 31] })
    (hs : a.eval s = v) (hy : a.eval y = x) (hown : Hid (OwnI w B v l)) (hx : Ints w x m) (hb : Below B w0 w) (hB : B ≤ w.heap.size) (hl : l.length + m.length < 4294967296)
    (h : ∀ v' w', OwnI w' B v' (l ++ m) → Below B w0 w' → B ≤ w'.heap.size → wpList Tryz.prog ops Q rest (a.put o.dst v') w') :
    wpList Tryz.prog ops Q (o :: rest) a w := by
  obtain ⟨v', w', hr, h1, h2, h3⟩ := run_append_ints o.type hown.out hx hb hB hl
  refine wpList_plain hgd fun K hK => ?_
  unfold Oper.wp execOp
  simp only [ho, resolve, invoke, builtin, Sem.run_bind, Sem.run_pure, Result.andThen_ok, List.map_toArray, List.map_cons, List.map_nil, hs, hy, hr]
  exact hK _ _ (h v' w' h1 h2 h3)
/-- x, and what stands above it: the levels c to c + n - 1. -/
def upL (x c n : Nat) : List Int := (List.range n).map fun i => ((anc x (c + i) : Nat) : Int)
theorem upL_length (x c n : Nat) : (upL x c n).length = n := by simp [upL]
theorem upL_succ (x c n : Nat) : upL x c (n + 1) = upL x c n ++ [((anc x (c + n) : Nat) : Int)] := by simp [upL, List.range_succ]

theorem own_lower {w : World} {B B' : Nat} {v : Value} {l : List Int} (h : B' ≤ B) (ho : OwnI w B v l) : OwnI w B' v l := by
  refine ⟨ho.1, ?_⟩
  rcases ho.2 with h1 | ⟨g, cap, cur, h1, h2, h3⟩
  · exact .inl h1
  · exact .inr ⟨g, cap, cur, h1, by omega, h3⟩
set_option maxHeartbeats 1000000 in
theorem up_no (x l : Int) (w : World) (hl : l ≤ 9223372036854775807) (h : inT x l = false) :
    Calls Tryz.prog 249 #[.int .i64 x, .int .i64 l] w fun e w' => ∃ v, e = .returned v ∧ OwnI w' w.heap.size v [] ∧ Below w.heap.size w w' := by
  have hi := in_ x l w hl
  rw [h] at hi
  clear h
  go_enter Tryz.func249, Tryz.ntmps249
  go_wp2_with (go_at_call 270; refine hi.mono ?_; rintro e w' ⟨rfl, rfl⟩)
  refine wp_loop_rounds 1 ?_
  rw [rounds_succ]
  go_wp2
  go_ret
  exact ⟨_, rfl, World.ownsRow_nil _ _ _ _, Below.refl _ _⟩

set_option maxHeartbeats 1000000 in
theorem up_yes (x c j d : Nat) (hd : d ≤ 30) (hN : Nd x c j) (hx : x + 1 < 2 ^ (d + 1)) (w : World) (hT : Tab w) :
    Calls Tryz.prog 249 #[.int .i64 x, .int .i64 (2 ^ d : Nat)] w fun e w' => ∃ v, e = .returned v ∧ OwnI w' w.heap.size v (upL x c (d - c + 1)) ∧ Below w.heap.size w w' := by
  have hi := in_ x (2 ^ d : Nat) w (by have := pow_le hd; omega)
  rw [inT_nd hd hx] at hi
  have hcd : c ≤ d := by have := hN.level_lt hx; omega
  obtain ⟨i0, hinf, hz0, hz1, hz2⟩ := info_parts info3
  have hpos := hT.pos
  have hP : ∀ n, n < d - c → ∀ w, Tab w → Calls Tryz.prog 271 #[.int .i64 (anc x (c + n) : Nat), .int .i64 (2 ^ d : Nat)] w fun e w' => e = .returned (.tuple #[.int .i64 (anc x (c + n + 1) : Nat), .bool true]) ∧ w = w' := fun n hn w hT => by
    have := parent_yes (anc x (c + n)) (c + n) _ d hd (anc_nd x (c + n)) (anc_lt hx (by omega)) (by omega) w hT
    rw [anc_anc _ _ _ (by omega)] at this
    exact this
  have hR : ∀ w, Calls Tryz.prog 271 #[.int .i64 (anc x d : Nat), .int .i64 (2 ^ d : Nat)] w fun e w' => e = .returned (.tuple #[.int .i64 0, .bool false]) ∧ w = w' := fun w => by
    have hp := pow_le hd
    have hp0 := two_pos d
    have e : ((anc x d : Nat) : Int) = ((2 ^ d : Nat) : Int) - 1 := by rw [anc_root x d (by omega)]; omega
    rw [e]
    refine parent_root _ w (by omega) (by omega) ?_
    rw [← e]
    exact inT_nd hd (anc_lt hx (Nat.le_refl d))
  generalize ((2 ^ d : Nat) : Int) = l at *
  go_enter Tryz.func249, Tryz.ntmps249
  go_wp2_with (go_at_call 270; refine hi.mono ?_; rintro e w' ⟨rfl, rfl⟩)
  go_loopg [0, 5, 6] (d - c + 1) (fun g v0 v5 v6 wr => ∃ n : Nat, n + g = d - c + 1 ∧ OwnI wr w.heap.size v5 (upL x c n) ∧ Below w.heap.size w wr ∧ ((n = d - c + 1 ∧ v6 = .bool false ∧ v0 = .int .i64 0) ∨ (n ≤ d - c ∧ v6 = .bool true ∧ v0 = .int .i64 (anc x (c + n) : Nat))))
  case atStart => exact ⟨0, by omega, World.ownsRow_nil _ _ _ _, Below.refl _ _, .inr ⟨by omega, rfl, by rw [Nat.add_zero, hN.anc_self]⟩⟩
  case round =>
    obtain ⟨n, hn, hown, hb, hcase⟩ := hrel
    rcases hcase with ⟨hn1, rfl, rfl⟩ | ⟨hn1, rfl, rfl⟩
    · go_wp2
      go_ret
      exact ⟨_, rfl, by rw [← hn1]; exact hown, hb⟩
    · have hown' := Lib.hid hown
      have HN := Lib.hid hn
      clear hown hn
      obtain ⟨p5, hp5⟩ : ∃ p, p = upL x c n := ⟨_, rfl⟩
      rw [← hp5] at hown'
      have HP5 := Lib.hid hp5
      clear hp5
      have HLEN := Lib.hid (show p5.length = n by rw [HP5.out]; exact upL_length _ _ _)
      have hB := hb.size
      go_wp2_with (at_builtin; refine push rfl _ _ rfl rfl rfl hown' hb hB ?c1 ?_)
      case c1 => have := HLEN.out; omega
      intro v' w' h1 h2 h3
      have h1' : OwnI w' w.heap.size v' (upL x c (n + 1)) := by rw [upL_succ, ← HP5.out]; exact h1
      have H1 := Lib.hid h1'
      clear h1 h1' hown'
      have hTw : Tab w' := hT.below hpos h2
      by_cases hlast : n < d - c
      · go_wp2_with (go_at_call 271; refine (hP n hlast _ hTw).mono ?_; rintro e w' ⟨rfl, rfl⟩)
        go_roundg (gk - 1)
        case rel => exact ⟨n + 1, by have := HN.out; omega, H1.out, h2, .inr ⟨by omega, rfl, by rw [Nat.add_assoc]⟩⟩
        case measure => have := HN.out; omega
      · obtain rfl : n = d - c := by omega
        rw [show c + (d - c) = d by omega]
        go_wp2_with (go_at_call 271; refine (hR _).mono ?_; rintro e w' ⟨rfl, rfl⟩)
        go_roundg (gk - 1)
        case rel => exact ⟨d - c + 1, by have := HN.out; omega, H1.out, h2, .inl ⟨rfl, rfl, rfl⟩⟩
        case measure => have := HN.out; omega

theorem Ints.nil (w : World) : Ints w (.slice none 0 0) [] := ⟨none, 0, rfl, by simp, by decide, by simp⟩
set_option maxHeartbeats 1000000 in
theorem direct_short (x l : Int) (L : List Int) (hL : L.length < 2) (w : World) (hu : Calls Tryz.prog 249 #[.int .i64 x, .int .i64 l] w fun e w' => ∃ v, e = .returned v ∧ OwnI w' w.heap.size v L ∧ Below w.heap.size w w') :
    Calls Tryz.prog 155 #[.int .i64 x, .int .i64 l] w fun e w' => ∃ v, e = .returned v ∧ Ints w' v [] ∧ Below w.heap.size w w' := by
  go_enter Tryz.func155, Tryz.ntmps155
  go_wp2_with (go_at_call 249; refine hu.mono ?_)
  rintro e w1 ⟨v, rfl, ho, hb⟩
  obtain ⟨A, c, rfl, hc, hm, hr⟩ := ho.ints
  have q : decide ((L.length : Int) < 2) = true := decide_eq_true (by omega)
  go_wp2
  go_ret
  exact ⟨_, rfl, Ints.nil _, hb⟩
set_option maxHeartbeats 1000000 in
theorem direct_long (x l : Int) (y : Int) (L : List Int) (hL : 0 < L.length) (w : World) (hu : Calls Tryz.prog 249 #[.int .i64 x, .int .i64 l] w fun e w' => ∃ v, e = .returned v ∧ OwnI w' w.heap.size v (y :: L) ∧ Below w.heap.size w w') :
    Calls Tryz.prog 155 #[.int .i64 x, .int .i64 l] w fun e w' => ∃ v, e = .returned v ∧ Ints w' v L ∧ Below w.heap.size w w' := by
  go_enter Tryz.func155, Tryz.ntmps155
  go_wp2_with (go_at_call 249; refine hu.mono ?_)
  rintro e w1 ⟨v, rfl, ho, hb⟩
  obtain ⟨A, c, rfl, hc, hm, hr⟩ := ho.ints
  obtain ⟨b, off, rfl, hcell⟩ := hr (by simp)
  have HC := Lib.hid hcell
  clear hr hcell hu ho
  obtain ⟨n, hn⟩ : ∃ n, n = (y :: L).length := ⟨_, rfl⟩
  rw [← hn] at hc ⊢
  have HN := Lib.hid hn
  have q0 : 2 ≤ n := by rw [hn]; simp; omega
  clear hn
  have q1 : n ≤ 9223372036854775807 := by unfold maxLen at hm; omega
  have q : decide ((n : Int) < 2) = false := decide_eq_false (by omega)
  go_wp2
  go_ret
  have hn1 : n - 1 = L.length := by have := HN.out; simp at this; omega
  refine ⟨_, rfl, ⟨_, L.length, by rw [hn1]; rfl, Nat.le_refl _, by unfold maxLen; omega, fun _ => ⟨b, off + 1, rfl, fun i z hz => ?_⟩⟩, hb⟩
  have := HC.out (i + 1) z (by simpa using hz)
  rw [show off + 1 + i = off + (i + 1) by omega]
  exact this

/-- The other children of the parents of x's levels c to c + n - 1. -/
def coL (x c n : Nat) : List Int := (List.range n).map fun i => 2 * ((anc x (c + i + 1) : Nat) : Int) - ((anc x (c + i) : Nat) : Int)
theorem coL_length (x c n : Nat) : (coL x c n).length = n := by simp [coL]
theorem coL_succ (x c n : Nat) : coL x c (n + 1) = coL x c n ++ [2 * ((anc x (c + n + 1) : Nat) : Int) - ((anc x (c + n) : Nat) : Int)] := by simp [coL, List.range_succ]
theorem upL_get (x c n i : Nat) (h : i < n) : (upL x c n)[i]? = some ((anc x (c + i) : Nat) : Int) := by simp [upL, h]

set_option maxHeartbeats 1000000 in
theorem copath_no (x l : Int) (w : World) (hu : Calls Tryz.prog 249 #[.int .i64 x, .int .i64 l] w fun e w' => ∃ v, e = .returned v ∧ OwnI w' w.heap.size v [] ∧ Below w.heap.size w w') :
    Calls Tryz.prog 260 #[.int .i64 x, .int .i64 l] w fun e w' => ∃ v, e = .returned v ∧ OwnI w' w.heap.size v [] ∧ Below w.heap.size w w' := by
  go_enter Tryz.func260, Tryz.ntmps260
  go_wp2_with (go_at_call 249; refine hu.mono ?_)
  rintro e w1 ⟨v, rfl, ho, hb⟩
  obtain ⟨A, c, rfl, hc, hm, hr⟩ := ho.ints
  simp only [List.length_nil]
  go_wp2_with fail
  refine wp_loop_rounds 1 ?_
  rw [rounds_succ]
  go_wp2
  go_ret
  exact ⟨_, rfl, World.ownsRow_nil _ _ _ _, hb⟩
set_option maxHeartbeats 1000000 in
theorem copath_yes (x c j d : Nat) (hd : d ≤ 30) (hN : Nd x c j) (hx : x + 1 < 2 ^ (d + 1)) (w : World) (hT : Tab w) :
    Calls Tryz.prog 260 #[.int .i64 x, .int .i64 (2 ^ d : Nat)] w fun e w' => ∃ v, e = .returned v ∧ OwnI w' w.heap.size v (coL x c (d - c)) ∧ Below w.heap.size w w' := by
  have hu := up_yes x c j d hd hN hx w hT
  have hcd : c ≤ d := by have := hN.level_lt hx; omega
  have hpos := hT.pos
  have hS : ∀ n, n < d - c → ∀ w, Tab w → Calls Tryz.prog 275 #[.int .i64 (anc x (c + n) : Nat), .int .i64 (2 ^ d : Nat)] w fun e w' => e = .returned (.tuple #[.int .i64 (2 * (anc x (c + n + 1) : Nat) - (anc x (c + n) : Nat)), .bool true]) ∧ w = w' := fun n hn w hT => by
    have := sibling_yes (anc x (c + n)) (c + n) _ d hd (anc_nd x (c + n)) (anc_lt hx (by omega)) (by omega) w hT
    rw [anc_anc _ _ _ (by omega)] at this
    exact this
  have hR : ∀ w, Calls Tryz.prog 275 #[.int .i64 (anc x d : Nat), .int .i64 (2 ^ d : Nat)] w fun e w' => e = .returned (.tuple #[.int .i64 0, .bool false]) ∧ w = w' := fun w => by
    have hp := pow_le hd
    have hp0 := two_pos d
    have e : ((anc x d : Nat) : Int) = ((2 ^ d : Nat) : Int) - 1 := by rw [anc_root x d (by omega)]; omega
    rw [e]
    refine sibling_no _ _ w (parent_root _ w (by omega) (by omega) ?_)
    rw [← e]
    exact inT_nd hd (anc_lt hx (Nat.le_refl d))
  generalize ((2 ^ d : Nat) : Int) = l at *
  go_enter Tryz.func260, Tryz.ntmps260
  go_wp2_with (go_at_call 249; refine hu.mono ?_)
  rintro e w1 ⟨v, rfl, ho, hb⟩
  obtain ⟨A, cc, rfl, hc, hm, hr⟩ := ho.ints
  rw [upL_length] at hc hr ⊢
  obtain ⟨b, off, rfl, hcell⟩ := hr (by omega)
  have HC := Lib.hid hcell
  have hbw : b < w1.heap.size := World.block_lt_of_cell? w1 _ (hcell 0 _ (upL_get x c _ 0 (by omega)))
  clear hr hcell hu ho hc
  have hs1 := hb.size
  go_wp2_with fail
  go_loopw [5, 14] (fun v5 v14 wr => ∃ n : Nat, n ≤ d - c + 1 ∧ v14 = .int .i64 n ∧ OwnI wr w1.heap.size v5 (coL x c (min n (d - c))) ∧ Below w1.heap.size w1 wr) (fun _ v14 _ => d - c + 1 - (intOf v14).toNat)
  case atStart => exact ⟨0, by omega, rfl, by rw [Nat.zero_min]; exact World.ownsRow_nil _ _ _ _, Below.refl _ _⟩
  case round =>
    obtain ⟨n, hn, rfl, hown, hb1⟩ := hrel
    have hB := hb1.size
    have hTw : Tab wr := hT.below hpos (hb.trans (hb1.mono (by omega)))
    by_cases hlt : n < d - c + 1
    · have hcn : wr.cell? ⟨b, off + n, none⟩ = some (.int .i64 (anc x (c + n) : Nat)) := (hb1.cell (p := ⟨b, off + n, none⟩) hbw).trans (HC.out n _ (upL_get x c _ n hlt))
      by_cases hlast : n < d - c
      · rw [Nat.min_eq_left (by omega)] at hown
        have hown' := Lib.hid hown
        clear hown
        obtain ⟨p5, hp5⟩ : ∃ p, p = coL x c n := ⟨_, rfl⟩
        rw [← hp5] at hown'
        have HP5 := Lib.hid hp5
        clear hp5
        have HLEN := Lib.hid (show p5.length = n by rw [HP5.out]; exact coL_length _ _ _)
        go_wp2_with (first | (go_at_call 275; refine (hS n hlast _ hTw).mono ?_; rintro e w' ⟨rfl, rfl⟩) | (at_builtin; refine push rfl _ _ rfl rfl rfl hown' hb1 hB ?c1 ?_))
        case c1 => have := HLEN.out; omega
        intro v' w' h1 h2 h3
        have h1' : OwnI w' w1.heap.size v' (coL x c (n + 1)) := by rw [coL_succ, ← HP5.out]; exact h1
        have H1 := Lib.hid h1'
        clear h1 h1' hown'
        go_wp2
        go_roundw
        case rel => exact ⟨n + 1, by omega, by go_num, by rw [Nat.min_eq_left (by omega)]; exact H1.out, h2⟩
        case measure => simp [intOf]; omega
      · obtain rfl : n = d - c := by omega
        rw [Nat.min_self] at hown
        have H1 := Lib.hid hown
        rw [show c + (d - c) = d by omega] at hcn
        go_wp2_with (go_at_call 275; refine (hR _).mono ?_; rintro e w' ⟨rfl, rfl⟩)
        go_roundw
        case rel => exact ⟨d - c + 1, by omega, by go_num, by rw [Nat.min_eq_right (by omega)]; exact H1.out, hb1⟩
        case measure => simp [intOf]
    · obtain rfl : n = d - c + 1 := by omega
      rw [Nat.min_eq_right (by omega)] at hown
      have H1 := Lib.hid hown
      go_wp2
      go_ret
      exact ⟨_, rfl, by obtain ⟨h1, h2⟩ := H1.out; exact own_lower hs1 ⟨h1, h2⟩, hb.trans (hb1.mono (by omega))⟩

/-- The level where b's row and a's meet, from the level c on. -/
def meet (a b cb : Nat) : Nat → Nat → Nat
  | 0, k => k
  | n + 1, k => if cb ≤ k ∧ anc b k = anc a k then k else meet a b cb n (k + 1)
end Go.Proofs.YtnahhclflnjmcaaGreatDoor

/- Walks of the document's own answer for the layer index (package phratryref02), and of SameNumbers: each returns what its plain form says. -/
namespace Go.Proofs.YtnahhclflnjmcaaGreatDoor
open Go.RowKit

/-- Width, Root. -/
def widthOf (l : Int) : Int := if isT l = true then 2 * l - 1 else 0
def rootOf (l : Int) : Int := if isT l = true then l - 1 else -1
set_option maxHeartbeats 1000000 in
theorem width (l : Int) (w : World) (hl : l ≤ 9223372036854775807) : Calls Tryz.prog 180 #[.int .i64 l] w fun e w' => e = .returned (.int .i64 (widthOf l)) ∧ w = w' := by
  have hc := tree l w hl
  unfold widthOf
  cases e : isT l with
  | false =>
    rw [e] at hc
    rw [if_neg (by decide)]
    go_enter Tryz.func180, Tryz.ntmps180
    go_wp2_with (go_at_call 266; refine hc.mono ?_; rintro e w' ⟨rfl, rfl⟩)
    go_ret
    exact ⟨rfl, rfl⟩
  | true =>
    rw [e] at hc
    rw [if_pos rfl]
    obtain ⟨d, hd, e2⟩ := isT_iff.1 e
    have hp := pow_le hd
    have hp2 := two_pos d
    have b0 : 0 < l := by omega
    have b1 : l ≤ 1073741824 := by omega
    clear e e2 hp hp2 hd
    go_enter Tryz.func180, Tryz.ntmps180
    go_wp2_with (go_at_call 266; refine hc.mono ?_; rintro e w' ⟨rfl, rfl⟩)
    go_ret
    exact ⟨rfl, rfl⟩
theorem Nd.odd {x c j : Nat} (h : Nd x c j) : x % 2 = 1 ↔ 0 < c := by
  unfold Nd at h
  cases c with
  | zero => simp at h; omega
  | succ c => rw [two_succ, Nat.mul_assoc] at h; omega
theorem Nd.half {x c j : Nat} (h : Nd x (c + 1) j) : Nd (x / 2) c j := by
  unfold Nd at h ⊢
  rw [two_succ, Nat.mul_assoc] at h
  omega
theorem rlevel_neg (x : Int) (w : World) (h : decide (x < 0) = true) : Calls Tryz.prog 277 #[.int .i64 x] w fun e w' => e = .returned (.int .i64 (-1)) ∧ w = w' := by
  go_enter Tryz.func277, Tryz.ntmps277
  go_wp2
  go_ret
  exact ⟨rfl, rfl⟩
set_option maxHeartbeats 1000000 in
theorem rlevel (x c j : Nat) (hN : Nd x c j) (hx : x ≤ 9223372036854775807) (w : World) : Calls Tryz.prog 277 #[.int .i64 x] w fun e w' => e = .returned (.int .i64 c) ∧ w = w' := by
  have h0 : decide ((x : Int) < 0) = false := by simp
  have hc := hN.level_lt (n := 64) (by omega)
  go_enter Tryz.func277, Tryz.ntmps277
  go_wp2_with fail
  go_loop [0, 3] (fun v0 v3 => ∃ n y : Nat, n ≤ c ∧ y ≤ x ∧ v0 = .int .i64 y ∧ v3 = .int .i64 n ∧ Nd y (c - n) j) (fun _ v3 => c + 1 - (intOf v3).toNat)
  case atStart => exact ⟨0, x, by omega, by omega, rfl, rfl, hN⟩
  case round =>
    obtain ⟨n, y, hn, hy, rfl, rfl, hM⟩ := hrel
    by_cases hnc : n = c
    · have hodd := hM.odd
      have q : ((y : Int) % 2 == 1) = false := by rw [beq_eq_false_iff_ne]; omega
      have HC := Lib.hid hnc
      clear hodd hnc hM
      go_wp2
      go_ret
      rw [HC.out]
      exact ⟨rfl, rfl⟩
    · have hodd := hM.odd
      have q : ((y : Int) % 2 == 1) = true := by rw [beq_iff_eq]; omega
      have HM := Lib.hid (show Nd (y / 2) (c - (n + 1)) j by
        have : c - n = c - (n + 1) + 1 := by omega
        rw [this] at hM
        exact hM.half)
      have hn2 : n < c := by omega
      clear hodd hnc hM
      go_wp2
      go_round
      case rel => exact ⟨n + 1, y / 2, by omega, by omega, by go_num, by go_num, HM.out⟩
      case measure => simp [intOf]; omega
/-- half: 2^(c-1) of a parent, else 0. -/
def halfOf (c : Nat) : Nat := if c = 0 then 0 else 2 ^ (c - 1)
theorem rhalf_neg (x : Int) (w : World) (h : decide (x < 0) = true) : Calls Tryz.prog 268 #[.int .i64 x] w fun e w' => e = .returned (.int .i64 0) ∧ w = w' := by
  have hc := rlevel_neg x w h
  go_enter Tryz.func268, Tryz.ntmps268
  go_wp2_with (go_at_call 277; refine hc.mono ?_; rintro e w' ⟨rfl, rfl⟩)
  go_ret
  exact ⟨rfl, rfl⟩
set_option maxHeartbeats 1000000 in
theorem rhalf (x c j : Nat) (hN : Nd x c j) (hx : x ≤ 9223372036854775807) (w : World) : Calls Tryz.prog 268 #[.int .i64 x] w fun e w' => e = .returned (.int .i64 (halfOf c)) ∧ w = w' := by
  have hL := rlevel x c j hN hx w
  have hc := hN.level_lt (n := 64) (by omega)
  unfold halfOf
  by_cases h0 : c = 0
  · rw [if_pos h0]
    subst h0
    go_enter Tryz.func268, Tryz.ntmps268
    go_wp2_with (go_at_call 277; refine hL.mono ?_; rintro e w' ⟨rfl, rfl⟩)
    go_ret
    exact ⟨rfl, rfl⟩
  · rw [if_neg h0]
    have h1 : 1 ≤ c := by omega
    clear hN h0
    go_enter Tryz.func268, Tryz.ntmps268
    go_wp2_with (go_at_call 277; refine hL.mono ?_; rintro e w' ⟨rfl, rfl⟩)
    go_loop [4, 5] (fun v4 v5 => ∃ k : Nat, 1 ≤ k ∧ k ≤ c ∧ v4 = .int .i64 (2 ^ (k - 1) : Nat) ∧ v5 = .int .i64 k) (fun _ v5 => c + 1 - (intOf v5).toNat)
    case atStart => exact ⟨1, by omega, by omega, rfl, rfl⟩
    case round =>
      obtain ⟨k, hk1, hk, rfl, rfl⟩ := hrel
      by_cases he : k = c
      · subst he
        go_wp2
        go_ret
        exact ⟨by push_cast; rfl, rfl⟩
      · have hs := two_succ (k - 1)
        have hp : 2 ^ (k - 1) ≤ 2 ^ 61 := Nat.pow_le_pow_right (by decide) (by omega)
        have hkc : k < c := by omega
        obtain ⟨p, hpe⟩ : ∃ p, p = 2 ^ (k - 1) := ⟨_, rfl⟩
        have HS := Lib.hid (show 2 ^ (k + 1 - 1) = 2 * p by rw [hpe, ← hs]; congr 1; omega)
        rw [← hpe] at hp ⊢
        clear hpe hs he
        go_wp2
        go_round
        case rel => exact ⟨k + 1, by omega, by omega, by rw [HS.out]; go_num, by go_num⟩
        case measure => simp [intOf]; omega

theorem halfOf_pos {c : Nat} (h : 1 ≤ c) : halfOf c = 2 ^ (c - 1) := by unfold halfOf; rw [if_neg (by omega)]
theorem Nd.kids {p m q : Nat} (h : Nd p (m + 1) q) : Nd (p - 2 ^ m) m (2 * q) ∧ Nd (p + 2 ^ m) m (2 * q + 1) := by
  have e := h.eq
  have hs := two_succ m
  have hs2 := two_succ (m + 1)
  have hp := two_pos m
  have e1 : q * 2 ^ (m + 1 + 1) = 2 * q * 2 ^ (m + 1) := by rw [hs2, Nat.mul_left_comm, Nat.mul_assoc]
  have e2 : (2 * q + 1) * 2 ^ (m + 1) = 2 * q * 2 ^ (m + 1) + 2 ^ (m + 1) := Nat.succ_mul _ _
  exact ⟨Nd.of_eq (by omega), Nd.of_eq (by omega)⟩
theorem ne_level {x c j y m q : Nat} (hN : Nd x c j) (hM : Nd y m q) (h : ¬ c = m) : ((y : Int) == x) = false := by
  rw [beq_eq_false_iff_ne]
  intro e
  obtain rfl : y = x := by omega
  exact h (hN.unique hM)
theorem rwithin_neg (x y : Int) (w : World) (h : x < 0 ∨ y < 0) :
    Calls Tryz.prog 265 #[.int .i64 x, .int .i64 y] w fun e w' => e = .returned (.bool false) ∧ w = w' := by
  by_cases h0 : x < 0
  · have a0 : decide (x < 0) = true := decide_eq_true h0
    clear h h0
    go_enter Tryz.func265, Tryz.ntmps265
    go_wp2
    go_ret
    exact ⟨rfl, rfl⟩
  · have a0 : decide (x < 0) = false := decide_eq_false h0
    have a1 : decide (y < 0) = true := decide_eq_true (by omega)
    clear h h0
    go_enter Tryz.func265, Tryz.ntmps265
    go_wp2
    go_ret
    exact ⟨rfl, rfl⟩
theorem rwithin_top (x : Nat) (w : World) : Calls Tryz.prog 265 #[.int .i64 x, .int .i64 9223372036854775807] w fun e w' => e = .returned (.bool true) ∧ w = w' := by
  have a0 : decide ((x : Int) < 0) = false := by simp
  go_enter Tryz.func265, Tryz.ntmps265
  go_wp2
  go_ret
  exact ⟨rfl, rfl⟩
theorem rwithin_yes (x c i y k j : Nat) (hN : Nd x c i) (hM : Nd y k j) (hx : x ≤ 9223372036854775807) (hy : y ≤ 9223372036854775807) (hk : k ≤ 62) (w : World) :
    Calls Tryz.prog 265 #[.int .i64 x, .int .i64 y] w fun e w' => e = .returned (.bool (decide (c ≤ k ∧ anc x k = y))) ∧ w = w' := by
  have hc := rhalf y k j hM hy w
  have a0 : decide ((x : Int) < 0) = false := by simp
  have a1 : decide ((y : Int) < 0) = false := by simp
  have hne : y ≠ 9223372036854775807 := by
    intro e
    have : Nd y 63 0 := by subst e; unfold Nd; decide
    have := this.unique hM
    omega
  have q1 : ((y : Int) == 9223372036854775807) = false := by rw [beq_eq_false_iff_ne]; omega
  have hiff := within_iff hN hM
  by_cases h0 : k = 0
  · subst h0
    rw [show halfOf 0 = 0 from rfl] at hc
    have HE := Lib.hid (show decide (c ≤ 0 ∧ anc x 0 = y) = ((x : Int) == y) by
      rw [Bool.eq_iff_iff, decide_eq_true_eq, beq_iff_eq, ← hiff]; simp; omega)
    clear hN hM hne hiff
    go_enter Tryz.func265, Tryz.ntmps265
    go_wp2_with (go_at_call 268; refine hc.mono ?_; rintro e w' ⟨rfl, rfl⟩)
    go_ret
    rw [HE.out]
    exact ⟨rfl, rfl⟩
  · rw [halfOf_pos (by omega)] at hc
    have hs1 := two_succ (k - 1)
    rw [show k - 1 + 1 = k by omega] at hs1
    have hp := two_pos (k - 1)
    have hpb : 2 ^ (k - 1) ≤ 2 ^ 61 := Nat.pow_le_pow_right (by decide) (by omega)
    have hg := hM.ge
    have HD := Lib.hid (show decide (c ≤ k ∧ anc x k = y) = decide (y ≤ x + (2 ^ k - 1) ∧ x ≤ y + (2 ^ k - 1)) by congr 1; rw [eq_iff_iff]; exact hiff.symm)
    clear hiff hN hM
    generalize 2 ^ k = p2 at *
    generalize 2 ^ (k - 1) = p at *
    have q : (2 * (p : Int) == 0) = false := by rw [beq_eq_false_iff_ne]; omega
    have b3 : 1 ≤ p := by omega
    have b4 : 2 * p ≤ y + 1 := by omega
    have b5 : p ≤ 2305843009213693952 := by omega
    subst hs1
    by_cases h1 : (y : Int) - (2 * p - 1) ≤ x
    · have q2 : decide ((y : Int) - (2 * p - 1) ≤ x) = true := decide_eq_true h1
      have HE := Lib.hid (show decide (y ≤ x + (2 * p - 1) ∧ x ≤ y + (2 * p - 1)) = decide ((x : Int) - y ≤ 2 * p - 1) by congr 1; rw [eq_iff_iff]; omega)
      clear h1 hne hg hp hpb
      go_enter Tryz.func265, Tryz.ntmps265
      go_wp2_with (go_at_call 268; refine hc.mono ?_; rintro e w' ⟨rfl, rfl⟩)
      go_ret
      rw [HD.out, HE.out]
      exact ⟨rfl, rfl⟩
    · have q2 : decide ((y : Int) - (2 * p - 1) ≤ x) = false := decide_eq_false h1
      have HE := Lib.hid (show decide (y ≤ x + (2 * p - 1) ∧ x ≤ y + (2 * p - 1)) = false by apply decide_eq_false; omega)
      clear h1 hne hg hp hpb
      go_enter Tryz.func265, Tryz.ntmps265
      go_wp2_with (go_at_call 268; refine hc.mono ?_; rintro e w' ⟨rfl, rfl⟩)
      go_ret
      rw [HD.out, HE.out]
      exact ⟨rfl, rfl⟩

end Go.Proofs.YtnahhclflnjmcaaGreatDoor

/- Walks of SameNumbers, of the document's Common, and of alive. -/
namespace Go.Proofs.YtnahhclflnjmcaaGreatDoor
open Go.RowKit

theorem Ints.drewN {w : World} {v : Value} {l : List Int} (h : Ints w v l) (n : Nat) : Ints (w.drewN n) v l := h
/-- Are two lists the same? -/
def sameB (l m : List Int) : Bool := decide (l = m)
set_option maxHeartbeats 1000000 in
theorem same_len (a b : Value) (l m : List Int) (w : World) (ha : Ints w a l) (hb : Ints w b m) (h : l.length ≠ m.length) :
    Calls Tryz.prog 18 #[a, b] w fun e w' => e = .returned (.bool false) ∧ ∃ n, w' = w.drewN n := by
  obtain ⟨A, c, rfl, h1, h2, h3⟩ := ha
  obtain ⟨B, d, rfl, g1, g2, g3⟩ := hb
  have q : ((l.length : Int) != (m.length : Int)) = true := by rw [bne_iff_ne]; omega
  unfold maxLen at h2 g2
  clear h3 g3 h
  generalize l.length = n at *
  generalize m.length = k at *
  go_enter Tryz.func18, Tryz.ntmps18
  go_wp2
  go_ret
  exact ⟨rfl, 0, rfl⟩
set_option maxHeartbeats 1000000 in
theorem same_nil (a b : Value) (w : World) (ha : Ints w a []) (hb : Ints w b []) :
    Calls Tryz.prog 18 #[a, b] w fun e w' => e = .returned (.bool true) ∧ ∃ n, w' = w.drewN n := by
  obtain ⟨A, c, rfl, h1, h2, h3⟩ := ha
  obtain ⟨B, d, rfl, g1, g2, g3⟩ := hb
  clear h3 g3
  simp only [List.length_nil]
  go_enter Tryz.func18, Tryz.ntmps18
  go_wp2
  refine wp_loop_rounds 1 ?_
  rw [rounds_succ]
  go_wp2
  go_ret
  exact ⟨rfl, 0, rfl⟩
theorem take_eq {l m : List Int} (hl : l.length = m.length) {k : Nat} (hk : k < l.length) (h : l.take k = m.take k) (x y : Int) (hx : l[k]? = some x) (hy : m[k]? = some y) :
    (x = y → l.take (k + 1) = m.take (k + 1)) ∧ (x ≠ y → l ≠ m) := by
  constructor
  · intro e
    rw [List.take_add_one, List.take_add_one, hx, hy, h, e]
  · intro hne e
    rw [e, hy] at hx
    exact hne (Option.some.inj hx).symm
set_option maxHeartbeats 1000000 in
theorem same_full (a b : Value) (l m : List Int) (w : World) (ha : Ints w a l) (hb : Ints w b m) (h : l.length = m.length) (h0 : 0 < l.length) :
    Calls Tryz.prog 18 #[a, b] w fun e w' => e = .returned (.bool (sameB l m)) ∧ ∃ n, w' = w.drewN n := by
  obtain ⟨A, c, rfl, h1, h2, h3⟩ := ha
  obtain ⟨B, d, rfl, g1, g2, g3⟩ := hb
  obtain ⟨p, o, rfl, hc⟩ := h3 h0
  obtain ⟨q, r, rfl, gc⟩ := g3 (by omega)
  unfold maxLen at h2 g2
  rw [← h]
  have HC := Lib.hid hc
  have GC := Lib.hid gc
  obtain ⟨n, hn⟩ : ∃ n, n = l.length := ⟨_, rfl⟩
  rw [← hn] at h1 h0 ⊢
  have HN := Lib.hid hn
  have HM := Lib.hid (hn.trans h)
  have b1 : n ≤ 9223372036854775807 := by omega
  have t0 : ((n : Int) != (n : Int)) = false := by simp
  clear hc gc h3 g3 hn h h1 h2 g1 g2
  go_enter Tryz.func18, Tryz.ntmps18
  go_wp2_with fail
  go_loopw [13] (fun v13 wr => ∃ k : Nat, k ≤ n ∧ v13 = .int .i64 k ∧ l.take k = m.take k ∧ ∃ j, wr = w.drewN j) (fun v13 _ => n - (intOf v13).toNat)
  case atStart => exact ⟨0, by omega, rfl, by simp, 0, rfl⟩
  case round =>
    obtain ⟨k, hk, rfl, ht, jd, rfl⟩ := hrel
    have HT := Lib.hid ht
    clear ht
    by_cases hlt : k < n
    · obtain ⟨x, hx⟩ : ∃ x, l[k]? = some x := ⟨l[k]'(by have := HN.out; omega), List.getElem?_eq_getElem _⟩
      obtain ⟨y, hy⟩ : ∃ y, m[k]? = some y := ⟨m[k]'(by have := HM.out; omega), List.getElem?_eq_getElem _⟩
      have c1 : w.cell? ⟨p, o + k, none⟩ = some (.int .i64 x) := HC.out k x hx
      have c2 : w.cell? ⟨q, r + k, none⟩ = some (.int .i64 y) := GC.out k y hy
      have te := take_eq (HN.out.symm.trans HM.out) (by have := HN.out; omega) HT.out x y hx hy
      have HE := Lib.hid te
      have i1 : (0 : Int) ≤ k := by omega
      have i2 : (k : Int) < n := by omega
      clear hx hy te
      by_cases hxy : x = y
      · have t1 : (x != y) = false := by simp [hxy]
        have HX := Lib.hid hxy
        clear hxy
        go_wp2_with fail
        go_quiet (fail)
        go_wp2
        go_roundw
        case rel => exact ⟨k + 1, by omega, by go_num, HE.out.1 HX.out, _, rfl⟩
        case measure => simp [intOf]; omega
      · have t1 : (x != y) = true := by simp [hxy]
        have HX := Lib.hid hxy
        clear hxy
        go_wp2_with fail
        go_quiet (fail)
        go_wp2
        go_ret
        rw [show sameB l m = false from decide_eq_false (HE.out.2 HX.out)]
        exact ⟨rfl, _, World.drewN_drewN ..⟩
    · obtain rfl : k = n := by omega
      go_wp2
      go_ret
      have e : l = m := by
        have := HT.out
        rw [HN.out, List.take_length, ← HN.out, HM.out, List.take_length] at this
        exact this
      rw [show sameB l m = true from decide_eq_true e]
      exact ⟨rfl, _, rfl⟩
theorem same (a b : Value) (l m : List Int) (w : World) (ha : Ints w a l) (hb : Ints w b m) :
    Calls Tryz.prog 18 #[a, b] w fun e w' => e = .returned (.bool (sameB l m)) ∧ ∃ n, w' = w.drewN n := by
  by_cases h : l.length = m.length
  · by_cases h0 : 0 < l.length
    · exact same_full a b l m w ha hb h h0
    · obtain rfl : l = [] := List.eq_nil_of_length_eq_zero (by omega)
      obtain rfl : m = [] := List.eq_nil_of_length_eq_zero (by simpa using h.symm)
      rw [show sameB [] [] = true from rfl]
      exact same_nil a b w ha hb
  · rw [show sameB l m = false from decide_eq_false (fun e => h (by rw [e]))]
    exact same_len a b l m w ha hb h

/-- A new list of one number, still there behind a call. -/
theorem own_one {w w2 : World} {u : Int} (hb : Below (w.alloc (.cells #[.int .i64 u] 3)).heap.size (w.alloc (.cells #[.int .i64 u] 3)) w2) :
    OwnI w2 w.heap.size (.slice (some ⟨w.heap.size, 0, none⟩) 1 1) [u] ∧ Below w.heap.size w w2 ∧ w.heap.size ≤ w2.heap.size := by
  refine ⟨⟨rfl, .inr ⟨w.heap.size, 1, #[.int .i64 u], rfl, Nat.le_refl _, ?_, Nat.le_refl _, by decide, rfl, rfl⟩⟩, ?_, ?_⟩
  · rw [hb.block _ (by simp)]
    exact heap_alloc_new w _
  · exact ((Below.refl _ _).alloc (Nat.le_refl _) _).trans (hb.mono (by simp))
  · have := hb.size
    simp at this
    omega
theorem upL_cons (x c j n : Nat) (hN : Nd x c j) : (x : Int) :: upL x (c + 1) n = upL x c (n + 1) := by
  apply List.ext_getElem?
  intro i
  cases i with
  | zero =>
    rw [upL_get _ _ _ _ (by omega)]
    simp only [Nat.add_zero, hN.anc_self, List.getElem?_cons_zero]
  | succ i =>
    simp only [List.getElem?_cons_succ]
    by_cases h : i < n
    · rw [upL_get _ _ _ _ h, upL_get _ _ _ _ (by omega), show c + 1 + i = c + (i + 1) by omega]
    · rw [List.getElem?_eq_none (by rw [upL_length]; omega), List.getElem?_eq_none (by rw [upL_length]; omega)]
end Go.Proofs.YtnahhclflnjmcaaGreatDoor

/- Trees as the program holds them; blank, leaves. -/
namespace Go.Proofs.YtnahhclflnjmcaaGreatDoor
open Go Go.RowKit
set_option linter.unusedVariables false
set_option linter.unusedSimpArgs false

/-- A node's cells at a place. -/
structure NdAt (w : World) (b o : Nat) (a : Node) : Prop where
  c0 : w.cell? ⟨b, o, none⟩ = some (.int .i64 a.pub)
  c1 : w.cell? ⟨b, o + 1, none⟩ = some (.int .i64 a.mem)
  c2 : w.cell? ⟨b, o + 2, none⟩ = some (.int .i64 a.ep)
  c3 : ∃ A c, w.cell? ⟨b, o + 3, none⟩ = some (.slice A a.un.length c) ∧ Ints w (.slice A a.un.length c) a.un
  r1 : (Lit.int .i64 a.mem).wf = true
/-- A row of n nodes reads so. -/
def TrR (w : World) (v : Value) (n : Nat) (F : Nat → Node) : Prop :=
  ∃ A c, v = .slice A n c ∧ n ≤ c ∧ c ≤ maxLen ∧ (0 < n → ∃ b o, A = some ⟨b, o, none⟩ ∧ ∀ y, y < n → NdAt w b (o + y * 4) (F y))
theorem NdAt.below {w w' : World} {b o : Nat} {a : Node} (h : NdAt w b o a) (hb : Below w.heap.size w w') : NdAt w' b o a := by
  have key : ∀ {p : Addr} {v : Value}, w.cell? p = some v → w'.cell? p = some v := fun hc => by
    rw [hb.cell (World.block_lt_of_cell? w _ hc)]; exact hc
  obtain ⟨A, c, h3, h4⟩ := h.c3
  exact ⟨key h.c0, key h.c1, key h.c2, ⟨A, c, key h3, h4.below hb⟩, h.r1⟩
theorem TrR.below {w w' : World} {v : Value} {n : Nat} {F : Nat → Node} (h : TrR w v n F) (hb : Below w.heap.size w w') : TrR w' v n F := by
  obtain ⟨A, c, rfl, h1, h2, h3⟩ := h
  refine ⟨A, c, rfl, h1, h2, fun h0 => ?_⟩
  obtain ⟨b, o, rfl, h4⟩ := h3 h0
  exact ⟨b, o, rfl, fun y hy => (h4 y hy).below hb⟩
theorem TrR.congr {w : World} {v : Value} {n : Nat} {F G : Nat → Node} (h : TrR w v n F) (he : ∀ y, y < n → F y = G y) : TrR w v n G := by
  obtain ⟨A, c, rfl, h1, h2, h3⟩ := h
  refine ⟨A, c, rfl, h1, h2, fun h0 => ?_⟩
  obtain ⟨b, o, rfl, h4⟩ := h3 h0
  exact ⟨b, o, rfl, fun y hy => by rw [← he y hy]; exact h4 y hy⟩
theorem TrR.alloc {w : World} {v : Value} {n : Nat} {F : Nat → Node} (h : TrR w v n F) (o : Obj) : TrR (w.alloc o) v n F := h.below ((Below.refl _ _).alloc (Nat.le_refl _) _)
theorem _root_.Go.RowKit.Below.quiet {B : Nat} {a w : World} (h : Below B a w) (n : Nat) : Below B a (w.drewN n) := h.trans ⟨rfl, rfl, rfl, Nat.le_refl _, fun _ _ => rfl⟩
theorem TrR.nil (w : World) (F : Nat → Node) : TrR w (.slice none 0 0) 0 F := ⟨none, 0, rfl, Nat.le_refl _, by decide, fun h => absurd h (by omega)⟩

set_option maxHeartbeats 1000000 in
theorem blank28 (p m e : Int) (A : Option Addr) (n c : Nat) (w : World) :
    Calls Tryz.prog 46 #[.agg #[.int .i64 p, .int .i64 m, .int .i64 e, .slice A n c]] w fun x w' => x = .returned (.bool (p == 0 && (m == 0 && (e == 0 && n == 0)))) ∧ Below w.heap.size w w' := by
  have hn : ((n : Int) == 0) = (n == 0) := by
    rw [Bool.eq_iff_iff, beq_iff_eq, beq_iff_eq]; omega
  cases e1 : (p == 0) with
  | false =>
    go_enter Tryz.func46, Tryz.ntmps46
    go_wp2
    go_ret
    exact ⟨rfl, (Below.refl _ _).alloc (Nat.le_refl _) _⟩
  | true =>
    cases e2 : (m == 0) with
    | false =>
      go_enter Tryz.func46, Tryz.ntmps46
      go_wp2
      go_ret
      exact ⟨rfl, (Below.refl _ _).alloc (Nat.le_refl _) _⟩
    | true =>
      cases e3 : (e == 0) with
      | false =>
        go_enter Tryz.func46, Tryz.ntmps46
        go_wp2
        go_ret
        exact ⟨rfl, (Below.refl _ _).alloc (Nat.le_refl _) _⟩
      | true =>
        go_enter Tryz.func46, Tryz.ntmps46
        go_wp2
        go_ret
        exact ⟨by simp [hn], (Below.refl _ _).alloc (Nat.le_refl _) _⟩
theorem blank_bool (a : Node) : (a.pub == 0 && (a.mem == 0 && (a.ep == 0 && a.un.length == 0))) = a.blank := by
  obtain ⟨p, m, e, u⟩ := a
  cases u <;> simp [Node.blank, Bool.and_assoc]
theorem blankN (a : Node) (A : Option Addr) (c : Nat) (w : World) :
    Calls Tryz.prog 46 #[.agg #[.int .i64 a.pub, .int .i64 a.mem, .int .i64 a.ep, .slice A a.un.length c]] w fun x w' => x = .returned (.bool a.blank) ∧ Below w.heap.size w w' := by
  have := blank28 a.pub a.mem a.ep A a.un.length c w
  rw [blank_bool] at this
  exact this

/-! leaves -/
theorem width_small (k : Nat) (h0 : 0 < k) (h : k ≤ 8) : widthOf (k : Int) = if k = 1 then 1 else if k = 2 then 3 else if k = 4 then 7 else if k = 8 then 15 else 0 := by
  have : k = 1 ∨ k = 2 ∨ k = 3 ∨ k = 4 ∨ k = 5 ∨ k = 6 ∨ k = 7 ∨ k = 8 := by omega
  rcases this with rfl | rfl | rfl | rfl | rfl | rfl | rfl | rfl <;> decide
set_option maxHeartbeats 1000000 in
theorem leaves_no (A : Option Addr) (n c : Nat) (w : World) (hn : n ≤ 9223372036854775806) (h : n = 0 ∨ 16 < n) :
    Calls Tryz.prog 44 #[.agg #[.slice A n c]] w fun x w' => x = .returned (.int .i64 0) ∧ Below w.heap.size w w' := by
  rcases h with rfl | h
  · go_enter Tryz.func44, Tryz.ntmps44
    go_wp2
    go_quiet (fail)
    go_wp2
    go_ret
    exact ⟨rfl, Below.quiet ((Below.refl _ _).alloc (Nat.le_refl _) _) _⟩
  · have t1 : decide (8 < ((n : Int) + 1) / 2) = true := decide_eq_true (by omega)
    go_enter Tryz.func44, Tryz.ntmps44
    go_wp2
    go_quiet (fail)
    go_wp2
    go_ret
    exact ⟨rfl, Below.quiet ((Below.refl _ _).alloc (Nat.le_refl _) _) _⟩
theorem wid (k : Nat) (w : World) (hk : k ≤ 9223372036854775807) : Calls Tryz.prog 180 #[.int .i64 k] w fun e w' => e = .returned (.int .i64 (widthOf k)) ∧ w = w' := width k w (by omega)
set_option maxHeartbeats 1000000 in
theorem leaves_at (A : Option Addr) (n k c : Nat) (w : World) (h0 : 0 < n) (h1 : n ≤ 16) (hk : (n + 1) / 2 = k) :
    Calls Tryz.prog 44 #[.agg #[.slice A n c]] w fun x w' => x = .returned (.int .i64 (if widthOf k = n then k else 0)) ∧ Below w.heap.size w w' := by
  have t0 : ((n : Int) + 1) / 2 = k := by omega
  have t1 : decide (8 < (k : Int)) = false := decide_eq_false (by omega)
  have t2 : ((n : Int) == 0) = false := by rw [beq_eq_false_iff_ne]; omega
  have hw : ∀ w, Calls Tryz.prog 180 #[.int .i64 k] w fun e w' => e = .returned (.int .i64 (widthOf k)) ∧ w = w' := fun w => wid k w (by omega)
  by_cases hq : widthOf k = n
  · rw [if_pos hq]
    rw [hq] at hw
    have t3 : ((n : Int) != (n : Int)) = false := by simp
    clear hq hk
    go_enter Tryz.func44, Tryz.ntmps44
    go_wp2_with (simp only [t0])
    go_quiet ((go_at_call 180; exact Calls.quiet_of_same ((hw _).mono (fun e w' h => ⟨h.1, h.2.symm⟩))))
    go_wp2
    go_ret
    exact ⟨rfl, Below.quiet ((Below.refl _ _).alloc (Nat.le_refl _) _) _⟩
  · rw [if_neg hq]
    have t3 : (widthOf k != (n : Int)) = true := by rw [bne_iff_ne]; exact hq
    generalize widthOf k = z at *
    clear hq hk
    go_enter Tryz.func44, Tryz.ntmps44
    go_wp2_with (simp only [t0])
    go_quiet ((go_at_call 180; exact Calls.quiet_of_same ((hw _).mono (fun e w' h => ⟨h.1, h.2.symm⟩))))
    go_wp2
    go_ret
    exact ⟨rfl, Below.quiet ((Below.refl _ _).alloc (Nat.le_refl _) _) _⟩
theorem leaves26 (A : Option Addr) (n c : Nat) (w : World) (hn : n ≤ 9223372036854775806) :
    Calls Tryz.prog 44 #[.agg #[.slice A n c]] w fun x w' => x = .returned (.int .i64 (lvs n : Nat)) ∧ Below w.heap.size w w' := by
  by_cases h : n = 0 ∨ 16 < n
  · have : lvs n = 0 := by
      unfold lvs
      rw [if_neg (by omega), if_neg (by omega), if_neg (by omega), if_neg (by omega)]
    rw [this]
    exact leaves_no A n c w hn h
  · have h2 := leaves_at A n ((n + 1) / 2) c w (by omega) (by omega) rfl
    have e : (if widthOf (((n + 1) / 2 : Nat) : Int) = n then (((n + 1) / 2 : Nat) : Int) else 0) = ((lvs n : Nat) : Int) := by
      rw [width_small _ (by omega) (by omega)]
      unfold lvs
      have : n = 1 ∨ n = 2 ∨ n = 3 ∨ n = 4 ∨ n = 5 ∨ n = 6 ∨ n = 7 ∨ n = 8 ∨ n = 9 ∨ n = 10 ∨ n = 11 ∨ n = 12 ∨ n = 13 ∨ n = 14 ∨ n = 15 ∨ n = 16 := by omega
      rcases this with rfl | rfl | rfl | rfl | rfl | rfl | rfl | rfl | rfl | rfl | rfl | rfl | rfl | rfl | rfl | rfl <;> decide
    rw [e] at h2
    exact h2
end Go.Proofs.YtnahhclflnjmcaaGreatDoor
