/- Plain arithmetic of nodes: a number x is 2^c (2 j + 1) - 1, c its level; what stands above it at the level k is anc x k. No program. -/
import Derived.Laws.Bits64b
import Derived.IntWalk
import Derived.Lib.TrailingZeros
namespace Go.Proofs.YtopkanokpfhmmaaDoor
open Go.IntWalk

/-- A number as a node: its level, and which one of the level it is. -/
def Nd (x c j : Nat) : Prop := x + 1 = 2 ^ c * (2 * j + 1)
/-- What stands above x (or is x) at the level k. -/
def anc (x k : Nat) : Nat := x / 2 ^ (k + 1) * 2 ^ (k + 1) + (2 ^ k - 1)

theorem two_pos (k : Nat) : 0 < 2 ^ k := Nat.pow_pos (by decide)
theorem two_succ (k : Nat) : 2 ^ (k + 1) = 2 * 2 ^ k := by rw [Nat.pow_succ]; omega
theorem Nd.make : ∀ x, ∃ c j, Nd x c j := by
  intro x
  induction x using Nat.strongRecOn with
  | _ x ih =>
    by_cases h : x % 2 = 1
    · obtain ⟨c, j, hc⟩ := ih (x / 2) (by omega)
      refine ⟨c + 1, j, ?_⟩
      unfold Nd at *
      rw [two_succ, Nat.mul_assoc, ← hc]
      omega
    · exact ⟨0, x / 2, by unfold Nd; simp; omega⟩
theorem Nd.eq {x c j : Nat} (h : Nd x c j) : x = j * 2 ^ (c + 1) + (2 ^ c - 1) := by
  unfold Nd at h
  have := two_pos c
  have e : 2 ^ c * (2 * j + 1) = j * (2 * 2 ^ c) + 2 ^ c := by rw [Nat.mul_add, Nat.mul_one, Nat.mul_comm (2 ^ c), Nat.mul_comm 2 j, Nat.mul_assoc]
  rw [two_succ]
  omega
theorem Nd.of_eq {x c j : Nat} (h : x = j * 2 ^ (c + 1) + (2 ^ c - 1)) : Nd x c j := by
  unfold Nd
  have := two_pos c
  have e : 2 ^ c * (2 * j + 1) = j * (2 * 2 ^ c) + 2 ^ c := by rw [Nat.mul_add, Nat.mul_one, Nat.mul_comm (2 ^ c), Nat.mul_comm 2 j, Nat.mul_assoc]
  rw [two_succ] at h
  omega
theorem Nd.div {x c j : Nat} (h : Nd x c j) : x / 2 ^ (c + 1) = j := by
  rw [h.eq, Nat.add_comm, Nat.add_mul_div_right _ _ (two_pos _), Nat.div_eq_of_lt, Nat.zero_add]
  rw [two_succ]; have := two_pos c; omega
theorem Nd.ge {x c j : Nat} (h : Nd x c j) : 2 ^ c - 1 ≤ x := by rw [h.eq]; omega
theorem Nd.level_lt {x c j n : Nat} (h : Nd x c j) (hx : x + 1 < 2 ^ n) : c < n := by
  apply Nat.lt_of_not_le
  intro hn
  have h1 : 2 ^ n ≤ 2 ^ c := Nat.pow_le_pow_right (by decide) hn
  have := h.ge
  omega
theorem Nd.unique {x c j c' j' : Nat} (h : Nd x c j) (h' : Nd x c' j') : c = c' := by
  have key : ∀ {x c j c' j' : Nat}, Nd x c j → Nd x c' j' → c < c' → False := by
    intro x c j c' j' h h' hl
    obtain ⟨d, rfl⟩ : ∃ d, c' = c + (d + 1) := ⟨c' - c - 1, by omega⟩
    unfold Nd at h h'
    rw [h, Nat.pow_add, Nat.mul_assoc] at h'
    have := Nat.eq_of_mul_eq_mul_left (two_pos c) h'
    rw [two_succ, Nat.mul_assoc] at this
    omega
  rcases Nat.lt_trichotomy c c' with hl | hl | hl
  · exact (key h h' hl).elim
  · exact hl
  · exact (key h' h hl).elim
theorem Nd.anc_self {x c j : Nat} (h : Nd x c j) : anc x c = x := by unfold anc; rw [h.div]; exact h.eq.symm
theorem anc_nd (x k : Nat) : Nd (anc x k) k (x / 2 ^ (k + 1)) := Nd.of_eq rfl
theorem div_div_pow (x a b : Nat) (h : a ≤ b) : x / 2 ^ b = x / 2 ^ a / 2 ^ (b - a) := by
  rw [Nat.div_div_eq_div_mul, ← Nat.pow_add]
  congr 2
  omega
theorem anc_anc (x k m : Nat) (h : k ≤ m) : anc (anc x k) m = anc x m := by
  have : anc x k / 2 ^ (m + 1) = x / 2 ^ (m + 1) := by
    rw [div_div_pow _ (k + 1) (m + 1) (by omega), div_div_pow x (k + 1) (m + 1) (by omega), (anc_nd x k).div]
  unfold anc at *
  rw [this]
theorem anc_root (x d : Nat) (h : x < 2 ^ (d + 1)) : anc x d = 2 ^ d - 1 := by
  unfold anc
  rw [Nat.div_eq_of_lt h]
  omega
/-- One step up: with q = x / 2^(k+2). -/
theorem anc_bounds (x k : Nat) : x / 2 ^ (k + 1) * 2 ^ (k + 1) ≤ x ∧ x < x / 2 ^ (k + 1) * 2 ^ (k + 1) + 2 ^ (k + 1) := by
  have h1 := Nat.div_add_mod x (2 ^ (k + 1))
  have h2 := Nat.mod_lt x (two_pos (k + 1))
  rw [Nat.mul_comm] at h1
  omega
theorem lev_of (x c j : Nat) (h : Nd x c j) (hx : x ≤ 9223372036854775807) : Lib.ctz 64 (18446744073709551615 - x) = c := by
  unfold Lib.ctz
  rw [if_neg (by omega)]
  obtain ⟨m, hm, hlt⟩ := Lib.ctzFrom_spec 64 (18446744073709551615 - x) (by omega) (by omega)
  generalize Lib.ctzFrom 64 (18446744073709551615 - x) = b at hm hlt
  obtain ⟨d, hd⟩ : ∃ d, 64 = b + (d + 1) := ⟨64 - b - 1, by omega⟩
  have h64 : (18446744073709551616 : Nat) = 2 ^ b * 2 ^ (d + 1) := by rw [← Nat.pow_add, ← hd]
  refine Nd.unique (j := 2 ^ d - m - 1) (j' := j) ?_ h
  unfold Nd
  have e1 : x + 1 = 2 ^ b * 2 ^ (d + 1) - 2 ^ b * (2 * m + 1) := by omega
  rw [e1, ← Nat.mul_sub]
  congr 1
  have hlt2 : 2 * m + 1 < 2 ^ (d + 1) := by
    apply Nat.lt_of_not_le
    intro hle
    have := Nat.mul_le_mul_left (2 ^ b) hle
    omega
  rw [two_succ] at hlt2 ⊢
  omega

/-! bits -/
theorem testBit_add (a b i j : Nat) (h : b < 2 ^ i) : (a * 2 ^ i + b).testBit j = if j < i then b.testBit j else a.testBit (j - i) := by
  rw [Nat.mul_comm]; exact Nat.testBit_two_pow_mul_add a h j
theorem i64_small (n : Nat) (h : n < 9223372036854775808) : IntKind.i64.wrap (n : Int) = n := by
  rw [IntKind.wrap_i64]; omega
theorem bv_of (a : Nat) (ha : a < 9223372036854775808) : (BitVec.ofInt 64 (a : Int)).toNat = a := by
  rw [BitVec.ofInt_natCast, BitVec.toNat_ofNat]; exact Nat.mod_eq_of_lt (by omega)
theorem bits_and_i64 (a b : Nat) (ha : a < 9223372036854775808) (hb : b < 9223372036854775808) : bits .and .i64 (a : Int) (b : Int) = ((a &&& b : Nat) : Int) := by
  have hx : a &&& b < 2 ^ 63 := Nat.and_lt_two_pow _ (by omega)
  show IntKind.i64.wrap ((BitVec.ofInt 64 (a : Int) &&& BitVec.ofInt 64 (b : Int)).toNat : Int) = _
  rw [BitVec.toNat_and, bv_of a ha, bv_of b hb, i64_small _ (by omega)]
theorem bits_or_i64 (a b : Nat) (ha : a < 9223372036854775808) (hb : b < 9223372036854775808) : bits .or .i64 (a : Int) (b : Int) = ((a ||| b : Nat) : Int) := by
  have hx : a ||| b < 2 ^ 63 := Nat.or_lt_two_pow (by omega) (by omega)
  show IntKind.i64.wrap ((BitVec.ofInt 64 (a : Int) ||| BitVec.ofInt 64 (b : Int)).toNat : Int) = _
  rw [BitVec.toNat_or, bv_of a ha, bv_of b hb, i64_small _ (by omega)]
theorem bits_andNot_i64 (a b : Nat) (ha : a < 9223372036854775808) (hb : b < 9223372036854775808) : bits .andNot .i64 (a : Int) (b : Int) = ((a &&& (18446744073709551615 - b) : Nat) : Int) := by
  have hx : a &&& (18446744073709551615 - b) < 2 ^ 63 := by rw [Nat.and_comm]; exact Nat.and_lt_two_pow _ (by omega)
  show IntKind.i64.wrap ((BitVec.ofInt 64 (a : Int) &&& ~~~ BitVec.ofInt 64 (b : Int)).toNat : Int) = _
  rw [BitVec.toNat_and, BitVec.toNat_not, bv_of a ha, bv_of b hb, show 2 ^ 64 - 1 - b = 18446744073709551615 - b from rfl, i64_small _ (by omega)]
/-- The bit m cleared: a = h 2^(m+1) + t 2^m + l. -/
theorem clear_bit (h t l m : Nat) (hm : m < 64) (ht : t < 2) (hl : l < 2 ^ m) : (h * 2 ^ (m + 1) + (t * 2 ^ m + l)) &&& (18446744073709551615 - 2 ^ m) = if h * 2 ^ (m + 1) + (t * 2 ^ m + l) < 18446744073709551616 then h * 2 ^ (m + 1) + l else (h * 2 ^ (m + 1) + (t * 2 ^ m + l)) &&& (18446744073709551615 - 2 ^ m) := by
  split
  case isFalse => rfl
  case isTrue hlt =>
  have htl : t * 2 ^ m + l < 2 ^ (m + 1) := by
    rw [two_succ]
    have : t * 2 ^ m ≤ 1 * 2 ^ m := Nat.mul_le_mul_right _ (by omega)
    omega
  have hll : l < 2 ^ (m + 1) := by rw [two_succ]; omega
  have hm2 : 2 ^ m < 2 ^ 64 := Nat.pow_lt_pow_right (by decide) hm
  apply Nat.eq_of_testBit_eq
  intro i
  rw [Nat.testBit_and, show 18446744073709551615 - 2 ^ m = 2 ^ 64 - (2 ^ m + 1) by omega, Nat.testBit_two_pow_sub_succ hm2, Nat.testBit_two_pow, testBit_add _ _ _ _ htl, testBit_add _ _ _ _ hll, testBit_add _ _ _ _ hl]
  by_cases h64 : i < 64
  · by_cases him : i < m + 1
    · simp only [him, if_true, h64, decide_true, Bool.true_and]
      by_cases hi2 : i < m
      · have : ¬ m = i := by omega
        simp [hi2, this]
      · obtain rfl : m = i := by omega
        have : l.testBit m = false := Nat.testBit_lt_two_pow hl
        simp [this]
    · have : ¬ m = i := by omega
      simp [him, h64, this]
  · have hb : h.testBit (i - (m + 1)) = false := by
      apply Nat.testBit_lt_two_pow
      have h3 : h * 2 ^ (m + 1) < 2 ^ 64 := by omega
      have e4 : 2 ^ 64 ≤ 2 ^ (i - (m + 1)) * 2 ^ (m + 1) := by
        rw [← Nat.pow_add]
        exact Nat.pow_le_pow_right (by decide) (by omega)
      apply Nat.lt_of_not_le
      intro hle
      have := Nat.mul_le_mul_right (2 ^ (m + 1)) hle
      omega
    have him : ¬ i < m + 1 := by omega
    simp [h64, him, hb]
theorem set_bit (h l m : Nat) (hl : l < 2 ^ m) : (h * 2 ^ (m + 1) + l) ||| 2 ^ m = h * 2 ^ (m + 1) + (2 ^ m + l) := by
  have hll : l < 2 ^ (m + 1) := by rw [two_succ]; omega
  have htl : 2 ^ m + l < 2 ^ (m + 1) := by rw [two_succ]; omega
  apply Nat.eq_of_testBit_eq
  intro i
  rw [Nat.testBit_or, Nat.testBit_two_pow, testBit_add _ _ _ _ htl, testBit_add _ _ _ _ hll]
  by_cases him : i < m + 1
  · simp only [him, if_true]
    have e := testBit_add 1 l m i hl
    rw [Nat.one_mul] at e
    rw [e]
    by_cases hi2 : i < m
    · have : ¬ m = i := by omega
      simp [hi2, this]
    · obtain rfl : m = i := by omega
      simp
  · have : ¬ m = i := by omega
    simp [him, this]

/-- index.Left's number. -/
theorem left_num (x c j : Nat) (h : Nd x c j) (hx : x < 9223372036854775808) (h1 : 1 ≤ c) (h2 : c ≤ 63) :
    bits .andNot .i64 (x : Int) ((2 ^ (c - 1) : Nat) : Int) = ((x - 2 ^ (c - 1) : Nat) : Int) := by
  obtain ⟨m, rfl⟩ : ∃ m, c = m + 1 := ⟨c - 1, by omega⟩
  rw [Nat.add_sub_cancel]
  have hm : 2 ^ m < 2 ^ 63 := Nat.pow_lt_pow_right (by decide) (by omega)
  have h0 := two_pos m
  have e : x = (2 * j) * 2 ^ (m + 1) + (1 * 2 ^ m + (2 ^ m - 1)) := by
    have := h.eq
    rw [two_succ (m + 1), two_succ] at this
    rw [two_succ, this, Nat.mul_assoc 2, Nat.mul_left_comm 2 j]
    omega
  rw [bits_andNot_i64 _ _ hx (by omega)]
  have := clear_bit (2 * j) 1 (2 ^ m - 1) m (by omega) (by decide) (by omega)
  rw [← e, if_pos (by omega)] at this
  rw [this]
  congr 1
  omega
/-- index.Parent's number. -/
theorem parent_num (x c j : Nat) (h : Nd x c j) (hx : x < 4611686018427387904) (h2 : c ≤ 60) :
    bits .andNot .i64 (bits .or .i64 (x : Int) ((2 ^ c : Nat) : Int)) ((2 ^ (c + 1) : Nat) : Int) = (anc x (c + 1) : Nat) := by
  have h0 := two_pos c
  have hc : 2 ^ c ≤ 2 ^ 60 := Nat.pow_le_pow_right (by decide) h2
  have hc1 := two_succ c
  have hc2 := two_succ (c + 1)
  have e := h.eq
  have hs := set_bit j (2 ^ c - 1) c (by omega)
  rw [← e] at hs
  rw [bits_or_i64 _ _ (by omega) (by omega), hs]
  have hd : j = 2 * (j / 2) + j % 2 := by omega
  have e2 : j * 2 ^ (c + 1) + (2 ^ c + (2 ^ c - 1)) = (j / 2) * 2 ^ (c + 1 + 1) + ((j % 2) * 2 ^ (c + 1) + (2 ^ (c + 1) - 1)) := by
    have : j * 2 ^ (c + 1) = (2 * (j / 2) + j % 2) * 2 ^ (c + 1) := by rw [← hd]
    rw [this, Nat.add_mul, hc2, Nat.mul_assoc 2, Nat.mul_left_comm 2 (j / 2)]
    omega
  have hb := clear_bit (j / 2) (j % 2) (2 ^ (c + 1) - 1) (c + 1) (by omega) (by omega) (by omega)
  rw [← e2, if_pos (by omega)] at hb
  rw [bits_andNot_i64 _ _ (by omega) (by omega), hb]
  unfold anc
  rw [div_div_pow x (c + 1) (c + 1 + 1) (by omega), h.div, show c + 1 + 1 - (c + 1) = 1 by omega, Nat.pow_one]
/-- index.tree's number. -/
theorem tree_num (l : Nat) (h0 : 0 < l) (h : l ≤ 1073741824) : (bits .and .i64 (l : Int) ((l - 1 : Nat) : Int) == 0) = decide (∃ d, d ≤ 30 ∧ l = 2 ^ d) := by
  rw [bits_and_i64 _ _ (by omega) (by omega)]
  have hp := Nat.and_sub_one_eq_zero_iff_isPowerOfTwo (n := l) (by omega)
  rw [Bool.eq_iff_iff, beq_iff_eq, decide_eq_true_eq]
  constructor
  · intro h1
    obtain ⟨d, hd⟩ := hp.1 (by omega)
    refine ⟨d, ?_, hd⟩
    apply Nat.le_of_not_lt
    intro hl
    have : 2 ^ 31 ≤ 2 ^ d := Nat.pow_le_pow_right (by decide) hl
    omega
  · rintro ⟨d, _, hd⟩
    have := hp.2 ⟨d, hd⟩
    omega

theorem right_le (x c j : Nat) (h : Nd x c j) (hx : x < 9223372036854775808) (h1 : 1 ≤ c) (h2 : c ≤ 62) : x + 2 ^ (c - 1) ≤ 9223372036854775807 := by
  have e := h.eq
  have hs := two_succ (c - 1)
  have hs2 := two_succ c
  have hp := two_pos (c - 1)
  rw [show c - 1 + 1 = c by omega] at hs
  have hj : (j + 1) * 2 ^ (c + 1) ≤ 2 ^ 63 := by
    obtain ⟨d, hd⟩ : ∃ d, 63 = (c + 1) + d := ⟨63 - (c + 1), by omega⟩
    have e63 : 2 ^ 63 = 2 ^ d * 2 ^ (c + 1) := by rw [← Nat.pow_add, hd, Nat.add_comm]
    rw [e63]
    apply Nat.mul_le_mul_right
    apply Nat.succ_le_of_lt
    apply Nat.lt_of_not_le
    intro hle
    have := Nat.mul_le_mul_right (2 ^ (c + 1)) hle
    omega
  rw [Nat.add_mul, Nat.one_mul] at hj
  omega
theorem anc_lt {x d k : Nat} (hx : x + 1 < 2 ^ (d + 1)) (hk : k ≤ d) : anc x k + 1 < 2 ^ (d + 1) := by
  unfold anc
  have h1 := anc_bounds x k
  have h2 := two_succ k
  have h3 := two_pos k
  have hq : (x / 2 ^ (k + 1) + 1) * 2 ^ (k + 1) ≤ 2 ^ (d + 1) := by
    obtain ⟨e, he⟩ : ∃ e, d + 1 = e + (k + 1) := ⟨d - k, by omega⟩
    rw [he, Nat.pow_add 2 e]
    apply Nat.mul_le_mul_right
    apply Nat.succ_le_of_lt
    apply Nat.div_lt_of_lt_mul
    rw [Nat.mul_comm, ← Nat.pow_add, ← he]
    omega
  rw [Nat.add_mul, Nat.one_mul] at hq
  omega
theorem span_lt (x c j : Nat) (h : Nd x c j) (hx : x < 9223372036854775808) (hc : c ≤ 62) : j * 2 ^ c + 2 ^ c ≤ 9223372036854775807 := by
  have e := h.eq
  have hs := two_succ c
  have hp := two_pos c
  have : j * 2 ^ (c + 1) = 2 * (j * 2 ^ c) := by rw [hs, Nat.mul_left_comm]
  by_cases hj : j = 0
  · subst hj
    have : 2 ^ c ≤ 2 ^ 62 := Nat.pow_le_pow_right (by decide) hc
    omega
  · have : 1 * 2 ^ c ≤ j * 2 ^ c := Nat.mul_le_mul_right _ (by omega)
    omega
theorem anc_eq_iff {x y k j : Nat} (hM : Nd y k j) : ((x : Int) / 2 ^ (k + 1) == (y : Int) / 2 ^ (k + 1)) = decide (anc x k = y) := by
  rw [show ((x : Int) / 2 ^ (k + 1)) = ((x / 2 ^ (k + 1) : Nat) : Int) by push_cast; rfl, show ((y : Int) / 2 ^ (k + 1)) = ((y / 2 ^ (k + 1) : Nat) : Int) by push_cast; rfl, Bool.eq_iff_iff, beq_iff_eq, decide_eq_true_eq]
  constructor
  · intro h
    have h' : x / 2 ^ (k + 1) = y / 2 ^ (k + 1) := by omega
    refine Eq.trans ?_ hM.anc_self
    unfold anc
    rw [h']
  · intro h
    rw [← h, (anc_nd x k).div]
/-- x lies at or below y, told by distance. -/
theorem within_iff {x c i y k j : Nat} (hN : Nd x c i) (hM : Nd y k j) : (y ≤ x + (2 ^ k - 1) ∧ x ≤ y + (2 ^ k - 1)) ↔ (c ≤ k ∧ anc x k = y) := by
  have e := hM.eq
  have hs := two_succ k
  have hp := two_pos k
  have hb := anc_bounds x k
  constructor
  · rintro ⟨h1, h2⟩
    have hq : x / 2 ^ (k + 1) = j := by
      apply Nat.div_eq_of_lt_le
      · omega
      · rw [Nat.add_mul, Nat.one_mul]; omega
    refine ⟨?_, ?_⟩
    · apply Nat.le_of_not_lt
      intro hc
      obtain ⟨d, rfl⟩ : ∃ d, c = (k + 1) + d := ⟨c - (k + 1), by omega⟩
      unfold Nd at hN
      rw [Nat.pow_add, Nat.mul_assoc] at hN
      generalize 2 ^ d * (2 * i + 1) = m at hN
      have h3 : j * 2 ^ (k + 1) < m * 2 ^ (k + 1) := by rw [Nat.mul_comm m]; omega
      have h4 := Nat.lt_of_mul_lt_mul_right h3
      have h5 := Nat.mul_le_mul_right (2 ^ (k + 1)) h4
      rw [Nat.succ_mul, Nat.mul_comm m] at h5
      omega
    · unfold anc
      rw [hq]
      omega
  · rintro ⟨hc, h⟩
    have hq : x / 2 ^ (k + 1) = j := by rw [← hM.div, ← h, (anc_nd x k).div]
    rw [hq] at hb
    refine ⟨by omega, ?_⟩
    apply Nat.le_of_not_lt
    intro hx
    have hx2 : x + 1 = (j + 1) * 2 ^ (k + 1) := by rw [Nat.add_mul, Nat.one_mul]; omega
    unfold Nd at hN
    obtain ⟨d, hd⟩ : ∃ d, k + 1 = c + (d + 1) := ⟨k - c, by omega⟩
    rw [hN, hd, Nat.pow_add, Nat.mul_left_comm] at hx2
    have := Nat.eq_of_mul_eq_mul_left (two_pos c) hx2
    rw [two_succ, Nat.mul_left_comm] at this
    omega
/-- One level down from p = anc x (m + 1). -/
theorem anc_down (x c i m : Nat) (hN : Nd x c i) (hc : c ≤ m) :
    2 ^ m ≤ anc x (m + 1) ∧ (x < anc x (m + 1) → anc x m = anc x (m + 1) - 2 ^ m) ∧ (¬ x < anc x (m + 1) → anc x m = anc x (m + 1) + 2 ^ m) := by
  have hs := two_succ m
  have hs2 := two_succ (m + 1)
  have hp := two_pos m
  have e1 : x / 2 ^ (m + 1 + 1) = x / 2 ^ (m + 1) / 2 := by rw [div_div_pow x (m + 1) (m + 1 + 1) (by omega), show m + 1 + 1 - (m + 1) = 1 by omega, Nat.pow_one]
  have hw := (within_iff hN (anc_nd x m)).2 ⟨hc, rfl⟩
  unfold anc at *
  rw [e1]
  generalize x / 2 ^ (m + 1) = q at *
  have hq : q / 2 * 2 ^ (m + 1 + 1) = 2 * (q / 2) * 2 ^ (m + 1) := by rw [hs2]; rw [Nat.mul_left_comm, Nat.mul_assoc]
  rw [hq]
  have hd : q = 2 * (q / 2) ∨ q = 2 * (q / 2) + 1 := by omega
  rcases hd with hd | hd
  · have e2 : q * 2 ^ (m + 1) = 2 * (q / 2) * 2 ^ (m + 1) := by rw [← hd]
    omega
  · have e2 : q * 2 ^ (m + 1) = 2 * (q / 2) * 2 ^ (m + 1) + 2 ^ (m + 1) := by
      rw [← Nat.succ_mul, Nat.succ_eq_add_one, ← hd]
    omega
/-! trees -/
/-- Is there a tree of so many leaves? -/
def isT (l : Int) : Bool := decide (∃ d : Nat, d ≤ 30 ∧ l = ((2 ^ d : Nat) : Int))
theorem isT_pow (d : Nat) (h : d ≤ 30) : isT ((2 ^ d : Nat) : Int) = true := decide_eq_true ⟨d, h, rfl⟩
theorem isT_iff {l : Int} : isT l = true ↔ ∃ d : Nat, d ≤ 30 ∧ l = ((2 ^ d : Nat) : Int) := by unfold isT; exact decide_eq_true_iff
theorem pow_le {d : Nat} (h : d ≤ 30) : 2 ^ d ≤ 1073741824 := by
  have : 2 ^ d ≤ 2 ^ 30 := Nat.pow_le_pow_right (by decide) h
  omega
theorem isT_low {l : Int} (h : l ≤ 0) : isT l = false := by
  cases e : isT l with
  | false => rfl
  | true =>
    obtain ⟨d, _, rfl⟩ := isT_iff.1 e
    have := two_pos d
    omega
theorem isT_high {l : Int} (h : 1073741824 < l) : isT l = false := by
  cases e : isT l with
  | false => rfl
  | true =>
    obtain ⟨d, hd, rfl⟩ := isT_iff.1 e
    have := pow_le hd
    omega
theorem isT_mid (l : Int) (h0 : 0 < l) (h : l ≤ 1073741824) : (bits .and .i64 l (l - 1) == 0) = isT l := by
  obtain ⟨n, rfl⟩ := Int.eq_ofNat_of_zero_le (show 0 ≤ l by omega)
  have := tree_num n (by omega) (by omega)
  rw [show ((n : Int) - 1) = ((n - 1 : Nat) : Int) by omega, this]
  unfold isT
  congr 1
  rw [eq_iff_iff]
  constructor
  · rintro ⟨d, hd, e⟩; exact ⟨d, hd, by omega⟩
  · rintro ⟨d, hd, e⟩; exact ⟨d, hd, by omega⟩
/-- Is a node in it? -/
def inT (x l : Int) : Bool := isT l && (decide (0 ≤ x) && decide (x < 2 * l - 1))
theorem inT_iff {x l : Int} : inT x l = true ↔ ∃ n d : Nat, d ≤ 30 ∧ l = ((2 ^ d : Nat) : Int) ∧ x = n ∧ n + 1 < 2 ^ (d + 1) := by
  unfold inT
  simp only [Bool.and_eq_true, decide_eq_true_eq]
  constructor
  · rintro ⟨h, h0, h1⟩
    obtain ⟨d, hd, rfl⟩ := isT_iff.1 h
    obtain ⟨n, rfl⟩ := Int.eq_ofNat_of_zero_le h0
    exact ⟨n, d, hd, rfl, rfl, by rw [two_succ]; omega⟩
  · rintro ⟨n, d, hd, rfl, rfl, h⟩
    rw [two_succ] at h
    exact ⟨isT_pow d hd, by omega, by omega⟩
theorem inT_nd {n d : Nat} (hd : d ≤ 30) (h : n + 1 < 2 ^ (d + 1)) : inT n ((2 ^ d : Nat) : Int) = true := inT_iff.2 ⟨n, d, hd, rfl, rfl, h⟩
end Go.Proofs.YtopkanokpfhmmaaDoor
