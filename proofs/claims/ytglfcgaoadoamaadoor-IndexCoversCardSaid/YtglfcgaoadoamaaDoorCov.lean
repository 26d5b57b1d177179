/- The numbers of the law IndexCovers. -/
import Derived.Test.YtglfcgaoadoamaaDoorNodes
namespace Go.Proofs.YtglfcgaoadoamaaDoor
open Go.RowKit

/-- The index, at its level, of the sibling of the node above x at level k. -/
def sibI (x k : Nat) : Nat := if x / 2 ^ (k + 1) % 2 = 0 then x / 2 ^ (k + 1) + 1 else x / 2 ^ (k + 1) - 1
def sibN (x k : Nat) : Nat := sibI x k * 2 ^ (k + 1) + (2 ^ k - 1)
theorem sibN_nd (x k : Nat) : Nd (sibN x k) k (sibI x k) := Nd.of_eq rfl
theorem div_next (x k : Nat) : x / 2 ^ (k + 2) = x / 2 ^ (k + 1) / 2 := by rw [Nat.pow_succ 2 (k + 1), Nat.div_div_eq_div_mul]
theorem sibN_eq (x k : Nat) : 2 * ((anc x (k + 1) : Nat) : Int) - ((anc x k : Nat) : Int) = ((sibN x k : Nat) : Int) := by
  have hs1 := two_succ k
  have hs2 : 2 ^ (k + 2) = 2 * 2 ^ (k + 1) := two_succ (k + 1)
  have hp := two_pos k
  have hn := div_next x k
  unfold anc sibN sibI
  rw [show k + 1 + 1 = k + 2 by omega, hn]
  generalize x / 2 ^ (k + 1) = q
  split
  · obtain ⟨r, rfl⟩ : ∃ r, q = 2 * r := ⟨q / 2, by omega⟩
    rw [show 2 * r / 2 = r by omega, show 2 ^ (k + 2) = 4 * 2 ^ k by omega, hs1, Nat.add_mul]
    have e1 : r * (4 * 2 ^ k) = 4 * (r * 2 ^ k) := by rw [Nat.mul_left_comm]
    have e2 : 2 * r * (2 * 2 ^ k) = 4 * (r * 2 ^ k) := by rw [Nat.mul_mul_mul_comm]
    rw [e1, e2]
    generalize r * 2 ^ k = u
    generalize 2 ^ k = v at *
    omega
  · obtain ⟨r, rfl⟩ : ∃ r, q = 2 * r + 1 := ⟨q / 2, by omega⟩
    rw [show (2 * r + 1) / 2 = r by omega, show 2 ^ (k + 2) = 4 * 2 ^ k by omega, hs1, show 2 * r + 1 - 1 = 2 * r by omega, Nat.add_mul]
    have e1 : r * (4 * 2 ^ k) = 4 * (r * 2 ^ k) := by rw [Nat.mul_left_comm]
    have e2 : 2 * r * (2 * 2 ^ k) = 4 * (r * 2 ^ k) := by rw [Nat.mul_mul_mul_comm]
    rw [e1, e2]
    generalize r * 2 ^ k = u
    generalize 2 ^ k = v at *
    omega
/-- The nodes of the list: x, then its copath; their levels and indices. -/
def ndAt (x c : Nat) : Nat → Nat
  | 0 => x
  | i + 1 => sibN x (c + i)
def lvAt (c : Nat) : Nat → Nat
  | 0 => c
  | i + 1 => c + i
def ixAt (x c j : Nat) : Nat → Nat
  | 0 => j
  | i + 1 => sibI x (c + i)
theorem ndAt_nd (x c j : Nat) (h : Nd x c j) : ∀ i, Nd (ndAt x c i) (lvAt c i) (ixAt x c j i)
  | 0 => h
  | _ + 1 => sibN_nd _ _
theorem pathL (x c n : Nat) : (x : Int) :: coL x c n = (List.range (n + 1)).map fun i => ((ndAt x c i : Nat) : Int) := by
  rw [List.range_succ_eq_map, List.map_cons, List.map_map]
  congr 1
  unfold coL
  apply List.map_congr_left
  intro i _
  exact sibN_eq x (c + i)
theorem pathL_get (x c n i : Nat) (h : i < n + 1) : ((x : Int) :: coL x c n)[i]? = some ((ndAt x c i : Nat) : Int) := by rw [pathL]; simp [h]

/-- Leaf q has been met by the first i nodes. -/
def met (x c : Nat) (i q : Nat) : Int :=
  match i with
  | 0 => 0
  | i + 1 => if q / 2 ^ (c + i) = x / 2 ^ (c + i + 1) then 1 else 0
/-- Leaf q is one of node i's. -/
def mine (x c j i q : Nat) : Int := if q / 2 ^ lvAt c i = ixAt x c j i then 1 else 0
theorem met_succ (x c j i q : Nat) (h : Nd x c j) : met x c (i + 1) q = met x c i q + mine x c j i q := by
  cases i with
  | zero =>
    simp only [met, mine, lvAt, ixAt, Nat.add_zero, h.div]
    omega
  | succ i =>
    have hq : q / 2 ^ (c + i + 1) = q / 2 ^ (c + i) / 2 := by rw [Nat.pow_succ 2 (c + i), Nat.div_div_eq_div_mul]
    have hx := div_next x (c + i)
    have key : (q / 2 ^ (c + i + 1) = x / 2 ^ (c + i + 2) ↔ q / 2 ^ (c + i) = x / 2 ^ (c + i + 1) ∨ q / 2 ^ (c + i) = sibI x (c + i)) ∧ ¬ (q / 2 ^ (c + i) = x / 2 ^ (c + i + 1) ∧ q / 2 ^ (c + i) = sibI x (c + i)) := by
      rw [hq, hx]
      unfold sibI
      generalize x / 2 ^ (c + i + 1) = Q
      generalize q / 2 ^ (c + i) = r
      split <;> omega
    show (if q / 2 ^ (c + i + 1) = x / 2 ^ (c + i + 2) then (1 : Int) else 0) = (if q / 2 ^ (c + i) = x / 2 ^ (c + i + 1) then 1 else 0) + (if q / 2 ^ (c + i) = sibI x (c + i) then 1 else 0)
    by_cases h1 : q / 2 ^ (c + i) = x / 2 ^ (c + i + 1)
    · rw [if_pos (key.1.2 (.inl h1)), if_pos h1, if_neg (fun h2 => key.2 ⟨h1, h2⟩)]
      rfl
    · by_cases h2 : q / 2 ^ (c + i) = sibI x (c + i)
      · rw [if_pos (key.1.2 (.inr h2)), if_neg h1, if_pos h2]
        rfl
      · rw [if_neg (fun h => (key.1.1 h).elim h1 h2), if_neg h1, if_neg h2]
        rfl
theorem met_zero (x c j i q : Nat) (h : Nd x c j) (hm : mine x c j i q = 1) : met x c i q = 0 := by
  have := met_succ x c j i q h
  have h1 : met x c (i + 1) q ≤ 1 := by simp only [met]; split <;> omega
  have h0 : 0 ≤ met x c i q := by cases i <;> simp only [met] <;> (try split) <;> omega
  omega
theorem met_all (x c d q : Nat) (hc : c ≤ d) (hq : q < 2 ^ d) (hx : x + 1 < 2 ^ (d + 1)) : met x c (d - c + 1) q = 1 := by
  simp only [met]
  rw [show c + (d - c) = d by omega, Nat.div_eq_of_lt hq, Nat.div_eq_of_lt (by omega), if_pos rfl]
theorem mine_iff (x c j i q : Nat) : mine x c j i q = if ixAt x c j i * 2 ^ lvAt c i ≤ q ∧ q < ixAt x c j i * 2 ^ lvAt c i + 2 ^ lvAt c i then 1 else 0 := by
  unfold mine
  have hp := two_pos (lvAt c i)
  generalize ixAt x c j i = s
  have : q / 2 ^ lvAt c i = s ↔ s * 2 ^ lvAt c i ≤ q ∧ q < s * 2 ^ lvAt c i + 2 ^ lvAt c i := by
    rw [Nat.div_eq_iff hp]
    generalize s * 2 ^ lvAt c i = u
    generalize 2 ^ lvAt c i = v at *
    omega
  simp only [this]
theorem span_in (x c j d i : Nat) (hN : Nd x c j) (hx : x + 1 < 2 ^ (d + 1)) (hc : c ≤ d) (hi : i ≤ d - c) : ixAt x c j i * 2 ^ lvAt c i + 2 ^ lvAt c i ≤ 2 ^ d := by
  have key : ∀ k s, k ≤ d → s < 2 ^ (d - k) → s * 2 ^ k + 2 ^ k ≤ 2 ^ d := by
    intro k s hk hs
    have : (s + 1) * 2 ^ k ≤ 2 ^ (d - k) * 2 ^ k := Nat.mul_le_mul_right _ hs
    rw [← Nat.pow_add, show d - k + k = d by omega, Nat.add_mul, Nat.one_mul] at this
    exact this
  cases i with
  | zero =>
    refine key c j hc ?_
    rw [← hN.div, Nat.div_lt_iff_lt_mul (two_pos _), ← Nat.pow_add, show d - c + (c + 1) = d + 1 by omega]
    omega
  | succ i =>
    refine key (c + i) (sibI x (c + i)) (by omega) ?_
    have h2 : x / 2 ^ (c + i + 2) < 2 ^ (d - (c + i) - 1) := by
      rw [Nat.div_lt_iff_lt_mul (two_pos _), ← Nat.pow_add, show d - (c + i) - 1 + (c + i + 2) = d + 1 by omega]
      omega
    rw [div_next] at h2
    have h3 := two_succ (d - (c + i) - 1)
    rw [show d - (c + i) - 1 + 1 = d - (c + i) by omega] at h3
    rw [h3]
    unfold sibI
    generalize x / 2 ^ (c + i + 1) = Q at *
    generalize 2 ^ (d - (c + i) - 1) = u at *
    split <;> omega
theorem node_lt (x c j d i : Nat) (hN : Nd x c j) (hx : x + 1 < 2 ^ (d + 1)) (hc : c ≤ d) (hi : i ≤ d - c) : ndAt x c i < 2 ^ (d + 1) := by
  have h1 := span_in x c j d i hN hx hc hi
  have h2 := (ndAt_nd x c j hN i).eq
  have h3 := two_succ (lvAt c i)
  have h4 := two_succ d
  have h5 := two_pos (lvAt c i)
  rw [h3, Nat.mul_left_comm] at h2
  generalize ixAt x c j i * 2 ^ lvAt c i = u at *
  omega
theorem lvAt_le (c d i : Nat) (hc : c ≤ d) (hi : i ≤ d - c) : lvAt c i ≤ d := by cases i <;> simp only [lvAt] <;> omega

/-- n numbers: f's. -/
def ML (n : Nat) (f : Nat → Int) : List Int := (List.range n).map f
theorem ML_length (n : Nat) (f : Nat → Int) : (ML n f).length = n := by simp [ML]
theorem ML_get (n : Nat) (f : Nat → Int) (i : Nat) (h : i < n) : (ML n f)[i]? = some (f i) := by simp [ML, h]
theorem ML_ext {n : Nat} {f g : Nat → Int} (h : ∀ i, i < n → f i = g i) : ML n f = ML n g := List.map_congr_left fun i hi => h i (List.mem_range.1 hi)
theorem ML_set (n : Nat) (f : Nat → Int) (i : Nat) (u : Int) : (ML n f).set i u = ML n fun q => if q = i then u else f q := by
  apply List.ext_getElem?
  intro k
  rw [List.getElem?_set]
  by_cases hk : k < n
  · by_cases e : i = k
    · subst e
      rw [if_pos rfl, ML_length, if_pos hk, ML_get _ _ _ hk, if_pos rfl]
    · rw [if_neg e, ML_get _ _ _ hk, ML_get _ _ _ hk, if_neg (fun h => e h.symm)]
  · rw [List.getElem?_eq_none (l := ML n _) (by rw [ML_length]; omega), List.getElem?_eq_none (l := ML n _) (by rw [ML_length]; omega)]
    split <;> (try split) <;> first | rfl | (rename_i h1 h2; rw [ML_length] at h2; omega)
end Go.Proofs.YtglfcgaoadoamaaDoor
