/- TreeFills, plainly; the boxes of a law with a tree and a member. -/
import Derived.Test.YtopkanokpfhmmaaDoorUO
import Derived.Test.YtopkanokpfhmmaaDoorUD
import Derived.Test.YtopkanokpfhmmaaDoorTL
namespace Go.Proofs.YtopkanokpfhmmaaDoor
open Go Go.RowKit
set_option linter.unusedVariables false
set_option linter.unusedSimpArgs false

/-- The boxes of the tree and of who comes in. -/
structure FB (w : World) (v : Value) (m e p : Int) (W : World) : Prop where
  bel : Below w.heap.size w W
  c0 : W.cell? ⟨w.heap.size, 0, none⟩ = some v
  a0 : W.cell? ⟨w.heap.size + 1, 0, none⟩ = some (.int .i64 m)
  a1 : W.cell? ⟨w.heap.size + 1, 1, none⟩ = some (.int .i64 e)
  a2 : W.cell? ⟨w.heap.size + 1, 2, none⟩ = some (.int .i64 p)
  lt : w.heap.size + 1 < W.heap.size
theorem FB.start (w : World) (v : Value) (m e p : Int) : FB w v m e p ((w.alloc (.cells #[v] 24)).alloc (.cells #[.int .i64 m, .int .i64 e, .int .i64 p] 26)) := by
  have h0 : ((w.alloc (.cells #[v] 24)).alloc (.cells #[.int .i64 m, .int .i64 e, .int .i64 p] 26)).heap[w.heap.size]? = some (.cells #[v] 24 (0, 0)) := by
    rw [Below.heap_alloc _ _ _ (by simp)]
    exact heap_alloc_new _ _
  have h1 : ((w.alloc (.cells #[v] 24)).alloc (.cells #[.int .i64 m, .int .i64 e, .int .i64 p] 26)).heap[w.heap.size + 1]? = some (.cells #[.int .i64 m, .int .i64 e, .int .i64 p] 26 (0, 0)) := by
    have := heap_alloc_new (w.alloc (.cells #[v] 24)) (.cells #[.int .i64 m, .int .i64 e, .int .i64 p] 26)
    rw [show (w.alloc (.cells #[v] 24)).heap.size = w.heap.size + 1 by simp] at this
    exact this
  refine ⟨((Below.refl _ _).alloc (Nat.le_refl _) _).alloc (by simp) _, ?_, ?_, ?_, ?_, by simp⟩
  · rw [cell_of_row _ _ _ _ _ _ h0]; rfl
  · rw [cell_of_row _ _ _ _ _ _ h1]; rfl
  · rw [cell_of_row _ _ _ _ _ _ h1]; rfl
  · rw [cell_of_row _ _ _ _ _ _ h1]; rfl
theorem FB.under {w : World} {v : Value} {m e p : Int} {W W' : World} (h : FB w v m e p W) (hb : Below W.heap.size W W') : FB w v m e p W' := by
  have hl := h.lt
  refine ⟨h.bel.trans (hb.mono h.bel.size), ?_, ?_, ?_, ?_, Nat.lt_of_lt_of_le h.lt hb.size⟩
  · rw [hb.cell (by show w.heap.size < _; omega)]; exact h.c0
  · rw [hb.cell (by show w.heap.size + 1 < _; omega)]; exact h.a0
  · rw [hb.cell (by show w.heap.size + 1 < _; omega)]; exact h.a1
  · rw [hb.cell (by show w.heap.size + 1 < _; omega)]; exact h.a2
theorem sizeM_ok {d n : Nat} {F : Nat → Node} (h : Ok d n F) : sizeM n F = 2 ^ d := by
  unfold sizeM
  rw [chk_iff.2 (.inr ⟨d, h⟩), if_pos rfl, h.lvs]
/-- What the law says. -/
structure FillsP (n : Nat) (F : Nat → Node) (a : Addx) (L N k i : Nat) (G : Nat → Node) : Prop where
  size : sizeM (2 * N - 1) G = N
  small : L ≤ 8 ∧ N ≤ 8 ∧ i < N ∧ i ≤ L ∧ 2 * L ≤ n + 1 ∧ n ≤ 15
  full : (k = L ∧ L < N ∧ i = k) ∨ (k < L ∧ N = L)
  taken : ∀ j, j < i → 2 * j < n ∧ (F (2 * j)).pub ≠ 0
  others : ∀ j, j < L → j ≠ i → 2 * j < n ∧ 2 * j < 2 * N - 1 ∧ G (2 * j) = F (2 * j)
  it : G (2 * i) = ⟨a.pub, a.mem, a.ep, []⟩
theorem fillsP {n : Nat} {F : Nat → Node} {a : Addx} (h : addE n F a = 0) :
    FillsP n F a (sizeM n F) (addN n F) (memL F (sizeM n F)).length (fb F (lvs n)) (addF n F (lg (addN n F)) (fb F (lvs n)) a) := by
  obtain ⟨d, hd, hN, hlg, hat, hn, hcase⟩ := add_facts h
  obtain ⟨hz, -, -, -, -, -⟩ := chk_false_add h
  obtain ⟨d', hlg', hN', hO⟩ := add_ok h
  have hp := pow3 hd
  have h3 := two_succ d
  have hL : sizeM n F = lvs n := by unfold sizeM; rw [hz, if_pos rfl]
  have hle := fb_le F (lvs n)
  have hlen := memL_length F (lvs n)
  have hcnt := memL_count (F := F) (lvs n)
  have hfull := fb_full (F := F) (n := lvs n)
  have hnl : 2 * lvs n ≤ n + 1 ∧ n ≤ 2 * lvs n ∧ n ≤ 15 := by
    rcases chk_iff.1 hz with rfl | ⟨d2, hO2⟩
    · exact ⟨by decide, by decide, by decide⟩
    · have := hO2.lvs; have := hO2.hn; have := two_succ d2; have := pow3 hO2.hd; omega
  rw [hL]
  refine ⟨?_, ⟨by omega, by omega, by omega, hle, hnl.1, hnl.2.2⟩, ?_, fun j hj => ⟨by omega, by have := fb_pos hj; omega⟩, fun j hj hne => ⟨by omega, by omega, ?_⟩, ?_⟩
  · rw [hlg', sizeM_ok hO, hN']
  · rcases hcase with ⟨c1, c2, c3⟩ | ⟨c1, c2⟩
    · have := hcnt.2 (hfull.1 c1)
      exact .inl ⟨this, by omega, by omega⟩
    · refine .inr ⟨?_, by omega⟩
      by_cases e : (memL F (lvs n)).length = lvs n
      · have := hfull.2 (hcnt.1 e); omega
      · omega
  · unfold addF
    rw [if_neg (by omega), if_neg (fun hc => by rw [hlg] at hc; have := (dirs_odd hd hat hc.1).1; omega)]
    unfold pad
    rw [if_pos (by omega)]
  · unfold addF
    rw [if_pos rfl]
end Go.Proofs.YtopkanokpfhmmaaDoor
