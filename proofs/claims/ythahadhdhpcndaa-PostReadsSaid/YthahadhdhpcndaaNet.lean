/- Net: its state; New, there, Send. -/
import Derived.Test.YthahadhdhpcndaaSend
namespace Go.Proofs.Ythahadhdhpcndaa
open Go Go.RowKit
set_option linter.unusedVariables false
set_option linter.unusedSimpArgs false

def prow (cs : List (Array Value)) : List Value := (cs.map Array.toList).flatten
theorem prow_snoc (cs : List (Array Value)) (c : Array Value) : prow (cs ++ [c]) = prow cs ++ c.toList := by simp [prow]
/-- The net at block g, its packets in the row v. -/
structure NetI (w : World) (B g : Nat) (v : Value) (cs : List (Array Value)) (L : List PackD) : Prop where
  blk : w.heap[g]? = some (.cells #[.bool true, v] 63 (0, 0))
  lo : B ≤ g
  hB : B ≤ w.heap.size
  len : cs.length = L.length
  row : w.ownsRow B 44 57 v L.length (prow cs)
  far : v.ownBlock ≠ some g
  sub : ∀ (j : Nat) (c : Array Value) (d : PackD), cs[j]? = some c → L[j]? = some d → RdP (fun b => B ≤ b ∧ b ≠ g ∧ v.ownBlock ≠ some b) w c d
theorem NetI.below {w w' : World} {B g : Nat} {v : Value} {cs : List (Array Value)} {L : List PackD} (h : NetI w B g v cs L) (hb : Below w.heap.size w w') : NetI w' B g v cs L :=
  ⟨(hb.block g (lt_of_some h.blk)).trans h.blk, h.lo, Nat.le_trans h.hB hb.size, h.len, own_below h.row hb, h.far, fun j c d hc hd => (h.sub j c d hc hd).keep (Kn.of_below hb)⟩
theorem NetI.slice {w : World} {B g : Nat} {v : Value} {cs : List (Array Value)} {L : List PackD} (h : NetI w B g v cs L) : ∃ A c, v = .slice A L.length c := by
  rcases h.row.2 with ⟨h1, h2⟩ | ⟨b, cap, cur, h1, _⟩
  · exact ⟨none, 0, by rw [h1, h2]⟩
  · exact ⟨_, _, h1⟩
theorem NetI.c0 {w : World} {B g : Nat} {v : Value} {cs : List (Array Value)} {L : List PackD} (h : NetI w B g v cs L) : w.cell? ⟨g, 0, none⟩ = some (.bool true) := by rw [cell_of_row w g 0 _ _ _ h.blk]; rfl
theorem NetI.c1 {w : World} {B g : Nat} {v : Value} {cs : List (Array Value)} {L : List PackD} (h : NetI w B g v cs L) : w.cell? ⟨g, 1, none⟩ = some v := by rw [cell_of_row w g 1 _ _ _ h.blk]; rfl
theorem NetI.vb {w : World} {B g : Nat} {v : Value} {cs : List (Array Value)} {L : List PackD} (h : NetI w B g v cs L) (k : Nat) (hk : v.ownBlock = some k) : B ≤ k ∧ k < w.heap.size := by
  rcases h.row.2 with ⟨z, _⟩ | ⟨b, cp, cur, z1, z2, z3, _⟩
  · rw [z] at hk; cases hk
  · rw [z1] at hk
    obtain rfl : b = k := by simpa [Value.ownBlock] using hk
    exact ⟨z2, lt_of_some z3⟩
set_option maxHeartbeats 1000000 in
theorem new13 (w : World) : Calls Try.prog 13 #[] w fun e w' => e = .returned (.pointer (some ⟨w.heap.size, 0, none⟩)) ∧ NetI w' w.heap.size w.heap.size (.slice none 0 0) [] [] ∧ Below w.heap.size w w' := by
  have hb1 : Below w.heap.size w (w.alloc (.cells #[.bool true, .slice none 0 0] 63)) := (Below.refl _ _).alloc (Nat.le_refl _) _
  have hn : NetI (w.alloc (.cells #[.bool true, .slice none 0 0] 63)) w.heap.size w.heap.size (.slice none 0 0) [] [] :=
    ⟨heap_alloc_new w _, Nat.le_refl _, hb1.size, rfl, by simp [prow]; exact World.ownsRow_nil _ _ _ _, by simp [Value.ownBlock], fun j c d hc => by simp at hc⟩
  have H := Lib.hid (And.intro hn hb1)
  clear hn hb1
  go_enter Try.func13, Try.ntmps13
  go_wp2
  go_ret
  exact ⟨rfl, H.out.1, H.out.2⟩
set_option maxHeartbeats 1000000 in
theorem there38 (w : World) (g : Nat) (h : w.cell? ⟨g, 0, none⟩ = some (.bool true)) : Calls Try.prog 38 #[.pointer (some ⟨g, 0, none⟩)] w fun e w' => e = .returned (.bool true) ∧ w' = w := by
  go_enter Try.func38, Try.ntmps38
  go_wp2
  go_ret
  exact ⟨rfl, rfl⟩
set_option maxHeartbeats 1000000 in
theorem len16 {w : World} {B g : Nat} {v : Value} {cs : List (Array Value)} {L : List PackD} (h : NetI w B g v cs L) : Calls Try.prog 16 #[.pointer (some ⟨g, 0, none⟩)] w fun e w' => e = .returned (.int .i64 L.length) ∧ w' = w := by
  have M := there38 w g h.c0
  obtain ⟨A, c, rfl⟩ := h.slice
  have c1 := h.c1
  clear h
  go_enter Try.func16, Try.ntmps16
  go_wp2_with (with_reducible refine M.mono ?_; rintro e w' ⟨rfl, rfl⟩)
  go_ret
  exact ⟨rfl, rfl⟩
set_option maxHeartbeats 1000000 in
theorem at41 {w : World} {B g : Nat} {v : Value} {cs : List (Array Value)} {L : List PackD} (h : NetI w B g v cs L) (i : Int) : Calls Try.prog 41 #[.pointer (some ⟨g, 0, none⟩), .int .i64 i] w fun e w' => e = .returned (.int .i64 (if 0 ≤ i ∧ i < L.length then 0 else 7)) ∧ w' = w := by
  have M := there38 w g h.c0
  obtain ⟨A, c, rfl⟩ := h.slice
  have c1 := h.c1
  clear h
  by_cases i0 : i < 0
  · have e0 : decide (i < 0) = true := decide_eq_true i0
    have hz : (if 0 ≤ i ∧ i < (L.length : Int) then (0 : Int) else 7) = 7 := if_neg (by omega)
    rw [hz]
    clear hz
    go_enter Try.func41, Try.ntmps41
    go_wp2_with (with_reducible refine M.mono ?_; rintro e w' ⟨rfl, rfl⟩)
    go_ret
    exact ⟨rfl, rfl⟩
  have e0 : decide (i < 0) = false := decide_eq_false i0
  by_cases i1 : i ≥ (L.length : Int)
  · have e1 : decide (i ≥ (L.length : Int)) = true := decide_eq_true i1
    have hz : (if 0 ≤ i ∧ i < (L.length : Int) then (0 : Int) else 7) = 7 := if_neg (by omega)
    rw [hz]
    clear hz
    go_enter Try.func41, Try.ntmps41
    go_wp2_with (with_reducible refine M.mono ?_; rintro e w' ⟨rfl, rfl⟩)
    go_ret
    exact ⟨rfl, rfl⟩
  have e1 : decide (i ≥ (L.length : Int)) = false := decide_eq_false i1
  have hz : (if 0 ≤ i ∧ i < (L.length : Int) then (0 : Int) else 7) = 0 := if_pos (by omega)
  rw [hz]
  clear hz
  go_enter Try.func41, Try.ntmps41
  go_wp2_with (with_reducible refine M.mono ?_; rintro e w' ⟨rfl, rfl⟩)
  go_ret
  exact ⟨rfl, rfl⟩
end Go.Proofs.Ythahadhdhpcndaa
