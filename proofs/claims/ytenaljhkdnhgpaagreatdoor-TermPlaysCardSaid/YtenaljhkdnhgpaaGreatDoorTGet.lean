/- New, Get, Len of a store. -/
import Derived.Test.YtenaljhkdnhgpaaGreatDoorTMk
namespace Go.Proofs.YtenaljhkdnhgpaaGreatDoor.T
open Go.RowKit

theorem new (w : World) : Calls Tryz.prog 26 #[] w fun e w' => ∃ g m v, e = .returned (.pointer (some ⟨g, 0, none⟩)) ∧ St w' w.heap.size g m [] v ∧ Below w.heap.size w w' := by
  have hmk : (Instr.makeMap 88 none).run Tryz.prog w = .ok (.map (some w.heap.size)) (w.alloc (.map #[] 0)) := by
    simp [Instr.makeMap, go_sem]
  go_enter Tryz.func26, Tryz.ntmps26
  go_wp2
  go_ret
  have hb1 := heap_alloc_new (w.alloc (.map #[] 0)) (.cells #[.slice none 0 0, .map (some w.heap.size)] 90)
  rw [show (w.alloc (.map #[] 0)).heap.size = w.heap.size + 1 by simp] at hb1
  refine ⟨_, _, .slice none 0 0, rfl, ⟨?_, ?_, ?_, hb1, World.ownsRow_nil _ _ _ _, ?_⟩, ((Below.refl _ _).alloc (Nat.le_refl _) _).alloc (by simp) _⟩
  · omega
  · exact Nat.le_refl _
  · simp
    omega
  · exact ⟨_, (World.ownsMap_made w Tryz.prog 69 _).alloc _, fun t kl _ z => rfl⟩
theorem len (B g m : Nat) (L : List Tm) (v : Value) (w : World) (h : St w B g m L v) : Calls Tryz.prog 6 #[.pointer (some ⟨g, 0, none⟩)] w fun e w' => e = .returned (.int .i64 L.length) ∧ w = w' := by
  obtain ⟨A, c, rfl⟩ := h.slice
  exact len_yes g m L.length c A w h.c0 h.c1
theorem St.len_le {B g m : Nat} {L : List Tm} {v : Value} {w : World} (h : St w B g m L v) : L.length ≤ 9223372036854775807 := by
  rcases h.row.2 with ⟨_, h2⟩ | ⟨g', cap, cur, h1, _, h3, h4, h5, _⟩
  · omega
  · unfold maxLen at h5
    omega
theorem rowOf_get (L : List Tm) (i : Nat) (t : Tm) (h : L[i]? = some t) (j : Nat) (hj : j < 4) : (rowOf L)[i * 4 + j]? = t.cs[j]? := by
  induction L generalizing i with
  | nil => simp at h
  | cons x L ih =>
    have e : rowOf (x :: L) = x.cs ++ rowOf L := rfl
    have hx : x.cs.length = 4 := rfl
    rw [e]
    cases i with
    | zero =>
      obtain rfl : x = t := by simpa using h
      rw [List.getElem?_append_left (by rw [hx]; omega)]
      congr 1
      omega
    | succ i =>
      rw [List.getElem?_append_right (by rw [hx]; omega), hx, ← ih i (by simpa using h)]
      congr 1
      omega
theorem rowOf_length (L : List Tm) : (rowOf L).length = L.length * 4 := by
  induction L with
  | nil => rfl
  | cons x L ih =>
    have e : rowOf (x :: L) = x.cs ++ rowOf L := rfl
    rw [e, List.length_append, ih, List.length_cons]
    show 4 + _ = _
    omega
theorem row_cell {w : World} {B b n c : Nat} {L : List Tm} (h : w.ownsRow B 69 4 (.slice (some ⟨b, 0, none⟩) n c) n (rowOf L)) (hn : n = L.length) (i : Nat) (t : Tm) (hi : L[i]? = some t) (j : Nat) (hj : j < 4) : w.cell? ⟨b, i * 4 + j, none⟩ = t.cs[j]? := by
  have hlt : i < L.length := (List.getElem?_eq_some_iff.1 hi).1
  rw [h.cellAt (i * 4 + j) (by omega), rowOf_get L i t hi j hj]
theorem get_in (B g m : Nat) (L : List Tm) (v : Value) (i : Nat) (t : Tm) (hi : L[i]? = some t) (w : World) (h : St w B g m L v) :
    Calls Tryz.prog 7 #[.pointer (some ⟨g, 0, none⟩), .int .i64 ((i : Int) + 1)] w fun e w' => e = .returned (.tuple #[t.v, .bool true]) ∧ Below w.heap.size w w' := by
  have hlt : i < L.length := (List.getElem?_eq_some_iff.1 hi).1
  obtain ⟨b, c, rfl, hb, hbl⟩ := h.row.form (by omega)
  have hbb : Below w.heap.size w (w.alloc (.cells #[.int .u8 0, .int .i64 0, .int .i64 0, .int .i64 0] 69)) := (Below.refl _ _).alloc (Nat.le_refl _) _
  have h1 := h.below hbb
  have hM := made_yes g m _ h1.c1
  have hT := there g L.length c _ ((i : Int) + 1) _ h1.c0
  have hr : (decide (1 ≤ (i : Int) + 1) && decide ((i : Int) + 1 ≤ L.length)) = true := by
    rw [decide_eq_true (by omega), decide_eq_true (by omega)]; rfl
  rw [hr] at hT
  have c0 := h1.c0
  have x0 := row_cell h1.row rfl i t hi 0 (by decide)
  have x1 := row_cell h1.row rfl i t hi 1 (by decide)
  have x2 := row_cell h1.row rfl i t hi 2 (by decide)
  have x3 := row_cell h1.row rfl i t hi 3 (by decide)
  have e0 : t.cs[0]? = some (.int .u8 t.k) := rfl
  have e1 : t.cs[1]? = some (.int .i64 t.n) := rfl
  have e2 : t.cs[2]? = some (.int .i64 t.a) := rfl
  have e3 : t.cs[3]? = some (.int .i64 t.b) := rfl
  rw [e0] at x0
  rw [e1] at x1
  rw [e2] at x2
  rw [e3] at x3
  have q1 : (0 : Int) ≤ (i : Int) := by omega
  have q2 : (i : Int) < (L.length : Int) := by omega
  have hlen := h.len_le
  rw [Nat.add_zero] at x0
  unfold Tm.v
  have HBB := Lib.hid hbb
  clear h h1 hr hi e0 e1 e2 e3 hbb
  go_enter Tryz.func7, Tryz.ntmps7
  go_wp2_with (first | (go_at_call 30; with_reducible refine hM.mono ?_; rintro e w' ⟨rfl, rfl⟩) | (go_at_call 31; with_reducible refine hT.mono ?_; rintro e w' ⟨rfl, rfl⟩))
  go_returns
  exact ⟨rfl, (Below.refl _ _).alloc (Nat.le_refl _) _⟩
end Go.Proofs.YtenaljhkdnhgpaaGreatDoor.T
