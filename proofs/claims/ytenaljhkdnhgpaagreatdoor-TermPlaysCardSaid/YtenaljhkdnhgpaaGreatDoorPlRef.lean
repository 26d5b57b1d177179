/- The document's Get, and its Dag of any number. -/
import Derived.Test.YtenaljhkdnhgpaaGreatDoorTRDag
namespace Go.Proofs.YtenaljhkdnhgpaaGreatDoor.T
open Go.RowKit
set_option linter.unusedVariables false
set_option linter.unusedSimpArgs false

theorem rget_in (B g : Nat) (L : List Tm) (v : Value) (i : Nat) (t : Tm) (hi : L[i]? = some t) (w : World) (h : RSt w B g L v) :
    Calls Tryz.prog 8 #[.pointer (some ⟨g, 0, none⟩), .int .i64 ((i : Int) + 1)] w fun e w' => e = .returned (.tuple #[t.v, .bool true]) ∧ Below w.heap.size w w' := by
  have hlt : i < L.length := (List.getElem?_eq_some_iff.1 hi).1
  have hbb : Below w.heap.size w (w.alloc (.cells #[.int .u8 0, .int .i64 0, .int .i64 0, .int .i64 0] 69)) := (Below.refl _ _).alloc (Nat.le_refl _) _
  have hlen := h.len_le
  have h1 := h.below hbb
  obtain ⟨A, c, rfl, hA⟩ := (RT.of_own' h.row).slice
  obtain ⟨b, rfl⟩ := hA (by omega)
  have hT := rthere g L.length c _ ((i : Int) + 1) _ h1.c0
  have hr : thereB L.length ((i : Int) + 1) = true := by
    unfold thereB
    rw [decide_eq_true (by omega), decide_eq_true (by omega)]; rfl
  rw [hr] at hT
  have c0 := h1.c0
  obtain ⟨x0, x1, x2, x3⟩ := RT.cell (RT.of_own' h1.row) rfl i t hi
  have q1 : (0 : Int) ≤ (i : Int) := by omega
  have q2 : (i : Int) < (L.length : Int) := by omega
  unfold Tm.v
  have HBB := Lib.hid hbb
  clear h h1 hr hi hbb hA
  go_enter Tryz.func8, Tryz.ntmps8
  go_wp2_with (go_at_call 32; with_reducible refine hT.mono ?_; rintro e w' ⟨rfl, rfl⟩)
  go_returns
  exact ⟨rfl, (Below.refl _ _).alloc (Nat.le_refl _) _⟩
theorem rget_out (B g : Nat) (L : List Tm) (v : Value) (x : Int) (hx : thereB L.length x = false) (w : World) (h : RSt w B g L v) :
    Calls Tryz.prog 8 #[.pointer (some ⟨g, 0, none⟩), .int .i64 x] w fun e w' => e = .returned (.tuple #[.agg #[.int .u8 0, .int .i64 0, .int .i64 0, .int .i64 0], .bool false]) ∧ Below w.heap.size w w' := by
  obtain ⟨A, c, rfl⟩ := h.slice
  have hbb : Below w.heap.size w (w.alloc (.cells #[.int .u8 0, .int .i64 0, .int .i64 0, .int .i64 0] 69)) := (Below.refl _ _).alloc (Nat.le_refl _) _
  have h1 := h.below hbb
  have hT := rthere g L.length c A x _ h1.c0
  rw [hx] at hT
  clear h h1 hx hbb
  go_enter Tryz.func8, Tryz.ntmps8
  go_wp2_with (go_at_call 32; with_reducible refine hT.mono ?_; rintro e w' ⟨rfl, rfl⟩)
  go_returns
  exact ⟨rfl, (Below.refl _ _).alloc (Nat.le_refl _) _⟩
theorem rdag_out (B g : Nat) (L : List Tm) (v : Value) (x : Int) (hx : thereB L.length x = false) (w : World) (h : RSt w B g L v) :
    Calls Tryz.prog 11 #[.pointer (some ⟨g, 0, none⟩), .int .i64 x] w fun e w' => e = .returned (.slice none 0 0) ∧ Below w.heap.size w w' := by
  obtain ⟨A, c, rfl⟩ := h.slice
  have hT := rthere g L.length c A x w h.c0
  rw [hx] at hT
  clear h hx
  go_enter Tryz.func11, Tryz.ntmps11
  go_wp2_with (go_at_call 32; with_reducible refine hT.mono ?_; rintro e w' ⟨rfl, rfl⟩)
  go_ret
  exact ⟨rfl, Below.refl _ _⟩
theorem rdag_any (B g : Nat) (L : List Tm) (v : Value) (x : Int) (hg : Good L) (w : World) (h : RSt w B g L v) :
    Calls Tryz.prog 11 #[.pointer (some ⟨g, 0, none⟩), .int .i64 x] w fun e w' => ∃ v, e = .returned v ∧ w'.ownsRow w.heap.size 69 4 v (dagX L x).length (rowOf (dagX L x)) ∧ Below w.heap.size w w' := by
  by_cases hx : thereB L.length x = true
  · have h1 : 0 < x ∧ x ≤ L.length := by unfold thereB at hx; simp at hx; omega
    obtain ⟨m, rfl⟩ := Int.eq_ofNat_of_zero_le (show 0 ≤ x by omega)
    have h2 : dagX L (m : Int) = dagS L m := by unfold dagX; rw [if_pos hx]
    rw [h2]
    exact rdag hg m (by omega) (by omega) w h
  · have hx : thereB L.length x = false := by simpa using hx
    have h2 : dagX L x = [] := by unfold dagX; rw [if_neg (by rw [hx]; decide)]
    rw [h2]
    refine (rdag_out B g L v x hx w h).mono ?_
    rintro e w' ⟨rfl, hb⟩
    exact ⟨_, rfl, World.ownsRow_nil _ _ _ _, hb⟩
/-- What Get tells. -/
def getX (L : List Tm) (x : Int) : Tm × Bool := if thereB L.length x then ((L[(x - 1).toNat]?).getD ⟨0, 0, 0, 0⟩, true) else (⟨0, 0, 0, 0⟩, false)
theorem get_any (B g m : Nat) (L : List Tm) (v : Value) (x : Int) (w : World) (h : St w B g m L v) :
    Calls Tryz.prog 7 #[.pointer (some ⟨g, 0, none⟩), .int .i64 x] w fun e w' => e = .returned (.tuple #[(getX L x).1.v, .bool (getX L x).2]) ∧ Below w.heap.size w w' := by
  by_cases hx : thereB L.length x = true
  · have h1 : 0 < x ∧ x ≤ L.length := by unfold thereB at hx; simp at hx; omega
    obtain ⟨t, ht⟩ : ∃ t, L[(x - 1).toNat]? = some t := ⟨L[(x - 1).toNat]'(by omega), List.getElem?_eq_getElem _⟩
    have e : getX L x = (t, true) := by unfold getX; rw [if_pos hx, ht]; rfl
    rw [e, show x = (((x - 1).toNat : Nat) : Int) + 1 by omega]
    exact get_in B g m L v _ t ht w h
  · have hx : thereB L.length x = false := by simpa using hx
    have e : getX L x = (⟨0, 0, 0, 0⟩, false) := by unfold getX; rw [if_neg (by rw [hx]; decide)]
    rw [e]
    exact get_out B g m L v x hx w h
theorem rget_any (B g : Nat) (L : List Tm) (v : Value) (x : Int) (w : World) (h : RSt w B g L v) :
    Calls Tryz.prog 8 #[.pointer (some ⟨g, 0, none⟩), .int .i64 x] w fun e w' => e = .returned (.tuple #[(getX L x).1.v, .bool (getX L x).2]) ∧ Below w.heap.size w w' := by
  by_cases hx : thereB L.length x = true
  · have h1 : 0 < x ∧ x ≤ L.length := by unfold thereB at hx; simp at hx; omega
    obtain ⟨t, ht⟩ : ∃ t, L[(x - 1).toNat]? = some t := ⟨L[(x - 1).toNat]'(by omega), List.getElem?_eq_getElem _⟩
    have e : getX L x = (t, true) := by unfold getX; rw [if_pos hx, ht]; rfl
    rw [e, show x = (((x - 1).toNat : Nat) : Int) + 1 by omega]
    exact rget_in B g L v _ t ht w h
  · have hx : thereB L.length x = false := by simpa using hx
    have e : getX L x = (⟨0, 0, 0, 0⟩, false) := by unfold getX; rw [if_neg (by rw [hx]; decide)]
    rw [e]
    exact rget_out B g L v x hx w h
end Go.Proofs.YtenaljhkdnhgpaaGreatDoor.T
