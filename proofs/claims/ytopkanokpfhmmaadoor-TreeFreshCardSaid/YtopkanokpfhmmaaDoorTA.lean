/- Add. -/
import Derived.Test.YtopkanokpfhmmaaDoorTD
namespace Go.Proofs.YtopkanokpfhmmaaDoor
open Go Go.RowKit
set_option linter.unusedVariables false
set_option linter.unusedSimpArgs false

/-- A member as the program holds it. -/
def Addx.v (a : Addx) : Value := .agg #[.int .i64 a.mem, .int .i64 a.ep, .int .i64 a.pub]
/-- The boxes of Add: the tree, who comes in, the answer. -/
structure AddB (w : World) (v : Value) (m e p : Int) (W : World) : Prop where
  bel : Below w.heap.size w W
  c0 : W.cell? ⟨w.heap.size, 0, none⟩ = some v
  a0 : W.cell? ⟨w.heap.size + 1, 0, none⟩ = some (.int .i64 m)
  a1 : W.cell? ⟨w.heap.size + 1, 1, none⟩ = some (.int .i64 e)
  a2 : W.cell? ⟨w.heap.size + 1, 2, none⟩ = some (.int .i64 p)
  r0 : W.cell? ⟨w.heap.size + 2, 0, none⟩ = some (.slice none 0 0)
  rf : W.frozen? ⟨w.heap.size + 2, 0, none⟩ = false
  lt : w.heap.size + 2 < W.heap.size
theorem AddB.start (w : World) (v : Value) (m e p : Int) : AddB w v m e p (((w.alloc (.cells #[v] 24)).alloc (.cells #[.int .i64 m, .int .i64 e, .int .i64 p] 26)).alloc (.cells #[.slice none 0 0] 24)) := by
  have h0 : (((w.alloc (.cells #[v] 24)).alloc (.cells #[.int .i64 m, .int .i64 e, .int .i64 p] 26)).alloc (.cells #[.slice none 0 0] 24)).heap[w.heap.size]? = some (.cells #[v] 24 (0, 0)) := by
    rw [Below.heap_alloc _ _ _ (by simp; omega), Below.heap_alloc _ _ _ (by simp)]
    exact heap_alloc_new _ _
  have h1 : (((w.alloc (.cells #[v] 24)).alloc (.cells #[.int .i64 m, .int .i64 e, .int .i64 p] 26)).alloc (.cells #[.slice none 0 0] 24)).heap[w.heap.size + 1]? = some (.cells #[.int .i64 m, .int .i64 e, .int .i64 p] 26 (0, 0)) := by
    rw [Below.heap_alloc _ _ _ (by simp)]
    have := heap_alloc_new (w.alloc (.cells #[v] 24)) (.cells #[.int .i64 m, .int .i64 e, .int .i64 p] 26)
    rw [show (w.alloc (.cells #[v] 24)).heap.size = w.heap.size + 1 by simp] at this
    exact this
  have h2 : (((w.alloc (.cells #[v] 24)).alloc (.cells #[.int .i64 m, .int .i64 e, .int .i64 p] 26)).alloc (.cells #[.slice none 0 0] 24)).heap[w.heap.size + 2]? = some (.cells #[.slice none 0 0] 24 (0, 0)) := by
    have := heap_alloc_new ((w.alloc (.cells #[v] 24)).alloc (.cells #[.int .i64 m, .int .i64 e, .int .i64 p] 26)) (.cells #[.slice none 0 0] 24)
    rw [show ((w.alloc (.cells #[v] 24)).alloc (.cells #[.int .i64 m, .int .i64 e, .int .i64 p] 26)).heap.size = w.heap.size + 2 by simp] at this
    exact this
  refine ⟨(((Below.refl _ _).alloc (Nat.le_refl _) _).alloc (by simp) _).alloc (by simp; omega) _, ?_, ?_, ?_, ?_, ?_, ?_, by simp⟩
  · rw [cell_of_row _ _ _ _ _ _ h0]; rfl
  · rw [cell_of_row _ _ _ _ _ _ h1]; rfl
  · rw [cell_of_row _ _ _ _ _ _ h1]; rfl
  · rw [cell_of_row _ _ _ _ _ _ h1]; rfl
  · rw [cell_of_row _ _ _ _ _ _ h2]; rfl
  · exact frozen_of_row _ _ _ _ _ h2
theorem AddB.under {w : World} {v : Value} {m e p : Int} {W W' : World} (h : AddB w v m e p W) (hb : Below W.heap.size W W') : AddB w v m e p W' := by
  have hl := h.lt
  refine ⟨h.bel.trans (hb.mono h.bel.size), ?_, ?_, ?_, ?_, ?_, ?_, Nat.lt_of_lt_of_le h.lt hb.size⟩
  · rw [hb.cell (by show w.heap.size < _; omega)]; exact h.c0
  · rw [hb.cell (by show w.heap.size + 1 < _; omega)]; exact h.a0
  · rw [hb.cell (by show w.heap.size + 1 < _; omega)]; exact h.a1
  · rw [hb.cell (by show w.heap.size + 1 < _; omega)]; exact h.a2
  · rw [hb.cell (by show w.heap.size + 2 < _; omega)]; exact h.r0
  · rw [hb.frozen (by show w.heap.size + 2 < _; omega)]; exact h.rf
theorem AddB.stored {w : World} {v : Value} {m e p : Int} {W : World} (h : AddB w v m e p W) (u : Value) : (W.setCell ⟨w.heap.size + 2, 0, none⟩ u).cell? ⟨w.heap.size + 2, 0, none⟩ = some u := by
  apply World.cell?_setCell_same
  exact h.r0
/-- A refusal of Add. -/
structure AddNo (w : World) (c : Int) (e : Ending) (w' : World) : Prop where
  out : e = .returned (.tuple #[.agg #[.slice none 0 0], .int .i64 0, .int .i64 c])
  bel : Below w.heap.size w w'
set_option maxHeartbeats 2000000 in
set_option maxRecDepth 100000 in
theorem add_arg (v : Value) (n : Nat) (F : Nat → Node) (a : Addx) (w : World) (hT : Tab w) (hR : TrR w v n F) (hn : n ≤ 262144) (hq : chk n F = false ∨ a.mem < 0 ∨ a.ep < 0 ∨ a.pub < 1) :
    Calls Tryd.prog 13 #[.agg #[v], a.v] w fun e w' => AddNo w 1 e w' := by
  have hC : ∀ W, Below w.heap.size w W → Calls Tryd.prog 10 #[.agg #[v]] W fun e w' => e = .returned (.int .i64 (errB (chk n F))) ∧ Below W.heap.size W w' := fun W hW =>
    check10 v n F W (hT.below hT.pos hW) (hR.below hW) (by omega)
  obtain ⟨A, c, rfl, -, -, -⟩ := hR
  obtain ⟨m, e, p⟩ := a
  unfold Addx.v
  simp only at hq ⊢
  have hB0 := AddB.start w (.slice A n c) m e p
  have HB0 := Lib.hid hB0
  cases hz : chk n F with
  | false =>
    rw [hz, errB_false] at hC
    clear hq hz
    go_enter Tryd.func13, Tryd.ntmps13
    go_wp2_with (go_at_call 10; refine (hC _ HB0.out.bel).mono ?_; rintro e' w1 ⟨rfl, hb1⟩; obtain ⟨d0, d1, d2, d3, d4, d5, d6, d7⟩ := HB0.out.under hb1)
    have d8 := (HB0.out.under hb1).stored
    refine bodyPost_ret (by simp [results, Tryd.results13, go_sem, d8]; rfl) rfl ?_
    exact ⟨rfl, d0.setCell (by show w.heap.size ≤ w.heap.size + 2; omega) _⟩
  | true =>
    rw [hz, errB_true] at hC
    rw [hz] at hq
    by_cases h1 : m < 0
    · have t1 : decide (m < 0) = true := decide_eq_true h1
      clear hq hz h1
      go_enter Tryd.func13, Tryd.ntmps13
      go_wp2_with (go_at_call 10; refine (hC _ HB0.out.bel).mono ?_; rintro e' w1 ⟨rfl, hb1⟩; obtain ⟨d0, d1, d2, d3, d4, d5, d6, d7⟩ := HB0.out.under hb1)
      have d8 := (HB0.out.under hb1).stored
      refine bodyPost_ret (by simp [results, Tryd.results13, go_sem, d8]; rfl) rfl ?_
      exact ⟨rfl, d0.setCell (by show w.heap.size ≤ w.heap.size + 2; omega) _⟩
    · have t1 : decide (m < 0) = false := decide_eq_false h1
      by_cases h2 : e < 0
      · have t2 : decide (e < 0) = true := decide_eq_true h2
        clear hq hz h1 h2
        go_enter Tryd.func13, Tryd.ntmps13
        go_wp2_with (go_at_call 10; refine (hC _ HB0.out.bel).mono ?_; rintro e' w1 ⟨rfl, hb1⟩; obtain ⟨d0, d1, d2, d3, d4, d5, d6, d7⟩ := HB0.out.under hb1)
        have d8 := (HB0.out.under hb1).stored
        refine bodyPost_ret (by simp [results, Tryd.results13, go_sem, d8]; rfl) rfl ?_
        exact ⟨rfl, d0.setCell (by show w.heap.size ≤ w.heap.size + 2; omega) _⟩
      · have t2 : decide (e < 0) = false := decide_eq_false h2
        have t3 : decide (p < 1) = true := decide_eq_true (by simp at hq; omega)
        clear hq hz h1 h2
        go_enter Tryd.func13, Tryd.ntmps13
        go_wp2_with (go_at_call 10; refine (hC _ HB0.out.bel).mono ?_; rintro e' w1 ⟨rfl, hb1⟩; obtain ⟨d0, d1, d2, d3, d4, d5, d6, d7⟩ := HB0.out.under hb1)
        have d8 := (HB0.out.under hb1).stored
        refine bodyPost_ret (by simp [results, Tryd.results13, go_sem, d8]; rfl) rfl ?_
        exact ⟨rfl, d0.setCell (by show w.heap.size ≤ w.heap.size + 2; omega) _⟩
set_option maxHeartbeats 2000000 in
set_option maxRecDepth 100000 in
theorem add_twice (v : Value) (n : Nat) (F : Nat → Node) (a : Addx) (w : World) (hT : Tab w) (hR : TrR w v n F) (hn : n ≤ 262144) (hz : chk n F = true) (hm : 0 ≤ a.mem) (he : 0 ≤ a.ep) (hp : 1 ≤ a.pub) (hq : 0 ≤ findM F a.mem (sizeM n F)) :
    Calls Tryd.prog 13 #[.agg #[v], a.v] w fun e w' => AddNo w 13 e w' := by
  have hC : ∀ W, Below w.heap.size w W → Calls Tryd.prog 10 #[.agg #[v]] W fun e w' => e = .returned (.int .i64 (errB (chk n F))) ∧ Below W.heap.size W w' := fun W hW =>
    check10 v n F W (hT.below hT.pos hW) (hR.below hW) (by omega)
  have hF : ∀ W, Below w.heap.size w W → Calls Tryd.prog 15 #[.agg #[v], .int .i64 a.mem] W fun e w' => e = .returned (.int .i64 (findM F a.mem (sizeM n F))) ∧ Below W.heap.size W w' := fun W hW =>
    find15 v n F a.mem W (hT.below hT.pos hW) (hR.below hW) hn
  obtain ⟨A, c, rfl, -, -, -⟩ := hR
  obtain ⟨m, e, p⟩ := a
  unfold Addx.v
  simp only at hm he hp hq hF ⊢
  have HB0 := Lib.hid (AddB.start w (.slice A n c) m e p)
  rw [hz, errB_true] at hC
  generalize findM F m (sizeM n F) = f at *
  have t1 : decide (m < 0) = false := decide_eq_false (by omega)
  have t2 : decide (e < 0) = false := decide_eq_false (by omega)
  have t3 : decide (p < 1) = false := decide_eq_false (by omega)
  have t4 : decide (0 ≤ f) = true := decide_eq_true hq
  clear hz hm he hp hq
  go_enter Tryd.func13, Tryd.ntmps13
  go_wp2_with (first
    | (go_at_call 10; refine (hC _ HB0.out.bel).mono ?_; rintro e' w1 ⟨rfl, hb1⟩; obtain ⟨d0, d1, d2, d3, d4, d5, d6, d7⟩ := HB0.out.under hb1; have HB1 := Lib.hid (HB0.out.under hb1))
    | (go_at_call 15; refine (hF _ HB1.out.bel).mono ?_; rintro e' w2 ⟨rfl, hb2⟩; obtain ⟨f0, f1, f2, f3, f4, f5, f6, f7⟩ := HB1.out.under hb2; have HB2 := Lib.hid (HB1.out.under hb2)))
  have d8 := HB2.out.stored
  refine bodyPost_ret (by simp [results, Tryd.results13, go_sem, d8]; rfl) rfl ?_
  exact ⟨rfl, f0.setCell (by show w.heap.size ≤ w.heap.size + 2; omega) _⟩
end Go.Proofs.YtopkanokpfhmmaaDoor
