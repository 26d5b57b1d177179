/- Chapter 08's own Add: its refusals. -/
import Derived.Test.YtnahhclflnjmcaaGreatDoorXC
import Derived.Test.YtnahhclflnjmcaaGreatDoorB3
namespace Go.Proofs.YtnahhclflnjmcaaGreatDoor
open Go Go.RowKit
set_option linter.unusedVariables false
set_option linter.unusedSimpArgs false
set_option maxRecDepth 100000

set_option maxHeartbeats 2000000 in
set_option maxRecDepth 100000 in
theorem radd_arg (v : Value) (n : Nat) (F : Nat → Node) (a : Addx) (w : World) (hun : ∀ y, y < n → (F y).un.length ≤ 1000000) (hR : TrR w v n F) (hn : n ≤ 262144) (hq : chk n F = false ∨ a.mem < 0 ∨ a.ep < 0 ∨ a.pub < 1) :
    Calls Tryz.prog 26 #[.agg #[v], a.v] w fun e w' => AddNo w 1 e w' := by
  have hC : ∀ W, Below w.heap.size w W → Calls Tryz.prog 15 #[.agg #[v]] W fun e w' => e = .returned (.int .i64 (errB (chk n F))) ∧ Below W.heap.size W w' := fun W hW =>
    rcheck v n F W (hR.below hW) hun
  obtain ⟨A, c, rfl, -, -, -⟩ := hR
  obtain ⟨m, e, p⟩ := a
  unfold Addx.v
  simp only at hq ⊢
  have hB0 := AddB.start w (.slice A n c) m e p
  have HB0 := Lib.hid hB0
  cases hz : chk n F with
  | false =>
    rw [hz, errB_false] at hC
    clear hq hz
    go_enter Tryz.func26, Tryz.ntmps26
    go_wp2_with (go_at_call 15; refine (hC _ HB0.out.bel).mono ?_; rintro e' w1 ⟨rfl, hb1⟩; obtain ⟨d0, d1, d2, d3, d4, d5, d6, d7⟩ := HB0.out.under hb1)
    have d8 := (HB0.out.under hb1).stored
    refine bodyPost_ret (by simp [results, Tryz.results26, go_sem, d8]; rfl) rfl ?_
    exact ⟨rfl, d0.setCell (by show w.heap.size ≤ w.heap.size + 2; omega) _⟩
  | true =>
    rw [hz, errB_true] at hC
    rw [hz] at hq
    by_cases h1 : m < 0
    · have t1 : decide (m < 0) = true := decide_eq_true h1
      clear hq hz h1
      go_enter Tryz.func26, Tryz.ntmps26
      go_wp2_with (go_at_call 15; refine (hC _ HB0.out.bel).mono ?_; rintro e' w1 ⟨rfl, hb1⟩; obtain ⟨d0, d1, d2, d3, d4, d5, d6, d7⟩ := HB0.out.under hb1)
      have d8 := (HB0.out.under hb1).stored
      refine bodyPost_ret (by simp [results, Tryz.results26, go_sem, d8]; rfl) rfl ?_
      exact ⟨rfl, d0.setCell (by show w.heap.size ≤ w.heap.size + 2; omega) _⟩
    · have t1 : decide (m < 0) = false := decide_eq_false h1
      by_cases h2 : e < 0
      · have t2 : decide (e < 0) = true := decide_eq_true h2
        clear hq hz h1 h2
        go_enter Tryz.func26, Tryz.ntmps26
        go_wp2_with (go_at_call 15; refine (hC _ HB0.out.bel).mono ?_; rintro e' w1 ⟨rfl, hb1⟩; obtain ⟨d0, d1, d2, d3, d4, d5, d6, d7⟩ := HB0.out.under hb1)
        have d8 := (HB0.out.under hb1).stored
        refine bodyPost_ret (by simp [results, Tryz.results26, go_sem, d8]; rfl) rfl ?_
        exact ⟨rfl, d0.setCell (by show w.heap.size ≤ w.heap.size + 2; omega) _⟩
      · have t2 : decide (e < 0) = false := decide_eq_false h2
        have t3 : decide (p < 1) = true := decide_eq_true (by simp at hq; omega)
        clear hq hz h1 h2
        go_enter Tryz.func26, Tryz.ntmps26
        go_wp2_with (go_at_call 15; refine (hC _ HB0.out.bel).mono ?_; rintro e' w1 ⟨rfl, hb1⟩; obtain ⟨d0, d1, d2, d3, d4, d5, d6, d7⟩ := HB0.out.under hb1)
        have d8 := (HB0.out.under hb1).stored
        refine bodyPost_ret (by simp [results, Tryz.results26, go_sem, d8]; rfl) rfl ?_
        exact ⟨rfl, d0.setCell (by show w.heap.size ≤ w.heap.size + 2; omega) _⟩
set_option maxHeartbeats 2000000 in
set_option maxRecDepth 100000 in
theorem radd_twice (v : Value) (n : Nat) (F : Nat → Node) (a : Addx) (w : World) (hun : ∀ y, y < n → (F y).un.length ≤ 1000000) (hR : TrR w v n F) (hn : n ≤ 262144) (hz : chk n F = true) (hm : 0 ≤ a.mem) (he : 0 ≤ a.ep) (hp : 1 ≤ a.pub) (hq : 0 ≤ findM F a.mem (sizeM n F)) :
    Calls Tryz.prog 26 #[.agg #[v], a.v] w fun e w' => AddNo w 13 e w' := by
  have hC : ∀ W, Below w.heap.size w W → Calls Tryz.prog 15 #[.agg #[v]] W fun e w' => e = .returned (.int .i64 (errB (chk n F))) ∧ Below W.heap.size W w' := fun W hW =>
    rcheck v n F W (hR.below hW) hun
  have hF : ∀ W, Below w.heap.size w W → Calls Tryz.prog 17 #[.agg #[v], .int .i64 a.mem] W fun e w' => e = .returned (.int .i64 (findM F a.mem (sizeM n F))) ∧ Below W.heap.size W w' := fun W hW =>
    rfind v n F a.mem W (hR.below hW) hun
  obtain ⟨A, c, rfl, -, -, -⟩ := hR
  obtain ⟨m, e, p⟩ := a
  unfold Addx.v
  simp only at hm he hp hq hF ⊢
  have HB0 := Lib.hid (AddB.start w (.slice A n c) m e p)
  rw [hz, errB_true] at hC
  generalize findM F m (sizeM n F) = f at *
  have t1 : decide (m < 0) = false := decide_eq_false (by omega)
  have t2 : decide (e < 0) = false := decide_eq_false (by omega)
  have t3 : decide (p < 1) = false := decide_eq_false (by omega)
  have t4 : decide (0 ≤ f) = true := decide_eq_true hq
  clear hz hm he hp hq
  go_enter Tryz.func26, Tryz.ntmps26
  go_wp2_with (first
    | (go_at_call 15; refine (hC _ HB0.out.bel).mono ?_; rintro e' w1 ⟨rfl, hb1⟩; obtain ⟨d0, d1, d2, d3, d4, d5, d6, d7⟩ := HB0.out.under hb1; have HB1 := Lib.hid (HB0.out.under hb1))
    | (go_at_call 17; refine (hF _ HB1.out.bel).mono ?_; rintro e' w2 ⟨rfl, hb2⟩; obtain ⟨f0, f1, f2, f3, f4, f5, f6, f7⟩ := HB1.out.under hb2; have HB2 := Lib.hid (HB1.out.under hb2)))
  have d8 := HB2.out.stored
  refine bodyPost_ret (by simp [results, Tryz.results26, go_sem, d8]; rfl) rfl ?_
  exact ⟨rfl, f0.setCell (by show w.heap.size ≤ w.heap.size + 2; omega) _⟩
end Go.Proofs.YtnahhclflnjmcaaGreatDoor
