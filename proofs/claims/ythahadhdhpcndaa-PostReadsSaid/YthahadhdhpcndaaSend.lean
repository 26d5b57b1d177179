/- Net: sendable, there, New. -/
import Derived.Test.YthahadhdhpcndaaMay
namespace Go.Proofs.Ythahadhdhpcndaa
open Go Go.RowKit
set_option linter.unusedVariables false
set_option linter.unusedSimpArgs false

set_option maxHeartbeats 1000000 in
theorem server58 (x : Int) (w : World) : Calls Try.prog 58 #[.int .i64 x] w fun e w' => e = .returned (.bool (decide (0 ≤ x ∧ x < 4))) ∧ w' = w := by
  by_cases t1 : x ≥ 0
  · have e1 : decide (x ≥ 0) = true := decide_eq_true t1
    by_cases t2 : x < 4
    · have e2 : decide (x < 4) = true := decide_eq_true t2
      have HE := Lib.hid (decide_eq_true (And.intro t1 t2))
      go_enter Try.func58, Try.ntmps58
      go_wp2
      go_ret
      exact ⟨by first | rfl | (rw [show decide (0 ≤ x ∧ x < 4) = true from HE.out]; rfl), rfl⟩
    · have e2 : decide (x < 4) = false := decide_eq_false t2
      have HE := Lib.hid (decide_eq_false (fun h : 0 ≤ x ∧ x < 4 => t2 h.2))
      go_enter Try.func58, Try.ntmps58
      go_wp2
      go_ret
      exact ⟨by first | rfl | (rw [show decide (0 ≤ x ∧ x < 4) = false from HE.out]; rfl), rfl⟩
  · have e1 : decide (x ≥ 0) = false := decide_eq_false t1
    have HE := Lib.hid (decide_eq_false (fun h : 0 ≤ x ∧ x < 4 => t1 h.1))
    go_enter Try.func58, Try.ntmps58
    go_wp2
    go_ret
    exact ⟨by first | rfl | (rw [show decide (0 ≤ x ∧ x < 4) = false from HE.out]; rfl), rfl⟩
set_option maxHeartbeats 4000000 in
set_option maxRecDepth 100000 in
theorem sendable39 {ok : Nat → Prop} (cs : Array Value) (d : PackD) (w : World) (h : RdP ok w cs d) :
    Calls Try.prog 39 #[.agg cs] w fun e w' => MayP d e ∧ Below w.heap.size w w' := by
  have hb1 : Below w.heap.size w (w.alloc (.cells cs 44)) := (Below.refl _ _).alloc (Nat.le_refl _) _
  obtain ⟨a0, a1, a2, a3, a4⟩ := h.at0
  have x1 : (w.alloc (.cells cs 44)).heap[w.heap.size]? = some (.cells cs 44 (0, 0)) := heap_alloc_new w _
  have l0 : (w.alloc (.cells cs 44)).cell? ⟨w.heap.size, 0, none⟩ = some (.int .i64 d.f) := by rw [cell_of_row _ _ 0 _ _ _ x1]; exact a0
  have l1 : (w.alloc (.cells cs 44)).cell? ⟨w.heap.size, 1, none⟩ = some (.int .i64 d.t) := by rw [cell_of_row _ _ 1 _ _ _ x1]; exact a1
  have l2 : (w.alloc (.cells cs 44)).cell? ⟨w.heap.size, 2, none⟩ = some (.bool d.a) := by rw [cell_of_row _ _ 2 _ _ _ x1]; exact a2
  have l3 : (w.alloc (.cells cs 44)).cell? ⟨w.heap.size, 3, none⟩ = some (.int .i64 d.s) := by rw [cell_of_row _ _ 3 _ _ _ x1]; exact a3
  have l4 : (w.alloc (.cells cs 44)).cell? ⟨w.heap.size, 4, none⟩ = some (.int .u8 d.d.k) := by rw [cell_of_row _ _ 4 _ _ _ x1]; exact a4
  have HX := Lib.hid hb1
  clear h x1 a0 a1 a2 a3 a4 hb1
  obtain ⟨f, t, a, s, dd⟩ := d
  dsimp only at *
  have M0 := server58 f (w.alloc (.cells cs 44))
  have M1 := server58 t (w.alloc (.cells cs 44))
  by_cases f0 : 0 ≤ f ∧ f < 4
  case neg =>
    rw [decide_eq_false f0] at M0
    have HE := Lib.hid f0
    clear f0
    go_enter Try.func39, Try.ntmps39
    go_wp2_with (with_reducible refine M0.mono ?_; rintro e w' ⟨rfl, rfl⟩)
    go_ret
    exact ⟨⟨_, rfl, by simp, fun h => absurd ⟨h.f0, h.f1⟩ HE.out⟩, HX.out⟩
  rw [decide_eq_true f0] at M0
  by_cases t0 : 0 ≤ t ∧ t < 4
  case neg =>
    rw [decide_eq_false t0] at M1
    have HE := Lib.hid t0
    clear t0 f0
    go_enter Try.func39, Try.ntmps39
    go_wp2_with (first | (with_reducible refine M0.mono ?_; rintro e w' ⟨rfl, rfl⟩) | (with_reducible refine M1.mono ?_; rintro e w' ⟨rfl, rfl⟩))
    go_ret
    exact ⟨⟨_, rfl, by simp, fun h => absurd ⟨h.t0, h.t1⟩ HE.out⟩, HX.out⟩
  rw [decide_eq_true t0] at M1
  have HFT := Lib.hid (And.intro f0 t0)
  clear f0 t0
  by_cases s0 : s < 0
  · have e4 : decide (s < 0) = true := decide_eq_true s0
    go_enter Try.func39, Try.ntmps39
    go_wp2_with (first | (with_reducible refine M0.mono ?_; rintro e w' ⟨rfl, rfl⟩) | (with_reducible refine M1.mono ?_; rintro e w' ⟨rfl, rfl⟩))
    go_ret
    exact ⟨⟨_, rfl, by simp, fun h => absurd h.s0 (by simpa using s0)⟩, HX.out⟩
  have e4 : decide (s < 0) = false := decide_eq_false s0
  by_cases s9 : s > 1099511627776
  · have e5 : decide (s > 1099511627776) = true := decide_eq_true s9
    have HE := Lib.hid s9
    go_enter Try.func39, Try.ntmps39
    go_wp2_with (first | (with_reducible refine M0.mono ?_; rintro e w' ⟨rfl, rfl⟩) | (with_reducible refine M1.mono ?_; rintro e w' ⟨rfl, rfl⟩))
    go_ret
    refine ⟨⟨_, rfl, by simp, fun h => ?_⟩, HX.out⟩
    have h9 : 1099511627776 < s := HE.out
    rcases h.s1 with ⟨_, h⟩ | ⟨_, h, _⟩
    · have h : s ≤ 1099511627776 := h
      omega
    · have h : s < 1099511627776 := h
      omega
  have e5 : decide (s > 1099511627776) = false := decide_eq_false s9
  have HS := Lib.hid (And.intro s0 s9)
  cases a with
  | true =>
    go_enter Try.func39, Try.ntmps39
    go_wp2_with (first | (with_reducible refine M0.mono ?_; rintro e w' ⟨rfl, rfl⟩) | (with_reducible refine M1.mono ?_; rintro e w' ⟨rfl, rfl⟩))
    go_ret
    refine ⟨⟨_, rfl, fun _ => ?_, fun _ => rfl⟩, HX.out⟩
    obtain ⟨⟨g0, g1⟩, g2, g3⟩ := HFT.out
    obtain ⟨g4, g5⟩ := HS.out
    exact ⟨g0, g1, g2, g3, by show 0 ≤ s; omega, .inl ⟨rfl, by show s ≤ _; omega⟩⟩
  | false =>
    by_cases s1 : s < 1099511627776
    · have e6 : decide (s < 1099511627776) = true := decide_eq_true s1
      have HS1 := Lib.hid s1
      by_cases k1 : dd.k ≥ 1
      · have e7 : decide (dd.k ≥ 1) = true := decide_eq_true k1
        have HK1 := Lib.hid k1
        go_enter Try.func39, Try.ntmps39
        go_wp2_with (first | (with_reducible refine M0.mono ?_; rintro e w' ⟨rfl, rfl⟩) | (with_reducible refine M1.mono ?_; rintro e w' ⟨rfl, rfl⟩))
        go_ret
        refine ⟨⟨_, rfl, fun h => ?_, fun h => ?_⟩, HX.out⟩
        · obtain ⟨⟨g0, g1⟩, g2, g3⟩ := HFT.out
          obtain ⟨g4, g5⟩ := HS.out
          exact ⟨g0, g1, g2, g3, by show 0 ≤ s; omega, .inr ⟨rfl, HS1.out, HK1.out, by simpa using h⟩⟩
        · rcases h.s1 with ⟨h, _⟩ | ⟨_, _, _, h⟩
          · cases h
          · have h : dd.k ≤ 6 := h
            simpa using h
      · have e7 : decide (dd.k ≥ 1) = false := decide_eq_false k1
        have HK1 := Lib.hid k1
        go_enter Try.func39, Try.ntmps39
        go_wp2_with (first | (with_reducible refine M0.mono ?_; rintro e w' ⟨rfl, rfl⟩) | (with_reducible refine M1.mono ?_; rintro e w' ⟨rfl, rfl⟩))
        go_ret
        refine ⟨⟨_, rfl, by simp, fun h => ?_⟩, HX.out⟩
        rcases h.s1 with ⟨h, _⟩ | ⟨_, _, h, _⟩
        · cases h
        · have h : dd.k ≥ 1 := h
          exact absurd h (by have := HK1.out; omega)
    · have e6 : decide (s < 1099511627776) = false := decide_eq_false s1
      have HS1 := Lib.hid s1
      go_enter Try.func39, Try.ntmps39
      go_wp2_with (first | (with_reducible refine M0.mono ?_; rintro e w' ⟨rfl, rfl⟩) | (with_reducible refine M1.mono ?_; rintro e w' ⟨rfl, rfl⟩))
      go_ret
      refine ⟨⟨_, rfl, by simp, fun h => ?_⟩, HX.out⟩
      rcases h.s1 with ⟨h, _⟩ | ⟨_, h, _⟩
      · cases h
      · have h : s < 1099511627776 := h
        exact absurd h (by have := HS1.out; omega)
end Go.Proofs.Ythahadhdhpcndaa
