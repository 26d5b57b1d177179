/- Same lists of plain elements. -/
import Derived.Test.YthahadhdhpcndaaDeliver
import Derived.Deep.QuietTactic
namespace Go.Proofs.Ythahadhdhpcndaa
open Go Go.RowKit
set_option linter.unusedVariables false
set_option linter.unusedSimpArgs false

def AllI (xs : List Value) : Prop := ∀ u ∈ xs, ∃ x : Int, u = .int .i64 x
theorem AllI.at {xs : List Value} (h : AllI xs) {i : Nat} (hi : i < xs.length) : ∃ x : Int, xs[i]? = some (.int .i64 x) := by
  obtain ⟨x, hx⟩ := h xs[i] (List.getElem_mem hi)
  exact ⟨x, by rw [List.getElem?_eq_getElem hi, hx]⟩
theorem ne127 (x y z : Int) (w : World) : (binOp .neq 127 (.agg #[.int .i64 x, .int .i64 y, .int .i64 z]) (.agg #[.int .i64 x, .int .i64 y, .int .i64 z])).run Try.prog w = .ok (.bool false) w := by
  go_simp
theorem ne131 (x y z : Int) (w : World) : (binOp .neq 131 (.agg #[.int .i64 x, .int .i64 y, .int .i64 z]) (.agg #[.int .i64 x, .int .i64 y, .int .i64 z])).run Try.prog w = .ok (.bool false) w := by
  go_simp
theorem ne134 (x y : Int) (w : World) : (binOp .neq 134 (.agg #[.int .i64 x, .int .i64 y]) (.agg #[.int .i64 x, .int .i64 y])).run Try.prog w = .ok (.bool false) w := by
  go_simp
theorem ne3 (x : Int) (w : World) : (binOp .neq 3 (.int .i64 x) (.int .i64 x)).run Try.prog w = .ok (.bool false) w := by
  go_simp
set_option maxHeartbeats 1000000 in
theorem same73 {ok ok' : Nat → Prop} (v v' : Value) (xs : List Value) (w : World) (h : Rw ok w 1 v xs) (h' : Rw ok' w 1 v' xs) (hx : AllI xs) (hs : xs.length ≤ 3000000) :
    Calls Try.prog 73 #[v, v'] w fun e w' => e = .returned (.bool true) ∧ Below w.heap.size w w' := by
  obtain ⟨A, n, c, rfl, h1, h2, h3, h4⟩ := h
  obtain ⟨A', n', c', rfl, g1, g2, g3, g4⟩ := h'
  obtain rfl : n = n' := by omega
  have HH := Lib.hid (And.intro h1 (And.intro h3 (And.intro g3 hx)))
  have t0 : ((n : Int) != (n : Int)) = false := by simp
  have b1 : n ≤ 3000000 := by omega
  clear h1 h2 h3 h4 g1 g2 g3 g4 hx hs
  go_enter Try.func73, Try.ntmps73
  go_wp2_with fail
  go_loopw [13] (fun v13 wr => ∃ k : Nat, k ≤ n ∧ v13 = .int .i64 k ∧ ∃ j, wr = w.drewN j) (fun v13 _ => n - (intOf v13).toNat)
  case atStart => exact ⟨0, by omega, rfl, 0, rfl⟩
  case round =>
    obtain ⟨k, hk, rfl, jd, rfl⟩ := hrel
    by_cases hlt : k < n
    · obtain ⟨x0, hx0⟩ := HH.out.2.2.2.at (i := k) (by have := HH.out.1; omega)
      obtain ⟨b, o, rfl, p1, p2, p3⟩ := HH.out.2.1 (by omega)
      obtain ⟨b', o', rfl, q1, q2, q3⟩ := HH.out.2.2.1 (by omega)
      have c10 : w.cell? ⟨b, o + k, none⟩ = some (.int .i64 x0) := p3 _ _ hx0
      have c20 : w.cell? ⟨b', o' + k, none⟩ = some (.int .i64 x0) := q3 _ _ hx0
      have HL := Lib.hid hlt
      have i1 : (0 : Int) ≤ k := by omega
      have i2 : (k : Int) < n := by omega
      have t1 := ne3 x0
      have t2 : (x0 != x0) = false := by simp
      clear p3 q3 hx0 p1 q1 p2 q2
      go_wp2_with fail
      go_quiet (fail)
      go_wp2
      go_roundw
      case rel => exact ⟨k + 1, by have := HL.out; omega, by simp, _, rfl⟩
      case measure =>
        have := HL.out
        simp [intOf]; omega
    · obtain rfl : k = n := by omega
      go_wp2
      go_ret
      exact ⟨rfl, below_drewN (Below.refl _ _) _⟩
set_option maxHeartbeats 1000000 in
theorem same72 {ok ok' : Nat → Prop} (v v' : Value) (xs : List Value) (w : World) (h : Rw ok w 3 v xs) (h' : Rw ok' w 3 v' xs) (hx : AllI xs) (hs : xs.length ≤ 3000000) :
    Calls Try.prog 72 #[v, v'] w fun e w' => e = .returned (.bool true) ∧ Below w.heap.size w w' := by
  obtain ⟨A, n, c, rfl, h1, h2, h3, h4⟩ := h
  obtain ⟨A', n', c', rfl, g1, g2, g3, g4⟩ := h'
  obtain rfl : n = n' := by omega
  have HH := Lib.hid (And.intro h1 (And.intro h3 (And.intro g3 hx)))
  have t0 : ((n : Int) != (n : Int)) = false := by simp
  have b1 : n ≤ 3000000 := by omega
  clear h1 h2 h3 h4 g1 g2 g3 g4 hx hs
  go_enter Try.func72, Try.ntmps72
  go_wp2_with fail
  go_loopw [13] (fun v13 wr => ∃ k : Nat, k ≤ n ∧ v13 = .int .i64 k ∧ ∃ j, wr = w.drewN j) (fun v13 _ => n - (intOf v13).toNat)
  case atStart => exact ⟨0, by omega, rfl, 0, rfl⟩
  case round =>
    obtain ⟨k, hk, rfl, jd, rfl⟩ := hrel
    by_cases hlt : k < n
    · obtain ⟨x0, hx0⟩ := HH.out.2.2.2.at (i := k * 3) (by have := HH.out.1; omega)
      obtain ⟨x1, hx1⟩ := HH.out.2.2.2.at (i := k * 3 + 1) (by have := HH.out.1; omega)
      obtain ⟨x2, hx2⟩ := HH.out.2.2.2.at (i := k * 3 + 2) (by have := HH.out.1; omega)
      obtain ⟨b, o, rfl, p1, p2, p3⟩ := HH.out.2.1 (by omega)
      obtain ⟨b', o', rfl, q1, q2, q3⟩ := HH.out.2.2.1 (by omega)
      have c10 : w.cell? ⟨b, o + k * 3, none⟩ = some (.int .i64 x0) := p3 _ _ hx0
      have c20 : w.cell? ⟨b', o' + k * 3, none⟩ = some (.int .i64 x0) := q3 _ _ hx0
      have c11 : w.cell? ⟨b, o + k * 3 + 1, none⟩ = some (.int .i64 x1) := p3 _ _ hx1
      have c21 : w.cell? ⟨b', o' + k * 3 + 1, none⟩ = some (.int .i64 x1) := q3 _ _ hx1
      have c12 : w.cell? ⟨b, o + k * 3 + 2, none⟩ = some (.int .i64 x2) := p3 _ _ hx2
      have c22 : w.cell? ⟨b', o' + k * 3 + 2, none⟩ = some (.int .i64 x2) := q3 _ _ hx2
      have HL := Lib.hid hlt
      have i1 : (0 : Int) ≤ k := by omega
      have i2 : (k : Int) < n := by omega
      have t1 := ne127 x0 x1 x2
      skip
      clear p3 q3 hx0 hx1 hx2 p1 q1 p2 q2
      go_wp2_with fail
      go_quiet (fail)
      go_wp2
      go_roundw
      case rel => exact ⟨k + 1, by have := HL.out; omega, by simp, _, rfl⟩
      case measure =>
        have := HL.out
        simp [intOf]; omega
    · obtain rfl : k = n := by omega
      go_wp2
      go_ret
      exact ⟨rfl, below_drewN (Below.refl _ _) _⟩
set_option maxHeartbeats 1000000 in
theorem same74 {ok ok' : Nat → Prop} (v v' : Value) (xs : List Value) (w : World) (h : Rw ok w 3 v xs) (h' : Rw ok' w 3 v' xs) (hx : AllI xs) (hs : xs.length ≤ 3000000) :
    Calls Try.prog 74 #[v, v'] w fun e w' => e = .returned (.bool true) ∧ Below w.heap.size w w' := by
  obtain ⟨A, n, c, rfl, h1, h2, h3, h4⟩ := h
  obtain ⟨A', n', c', rfl, g1, g2, g3, g4⟩ := h'
  obtain rfl : n = n' := by omega
  have HH := Lib.hid (And.intro h1 (And.intro h3 (And.intro g3 hx)))
  have t0 : ((n : Int) != (n : Int)) = false := by simp
  have b1 : n ≤ 3000000 := by omega
  clear h1 h2 h3 h4 g1 g2 g3 g4 hx hs
  go_enter Try.func74, Try.ntmps74
  go_wp2_with fail
  go_loopw [13] (fun v13 wr => ∃ k : Nat, k ≤ n ∧ v13 = .int .i64 k ∧ ∃ j, wr = w.drewN j) (fun v13 _ => n - (intOf v13).toNat)
  case atStart => exact ⟨0, by omega, rfl, 0, rfl⟩
  case round =>
    obtain ⟨k, hk, rfl, jd, rfl⟩ := hrel
    by_cases hlt : k < n
    · obtain ⟨x0, hx0⟩ := HH.out.2.2.2.at (i := k * 3) (by have := HH.out.1; omega)
      obtain ⟨x1, hx1⟩ := HH.out.2.2.2.at (i := k * 3 + 1) (by have := HH.out.1; omega)
      obtain ⟨x2, hx2⟩ := HH.out.2.2.2.at (i := k * 3 + 2) (by have := HH.out.1; omega)
      obtain ⟨b, o, rfl, p1, p2, p3⟩ := HH.out.2.1 (by omega)
      obtain ⟨b', o', rfl, q1, q2, q3⟩ := HH.out.2.2.1 (by omega)
      have c10 : w.cell? ⟨b, o + k * 3, none⟩ = some (.int .i64 x0) := p3 _ _ hx0
      have c20 : w.cell? ⟨b', o' + k * 3, none⟩ = some (.int .i64 x0) := q3 _ _ hx0
      have c11 : w.cell? ⟨b, o + k * 3 + 1, none⟩ = some (.int .i64 x1) := p3 _ _ hx1
      have c21 : w.cell? ⟨b', o' + k * 3 + 1, none⟩ = some (.int .i64 x1) := q3 _ _ hx1
      have c12 : w.cell? ⟨b, o + k * 3 + 2, none⟩ = some (.int .i64 x2) := p3 _ _ hx2
      have c22 : w.cell? ⟨b', o' + k * 3 + 2, none⟩ = some (.int .i64 x2) := q3 _ _ hx2
      have HL := Lib.hid hlt
      have i1 : (0 : Int) ≤ k := by omega
      have i2 : (k : Int) < n := by omega
      have t1 := ne131 x0 x1 x2
      skip
      clear p3 q3 hx0 hx1 hx2 p1 q1 p2 q2
      go_wp2_with fail
      go_quiet (fail)
      go_wp2
      go_roundw
      case rel => exact ⟨k + 1, by have := HL.out; omega, by simp, _, rfl⟩
      case measure =>
        have := HL.out
        simp [intOf]; omega
    · obtain rfl : k = n := by omega
      go_wp2
      go_ret
      exact ⟨rfl, below_drewN (Below.refl _ _) _⟩
set_option maxHeartbeats 1000000 in
theorem same75 {ok ok' : Nat → Prop} (v v' : Value) (xs : List Value) (w : World) (h : Rw ok w 2 v xs) (h' : Rw ok' w 2 v' xs) (hx : AllI xs) (hs : xs.length ≤ 3000000) :
    Calls Try.prog 75 #[v, v'] w fun e w' => e = .returned (.bool true) ∧ Below w.heap.size w w' := by
  obtain ⟨A, n, c, rfl, h1, h2, h3, h4⟩ := h
  obtain ⟨A', n', c', rfl, g1, g2, g3, g4⟩ := h'
  obtain rfl : n = n' := by omega
  have HH := Lib.hid (And.intro h1 (And.intro h3 (And.intro g3 hx)))
  have t0 : ((n : Int) != (n : Int)) = false := by simp
  have b1 : n ≤ 3000000 := by omega
  clear h1 h2 h3 h4 g1 g2 g3 g4 hx hs
  go_enter Try.func75, Try.ntmps75
  go_wp2_with fail
  go_loopw [13] (fun v13 wr => ∃ k : Nat, k ≤ n ∧ v13 = .int .i64 k ∧ ∃ j, wr = w.drewN j) (fun v13 _ => n - (intOf v13).toNat)
  case atStart => exact ⟨0, by omega, rfl, 0, rfl⟩
  case round =>
    obtain ⟨k, hk, rfl, jd, rfl⟩ := hrel
    by_cases hlt : k < n
    · obtain ⟨x0, hx0⟩ := HH.out.2.2.2.at (i := k * 2) (by have := HH.out.1; omega)
      obtain ⟨x1, hx1⟩ := HH.out.2.2.2.at (i := k * 2 + 1) (by have := HH.out.1; omega)
      obtain ⟨b, o, rfl, p1, p2, p3⟩ := HH.out.2.1 (by omega)
      obtain ⟨b', o', rfl, q1, q2, q3⟩ := HH.out.2.2.1 (by omega)
      have c10 : w.cell? ⟨b, o + k * 2, none⟩ = some (.int .i64 x0) := p3 _ _ hx0
      have c20 : w.cell? ⟨b', o' + k * 2, none⟩ = some (.int .i64 x0) := q3 _ _ hx0
      have c11 : w.cell? ⟨b, o + k * 2 + 1, none⟩ = some (.int .i64 x1) := p3 _ _ hx1
      have c21 : w.cell? ⟨b', o' + k * 2 + 1, none⟩ = some (.int .i64 x1) := q3 _ _ hx1
      have HL := Lib.hid hlt
      have i1 : (0 : Int) ≤ k := by omega
      have i2 : (k : Int) < n := by omega
      have t1 := ne134 x0 x1
      skip
      clear p3 q3 hx0 hx1 p1 q1 p2 q2
      go_wp2_with fail
      go_quiet (fail)
      go_wp2
      go_roundw
      case rel => exact ⟨k + 1, by have := HL.out; omega, by simp, _, rfl⟩
      case measure =>
        have := HL.out
        simp [intOf]; omega
    · obtain rfl : k = n := by omega
      go_wp2
      go_ret
      exact ⟨rfl, below_drewN (Below.refl _ _) _⟩
end Go.Proofs.Ythahadhdhpcndaa
