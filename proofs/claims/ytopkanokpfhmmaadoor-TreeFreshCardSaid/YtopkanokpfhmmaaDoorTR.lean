/- Trees as the program holds them; blank, leaves. -/
import Derived.Test.YtopkanokpfhmmaaDoorTM
import Derived.Test.YtopkanokpfhmmaaDoorSame
import Derived.Deep.LoopGhost
import Derived.Laws.Rows
namespace Go.Proofs.YtopkanokpfhmmaaDoor
open Go Go.RowKit
set_option linter.unusedVariables false
set_option linter.unusedSimpArgs false

/-- A node's cells at a place. -/
structure NdAt (w : World) (b o : Nat) (a : Node) : Prop where
  c0 : w.cell? ⟨b, o, none⟩ = some (.int .i64 a.pub)
  c1 : w.cell? ⟨b, o + 1, none⟩ = some (.int .i64 a.mem)
  c2 : w.cell? ⟨b, o + 2, none⟩ = some (.int .i64 a.ep)
  c3 : ∃ A c, w.cell? ⟨b, o + 3, none⟩ = some (.slice A a.un.length c) ∧ Ints w (.slice A a.un.length c) a.un
  r1 : (Lit.int .i64 a.mem).wf = true
/-- A row of n nodes reads so. -/
def TrR (w : World) (v : Value) (n : Nat) (F : Nat → Node) : Prop :=
  ∃ A c, v = .slice A n c ∧ n ≤ c ∧ c ≤ maxLen ∧ (0 < n → ∃ b o, A = some ⟨b, o, none⟩ ∧ ∀ y, y < n → NdAt w b (o + y * 4) (F y))
theorem NdAt.below {w w' : World} {b o : Nat} {a : Node} (h : NdAt w b o a) (hb : Below w.heap.size w w') : NdAt w' b o a := by
  have key : ∀ {p : Addr} {v : Value}, w.cell? p = some v → w'.cell? p = some v := fun hc => by
    rw [hb.cell (World.block_lt_of_cell? w _ hc)]; exact hc
  obtain ⟨A, c, h3, h4⟩ := h.c3
  exact ⟨key h.c0, key h.c1, key h.c2, ⟨A, c, key h3, h4.below hb⟩, h.r1⟩
theorem TrR.below {w w' : World} {v : Value} {n : Nat} {F : Nat → Node} (h : TrR w v n F) (hb : Below w.heap.size w w') : TrR w' v n F := by
  obtain ⟨A, c, rfl, h1, h2, h3⟩ := h
  refine ⟨A, c, rfl, h1, h2, fun h0 => ?_⟩
  obtain ⟨b, o, rfl, h4⟩ := h3 h0
  exact ⟨b, o, rfl, fun y hy => (h4 y hy).below hb⟩
theorem TrR.congr {w : World} {v : Value} {n : Nat} {F G : Nat → Node} (h : TrR w v n F) (he : ∀ y, y < n → F y = G y) : TrR w v n G := by
  obtain ⟨A, c, rfl, h1, h2, h3⟩ := h
  refine ⟨A, c, rfl, h1, h2, fun h0 => ?_⟩
  obtain ⟨b, o, rfl, h4⟩ := h3 h0
  exact ⟨b, o, rfl, fun y hy => by rw [← he y hy]; exact h4 y hy⟩
theorem TrR.alloc {w : World} {v : Value} {n : Nat} {F : Nat → Node} (h : TrR w v n F) (o : Obj) : TrR (w.alloc o) v n F := h.below ((Below.refl _ _).alloc (Nat.le_refl _) _)
theorem _root_.Go.RowKit.Below.quiet {B : Nat} {a w : World} (h : Below B a w) (n : Nat) : Below B a (w.drewN n) := h.trans ⟨rfl, rfl, rfl, Nat.le_refl _, fun _ _ => rfl⟩
theorem TrR.nil (w : World) (F : Nat → Node) : TrR w (.slice none 0 0) 0 F := ⟨none, 0, rfl, Nat.le_refl _, by decide, fun h => absurd h (by omega)⟩

set_option maxHeartbeats 1000000 in
theorem blank28 (p m e : Int) (A : Option Addr) (n c : Nat) (w : World) :
    Calls Tryd.prog 28 #[.agg #[.int .i64 p, .int .i64 m, .int .i64 e, .slice A n c]] w fun x w' => x = .returned (.bool (p == 0 && (m == 0 && (e == 0 && n == 0)))) ∧ Below w.heap.size w w' := by
  have hn : ((n : Int) == 0) = (n == 0) := by
    rw [Bool.eq_iff_iff, beq_iff_eq, beq_iff_eq]; omega
  cases e1 : (p == 0) with
  | false =>
    go_enter Tryd.func28, Tryd.ntmps28
    go_wp2
    go_ret
    exact ⟨rfl, (Below.refl _ _).alloc (Nat.le_refl _) _⟩
  | true =>
    cases e2 : (m == 0) with
    | false =>
      go_enter Tryd.func28, Tryd.ntmps28
      go_wp2
      go_ret
      exact ⟨rfl, (Below.refl _ _).alloc (Nat.le_refl _) _⟩
    | true =>
      cases e3 : (e == 0) with
      | false =>
        go_enter Tryd.func28, Tryd.ntmps28
        go_wp2
        go_ret
        exact ⟨rfl, (Below.refl _ _).alloc (Nat.le_refl _) _⟩
      | true =>
        go_enter Tryd.func28, Tryd.ntmps28
        go_wp2
        go_ret
        exact ⟨by simp [hn], (Below.refl _ _).alloc (Nat.le_refl _) _⟩
theorem blank_bool (a : Node) : (a.pub == 0 && (a.mem == 0 && (a.ep == 0 && a.un.length == 0))) = a.blank := by
  obtain ⟨p, m, e, u⟩ := a
  cases u <;> simp [Node.blank, Bool.and_assoc]
theorem blankN (a : Node) (A : Option Addr) (c : Nat) (w : World) :
    Calls Tryd.prog 28 #[.agg #[.int .i64 a.pub, .int .i64 a.mem, .int .i64 a.ep, .slice A a.un.length c]] w fun x w' => x = .returned (.bool a.blank) ∧ Below w.heap.size w w' := by
  have := blank28 a.pub a.mem a.ep A a.un.length c w
  rw [blank_bool] at this
  exact this

/-! leaves -/
theorem width_small (k : Nat) (h0 : 0 < k) (h : k ≤ 8) : widthOf (k : Int) = if k = 1 then 1 else if k = 2 then 3 else if k = 4 then 7 else if k = 8 then 15 else 0 := by
  have : k = 1 ∨ k = 2 ∨ k = 3 ∨ k = 4 ∨ k = 5 ∨ k = 6 ∨ k = 7 ∨ k = 8 := by omega
  rcases this with rfl | rfl | rfl | rfl | rfl | rfl | rfl | rfl <;> decide
set_option maxHeartbeats 1000000 in
theorem leaves_no (A : Option Addr) (n c : Nat) (w : World) (hn : n ≤ 9223372036854775806) (h : n = 0 ∨ 16 < n) :
    Calls Tryd.prog 26 #[.agg #[.slice A n c]] w fun x w' => x = .returned (.int .i64 0) ∧ Below w.heap.size w w' := by
  rcases h with rfl | h
  · go_enter Tryd.func26, Tryd.ntmps26
    go_wp2
    go_quiet (fail)
    go_wp2
    go_ret
    exact ⟨rfl, Below.quiet ((Below.refl _ _).alloc (Nat.le_refl _) _) _⟩
  · have t1 : decide (8 < ((n : Int) + 1) / 2) = true := decide_eq_true (by omega)
    go_enter Tryd.func26, Tryd.ntmps26
    go_wp2
    go_quiet (fail)
    go_wp2
    go_ret
    exact ⟨rfl, Below.quiet ((Below.refl _ _).alloc (Nat.le_refl _) _) _⟩
theorem wid (k : Nat) (w : World) (hk : k ≤ 9223372036854775807) : Calls Tryd.prog 42 #[.int .i64 k] w fun e w' => e = .returned (.int .i64 (widthOf k)) ∧ w = w' := width k w (by omega)
set_option maxHeartbeats 1000000 in
theorem leaves_at (A : Option Addr) (n k c : Nat) (w : World) (h0 : 0 < n) (h1 : n ≤ 16) (hk : (n + 1) / 2 = k) :
    Calls Tryd.prog 26 #[.agg #[.slice A n c]] w fun x w' => x = .returned (.int .i64 (if widthOf k = n then k else 0)) ∧ Below w.heap.size w w' := by
  have t0 : ((n : Int) + 1) / 2 = k := by omega
  have t1 : decide (8 < (k : Int)) = false := decide_eq_false (by omega)
  have t2 : ((n : Int) == 0) = false := by rw [beq_eq_false_iff_ne]; omega
  have hw : ∀ w, Calls Tryd.prog 42 #[.int .i64 k] w fun e w' => e = .returned (.int .i64 (widthOf k)) ∧ w = w' := fun w => wid k w (by omega)
  by_cases hq : widthOf k = n
  · rw [if_pos hq]
    rw [hq] at hw
    have t3 : ((n : Int) != (n : Int)) = false := by simp
    clear hq hk
    go_enter Tryd.func26, Tryd.ntmps26
    go_wp2_with (simp only [t0])
    go_quiet ((go_at_call 42; exact Calls.quiet_of_same ((hw _).mono (fun e w' h => ⟨h.1, h.2.symm⟩))))
    go_wp2
    go_ret
    exact ⟨rfl, Below.quiet ((Below.refl _ _).alloc (Nat.le_refl _) _) _⟩
  · rw [if_neg hq]
    have t3 : (widthOf k != (n : Int)) = true := by rw [bne_iff_ne]; exact hq
    generalize widthOf k = z at *
    clear hq hk
    go_enter Tryd.func26, Tryd.ntmps26
    go_wp2_with (simp only [t0])
    go_quiet ((go_at_call 42; exact Calls.quiet_of_same ((hw _).mono (fun e w' h => ⟨h.1, h.2.symm⟩))))
    go_wp2
    go_ret
    exact ⟨rfl, Below.quiet ((Below.refl _ _).alloc (Nat.le_refl _) _) _⟩
theorem leaves26 (A : Option Addr) (n c : Nat) (w : World) (hn : n ≤ 9223372036854775806) :
    Calls Tryd.prog 26 #[.agg #[.slice A n c]] w fun x w' => x = .returned (.int .i64 (lvs n : Nat)) ∧ Below w.heap.size w w' := by
  by_cases h : n = 0 ∨ 16 < n
  · have : lvs n = 0 := by
      unfold lvs
      rw [if_neg (by omega), if_neg (by omega), if_neg (by omega), if_neg (by omega)]
    rw [this]
    exact leaves_no A n c w hn h
  · have h2 := leaves_at A n ((n + 1) / 2) c w (by omega) (by omega) rfl
    have e : (if widthOf (((n + 1) / 2 : Nat) : Int) = n then (((n + 1) / 2 : Nat) : Int) else 0) = ((lvs n : Nat) : Int) := by
      rw [width_small _ (by omega) (by omega)]
      unfold lvs
      have : n = 1 ∨ n = 2 ∨ n = 3 ∨ n = 4 ∨ n = 5 ∨ n = 6 ∨ n = 7 ∨ n = 8 ∨ n = 9 ∨ n = 10 ∨ n = 11 ∨ n = 12 ∨ n = 13 ∨ n = 14 ∨ n = 15 ∨ n = 16 := by omega
      rcases this with rfl | rfl | rfl | rfl | rfl | rfl | rfl | rfl | rfl | rfl | rfl | rfl | rfl | rfl | rfl | rfl <;> decide
    rw [e] at h2
    exact h2
end Go.Proofs.YtopkanokpfhmmaaDoor
