/- Add whole; New; SameNode. -/
import Derived.Test.YtopkanokpfhmmaaDoorUA
namespace Go.Proofs.YtopkanokpfhmmaaDoor
open Go Go.RowKit
set_option linter.unusedVariables false
set_option linter.unusedSimpArgs false

theorem chk_false_add {n : Nat} {F : Nat → Node} {a : Addx} (h : addE n F a = 0) : chk n F = true ∧ 0 ≤ a.mem ∧ 0 ≤ a.ep ∧ 1 ≤ a.pub ∧ findM F a.mem (sizeM n F) < 0 ∧ ¬ (fb F (lvs n) = lvs n ∧ lvs n = 8) := by
  unfold addE at h
  by_cases h1 : chk n F = false ∨ a.mem < 0 ∨ a.ep < 0 ∨ a.pub < 1
  · rw [if_pos h1] at h; cases h
  · rw [if_neg h1] at h
    by_cases h2 : 0 ≤ findM F a.mem (sizeM n F)
    · rw [if_pos h2] at h; cases h
    · rw [if_neg h2] at h
      by_cases h3 : fb F (lvs n) = lvs n ∧ lvs n = 8
      · rw [if_pos h3] at h; cases h
      · have hc : chk n F = true := by
          cases hc : chk n F with
          | true => rfl
          | false => exact absurd (.inl hc) h1
        exact ⟨hc, by omega, by omega, by omega, by omega, h3⟩
/-- What Add answers. -/
structure AddA (w : World) (n : Nat) (F : Nat → Node) (a : Addx) (e : Ending) (w' : World) : Prop where
  no : addE n F a ≠ 0 → AddNo w (addE n F a) e w'
  yes : addE n F a = 0 → AddYes w n F a e w'
theorem add13 (v : Value) (n : Nat) (F : Nat → Node) (a : Addx) (w : World) (hT : Tab w) (hR : TrR w v n F) (hn : n ≤ 262144) (hwf : (Lit.int .i64 a.mem).wf = true) :
    Calls Tryd.prog 13 #[.agg #[v], a.v] w fun e w' => AddA w n F a e w' := by
  by_cases h0 : addE n F a = 0
  · obtain ⟨h1, h2, h3, h4, h5, h6⟩ := chk_false_add h0
    exact (add_yes v n F a w hT hR h1 h2 h3 h4 hwf h5 h6).mono fun e w' h => ⟨fun h7 => absurd h0 h7, fun _ => h⟩
  · have key : Calls Tryd.prog 13 #[.agg #[v], a.v] w fun e w' => AddNo w (addE n F a) e w' := by
      by_cases h1 : chk n F = false ∨ a.mem < 0 ∨ a.ep < 0 ∨ a.pub < 1
      · rw [show addE n F a = 1 from if_pos h1]
        exact add_arg v n F a w hT hR hn h1
      · have hc : chk n F = true := by
          cases hc : chk n F with
          | true => rfl
          | false => exact absurd (.inl hc) h1
        by_cases h2 : 0 ≤ findM F a.mem (sizeM n F)
        · rw [show addE n F a = 13 by unfold addE; rw [if_neg h1, if_pos h2]]
          exact add_twice v n F a w hT hR hn hc (by omega) (by omega) (by omega) h2
        · by_cases h3 : fb F (lvs n) = lvs n ∧ lvs n = 8
          · rw [show addE n F a = 3 by unfold addE; rw [if_neg h1, if_neg h2, if_pos h3]]
            exact add_limit v n F a w hT hR hc (by omega) (by omega) (by omega) (by omega) h3.1 h3.2
          · exact absurd (by unfold addE; rw [if_neg h1, if_neg h2, if_neg h3]) h0
    exact key.mono fun e w' h => ⟨fun _ => h, fun h7 => absurd h7 h0⟩
theorem cell_box {w : World} {g : Nat} {A : Option Addr} {k c : Nat} {u : Value} (hc : w.cell? ⟨g, 0, none⟩ = some (.slice A k c)) {p : Addr} {x : Int} (h : w.cell? p = some (.int .i64 x)) : (w.setCell ⟨g, 0, none⟩ u).cell? p = some (.int .i64 x) := by
  rw [World.cell?_setCell_other _ _ _ _ (fun e => by rw [← e, hc] at h; cases h)]
  exact h
theorem Ints.setBox {w : World} {g : Nat} {A : Option Addr} {k c : Nat} {u v : Value} {l : List Int} (h : Ints w v l) (hc : w.cell? ⟨g, 0, none⟩ = some (.slice A k c)) : Ints (w.setCell ⟨g, 0, none⟩ u) v l := by
  obtain ⟨A', c', rfl, h1, h2, h3⟩ := h
  refine ⟨A', c', rfl, h1, h2, fun h0 => ?_⟩
  obtain ⟨b, off, rfl, h4⟩ := h3 h0
  exact ⟨b, off, rfl, fun i x hi => cell_box hc (h4 i x hi)⟩
/-- A tree stays where the box of another one is written. -/
theorem TrR.setBox {w : World} {g : Nat} {A : Option Addr} {k c : Nat} {u v : Value} {n : Nat} {F : Nat → Node} (h : TrR w v n F) (hc : w.cell? ⟨g, 0, none⟩ = some (.slice A k c)) : TrR (w.setCell ⟨g, 0, none⟩ u) v n F := by
  obtain ⟨A', c', rfl, h1, h2, h3⟩ := h
  refine ⟨A', c', rfl, h1, h2, fun h0 => ?_⟩
  obtain ⟨b, off, rfl, h4⟩ := h3 h0
  refine ⟨b, off, rfl, fun y hy => ?_⟩
  obtain ⟨x0, x1, x2, ⟨A2, c2, x3, hI⟩, hw⟩ := h4 y hy
  refine ⟨cell_box hc x0, cell_box hc x1, cell_box hc x2, ⟨A2, c2, ?_, hI.setBox hc⟩, hw⟩
  rw [World.cell?_setCell_other _ _ _ _ (fun e => by injection e with _ e _; omega)]
  exact x3
/-- What New answers. -/
structure NewP (w : World) (a : Addx) (e : Ending) (w' : World) : Prop where
  out : ∃ v', e = .returned (.tuple #[.agg #[v'], .int .i64 0]) ∧ TrR w' v' 1 (addF 0 (fun _ => zeroN) 0 0 a)
  bel : Below w.heap.size w w'
set_option maxHeartbeats 2000000 in
set_option maxRecDepth 100000 in
theorem new29 (a : Addx) (w : World) (hT : Tab w) (h1 : 0 ≤ a.mem) (h2 : 0 ≤ a.ep) (h3 : 1 ≤ a.pub) (hwf : (Lit.int .i64 a.mem).wf = true) :
    Calls Tryd.prog 29 #[a.v] w fun e w' => NewP w a e w' := by
  obtain ⟨WA, hWA⟩ : ∃ WA, WA = ((w.alloc (.cells #[.int .i64 a.mem, .int .i64 a.ep, .int .i64 a.pub] 26)).alloc (.cells #[.slice none 0 0] 24)) := ⟨_, rfl⟩
  have hbA : Below w.heap.size w WA := by rw [hWA]; exact ((Below.refl _ _).alloc (Nat.le_refl _) _).alloc (by simp) _
  have hadd := add_yes (.slice none 0 0) 0 (fun _ => zeroN) a WA (hT.below hT.pos hbA) (TrR.nil _ _) rfl h1 h2 h3 hwf (by show (-1 : Int) < 0; decide) (by decide)
  have hr0 : WA.cell? ⟨w.heap.size + 1, 0, none⟩ = some (.slice none 0 0) ∧ WA.frozen? ⟨w.heap.size + 1, 0, none⟩ = false ∧ w.heap.size + 1 < WA.heap.size := by
    have := heap_alloc_new (w.alloc (.cells #[.int .i64 a.mem, .int .i64 a.ep, .int .i64 a.pub] 26)) (.cells #[.slice none 0 0] 24)
    rw [show (w.alloc (.cells #[.int .i64 a.mem, .int .i64 a.ep, .int .i64 a.pub] 26)).heap.size = w.heap.size + 1 by simp, ← hWA] at this
    exact ⟨by rw [cell_of_row _ _ _ _ _ _ this]; rfl, frozen_of_row _ _ _ _ _ this, (Array.getElem?_eq_some_iff.1 this).1⟩
  have HA := Lib.hid (And.intro hbA hr0)
  obtain ⟨m, e, p⟩ := a
  unfold Addx.v at hadd ⊢
  simp only at hWA hadd ⊢
  clear hbA hr0 h1 h2 h3 hwf
  go_enter Tryd.func29, Tryd.ntmps29
  go_wp2_with fail
  rw [← hWA]
  refine hadd.mono ?_
  rintro e' w1 ⟨⟨v', rfl, hTR⟩, hb1⟩
  rw [show 2 * addN 0 (fun _ => zeroN) - 1 = 1 from rfl, show lg (addN 0 (fun _ => zeroN)) = 0 from rfl, show fb (fun _ => zeroN) (lvs 0) = 0 from rfl] at hTR
  obtain ⟨A', c', hv', -, -, -⟩ := id hTR
  obtain ⟨hbA, r0, rf, rlt⟩ := HA.out
  have s0 := (hb1.cell (p := ⟨w.heap.size + 1, 0, none⟩) rlt).trans r0
  have sf := (hb1.frozen (p := ⟨w.heap.size + 1, 0, none⟩) rlt).trans rf
  have slt : w.heap.size + 1 < w1.heap.size := Nat.lt_of_lt_of_le rlt hb1.size
  have HTR := Lib.hid hTR
  have HB1 := Lib.hid (hbA.trans (hb1.mono hbA.size))
  subst hv'
  clear hTR hb1 hbA r0 rf rlt hWA HA hadd
  have q9 : ∀ o u, ((w1.setCell ⟨w.heap.size + 1, 0, none⟩ u).alloc o).cell? ⟨w.heap.size + 1, 0, none⟩ = some u := fun o u => by
    rw [World.cell?_alloc_lt _ _ _ (by simp; exact slt)]
    apply World.cell?_setCell_same
    exact s0
  go_wp2_with fail
  refine bodyPost_ret (by simp [results, Tryd.results29, go_sem, q9]; rfl) rfl ?_
  refine ⟨⟨_, rfl, (HTR.out.setBox s0).alloc _⟩, ?_⟩
  exact (HB1.out.setCell (p := ⟨w.heap.size + 1, 0, none⟩) (by show w.heap.size ≤ w.heap.size + 1; omega) _).alloc (by simp; have := HB1.out.size; omega) _
end Go.Proofs.YtopkanokpfhmmaaDoor
