/- taken; Remove's refusals. -/
import Derived.Test.YtopkanokpfhmmaaDoorTF
namespace Go.Proofs.YtopkanokpfhmmaaDoor
open Go Go.RowKit
set_option linter.unusedVariables false
set_option linter.unusedSimpArgs false

/-- What taken answers. -/
structure TakP (G : Nat → Node) (m : Nat) (w : World) (e : Ending) (w' : World) : Prop where
  out : ∃ r : Bool, e = .returned (.bool r) ∧ (r = true ↔ ∃ i, 2 * i < m ∧ (G (2 * i)).blank = false)
  bel : Below w.heap.size w w'
set_option maxHeartbeats 2000000 in
set_option maxRecDepth 100000 in
theorem taken34 (b o m c : Nat) (G : Nat → Node) (w : World) (hm : m ≤ 100) (hN : ∀ j, j < m → NdAt w b (o + j * 4) (G j)) :
    Calls Tryd.prog 34 #[.slice (some ⟨b, o, none⟩) m c] w fun e w' => TakP G m w e w' := by
  have HN := Lib.hid hN
  clear hN
  go_enter Tryd.func34, Tryd.ntmps34
  go_wp2_with fail
  go_loopg [3] (m + 1) (fun g v3 wr => ∃ i : Nat, 2 * i ≤ m + 1 ∧ m + 1 ≤ i + g ∧ v3 = .int .i64 (2 * (i : Int)) ∧ (∀ j, j < i → (G (2 * j)).blank = true) ∧ Below w.heap.size w wr)
  case atStart => exact ⟨0, by omega, by omega, rfl, fun j hj => by omega, Below.refl _ _⟩
  case round =>
    obtain ⟨i, hi, hg, rfl, hall, hbel⟩ := hrel
    have HG := Lib.hid (And.intro hg hall)
    clear hg hall
    by_cases hlt : 2 * i < m
    · obtain ⟨c0, c1, c2, ⟨A', cc, c3, hIn⟩, hr⟩ := (HN.out (2 * i) hlt).below hbel
      have hb0 : b < wr.heap.size := World.block_lt_of_cell? _ _ c0
      have j1 : (0 : Int) ≤ 2 * (i : Int) := by omega
      have j2 : 2 * (i : Int) < m := by omega
      have hB := blankN (G (2 * i)) A' cc wr
      clear hIn
      cases hz : (G (2 * i)).blank with
      | true =>
        have HALL := Lib.hid (show ∀ j, j < i + 1 → (G (2 * j)).blank = true from fun j hj => by
          by_cases e : j = i
          · rw [e]; exact hz
          · exact HG.out.2 j (by omega))
        rw [hz] at hB
        clear hz
        generalize (G (2 * i)).pub = p at *
        generalize (G (2 * i)).mem = m' at *
        generalize (G (2 * i)).ep = e at *
        generalize (G (2 * i)).un.length = k at *
        go_wp2_with (go_at_call 28; refine hB.mono ?_; rintro e w2 ⟨rfl, hb2⟩)
        go_roundg (gk - 1)
        case rel => exact ⟨i + 1, by omega, by have := HG.out.1; omega, by go_num, HALL.out, hbel.trans (hb2.mono hbel.size)⟩
        case measure => have := HG.out.1; omega
      | false =>
        have HZ := Lib.hid (show ∃ i, 2 * i < m ∧ (G (2 * i)).blank = false from ⟨i, hlt, hz⟩)
        rw [hz] at hB
        clear hz
        generalize (G (2 * i)).pub = p at *
        generalize (G (2 * i)).mem = m' at *
        generalize (G (2 * i)).ep = e at *
        generalize (G (2 * i)).un.length = k at *
        go_wp2_with (go_at_call 28; refine hB.mono ?_; rintro e w2 ⟨rfl, hb2⟩)
        go_ret
        exact ⟨⟨true, rfl, fun _ => HZ.out, fun _ => rfl⟩, hbel.trans (hb2.mono hbel.size)⟩
    · have t1 : decide (2 * (i : Int) < (m : Int)) = false := decide_eq_false (by omega)
      go_wp2
      go_ret
      refine ⟨⟨false, rfl, ?_⟩, hbel⟩
      constructor
      · intro h
        cases h
      · rintro ⟨j, h1, h2⟩
        rw [HG.out.2 j (by omega)] at h2
        cases h2
/-- A tree's box and an answer's. -/
structure TwoB (w : World) (v : Value) (W : World) : Prop where
  bel : Below w.heap.size w W
  c0 : W.cell? ⟨w.heap.size, 0, none⟩ = some v
  r0 : W.cell? ⟨w.heap.size + 1, 0, none⟩ = some (.slice none 0 0)
  rf : W.frozen? ⟨w.heap.size + 1, 0, none⟩ = false
  lt : w.heap.size + 1 < W.heap.size
theorem TwoB.start (w : World) (v : Value) : TwoB w v ((w.alloc (.cells #[v] 24)).alloc (.cells #[.slice none 0 0] 24)) := by
  have h0 : ((w.alloc (.cells #[v] 24)).alloc (.cells #[.slice none 0 0] 24)).heap[w.heap.size]? = some (.cells #[v] 24 (0, 0)) := by
    rw [Below.heap_alloc _ _ _ (by simp)]
    exact heap_alloc_new _ _
  have h2 : ((w.alloc (.cells #[v] 24)).alloc (.cells #[.slice none 0 0] 24)).heap[w.heap.size + 1]? = some (.cells #[.slice none 0 0] 24 (0, 0)) := by
    have := heap_alloc_new (w.alloc (.cells #[v] 24)) (.cells #[.slice none 0 0] 24)
    rw [show (w.alloc (.cells #[v] 24)).heap.size = w.heap.size + 1 by simp] at this
    exact this
  refine ⟨((Below.refl _ _).alloc (Nat.le_refl _) _).alloc (by simp) _, ?_, ?_, ?_, by simp⟩
  · rw [cell_of_row _ _ _ _ _ _ h0]; rfl
  · rw [cell_of_row _ _ _ _ _ _ h2]; rfl
  · exact frozen_of_row _ _ _ _ _ h2
theorem TwoB.under2 {w : World} {v : Value} {W W' : World} {B : Nat} (h : TwoB w v W) (hb : Below B W W') (hl : w.heap.size + 1 < B) : TwoB w v W' := by
  refine ⟨h.bel.trans (hb.mono (by omega)), ?_, ?_, ?_, Nat.lt_of_lt_of_le h.lt hb.size⟩
  · rw [hb.cell (by show w.heap.size < _; omega)]; exact h.c0
  · rw [hb.cell (by show w.heap.size + 1 < _; omega)]; exact h.r0
  · rw [hb.frozen (by show w.heap.size + 1 < _; omega)]; exact h.rf
theorem TwoB.under {w : World} {v : Value} {W W' : World} (h : TwoB w v W) (hb : Below W.heap.size W W') : TwoB w v W' := h.under2 hb h.lt
theorem TwoB.stored {w : World} {v : Value} {W : World} (h : TwoB w v W) (u : Value) : (W.setCell ⟨w.heap.size + 1, 0, none⟩ u).cell? ⟨w.heap.size + 1, 0, none⟩ = some u := by
  apply World.cell?_setCell_same
  exact h.r0
/-- A refusal with a tree and an error. -/
structure TwoNo (w : World) (c : Int) (e : Ending) (w' : World) : Prop where
  out : e = .returned (.tuple #[.agg #[.slice none 0 0], .int .i64 c])
  bel : Below w.heap.size w w'
theorem sizeM_no {n : Nat} {F : Nat → Node} (h : chk n F = false) : sizeM n F = 0 := by unfold sizeM; rw [h]; rfl
set_option maxHeartbeats 2000000 in
set_option maxRecDepth 100000 in
theorem rem_no (v : Value) (n : Nat) (F : Nat → Node) (m : Int) (w : World) (hT : Tab w) (hR : TrR w v n F) (hn : n ≤ 262144) (hq : remE n F m ≠ 0) :
    Calls Tryd.prog 14 #[.agg #[v], .int .i64 m] w fun e w' => TwoNo w (remE n F m) e w' := by
  have hC : ∀ W, Below w.heap.size w W → Calls Tryd.prog 10 #[.agg #[v]] W fun e w' => e = .returned (.int .i64 (errB (chk n F))) ∧ Below W.heap.size W w' := fun W hW =>
    check10 v n F W (hT.below hT.pos hW) (hR.below hW) (by omega)
  have hF : ∀ W, Below w.heap.size w W → Calls Tryd.prog 15 #[.agg #[v], .int .i64 m] W fun e w' => e = .returned (.int .i64 (findM F m (sizeM n F))) ∧ Below W.heap.size W w' := fun W hW =>
    find15 v n F m W (hT.below hT.pos hW) (hR.below hW) hn
  have hM : ∀ W, Below w.heap.size w W → Calls Tryd.prog 12 #[.agg #[v]] W fun e w' => ∃ v', e = .returned v' ∧ OwnI w' W.heap.size v' (memL F (sizeM n F)) ∧ Below W.heap.size W w' := fun W hW =>
    members12 v n F W (hT.below hT.pos hW) (hR.below hW) hn
  obtain ⟨A, c, rfl, -, -, -⟩ := hR
  have HB0 := Lib.hid (TwoB.start w (.slice A n c))
  cases hz : chk n F with
  | false =>
    have hr : remE n F m = 1 := by unfold remE; rw [if_pos hz]
    rw [hr]
    rw [hz, errB_false] at hC
    generalize findM F m (sizeM n F) = f at *
    clear hq hr hz hM
    go_enter Tryd.func14, Tryd.ntmps14
    go_wp2_with (first
      | (go_at_call 15; refine (hF _ HB0.out.bel).mono ?_; rintro e' w1 ⟨rfl, hb1⟩; obtain ⟨d0, d1, d2, d3, d4⟩ := HB0.out.under hb1; have HB1 := Lib.hid (HB0.out.under hb1); have d5 : w.heap.size < w1.heap.size := by omega)
      | (go_at_call 10; refine (hC _ HB1.out.bel).mono ?_; rintro e' w2 ⟨rfl, hb2⟩; obtain ⟨f0, f1, f2, f3, f4⟩ := HB1.out.under hb2; have HB2 := Lib.hid (HB1.out.under hb2); have f5 : w.heap.size < w2.heap.size := by omega))
    have d8 := HB2.out.stored
    refine bodyPost_ret (by simp [results, Tryd.results14, go_sem, d8]; rfl) rfl ?_
    exact ⟨rfl, f0.setCell (by show w.heap.size ≤ w.heap.size + 1; omega) _⟩
  | true =>
    rw [hz, errB_true] at hC
    by_cases h1 : findM F m (sizeM n F) < 0
    · have hr : remE n F m = 7 := by unfold remE; rw [hz, if_neg (by decide), if_pos h1]
      rw [hr]
      have t1 : decide (findM F m (sizeM n F) < 0) = true := decide_eq_true h1
      generalize findM F m (sizeM n F) = f at *
      clear hq hr hz hM h1
      go_enter Tryd.func14, Tryd.ntmps14
      go_wp2_with (first
        | (go_at_call 15; refine (hF _ HB0.out.bel).mono ?_; rintro e' w1 ⟨rfl, hb1⟩; obtain ⟨d0, d1, d2, d3, d4⟩ := HB0.out.under hb1; have HB1 := Lib.hid (HB0.out.under hb1); have d5 : w.heap.size < w1.heap.size := by omega)
        | (go_at_call 10; refine (hC _ HB1.out.bel).mono ?_; rintro e' w2 ⟨rfl, hb2⟩; obtain ⟨f0, f1, f2, f3, f4⟩ := HB1.out.under hb2; have HB2 := Lib.hid (HB1.out.under hb2); have f5 : w.heap.size < w2.heap.size := by omega))
      have d8 := HB2.out.stored
      refine bodyPost_ret (by simp [results, Tryd.results14, go_sem, d8]; rfl) rfl ?_
      exact ⟨rfl, f0.setCell (by show w.heap.size ≤ w.heap.size + 1; omega) _⟩
    · have h2 : (memL F (sizeM n F)).length = 1 := by
        by_cases h2 : (memL F (sizeM n F)).length = 1
        · exact h2
        · exact absurd (by unfold remE; rw [hz, if_neg (by decide), if_neg h1, if_neg h2]) hq
      have hr : remE n F m = 9 := by unfold remE; rw [hz, if_neg (by decide), if_neg h1, if_pos h2]
      rw [hr]
      have t1 : decide (findM F m (sizeM n F) < 0) = false := decide_eq_false h1
      generalize findM F m (sizeM n F) = f at *
      generalize memL F (sizeM n F) = ml at *
      clear hq hr hz h1
      go_enter Tryd.func14, Tryd.ntmps14
      go_wp2_with (first
        | (go_at_call 15; refine (hF _ HB0.out.bel).mono ?_; rintro e' w1 ⟨rfl, hb1⟩; obtain ⟨d0, d1, d2, d3, d4⟩ := HB0.out.under hb1; have HB1 := Lib.hid (HB0.out.under hb1); have d5 : w.heap.size < w1.heap.size := by omega)
        | (go_at_call 10; refine (hC _ HB1.out.bel).mono ?_; rintro e' w2 ⟨rfl, hb2⟩; obtain ⟨f0, f1, f2, f3, f4⟩ := HB1.out.under hb2; have HB2 := Lib.hid (HB1.out.under hb2); have f5 : w.heap.size < w2.heap.size := by omega)
        | (go_at_call 12; refine (hM _ HB2.out.bel).mono ?_; rintro e' w3 ⟨vm, rfl, hom, hb3⟩; obtain ⟨Am, cm, rfl⟩ := hom.slice; rw [h2]; obtain ⟨g0, g1, g2, g3, g4⟩ := HB2.out.under hb3; have HB3 := Lib.hid (HB2.out.under hb3); have g5 : w.heap.size < w3.heap.size := by omega))
      have d8 := HB3.out.stored
      refine bodyPost_ret (by simp [results, Tryd.results14, go_sem, d8]; rfl) rfl ?_
      exact ⟨rfl, g0.setCell (by show w.heap.size ≤ w.heap.size + 1; omega) _⟩
end Go.Proofs.YtopkanokpfhmmaaDoor
