import Derived.Test.YtnahhclflnjmcaaGreatDoorTF
/- taken; Remove's refusals. -/
namespace Go.Proofs.YtnahhclflnjmcaaGreatDoor
open Go Go.RowKit
set_option linter.unusedVariables false
set_option linter.unusedSimpArgs false
set_option maxRecDepth 100000

/-- What taken answers. -/
structure TakP (G : Nat → Node) (m : Nat) (w : World) (e : Ending) (w' : World) : Prop where
  out : ∃ r : Bool, e = .returned (.bool r) ∧ (r = true ↔ ∃ i, 2 * i < m ∧ (G (2 * i)).blank = false)
  bel : Below w.heap.size w w'
set_option maxHeartbeats 2000000 in
set_option maxRecDepth 100000 in
theorem taken34 (b o m c : Nat) (G : Nat → Node) (w : World) (hm : m ≤ 100) (hN : ∀ j, j < m → NdAt w b (o + j * 4) (G j)) :
    Calls Tryz.prog 158 #[.slice (some ⟨b, o, none⟩) m c] w fun e w' => TakP G m w e w' := by
  have HN := Lib.hid hN
  clear hN
  go_enter Tryz.func158, Tryz.ntmps158
  go_wp2_with fail
  go_loopg [3] (m + 1) (fun g v3 wr => ∃ i : Nat, 2 * i ≤ m + 1 ∧ m + 1 ≤ i + g ∧ v3 = .int .i64 (2 * (i : Int)) ∧ (∀ j, j < i → (G (2 * j)).blank = true) ∧ Below w.heap.size w wr)
  case atStart => exact ⟨0, by omega, by omega, rfl, fun j hj => by omega, Below.refl _ _⟩
  case round =>
    obtain ⟨i, hi, hg, rfl, hall, hbel⟩ := hrel
    have HG := Lib.hid (And.intro hg hall)
    clear hg hall
    by_cases hlt : 2 * i < m
    · obtain ⟨c0, c1, c2, ⟨A', cc, c3, hIn⟩, hr⟩ := (HN.out (2 * i) hlt).below hbel
      have hb0 : b < wr.heap.size := World.block_lt_of_cell? _ _ c0
      have j1 : (0 : Int) ≤ 2 * (i : Int) := by omega
      have j2 : 2 * (i : Int) < m := by omega
      have hB := blankN (G (2 * i)) A' cc wr
      clear hIn
      cases hz : (G (2 * i)).blank with
      | true =>
        have HALL := Lib.hid (show ∀ j, j < i + 1 → (G (2 * j)).blank = true from fun j hj => by
          by_cases e : j = i
          · rw [e]; exact hz
          · exact HG.out.2 j (by omega))
        rw [hz] at hB
        clear hz
        generalize (G (2 * i)).pub = p at *
        generalize (G (2 * i)).mem = m' at *
        generalize (G (2 * i)).ep = e at *
        generalize (G (2 * i)).un.length = k at *
        go_wp2_with (go_at_call 46; refine hB.mono ?_; rintro e w2 ⟨rfl, hb2⟩)
        go_roundg (gk - 1)
        case rel => exact ⟨i + 1, by omega, by have := HG.out.1; omega, by go_num, HALL.out, hbel.trans (hb2.mono hbel.size)⟩
        case measure => have := HG.out.1; omega
      | false =>
        have HZ := Lib.hid (show ∃ i, 2 * i < m ∧ (G (2 * i)).blank = false from ⟨i, hlt, hz⟩)
        rw [hz] at hB
        clear hz
        generalize (G (2 * i)).pub = p at *
        generalize (G (2 * i)).mem = m' at *
        generalize (G (2 * i)).ep = e at *
        generalize (G (2 * i)).un.length = k at *
        go_wp2_with (go_at_call 46; refine hB.mono ?_; rintro e w2 ⟨rfl, hb2⟩)
        go_ret
        exact ⟨⟨true, rfl, fun _ => HZ.out, fun _ => rfl⟩, hbel.trans (hb2.mono hbel.size)⟩
    · have t1 : decide (2 * (i : Int) < (m : Int)) = false := decide_eq_false (by omega)
      go_wp2
      go_ret
      refine ⟨⟨false, rfl, ?_⟩, hbel⟩
      constructor
      · intro h
        cases h
      · rintro ⟨j, h1, h2⟩
        rw [HG.out.2 j (by omega)] at h2
        cases h2
/-- A tree's box and an answer's. -/
structure TwoB (w : World) (v : Value) (W : World) : Prop where
  bel : Below w.heap.size w W
  c0 : W.cell? ⟨w.heap.size, 0, none⟩ = some v
  r0 : W.cell? ⟨w.heap.size + 1, 0, none⟩ = some (.slice none 0 0)
  rf : W.frozen? ⟨w.heap.size + 1, 0, none⟩ = false
  lt : w.heap.size + 1 < W.heap.size
theorem TwoB.start (w : World) (v : Value) : TwoB w v ((w.alloc (.cells #[v] 24)).alloc (.cells #[.slice none 0 0] 24)) := by
  have h0 : ((w.alloc (.cells #[v] 24)).alloc (.cells #[.slice none 0 0] 24)).heap[w.heap.size]? = some (.cells #[v] 24 (0, 0)) := by
    rw [Below.heap_alloc _ _ _ (by simp)]
    exact heap_alloc_new _ _
  have h2 : ((w.alloc (.cells #[v] 24)).alloc (.cells #[.slice none 0 0] 24)).heap[w.heap.size + 1]? = some (.cells #[.slice none 0 0] 24 (0, 0)) := by
    have := heap_alloc_new (w.alloc (.cells #[v] 24)) (.cells #[.slice none 0 0] 24)
    rw [show (w.alloc (.cells #[v] 24)).heap.size = w.heap.size + 1 by simp] at this
    exact this
  refine ⟨((Below.refl _ _).alloc (Nat.le_refl _) _).alloc (by simp) _, ?_, ?_, ?_, by simp⟩
  · rw [cell_of_row _ _ _ _ _ _ h0]; rfl
  · rw [cell_of_row _ _ _ _ _ _ h2]; rfl
  · exact frozen_of_row _ _ _ _ _ h2
theorem TwoB.under2 {w : World} {v : Value} {W W' : World} {B : Nat} (h : TwoB w v W) (hb : Below B W W') (hl : w.heap.size + 1 < B) : TwoB w v W' := by
  refine ⟨h.bel.trans (hb.mono (by omega)), ?_, ?_, ?_, Nat.lt_of_lt_of_le h.lt hb.size⟩
  · rw [hb.cell (by show w.heap.size < _; omega)]; exact h.c0
  · rw [hb.cell (by show w.heap.size + 1 < _; omega)]; exact h.r0
  · rw [hb.frozen (by show w.heap.size + 1 < _; omega)]; exact h.rf
theorem TwoB.under {w : World} {v : Value} {W W' : World} (h : TwoB w v W) (hb : Below W.heap.size W W') : TwoB w v W' := h.under2 hb h.lt
theorem TwoB.stored {w : World} {v : Value} {W : World} (h : TwoB w v W) (u : Value) : (W.setCell ⟨w.heap.size + 1, 0, none⟩ u).cell? ⟨w.heap.size + 1, 0, none⟩ = some u := by
  apply World.cell?_setCell_same
  exact h.r0
/-- A refusal with a tree and an error. -/
structure TwoNo (w : World) (c : Int) (e : Ending) (w' : World) : Prop where
  out : e = .returned (.tuple #[.agg #[.slice none 0 0], .int .i64 c])
  bel : Below w.heap.size w w'
theorem sizeM_no {n : Nat} {F : Nat → Node} (h : chk n F = false) : sizeM n F = 0 := by unfold sizeM; rw [h]; rfl
set_option maxHeartbeats 2000000 in
set_option maxRecDepth 100000 in
theorem rem_no (v : Value) (n : Nat) (F : Nat → Node) (m : Int) (w : World) (hT : Tab w) (hR : TrR w v n F) (hn : n ≤ 262144) (hq : remE n F m ≠ 0) :
    Calls Tryz.prog 24 #[.agg #[v], .int .i64 m] w fun e w' => TwoNo w (remE n F m) e w' := by
  have hC : ∀ W, Below w.heap.size w W → Calls Tryz.prog 10 #[.agg #[v]] W fun e w' => e = .returned (.int .i64 (errB (chk n F))) ∧ Below W.heap.size W w' := fun W hW =>
    check10 v n F W (hT.below hT.pos hW) (hR.below hW) (by omega)
  have hF : ∀ W, Below w.heap.size w W → Calls Tryz.prog 12 #[.agg #[v], .int .i64 m] W fun e w' => e = .returned (.int .i64 (findM F m (sizeM n F))) ∧ Below W.heap.size W w' := fun W hW =>
    find15 v n F m W (hT.below hT.pos hW) (hR.below hW) hn
  have hM : ∀ W, Below w.heap.size w W → Calls Tryz.prog 13 #[.agg #[v]] W fun e w' => ∃ v', e = .returned v' ∧ OwnI w' W.heap.size v' (memL F (sizeM n F)) ∧ Below W.heap.size W w' := fun W hW =>
    members12 v n F W (hT.below hT.pos hW) (hR.below hW) hn
  obtain ⟨A, c, rfl, -, -, -⟩ := hR
  have HB0 := Lib.hid (TwoB.start w (.slice A n c))
  cases hz : chk n F with
  | false =>
    have hr : remE n F m = 1 := by unfold remE; rw [if_pos hz]
    rw [hr]
    rw [hz, errB_false] at hC
    generalize findM F m (sizeM n F) = f at *
    clear hq hr hz hM
    go_enter Tryz.func24, Tryz.ntmps24
    go_wp2_with (first
      | (go_at_call 12; refine (hF _ HB0.out.bel).mono ?_; rintro e' w1 ⟨rfl, hb1⟩; obtain ⟨d0, d1, d2, d3, d4⟩ := HB0.out.under hb1; have HB1 := Lib.hid (HB0.out.under hb1); have d5 : w.heap.size < w1.heap.size := by omega)
      | (go_at_call 10; refine (hC _ HB1.out.bel).mono ?_; rintro e' w2 ⟨rfl, hb2⟩; obtain ⟨f0, f1, f2, f3, f4⟩ := HB1.out.under hb2; have HB2 := Lib.hid (HB1.out.under hb2); have f5 : w.heap.size < w2.heap.size := by omega))
    have d8 := HB2.out.stored
    refine bodyPost_ret (by simp [results, Tryz.results24, go_sem, d8]; rfl) rfl ?_
    exact ⟨rfl, f0.setCell (by show w.heap.size ≤ w.heap.size + 1; omega) _⟩
  | true =>
    rw [hz, errB_true] at hC
    by_cases h1 : findM F m (sizeM n F) < 0
    · have hr : remE n F m = 7 := by unfold remE; rw [hz, if_neg (by decide), if_pos h1]
      rw [hr]
      have t1 : decide (findM F m (sizeM n F) < 0) = true := decide_eq_true h1
      generalize findM F m (sizeM n F) = f at *
      clear hq hr hz hM h1
      go_enter Tryz.func24, Tryz.ntmps24
      go_wp2_with (first
        | (go_at_call 12; refine (hF _ HB0.out.bel).mono ?_; rintro e' w1 ⟨rfl, hb1⟩; obtain ⟨d0, d1, d2, d3, d4⟩ := HB0.out.under hb1; have HB1 := Lib.hid (HB0.out.under hb1); have d5 : w.heap.size < w1.heap.size := by omega)
        | (go_at_call 10; refine (hC _ HB1.out.bel).mono ?_; rintro e' w2 ⟨rfl, hb2⟩; obtain ⟨f0, f1, f2, f3, f4⟩ := HB1.out.under hb2; have HB2 := Lib.hid (HB1.out.under hb2); have f5 : w.heap.size < w2.heap.size := by omega))
      have d8 := HB2.out.stored
      refine bodyPost_ret (by simp [results, Tryz.results24, go_sem, d8]; rfl) rfl ?_
      exact ⟨rfl, f0.setCell (by show w.heap.size ≤ w.heap.size + 1; omega) _⟩
    · have h2 : (memL F (sizeM n F)).length = 1 := by
        by_cases h2 : (memL F (sizeM n F)).length = 1
        · exact h2
        · exact absurd (by unfold remE; rw [hz, if_neg (by decide), if_neg h1, if_neg h2]) hq
      have hr : remE n F m = 9 := by unfold remE; rw [hz, if_neg (by decide), if_neg h1, if_pos h2]
      rw [hr]
      have t1 : decide (findM F m (sizeM n F) < 0) = false := decide_eq_false h1
      generalize findM F m (sizeM n F) = f at *
      generalize memL F (sizeM n F) = ml at *
      clear hq hr hz h1
      go_enter Tryz.func24, Tryz.ntmps24
      go_wp2_with (first
        | (go_at_call 12; refine (hF _ HB0.out.bel).mono ?_; rintro e' w1 ⟨rfl, hb1⟩; obtain ⟨d0, d1, d2, d3, d4⟩ := HB0.out.under hb1; have HB1 := Lib.hid (HB0.out.under hb1); have d5 : w.heap.size < w1.heap.size := by omega)
        | (go_at_call 10; refine (hC _ HB1.out.bel).mono ?_; rintro e' w2 ⟨rfl, hb2⟩; obtain ⟨f0, f1, f2, f3, f4⟩ := HB1.out.under hb2; have HB2 := Lib.hid (HB1.out.under hb2); have f5 : w.heap.size < w2.heap.size := by omega)
        | (go_at_call 13; refine (hM _ HB2.out.bel).mono ?_; rintro e' w3 ⟨vm, rfl, hom, hb3⟩; obtain ⟨Am, cm, rfl⟩ := hom.slice; rw [h2]; obtain ⟨g0, g1, g2, g3, g4⟩ := HB2.out.under hb3; have HB3 := Lib.hid (HB2.out.under hb3); have g5 : w.heap.size < w3.heap.size := by omega))
      have d8 := HB3.out.stored
      refine bodyPost_ret (by simp [results, Tryz.results24, go_sem, d8]; rfl) rfl ?_
      exact ⟨rfl, g0.setCell (by show w.heap.size ≤ w.heap.size + 1; omega) _⟩
end Go.Proofs.YtnahhclflnjmcaaGreatDoor

/- Remove, where it is done. -/
namespace Go.Proofs.YtnahhclflnjmcaaGreatDoor
open Go Go.RowKit
set_option linter.unusedVariables false
set_option linter.unusedSimpArgs false
set_option maxRecDepth 100000

theorem OwnK.trRp {w0 w : World} {B b N n : Nat} {F : Nat → Node} {uv : Nat → Value} (h : OwnK w0 w B b N N F uv) (hnN : n ≤ N) (c : Nat) (hc : n ≤ c) (hc2 : c ≤ maxLen) : TrR w (.slice (some ⟨b, 0, none⟩) n c) n F := by
  refine ⟨_, c, rfl, hc, hc2, fun _ => ⟨b, 0, rfl, fun y hy => ?_⟩⟩
  have hyN : y < N := by omega
  obtain ⟨h0, h1, h2, h3⟩ := h.cells hyN
  rw [Nat.zero_add]
  obtain ⟨A, c', e, _⟩ := (h.un y hyN hyN).ints
  refine ⟨h0, h1, h2, ⟨A, c', by rw [h3, e], by rw [← e]; exact (h.un y hyN hyN).ints⟩, h.wf y hyN⟩
theorem OwnK.setFar {w0 w : World} {B b n : Nat} {F : Nat → Node} {uv : Nat → Value} (h : OwnK w0 w B b n n F uv) {a : Addr} (hb : b ≠ a.block) (hu : ∀ y, y < n → (uv y).ownBlock ≠ some a.block) (u : Value) : OwnK w0 (w.setCell a u) B b n n F uv :=
  ⟨h.hb, h.row.setOther hb u, fun y h1 h2 => (h.un y h1 h2).setOther (hu y h1) u, h.far, h.nb, h.ap, h.wf⟩
def blankK (F : Nat → Node) (d i k y : Nat) : Node := if y = 2 * i ∨ y ∈ (dirs d i).take k then zeroN else F y
theorem blankK_full (F : Nat → Node) (d i : Nat) : blankK F d i d = blankF F d i := by
  funext y
  unfold blankK blankF
  rw [show (dirs d i).take d = dirs d i from List.take_of_length_le (by rw [dirs_length]; exact Nat.le_refl _)]
/-- What Remove leaves: d levels were there, i is the leaf. -/
structure RemYes (w : World) (F : Nat → Node) (d i : Nat) (e : Ending) (w' : World) : Prop where
  out : ∃ v', e = .returned (.tuple #[.agg #[v'], .int .i64 0]) ∧ TrO w' w.heap.size v' (2 ^ (cut (blankF F d i) d + 1) - 1) (blankF F d i)
  bel : Below w.heap.size w w'
theorem takenB_iff (F : Nat → Node) (d : Nat) : takenB F d = true ↔ ∃ i, i < 2 ^ d ∧ (F (2 * (2 ^ d + i))).blank = false := by
  unfold takenB
  rw [List.any_eq_true]
  constructor
  · rintro ⟨i, h1, h2⟩
    exact ⟨i, List.mem_range.1 h1, by simpa using h2⟩
  · rintro ⟨i, h1, h2⟩
    exact ⟨i, List.mem_range.2 h1, by simpa using h2⟩
set_option maxHeartbeats 8000000 in
set_option maxRecDepth 100000 in
theorem rem_yes (v : Value) (n d i : Nat) (F : Nat → Node) (m : Int) (w : World) (hT : Tab w) (hR : TrR w v n F) (hO : Ok d n F) (hfi : findM F m (sizeM n F) = i) (hil : i < 2 ^ d) (hq : (memL F (sizeM n F)).length ≠ 1) :
    Calls Tryz.prog 24 #[.agg #[v], .int .i64 m] w fun e w' => RemYes w F d i e w' := by
  have hz : chk n F = true := chk_iff.2 (.inr ⟨d, hO⟩)
  obtain ⟨hn15, hunl, -⟩ := chk_len hz
  have hC : ∀ W, Below w.heap.size w W → Calls Tryz.prog 10 #[.agg #[v]] W fun e w' => e = .returned (.int .i64 (errB (chk n F))) ∧ Below W.heap.size W w' := fun W hW =>
    check10 v n F W (hT.below hT.pos hW) (hR.below hW) (by omega)
  have hF : ∀ W, Below w.heap.size w W → Calls Tryz.prog 12 #[.agg #[v], .int .i64 m] W fun e w' => e = .returned (.int .i64 (findM F m (sizeM n F))) ∧ Below W.heap.size W w' := fun W hW =>
    find15 v n F m W (hT.below hT.pos hW) (hR.below hW) (by omega)
  have hM : ∀ W, Below w.heap.size w W → Calls Tryz.prog 13 #[.agg #[v]] W fun e w' => ∃ v', e = .returned v' ∧ OwnI w' W.heap.size v' (memL F (sizeM n F)) ∧ Below W.heap.size W w' := fun W hW =>
    members12 v n F W (hT.below hT.pos hW) (hR.below hW) (by omega)
  have hpos := hT.pos
  have h2d := two_pos d
  have h2d3 : 2 ^ d ≤ 2 ^ 3 := Nat.pow_le_pow_right (by decide) hO.hd
  have hs := two_succ d
  have hnd := hO.hn
  have hTW : ∀ W, Below w.heap.size w W → Calls Tryz.prog 154 #[.agg #[v], .int .i64 (2 ^ d : Nat)] W fun e w' => ∃ b uv, e = .returned (.agg #[.slice (some ⟨b, 0, none⟩) n n]) ∧ OwnK W w' W.heap.size b n n F uv ∧ Below W.heap.size W w' := fun W hW => by
    have := twin30 v n (2 ^ d) F W (hR.below hW) (by omega) (by omega) (by omega) (fun y hy => by have := hunl y; unfold pad at this; rw [if_pos hy] at this; omega)
    rw [show 2 * 2 ^ d - 1 = n by omega] at this
    refine this.mono ?_
    rintro e w' ⟨b, uv, h1, h2, h3⟩
    refine ⟨b, uv, h1, h2.congr fun y hy => ?_, h3⟩
    unfold pad
    rw [if_pos hy]
  have hunF : ∀ y, y < n → (F y).un.length ≤ 8 := fun y hy => hO.un_len hy
  obtain ⟨A, c, rfl, -, -, -⟩ := hR
  have hL := fun w => leaves26 A n c w (by omega)
  rw [hO.lvs] at hL
  have HB0 := Lib.hid (TwoB.start w (.slice A n c))
  rw [hz, errB_true] at hC
  rw [hfi] at hF
  have t1 : decide ((i : Int) < 0) = false := decide_eq_false (by omega)
  have t2 : (((memL F (sizeM n F)).length : Int) == 1) = false := by rw [beq_eq_false_iff_ne]; omega
  obtain ⟨L, hLd⟩ : ∃ L, L = 2 ^ d := ⟨_, rfl⟩
  rw [← hLd] at hL hTW hil h2d h2d3
  have HD := Lib.hid (And.intro hO (And.intro hLd (And.intro hT (And.intro hil hunF))))
  have h2in : 2 * i < n := by omega
  have hn1 : 1 ≤ n := by omega
  have m1 : (0 : Int) ≤ 2 * (i : Int) := by omega
  have m2 : 2 * (i : Int) < (n : Int) := by omega
  generalize memL F (sizeM n F) = ml at *
  clear hz hq hunl hfi hnd hs hLd hO hil hunF
  go_enter Tryz.func24, Tryz.ntmps24
  go_wp2_with (first
    | (go_at_call 12; refine (hF _ HB0.out.bel).mono ?_; rintro e' w1 ⟨rfl, hb1⟩; obtain ⟨d0, d1, d2, d3, d4⟩ := HB0.out.under hb1; have HB1 := Lib.hid (HB0.out.under hb1); have d5 : w.heap.size < w1.heap.size := by omega)
    | (go_at_call 10; refine (hC _ HB1.out.bel).mono ?_; rintro e' w2 ⟨rfl, hb2⟩; obtain ⟨f0, f1, f2, f3, f4⟩ := HB1.out.under hb2; have HB2 := Lib.hid (HB1.out.under hb2); have f5 : w.heap.size < w2.heap.size := by omega)
    | (go_at_call 13; refine (hM _ HB2.out.bel).mono ?_; rintro e' w3 ⟨vm, rfl, hom, hb3⟩; obtain ⟨Am, cm, rfl⟩ := hom.slice; obtain ⟨g0, g1, g2, g3, g4⟩ := HB2.out.under hb3; have HB3 := Lib.hid (HB2.out.under hb3); have g5 : w.heap.size < w3.heap.size := by omega)
    | (go_at_call 44; refine (hL _).mono ?_; rintro e' wo ⟨rfl, hb4⟩; obtain ⟨h0, h1, h2, h3, h4⟩ := HB3.out.under hb4; have HB4 := Lib.hid (HB3.out.under hb4); have h5 : w.heap.size < wo.heap.size := by omega))
  refine (hTW _ HB4.out.bel).mono ?_
  rintro e' w4 ⟨b2, uv, rfl, hK, hb5⟩
  have HK := Lib.hid hK
  obtain ⟨k0, k1, k2, k3, k4⟩ := HB4.out.under hb5
  have b2lt := hK.blt
  have k5 : w.heap.size < w4.heap.size := by omega
  obtain ⟨x0, x1, x2, x3⟩ := hK.cells h2in
  have xf0 := hK.row.frozen (2 * i * 4)
  have xf1 := hK.row.frozen (2 * i * 4 + 1)
  have xf2 := hK.row.frozen (2 * i * 4 + 2)
  have xf3 := hK.row.frozen (2 * i * 4 + 3)
  clear hb1 hb2 hb3 hb4 d0 d1 d2 d3 d4 d5 f0 f1 f2 f3 f4 f5 g0 g1 g2 g3 g4 g5 hC hF hM hL HB0 HB1 HB2 HB3 hom hTW
  go_wp2_with fail
  obtain ⟨WB, hWB⟩ : ∃ WB, WB = (((((w4.setCell ⟨b2, 2 * i * 4, none⟩ (.int .i64 0)).setCell ⟨b2, 2 * i * 4 + 1, none⟩ (.int .i64 0)).setCell ⟨b2, 2 * i * 4 + 2, none⟩ (.int .i64 0)).setCell ⟨b2, 2 * i * 4 + 3, none⟩ (.slice none 0 0)).alloc (.cells #[.slice (some ⟨b2, 0, none⟩) n n] 24)) := ⟨_, rfl⟩
  rw [← hWB]
  have hsWB : WB.heap.size = w4.heap.size + 1 := by rw [hWB]; simp
  have hb4B : wo.heap.size ≤ b2 := HK.out.hb
  have hB3W : Below wo.heap.size wo WB := by
    rw [hWB]
    exact ((((hb5.setCell hb4B _).setCell hb4B _).setCell hb4B _).setCell hb4B _).alloc (by simp; exact hb5.size) _
  have hKB0 : OwnK wo WB wo.heap.size b2 n n (blankK F d i 0) (fun z => if z = 2 * i then .slice none 0 0 else uv z) := by
    rw [hWB]
    refine OwnK.congr ((HK.out.setNode h2in 0 0 0 (by decide)).below ((Below.refl _ _).alloc (Nat.le_refl _) _)) fun y hy => ?_
    unfold blankK
    by_cases e1 : y = 2 * i
    · simp [e1, zeroN]
    · simp [e1]
  have hboxB : WB.cell? ⟨w4.heap.size, 0, none⟩ = some (.slice (some ⟨b2, 0, none⟩) n n) ∧ WB.frozen? ⟨w4.heap.size, 0, none⟩ = false := by
    have h := heap_alloc_new ((((w4.setCell ⟨b2, 2 * i * 4, none⟩ (.int .i64 0)).setCell ⟨b2, 2 * i * 4 + 1, none⟩ (.int .i64 0)).setCell ⟨b2, 2 * i * 4 + 2, none⟩ (.int .i64 0)).setCell ⟨b2, 2 * i * 4 + 3, none⟩ (.slice none 0 0)) (.cells #[.slice (some ⟨b2, 0, none⟩) n n] 24)
    rw [show ((((w4.setCell ⟨b2, 2 * i * 4, none⟩ (.int .i64 0)).setCell ⟨b2, 2 * i * 4 + 1, none⟩ (.int .i64 0)).setCell ⟨b2, 2 * i * 4 + 2, none⟩ (.int .i64 0)).setCell ⟨b2, 2 * i * 4 + 3, none⟩ (.slice none 0 0)).heap.size = w4.heap.size by simp, ← hWB] at h
    exact ⟨by rw [cell_of_row _ _ _ _ _ _ h]; rfl, frozen_of_row _ _ _ _ _ h⟩
  have hTB : Tab WB := HD.out.2.2.1.below hpos (HB4.out.bel.trans (hB3W.mono HB4.out.bel.size))
  have hapB : ∀ y, y < n → ∀ q, ((fun z => if z = 2 * i then Value.slice none 0 0 else uv z) y).ownBlock = some q → q < w4.heap.size := fun y hy q hq => by
    by_cases e1 : y = 2 * i
    · simp only [e1, if_true] at hq
      cases hq
    · simp only [e1, if_false] at hq
      exact (World.ownsRow.lt (HK.out.un y hy hy) q hq).2
  have HAP := Lib.hid hapB
  clear hapB
  generalize (fun z => if z = 2 * i then Value.slice none 0 0 else uv z) = uv0 at hKB0 HAP
  have HKB := Lib.hid hKB0
  clear hWB hKB0 HK hb5 k0 k1 k2 k3 k4 x0 x1 x2 x3 xf0 xf1 xf2 xf3 hK m1 m2
  refine (dir31 d i L HD.out.1.hd HD.out.2.1 HD.out.2.2.2.1 WB hTB).mono ?_
  rintro e' w5 ⟨vd, rfl, hvd, hvb, hb6⟩
  obtain ⟨Ad, cd, rfl, -, -, -⟩ := id hvd
  have hdl : (natL (dirs d i)).length = d := by unfold natL; rw [List.length_map, dirs_length]
  rw [hdl] at hvd hvb ⊢
  have hs5 := hb6.size
  have hB35 : Below wo.heap.size wo w5 := hB3W.trans (hb6.mono hB3W.size)
  have HB5 := Lib.hid (HB4.out.under hB35)
  have HK5 := Lib.hid (HKB.out.below hb6)
  have hbox5 : w5.cell? ⟨w4.heap.size, 0, none⟩ = some (.slice (some ⟨b2, 0, none⟩) n n) := (hb6.cell (by show w4.heap.size < _; omega)).trans hboxB.1
  have hboxf5 : w5.frozen? ⟨w4.heap.size, 0, none⟩ = false := (hb6.frozen (by show w4.heap.size < _; omega)).trans hboxB.2
  have HVD := Lib.hid (And.intro hvd hvb)
  have HB35 := Lib.hid hB35
  have hd3 : d ≤ 3 := HD.out.1.hd
  clear hvd hvb hb6 hTB hB3W hboxB HKB hB35
  go_wp2_with fail
  go_loopg [45] (d + 1) (fun g v45 wr => ∃ (k : Nat) (uv' : Nat → Value), k ≤ d ∧ k + g = d + 1 ∧ v45 = .int .i64 k ∧ OwnK wo wr wo.heap.size b2 n n (blankK F d i k) uv' ∧ w5.grownBy wr (some b2) ∧ ∀ y, y < n → ∀ q, (uv' y).ownBlock = some q → q < w4.heap.size)
  case atStart => exact ⟨0, uv0, by omega, by omega, rfl, HK5.out, World.grownBy.refl _ _, HAP.out⟩
  case round =>
    obtain ⟨k, uv', hk, hg2, rfl, hK, hM, hap⟩ := hrel
    have HAP2 := Lib.hid hap
    clear hap
    have HG2 := Lib.hid hg2
    have HK := Lib.hid hK
    have HM := Lib.hid hM
    have hsr := hM.size
    have hbr : b2 < wr.heap.size := hK.blt
    have hbw5 : b2 < w5.heap.size := HK5.out.blt
    have hb4ne : w4.heap.size ≠ b2 := by omega
    have hbox : wr.cell? ⟨w4.heap.size, 0, none⟩ = some (.slice (some ⟨b2, 0, none⟩) n n) := (World.cell?_of_block (a := ⟨w4.heap.size, 0, none⟩) (hM.block _ (by show w4.heap.size < _; omega) (fun e => hb4ne (Option.some.inj e)))).trans hbox5
    have hboxf : wr.frozen? ⟨w4.heap.size, 0, none⟩ = false := (World.frozen?_of_block (a := ⟨w4.heap.size, 0, none⟩) (hM.block _ (by show w4.heap.size < _; omega) (fun e => hb4ne (Option.some.inj e)))).trans hboxf5
    have hb4r : w4.heap.size < wr.heap.size := by omega
    clear hg2
    by_cases hlt2 : k < d
    · obtain ⟨x, hx, hxn, hxo, hxt, htk⟩ := dirs_at hd3 (show i < 2 ^ d by rw [← HD.out.2.1]; exact HD.out.2.2.2.1) hlt2
      have hxN : x < n := by rw [HD.out.1.hn]; exact hxn
      obtain ⟨bd, od, rfl, cd0⟩ := HVD.out.1.at (natL_get hx)
      have hbd1 : w4.heap.size ≤ bd := by have := HVD.out.2 bd rfl; omega
      have hbd2 : bd < w5.heap.size := World.block_lt_of_cell? _ _ cd0
      have cdk : wr.cell? ⟨bd, od + k, none⟩ = some (.int .i64 x) := (World.cell?_of_block (a := ⟨bd, od + k, none⟩) (hM.block _ hbd2 (fun e => by have : bd = b2 := Option.some.inj e; omega))).trans cd0
      have hbdr : bd < wr.heap.size := by omega
      obtain ⟨x0, x1, x2, x3⟩ := hK.cells hxN
      have xf0 := hK.row.frozen (x * 4)
      have xf1 := hK.row.frozen (x * 4 + 1)
      have xf2 := hK.row.frozen (x * 4 + 2)
      have xf3 := hK.row.frozen (x * 4 + 3)
      have j1 : (0 : Int) ≤ (k : Int) := by omega
      have j2 : (k : Int) < (d : Int) := by omega
      have j4 : (0 : Int) ≤ (x : Int) := by omega
      have j5 : (x : Int) < (n : Int) := by omega
      have HX := Lib.hid htk
      clear hx hxt htk cd0
      go_wp2_with fail
      go_roundg (gk - 1)
      case rel =>
        refine ⟨k + 1, _, by omega, by have := HG2.out; omega, by go_num, (HK.out.setNode hxN 0 0 0 (by decide)).congr fun y hy => ?_, (((HM.out.trans (grownBy_set _ _ _ _)).trans (grownBy_set _ _ _ _)).trans (grownBy_set _ _ _ _)).trans (grownBy_set _ _ _ _), fun y hy q hq => ?_⟩
        · unfold blankK
          rw [HX.out]
          by_cases e2 : y = x
          · simp [e2, zeroN]
          · simp [e2]
        · by_cases e2 : y = x
          · simp only [e2, if_true] at hq
            cases hq
          · simp only [e2, if_false] at hq
            exact HAP2.out y hy q hq
      case measure => have := HG2.out; omega
    · obtain rfl : k = d := by omega
      rw [blankK_full] at HK
      have hbelr : Below wo.heap.size wo wr := HB35.out.trans ⟨hM.os, hM.tape, hM.output, hM.size, fun q hq => hM.block q (by have := HB35.out.size; omega) (fun e => by have := Option.some.inj e; omega)⟩
      have HBR := Lib.hid hbelr
      clear hK hM hbelr hbox5 hboxf5 HK5 HVD
      generalize hGG : blankF F k i = G at *
      have HGG := Lib.hid hGG
      obtain ⟨wp, rfl⟩ : ∃ wp, wp = wr := ⟨_, rfl⟩
      have hbx0 : w4.heap.size ≠ b2 := by omega
      have hbxB : wo.heap.size ≤ w4.heap.size := by omega
      have HBOX := Lib.hid (And.intro hbox hboxf)
      have hn15' : n ≤ 15 := hn15
      clear hbox hboxf hGG
      go_wp2_with fail
      go_loopg [7] (k + 1) (fun g v7 wr => ∃ e M : Nat, e ≤ k ∧ e + 1 ≤ g ∧ M = 2 ^ e ∧ v7 = .int .i64 M ∧ cut G k = cut G e ∧ OwnK wo wr wo.heap.size b2 n n G uv' ∧ (wr.cell? ⟨w4.heap.size, 0, none⟩ = some (.slice (some ⟨b2, 0, none⟩) (2 * M - 1) n) ∧ wr.frozen? ⟨w4.heap.size, 0, none⟩ = false) ∧ Below wo.heap.size wo wr ∧ w4.heap.size < wr.heap.size)
      case atStart => exact ⟨k, L, by omega, by omega, HD.out.2.1, rfl, rfl, HK.out, by rw [show 2 * L - 1 = n by have := HD.out.1.hn; have := two_succ k; have := HD.out.2.1; omega]; exact HBOX.out, HBR.out, hb4r⟩
      case round =>
        obtain ⟨e, M, he, hg3, hMe, rfl, hcut, hK, ⟨hbox, hboxf⟩, hbel, hbxr⟩ := hrel
        have HG3 := Lib.hid (And.intro hg3 hcut)
        have HK2 := Lib.hid hK
        have hbr2 : b2 < wr.heap.size := hK.blt
        have HME := Lib.hid hMe
        have hM0 : 1 ≤ M := by rw [hMe]; exact two_pos e
        have hMn : 2 * M - 1 ≤ n := by
          have h1 := HD.out.1.hn
          have h2 : 2 ^ e ≤ 2 ^ k := Nat.pow_le_pow_right (by decide) he
          have h3 := two_succ k
          omega
        obtain ⟨NL, hNL⟩ : ∃ NL, NL = 2 * M - 1 := ⟨_, rfl⟩
        rw [← hNL] at hbox hMn
        have HNL := Lib.hid hNL
        clear hg3 hcut hK hMe
        have HBEL := Lib.hid hbel
        cases e with
        | zero =>
          have hM1 : M = 1 := HME.out
          have t9 : decide ((1 : Int) < (M : Int)) = false := decide_eq_false (by omega)
          have hNL1 : NL = 1 := by omega
          clear hNL
          subst hM1
          go_wp2_with fail
          have hTR := (HK2.out.trRp (n := 1) (by omega) n (by omega) (by unfold maxLen; omega))
          refine (twin30 _ 1 1 G wr hTR (by omega) (by omega) (by omega) (fun y hy => ?_)).mono ?_
          · have hGy : G y = blankF F k i y := by rw [HGG.out]
            rw [hGy]
            unfold blankF
            split
            · decide
            · have := HD.out.2.2.2.2 y (by omega)
              omega
          rintro e' w7 ⟨b7, uv7, rfl, hK7, hb7⟩
          obtain ⟨z0, z1, z2, z3, z4⟩ := (HB4.out.under hbel).under hb7
          have z8 := ((HB4.out.under hbel).under hb7).stored
          have z5 := hK7.elsewhere (a := ⟨w.heap.size + 1, 0, none⟩) (by show w.heap.size + 1 < _; have := HB4.out.lt; have := hbel.size; omega) (.slice (some ⟨b7, 0, none⟩) 1 1)
          have Z5 := Lib.hid z5
          clear hK7 z5
          go_wp2_with fail
          refine bodyPost_ret (by simp [results, Tryz.results24, go_sem, z8]; rfl) rfl ?_
          have hcut0 : cut G k = 0 := HG3.out.2
          refine ⟨⟨_, rfl, ?_⟩, z0.setCell (by show w.heap.size ≤ w.heap.size + 1; omega) _⟩
          rw [HGG.out, hcut0]
          refine TrO.congr (Z5.out.trO (by unfold maxLen; omega) (by omega)) fun y hy => ?_
          unfold pad
          rw [if_pos (by omega)]
        | succ e =>
          obtain ⟨M', hM'⟩ : ∃ M', M' = 2 ^ e := ⟨_, rfl⟩
          have hMM : M = 2 * M' := by rw [HME.out, two_succ, hM']
          have hM'0 : 1 ≤ M' := by rw [hM']; exact two_pos e
          have t9 : decide ((1 : Int) < (M : Int)) = true := decide_eq_true (by omega)
          have q1 : (0 : Int) ≤ (M : Int) := by omega
          have q2 : (M : Int) ≤ (NL : Int) := by omega
          have q3 : ¬ (n = M) := by omega
          have q4 : M ≤ NL := by omega
          have HM' := Lib.hid (And.intro hM' hMM)
          have HTK : ∀ W, Below wr.heap.size wr W → Calls Tryz.prog 158 #[.slice (some ⟨b2, M * 4, none⟩) (NL - M) (n - M)] W fun e w' => TakP (fun j => G (M + j)) (NL - M) W e w' := fun W hW =>
            taken34 b2 (M * 4) (NL - M) (n - M) _ W (by omega) (fun j hj => by
              have hKW := HK2.out.below hW
              have hy : M + j < n := by omega
              have := (hKW.trRp (n := n) (Nat.le_refl _) n (Nat.le_refl _) (by unfold maxLen; omega))
              obtain ⟨A2, c2, e2, -, -, h3⟩ := this
              obtain ⟨bb, oo, e3, h4⟩ := h3 (by omega)
              injection e2 with e2 _ _
              rw [← e2] at e3
              injection e3 with e3
              injection e3 with e3 e4 _
              subst e3 e4
              have := h4 (M + j) hy
              rw [show 0 + (M + j) * 4 = M * 4 + j * 4 by omega] at this
              exact this)
          have HTKI : ∀ r : Bool, (r = true ↔ ∃ i, 2 * i < NL - M ∧ (G (M + 2 * i)).blank = false) → r = takenB G e := fun r hr => by
            rw [Bool.eq_iff_iff, hr, takenB_iff]
            constructor
            · rintro ⟨j, h1, h2⟩
              exact ⟨j, by omega, by rw [show 2 * (2 ^ e + j) = M + 2 * j by omega]; exact h2⟩
            · rintro ⟨j, h1, h2⟩
              exact ⟨j, by omega, by rw [show M + 2 * j = 2 * (2 ^ e + j) by omega]; exact h2⟩
          clear hNL hM' hMM
          have hbW : TwoB w (.slice A n c) wr := HB4.out.under hbel
          have HBW := Lib.hid hbW
          have eM : (M : Int) / 2 = (M' : Int) := by have := HM'.out.2; omega
          have q5 : (0 : Int) ≤ 2 * (M' : Int) - 1 := by omega
          have q6 : 2 * (M' : Int) - 1 ≤ (n : Int) := by have := HM'.out.2; omega
          have eM2 : ((M' : Int) * 2 - 1).toNat = 2 * M' - 1 := by omega
          clear hbW
          go_wp2_with fail
          refine (HTK _ (Below.refl _ _)).mono ?_
          rintro e' w6 ⟨⟨r, rfl, hr⟩, hb8⟩
          have hre := HTKI r hr
          obtain ⟨y0, yf⟩ : w6.cell? ⟨w4.heap.size, 0, none⟩ = some (.slice (some ⟨b2, 0, none⟩) NL n) ∧ w6.frozen? ⟨w4.heap.size, 0, none⟩ = false := ⟨(hb8.cell hbxr).trans hbox, (hb8.frozen hbxr).trans hboxf⟩
          have ylt : w4.heap.size < w6.heap.size := Nat.lt_of_lt_of_le hbxr hb8.size
          have hbel6 : Below wo.heap.size wo w6 := hbel.trans (hb8.mono hbel.size)
          have HK6 := Lib.hid (HK2.out.below hb8)
          have HRE := Lib.hid hre
          have HB8 := Lib.hid hbel6
          clear hr hre HTK HTKI hb8
          cases r with
          | true =>
            go_wp2_with fail
            have hTR := (HK6.out.trRp (n := NL) (by omega) n (by omega) (by unfold maxLen; omega))
            refine (twin30 _ NL M G w6 hTR (by have := HNL.out; omega) (by omega) (by have := HNL.out; omega) (fun y hy => ?_)).mono ?_
            · have hGy : G y = blankF F k i y := by rw [HGG.out]
              rw [hGy]
              unfold blankF
              split
              · decide
              · have := HD.out.2.2.2.2 y (by omega)
                omega
            rintro e' w7 ⟨b7, uv7, rfl, hK7, hb7⟩
            rw [← HNL.out] at hK7 ⊢
            have hbW6 : TwoB w (.slice A n c) w6 := HB4.out.under2 HB8.out HB4.out.lt
            obtain ⟨z0, z1, z2, z3, z4⟩ := hbW6.under hb7
            have z8 := (hbW6.under hb7).stored
            have z5 := hK7.elsewhere (a := ⟨w.heap.size + 1, 0, none⟩) (by show w.heap.size + 1 < _; have := hbW6.lt; omega) (.slice (some ⟨b7, 0, none⟩) NL NL)
            have Z5 := Lib.hid z5
            clear hK7 z5 hbW6
            go_wp2_with fail
            refine bodyPost_ret (by simp [results, Tryz.results24, go_sem, z8]; rfl) rfl ?_
            have hcut0 : cut G k = e + 1 := by
              rw [HG3.out.2, cut, ← HRE.out]
              rfl
            refine ⟨⟨_, rfl, ?_⟩, z0.setCell (by show w.heap.size ≤ w.heap.size + 1; omega) _⟩
            rw [HGG.out, hcut0, show 2 ^ (e + 1 + 1) - 1 = NL by
              have h1 := HNL.out
              obtain ⟨h2, h3⟩ := HM'.out
              have h4 := two_succ (e + 1)
              have h5 := two_succ e
              omega]
            refine TrO.congr (Z5.out.trO (by unfold maxLen; omega) (by omega)) fun y hy => ?_
            unfold pad
            rw [if_pos hy]
          | false =>
            go_wp2_with fail
            go_roundg (gk - 1)
            case rel =>
              obtain ⟨h2, h3⟩ := HM'.out
              refine ⟨e, M', by omega, by have := HG3.out.1; omega, h2, rfl, ?_, HK6.out.setFar (a := ⟨w4.heap.size, 0, none⟩) (fun e2 => hbx0 e2.symm) (fun y hy e2 => by have : w4.heap.size < w4.heap.size := HAP2.out y hy _ e2; omega) _, ⟨?_, ?_⟩, HB8.out.setCell (by exact hbxB) _, by simp; exact ylt⟩
              · rw [HG3.out.2, cut, ← HRE.out]
                rfl
              · apply World.cell?_setCell_same
                exact y0
              · rw [World.frozen?_setCell]
                exact yf
            case measure => have := HG3.out.1; omega
end Go.Proofs.YtnahhclflnjmcaaGreatDoor
