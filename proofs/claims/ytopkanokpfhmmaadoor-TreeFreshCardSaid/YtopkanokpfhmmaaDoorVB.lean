/- TreeFills: the walk. -/
import Derived.Test.YtopkanokpfhmmaaDoorVA
import Derived.Deep.DeepCutAuto
import Derived.Deep.RegionWith
namespace Go.Proofs.YtopkanokpfhmmaaDoor
open Go Go.RowKit
set_option linter.unusedVariables false
set_option linter.unusedSimpArgs false

theorem heldF_drew {wr w' : World} {s t : Nat} {v u : Value} (h : w'.cell? ⟨s, 0, none⟩ = some v ∧ w'.cell? ⟨t, 0, none⟩ = some u ∧ Below wr.heap.size wr w') :
    w'.drew.cell? ⟨s, 0, none⟩ = some v ∧ w'.drew.cell? ⟨t, 0, none⟩ = some u ∧ Below wr.heap.size wr w'.drew := ⟨h.1, h.2.1, h.2.2.drew⟩
theorem heldF_call {wr w' w'' : World} {s t : Nat} {v u : Value} (h : w'.cell? ⟨s, 0, none⟩ = some v ∧ w'.cell? ⟨t, 0, none⟩ = some u ∧ Below wr.heap.size wr w') (hb : Below w'.heap.size w' w'') :
    w''.cell? ⟨s, 0, none⟩ = some v ∧ w''.cell? ⟨t, 0, none⟩ = some u ∧ Below wr.heap.size wr w'' :=
  ⟨(hb.cell (World.block_lt_of_cell? _ _ h.1)).trans h.1, (hb.cell (World.block_lt_of_cell? _ _ h.2.1)).trans h.2.1, h.2.2.trans (hb.mono h.2.2.size)⟩
theorem heldF_mid {wr w' : World} {s t : Nat} {v u : Value} (h : w'.cell? ⟨s, 0, none⟩ = some v ∧ w'.cell? ⟨t, 0, none⟩ = some u ∧ Below wr.heap.size wr w') : Below wr.heap.size wr w' := h.2.2
/-- What is held while two nodes are read. -/
theorem heldT_drew {wr w' : World} {s t : Nat} {v u : Value} {p0 p1 p2 p3 q0 q1 q2 q3 : Addr} {x0 x1 x2 x3 y0 y1 y2 y3 : Value}
    (h : w'.cell? ⟨s, 0, none⟩ = some v ∧ w'.cell? ⟨t, 0, none⟩ = some u ∧ w'.cell? p0 = some x0 ∧ w'.cell? p1 = some x1 ∧ w'.cell? p2 = some x2 ∧ w'.cell? p3 = some x3 ∧ w'.cell? q0 = some y0 ∧ w'.cell? q1 = some y1 ∧ w'.cell? q2 = some y2 ∧ w'.cell? q3 = some y3 ∧ Below wr.heap.size wr w') :
    w'.drew.cell? ⟨s, 0, none⟩ = some v ∧ w'.drew.cell? ⟨t, 0, none⟩ = some u ∧ w'.drew.cell? p0 = some x0 ∧ w'.drew.cell? p1 = some x1 ∧ w'.drew.cell? p2 = some x2 ∧ w'.drew.cell? p3 = some x3 ∧ w'.drew.cell? q0 = some y0 ∧ w'.drew.cell? q1 = some y1 ∧ w'.drew.cell? q2 = some y2 ∧ w'.drew.cell? q3 = some y3 ∧ Below wr.heap.size wr w'.drew :=
  ⟨h.1, h.2.1, h.2.2.1, h.2.2.2.1, h.2.2.2.2.1, h.2.2.2.2.2.1, h.2.2.2.2.2.2.1, h.2.2.2.2.2.2.2.1, h.2.2.2.2.2.2.2.2.1, h.2.2.2.2.2.2.2.2.2.1, h.2.2.2.2.2.2.2.2.2.2.drew⟩
theorem heldT_call {wr w' w'' : World} {s t : Nat} {v u : Value} {p0 p1 p2 p3 q0 q1 q2 q3 : Addr} {x0 x1 x2 x3 y0 y1 y2 y3 : Value}
    (h : w'.cell? ⟨s, 0, none⟩ = some v ∧ w'.cell? ⟨t, 0, none⟩ = some u ∧ w'.cell? p0 = some x0 ∧ w'.cell? p1 = some x1 ∧ w'.cell? p2 = some x2 ∧ w'.cell? p3 = some x3 ∧ w'.cell? q0 = some y0 ∧ w'.cell? q1 = some y1 ∧ w'.cell? q2 = some y2 ∧ w'.cell? q3 = some y3 ∧ Below wr.heap.size wr w') (hb : Below w'.heap.size w' w'') :
    w''.cell? ⟨s, 0, none⟩ = some v ∧ w''.cell? ⟨t, 0, none⟩ = some u ∧ w''.cell? p0 = some x0 ∧ w''.cell? p1 = some x1 ∧ w''.cell? p2 = some x2 ∧ w''.cell? p3 = some x3 ∧ w''.cell? q0 = some y0 ∧ w''.cell? q1 = some y1 ∧ w''.cell? q2 = some y2 ∧ w''.cell? q3 = some y3 ∧ Below wr.heap.size wr w'' := by
  have key : ∀ {p : Addr} {v : Value}, w'.cell? p = some v → w''.cell? p = some v := fun hc => by
    rw [hb.cell (World.block_lt_of_cell? _ _ hc)]; exact hc
  obtain ⟨h0, h1, h2, h3, h4, h5, h6, h7, h8, h9, h10⟩ := h
  exact ⟨key h0, key h1, key h2, key h3, key h4, key h5, key h6, key h7, key h8, key h9, h10.trans (hb.mono h10.size)⟩
theorem heldT_mid {wr w' : World} {s t : Nat} {v u : Value} {p0 p1 p2 p3 q0 q1 q2 q3 : Addr} {x0 x1 x2 x3 y0 y1 y2 y3 : Value}
    (h : w'.cell? ⟨s, 0, none⟩ = some v ∧ w'.cell? ⟨t, 0, none⟩ = some u ∧ w'.cell? p0 = some x0 ∧ w'.cell? p1 = some x1 ∧ w'.cell? p2 = some x2 ∧ w'.cell? p3 = some x3 ∧ w'.cell? q0 = some y0 ∧ w'.cell? q1 = some y1 ∧ w'.cell? q2 = some y2 ∧ w'.cell? q3 = some y3 ∧ Below wr.heap.size wr w') : Below wr.heap.size wr w' := h.2.2.2.2.2.2.2.2.2.2
theorem heldU_drew {wr w' : World} {t : Nat} {u : Value} {p0 p1 p2 p3 p4 p5 : Addr} {x0 x1 x2 x3 x4 x5 : Value}
    (h : w'.cell? ⟨t, 0, none⟩ = some u ∧ w'.cell? p0 = some x0 ∧ w'.cell? p1 = some x1 ∧ w'.cell? p2 = some x2 ∧ w'.cell? p3 = some x3 ∧ w'.cell? p4 = some x4 ∧ w'.cell? p5 = some x5 ∧ Below wr.heap.size wr w') :
    w'.drew.cell? ⟨t, 0, none⟩ = some u ∧ w'.drew.cell? p0 = some x0 ∧ w'.drew.cell? p1 = some x1 ∧ w'.drew.cell? p2 = some x2 ∧ w'.drew.cell? p3 = some x3 ∧ w'.drew.cell? p4 = some x4 ∧ w'.drew.cell? p5 = some x5 ∧ Below wr.heap.size wr w'.drew :=
  ⟨h.1, h.2.1, h.2.2.1, h.2.2.2.1, h.2.2.2.2.1, h.2.2.2.2.2.1, h.2.2.2.2.2.2.1, h.2.2.2.2.2.2.2.drew⟩
theorem heldU_call {wr w' w'' : World} {t : Nat} {u : Value} {p0 p1 p2 p3 p4 p5 : Addr} {x0 x1 x2 x3 x4 x5 : Value}
    (h : w'.cell? ⟨t, 0, none⟩ = some u ∧ w'.cell? p0 = some x0 ∧ w'.cell? p1 = some x1 ∧ w'.cell? p2 = some x2 ∧ w'.cell? p3 = some x3 ∧ w'.cell? p4 = some x4 ∧ w'.cell? p5 = some x5 ∧ Below wr.heap.size wr w') (hb : Below w'.heap.size w' w'') :
    w''.cell? ⟨t, 0, none⟩ = some u ∧ w''.cell? p0 = some x0 ∧ w''.cell? p1 = some x1 ∧ w''.cell? p2 = some x2 ∧ w''.cell? p3 = some x3 ∧ w''.cell? p4 = some x4 ∧ w''.cell? p5 = some x5 ∧ Below wr.heap.size wr w'' := by
  have key : ∀ {p : Addr} {v : Value}, w'.cell? p = some v → w''.cell? p = some v := fun hc => by
    rw [hb.cell (World.block_lt_of_cell? _ _ hc)]; exact hc
  obtain ⟨h0, h1, h2, h3, h4, h5, h6, h7⟩ := h
  exact ⟨key h0, key h1, key h2, key h3, key h4, key h5, key h6, h7.trans (hb.mono h7.size)⟩
theorem heldU_mid {wr w' : World} {t : Nat} {u : Value} {p0 p1 p2 p3 p4 p5 : Addr} {x0 x1 x2 x3 x4 x5 : Value}
    (h : w'.cell? ⟨t, 0, none⟩ = some u ∧ w'.cell? p0 = some x0 ∧ w'.cell? p1 = some x1 ∧ w'.cell? p2 = some x2 ∧ w'.cell? p3 = some x3 ∧ w'.cell? p4 = some x4 ∧ w'.cell? p5 = some x5 ∧ Below wr.heap.size wr w') : Below wr.heap.size wr w' := h.2.2.2.2.2.2.2
theorem FB.keep {w : World} {v : Value} {m e p : Int} {W0 W : World} (h : FB w v m e p W0) (hb : Below W0.heap.size W0 W) : W.cell? ⟨w.heap.size, 0, none⟩ = some v ∧ W.cell? ⟨w.heap.size + 1, 0, none⟩ = some (.int .i64 m) ∧ W.cell? ⟨w.heap.size + 1, 1, none⟩ = some (.int .i64 e) ∧ W.cell? ⟨w.heap.size + 1, 2, none⟩ = some (.int .i64 p) :=
  ⟨(h.under hb).c0, (h.under hb).a0, (h.under hb).a1, (h.under hb).a2⟩
theorem TrR.at' {w : World} {A : Option Addr} {c n y : Nat} {F : Nat → Node} (h : TrR w (.slice A n c) n F) (hy : y < n) : ∃ b o, A = some ⟨b, o, none⟩ ∧ NdAt w b (o + y * 4) (F y) := by
  obtain ⟨A', c', e, -, -, h3⟩ := h
  obtain ⟨rfl, -, rfl⟩ : A = A' ∧ n = n ∧ c = c' := by simpa using e
  obtain ⟨b, o, rfl, h4⟩ := h3 (by omega)
  exact ⟨b, o, rfl, h4 y hy⟩
structure FillsQ (n : Nat) (F : Nat → Node) (a : Addx) (L N i : Nat) (G : Nat → Node) : Prop where
  small : L ≤ 8 ∧ N ≤ 8 ∧ i < N ∧ i ≤ L ∧ 2 * L ≤ n + 1 ∧ n ≤ 15
  taken : ∀ j, j < i → 2 * j < n ∧ (F (2 * j)).pub ≠ 0
  others : ∀ j, j < L → j ≠ i → 2 * j < n ∧ 2 * j < 2 * N - 1 ∧ G (2 * j) = F (2 * j)
  it : G (2 * i) = ⟨a.pub, a.mem, a.ep, []⟩
theorem FillsP.q {n : Nat} {F : Nat → Node} {a : Addx} {L N k i : Nat} {G : Nat → Node} (h : FillsP n F a L N k i G) : FillsQ n F a L N i G := ⟨h.small, h.taken, h.others, h.it⟩
set_option maxHeartbeats 4000000 in
set_option maxRecDepth 100000 in
theorem fills (v : Value) (n : Nat) (F : Nat → Node) (a : Addx) (w : World) (hT : Tab w) (hR : TrR w v n F) (hwf : (Lit.int .i64 a.mem).wf = true) :
    Calls Tryd.prog 4 #[.agg #[v], a.v] w fun e w' => e = .returned (.bool true) ∧ Below w.heap.size w w' := by
  have hpos := hT.pos
  have HT := Lib.hid hT
  have HR := Lib.hid hR
  have HWF := Lib.hid hwf
  clear hwf
  obtain ⟨A, c, rfl, -, -, -⟩ := id hR
  obtain ⟨am, ae, ap⟩ := a
  clear hR
  show Calls Tryd.prog 4 #[.agg #[.slice A n c], .agg #[.int .i64 am, .int .i64 ae, .int .i64 ap]] w _
  go_enter Tryd.func4, Tryd.ntmps4
  go_wp2_with fail
  obtain ⟨W0, hW0⟩ : ∃ W0, W0 = ((w.alloc (.cells #[.slice A n c] 24)).alloc (.cells #[.int .i64 am, .int .i64 ae, .int .i64 ap] 26)) := ⟨_, rfl⟩
  have hB0 : FB w (.slice A n c) am ae ap W0 := by rw [hW0]; exact FB.start ..
  rw [← hW0]
  refine (size9 (.slice A n c) n F W0 (HR.out.below hB0.bel)).mono ?_
  rintro e w1 ⟨s, rfl, hs, hb1⟩
  have hB1 := hB0.under hb1
  have HS := Lib.hid hs
  clear hW0 hB0 hs hb1
  go_wp2_with fail
  refine (beyond8 w1.heap.size 0 s _ (cell_one_new w1 (.int .i64 s) 3 0 _ rfl)).mono ?_
  rintro e w2 ⟨rfl, rfl⟩
  obtain ⟨W2, hW2⟩ : ∃ W2, W2 = w1.alloc (.cells #[.int .i64 s] 3) := ⟨_, rfl⟩
  have hB2 : FB w (.slice A n c) am ae ap W2 := by rw [hW2]; exact hB1.under ((Below.refl _ _).alloc (Nat.le_refl _) _)
  have HB2 := Lib.hid hB2
  rw [← hW2]
  clear hW2 hB1
  cases hbd : (decide (s < 0) || decide (262144 < s)) with
  | true =>
    go_wp2_with fail
    go_ret
    exact ⟨rfl, HB2.out.bel⟩
  | false =>
    have hn : n ≤ 262144 := HS.out (by simp at hbd; omega)
    clear HS hbd
    obtain ⟨-, k0, k1, k2, k3, hl2⟩ := hB2
    go_wp2_with fail
    refine (add13 (.slice A n c) n F ⟨am, ae, ap⟩ W2 (HT.out.below hpos HB2.out.bel) (HR.out.below HB2.out.bel) hn HWF.out).mono ?_
    rintro e w3 h3
    clear k0 k1 k2 k3 hl2
    by_cases hE : addE n F ⟨am, ae, ap⟩ = 0
    · obtain ⟨⟨v3, rfl, h3R⟩, b3⟩ := h3.yes hE
      have hP := fillsP hE
      have HB3 := Lib.hid (HB2.out.under b3)
      clear h3 HB2 hE
      generalize hL : sizeM n F = L at *
      generalize fb F (lvs n) = i at *
      generalize addN n F = N at *
      generalize addF n F (lg N) i ⟨am, ae, ap⟩ = G at *
      obtain ⟨A3, c3, rfl, -, -, -⟩ := id h3R
      have HP := Lib.hid hP
      have HR3 := Lib.hid h3R
      have hb34 : Below w3.heap.size w3 (w3.alloc (.cells #[.slice A3 (2 * N - 1) c3] 24)) := (Below.refl _ _).alloc (Nat.le_refl _) _
      have b0 := (HB3.out.under hb34).c0
      have hlt := HB3.out.lt
      go_wp2_with fail
      obtain ⟨W4, hW4⟩ : ∃ W4, W4 = w3.alloc (.cells #[.slice A3 (2 * N - 1) c3] 24) := ⟨_, rfl⟩
      have hx4 : W4.cell? ⟨w3.heap.size, 0, none⟩ = some (.slice A3 (2 * N - 1) c3) := by rw [hW4]; exact cell_one_new w3 _ 24 0 _ rfl
      rw [← hW4] at hb34 b0 ⊢
      have HB4 := Lib.hid (HB3.out.under hb34)
      have HR4 := Lib.hid (HR3.out.below hb34)
      clear HB3 HR3 hlt b3 hW4
      have hmem := members12 (.slice A n c) n F W4 (HT.out.below hpos HB4.out.bel) (HR.out.below HB4.out.bel) hn
      rw [hL] at hmem
      refine hmem.mono ?_
      rintro e w5 ⟨vm, rfl, hom, hb5⟩
      obtain ⟨Am, cm, rfl⟩ := hom.slice
      generalize (memL F L).length = k at *
      have HB5 := Lib.hid (HB4.out.under hb5)
      have HR5 := Lib.hid (HR4.out.below hb5)
      have hx5 := (hb5.cell (p := ⟨w3.heap.size, 0, none⟩) (World.block_lt_of_cell? _ _ hx4)).trans hx4
      have hS : ∀ W, Below w.heap.size w W → Calls Tryd.prog 20 #[.agg #[.slice A n c]] W fun e w' => e = .returned (.int .i64 (L : Nat)) ∧ Below W.heap.size W w' := fun W hW => by
        have := size20 (.slice A n c) n F W (HT.out.below hpos hW) (HR.out.below hW) hn
        rw [hL] at this
        exact this
      clear hmem hom hb34 HB4 HR4 hx4 b0
      have b0 := HB5.out.c0
      go_wp2_with fail
      refine (hS _ HB5.out.bel).mono ?_
      rintro e w6 ⟨rfl, hb6⟩
      have HB6 := Lib.hid (HB5.out.under hb6)
      have HR6 := Lib.hid (HR5.out.below hb6)
      have hx6 := (hb6.cell (p := ⟨w3.heap.size, 0, none⟩) (World.block_lt_of_cell? _ _ hx5)).trans hx5
      clear hb5 hb6 HB5 HR5 hx5 b0
      have b0 := HB6.out.c0
      have hS2 : ∀ W, Below w6.heap.size w6 W → Calls Tryd.prog 20 #[.agg #[.slice A3 (2 * N - 1) c3]] W fun e w' => e = .returned (.int .i64 (N : Nat)) ∧ Below W.heap.size W w' := fun W hW => by
        have := size20 (.slice A3 (2 * N - 1) c3) (2 * N - 1) G W (HT.out.below hpos (HB6.out.bel.trans (hW.mono HB6.out.bel.size))) (HR6.out.below hW) (by have := HP.out.small; omega)
        rw [HP.out.size] at this
        exact this
      have hS1 : ∀ W, Below w6.heap.size w6 W → Calls Tryd.prog 20 #[.agg #[.slice A n c]] W fun e w' => e = .returned (.int .i64 (L : Nat)) ∧ Below W.heap.size W w' := fun W hW => hS W (HB6.out.bel.trans (hW.mono HB6.out.bel.size))
      have hHeld : w6.cell? ⟨w.heap.size, 0, none⟩ = some (.slice A n c) ∧ w6.cell? ⟨w3.heap.size, 0, none⟩ = some (.slice A3 (2 * N - 1) c3) ∧ Below w6.heap.size w6 w6 := ⟨b0, hx6, Below.refl _ _⟩
      have hfull := HP.out.full
      have hSL : Hid (∀ W, Below w6.heap.size w6 W → Calls Tryd.prog 20 #[.agg #[.slice A n c]] W fun e w' => e = .returned (.int .i64 (L : Nat)) ∧ Below W.heap.size W w') := Lib.hid hS1
      have HQ : Hid (FillsQ n F ⟨am, ae, ap⟩ L N i G) := Lib.hid HP.out.q
      clear hP hS
      go_upto_region 8 with fail
      go_cut [9, 42, 57] (fun s9 s42 s57 wx => s57 = .bool false ∧ Below w6.heap.size w6 wx)
      case first =>
        clear hSL HQ
        rcases hfull with ⟨rfl, hk2, rfl⟩ | ⟨hk2, rfl⟩
        · have u1 : decide (((i : Nat) : Int) < ((N : Nat) : Int)) = true := decide_eq_true (by omega)
          go_region_held3 (fun w' => w'.cell? ⟨w.heap.size, 0, none⟩ = some (.slice A n c) ∧ w'.cell? ⟨w3.heap.size, 0, none⟩ = some (.slice A3 (2 * N - 1) c3) ∧ Below w6.heap.size w6 w') (first | assumption | exact heldF_drew (by assumption) | exact heldF_call (by assumption) (by assumption)) (first
            | (go_at_call 20; with_reducible refine (hS2 _ (heldF_mid (by assumption))).mono ?_; rintro e' w7 ⟨rfl, hb7⟩)
            | (go_at_call 20; with_reducible refine (hS1 _ (heldF_mid (by assumption))).mono ?_; rintro e' w7 ⟨rfl, hb7⟩))
          go_wp2_with fail
          go_meet
          exact ⟨rfl, heldF_mid (by assumption)⟩
        · have u1 : (((k : Nat) : Int) == ((N : Nat) : Int)) = false := by rw [beq_eq_false_iff_ne]; omega
          have u4 : decide (((N : Nat) : Int) < ((N : Nat) : Int)) = false := decide_eq_false (by omega)
          simp only [u1]
          first
            | (go_region_with (first
            | (go_at_call 20; with_reducible refine (hS2 _ ?_).mono ?_; (first | exact (Below.refl _ _) | exact (Below.refl _ _).drew | exact (Below.refl _ _).drew.drew | exact (Below.refl _ _).drew.drew.drew); rintro e' w7 ⟨rfl, hb7⟩; (first | have hq7 := heldF_call hHeld hb7 | have hq7 := heldF_call (heldF_drew hHeld) hb7 | have hq7 := heldF_call (heldF_drew (heldF_drew hHeld)) hb7); obtain ⟨e1, e2, e3⟩ := id hq7)
            | (go_at_call 20; with_reducible refine (hS1 _ ?_).mono ?_; (first | exact e3 | exact e3.drew | exact e3.drew.drew | exact e3.drew.drew.drew); rintro e' w8 ⟨rfl, hb8⟩)))
            | fail
          all_goals (go_wp2_with fail; go_meet; exact ⟨rfl, e3.trans ((by assumption : Below w7.heap.size w7 _).mono e3.size)⟩)
      case rest =>
        obtain ⟨rfl, hb67⟩ := hcut
        have hS1 := hSL.out
        clear hSL hS2 hHeld hfull
        have hSL := hS1
        clear hS1
        obtain ⟨w7, rfl⟩ : ∃ w7, w7 = wc := ⟨_, rfl⟩
        have hx7 := (hb67.cell (p := ⟨w3.heap.size, 0, none⟩) (World.block_lt_of_cell? _ _ hx6)).trans hx6
        have HB7 := Lib.hid (HB6.out.under hb67)
        have HR7 := Lib.hid (HR6.out.below hb67)
        have HT7 := Lib.hid (HR.out.below HB7.out.bel)
        have HTab := Lib.hid (fun (W : World) (h : Below w7.heap.size w7 W) => HT.out.below hpos (HB7.out.bel.trans (h.mono HB7.out.bel.size)))
        have hSW : ∀ W, Below w7.heap.size w7 W → Calls Tryd.prog 20 #[.agg #[.slice A n c]] W fun e w' => e = .returned (.int .i64 (L : Nat)) ∧ Below W.heap.size W w' := fun W hW => hSL W (hb67.trans (hW.mono hb67.size))
        have b7 := HB7.out.c0
        clear b0 hx6 hb67 HB6 HR6 hSL
        go_wp2_with fail
        go_loopg [10] (i + 1) (fun g v10 wr => ∃ j : Nat, j ≤ i ∧ j + g = i + 1 ∧ v10 = .int .i64 j ∧ wr = w7)
        case atStart => exact ⟨0, by omega, by omega, rfl, rfl⟩
        case round =>
          obtain ⟨j, hj, hg, rfl, rfl⟩ := hrel
          have HG := Lib.hid hg
          clear hg
          by_cases hlt : j < i
          · obtain ⟨hjn, hjp⟩ := HQ.out.taken j hlt
            obtain ⟨b, o, rfl, hN⟩ := HT7.out.at' hjn
            have c0 := hN.c0
            have hbl : b < wr.heap.size := World.block_lt_of_cell? _ _ c0
            have t1 : ((F (2 * j)).pub == 0) = false := by rw [beq_eq_false_iff_ne]; exact hjp
            have j1 : (0 : Int) ≤ 2 * (j : Int) := by omega
            have j2 : 2 * (j : Int) < n := by omega
            clear hN hjp
            generalize (F (2 * j)).pub = p at *
            go_wp2_with fail
            go_roundg (gk - 1)
            case rel => exact ⟨j + 1, by omega, by have := HG.out; omega, by go_num, rfl⟩
            case measure => have := HG.out; omega
          · obtain rfl : j = i := by omega
            clear hlt hj
            go_wp2_with fail
            obtain ⟨wo, rfl⟩ : ∃ wo, wo = wr := ⟨_, rfl⟩
            have hL8 : L ≤ 8 := HQ.out.small.1
            go_loopg [11] (L + 1) (fun g v11 wr => ∃ j : Nat, j ≤ L ∧ j + g = L + 1 ∧ v11 = .int .i64 j ∧ Below wo.heap.size wo wr)
            case atStart => exact ⟨0, by omega, by omega, rfl, Below.refl _ _⟩
            case round =>
              obtain ⟨x, hx, hg2, rfl, hbel⟩ := hrel
              have HG2 := Lib.hid hg2
              have HBEL := Lib.hid hbel
              have bx := (HB7.out.keep hbel).1
              clear hg2 hbel
              go_wp2_with fail
              refine (hSW wr HBEL.out).mono ?_
              rintro e wq ⟨rfl, hbq⟩
              have hbq2 : Below wo.heap.size wo wq := HBEL.out.trans (hbq.mono HBEL.out.size)
              have HBEL2 := Lib.hid hbq2
              have bx2 := (HB7.out.keep hbq2).1
              have bx3 := (hbq2.cell (p := ⟨w3.heap.size, 0, none⟩) (World.block_lt_of_cell? _ _ hx7)).trans hx7
              clear hbq hbq2 HBEL bx
              by_cases hlt2 : x < L
              · by_cases hxj : x = j
                · subst hxj
                  go_wp2_with fail
                  go_quiet (fail)
                  go_wp2_with fail
                  go_roundg (gk - 1)
                  case rel => exact ⟨x + 1, by omega, by have := HG2.out; omega, by go_num, Below.quiet HBEL2.out _⟩
                  case measure => have := HG2.out; omega
                · obtain ⟨hxn, hxN, hGF⟩ := HQ.out.others x hlt2 hxj
                  obtain ⟨b, o, rfl, hN⟩ := (HT7.out.below HBEL2.out).at' hxn
                  obtain ⟨bg, og, rfl, hM⟩ := (HR7.out.below HBEL2.out).at' hxN
                  rw [hGF] at hM
                  obtain ⟨y0, y1, y2, ⟨Ay, cy, y3, hIy⟩, -⟩ := hN
                  obtain ⟨z0, z1, z2, ⟨Az, cz, z3, hIz⟩, -⟩ := hM
                  have hsame : ∀ W, Below wq.heap.size wq W → Calls Tryd.prog 21 #[.agg #[.int .i64 (F (2 * x)).pub, .int .i64 (F (2 * x)).mem, .int .i64 (F (2 * x)).ep, .slice Az (F (2 * x)).un.length cz], .agg #[.int .i64 (F (2 * x)).pub, .int .i64 (F (2 * x)).mem, .int .i64 (F (2 * x)).ep, .slice Ay (F (2 * x)).un.length cy]] W
                      fun e w' => e = .returned (.bool true) ∧ Below W.heap.size W w' := fun W hW => by
                    have := same21 (F (2 * x)) (F (2 * x)) Az Ay cz cy W (hIz.below hW) (hIy.below hW)
                    rw [sameN_self] at this
                    exact this
                  clear hIy hIz hGF
                  generalize (F (2 * x)).pub = p at *
                  generalize (F (2 * x)).mem = m at *
                  generalize (F (2 * x)).ep = ee at *
                  generalize (F (2 * x)).un.length = k at *
                  have t1 : (((x : Nat) : Int) != ((j : Nat) : Int)) = true := by rw [bne_iff_ne]; omega
                  have hbl : b < wq.heap.size := World.block_lt_of_cell? _ _ y0
                  have hbg : bg < wq.heap.size := World.block_lt_of_cell? _ _ z0
                  have j1 : (0 : Int) ≤ 2 * (x : Int) := by omega
                  have j2 : 2 * (x : Int) < n := by omega
                  have j3 : 2 * (x : Int) < ((2 * N - 1 : Nat) : Int) := by omega
                  have hHeld2 : wq.cell? ⟨w.heap.size, 0, none⟩ = some (.slice (some ⟨b, o, none⟩) n c) ∧ wq.cell? ⟨w3.heap.size, 0, none⟩ = some (.slice (some ⟨bg, og, none⟩) (2 * N - 1) c3) ∧ wq.cell? ⟨b, o + 2 * x * 4, none⟩ = some (.int .i64 p) ∧ wq.cell? ⟨b, o + 2 * x * 4 + 1, none⟩ = some (.int .i64 m) ∧ wq.cell? ⟨b, o + 2 * x * 4 + 2, none⟩ = some (.int .i64 ee) ∧ wq.cell? ⟨b, o + 2 * x * 4 + 3, none⟩ = some (.slice Ay k cy) ∧ wq.cell? ⟨bg, og + 2 * x * 4, none⟩ = some (.int .i64 p) ∧ wq.cell? ⟨bg, og + 2 * x * 4 + 1, none⟩ = some (.int .i64 m) ∧ wq.cell? ⟨bg, og + 2 * x * 4 + 2, none⟩ = some (.int .i64 ee) ∧ wq.cell? ⟨bg, og + 2 * x * 4 + 3, none⟩ = some (.slice Az k cz) ∧ Below wq.heap.size wq wq :=
                    ⟨bx2, bx3, y0, y1, y2, y3, z0, z1, z2, z3, Below.refl _ _⟩
                  have jw : IntKind.i64.wrap (2 * (x : Int)) = 2 * (x : Int) := by
                    have := i64_small (2 * x) (by omega)
                    rw [show ((2 * x : Nat) : Int) = 2 * (x : Int) by omega] at this
                    exact this
                  have jt : (2 * (x : Int)).toNat = 2 * x := by omega
                  clear y0 y1 y2 y3 z0 z1 z2 z3 bx2 bx3
                  go_wp2_with fail
                  go_region_held3 (fun w' => w'.cell? ⟨w.heap.size, 0, none⟩ = some (.slice (some ⟨b, o, none⟩) n c) ∧ w'.cell? ⟨w3.heap.size, 0, none⟩ = some (.slice (some ⟨bg, og, none⟩) (2 * N - 1) c3) ∧ w'.cell? ⟨b, o + 2 * x * 4, none⟩ = some (.int .i64 p) ∧ w'.cell? ⟨b, o + 2 * x * 4 + 1, none⟩ = some (.int .i64 m) ∧ w'.cell? ⟨b, o + 2 * x * 4 + 2, none⟩ = some (.int .i64 ee) ∧ w'.cell? ⟨b, o + 2 * x * 4 + 3, none⟩ = some (.slice Ay k cy) ∧ w'.cell? ⟨bg, og + 2 * x * 4, none⟩ = some (.int .i64 p) ∧ w'.cell? ⟨bg, og + 2 * x * 4 + 1, none⟩ = some (.int .i64 m) ∧ w'.cell? ⟨bg, og + 2 * x * 4 + 2, none⟩ = some (.int .i64 ee) ∧ w'.cell? ⟨bg, og + 2 * x * 4 + 3, none⟩ = some (.slice Az k cz) ∧ Below wq.heap.size wq w')
                    (first | assumption | exact heldT_drew (by assumption) | exact heldT_call (by assumption) (by assumption)) (first
                    | (go_at_call 21; with_reducible refine (hsame _ (heldT_mid (by assumption))).mono ?_; rintro e' wz ⟨rfl, hbz⟩))
                  clear hsame jw jt
                  go_wp2_with fail
                  go_roundg (gk - 1)
                  case rel => exact ⟨x + 1, by omega, by have := HG2.out; omega, by go_num, HBEL2.out.drew.trans (hbz.mono HBEL2.out.drew.size)⟩
                  case measure => have := HG2.out; omega
              · obtain rfl : x = L := by omega
                obtain ⟨bg, og, rfl, hM⟩ := (HR7.out.below HBEL2.out).at' (y := 2 * j) (by have := HQ.out.small; omega)
                rw [HQ.out.it] at hM
                have z0 : wq.cell? ⟨bg, og + 2 * j * 4, none⟩ = some (.int .i64 ap) := hM.c0
                have z1 : wq.cell? ⟨bg, og + 2 * j * 4 + 1, none⟩ = some (.int .i64 am) := hM.c1
                have z2 : wq.cell? ⟨bg, og + 2 * j * 4 + 2, none⟩ = some (.int .i64 ae) := hM.c2
                obtain ⟨-, k1, k2, k3⟩ := HB7.out.keep HBEL2.out
                have hal : ∀ W, Below wq.heap.size wq W → Calls Tryd.prog 11 #[] W fun e w' => e = .returned (.bool true) ∧ Below W.heap.size W w' := fun W hW => alive11 W (HTab.out W (HBEL2.out.trans (hW.mono HBEL2.out.size)))
                have hbg : bg < wq.heap.size := World.block_lt_of_cell? _ _ z0
                have hs1 : w.heap.size + 1 < wq.heap.size := World.block_lt_of_cell? _ _ k1
                have j1 : (0 : Int) ≤ 2 * (j : Int) := by omega
                have j3 : 2 * (j : Int) < ((2 * N - 1 : Nat) : Int) := by have := HQ.out.small; omega
                have jw : IntKind.i64.wrap (2 * (j : Int)) = 2 * (j : Int) := by
                  have := i64_small (2 * j) (by have := HQ.out.small; omega)
                  rw [show ((2 * j : Nat) : Int) = 2 * (j : Int) by omega] at this
                  exact this
                have jt : (2 * (j : Int)).toNat = 2 * j := by omega
                have hHeld3 : wq.cell? ⟨w3.heap.size, 0, none⟩ = some (.slice (some ⟨bg, og, none⟩) (2 * N - 1) c3) ∧ wq.cell? ⟨bg, og + 2 * j * 4, none⟩ = some (.int .i64 ap) ∧ wq.cell? ⟨bg, og + 2 * j * 4 + 1, none⟩ = some (.int .i64 am) ∧ wq.cell? ⟨bg, og + 2 * j * 4 + 2, none⟩ = some (.int .i64 ae) ∧ wq.cell? ⟨w.heap.size + 1, 0, none⟩ = some (.int .i64 am) ∧ wq.cell? ⟨w.heap.size + 1, 1, none⟩ = some (.int .i64 ae) ∧ wq.cell? ⟨w.heap.size + 1, 2, none⟩ = some (.int .i64 ap) ∧ Below wq.heap.size wq wq :=
                  ⟨bx3, z0, z1, z2, k1, k2, k3, Below.refl _ _⟩
                clear z0 z1 z2 bx3 bx2 k1 k2 k3 hM hSW hlt2 hx
                go_wp2_with fail
                go_region_held3 (fun w' => w'.cell? ⟨w3.heap.size, 0, none⟩ = some (.slice (some ⟨bg, og, none⟩) (2 * N - 1) c3) ∧ w'.cell? ⟨bg, og + 2 * j * 4, none⟩ = some (.int .i64 ap) ∧ w'.cell? ⟨bg, og + 2 * j * 4 + 1, none⟩ = some (.int .i64 am) ∧ w'.cell? ⟨bg, og + 2 * j * 4 + 2, none⟩ = some (.int .i64 ae) ∧ w'.cell? ⟨w.heap.size + 1, 0, none⟩ = some (.int .i64 am) ∧ w'.cell? ⟨w.heap.size + 1, 1, none⟩ = some (.int .i64 ae) ∧ w'.cell? ⟨w.heap.size + 1, 2, none⟩ = some (.int .i64 ap) ∧ Below wq.heap.size wq w')
                  (first | assumption | exact heldU_drew (by assumption) | exact heldU_call (by assumption) (by assumption)) (first
                  | (go_at_call 11; with_reducible refine (hal _ (heldU_mid (by assumption))).mono ?_; rintro e' wz ⟨rfl, hbz⟩))
                go_wp2_with fail
                go_ret
                exact ⟨rfl, (HB7.out.bel.trans (HBEL2.out.mono HB7.out.bel.size)).drew.trans (hbz.mono (HB7.out.bel.trans (HBEL2.out.mono HB7.out.bel.size)).drew.size)⟩
    · obtain ⟨rfl, b3⟩ := h3.no hE
      have t0 : (addE n F ⟨am, ae, ap⟩ != 0) = true := by rw [bne_iff_ne]; exact hE
      generalize addE n F ⟨am, ae, ap⟩ = er at *
      have HB3 := Lib.hid ((HB2.out.under b3).bel)
      clear h3 hE b3 HB2
      go_wp2_with fail
      refine (alive11 _ (HT.out.below hpos (HB3.out.alloc HB3.out.size _))).mono ?_
      rintro e w4 ⟨rfl, hb4⟩
      have hB4 := (HB3.out.alloc HB3.out.size (.cells #[.slice none 0 0] 24)).trans (hb4.mono (HB3.out.alloc HB3.out.size (.cells #[.slice none 0 0] 24)).size)
      go_wp2_with fail
      go_ret
      exact ⟨rfl, hB4⟩
end Go.Proofs.YtopkanokpfhmmaaDoor
