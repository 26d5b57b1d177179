/- Chapter 08's own Remove. -/
import Derived.Test.YtnahhclflnjmcaaGreatDoorXF
import Derived.Test.YtnahhclflnjmcaaGreatDoorK0
import Derived.Deep.RegionHeld3
import Derived.Deep.RegionHeld2
import Derived.Deep.RegionWith
namespace Go.Proofs.YtnahhclflnjmcaaGreatDoor
open Go Go.RowKit Go.Proofs.YtnahhclflnjmcaaGreatDoor.Bk
set_option linter.unusedVariables false
set_option linter.unusedSimpArgs false
set_option maxRecDepth 100000

theorem held1_drew {wr w' : World} {p : Addr} {x : Value} (h : w'.cell? p = some x ∧ Below wr.heap.size wr w') : w'.drew.cell? p = some x ∧ Below wr.heap.size wr w'.drew := ⟨h.1, h.2.drew⟩
theorem held1_call {wr w' w'' : World} {p : Addr} {x : Value} (h : w'.cell? p = some x ∧ Below wr.heap.size wr w') (hb : Below w'.heap.size w' w'') : w''.cell? p = some x ∧ Below wr.heap.size wr w'' :=
  ⟨(hb.cell (World.block_lt_of_cell? _ _ h.1)).trans h.1, h.2.trans (hb.mono h.2.size)⟩
theorem held1_mid {wr w' : World} {p : Addr} {x : Value} (h : w'.cell? p = some x ∧ Below wr.heap.size wr w') : Below wr.heap.size wr w' := h.2
/-- What Remove leaves. -/
structure RRemYes (w : World) (F : Nat → Node) (d i : Nat) (e : Ending) (w' : World) : Prop where
  out : ∃ v', e = .returned (.tuple #[.agg #[v'], .int .i64 0]) ∧ TrR w' v' (2 ^ (cut (blankF F d i) d + 1) - 1) (blankF F d i)
  bel : Below w.heap.size w w'
theorem rblankF_leaf {d n i l : Nat} {F : Nat → Node} (hO : Ok d n F) (hl : l < 2 ^ d) : (blankF F d i (2 * l)).pub ≠ 0 ↔ (blankF F d i (2 * l)).blank = false := by
  unfold blankF
  by_cases h : 2 * l = 2 * i ∨ 2 * l ∈ dirs d i
  · rw [if_pos h]; decide
  · rw [if_neg h]
    refine leaf_pub ?_
    rw [Bool.or_eq_true]
    exact (hO.leaf l hl).imp id leafB_iff.2
theorem rsome_taken {G : Nat → Node} {j K : Nat} (hK : K = 2 ^ (j + 1 + 1) - 1) (hl : ∀ l, l < 2 ^ (j + 1) → ((G (2 * l)).pub ≠ 0 ↔ (G (2 * l)).blank = false)) : someP K G (2 ^ j) ↔ takenB G j = true := by
  have h1 := two_succ j
  have h2 := two_succ (j + 1)
  have h3 := two_pos j
  rw [takenB_iff]
  constructor
  · rintro ⟨l, a, b, c⟩
    exact ⟨l - 2 ^ j, by omega, by rw [show 2 ^ j + (l - 2 ^ j) = l by omega]; exact (hl l (by omega)).1 c⟩
  · rintro ⟨l, a, b⟩
    exact ⟨2 ^ j + l, by omega, by omega, (hl _ (by omega)).2 b⟩
theorem rblankF_un {d i y : Nat} {F : Nat → Node} (h : (F y).un.length ≤ 8) : (blankF F d i y).un.length ≤ 8 := by
  unfold blankF
  split
  · show [].length ≤ 8; decide
  · exact h
set_option maxHeartbeats 8000000 in
theorem rrem_no (v : Value) (n : Nat) (F : Nat → Node) (m : Int) (w : World) (hR : TrR w v n F) (hun : ∀ y, y < n → (F y).un.length ≤ 1000000) (hq : remE n F m ≠ 0) :
    Calls Tryz.prog 27 #[.agg #[v], .int .i64 m] w fun e w' => TwoNo w (remE n F m) e w' := by
  have hC : ∀ W, Below w.heap.size w W → Calls Tryz.prog 15 #[.agg #[v]] W fun e w' => e = .returned (.int .i64 (errB (chk n F))) ∧ Below W.heap.size W w' := fun W hW =>
    rcheck v n F W (hR.below hW) hun
  have hF : ∀ W, Below w.heap.size w W → Calls Tryz.prog 17 #[.agg #[v], .int .i64 m] W fun e w' => e = .returned (.int .i64 (findM F m (sizeM n F))) ∧ Below W.heap.size W w' := fun W hW =>
    rfind v n F m W (hR.below hW) hun
  have hM : ∀ W, Below w.heap.size w W → Calls Tryz.prog 14 #[.agg #[v]] W fun e w' => ∃ Am cm, e = .returned (.slice Am (memL F (sizeM n F)).length cm) ∧ Below W.heap.size W w' := fun W hW =>
    (rmembers v n F W (hR.below hW) hun).mono fun e w' h => by
      obtain ⟨v', h1, h2, h3⟩ := h
      obtain ⟨A, c, rfl⟩ := h2.slice
      exact ⟨A, c, h1, h3⟩
  obtain ⟨A, c, rfl, -, -, -⟩ := hR
  have HB0 := Lib.hid (TwoB.start w (.slice A n c))
  cases hz : chk n F with
  | false =>
    have hr : remE n F m = 1 := by unfold remE; rw [if_pos hz]
    rw [hr]
    rw [hz, errB_false] at hC
    clear hq hr hz hM hF hun
    go_enter Tryz.func27, Tryz.ntmps27
    go_wp2_with (go_at_call 15; refine (hC _ HB0.out.bel).mono ?_; rintro e' w1 ⟨rfl, hb1⟩; obtain ⟨d0, d1, d2, d3, d4⟩ := HB0.out.under hb1; have HB1 := Lib.hid (HB0.out.under hb1); have d5 : w.heap.size < w1.heap.size := by omega)
    have d8 := HB1.out.stored
    refine bodyPost_ret (by simp [results, Tryz.results27, go_sem, d8]; rfl) rfl ?_
    exact ⟨rfl, d0.setCell (by show w.heap.size ≤ w.heap.size + 1; omega) _⟩
  | true =>
    rw [hz, errB_true] at hC
    by_cases h1 : findM F m (sizeM n F) < 0
    · have hr : remE n F m = 7 := by unfold remE; rw [hz, if_neg (by decide), if_pos h1]
      rw [hr]
      have t1 : decide (findM F m (sizeM n F) < 0) = true := decide_eq_true h1
      generalize findM F m (sizeM n F) = f at *
      clear hq hr hz hM h1 hun
      go_enter Tryz.func27, Tryz.ntmps27
      go_wp2_with (first | (go_at_call 15; refine (hC _ HB0.out.bel).mono ?_; rintro e' w1 ⟨rfl, hb1⟩; obtain ⟨d0, d1, d2, d3, d4⟩ := HB0.out.under hb1; have HB1 := Lib.hid (HB0.out.under hb1); have d5 : w.heap.size < w1.heap.size := by omega) | (go_at_call 17; refine (hF _ HB1.out.bel).mono ?_; rintro e' w2 ⟨rfl, hb2⟩; obtain ⟨f0, f1, f2, f3, f4⟩ := HB1.out.under hb2; have HB2 := Lib.hid (HB1.out.under hb2); have f5 : w.heap.size < w2.heap.size := by omega))
      have d8 := HB2.out.stored
      refine bodyPost_ret (by simp [results, Tryz.results27, go_sem, d8]; rfl) rfl ?_
      exact ⟨rfl, f0.setCell (by show w.heap.size ≤ w.heap.size + 1; omega) _⟩
    · have h2 : (memL F (sizeM n F)).length = 1 := by
        by_cases h2 : (memL F (sizeM n F)).length = 1
        · exact h2
        · exact absurd (by unfold remE; rw [hz, if_neg (by decide), if_neg h1, if_neg h2]) hq
      have hr : remE n F m = 9 := by unfold remE; rw [hz, if_neg (by decide), if_neg h1, if_pos h2]
      rw [hr]
      have t1 : decide (findM F m (sizeM n F) < 0) = false := decide_eq_false h1
      rw [h2] at hM
      generalize findM F m (sizeM n F) = f at *
      clear hq hr hz h1 h2 hun
      go_enter Tryz.func27, Tryz.ntmps27
      go_wp2_with (first | (go_at_call 15; refine (hC _ HB0.out.bel).mono ?_; rintro e' w1 ⟨rfl, hb1⟩; obtain ⟨d0, d1, d2, d3, d4⟩ := HB0.out.under hb1; have HB1 := Lib.hid (HB0.out.under hb1); have d5 : w.heap.size < w1.heap.size := by omega) | (go_at_call 17; refine (hF _ HB1.out.bel).mono ?_; rintro e' w2 ⟨rfl, hb2⟩; obtain ⟨f0, f1, f2, f3, f4⟩ := HB1.out.under hb2; have HB2 := Lib.hid (HB1.out.under hb2); have f5 : w.heap.size < w2.heap.size := by omega) | (go_at_call 14; refine (hM _ HB2.out.bel).mono ?_; rintro e' w3 ⟨Am, cm, rfl, hb3⟩; obtain ⟨k0, k1, k2, k3, k4⟩ := HB2.out.under hb3; have HB3 := Lib.hid (HB2.out.under hb3); have k5 : w.heap.size < w3.heap.size := by omega))
      have d8 := HB3.out.stored
      refine bodyPost_ret (by simp [results, Tryz.results27, go_sem, d8]; rfl) rfl ?_
      exact ⟨rfl, k0.setCell (by show w.heap.size ≤ w.heap.size + 1; omega) _⟩
set_option maxHeartbeats 8000000 in
theorem rrem_yes (v : Value) (n d i : Nat) (F : Nat → Node) (m : Int) (w : World) (hR : TrR w v n F) (hO : Ok d n F) (hfi : findM F m (sizeM n F) = i) (hil : i < 2 ^ d) (hq : (memL F (sizeM n F)).length ≠ 1) :
    Calls Tryz.prog 27 #[.agg #[v], .int .i64 m] w fun e w' => RRemYes w F d i e w' := by
  have hz : chk n F = true := chk_iff.2 (.inr ⟨d, hO⟩)
  obtain ⟨hn15, hunl, -⟩ := chk_len hz
  have hun8 : ∀ y, y < n → (F y).un.length ≤ 8 := fun y hy => by have := hunl y; unfold pad at this; rw [if_pos hy] at this; exact this
  have hun : ∀ y, y < n → (F y).un.length ≤ 1000000 := fun y hy => Nat.le_trans (hun8 y hy) (by decide)
  have hC : ∀ W, Below w.heap.size w W → Calls Tryz.prog 15 #[.agg #[v]] W fun e w' => e = .returned (.int .i64 (errB (chk n F))) ∧ Below W.heap.size W w' := fun W hW =>
    rcheck v n F W (hR.below hW) hun
  have hF : ∀ W, Below w.heap.size w W → Calls Tryz.prog 17 #[.agg #[v], .int .i64 m] W fun e w' => e = .returned (.int .i64 (findM F m (sizeM n F))) ∧ Below W.heap.size W w' := fun W hW =>
    rfind v n F m W (hR.below hW) hun
  have hM : ∀ W, Below w.heap.size w W → Calls Tryz.prog 14 #[.agg #[v]] W fun e w' => ∃ Am cm, e = .returned (.slice Am (memL F (sizeM n F)).length cm) ∧ Below W.heap.size W w' := fun W hW =>
    (rmembers v n F W (hR.below hW) hun).mono fun e w' h => by
      obtain ⟨v', h1, h2, h3⟩ := h
      obtain ⟨A, c, rfl⟩ := h2.slice
      exact ⟨A, c, h1, h3⟩
  have HTW := Lib.hid (fun (W : World) (hW : Below w.heap.size w W) => rtwin v n F W (hR.below hW) (by omega) hun)
  obtain ⟨A, c, rfl, -, -, -⟩ := hR
  have hL := fun w => rleaves A n c w
  have HB0 := Lib.hid (TwoB.start w (.slice A n c))
  rw [hz, errB_true] at hC
  rw [hfi] at hF
  rw [hO.lvs] at hL
  have h2s := two_succ d
  have h2p := two_pos d
  obtain ⟨N2, hN2⟩ : ∃ N2, N2 = 2 ^ d := ⟨_, rfl⟩
  rw [← hN2] at hL
  have hi8 : i < 8 := by
    have : 2 ^ d ≤ 2 ^ 3 := Nat.pow_le_pow_right (by decide) hO.hd
    omega
  have HD := Lib.hid (show d ≤ 3 ∧ N2 = 2 ^ d ∧ n = 2 * 2 ^ d - 1 ∧ i < N2 from ⟨hO.hd, hN2, by rw [hO.hn]; omega, by rw [hN2]; exact hil⟩)
  have HOK := Lib.hid (And.intro hO hun8)
  have t0 : decide ((i : Int) < 0) = false := decide_eq_false (by omega)
  have t1 : (((memL F (sizeM n F)).length : Int) == 1) = false := by rw [beq_eq_false_iff_ne]; omega
  have i0 : (0 : Int) ≤ (i : Int) := by omega
  generalize (memL F (sizeM n F)).length = ML at *
  clear hz hunl hun hun8 hO hfi hil hq hN2 h2s h2p
  go_enter Tryz.func27, Tryz.ntmps27
  go_wp2_with (first | (go_at_call 15; refine (hC _ HB0.out.bel).mono ?_; rintro e' w1 ⟨rfl, hb1⟩; obtain ⟨d0, d1, d2, d3, d4⟩ := HB0.out.under hb1; have HB1 := Lib.hid (HB0.out.under hb1); have d5 : w.heap.size < w1.heap.size := by omega) | (go_at_call 17; refine (hF _ HB1.out.bel).mono ?_; rintro e' w2 ⟨rfl, hb2⟩; obtain ⟨f0, f1, f2, f3, f4⟩ := HB1.out.under hb2; have HB2 := Lib.hid (HB1.out.under hb2); have f5 : w.heap.size < w2.heap.size := by omega) | (go_at_call 14; refine (hM _ HB2.out.bel).mono ?_; rintro e' w3 ⟨Am, cm, rfl, hb3⟩; obtain ⟨k0, k1, k2, k3, k4⟩ := HB2.out.under hb3; have HB3 := Lib.hid (HB2.out.under hb3); have k5 : w.heap.size < w3.heap.size := by omega))
  refine (HTW.out _ HB3.out.bel).mono ?_
  rintro e' w4 ⟨⟨v', uv, rfl, hRw⟩, hb4⟩
  obtain ⟨A', c', rfl, -, -⟩ := hRw.slice
  clear hb1 hb2 hb3 d0 d1 d2 d3 d4 d5 f0 f1 f2 f3 f4 f5 k0 k1 k2 k3 k5 hC hF hM HB1 HB0 HB2 t0 t1
  have HB4 := Lib.hid (HB3.out.under hb4)
  obtain ⟨W5, hW5⟩ : ∃ W5, W5 = w4.alloc (.cells #[.slice A' n c'] 24) := ⟨_, rfl⟩
  have hX : RX w3.heap.size w4.heap.size n F W5 (.slice A' n c') uv := by
    rw [hW5]
    exact ⟨heap_alloc_new _ _, hRw.below ((Below.refl _ _).alloc (Nat.le_refl _) _), fun q hq => by have := (World.ownsRow.lt hRw.row q hq).2; omega, fun y hy q hq => by have := (World.ownsRow.lt (hRw.un y hy) q hq).2; omega, hb4.size⟩
  have hb5 : Below w4.heap.size w4 W5 := by rw [hW5]; exact (Below.refl _ _).alloc (Nat.le_refl _) _
  have HB5 := Lib.hid (HB4.out.under hb5)
  obtain ⟨S, hS⟩ : ∃ S, S = w3.heap.size := ⟨_, rfl⟩
  have hS2 : w.heap.size + 1 < S := by rw [hS]; exact k4
  obtain ⟨g, hg⟩ : ∃ g, g = w4.heap.size := ⟨_, rfl⟩
  have hSg : S ≤ g := by rw [hS, hg]; exact hb4.size
  rw [← hS, ← hg] at hX
  obtain ⟨g0, g1, g2, g3, g4⟩ := HB4.out
  have g5 : w.heap.size < w4.heap.size := by omega
  clear hb4 hRw hb5 HTW
  go_upto_region 9 with fail
  rw [← hW5, ← hg]
  clear hW5 g0 g1 g2 g3 g4 g5 HB4 hS k4 hg
  have HS := Lib.hid (And.intro hS2 hSg)
  obtain ⟨hd, hN2, hNT, hat⟩ := HD.out
  have h2p := two_pos d
  have hiT : 2 * i < n := by omega
  obtain ⟨b, cb, cur, e9, hcur, hSb, hbl, hbg, hfit, hcc, hcm⟩ := hX.slice (by omega)
  injection e9 with e1 _ e3
  subst e1 e3
  have hX1 := hX.node hcur hiT ⟨0, 0, 0, []⟩ rfl (by decide)
  obtain ⟨W6, hW6⟩ : ∃ W6, W6 = W5.setRow b (Bk.over cur (2 * i * 4) #[.int .i64 0, .int .i64 0, .int .i64 0, .slice none 0 0]) := ⟨_, rfl⟩
  have hb6 : Below S W5 W6 := by rw [hW6]; exact Bk.below_setRow (Below.refl _ _) hSb
  have HB6 := Lib.hid (HB5.out.under2 hb6 HS.out.1)
  have hX2 : RX S g n (blankK F d i 0) W6 (.slice (some ⟨b, 0, none⟩) n c') (fun z => if z = 2 * i then .slice none 0 0 else uv z) := by
    rw [hW6]
    refine hX1.congr fun y hy => ?_
    unfold blankK
    by_cases e1 : y = 2 * i
    · simp [e1, zeroN]
    · simp [e1]
  have HX2 := Lib.hid hX2
  have HCUR := Lib.hid hcur
  have HFIT : Hid (2 * i * 4 + 4 ≤ cur.size) := Lib.hid (by omega)
  have hbox := hX.cell.1
  have hgl := hX.lt
  obtain ⟨g0, g1, g2, g3, g4⟩ := HB5.out
  have m1 : (0 : Int) ≤ 2 * (i : Int) := by omega
  have m2 : 2 * (i : Int) < (n : Int) := by omega
  have HF := Lib.hid (And.intro hSb (And.intro hbl (And.intro hbg hb6)))
  clear hX hX1 hX2 hcur hSb hbg hfit hcc hcm hb6 hiT h2p hd hN2 hNT hat hS2 hSg
  go_upto_region 10 with (with_reducible refine wpList_store_part rfl 95 _ _ rfl rfl b (2 * i * 4) 4 rfl 95 cur _ rfl HCUR.out cells95x rfl HFIT.out (by simp [Value.oneCell']) ?_)
  rw [← hW6]
  clear hW6 hbox hgl g0 g1 g2 g3 g4 HB5
  obtain ⟨g0, g1, g2, g3, g4⟩ := HB6.out
  have g5 : w.heap.size < W6.heap.size := by omega
  go_wp2_with fail
  refine (hL W6).mono ?_
  rintro e' w7 ⟨rfl, hb7⟩
  have hp7 : 0 < w7.heap.size := by have := hb7.size; omega
  have HX7 := Lib.hid (HX2.out.under hb7)
  have HB7 := Lib.hid (HB6.out.under hb7)
  have HL7 : Hid (b < w7.heap.size) := Lib.hid (by have h1 := hb7.size; have h2 := HF.out.2.2.2.size; have h3 := HF.out.2.1; omega)
  clear hb7 HX2 HB6 m1 m2 g0 g1 g2 g3 g4 g5 hL
  go_wp2_with fail
  refine (rdirect d i N2 HD.out.1 HD.out.2.1 HD.out.2.2.2 w7 hp7).mono ?_
  rintro e' w8 ⟨vd, rfl, hvd, hb8⟩
  obtain ⟨Ad, cd, rfl⟩ := hvd.slice
  have hdl : (natL (dirs d i)).length = d := by unfold natL; rw [List.length_map, dirs_length]
  rw [hdl] at hvd ⊢
  have HVD := Lib.hid hvd
  have HX8 := Lib.hid (HX7.out.under hb8)
  have HB8 := Lib.hid (HB7.out.under hb8)
  have hs8 := hb8.size
  have HL8 : Hid (S ≤ w8.heap.size) := Lib.hid (by have h1 := HF.out.1; have h2 := HL7.out; omega)
  clear hvd hb8 hdl HX7 HB7 hp7
  go_wp2_with fail
  go_loopg [9] (d + 1) (fun gg v9 wr => ∃ (k : Nat) (uv : Nat → Value), k ≤ d ∧ k + gg = d + 1 ∧ v9 = .int .i64 (k : Int) ∧ Hid (RX S g n (blankK F d i k) wr (.slice (some ⟨b, 0, none⟩) n c') uv ∧ Bk.Chg (fun q => q = b) w8 wr))
  case atStart => exact ⟨0, _, by omega, by omega, rfl, Lib.hid ⟨HX8.out, Bk.Chg.refl _ _⟩⟩
  case round =>
    obtain ⟨k, uv', hk, hg2, rfl, HK⟩ := hrel
    have HG2 := Lib.hid (And.intro hg2 hk)
    have hbox := HK.out.1.cell.1
    have hboxf := HK.out.1.cell.2
    have hgl := HK.out.1.lt
    clear hg2
    by_cases hlt2 : k < d
    · obtain ⟨hd, hN2, hNT, hat⟩ := HD.out
      obtain ⟨x, hx, hxn, hxo, hxt, htk⟩ := dirs_at hd (show i < 2 ^ d by omega) hlt2
      have hxN : x < n := by have := two_succ d; omega
      have hk3 : k < 4 := by omega
      obtain ⟨bd, od, rfl, cd0⟩ := HVD.out.ints.at (natL_get hx)
      have hbd1 := (World.ownsRow.lt HVD.out bd rfl).1
      have hbd2 := (World.ownsRow.lt HVD.out bd rfl).2
      have hbdb : ¬ bd = b := fun e => by have := HL7.out; omega
      have hcb := HK.out.2.block bd hbd2 hbdb
      have hcc : ∀ w' : World, w'.heap[g]? = wr.heap[g]? → w'.heap[bd]? = wr.heap[bd]? → w'.cell? ⟨g, 0, none⟩ = some (.slice (some ⟨b, 0, none⟩) n c') ∧ w'.cell? ⟨bd, od + k, none⟩ = some (.int .i64 x) := fun w' h1 h2 =>
        ⟨(World.cell?_of_block (a := ⟨g, 0, none⟩) h1).trans hbox, (World.cell?_of_block (a := ⟨bd, od + k, none⟩) (h2.trans hcb)).trans cd0⟩
      obtain ⟨-, cdk⟩ := hcc wr rfl rfl
      have hbdr : bd < wr.heap.size := World.block_lt_of_cell? _ _ cdk
      obtain ⟨b', c2, cur2, e1, hcur2, -, hbr, -, hfit2, -, -⟩ := HK.out.1.slice (by omega)
      injection e1 with e1 _ e3
      injection e1 with e1
      injection e1 with e1
      subst e1 e3
      have j1 : (0 : Int) ≤ (k : Int) := by omega
      have j2 : (k : Int) < (d : Int) := by omega
      have j4 : (0 : Int) ≤ (x : Int) := by omega
      have j5 : (x : Int) < (n : Int) := by omega
      have HCC := Lib.hid hcc
      have HCU : Hid (wr.drew.heap[b]? = some (.cells cur2 95 (0, 0))) := Lib.hid hcur2
      have HFI : Hid (x * 4 + 4 ≤ cur2.size) := Lib.hid (by omega)
      have HN : Hid (RX S g n (blankK F d i (k + 1)) (wr.drew.setRow b (Bk.over cur2 (x * 4) #[.int .i64 0, .int .i64 0, .int .i64 0, .slice none 0 0])) (.slice (some ⟨b, 0, none⟩) n c') (fun z => if z = x then .slice none 0 0 else uv' z) ∧ Bk.Chg (fun q => q = b) w8 (wr.drew.setRow b (Bk.over cur2 (x * 4) #[.int .i64 0, .int .i64 0, .int .i64 0, .slice none 0 0]))) := Lib.hid (by
        refine ⟨(((HK.out.1.under (Below.refl _ _).drew).node hcur2 hxN ⟨0, 0, 0, []⟩ rfl (by decide)).congr fun y hy => ?_), HK.out.2.trans ((Bk.Chg.of_below (Below.refl _ _).drew).trans (Bk.Chg.setRow (X := fun q => q = b) wr.drew b _ rfl))⟩
        unfold blankK
        rw [htk]
        by_cases e2 : y = x
        · simp [e2, zeroN]
        · simp [e2])
      clear hx hxt htk hcc hcb cd0 hcur2 hfit2 hd hN2 hNT hat hbd1 hbd2 hbdb hxN
      go_wp2_with fail
      refine Go.Proofs.Phase.wp_region_ph (S := (fun w' => w'.cell? ⟨g, 0, none⟩ = some (.slice (some ⟨b, 0, none⟩) n c') ∧ w'.cell? ⟨bd, od + k, none⟩ = some (.int .i64 x))) 8 (by kernel_rfl) ?_ (fun hHeld => ?_)
      · ((try dsimp only) <;> (first | assumption | exact HCC.out _ rfl rfl))
      refine Go.Proofs.Phase.wpPh_take' (i := 0) (by simp only [List.getElem?_toArray, List.getElem?_cons_succ, List.getElem?_cons_zero]; rfl) ?_
      refine ⟨?_, ⟨by kernel_rfl, by kernel_rfl, by kernel_rfl, by kernel_rfl⟩, fun _ _ _ h => h, Or.inl ⟨by first | rfl | (simp [Region.wanted, yielded]; done), ?_⟩, by assumption, ?_⟩
      rotate_left
      · (intro w hSw; (try dsimp only at hSw); go_simp; with_reducible rfl)
      try simp only [Act.put, List.setIfInBounds_toArray, List.set_cons_zero, List.set_cons_succ]
      refine Go.Proofs.Phase.wpPh_take' (i := 1) (by simp only [List.getElem?_toArray, List.getElem?_cons_succ, List.getElem?_cons_zero]; rfl) ?_
      refine ⟨?_, ⟨by kernel_rfl, by kernel_rfl, by kernel_rfl, by kernel_rfl⟩, fun _ _ _ h => h, Or.inl ⟨by first | rfl | (simp [Region.wanted, yielded]; done), ?_⟩, by assumption, ?_⟩
      rotate_left
      · (intro w hSw; (try dsimp only at hSw); go_simp; with_reducible rfl)
      try simp only [Act.put, List.setIfInBounds_toArray, List.set_cons_zero, List.set_cons_succ]
      refine Go.Proofs.Phase.wpPh_take' (i := 2) (by simp only [List.getElem?_toArray, List.getElem?_cons_succ, List.getElem?_cons_zero]; rfl) ?_
      refine ⟨?_, ⟨by kernel_rfl, by kernel_rfl, by kernel_rfl, by kernel_rfl⟩, fun _ _ _ h => h, Or.inl ⟨by first | rfl | (simp [Region.wanted, yielded]; done), ?_⟩, by assumption, ?_⟩
      rotate_left
      · (intro w hSw; (try dsimp only at hSw); go_simp; with_reducible rfl)
      try simp only [Act.put, List.setIfInBounds_toArray, List.set_cons_zero, List.set_cons_succ]
      refine Go.Proofs.Phase.wpPh_take' (i := 3) (by simp only [List.getElem?_toArray, List.getElem?_cons_succ, List.getElem?_cons_zero]; rfl) ?_
      refine ⟨?_, ⟨by kernel_rfl, by kernel_rfl, by kernel_rfl, by kernel_rfl⟩, fun _ _ _ h => h, Or.inl ⟨by first | rfl | (simp [Region.wanted, yielded]; done), ?_⟩, by assumption, ?_⟩
      rotate_left
      · (intro w hSw; (try dsimp only at hSw); go_simp; with_reducible rfl)
      try simp only [Act.put, List.setIfInBounds_toArray, List.set_cons_zero, List.set_cons_succ]
      refine Go.Proofs.Phase.wpPh_take' (i := 4) (by simp only [List.getElem?_toArray, List.getElem?_cons_succ, List.getElem?_cons_zero]; rfl) ?_
      refine ⟨?_, ⟨by kernel_rfl, by kernel_rfl, by kernel_rfl, by kernel_rfl⟩, fun _ _ _ h => h, Or.inl ⟨by first | rfl | (simp [Region.wanted, yielded]; done), ?_⟩, by assumption, ?_⟩
      rotate_left
      · (intro w hSw; (try dsimp only at hSw); go_simp; with_reducible rfl)
      try simp only [Act.put, List.setIfInBounds_toArray, List.set_cons_zero, List.set_cons_succ]
      refine Go.Proofs.Phase.wpPh_take' (i := 5) (by simp only [List.getElem?_toArray, List.getElem?_cons_succ, List.getElem?_cons_zero]; rfl) ?_
      refine ⟨?_, ⟨by kernel_rfl, by kernel_rfl, by kernel_rfl, by kernel_rfl⟩, fun _ _ _ h => h, Or.inl ⟨by first | rfl | (simp [Region.wanted, yielded]; done), ?_⟩, by assumption, ?_⟩
      rotate_left
      · (intro w hSw; (try dsimp only at hSw); go_simp; with_reducible rfl)
      try simp only [Act.put, List.setIfInBounds_toArray, List.set_cons_zero, List.set_cons_succ]
      refine Go.Proofs.Phase.wpPh_take' (i := 6) (by simp only [List.getElem?_toArray, List.getElem?_cons_succ, List.getElem?_cons_zero]; rfl) ?_
      refine ⟨?_, ⟨by kernel_rfl, by kernel_rfl, by kernel_rfl, by kernel_rfl⟩, fun _ _ _ h => h, Or.inl ⟨by first | rfl | (simp [Region.wanted, yielded]; done), ?_⟩, by assumption, ?_⟩
      rotate_left
      · (intro w hSw; (try dsimp only at hSw); go_simp; with_reducible rfl)
      try simp only [Act.put, List.setIfInBounds_toArray, List.set_cons_zero, List.set_cons_succ]
      refine Go.Proofs.Phase.wpPh_take' (i := 7) (by simp only [List.getElem?_toArray, List.getElem?_cons_succ, List.getElem?_cons_zero]; rfl) ?_
      refine ⟨?_, ⟨by kernel_rfl, by kernel_rfl, by kernel_rfl, by kernel_rfl⟩, fun _ _ _ h => h, Or.inl ⟨by first | rfl | (simp [Region.wanted, yielded]; done), ?_⟩, by assumption, ?_⟩
      rotate_left
      · (intro w hSw; (try dsimp only at hSw); go_simp; with_reducible rfl)
      try simp only [Act.put, List.setIfInBounds_toArray, List.set_cons_zero, List.set_cons_succ]
      refine Go.Proofs.Phase.wpPh_behind (i := 8) (by kernel_rfl) (by simp only [List.getElem?_toArray, List.getElem?_cons_succ, List.getElem?_cons_zero]; rfl) (by kernel_rfl) (fun K hK => ?_)
      (with_reducible refine step_store_part rfl 95 _ _ rfl rfl b (x * 4) 4 rfl 95 cur2 _ rfl HCU.out cells95x rfl HFI.out (by simp [Value.oneCell']) ?_)
      refine hK.out _ _ ?_
      clear hK K
      try simp only [Act.put, List.setIfInBounds_toArray, List.set_cons_zero, List.set_cons_succ]
      refine Go.Proofs.Phase.wpPh_done (by kernel_rfl) ?_ _
      go_wp2_with fail
      go_roundg (gk - 1)
      case rel => exact ⟨k + 1, _, by omega, step_gg HG2.out.1 hlt2, by go_num, HN⟩
      case measure => exact meas_gg HG2.out.1 HG2.out.2
    · obtain rfl : k = d := by omega
      have hbw : Below S w8 wr := HK.out.2.below HL8.out (fun q _ e2 => by rw [e2]; exact HF.out.1)
      have HBr := Lib.hid (HB8.out.under2 hbw HS.out.1)
      have hXe := HK.out.1
      rw [blankK_full] at hXe
      obtain ⟨hO, hun8⟩ := HOK.out
      have hleaf : ∀ l, l < 2 ^ k → ((blankF F k i (2 * l)).pub ≠ 0 ↔ (blankF F k i (2 * l)).blank = false) := fun l hl => rblankF_leaf hO hl
      have hunB : ∀ y, y < n → (blankF F k i y).un.length ≤ 8 := fun y hy => rblankF_un (hun8 y hy)
      have hn : n = 2 ^ (k + 1) - 1 := hO.hn
      have hk3 : k ≤ 3 := hO.hd
      have HPL := Lib.hid (And.intro hleaf (And.intro hunB (And.intro hn hk3)))
      have HY : Hid (∀ (e' : Ending) (w' : World) (v' : Value) (j : Nat), e' = .returned (.tuple #[.agg #[v'], .int .i64 0]) → cut (blankF F k i) k = j → TrR w' v' (2 ^ (j + 1) - 1) (blankF F k i) → Below w.heap.size w w' → RRemYes w F k i e' w') :=
        Lib.hid fun e' w' v' j h1 h2 h3 h4 => ⟨⟨v', h1, by rw [h2]; exact h3⟩, h4⟩
      have HXe := Lib.hid hXe
      generalize blankF F k i = G at *
      clear hXe hbw hO hun8 hleaf hunB hn hk3 hlt2 hk
      obtain ⟨wo, rfl⟩ : ∃ wo, wo = wr := ⟨_, rfl⟩
      go_wp2_with fail
      go_loopg [] (k + 1) (fun gg wr => ∃ (j K : Nat) (uv : Nat → Value), j ≤ k ∧ j + 1 = gg ∧ K = 2 ^ (j + 1) - 1 ∧ cut G k = cut G j ∧ Hid (RX S g K G wr (.slice (some ⟨b, 0, none⟩) K c') uv ∧ Below S wo wr))
      case atStart => exact ⟨k, n, uv', Nat.le_refl _, rfl, HPL.out.2.2.1, rfl, Lib.hid ⟨HXe.out, Below.refl _ _⟩⟩
      case round =>
        obtain ⟨j, K, uv2, hj, hgg, hK, hcut, HT⟩ := hrel
        obtain ⟨hleaf, hunB, hn, hk3⟩ := HPL.out
        have h2j := two_succ j
        have hpj := two_pos j
        have h2k := two_succ k
        have hjk : 2 ^ j ≤ 2 ^ k := Nat.pow_le_pow_right (by decide) hj
        have hk8 : 2 ^ k ≤ 2 ^ 3 := Nat.pow_le_pow_right (by decide) hk3
        have hK15 : K ≤ 15 := by omega
        have HKn : Hid (K ≤ n) := Lib.hid (by omega)
        have HKj := Lib.hid hK
        have hlv : lvs K = 2 ^ j := by rw [hK]; exact lvs_pow (by omega)
        obtain ⟨K2, hK2⟩ : ∃ K2, K2 = 2 ^ j - 1 := ⟨_, rfl⟩
        obtain ⟨iv, hiv⟩ : ∃ iv : Int, iv = (K2 : Int) + 1 := ⟨_, rfl⟩
        have hL2 : ∀ W, Calls Tryz.prog 47 #[.agg #[.slice (some ⟨b, 0, none⟩) K c']] W fun e w' => e = .returned (.int .i64 iv) ∧ Below W.heap.size W w' := fun W => by
          have := rleaves (some ⟨b, 0, none⟩) K c' W
          rw [hlv, show ((2 ^ j : Nat) : Int) = iv by omega] at this
          exact this
        have HG2 := Lib.hid (And.intro hgg hj)
        have HCT := Lib.hid hcut
        have hbox := HT.out.1.cell.1
        have hgl := HT.out.1.lt
        have hHeld : wr.cell? ⟨g, 0, none⟩ = some (.slice (some ⟨b, 0, none⟩) K c') ∧ Below wr.heap.size wr wr := ⟨hbox, Below.refl _ _⟩
        by_cases hj0 : j = 0
        · have t1 : decide (1 < iv) = false := decide_eq_false (by rw [hj0] at hK2; simp at hK2; omega)
          have HJ0 := Lib.hid hj0
          have HBX := Lib.hid hbox
          clear hleaf hunB hn hk3 h2j hpj h2k hjk hk8 hK hlv hiv hK2 hgg hj hcut hj0
          go_wp2_with fail
          go_region_with ((go_at_call 47; with_reducible refine (hL2 _).mono ?_; rintro e' wa ⟨rfl, hba⟩))
          all_goals (
            have z2 : Below wr.heap.size wr wa := by first | exact (Below.refl _ _).drew.trans (hba.mono (Nat.le_refl _)) | exact (Below.refl _ _).drew.drew.trans (hba.mono (Nat.le_refl _)) | exact hba
            have z1 : wa.cell? ⟨g, 0, none⟩ = some (.slice (some ⟨b, 0, none⟩) K c') := (z2.cell (World.block_lt_of_cell? _ _ HBX.out)).trans HBX.out
            have HXx := Lib.hid (HT.out.1.under z2)
            have HZ := Lib.hid z2
            have hTw := rtwin (.slice (some ⟨b, 0, none⟩) K c') K G wa HXx.out.tr.trR (by omega) (fun y hy => Nat.le_trans (HPL.out.2.1 y (by have := HKn.out; omega)) (by decide))
            have HBx := Lib.hid ((HBr.out.under2 HT.out.2 HS.out.1).under z2)
            have hglx := HXx.out.lt
            have HS9 : Hid (S ≤ wa.heap.size) := Lib.hid (by have := HXx.out.hg; omega)
            clear z2 hba hL2
            go_wp2_with fail
            refine hTw.mono ?_
            rintro e' w9 ⟨⟨v9, uv9, rfl, hR9⟩, hb9⟩
            obtain ⟨A9, c9, rfl, -, -⟩ := hR9.slice
            have HB9 := Lib.hid (HBx.out.under hb9)
            obtain ⟨q0, q1, q2, q3, q4⟩ := HB9.out
            have q8 := HB9.out.stored
            have hTr : TrR (w9.setCell ⟨w.heap.size + 1, 0, none⟩ (.slice A9 K c9)) (.slice A9 K c9) K G :=
              (hR9.grown (grown_setCell _ ⟨w.heap.size + 1, 0, none⟩ _) (fun e2 => by have h1 := (World.ownsRow.lt hR9.row _ e2).1; have h2 := HS.out.1; have h3 := HS9.out; simp only at h1; omega) (fun y hy e2 => by have h1 := (World.ownsRow.lt (hR9.un y hy) _ e2).1; have h2 := HS.out.1; have h3 := HS9.out; simp only at h1; omega)).trR
            have HTR := Lib.hid hTr
            clear hTr hb9 hR9 hTw
            go_wp2_with fail
            refine bodyPost_ret (by simp [results, Tryz.results27, go_sem, q8]; rfl) rfl ?_
            refine HY.out _ _ _ 0 rfl ?_ (by have hKj := HKj.out; rw [HJ0.out] at hKj; rw [← hKj]; exact HTR.out) (q0.setCell (by show w.heap.size ≤ w.heap.size + 1; omega) _)
            rw [HCT.out, HJ0.out]
            rfl)
        · obtain ⟨i2, rfl⟩ : ∃ i2, j = i2 + 1 := ⟨j - 1, by omega⟩
          have h2i := two_succ i2
          have hpi := two_pos i2
          have hst := rsome_taken (G := G) (j := i2) hK fun l hl => hleaf l (by omega)
          have t1 : decide (1 < iv) = true := decide_eq_true (by omega)
          obtain ⟨H, hH⟩ : ∃ H, H = 2 ^ i2 := ⟨_, rfl⟩
          rw [← hH] at hst
          have e6 : IntKind.i64.wrap (iv.tdiv 2) = (H : Int) := by rw [Int.tdiv_eq_ediv_of_nonneg (by omega), IntKind.wrap_i64]; omega
          have E6 := Lib.hid e6
          have hS2 : ∀ W, Below wr.heap.size wr W → Calls Tryz.prog 51 #[.agg #[.slice (some ⟨b, 0, none⟩) K c'], .int .i64 H] W fun e w' => e = .returned (.bool (takenB G i2)) ∧ Below W.heap.size W w' := fun W hW =>
            (rsome (.slice (some ⟨b, 0, none⟩) K c') K G H W (HT.out.1.under hW).tr.trR hK15 (by omega)).mono fun e w' h => by
              obtain ⟨⟨q, h1, h2⟩, h3⟩ := h
              refine ⟨?_, h3⟩
              rw [h1]
              have : q = takenB G i2 := by rw [Bool.eq_iff_iff]; exact h2.trans hst
              rw [this]
          have hcutq : cut G (i2 + 1) = if takenB G i2 then i2 + 1 else cut G i2 := rfl
          obtain ⟨A9, c8, e8, hKc, -⟩ := HT.out.1.tr.slice
          have hKc : K ≤ c' := by
            injection e8 with _ _ e8
            omega
          have HN2 := Lib.hid (show K2 = 2 ^ (i2 + 1) - 1 ∧ K2 ≤ K ∧ 0 < K from ⟨hK2, by omega, by omega⟩)
          have hK2c : K2 ≤ c' := by omega
          have hK215 : K2 ≤ 15 := by omega
          have HIV := Lib.hid hiv
          clear hleaf hunB hn hk3 h2j hpj h2k hjk hk8 hK hlv hK2 hgg hj hcut hj0 hbox h2i hpi hst e6 hH e8 hiv hKc
          cases htk : takenB G i2 with
          | true =>
            rw [htk] at hS2 hcutq
            have HCQ := Lib.hid hcutq
            clear hcutq htk
            go_wp2_with fail
            go_region_held3 (fun w' => w'.cell? ⟨g, 0, none⟩ = some (.slice (some ⟨b, 0, none⟩) K c') ∧ Below wr.heap.size wr w') (first | assumption | exact held1_drew (by assumption) | exact held1_call (by assumption) (by assumption)) (first
              | (go_at_call 47; with_reducible refine (hL2 _).mono ?_; rintro e' wa ⟨rfl, hba⟩)
              | (go_at_call 51; (try simp only [E6.out]); with_reducible refine (hS2 _ (held1_mid (by assumption))).mono ?_; rintro e' wc ⟨rfl, hbc⟩))
            obtain ⟨z1, z2⟩ : wc.cell? ⟨g, 0, none⟩ = some (.slice (some ⟨b, 0, none⟩) K c') ∧ Below wr.heap.size wr wc := by assumption
            have HXx := Lib.hid (HT.out.1.under z2)
            have HZ := Lib.hid z2
            have hTw := rtwin (.slice (some ⟨b, 0, none⟩) K c') K G wc HXx.out.tr.trR (by omega) (fun y hy => Nat.le_trans (HPL.out.2.1 y (by have := HKn.out; omega)) (by decide))
            have HBx := Lib.hid ((HBr.out.under2 HT.out.2 HS.out.1).under z2)
            have hglx := HXx.out.lt
            have HS9 : Hid (S ≤ wc.heap.size) := Lib.hid (by have := HXx.out.hg; omega)
            clear z2 hbc hL2 hS2
            go_wp2_with fail
            refine hTw.mono ?_
            rintro e' w9 ⟨⟨v9, uv9, rfl, hR9⟩, hb9⟩
            obtain ⟨A9, c9, rfl, -, -⟩ := hR9.slice
            have HB9 := Lib.hid (HBx.out.under hb9)
            obtain ⟨q0, q1, q2, q3, q4⟩ := HB9.out
            have q8 := HB9.out.stored
            have hTr : TrR (w9.setCell ⟨w.heap.size + 1, 0, none⟩ (.slice A9 K c9)) (.slice A9 K c9) K G :=
              (hR9.grown (grown_setCell _ ⟨w.heap.size + 1, 0, none⟩ _) (fun e2 => by have h1 := (World.ownsRow.lt hR9.row _ e2).1; have h2 := HS.out.1; have h3 := HS9.out; simp only at h1; omega) (fun y hy e2 => by have h1 := (World.ownsRow.lt (hR9.un y hy) _ e2).1; have h2 := HS.out.1; have h3 := HS9.out; simp only at h1; omega)).trR
            have HTR := Lib.hid hTr
            clear hTr hb9 hR9 hTw
            go_wp2_with fail
            refine bodyPost_ret (by simp [results, Tryz.results27, go_sem, q8]; rfl) rfl ?_
            refine HY.out _ _ _ (i2 + 1) rfl ?_ (by have hKj := HKj.out; rw [← hKj]; exact HTR.out) (q0.setCell (by show w.heap.size ≤ w.heap.size + 1; omega) _)
            rw [HCT.out, HCQ.out]
            rfl
          | false =>
            rw [htk] at hS2 hcutq
            have HCQ := Lib.hid hcutq
            clear hcutq htk
            go_wp2_with fail
            go_region_held3 (fun w' => w'.cell? ⟨g, 0, none⟩ = some (.slice (some ⟨b, 0, none⟩) K c') ∧ Below wr.heap.size wr w') (first | assumption | exact held1_drew (by assumption) | exact held1_call (by assumption) (by assumption)) (first
              | (go_at_call 47; with_reducible refine (hL2 _).mono ?_; rintro e' wa ⟨rfl, hba⟩)
              | (go_at_call 51; (try simp only [E6.out]); with_reducible refine (hS2 _ (held1_mid (by assumption))).mono ?_; rintro e' wc ⟨rfl, hbc⟩))
            obtain ⟨z1, z2⟩ : wc.cell? ⟨g, 0, none⟩ = some (.slice (some ⟨b, 0, none⟩) K c') ∧ Below wr.heap.size wr wc := by assumption
            have HXc := Lib.hid (HT.out.1.under z2)
            have HZ := Lib.hid z2
            have hglc := HXc.out.lt
            have hboxc := HXc.out.cell
            have HCC : Hid (∀ w' : World, w'.heap[g]? = wc.heap[g]? → w'.cell? ⟨g, 0, none⟩ = some (.slice (some ⟨b, 0, none⟩) K c') ∧ w'.frozen? ⟨g, 0, none⟩ = false) := Lib.hid fun w' h1 => ⟨(World.cell?_of_block (a := ⟨g, 0, none⟩) h1).trans hboxc.1, (World.frozen?_of_block (a := ⟨g, 0, none⟩) h1).trans hboxc.2⟩
            obtain ⟨z3, z4⟩ := hboxc
            have hiv := HIV.out
            subst hiv
            have j1 : (0 : Int) ≤ (K2 : Int) := by omega
            have j2 : (K2 : Int) ≤ (c' : Int) := by omega
            have j3 : IntKind.i64.wrap ((K2 : Int) + 1 - 1) = (K2 : Int) := by rw [IntKind.wrap_i64]; omega
            have j4 : (K2 : Int) + 1 - 1 = (K2 : Int) := by omega
            have j5 : IntKind.i64.wrap (K2 : Int) = (K2 : Int) := by rw [IntKind.wrap_i64]; omega
            clear z2 hbc hS2 E6 t1
            go_wp2_with fail
            refine Go.Proofs.Phase.wp_region_ph (S := (fun w' => w'.cell? ⟨g, 0, none⟩ = some (.slice (some ⟨b, 0, none⟩) K c') ∧ w'.frozen? ⟨g, 0, none⟩ = false)) 7 (by kernel_rfl) ?_ (fun hHeld => ?_)
            · ((try dsimp only) <;> (first | assumption | exact HCC.out _ rfl | exact KS))
            refine Go.Proofs.Phase.wpPh_take' (i := 0) (by simp only [List.getElem?_toArray, List.getElem?_cons_succ, List.getElem?_cons_zero]; rfl) ?_
            refine ⟨?_, ⟨by kernel_rfl, by kernel_rfl, by kernel_rfl, by kernel_rfl⟩, fun _ _ _ h => h, Or.inl ⟨by first | rfl | (simp [Region.wanted, yielded]; done), ?_⟩, by assumption, ?_⟩
            rotate_left
            · (intro w hSw; (try dsimp only at hSw); go_simp; with_reducible rfl)
            try simp only [Act.put, List.setIfInBounds_toArray, List.set_cons_zero, List.set_cons_succ]
            refine Go.Proofs.Phase.wpPh_take' (i := 1) (by simp only [List.getElem?_toArray, List.getElem?_cons_succ, List.getElem?_cons_zero]; rfl) ?_
            refine ⟨?_, ⟨by kernel_rfl, by kernel_rfl, by kernel_rfl, by kernel_rfl⟩, fun _ _ _ h => h, Or.inl ⟨by first | rfl | (simp [Region.wanted, yielded]; done), ?_⟩, by assumption, ?_⟩
            rotate_left
            · (intro w hSw; (try dsimp only at hSw); go_simp; with_reducible rfl)
            try simp only [Act.put, List.setIfInBounds_toArray, List.set_cons_zero, List.set_cons_succ]
            refine Go.Proofs.Phase.wpPh_take' (i := 2) (by simp only [List.getElem?_toArray, List.getElem?_cons_succ, List.getElem?_cons_zero]; rfl) ?_
            refine ⟨?_, ⟨by kernel_rfl, by kernel_rfl, by kernel_rfl, by kernel_rfl⟩, fun _ _ _ h => h, Or.inl ⟨by first | rfl | (simp [Region.wanted, yielded]; done), ?_⟩, by assumption, ?_⟩
            rotate_left
            · (intro w hSw; (try dsimp only at hSw); go_simp; with_reducible rfl)
            try simp only [Act.put, List.setIfInBounds_toArray, List.set_cons_zero, List.set_cons_succ]
            refine Go.Proofs.Phase.wpPh_before (i := 3) (by kernel_rfl) (by simp only [List.getElem?_toArray, List.getElem?_cons_succ, List.getElem?_cons_zero]; rfl) (fun K hK => ?_)
            go_simp
            ((first
                | ((with_reducible refine (hL2 _).mono ?_); rintro e w3 ⟨rfl, B3⟩; have K3 := (Below.refl wc.heap.size wc).drew.trans (B3.mono (Nat.le_refl _)); have KS := HCC.out w3 (K3.block _ hglc); have KL : g < w3.heap.size := Nat.lt_of_lt_of_le hglc K3.size; have HK3 := Lib.hid K3)))
            go_wp2_with fail
            refine hK.out _ _ ?_ (fun hHeldN => ?_)
            · ((try dsimp only) <;> (first | assumption | exact HCC.out _ rfl | exact KS))
            clear hHeld
            have hHeld := hHeldN
            clear hHeldN
            clear hK K
            try simp only [Act.put, List.setIfInBounds_toArray, List.set_cons_zero, List.set_cons_succ]
            refine Go.Proofs.Phase.wpPh_take' (i := 4) (by simp only [List.getElem?_toArray, List.getElem?_cons_succ, List.getElem?_cons_zero]; rfl) ?_
            refine ⟨?_, ⟨by kernel_rfl, by kernel_rfl, by kernel_rfl, by kernel_rfl⟩, fun _ _ _ h => h, Or.inl ⟨by first | rfl | (simp [Region.wanted, yielded]; done), ?_⟩, by assumption, ?_⟩
            rotate_left
            · (intro w hSw; (try dsimp only at hSw); go_simp; with_reducible rfl)
            try simp only [Act.put, List.setIfInBounds_toArray, List.set_cons_zero, List.set_cons_succ]
            refine Go.Proofs.Phase.wpPh_take' (i := 5) (by simp only [List.getElem?_toArray, List.getElem?_cons_succ, List.getElem?_cons_zero]; rfl) ?_
            refine ⟨?_, ⟨by kernel_rfl, by kernel_rfl, by kernel_rfl, by kernel_rfl⟩, fun _ _ _ h => h, Or.inl ⟨by first | rfl | (simp [Region.wanted, yielded]; done), ?_⟩, by assumption, ?_⟩
            rotate_left
            · (intro w hSw; (try dsimp only at hSw); go_simp; with_reducible rfl)
            try simp only [Act.put, List.setIfInBounds_toArray, List.set_cons_zero, List.set_cons_succ]
            refine Go.Proofs.Phase.wpPh_take' (i := 6) (by simp only [List.getElem?_toArray, List.getElem?_cons_succ, List.getElem?_cons_zero]; rfl) ?_
            refine ⟨?_, ⟨by kernel_rfl, by kernel_rfl, by kernel_rfl, by kernel_rfl⟩, fun _ _ _ h => h, Or.inl ⟨by first | rfl | (simp [Region.wanted, yielded]; done), ?_⟩, by assumption, ?_⟩
            rotate_left
            · (intro w hSw; (try dsimp only at hSw); go_simp; with_reducible rfl)
            try simp only [Act.put, List.setIfInBounds_toArray, List.set_cons_zero, List.set_cons_succ]
            refine Go.Proofs.Phase.wpPh_behind (i := 7) (by kernel_rfl) (by simp only [List.getElem?_toArray, List.getElem?_cons_succ, List.getElem?_cons_zero]; rfl) (by kernel_rfl) (fun K hK => ?_)
            go_simp
            refine hK.out _ _ ?_
            clear hK K
            try simp only [Act.put, List.setIfInBounds_toArray, List.set_cons_zero, List.set_cons_succ]
            refine Go.Proofs.Phase.wpPh_done (by kernel_rfl) ?_ _
            have HN : Hid (RX S g K2 G (w3.setCell ⟨g, 0, none⟩ (.slice (some ⟨b, 0, none⟩) K2 c')) (.slice (some ⟨b, 0, none⟩) K2 c') uv2 ∧ Below S wo (w3.setCell ⟨g, 0, none⟩ (.slice (some ⟨b, 0, none⟩) K2 c'))) := Lib.hid (by
              have h3 := HXc.out.under HK3.out
              have h4 := HT.out.2
              have h5 := h3.hg
              have h6 := HT.out.1.lt
              exact ⟨RX.put h3.box h3.hg (h3.tr.cut HN2.out.2.1 HN2.out.2.2) h3.nv (fun y hy => h3.nu y (Nat.lt_of_lt_of_le hy HN2.out.2.1)), ((h4.trans ((HZ.out.trans (HK3.out.mono HZ.out.size)).mono (by omega)))).setCell (p := ⟨g, 0, none⟩) HS.out.2 _⟩)
            clear KS z1 z3 z4
            go_wp2_with fail
            go_roundg (gk - 1)
            case rel => exact ⟨i2, K2, uv2, by have := HG2.out.2; omega, by have := HG2.out.1; omega, HN2.out.1, by rw [HCT.out, HCQ.out]; rfl, HN⟩
            case measure => have := HG2.out.1; omega
end Go.Proofs.YtnahhclflnjmcaaGreatDoor
