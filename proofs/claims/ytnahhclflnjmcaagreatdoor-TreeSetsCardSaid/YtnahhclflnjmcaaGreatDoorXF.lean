/- Chapter 08's own Add. -/
import Derived.Test.YtnahhclflnjmcaaGreatDoorXE
import Derived.Test.YtnahhclflnjmcaaGreatDoorX1
import Derived.Test.YtnahhclflnjmcaaGreatDoorB3
import Derived.BigQuiet
import Derived.Deep.DeepCutAuto
import Derived.Deep.RegionWith
namespace Go.Proofs.YtnahhclflnjmcaaGreatDoor
open Go Go.RowKit Go.Proofs.YtnahhclflnjmcaaGreatDoor.Bk
set_option linter.unusedVariables false
set_option linter.unusedSimpArgs false
set_option maxRecDepth 100000

theorem step_gg {k g d : Nat} (h1 : k + g = d + 1) (h2 : k < d) : k + 1 + (g - 1) = d + 1 := by omega
theorem meas_gg {k g d : Nat} (h1 : k + g = d + 1) (h2 : k ≤ d) : g - 1 < g := by omega
theorem cells95x : (Tryz.prog.info? 95).map (·.size) = some 4 := by kernel_rfl
theorem fb_not {F : Nat → Node} : ∀ L, fb F L < L → ¬ 0 < (F (2 * fb F L)).pub
  | 0, h => by omega
  | L + 1, h => by
    unfold fb at h ⊢
    by_cases h1 : fb F L < L
    · rw [if_pos h1]
      exact fb_not L h1
    · rw [if_neg h1] at h ⊢
      by_cases h2 : 0 < (F (2 * L)).pub
      · rw [if_pos h2] at h; omega
      · rw [if_neg h2]; exact h2
theorem pad_pub {n : Nat} {F : Nat → Node} (hz : chk n F = true) (y : Nat) : 0 ≤ (pad n F y).pub := by
  unfold pad
  by_cases hy : y < n
  · rw [if_pos hy]
    rcases chk_iff.1 hz with rfl | ⟨d, hO⟩
    · omega
    · by_cases ho : y % 2 = 1
      · rcases hO.par y hy ho with h | h
        · rw [Node.blank_iff.1 h]; decide
        · have := h.1; omega
      · obtain ⟨j, rfl⟩ : ∃ j, y = 2 * j := ⟨y / 2, by omega⟩
        have := two_succ d
        have := hO.hn
        rcases hO.leaf j (by omega) with h | h
        · rw [Node.blank_iff.1 h]; decide
        · have := h.1; omega
  · rw [if_neg hy]; decide
theorem fb_notin {n : Nat} {F : Nat → Node} (hz : chk n F = true) (y : Nat) : ((fb F (lvs n) : Nat) : Int) ∉ (pad n F y).un := by
  unfold pad
  by_cases hy : y < n
  · rw [if_pos hy]
    rcases chk_iff.1 hz with rfl | ⟨d, hO⟩
    · omega
    · have h2 := two_succ d
      have hn := hO.hn
      by_cases ho : y % 2 = 1
      · rcases hO.par y hy ho with h | h
        · rw [Node.blank_iff.1 h]; simp [zeroN]
        · intro hm
          obtain ⟨h3, h4, h5⟩ := h.2.2.2.1 _ hm
          have hd := hO.hd
          have h16 : 2 ^ (d + 1) ≤ 2 ^ 4 := Nat.pow_le_pow_right (by decide) (by omega)
          have hh := hi_fin2 ⟨d, by omega⟩ ⟨y, by omega⟩ (by simp only; omega)
          simp only at hh
          rw [hO.lvs] at h3 h4 h5
          have hlt : fb F (2 ^ d) < 2 ^ d := by omega
          have hnp := fb_not (F := F) (2 ^ d) hlt
          rw [show (2 * ((fb F (2 ^ d) : Nat) : Int)).toNat = 2 * fb F (2 ^ d) by omega] at h5
          rcases hO.leaf _ hlt with h | h
          · rw [Node.blank_iff.1 h] at h5; exact h5 rfl
          · have := h.1; omega
      · obtain ⟨j, rfl⟩ : ∃ j, y = 2 * j := ⟨y / 2, by omega⟩
        rcases hO.leaf j (by omega) with h | h
        · rw [Node.blank_iff.1 h]; simp [zeroN]
        · rw [h.2.2.2]; simp
  · rw [if_neg hy]; simp [zeroN]
/-- What Add leaves. -/
structure RAddYes (w : World) (n : Nat) (F : Nat → Node) (a : Addx) (e : Ending) (w' : World) : Prop where
  out : ∃ v', e = .returned (.tuple #[.agg #[v'], .int .i64 (fb F (lvs n) : Nat), .int .i64 0]) ∧ TrR w' v' (2 * addN n F - 1) (addF n F (lg (addN n F)) (fb F (lvs n)) a)
  bel : Below w.heap.size w w'
set_option maxHeartbeats 8000000 in
theorem radd_limit (v : Value) (n : Nat) (F : Nat → Node) (a : Addx) (w : World) (hR : TrR w v n F) (hz : chk n F = true) (hm : 0 ≤ a.mem) (he : 0 ≤ a.ep) (hp : 1 ≤ a.pub) (hwf : (Lit.int .i64 a.mem).wf = true) (hq : findM F a.mem (sizeM n F) < 0) (hfull : fb F (lvs n) = lvs n) (h8 : lvs n = 8) :
    Calls Tryz.prog 26 #[.agg #[v], a.v] w fun e w' => AddNo w 3 e w' := by
  obtain ⟨hn15, hunl, huns⟩ := chk_len hz
  have hun : ∀ y, y < n → (F y).un.length ≤ 1000000 := fun y hy => by have := hunl y; unfold pad at this; rw [if_pos hy] at this; omega
  have hC : ∀ W, Below w.heap.size w W → Calls Tryz.prog 15 #[.agg #[v]] W fun e w' => e = .returned (.int .i64 (errB (chk n F))) ∧ Below W.heap.size W w' := fun W hW =>
    rcheck v n F W (hR.below hW) hun
  have hF : ∀ W, Below w.heap.size w W → Calls Tryz.prog 17 #[.agg #[v], .int .i64 a.mem] W fun e w' => e = .returned (.int .i64 (findM F a.mem (sizeM n F))) ∧ Below W.heap.size W w' := fun W hW =>
    rfind v n F a.mem W (hR.below hW) hun
  have HTW := Lib.hid (fun (W : World) (hW : Below w.heap.size w W) => rtwin v n F W (hR.below hW) (by omega) hun)
  have HFR := Lib.hid (fun (W : World) (hW : Below w.heap.size w W) => rfree v n F W (hR.below hW) hz)
  obtain ⟨A, c, rfl, -, -, -⟩ := id hR
  have hL := fun w => rleaves A n c w
  have HPAD := Lib.hid (And.intro hunl (And.intro huns (And.intro (fb_notin hz) (pad_pub hz))))
  obtain ⟨m, e, p⟩ := a
  unfold Addx.v
  simp only at hm he hp hq hF hwf ⊢
  have HB0 := Lib.hid (AddB.start w (.slice A n c) m e p)
  rw [hz, errB_true] at hC
  generalize findM F m (sizeM n F) = f at *
  have t1 : decide (m < 0) = false := decide_eq_false (by omega)
  have t2 : decide (e < 0) = false := decide_eq_false (by omega)
  have t3 : decide (p < 1) = false := decide_eq_false (by omega)
  have t4 : decide (0 ≤ f) = false := decide_eq_false (by omega)
  clear hm he hp hq hunl huns hun
  have hfr : freeM (lvs n) F = -1 := if_pos hfull
  rw [hfr] at HFR
  rw [h8] at hL
  clear hz hfull h8 hfr HPAD
  go_enter Tryz.func26, Tryz.ntmps26
  go_wp2_with (first
    | (go_at_call 15; refine (hC _ HB0.out.bel).mono ?_; rintro e' w1 ⟨rfl, hb1⟩; obtain ⟨d0, d1, d2, d3, d4, d5, d6, d7⟩ := HB0.out.under hb1; have HB1 := Lib.hid (HB0.out.under hb1))
    | (go_at_call 17; refine (hF _ HB1.out.bel).mono ?_; rintro e' w2 ⟨rfl, hb2⟩; obtain ⟨f0, f1, f2, f3, f4, f5, f6, f7⟩ := HB1.out.under hb2; have HB2 := Lib.hid (HB1.out.under hb2)))
  refine (HTW.out _ HB2.out.bel).mono ?_
  rintro e' w3 ⟨⟨v', uv, rfl, hRw⟩, hb3⟩
  obtain ⟨A', c', rfl, -, -⟩ := hRw.slice
  clear hb1 hb2 d0 d1 d2 d3 d4 d5 d6 d7 f0 f1 f2 f3 f4 f5 f6 hC hF HB1 HB0
  have HB3 := Lib.hid (HB2.out.under hb3)
  obtain ⟨W4, hW4⟩ : ∃ W4, W4 = w3.alloc (.cells #[.slice A' n c'] 24) := ⟨_, rfl⟩
  have hX : RX w2.heap.size w3.heap.size n F W4 (.slice A' n c') uv := by
    rw [hW4]
    exact ⟨heap_alloc_new _ _, hRw.below ((Below.refl _ _).alloc (Nat.le_refl _) _), fun q hq => by have := (World.ownsRow.lt hRw.row q hq).2; omega, fun y hy q hq => by have := (World.ownsRow.lt (hRw.un y hy) q hq).2; omega, hb3.size⟩
  have hb4 : Below w3.heap.size w3 W4 := by rw [hW4]; exact (Below.refl _ _).alloc (Nat.le_refl _) _
  have HB4 := Lib.hid (HB3.out.under hb4)
  have HX := Lib.hid hX
  obtain ⟨S, hS⟩ : ∃ S, S = w2.heap.size := ⟨_, rfl⟩
  have hS2 : w.heap.size + 2 < S := by rw [hS]; exact f7
  obtain ⟨g, hg⟩ : ∃ g, g = w3.heap.size := ⟨_, rfl⟩
  have hSg : S ≤ g := by rw [hS, hg]; exact hb3.size
  rw [← hS, ← hg] at HX
  obtain ⟨g0, g1, g2, g3, g4, g5, g6, g7⟩ := HB3.out
  have g8 : w.heap.size < w3.heap.size := by omega
  clear hX hb3 hRw hb4
  go_upto_region 6 with fail
  rw [← hW4, ← hg]
  clear hW4 g0 g1 g2 g3 g4 g5 g6 g7 g8 HB3 hS f7
  have HS := Lib.hid (And.intro hS2 hSg)
  obtain ⟨g0, g1, g2, g3, g4, g5, g6, g7⟩ := HB4.out
  have g8 : w.heap.size < W4.heap.size := by omega
  go_wp2_with fail
  refine (HFR.out W4 HB4.out.bel).mono ?_
  rintro e' w5 ⟨rfl, hb5⟩
  have HB5 := Lib.hid (HB4.out.under hb5)
  have HX5 := Lib.hid (HX.out.under hb5)
  clear g0 g1 g2 g3 g4 g5 g6 g7 g8 hb5 HX HB4 HTW HFR hg hS2 hSg
  obtain ⟨g0, g1, g2, g3, g4, g5, g6, g7⟩ := HB5.out
  have g8 : w.heap.size < w5.heap.size := by omega
  go_wp2_with (go_at_call 47; refine (hL _).mono ?_; rintro e' w6 ⟨rfl, hb6⟩; obtain ⟨k0, k1, k2, k3, k4, k5, k6, k7⟩ := HB5.out.under hb6; have HB6 := Lib.hid (HB5.out.under hb6))
  have d8 := HB6.out.stored
  refine bodyPost_ret (by simp [results, Tryz.results26, go_sem, d8]; rfl) rfl ?_
  exact ⟨rfl, k0.setCell (by show w.heap.size ≤ w.heap.size + 2; omega) _⟩
set_option maxHeartbeats 8000000 in
theorem radd_room (v : Value) (n : Nat) (F : Nat → Node) (a : Addx) (w : World) (hR : TrR w v n F) (hz : chk n F = true) (hm : 0 ≤ a.mem) (he : 0 ≤ a.ep) (hp : 1 ≤ a.pub) (hwf : (Lit.int .i64 a.mem).wf = true) (hq : findM F a.mem (sizeM n F) < 0) (hroom : fb F (lvs n) < lvs n) :
    Calls Tryz.prog 26 #[.agg #[v], a.v] w fun e w' => RAddYes w n F a e w' := by
  obtain ⟨hn15, hunl, huns⟩ := chk_len hz
  have hun : ∀ y, y < n → (F y).un.length ≤ 1000000 := fun y hy => by have := hunl y; unfold pad at this; rw [if_pos hy] at this; omega
  have hC : ∀ W, Below w.heap.size w W → Calls Tryz.prog 15 #[.agg #[v]] W fun e w' => e = .returned (.int .i64 (errB (chk n F))) ∧ Below W.heap.size W w' := fun W hW =>
    rcheck v n F W (hR.below hW) hun
  have hF : ∀ W, Below w.heap.size w W → Calls Tryz.prog 17 #[.agg #[v], .int .i64 a.mem] W fun e w' => e = .returned (.int .i64 (findM F a.mem (sizeM n F))) ∧ Below W.heap.size W w' := fun W hW =>
    rfind v n F a.mem W (hR.below hW) hun
  have HTW := Lib.hid (fun (W : World) (hW : Below w.heap.size w W) => rtwin v n F W (hR.below hW) (by omega) hun)
  have HFR := Lib.hid (fun (W : World) (hW : Below w.heap.size w W) => rfree v n F W (hR.below hW) hz)
  obtain ⟨A, c, rfl, -, -, -⟩ := id hR
  have hL := fun w => rleaves A n c w
  have HPAD := Lib.hid (And.intro hunl (And.intro huns (And.intro (fb_notin hz) (pad_pub hz))))
  obtain ⟨m, e, p⟩ := a
  unfold Addx.v
  simp only at hm he hp hq hF hwf ⊢
  have HB0 := Lib.hid (AddB.start w (.slice A n c) m e p)
  rw [hz, errB_true] at hC
  generalize findM F m (sizeM n F) = f at *
  have t1 : decide (m < 0) = false := decide_eq_false (by omega)
  have t2 : decide (e < 0) = false := decide_eq_false (by omega)
  have t3 : decide (p < 1) = false := decide_eq_false (by omega)
  have t4 : decide (0 ≤ f) = false := decide_eq_false (by omega)
  clear hm he hp hq hunl huns hun
  have hfr : freeM (lvs n) F = (fb F (lvs n) : Nat) := if_neg (by omega)
  rw [hfr] at HFR
  obtain ⟨d, hO⟩ : ∃ d, Ok d n F := by
    rcases chk_iff.1 hz with rfl | h
    · have : lvs 0 = 0 := rfl
      omega
    · exact h
  have hN : addN n F = 2 ^ d := by unfold addN; rw [if_neg (by omega)]; exact hO.lvs
  obtain ⟨i, hi⟩ : ∃ i, i = fb F (lvs n) := ⟨_, rfl⟩
  rw [← hi] at HFR
  have HY : Hid (∀ (e' : Ending) (w' : World) (v' : Value), e' = .returned (.tuple #[.agg #[v'], .int .i64 (i : Int), .int .i64 0]) → TrR w' v' (2 * 2 ^ d - 1) (addF n F d i ⟨m, e, p⟩) → Below w.heap.size w w' → RAddYes w n F ⟨m, e, p⟩ e' w') :=
    Lib.hid fun e' w' v' h1 h2 h3 => ⟨⟨v', by rw [← hi]; exact h1, by rw [hN, lg_pow hO.hd, ← hi]; exact h2⟩, h3⟩
  have h2s := two_succ d
  have h2p := two_pos d
  obtain ⟨T, hT⟩ : ∃ T, T = n := ⟨_, rfl⟩
  obtain ⟨N2, hN2⟩ : ∃ N2, N2 = 2 ^ d := ⟨_, rfl⟩
  have HD := Lib.hid (show d ≤ 3 ∧ N2 = 2 ^ d ∧ T = 2 * 2 ^ d - 1 ∧ i < N2 ∧ lvs T = N2 ∧ (Lit.int .i64 m).wf = true ∧ fb F (lvs n) = i from ⟨hO.hd, hN2, by rw [hT, hO.hn]; omega, by rw [hi, hN2, ← hO.lvs]; exact hroom, by rw [hT, hN2]; exact hO.lvs, hwf, hi.symm⟩)
  have HTN := Lib.hid (And.intro hT (And.intro h2s h2p))
  clear hz hroom hfr hN hO hwf hi h2s h2p hT hN2
  go_enter Tryz.func26, Tryz.ntmps26
  go_wp2_with (first
    | (go_at_call 15; refine (hC _ HB0.out.bel).mono ?_; rintro e' w1 ⟨rfl, hb1⟩; obtain ⟨d0, d1, d2, d3, d4, d5, d6, d7⟩ := HB0.out.under hb1; have HB1 := Lib.hid (HB0.out.under hb1))
    | (go_at_call 17; refine (hF _ HB1.out.bel).mono ?_; rintro e' w2 ⟨rfl, hb2⟩; obtain ⟨f0, f1, f2, f3, f4, f5, f6, f7⟩ := HB1.out.under hb2; have HB2 := Lib.hid (HB1.out.under hb2)))
  refine (HTW.out _ HB2.out.bel).mono ?_
  rintro e' w3 ⟨⟨v', uv, rfl, hRw⟩, hb3⟩
  obtain ⟨A', c', rfl, -, -⟩ := hRw.slice
  clear hb1 hb2 d0 d1 d2 d3 d4 d5 d6 d7 f0 f1 f2 f3 f4 f5 f6 hC hF HB1 HB0
  have HB3 := Lib.hid (HB2.out.under hb3)
  obtain ⟨W4, hW4⟩ : ∃ W4, W4 = w3.alloc (.cells #[.slice A' n c'] 24) := ⟨_, rfl⟩
  have hX : RX w2.heap.size w3.heap.size n F W4 (.slice A' n c') uv := by
    rw [hW4]
    exact ⟨heap_alloc_new _ _, hRw.below ((Below.refl _ _).alloc (Nat.le_refl _) _), fun q hq => by have := (World.ownsRow.lt hRw.row q hq).2; omega, fun y hy q hq => by have := (World.ownsRow.lt (hRw.un y hy) q hq).2; omega, hb3.size⟩
  have hb4 : Below w3.heap.size w3 W4 := by rw [hW4]; exact (Below.refl _ _).alloc (Nat.le_refl _) _
  have HB4 := Lib.hid (HB3.out.under hb4)
  have HX := Lib.hid hX
  obtain ⟨S, hS⟩ : ∃ S, S = w2.heap.size := ⟨_, rfl⟩
  have hS2 : w.heap.size + 2 < S := by rw [hS]; exact f7
  obtain ⟨g, hg⟩ : ∃ g, g = w3.heap.size := ⟨_, rfl⟩
  have hSg : S ≤ g := by rw [hS, hg]; exact hb3.size
  rw [← hS, ← hg] at HX
  obtain ⟨g0, g1, g2, g3, g4, g5, g6, g7⟩ := HB3.out
  have g8 : w.heap.size < w3.heap.size := by omega
  clear hX hb3 hRw hb4
  go_upto_region 6 with fail
  rw [← hW4, ← hg]
  clear hW4 g0 g1 g2 g3 g4 g5 g6 g7 g8 HB3 hS f7
  have HS := Lib.hid (And.intro hS2 hSg)
  obtain ⟨g0, g1, g2, g3, g4, g5, g6, g7⟩ := HB4.out
  have g8 : w.heap.size < W4.heap.size := by omega
  go_wp2_with fail
  refine (HFR.out W4 HB4.out.bel).mono ?_
  rintro e' w5 ⟨rfl, hb5⟩
  have HB5 := Lib.hid (HB4.out.under hb5)
  have HX5 := Lib.hid (HX.out.under hb5)
  clear g0 g1 g2 g3 g4 g5 g6 g7 g8 hb5 HX HB4 HTW HFR hg hS2 hSg
  obtain ⟨g0, g1, g2, g3, g4, g5, g6, g7⟩ := HB5.out
  have g8 : w.heap.size < w5.heap.size := by omega
  have i0 : (0 : Int) ≤ (i : Int) := by omega
  have t9 : decide ((i : Int) < 0) = false := decide_eq_false (by omega)
  obtain ⟨wt, hwt⟩ : ∃ wt, wt = w5 := ⟨_, rfl⟩
  have HXT : Hid (RX S g T (pad n F) wt (.slice A' T c') uv) := Lib.hid (by
    rw [hwt, HTN.out.1]
    exact HX5.out.congr fun y hy => by unfold pad; rw [if_pos hy])
  have HBT : Hid (AddB w (.slice A n c) m e p wt) := Lib.hid (by rw [hwt]; exact HB5.out)
  clear g0 g1 g2 g3 g4 g5 g6 g7 g8 HX5 HB5
  subst hwt
  go_upto_region 14 with fail
  clear t9
  obtain ⟨hd, hN2, hNT, hat, hlT, hwf, hfin⟩ := HD.out
  have hX := HXT.out
  have h2d := two_succ d
  have h2p := two_pos d
  have hiT : 2 * i < T := by omega
  have hi8 : i < 8 := by
    have : 2 ^ d ≤ 2 ^ 3 := Nat.pow_le_pow_right (by decide) hd
    omega
  obtain ⟨b, cb, cur, e9, hcur, hSb, hbl, hbg, hfit, hcc, hcm⟩ := hX.slice (by omega)
  injection e9 with e1 _ e3
  subst e1 e3
  have hX1 := hX.node hcur hiT ⟨p, m, e, []⟩ rfl hwf
  obtain ⟨W6, hW6⟩ : ∃ W6, W6 = wt.setRow b (Bk.over cur (2 * i * 4) #[.int .i64 p, .int .i64 m, .int .i64 e, .slice none 0 0]) := ⟨_, rfl⟩
  have hb6 : Below S wt W6 := by rw [hW6]; exact Bk.below_setRow (Below.refl _ _) hSb
  have HB6 := Lib.hid (HBT.out.under2 hb6 HS.out.1)
  have hX2 : RX S g T (addK n F d i ⟨m, e, p⟩ 0) W6 (.slice (some ⟨b, 0, none⟩) T c') (fun z => if z = 2 * i then .slice none 0 0 else uv z) := by
    rw [hW6]
    refine hX1.congr fun y hy => ?_
    unfold addK
    by_cases e1 : y = 2 * i
    · simp [e1]
    · simp [e1]
  have HX2 := Lib.hid hX2
  have HCUR := Lib.hid hcur
  have HFIT : Hid (2 * i * 4 + 4 ≤ cur.size) := Lib.hid (by omega)
  have hbox := hX.cell.1
  have hgl := hX.lt
  obtain ⟨g0, g1, g2, g3, g4, g5, g6, g7⟩ := HBT.out
  have g9 : w.heap.size + 1 < wt.heap.size := by omega
  have m1 : (0 : Int) ≤ 2 * (i : Int) := by omega
  have m2 : 2 * (i : Int) < (T : Int) := by omega
  have HF := Lib.hid (And.intro hSb (And.intro hbl (And.intro hbg hb6)))
  clear hX hX1 hX2 hcur hSb hbg hfit hcc hcm HXT hb6 hiT h2d h2p hd hN2 hNT hat hlT hwf hfin
  go_upto_region 15 with (with_reducible refine wpList_store_part rfl 95 _ _ rfl rfl b (2 * i * 4) 4 rfl 95 cur _ rfl HCUR.out cells95x rfl HFIT.out (by simp [Value.oneCell']) ?_)
  rw [← hW6]
  clear hW6 hbox hgl g0 g1 g2 g3 g4 g5 g6 g7 g9
  have hbox := HX2.out.cell.1
  have hgl := HX2.out.lt
  go_wp2_with fail
  refine (rleaves _ T c' W6).mono ?_
  rintro e' w7 ⟨rfl, hb7⟩
  rw [HD.out.2.2.2.2.1]
  have hp7 : 0 < w7.heap.size := by have := hb7.size; omega
  have HX7 := Lib.hid (HX2.out.under hb7)
  have HB7 := Lib.hid (HB6.out.under hb7)
  have HL7 : Hid (b < w7.heap.size) := Lib.hid (by have h1 := hb7.size; have h2 := HF.out.2.2.2.size; have h3 := HF.out.2.1; omega)
  clear hb7 hbox hgl HX2 HB6 m1 m2
  go_wp2_with fail
  refine (rdirect d i N2 HD.out.1 HD.out.2.1 HD.out.2.2.2.1 w7 hp7).mono ?_
  rintro e' w8 ⟨vd, rfl, hvd, hb8⟩
  obtain ⟨Ad, cd, rfl⟩ := hvd.slice
  have hdl : (natL (dirs d i)).length = d := by unfold natL; rw [List.length_map, dirs_length]
  rw [hdl] at hvd ⊢
  have HVD := Lib.hid hvd
  have HX8 := Lib.hid (HX7.out.under hb8)
  have HB8 := Lib.hid (HB7.out.under hb8)
  have hs8 := hb8.size
  have HL8 : Hid (S ≤ w8.heap.size) := Lib.hid (by have h1 := HF.out.1; have h2 := HL7.out; omega)
  clear hvd hb8 hdl HX7 HB7 hp7
  go_wp2_with fail
  go_loopg [11] (d + 1) (fun gg v11 wr => ∃ (k : Nat) (uv : Nat → Value), k ≤ d ∧ k + gg = d + 1 ∧ v11 = .int .i64 (k : Int) ∧ Hid (RX S g T (addK n F d i ⟨m, e, p⟩ k) wr (.slice (some ⟨b, 0, none⟩) T c') uv ∧ Bk.Chg (fun q => q = b) w8 wr))
  case atStart => exact ⟨0, _, by omega, by omega, rfl, Lib.hid ⟨HX8.out, Bk.Chg.refl _ _⟩⟩
  case round =>
    obtain ⟨k, uv', hk, hg2, rfl, HK⟩ := hrel
    have HG2 := Lib.hid (And.intro hg2 hk)
    have hbox := HK.out.1.cell.1
    have hgl := HK.out.1.lt
    clear hg2
    by_cases hlt2 : k < d
    · obtain ⟨hd, hN2, hNT, hat, hlT, hwf, hfin⟩ := HD.out
      obtain ⟨x, hx, hxn, hxo, hxt, htk⟩ := dirs_at hd (show i < 2 ^ d by omega) hlt2
      have hxN : x < T := by have := two_succ d; omega
      have hk3 : k < 4 := by omega
      obtain ⟨bd, od, rfl, cd0⟩ := HVD.out.ints.at (natL_get hx)
      have hbd1 := (World.ownsRow.lt HVD.out bd rfl).1
      have hbd2 := (World.ownsRow.lt HVD.out bd rfl).2
      have hbdb : ¬ bd = b := fun e => by have := HL7.out; omega
      have cdk : wr.cell? ⟨bd, od + k, none⟩ = some (.int .i64 x) := (World.cell?_of_block (a := ⟨bd, od + k, none⟩) (HK.out.2.block bd hbd2 hbdb)).trans cd0
      have hbdr : bd < wr.heap.size := World.block_lt_of_cell? _ _ cdk
      obtain ⟨b', c', e1, hbr, -, x0, -, -, x3, xf⟩ := HK.out.1.tr.cells hxN
      injection e1 with e1 _ e3
      injection e1 with e1
      injection e1 with e1
      subst e1 e3
      have hx2i : x ≠ 2 * i := by omega
      have hGx : addK n F d i ⟨m, e, p⟩ k x = pad n F x := by
        unfold addK
        rw [if_neg hx2i, if_neg (fun h => hxt h.1)]
      have hown := HK.out.1.tr.un x hxN
      rw [hGx] at x0 hown
      obtain ⟨Ax, cx, hux⟩ := hown.slice
      rw [hux] at x3 hown
      have xf3 := xf (x * 4 + 3)
      have j1 : (0 : Int) ≤ (k : Int) := by omega
      have j2 : (k : Int) < (d : Int) := by omega
      have j4 : (0 : Int) ≤ (x : Int) := by omega
      have j5 : (x : Int) < (T : Int) := by omega
      have hadd : ∀ y, addK n F d i ⟨m, e, p⟩ (k + 1) y = if y = x ∧ 0 < (pad n F x).pub then { pad n F x with un := ins i (pad n F x).un } else addK n F d i ⟨m, e, p⟩ k y := fun y => by
        unfold addK
        rw [htk]
        by_cases e2 : y = x
        · subst e2
          by_cases hpp : 0 < (pad n F y).pub
          · simp [hpp, hx2i]
          · simp [hpp]
        · simp [e2]
      have HX := Lib.hid (And.intro hxN (And.intro hGx (And.intro hadd hlt2)))
      have HOWN := Lib.hid hown
      obtain ⟨hl8, hsrt, hnin, hpos⟩ := HPAD.out
      have hl8 := hl8 x
      have hsrt := hsrt x
      have hnin := hnin x
      have hpos := hpos x
      rw [hfin] at hnin
      have HSR := Lib.hid (And.intro hsrt hnin)
      generalize hpp : pad n F x = nx at *
      obtain ⟨px, mx, ex, ux⟩ := nx
      simp only at x0 x3 hl8 hsrt hnin hpos
      have HNX := Lib.hid hpp
      have HOWN : Hid (OwnI wr S (.slice Ax ux.length cx) ux) := HOWN
      have HSR : Hid (ux.Pairwise (· < ·) ∧ (i : Int) ∉ ux) := HSR
      clear hx hxt htk hx2i hGx hown hux cd0 xf hadd hsrt hnin hpp hbdb hbd1 hbd2 hd hN2 hNT hat hlT hwf hfin
      by_cases hpx : px = 0
      · have t7 : (px != 0) = false := by rw [hpx]; rfl
        have HPX := Lib.hid hpx
        clear hpx
        go_wp2_with fail
        go_quiet (fail)
        go_wp2_with fail
        go_roundg (gk - 1)
        case rel =>
          refine ⟨k + 1, uv', by have := HX.out.2.2.2; omega, step_gg HG2.out.1 HX.out.2.2.2, (by first | rfl | go_num), Lib.hid ⟨((HK.out.1.under (Below.quiet (Below.refl _ _) _))).congr fun y hy => ?_, HK.out.2.trans (Bk.Chg.of_below (Below.quiet (Below.refl _ _) _))⟩⟩
          rw [HX.out.2.2.1, if_neg (fun h => absurd (show 0 < px from h.2) (by rw [HPX.out]; exact Int.lt_irrefl 0))]
        case measure => exact meas_gg HG2.out.1 HG2.out.2
      · have t7 : (px != 0) = true := by rw [bne_iff_ne]; exact hpx
        have HPX : Hid (0 < px) := Lib.hid (by omega)
        have hris := fun nd : Nat => rising _ _ (i : Int) (wr.drewN nd) (HOWN.out.ints.below (Below.quiet (Below.refl _ _) nd)) HSR.out.1 HSR.out.2 (by omega)
        have HKQ := Lib.hid (fun nd : Nat => And.intro (HK.out.1.under (Below.quiet (Below.refl _ _) nd)) (And.intro (Below.quiet (Below.refl wr.heap.size wr) nd) (show S ≤ (wr.drewN nd).heap.size from by have h1 := HF.out.1; show S ≤ wr.heap.size; omega)))
        clear hpx hpos
        go_wp2_with fail
        go_quiet (fail)
        go_wp2_with fail
        refine (hris _).mono ?_
        rintro e' w9 ⟨u', rfl, hu, hb9⟩
        obtain ⟨Au, cu, rfl⟩ := hu.slice
        obtain ⟨b', c', e1, hb9l, -, -, -, -, z3, zf⟩ := ((HKQ.out _).1.under hb9).tr.cells HX.out.1
        injection e1 with e1 _ e3
        injection e1 with e1
        injection e1 with e1
        subst e1 e3
        have zf3 := zf (x * 4 + 3)
        have HU := Lib.hid (And.intro hu hb9)
        generalize (ins (i : Int) ux).length = ul at *
        clear hris hu hb9 zf x0 x3 cdk hbox xf3
        go_wp2_with fail
        go_roundg (gk - 1)
        case rel =>
          refine ⟨k + 1, _, by have := HX.out.2.2.2; omega, step_gg HG2.out.1 HX.out.2.2.2, (by first | rfl | go_num), Lib.hid ⟨((HKQ.out _).1.un (B2 := 0) HU.out.2 HX.out.1 _ _ HU.out.1 (HKQ.out _).2.2).congr fun y hy => ?_, HK.out.2.trans ((Bk.Chg.of_below (HKQ.out _).2.1).trans ((Bk.Chg.of_below HU.out.2).trans (Bk.Chg.setCell w9 ⟨b, x * 4 + 3, none⟩ _ rfl)))⟩⟩
          rw [HX.out.2.2.1]
          by_cases e2 : y = x
          · rw [if_pos e2, if_pos ⟨e2, HPX.out⟩, HX.out.2.1]
          · rw [if_neg e2, if_neg (fun h => e2 h.1)]
        case measure => exact meas_gg HG2.out.1 HG2.out.2
    · obtain rfl : k = d := by omega
      have hKd := HK.out.1
      have hbw : Below S w8 wr := HK.out.2.below HL8.out (fun q _ e2 => by rw [e2]; exact HF.out.1)
      have HBr := Lib.hid (HB8.out.under2 hbw HS.out.1)
      obtain ⟨q0, q1, q2, q3, q4, q5, q6, q7⟩ := HBr.out
      have q8 := HBr.out.stored
      have hTr : TrR (wr.setCell ⟨w.heap.size + 2, 0, none⟩ (.slice (some ⟨b, 0, none⟩) T c')) (.slice (some ⟨b, 0, none⟩) T c') T (addK n F k i ⟨m, e, p⟩ k) :=
        (hKd.tr.grown (grown_setCell _ ⟨w.heap.size + 2, 0, none⟩ _) (fun e2 => by have := (World.ownsRow.lt hKd.tr.row _ e2).1; have := HS.out.1; simp only at *; omega) (fun y hy e2 => by have := (World.ownsRow.lt (hKd.tr.un y hy) _ e2).1; have := HS.out.1; simp only at *; omega)).trR
      have HTR := Lib.hid hTr
      clear hKd hbw hTr hlt2 hk
      go_wp2_with fail
      refine bodyPost_ret (by simp [results, Tryz.results26, go_sem, q8]; rfl) rfl ?_
      refine HY.out _ _ _ rfl ?_ (q0.setCell (by show w.heap.size ≤ w.heap.size + 2; omega) _)
      rw [← addK_full, ← HD.out.2.2.1]
      exact HTR.out
set_option maxHeartbeats 8000000 in
theorem radd_grow (v : Value) (n : Nat) (F : Nat → Node) (a : Addx) (w : World) (hR : TrR w v n F) (hz : chk n F = true) (hm : 0 ≤ a.mem) (he : 0 ≤ a.ep) (hp : 1 ≤ a.pub) (hwf : (Lit.int .i64 a.mem).wf = true) (hq : findM F a.mem (sizeM n F) < 0) (hfull : fb F (lvs n) = lvs n) (h8 : lvs n ≠ 8) :
    Calls Tryz.prog 26 #[.agg #[v], a.v] w fun e w' => RAddYes w n F a e w' := by
  obtain ⟨hn15, hunl, huns⟩ := chk_len hz
  have hun : ∀ y, y < n → (F y).un.length ≤ 1000000 := fun y hy => by have := hunl y; unfold pad at this; rw [if_pos hy] at this; omega
  have hC : ∀ W, Below w.heap.size w W → Calls Tryz.prog 15 #[.agg #[v]] W fun e w' => e = .returned (.int .i64 (errB (chk n F))) ∧ Below W.heap.size W w' := fun W hW =>
    rcheck v n F W (hR.below hW) hun
  have hF : ∀ W, Below w.heap.size w W → Calls Tryz.prog 17 #[.agg #[v], .int .i64 a.mem] W fun e w' => e = .returned (.int .i64 (findM F a.mem (sizeM n F))) ∧ Below W.heap.size W w' := fun W hW =>
    rfind v n F a.mem W (hR.below hW) hun
  have HTW := Lib.hid (fun (W : World) (hW : Below w.heap.size w W) => rtwin v n F W (hR.below hW) (by omega) hun)
  have HFR := Lib.hid (fun (W : World) (hW : Below w.heap.size w W) => rfree v n F W (hR.below hW) hz)
  obtain ⟨A, c, rfl, -, -, -⟩ := id hR
  have hL := fun w => rleaves A n c w
  have HPAD := Lib.hid (And.intro hunl (And.intro huns (And.intro (fb_notin hz) (pad_pub hz))))
  obtain ⟨m, e, p⟩ := a
  unfold Addx.v
  simp only at hm he hp hq hF hwf ⊢
  have HB0 := Lib.hid (AddB.start w (.slice A n c) m e p)
  rw [hz, errB_true] at hC
  generalize findM F m (sizeM n F) = f at *
  have t1 : decide (m < 0) = false := decide_eq_false (by omega)
  have t2 : decide (e < 0) = false := decide_eq_false (by omega)
  have t3 : decide (p < 1) = false := decide_eq_false (by omega)
  have t4 : decide (0 ≤ f) = false := decide_eq_false (by omega)
  clear hm he hp hq hunl huns hun
  have hfr : freeM (lvs n) F = -1 := if_pos hfull
  rw [hfr] at HFR
  obtain ⟨d, hd, hN, hfacts⟩ : ∃ d, d ≤ 3 ∧ addN n F = 2 ^ d ∧ ((lvs n = 0 ∧ n = 0 ∧ d = 0) ∨ (0 < lvs n ∧ n = 2 * lvs n - 1 ∧ 2 ^ d = 2 * lvs n)) := by
    unfold addN
    rw [if_pos hfull]
    rcases chk_iff.1 hz with rfl | ⟨d, hO⟩
    · exact ⟨0, by omega, rfl, .inl ⟨rfl, rfl, rfl⟩⟩
    · have h1 := hO.lvs
      have h2 := two_succ d
      have h3 := two_pos d
      have hd := hO.hd
      have : d ≠ 3 := fun e => h8 (by rw [h1, e])
      refine ⟨d + 1, by omega, by omega, .inr ⟨by omega, by have := hO.hn; omega, by omega⟩⟩
  obtain ⟨i, hi⟩ : ∃ i, i = lvs n := ⟨_, rfl⟩
  have hfb : fb F (lvs n) = i := by rw [hfull]; exact hi.symm
  rw [← hi] at hfacts h8 hL
  have HY : Hid (∀ (e' : Ending) (w' : World) (v' : Value), e' = .returned (.tuple #[.agg #[v'], .int .i64 (i : Int), .int .i64 0]) → TrR w' v' (2 * 2 ^ d - 1) (addF n F d i ⟨m, e, p⟩) → Below w.heap.size w w' → RAddYes w n F ⟨m, e, p⟩ e' w') :=
    Lib.hid fun e' w' v' h1 h2 h3 => ⟨⟨v', by rw [hfb]; exact h1, by rw [hN, lg_pow hd, hfb]; exact h2⟩, h3⟩
  obtain ⟨T, hT⟩ : ∃ T, T = 2 * 2 ^ d - 1 := ⟨_, rfl⟩
  obtain ⟨N2, hN2⟩ : ∃ N2, N2 = 2 ^ d := ⟨_, rfl⟩
  have hp3 := two_pos d
  have hi8 : i < 8 := by
    have : 2 ^ d ≤ 2 ^ 3 := Nat.pow_le_pow_right (by decide) hd
    rcases hfacts with h | h <;> omega
  have h20 : d = 0 → 2 ^ d = 1 := fun e => by rw [e]
  have hlt : i < N2 := by rcases hfacts with h | h <;> omega
  have HD := Lib.hid (show d ≤ 3 ∧ N2 = 2 ^ d ∧ T = 2 * 2 ^ d - 1 ∧ i < N2 ∧ lvs T = N2 ∧ (Lit.int .i64 m).wf = true ∧ fb F (lvs n) = i from ⟨hd, hN2, hT, hlt, by rw [hT, hN2, ← two_succ]; exact lvs_pow hd, hwf, hfb⟩)
  have hnT : n ≤ T := by rcases hfacts with h | h <;> omega
  have hT1 : 2 * i + 1 ≤ T := by
    rcases hfacts with h | h
    · have := h20 h.2.2; omega
    · omega
  have hT2 : 0 < i → T = 4 * i - 1 := fun h0 => by rcases hfacts with h | h <;> omega
  have hT3 : i = 0 → T = 1 := fun h0 => by
    rcases hfacts with h | h
    · have := h20 h.2.2; omega
    · omega
  have hT15 : T ≤ 15 := by
    have : 2 ^ d ≤ 2 ^ 3 := Nat.pow_le_pow_right (by decide) hd
    omega
  obtain ⟨iv, hiv⟩ : ∃ iv : Int, iv = (i : Int) := ⟨_, rfl⟩
  rw [← hiv] at hL
  have v0 : 0 ≤ iv := by omega
  have v7 : iv ≤ 7 := by omega
  have t8 : decide (8 ≤ iv) = false := decide_eq_false (by omega)
  have HIV := Lib.hid hiv
  clear hz hfull h8 hfr hN hfacts hwf hi hT hN2 hp3 h20 hlt hfb hd hiv
  go_enter Tryz.func26, Tryz.ntmps26
  go_wp2_with (first
    | (go_at_call 15; refine (hC _ HB0.out.bel).mono ?_; rintro e' w1 ⟨rfl, hb1⟩; obtain ⟨d0, d1, d2, d3, d4, d5, d6, d7⟩ := HB0.out.under hb1; have HB1 := Lib.hid (HB0.out.under hb1))
    | (go_at_call 17; refine (hF _ HB1.out.bel).mono ?_; rintro e' w2 ⟨rfl, hb2⟩; obtain ⟨f0, f1, f2, f3, f4, f5, f6, f7⟩ := HB1.out.under hb2; have HB2 := Lib.hid (HB1.out.under hb2)))
  refine (HTW.out _ HB2.out.bel).mono ?_
  rintro e' w3 ⟨⟨v', uv, rfl, hRw⟩, hb3⟩
  obtain ⟨A', c', rfl, -, -⟩ := hRw.slice
  clear hb1 hb2 d0 d1 d2 d3 d4 d5 d6 d7 f0 f1 f2 f3 f4 f5 f6 hC hF HB1 HB0
  have HB3 := Lib.hid (HB2.out.under hb3)
  obtain ⟨W4, hW4⟩ : ∃ W4, W4 = w3.alloc (.cells #[.slice A' n c'] 24) := ⟨_, rfl⟩
  have hX : RX w2.heap.size w3.heap.size n F W4 (.slice A' n c') uv := by
    rw [hW4]
    exact ⟨heap_alloc_new _ _, hRw.below ((Below.refl _ _).alloc (Nat.le_refl _) _), fun q hq => by have := (World.ownsRow.lt hRw.row q hq).2; omega, fun y hy q hq => by have := (World.ownsRow.lt (hRw.un y hy) q hq).2; omega, hb3.size⟩
  have hb4 : Below w3.heap.size w3 W4 := by rw [hW4]; exact (Below.refl _ _).alloc (Nat.le_refl _) _
  have HB4 := Lib.hid (HB3.out.under hb4)
  have HX := Lib.hid hX
  obtain ⟨S, hS⟩ : ∃ S, S = w2.heap.size := ⟨_, rfl⟩
  have hS2 : w.heap.size + 2 < S := by rw [hS]; exact f7
  obtain ⟨g, hg⟩ : ∃ g, g = w3.heap.size := ⟨_, rfl⟩
  have hSg : S ≤ g := by rw [hS, hg]; exact hb3.size
  rw [← hS, ← hg] at HX
  obtain ⟨g0, g1, g2, g3, g4, g5, g6, g7⟩ := HB3.out
  have g8 : w.heap.size < w3.heap.size := by omega
  clear hX hb3 hRw hb4
  go_upto_region 6 with fail
  rw [← hW4, ← hg]
  clear hW4 g0 g1 g2 g3 g4 g5 g6 g7 g8 HB3 hS f7
  have HS := Lib.hid (And.intro hS2 hSg)
  obtain ⟨g0, g1, g2, g3, g4, g5, g6, g7⟩ := HB4.out
  have g8 : w.heap.size < W4.heap.size := by omega
  go_wp2_with fail
  refine (HFR.out W4 HB4.out.bel).mono ?_
  rintro e' w5 ⟨rfl, hb5⟩
  have HB5 := Lib.hid (HB4.out.under hb5)
  have HX5 := Lib.hid (HX.out.under hb5)
  clear g0 g1 g2 g3 g4 g5 g6 g7 g8 hb5 HX HB4 HTW HFR hg hS2 hSg
  obtain ⟨g0, g1, g2, g3, g4, g5, g6, g7⟩ := HB5.out
  have g8 : w.heap.size < w5.heap.size := by omega
  go_wp2_with (go_at_call 47; refine (hL _).mono ?_; rintro e' w6 ⟨rfl, hb6⟩; obtain ⟨k0, k1, k2, k3, k4, k5, k6, k7⟩ := HB5.out.under hb6; have HB6 := Lib.hid (HB5.out.under hb6))
  have HX6 := Lib.hid (HX5.out.under hb6)
  clear g0 g1 g2 g3 g4 g5 g6 g7 g8 hb6 HX5 HB5 k0 k1 k2 k3 k4 k5 k6 k7 hL
  go_loopg [] (T + 1 - n) (fun gg wr => ∃ (k : Nat) (A3 : Option Addr) (c3 : Nat) (uv3 : Nat → Value), n ≤ k ∧ k ≤ T ∧ k + gg = T + 1 ∧ Hid (RX S g k (pad n F) wr (.slice A3 k c3) uv3 ∧ Below S w6 wr))
  case atStart => exact ⟨n, A', c', uv, Nat.le_refl _, hnT, by omega, Lib.hid ⟨HX6.out.congr fun y hy => by unfold pad; rw [if_pos hy], Below.refl _ _⟩⟩
  case round =>
    obtain ⟨k, A3, c3, uv3, hnk, hk, hg2, HK⟩ := hrel
    have hbox := HK.out.1.cell.1
    have hboxf := HK.out.1.cell.2
    have hgl := HK.out.1.lt
    by_cases hkT : k < T
    · by_cases hk1 : k < 2 * i + 1
      · have t5 : decide ((k : Int) < 2 * iv + 1) = true := decide_eq_true (by have := HIV.out; omega)
        have hSl : S ≤ wr.heap.size := by have h1 := HK.out.1.hg; omega
        have HRW := Lib.hid HK.out.1.tr
        have HNL : Hid (OwnI wr S (.slice none 0 0) []) := Lib.hid (World.ownsRow_nil _ _ _ _)
        have HLB : Hid ((∀ q, (Value.slice none 0 0).ownBlock = some q → (Value.slice A3 k c3).ownBlock ≠ some q) ∧ (Value.slice none 0 0).oneCell' = true ∧ (Lit.int .i64 0).wf = true) := Lib.hid ⟨(fun q hq => by cases hq), rfl, by decide⟩
        have HG2 := Lib.hid (And.intro hg2 (And.intro hnk hkT))
        clear hg2
        go_wp2_with (at_builtin; refine pushNd (x := ⟨0, 0, 0, []⟩) rfl _ _ rfl rfl rfl HRW HNL HLB hSl rfl ?c1 ?_)
        case c1 => omega
        intro v2 w9 y1 y2 y3 y4
        obtain ⟨A5, c5, rfl, -, -⟩ := y1.slice
        have hbx : w9.heap[g]? = some (.cells #[.slice A3 k c3] 24 (0, 0)) := (y3.block g hgl (fun e2 => HK.out.1.nv g e2.symm rfl)).trans HK.out.1.box
        have HN : Hid (RX S g (k + 1) (pad n F) (w9.setCell ⟨g, 0, none⟩ (.slice A5 (k + 1) c5)) (.slice A5 (k + 1) c5) (fun z => if z = k then .slice none 0 0 else uv3 z) ∧ Below S w6 (w9.setCell ⟨g, 0, none⟩ (.slice A5 (k + 1) c5))) := Lib.hid (by
          refine ⟨(RX.put hbx HS.out.2 y1 (fun q hq => ?_) (fun y hy q hq => ?_)).congr fun y hy => ?_, (HK.out.2.trans y2).setCell (p := ⟨g, 0, none⟩) HS.out.2 _⟩
          · rcases y4 q hq with h1 | h1
            · exact HK.out.1.nv q h1
            · omega
          · by_cases e2 : y = k
            · simp only [if_pos e2] at hq
              cases hq
            · simp only [if_neg e2] at hq
              exact HK.out.1.nu y (by omega) q hq
          · by_cases e2 : y = k
            · rw [if_pos e2, e2]
              unfold pad
              rw [if_neg (by omega)]
              rfl
            · rw [if_neg e2])
        have c9 : w9.cell? ⟨g, 0, none⟩ = some (.slice A3 k c3) := (cell_of_row w9 g _ _ _ _ hbx).trans rfl
        have f9 : w9.frozen? ⟨g, 0, none⟩ = false := frozen_of_row w9 g _ _ _ hbx
        have l9 : g < w9.heap.size := lt_of_some hbx
        clear y1 y2 y3 y4 hbx HRW HNL HLB hbox hboxf hgl hSl
        go_wp2_with fail
        go_roundg (gk - 1)
        case rel => exact ⟨k + 1, A5, c5, _, by omega, by omega, by have := HG2.out.1; omega, HN⟩
        case measure => have := HG2.out.1; omega
      · have t5 : decide ((k : Int) < 2 * iv + 1) = false := decide_eq_false (by have := HIV.out; omega)
        have t6 : decide (0 < iv) = true := decide_eq_true (by have := HIV.out; omega)
        have t7 : decide ((k : Int) < 4 * iv - 1) = true := decide_eq_true (by have := HIV.out; have := hT2 (by omega); omega)
        have hSl : S ≤ wr.heap.size := by have h1 := HK.out.1.hg; omega
        have HRW := Lib.hid HK.out.1.tr
        have HNL : Hid (OwnI wr S (.slice none 0 0) []) := Lib.hid (World.ownsRow_nil _ _ _ _)
        have HLB : Hid ((∀ q, (Value.slice none 0 0).ownBlock = some q → (Value.slice A3 k c3).ownBlock ≠ some q) ∧ (Value.slice none 0 0).oneCell' = true ∧ (Lit.int .i64 0).wf = true) := Lib.hid ⟨(fun q hq => by cases hq), rfl, by decide⟩
        have HG2 := Lib.hid (And.intro hg2 (And.intro hnk hkT))
        clear hg2
        go_wp2_with (at_builtin; refine pushNd (x := ⟨0, 0, 0, []⟩) rfl _ _ rfl rfl rfl HRW HNL HLB hSl rfl ?c1 ?_)
        case c1 => omega
        intro v2 w9 y1 y2 y3 y4
        obtain ⟨A5, c5, rfl, -, -⟩ := y1.slice
        have hbx : w9.heap[g]? = some (.cells #[.slice A3 k c3] 24 (0, 0)) := (y3.block g hgl (fun e2 => HK.out.1.nv g e2.symm rfl)).trans HK.out.1.box
        have HN : Hid (RX S g (k + 1) (pad n F) (w9.setCell ⟨g, 0, none⟩ (.slice A5 (k + 1) c5)) (.slice A5 (k + 1) c5) (fun z => if z = k then .slice none 0 0 else uv3 z) ∧ Below S w6 (w9.setCell ⟨g, 0, none⟩ (.slice A5 (k + 1) c5))) := Lib.hid (by
          refine ⟨(RX.put hbx HS.out.2 y1 (fun q hq => ?_) (fun y hy q hq => ?_)).congr fun y hy => ?_, (HK.out.2.trans y2).setCell (p := ⟨g, 0, none⟩) HS.out.2 _⟩
          · rcases y4 q hq with h1 | h1
            · exact HK.out.1.nv q h1
            · omega
          · by_cases e2 : y = k
            · simp only [if_pos e2] at hq
              cases hq
            · simp only [if_neg e2] at hq
              exact HK.out.1.nu y (by omega) q hq
          · by_cases e2 : y = k
            · rw [if_pos e2, e2]
              unfold pad
              rw [if_neg (by omega)]
              rfl
            · rw [if_neg e2])
        have c9 : w9.cell? ⟨g, 0, none⟩ = some (.slice A3 k c3) := (cell_of_row w9 g _ _ _ _ hbx).trans rfl
        have f9 : w9.frozen? ⟨g, 0, none⟩ = false := frozen_of_row w9 g _ _ _ hbx
        have l9 : g < w9.heap.size := lt_of_some hbx
        clear y1 y2 y3 y4 hbx HRW HNL HLB hbox hboxf hgl hSl
        go_wp2_with fail
        go_roundg (gk - 1)
        case rel => exact ⟨k + 1, A5, c5, _, by omega, by omega, by have := HG2.out.1; omega, HN⟩
        case measure => have := HG2.out.1; omega
    · obtain rfl : T = k := by omega
      have t5 : decide ((T : Int) < 2 * iv + 1) = false := decide_eq_false (by have := HIV.out; omega)
      by_cases hi0 : i = 0
      · have t6 : decide (0 < iv) = false := decide_eq_false (by have := HIV.out; omega)
        clear hi0
        have HBT : Hid (AddB w (.slice A n c) m e p wr) := Lib.hid (HB6.out.under2 HK.out.2 HS.out.1)
        have HXT : Hid (RX S g T (pad n F) wr (.slice A3 T c3) uv3) := Lib.hid HK.out.1
        obtain ⟨wt, hwt⟩ : ∃ wt, wt = wr := ⟨_, rfl⟩
        obtain ⟨A', hA'⟩ : ∃ A', A' = A3 := ⟨_, rfl⟩
        obtain ⟨c', hc'⟩ : ∃ c', c' = c3 := ⟨_, rfl⟩
        subst hwt hA' hc'
        clear hg2 hnk hk hkT
        go_upto_region 14 with fail
        have hiv := HIV.out
        subst hiv
        clear t8 t5 t6 hT1 hT2 hT3 hnT v0 v7 HIV HK hbox hboxf hgl
        obtain ⟨hd, hN2, hNT, hat, hlT, hwf, hfin⟩ := HD.out
        have hX := HXT.out
        have h2d := two_succ d
        have h2p := two_pos d
        have hiT : 2 * i < T := by omega
        have hi8 : i < 8 := by
          have : 2 ^ d ≤ 2 ^ 3 := Nat.pow_le_pow_right (by decide) hd
          omega
        obtain ⟨b, cb, cur, e9, hcur, hSb, hbl, hbg, hfit, hcc, hcm⟩ := hX.slice (by omega)
        injection e9 with e1 _ e3
        subst e1 e3
        have hX1 := hX.node hcur hiT ⟨p, m, e, []⟩ rfl hwf
        obtain ⟨W6, hW6⟩ : ∃ W6, W6 = wt.setRow b (Bk.over cur (2 * i * 4) #[.int .i64 p, .int .i64 m, .int .i64 e, .slice none 0 0]) := ⟨_, rfl⟩
        have hb6 : Below S wt W6 := by rw [hW6]; exact Bk.below_setRow (Below.refl _ _) hSb
        have HB6 := Lib.hid (HBT.out.under2 hb6 HS.out.1)
        have hX2 : RX S g T (addK n F d i ⟨m, e, p⟩ 0) W6 (.slice (some ⟨b, 0, none⟩) T c') (fun z => if z = 2 * i then .slice none 0 0 else uv3 z) := by
          rw [hW6]
          refine hX1.congr fun y hy => ?_
          unfold addK
          by_cases e1 : y = 2 * i
          · simp [e1]
          · simp [e1]
        have HX2 := Lib.hid hX2
        have HCUR := Lib.hid hcur
        have HFIT : Hid (2 * i * 4 + 4 ≤ cur.size) := Lib.hid (by omega)
        have hbox := hX.cell.1
        have hgl := hX.lt
        obtain ⟨g0, g1, g2, g3, g4, g5, g6, g7⟩ := HBT.out
        have g9 : w.heap.size + 1 < wt.heap.size := by omega
        have m1 : (0 : Int) ≤ 2 * (i : Int) := by omega
        have m2 : 2 * (i : Int) < (T : Int) := by omega
        have HF := Lib.hid (And.intro hSb (And.intro hbl (And.intro hbg hb6)))
        clear hX hX1 hX2 hcur hSb hbg hfit hcc hcm HXT hb6 hiT h2d h2p hd hN2 hNT hat hlT hwf hfin
        go_upto_region 15 with (with_reducible refine wpList_store_part rfl 95 _ _ rfl rfl b (2 * i * 4) 4 rfl 95 cur _ rfl HCUR.out cells95x rfl HFIT.out (by simp [Value.oneCell']) ?_)
        rw [← hW6]
        clear hW6 hbox hgl g0 g1 g2 g3 g4 g5 g6 g7 g9
        have hbox := HX2.out.cell.1
        have hgl := HX2.out.lt
        go_wp2_with fail
        refine (rleaves _ T c' W6).mono ?_
        rintro e' w7 ⟨rfl, hb7⟩
        rw [HD.out.2.2.2.2.1]
        have hp7 : 0 < w7.heap.size := by have := hb7.size; omega
        have HX7 := Lib.hid (HX2.out.under hb7)
        have HB7 := Lib.hid (HB6.out.under hb7)
        have HL7 : Hid (b < w7.heap.size) := Lib.hid (by have h1 := hb7.size; have h2 := HF.out.2.2.2.size; have h3 := HF.out.2.1; omega)
        clear hb7 hbox hgl HX2 HB6 m1 m2
        go_wp2_with fail
        refine (rdirect d i N2 HD.out.1 HD.out.2.1 HD.out.2.2.2.1 w7 hp7).mono ?_
        rintro e' w8 ⟨vd, rfl, hvd, hb8⟩
        obtain ⟨Ad, cd, rfl⟩ := hvd.slice
        have hdl : (natL (dirs d i)).length = d := by unfold natL; rw [List.length_map, dirs_length]
        rw [hdl] at hvd ⊢
        have HVD := Lib.hid hvd
        have HX8 := Lib.hid (HX7.out.under hb8)
        have HB8 := Lib.hid (HB7.out.under hb8)
        have hs8 := hb8.size
        have HL8 : Hid (S ≤ w8.heap.size) := Lib.hid (by have h1 := HF.out.1; have h2 := HL7.out; omega)
        clear hvd hb8 hdl HX7 HB7 hp7
        go_wp2_with fail
        go_loopg [11] (d + 1) (fun gg v11 wr => ∃ (k : Nat) (uv : Nat → Value), k ≤ d ∧ k + gg = d + 1 ∧ v11 = .int .i64 (k : Int) ∧ Hid (RX S g T (addK n F d i ⟨m, e, p⟩ k) wr (.slice (some ⟨b, 0, none⟩) T c') uv ∧ Bk.Chg (fun q => q = b) w8 wr))
        case atStart => exact ⟨0, _, by omega, by omega, rfl, Lib.hid ⟨HX8.out, Bk.Chg.refl _ _⟩⟩
        case round =>
          obtain ⟨k, uv', hk, hg2, rfl, HK⟩ := hrel
          have HG2 := Lib.hid (And.intro hg2 hk)
          have hbox := HK.out.1.cell.1
          have hgl := HK.out.1.lt
          clear hg2
          by_cases hlt2 : k < d
          · obtain ⟨hd, hN2, hNT, hat, hlT, hwf, hfin⟩ := HD.out
            obtain ⟨x, hx, hxn, hxo, hxt, htk⟩ := dirs_at hd (show i < 2 ^ d by omega) hlt2
            have hxN : x < T := by have := two_succ d; omega
            have hk3 : k < 4 := by omega
            obtain ⟨bd, od, rfl, cd0⟩ := HVD.out.ints.at (natL_get hx)
            have hbd1 := (World.ownsRow.lt HVD.out bd rfl).1
            have hbd2 := (World.ownsRow.lt HVD.out bd rfl).2
            have hbdb : ¬ bd = b := fun e => by have := HL7.out; omega
            have cdk : wr.cell? ⟨bd, od + k, none⟩ = some (.int .i64 x) := (World.cell?_of_block (a := ⟨bd, od + k, none⟩) (HK.out.2.block bd hbd2 hbdb)).trans cd0
            have hbdr : bd < wr.heap.size := World.block_lt_of_cell? _ _ cdk
            obtain ⟨b', c', e1, hbr, -, x0, -, -, x3, xf⟩ := HK.out.1.tr.cells hxN
            injection e1 with e1 _ e3
            injection e1 with e1
            injection e1 with e1
            subst e1 e3
            have hx2i : x ≠ 2 * i := by omega
            have hGx : addK n F d i ⟨m, e, p⟩ k x = pad n F x := by
              unfold addK
              rw [if_neg hx2i, if_neg (fun h => hxt h.1)]
            have hown := HK.out.1.tr.un x hxN
            rw [hGx] at x0 hown
            obtain ⟨Ax, cx, hux⟩ := hown.slice
            rw [hux] at x3 hown
            have xf3 := xf (x * 4 + 3)
            have j1 : (0 : Int) ≤ (k : Int) := by omega
            have j2 : (k : Int) < (d : Int) := by omega
            have j4 : (0 : Int) ≤ (x : Int) := by omega
            have j5 : (x : Int) < (T : Int) := by omega
            have hadd : ∀ y, addK n F d i ⟨m, e, p⟩ (k + 1) y = if y = x ∧ 0 < (pad n F x).pub then { pad n F x with un := ins i (pad n F x).un } else addK n F d i ⟨m, e, p⟩ k y := fun y => by
              unfold addK
              rw [htk]
              by_cases e2 : y = x
              · subst e2
                by_cases hpp : 0 < (pad n F y).pub
                · simp [hpp, hx2i]
                · simp [hpp]
              · simp [e2]
            have HX := Lib.hid (And.intro hxN (And.intro hGx (And.intro hadd hlt2)))
            have HOWN := Lib.hid hown
            obtain ⟨hl8, hsrt, hnin, hpos⟩ := HPAD.out
            have hl8 := hl8 x
            have hsrt := hsrt x
            have hnin := hnin x
            have hpos := hpos x
            rw [hfin] at hnin
            have HSR := Lib.hid (And.intro hsrt hnin)
            generalize hpp : pad n F x = nx at *
            obtain ⟨px, mx, ex, ux⟩ := nx
            simp only at x0 x3 hl8 hsrt hnin hpos
            have HNX := Lib.hid hpp
            have HOWN : Hid (OwnI wr S (.slice Ax ux.length cx) ux) := HOWN
            have HSR : Hid (ux.Pairwise (· < ·) ∧ (i : Int) ∉ ux) := HSR
            clear hx hxt htk hx2i hGx hown hux cd0 xf hadd hsrt hnin hpp hbdb hbd1 hbd2 hd hN2 hNT hat hlT hwf hfin
            by_cases hpx : px = 0
            · have t7 : (px != 0) = false := by rw [hpx]; rfl
              have HPX := Lib.hid hpx
              clear hpx
              go_wp2_with fail
              go_quiet (fail)
              go_wp2_with fail
              go_roundg (gk - 1)
              case rel =>
                refine ⟨k + 1, uv', by have := HX.out.2.2.2; omega, step_gg HG2.out.1 HX.out.2.2.2, (by first | rfl | go_num), Lib.hid ⟨((HK.out.1.under (Below.quiet (Below.refl _ _) _))).congr fun y hy => ?_, HK.out.2.trans (Bk.Chg.of_below (Below.quiet (Below.refl _ _) _))⟩⟩
                rw [HX.out.2.2.1, if_neg (fun h => absurd (show 0 < px from h.2) (by rw [HPX.out]; exact Int.lt_irrefl 0))]
              case measure => exact meas_gg HG2.out.1 HG2.out.2
            · have t7 : (px != 0) = true := by rw [bne_iff_ne]; exact hpx
              have HPX : Hid (0 < px) := Lib.hid (by omega)
              have hris := fun nd : Nat => rising _ _ (i : Int) (wr.drewN nd) (HOWN.out.ints.below (Below.quiet (Below.refl _ _) nd)) HSR.out.1 HSR.out.2 (by omega)
              have HKQ := Lib.hid (fun nd : Nat => And.intro (HK.out.1.under (Below.quiet (Below.refl _ _) nd)) (And.intro (Below.quiet (Below.refl wr.heap.size wr) nd) (show S ≤ (wr.drewN nd).heap.size from by have h1 := HF.out.1; show S ≤ wr.heap.size; omega)))
              clear hpx hpos
              go_wp2_with fail
              go_quiet (fail)
              go_wp2_with fail
              refine (hris _).mono ?_
              rintro e' w9 ⟨u', rfl, hu, hb9⟩
              obtain ⟨Au, cu, rfl⟩ := hu.slice
              obtain ⟨b', c', e1, hb9l, -, -, -, -, z3, zf⟩ := ((HKQ.out _).1.under hb9).tr.cells HX.out.1
              injection e1 with e1 _ e3
              injection e1 with e1
              injection e1 with e1
              subst e1 e3
              have zf3 := zf (x * 4 + 3)
              have HU := Lib.hid (And.intro hu hb9)
              generalize (ins (i : Int) ux).length = ul at *
              clear hris hu hb9 zf x0 x3 cdk hbox xf3
              go_wp2_with fail
              go_roundg (gk - 1)
              case rel =>
                refine ⟨k + 1, _, by have := HX.out.2.2.2; omega, step_gg HG2.out.1 HX.out.2.2.2, (by first | rfl | go_num), Lib.hid ⟨((HKQ.out _).1.un (B2 := 0) HU.out.2 HX.out.1 _ _ HU.out.1 (HKQ.out _).2.2).congr fun y hy => ?_, HK.out.2.trans ((Bk.Chg.of_below (HKQ.out _).2.1).trans ((Bk.Chg.of_below HU.out.2).trans (Bk.Chg.setCell w9 ⟨b, x * 4 + 3, none⟩ _ rfl)))⟩⟩
                rw [HX.out.2.2.1]
                by_cases e2 : y = x
                · rw [if_pos e2, if_pos ⟨e2, HPX.out⟩, HX.out.2.1]
                · rw [if_neg e2, if_neg (fun h => e2 h.1)]
              case measure => exact meas_gg HG2.out.1 HG2.out.2
          · obtain rfl : k = d := by omega
            have hKd := HK.out.1
            have hbw : Below S w8 wr := HK.out.2.below HL8.out (fun q _ e2 => by rw [e2]; exact HF.out.1)
            have HBr := Lib.hid (HB8.out.under2 hbw HS.out.1)
            obtain ⟨q0, q1, q2, q3, q4, q5, q6, q7⟩ := HBr.out
            have q8 := HBr.out.stored
            have hTr : TrR (wr.setCell ⟨w.heap.size + 2, 0, none⟩ (.slice (some ⟨b, 0, none⟩) T c')) (.slice (some ⟨b, 0, none⟩) T c') T (addK n F k i ⟨m, e, p⟩ k) :=
              (hKd.tr.grown (grown_setCell _ ⟨w.heap.size + 2, 0, none⟩ _) (fun e2 => by have := (World.ownsRow.lt hKd.tr.row _ e2).1; have := HS.out.1; simp only at *; omega) (fun y hy e2 => by have := (World.ownsRow.lt (hKd.tr.un y hy) _ e2).1; have := HS.out.1; simp only at *; omega)).trR
            have HTR := Lib.hid hTr
            clear hKd hbw hTr hlt2 hk
            go_wp2_with fail
            refine bodyPost_ret (by simp [results, Tryz.results26, go_sem, q8]; rfl) rfl ?_
            refine HY.out _ _ _ rfl ?_ (q0.setCell (by show w.heap.size ≤ w.heap.size + 2; omega) _)
            rw [← addK_full, ← HD.out.2.2.1]
            exact HTR.out
      · have t6 : decide (0 < iv) = true := decide_eq_true (by have := HIV.out; omega)
        have t7 : decide ((T : Int) < 4 * iv - 1) = false := decide_eq_false (by have := HIV.out; have := hT2 (by omega); omega)
        clear hi0
        have HBT : Hid (AddB w (.slice A n c) m e p wr) := Lib.hid (HB6.out.under2 HK.out.2 HS.out.1)
        have HXT : Hid (RX S g T (pad n F) wr (.slice A3 T c3) uv3) := Lib.hid HK.out.1
        obtain ⟨wt, hwt⟩ : ∃ wt, wt = wr := ⟨_, rfl⟩
        obtain ⟨A', hA'⟩ : ∃ A', A' = A3 := ⟨_, rfl⟩
        obtain ⟨c', hc'⟩ : ∃ c', c' = c3 := ⟨_, rfl⟩
        subst hwt hA' hc'
        clear hg2 hnk hk hkT
        go_upto_region 14 with fail
        have hiv := HIV.out
        subst hiv
        clear t8 t5 t6 hT1 hT2 hT3 hnT v0 v7 HIV HK hbox hboxf hgl
        obtain ⟨hd, hN2, hNT, hat, hlT, hwf, hfin⟩ := HD.out
        have hX := HXT.out
        have h2d := two_succ d
        have h2p := two_pos d
        have hiT : 2 * i < T := by omega
        have hi8 : i < 8 := by
          have : 2 ^ d ≤ 2 ^ 3 := Nat.pow_le_pow_right (by decide) hd
          omega
        obtain ⟨b, cb, cur, e9, hcur, hSb, hbl, hbg, hfit, hcc, hcm⟩ := hX.slice (by omega)
        injection e9 with e1 _ e3
        subst e1 e3
        have hX1 := hX.node hcur hiT ⟨p, m, e, []⟩ rfl hwf
        obtain ⟨W6, hW6⟩ : ∃ W6, W6 = wt.setRow b (Bk.over cur (2 * i * 4) #[.int .i64 p, .int .i64 m, .int .i64 e, .slice none 0 0]) := ⟨_, rfl⟩
        have hb6 : Below S wt W6 := by rw [hW6]; exact Bk.below_setRow (Below.refl _ _) hSb
        have HB6 := Lib.hid (HBT.out.under2 hb6 HS.out.1)
        have hX2 : RX S g T (addK n F d i ⟨m, e, p⟩ 0) W6 (.slice (some ⟨b, 0, none⟩) T c') (fun z => if z = 2 * i then .slice none 0 0 else uv3 z) := by
          rw [hW6]
          refine hX1.congr fun y hy => ?_
          unfold addK
          by_cases e1 : y = 2 * i
          · simp [e1]
          · simp [e1]
        have HX2 := Lib.hid hX2
        have HCUR := Lib.hid hcur
        have HFIT : Hid (2 * i * 4 + 4 ≤ cur.size) := Lib.hid (by omega)
        have hbox := hX.cell.1
        have hgl := hX.lt
        obtain ⟨g0, g1, g2, g3, g4, g5, g6, g7⟩ := HBT.out
        have g9 : w.heap.size + 1 < wt.heap.size := by omega
        have m1 : (0 : Int) ≤ 2 * (i : Int) := by omega
        have m2 : 2 * (i : Int) < (T : Int) := by omega
        have HF := Lib.hid (And.intro hSb (And.intro hbl (And.intro hbg hb6)))
        clear hX hX1 hX2 hcur hSb hbg hfit hcc hcm HXT hb6 hiT h2d h2p hd hN2 hNT hat hlT hwf hfin
        go_upto_region 15 with (with_reducible refine wpList_store_part rfl 95 _ _ rfl rfl b (2 * i * 4) 4 rfl 95 cur _ rfl HCUR.out cells95x rfl HFIT.out (by simp [Value.oneCell']) ?_)
        rw [← hW6]
        clear hW6 hbox hgl g0 g1 g2 g3 g4 g5 g6 g7 g9
        have hbox := HX2.out.cell.1
        have hgl := HX2.out.lt
        go_wp2_with fail
        refine (rleaves _ T c' W6).mono ?_
        rintro e' w7 ⟨rfl, hb7⟩
        rw [HD.out.2.2.2.2.1]
        have hp7 : 0 < w7.heap.size := by have := hb7.size; omega
        have HX7 := Lib.hid (HX2.out.under hb7)
        have HB7 := Lib.hid (HB6.out.under hb7)
        have HL7 : Hid (b < w7.heap.size) := Lib.hid (by have h1 := hb7.size; have h2 := HF.out.2.2.2.size; have h3 := HF.out.2.1; omega)
        clear hb7 hbox hgl HX2 HB6 m1 m2
        go_wp2_with fail
        refine (rdirect d i N2 HD.out.1 HD.out.2.1 HD.out.2.2.2.1 w7 hp7).mono ?_
        rintro e' w8 ⟨vd, rfl, hvd, hb8⟩
        obtain ⟨Ad, cd, rfl⟩ := hvd.slice
        have hdl : (natL (dirs d i)).length = d := by unfold natL; rw [List.length_map, dirs_length]
        rw [hdl] at hvd ⊢
        have HVD := Lib.hid hvd
        have HX8 := Lib.hid (HX7.out.under hb8)
        have HB8 := Lib.hid (HB7.out.under hb8)
        have hs8 := hb8.size
        have HL8 : Hid (S ≤ w8.heap.size) := Lib.hid (by have h1 := HF.out.1; have h2 := HL7.out; omega)
        clear hvd hb8 hdl HX7 HB7 hp7
        go_wp2_with fail
        go_loopg [11] (d + 1) (fun gg v11 wr => ∃ (k : Nat) (uv : Nat → Value), k ≤ d ∧ k + gg = d + 1 ∧ v11 = .int .i64 (k : Int) ∧ Hid (RX S g T (addK n F d i ⟨m, e, p⟩ k) wr (.slice (some ⟨b, 0, none⟩) T c') uv ∧ Bk.Chg (fun q => q = b) w8 wr))
        case atStart => exact ⟨0, _, by omega, by omega, rfl, Lib.hid ⟨HX8.out, Bk.Chg.refl _ _⟩⟩
        case round =>
          obtain ⟨k, uv', hk, hg2, rfl, HK⟩ := hrel
          have HG2 := Lib.hid (And.intro hg2 hk)
          have hbox := HK.out.1.cell.1
          have hgl := HK.out.1.lt
          clear hg2
          by_cases hlt2 : k < d
          · obtain ⟨hd, hN2, hNT, hat, hlT, hwf, hfin⟩ := HD.out
            obtain ⟨x, hx, hxn, hxo, hxt, htk⟩ := dirs_at hd (show i < 2 ^ d by omega) hlt2
            have hxN : x < T := by have := two_succ d; omega
            have hk3 : k < 4 := by omega
            obtain ⟨bd, od, rfl, cd0⟩ := HVD.out.ints.at (natL_get hx)
            have hbd1 := (World.ownsRow.lt HVD.out bd rfl).1
            have hbd2 := (World.ownsRow.lt HVD.out bd rfl).2
            have hbdb : ¬ bd = b := fun e => by have := HL7.out; omega
            have cdk : wr.cell? ⟨bd, od + k, none⟩ = some (.int .i64 x) := (World.cell?_of_block (a := ⟨bd, od + k, none⟩) (HK.out.2.block bd hbd2 hbdb)).trans cd0
            have hbdr : bd < wr.heap.size := World.block_lt_of_cell? _ _ cdk
            obtain ⟨b', c', e1, hbr, -, x0, -, -, x3, xf⟩ := HK.out.1.tr.cells hxN
            injection e1 with e1 _ e3
            injection e1 with e1
            injection e1 with e1
            subst e1 e3
            have hx2i : x ≠ 2 * i := by omega
            have hGx : addK n F d i ⟨m, e, p⟩ k x = pad n F x := by
              unfold addK
              rw [if_neg hx2i, if_neg (fun h => hxt h.1)]
            have hown := HK.out.1.tr.un x hxN
            rw [hGx] at x0 hown
            obtain ⟨Ax, cx, hux⟩ := hown.slice
            rw [hux] at x3 hown
            have xf3 := xf (x * 4 + 3)
            have j1 : (0 : Int) ≤ (k : Int) := by omega
            have j2 : (k : Int) < (d : Int) := by omega
            have j4 : (0 : Int) ≤ (x : Int) := by omega
            have j5 : (x : Int) < (T : Int) := by omega
            have hadd : ∀ y, addK n F d i ⟨m, e, p⟩ (k + 1) y = if y = x ∧ 0 < (pad n F x).pub then { pad n F x with un := ins i (pad n F x).un } else addK n F d i ⟨m, e, p⟩ k y := fun y => by
              unfold addK
              rw [htk]
              by_cases e2 : y = x
              · subst e2
                by_cases hpp : 0 < (pad n F y).pub
                · simp [hpp, hx2i]
                · simp [hpp]
              · simp [e2]
            have HX := Lib.hid (And.intro hxN (And.intro hGx (And.intro hadd hlt2)))
            have HOWN := Lib.hid hown
            obtain ⟨hl8, hsrt, hnin, hpos⟩ := HPAD.out
            have hl8 := hl8 x
            have hsrt := hsrt x
            have hnin := hnin x
            have hpos := hpos x
            rw [hfin] at hnin
            have HSR := Lib.hid (And.intro hsrt hnin)
            generalize hpp : pad n F x = nx at *
            obtain ⟨px, mx, ex, ux⟩ := nx
            simp only at x0 x3 hl8 hsrt hnin hpos
            have HNX := Lib.hid hpp
            have HOWN : Hid (OwnI wr S (.slice Ax ux.length cx) ux) := HOWN
            have HSR : Hid (ux.Pairwise (· < ·) ∧ (i : Int) ∉ ux) := HSR
            clear hx hxt htk hx2i hGx hown hux cd0 xf hadd hsrt hnin hpp hbdb hbd1 hbd2 hd hN2 hNT hat hlT hwf hfin
            by_cases hpx : px = 0
            · have t7 : (px != 0) = false := by rw [hpx]; rfl
              have HPX := Lib.hid hpx
              clear hpx
              go_wp2_with fail
              go_quiet (fail)
              go_wp2_with fail
              go_roundg (gk - 1)
              case rel =>
                refine ⟨k + 1, uv', by have := HX.out.2.2.2; omega, step_gg HG2.out.1 HX.out.2.2.2, (by first | rfl | go_num), Lib.hid ⟨((HK.out.1.under (Below.quiet (Below.refl _ _) _))).congr fun y hy => ?_, HK.out.2.trans (Bk.Chg.of_below (Below.quiet (Below.refl _ _) _))⟩⟩
                rw [HX.out.2.2.1, if_neg (fun h => absurd (show 0 < px from h.2) (by rw [HPX.out]; exact Int.lt_irrefl 0))]
              case measure => exact meas_gg HG2.out.1 HG2.out.2
            · have t7 : (px != 0) = true := by rw [bne_iff_ne]; exact hpx
              have HPX : Hid (0 < px) := Lib.hid (by omega)
              have hris := fun nd : Nat => rising _ _ (i : Int) (wr.drewN nd) (HOWN.out.ints.below (Below.quiet (Below.refl _ _) nd)) HSR.out.1 HSR.out.2 (by omega)
              have HKQ := Lib.hid (fun nd : Nat => And.intro (HK.out.1.under (Below.quiet (Below.refl _ _) nd)) (And.intro (Below.quiet (Below.refl wr.heap.size wr) nd) (show S ≤ (wr.drewN nd).heap.size from by have h1 := HF.out.1; show S ≤ wr.heap.size; omega)))
              clear hpx hpos
              go_wp2_with fail
              go_quiet (fail)
              go_wp2_with fail
              refine (hris _).mono ?_
              rintro e' w9 ⟨u', rfl, hu, hb9⟩
              obtain ⟨Au, cu, rfl⟩ := hu.slice
              obtain ⟨b', c', e1, hb9l, -, -, -, -, z3, zf⟩ := ((HKQ.out _).1.under hb9).tr.cells HX.out.1
              injection e1 with e1 _ e3
              injection e1 with e1
              injection e1 with e1
              subst e1 e3
              have zf3 := zf (x * 4 + 3)
              have HU := Lib.hid (And.intro hu hb9)
              generalize (ins (i : Int) ux).length = ul at *
              clear hris hu hb9 zf x0 x3 cdk hbox xf3
              go_wp2_with fail
              go_roundg (gk - 1)
              case rel =>
                refine ⟨k + 1, _, by have := HX.out.2.2.2; omega, step_gg HG2.out.1 HX.out.2.2.2, (by first | rfl | go_num), Lib.hid ⟨((HKQ.out _).1.un (B2 := 0) HU.out.2 HX.out.1 _ _ HU.out.1 (HKQ.out _).2.2).congr fun y hy => ?_, HK.out.2.trans ((Bk.Chg.of_below (HKQ.out _).2.1).trans ((Bk.Chg.of_below HU.out.2).trans (Bk.Chg.setCell w9 ⟨b, x * 4 + 3, none⟩ _ rfl)))⟩⟩
                rw [HX.out.2.2.1]
                by_cases e2 : y = x
                · rw [if_pos e2, if_pos ⟨e2, HPX.out⟩, HX.out.2.1]
                · rw [if_neg e2, if_neg (fun h => e2 h.1)]
              case measure => exact meas_gg HG2.out.1 HG2.out.2
          · obtain rfl : k = d := by omega
            have hKd := HK.out.1
            have hbw : Below S w8 wr := HK.out.2.below HL8.out (fun q _ e2 => by rw [e2]; exact HF.out.1)
            have HBr := Lib.hid (HB8.out.under2 hbw HS.out.1)
            obtain ⟨q0, q1, q2, q3, q4, q5, q6, q7⟩ := HBr.out
            have q8 := HBr.out.stored
            have hTr : TrR (wr.setCell ⟨w.heap.size + 2, 0, none⟩ (.slice (some ⟨b, 0, none⟩) T c')) (.slice (some ⟨b, 0, none⟩) T c') T (addK n F k i ⟨m, e, p⟩ k) :=
              (hKd.tr.grown (grown_setCell _ ⟨w.heap.size + 2, 0, none⟩ _) (fun e2 => by have := (World.ownsRow.lt hKd.tr.row _ e2).1; have := HS.out.1; simp only at *; omega) (fun y hy e2 => by have := (World.ownsRow.lt (hKd.tr.un y hy) _ e2).1; have := HS.out.1; simp only at *; omega)).trR
            have HTR := Lib.hid hTr
            clear hKd hbw hTr hlt2 hk
            go_wp2_with fail
            refine bodyPost_ret (by simp [results, Tryz.results26, go_sem, q8]; rfl) rfl ?_
            refine HY.out _ _ _ rfl ?_ (q0.setCell (by show w.heap.size ≤ w.heap.size + 2; omega) _)
            rw [← addK_full, ← HD.out.2.2.1]
            exact HTR.out
end Go.Proofs.YtnahhclflnjmcaaGreatDoor
