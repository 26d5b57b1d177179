/- TreeStays: the walk. -/
import Derived.Test.YtopkanokpfhmmaaDoorVL
namespace Go.Proofs.YtopkanokpfhmmaaDoor
open Go Go.RowKit
set_option linter.unusedVariables false
set_option linter.unusedSimpArgs false

theorem sameB_self (l : List Int) : sameB l l = true := by simp [sameB]
theorem memL_le8 {n : Nat} {F : Nat → Node} (h : chk n F = true) : (memL F (sizeM n F)).length ≤ 8 := by
  have h1 := memL_length F (sizeM n F)
  rcases chk_iff.1 h with rfl | ⟨d, hO⟩
  · have : sizeM 0 F = 0 := rfl
    omega
  · have := sizeM_ok hO
    have := pow3 hO.hd
    omega
theorem chk_small {n : Nat} {F : Nat → Node} (h : chk n F = true) : n ≤ 15 := (chk_len h).1
set_option maxHeartbeats 4000000 in
set_option maxRecDepth 100000 in
theorem stays (v : Value) (n : Nat) (F : Nat → Node) (a : Addx) (m leaf : Int) (w : World) (hT : Tab w) (hR : TrR w v n F) (hwf : (Lit.int .i64 a.mem).wf = true) (hw1 : (Lit.int .i64 m).wf = true) (hw2 : (Lit.int .i64 leaf).wf = true) :
    Calls Tryd.prog 3 #[.agg #[v], a.v, .int .i64 m, .int .i64 leaf] w fun e w' => e = .returned (.bool true) ∧ Below w.heap.size w w' := by
  have hpos := hT.pos
  have HT := Lib.hid hT
  have HR := Lib.hid hR
  have HWF := Lib.hid hwf
  clear hwf hw1 hw2
  obtain ⟨A, c, rfl, -, -, -⟩ := id hR
  obtain ⟨am, ae, ap⟩ := a
  clear hR
  show Calls Tryd.prog 3 #[.agg #[.slice A n c], .agg #[.int .i64 am, .int .i64 ae, .int .i64 ap], .int .i64 m, .int .i64 leaf] w _
  go_enter Tryd.func3, Tryd.ntmps3
  go_wp2_with fail
  obtain ⟨W0, hW0⟩ : ∃ W0, W0 = ((w.alloc (.cells #[.slice A n c] 24)).alloc (.cells #[.int .i64 am, .int .i64 ae, .int .i64 ap] 26)) := ⟨_, rfl⟩
  have hB0 : FB w (.slice A n c) am ae ap W0 := by rw [hW0]; exact FB.start ..
  rw [← hW0]
  refine (size9 (.slice A n c) n F W0 (HR.out.below hB0.bel)).mono ?_
  rintro e w1 ⟨s, rfl, hs, hb1⟩
  have hB1 := hB0.under hb1
  have HS := Lib.hid hs
  clear hW0 hB0 hs hb1
  go_wp2_with fail
  refine (beyond8 w1.heap.size 0 s _ (cell_one_new w1 (.int .i64 s) 3 0 _ rfl)).mono ?_
  rintro e w2 ⟨rfl, rfl⟩
  obtain ⟨W2, hW2⟩ : ∃ W2, W2 = w1.alloc (.cells #[.int .i64 s] 3) := ⟨_, rfl⟩
  have hB2 : FB w (.slice A n c) am ae ap W2 := by rw [hW2]; exact hB1.under ((Below.refl _ _).alloc (Nat.le_refl _) _)
  have HB2 := Lib.hid hB2
  rw [← hW2]
  clear hW2 hB1
  cases hbd : (decide (s < 0) || decide (262144 < s)) with
  | true =>
    clear HS hbd hB2
    go_wp2_with fail
    refine (alive11 _ (HT.out.below hpos HB2.out.bel)).mono ?_
    rintro e w3 ⟨rfl, hb3⟩
    have hB3 := (HB2.out.under hb3).bel
    go_wp2_with fail
    go_ret
    exact ⟨rfl, hB3⟩
  | false =>
    have hn : n ≤ 262144 := HS.out (by simp at hbd; omega)
    clear HS hbd
    have k0 := hB2.c0
    clear hB2
    go_wp2_with fail
    refine (check10 (.slice A n c) n F W2 (HT.out.below hpos HB2.out.bel) (HR.out.below HB2.out.bel) (by omega)).mono ?_
    rintro e w3 ⟨rfl, hb3⟩
    have HB3 := Lib.hid (HB2.out.under hb3)
    have k3 := HB3.out.c0
    clear hb3 k0 HB2
    cases hz : chk n F with
    | false =>
      rw [errB_false]
      clear hz
      go_wp2_with fail
      refine (alive11 _ (HT.out.below hpos HB3.out.bel)).mono ?_
      rintro e w4 ⟨rfl, hb4⟩
      have hB4 := (HB3.out.under hb4).bel
      go_wp2_with fail
      go_ret
      exact ⟨rfl, hB4⟩
    | true =>
      rw [errB_true]
      have HZ := Lib.hid hz
      have hn15 := chk_small hz
      have hw8 := memL_le8 hz
      clear hz
      go_wp2_with fail
      refine (members12 (.slice A n c) n F w3 (HT.out.below hpos HB3.out.bel) (HR.out.below HB3.out.bel) hn).mono ?_
      rintro e w4 ⟨v4, rfl, ho4, hb4⟩
      obtain ⟨A9, c9, rfl⟩ := ho4.slice
      have HW := Lib.hid ho4
      have HB4 := Lib.hid (HB3.out.under hb4)
      obtain ⟨-, k4, k41, k42, k43, kl4⟩ := HB3.out.under hb4
      obtain ⟨was, hwas⟩ : ∃ was, was = memL F (sizeM n F) := ⟨_, rfl⟩
      rw [← hwas] at HW hw8 ⊢
      have HWAS := Lib.hid hwas
      generalize hwl : was.length = wl at *
      have HWL := Lib.hid hwl
      clear ho4 hb4 k3 HB3 hwas hwl
      go_wp2_with fail
      refine (add_any (.slice A n c) n F ⟨am, ae, ap⟩ w4 (HT.out.below hpos HB4.out.bel) (HR.out.below HB4.out.bel) hn HWF.out).mono ?_
      rintro e w5 ⟨A5, n5, c5, p5, er5, G5, rfl, hR5, hb5, hA5⟩
      have hF5 := HB4.out.under hb5
      have hb45 : Below w4.heap.size w4 (w5.alloc (.cells #[.slice A5 n5 c5] 24)) := hb5.alloc hb5.size _
      have HF5 := Lib.hid hF5
      have HR5 := Lib.hid (hR5.alloc (.cells #[.slice A5 n5 c5] 24))
      have HA5 := Lib.hid hA5
      have HB45 := Lib.hid hb45
      have HF45 := Lib.hid hb5
      clear hb5 hF5 hR5 hA5 k4 k41 k42 k43 kl4 hb45
      go_upto_if 41 with fail
      obtain ⟨W5, hW5⟩ : ∃ W5, W5 = w5.alloc (.cells #[.slice A5 n5 c5] 24) := ⟨_, rfl⟩
      have hS5 : SB w (.slice A n c) am ae ap w5.heap.size (.slice A5 n5 c5) W5 := by rw [hW5]; exact SB.start HF5.out _
      rw [← hW5] at HR5 HB45 ⊢
      have HS5 := Lib.hid hS5
      have HW5 := Lib.hid (HW.out.below HB45.out)
      obtain ⟨T, hT5⟩ : ∃ T, T = w5.heap.size := ⟨_, rfl⟩
      have hT4 : w4.heap.size ≤ T := by have := HF45.out.size; omega
      rw [← hT5] at HS5 ⊢
      clear hW5 hS5 HF5 HB4 hT5 HF45
      generalize hbq : (er5 == 0) = bq at *
      have HBQ := Lib.hid hbq
      clear hbq
      go_cut [] (fun wx => Below W5.heap.size W5 wx)
      case first =>
        cases bq with
        | false =>
          clear HBQ HA5
          go_wp2_with fail
          go_meet
          exact Below.refl _ _
        | true =>
          have hst := HA5.out (beq_iff_eq.1 HBQ.out)
          have hsm5 := hst.small
          have hbw := HS5.out.fb.bel
          have HT5 := Lib.hid (HT.out.below hpos hbw)
          have l1 := HS5.out.cell
          have l2 := HS5.out.fb.a0
          have l3 := HS5.out.tlt
          have l4 := HS5.out.fb.lt
          have HST := Lib.hid hst
          have hpos5 := HT5.out.pos
          clear HBQ HA5 hst hbw
          go_wp2_with fail
          refine (rem_any (.slice A5 n5 c5) n5 G5 am W5 HT5.out HR5.out (by omega)).mono ?_
          rintro e w6 ⟨A6, n6, c6, er6, G6, rfl, hR6, hb6, her6, hn6, hA6⟩
          have hq6 : Below W5.heap.size W5 (w6.alloc (.cells #[.slice A6 n6 c6] 24)) := hb6.alloc hb6.size _
          have hs6 := HS5.out.under hq6
          have l61 := hs6.cell
          have l62 := hs6.fb.a0
          have l63 := hs6.tlt
          have l64 := hs6.fb.lt
          have l65 := (HS5.out.under hb6).tlt
          have HS6 := Lib.hid hs6
          have HQ6 := Lib.hid hq6
          have HR6 := Lib.hid (hR6.alloc (.cells #[.slice A6 n6 c6] 24))
          have HA6 := Lib.hid (And.intro her6 hA6)
          have HB6' := Lib.hid hb6
          clear hR6 hb6 her6 hA6 l1 l2 l3 l4 hq6 hs6
          go_wp2_with fail
          obtain ⟨W6, hW6⟩ : ∃ W6, W6 = w6.alloc (.cells #[.slice A6 n6 c6] 24) := ⟨_, rfl⟩
          have g6 : W6.cell? ⟨w6.heap.size, 0, none⟩ = some (.slice A6 n6 c6) := by rw [hW6]; exact cell_one_new w6 _ 24 0 _ rfl
          rw [← hW6] at HS6 HR6 HQ6 ⊢
          have HB6 := Lib.hid HQ6.out
          clear l61 l62 l63 l64 l65 HQ6
          refine (check10 (.slice A5 n5 c5) n5 G5 W6 (HT5.out.below hpos5 HB6.out) (HR5.out.below HB6.out) (by omega)).mono ?_
          rintro e w7 ⟨rfl, hb7⟩
          rw [HST.out.ok, errB_true]
          have HS7 := Lib.hid (HS6.out.under hb7)
          have l71 := HS7.out.cell
          have l72 := HS7.out.fb.a0
          have l73 := HS7.out.tlt
          have l74 := HS7.out.fb.lt
          have g7 := (hb7.cell (p := ⟨w6.heap.size, 0, none⟩) (World.block_lt_of_cell? _ _ g6)).trans g6
          have HB7 := Lib.hid (HB6.out.trans (hb7.mono HB6.out.size))
          have HC7 := Lib.hid hb7
          clear hb7 hW6
          go_wp2_with fail
          refine (find15 (.slice A5 n5 c5) n5 G5 am w7 (HT5.out.below hpos5 HB7.out) (HR5.out.below HB7.out) (by omega)).mono ?_
          rintro e w8 ⟨rfl, hb8⟩
          have hfn := HST.out.fnd
          rw [hfn]
          have HS8 := Lib.hid (HS7.out.under hb8)
          have l81 := HS8.out.cell
          have l83 := HS8.out.tlt
          have g8 := (hb8.cell (p := ⟨w6.heap.size, 0, none⟩) (World.block_lt_of_cell? _ _ g7)).trans g7
          have HB8 := Lib.hid (HB7.out.trans (hb8.mono HB7.out.size))
          have HC8 := Lib.hid (HC7.out.trans (hb8.mono HC7.out.size))
          clear hb8 l71 l72 l73 l74 g6 g7 hfn
          go_wp2_with fail
          refine (members12 (.slice A5 n5 c5) n5 G5 w8 (HT5.out.below hpos5 HB8.out) (HR5.out.below HB8.out) (by omega)).mono ?_
          rintro e w9 ⟨v9, rfl, ho9, hb9⟩
          obtain ⟨A9', c9', rfl⟩ := ho9.slice
          have hl9 := HST.out.len
          rw [← HWAS.out, HWL.out] at hl9
          rw [hl9]
          have g9 := (hb9.cell (p := ⟨w6.heap.size, 0, none⟩) (World.block_lt_of_cell? _ _ g8)).trans g8
          have HB9 := Lib.hid (HB8.out.trans (hb9.mono HB8.out.size))
          have HC9 := Lib.hid (HC8.out.trans (hb9.mono HC8.out.size))
          have hg9 := World.block_lt_of_cell? _ _ g9
          clear hb9 ho9 hl9 g8 l81 l83
          by_cases h0 : wl = 0
          · subst h0
            go_wp2_with fail
            go_meet
            exact HB9.out
          · have t0 : decide (0 < wl) = true := decide_eq_true (by omega)
            have he6 : er6 = 0 := by
              rw [HA6.out.1]
              refine Classical.byContradiction fun hc => h0 ?_
              have := HST.out.rem hc
              rw [← HWAS.out, HWL.out] at this
              exact this
            have hR := HA6.out.2 he6
            obtain ⟨hs6, d6, j6, hO6, hf6, hj6, hm6⟩ := hR
            have hmem : memL G6 (sizeM n6 G6) = was := by
              rw [hm6, HWAS.out]
              exact HST.out.back d6 j6 hO6 hf6 hj6
            subst he6
            have HS6' := Lib.hid hs6
            clear hs6 hO6 hf6 hj6 hm6 h0 HA6
            go_wp2_with fail
            refine (check10 (.slice A6 n6 c6) n6 G6 w9 (HT5.out.below hpos5 HB9.out) (HR6.out.below HC9.out) (by omega)).mono ?_
            rintro e w10 ⟨rfl, hb10⟩
            rw [HS6'.out.ok, errB_true]
            have g10 := (hb10.cell (p := ⟨w6.heap.size, 0, none⟩) hg9).trans g9
            have HB10 := Lib.hid (HB9.out.trans (hb10.mono HB9.out.size))
            have HC10 := Lib.hid (HC9.out.trans (hb10.mono HC9.out.size))
            clear hb10 g9 hg9
            go_wp2_with fail
            refine (members12 (.slice A6 n6 c6) n6 G6 w10 (HT5.out.below hpos5 HB10.out) (HR6.out.below HC10.out) (by omega)).mono ?_
            rintro e w11 ⟨v11, rfl, ho11, hb11⟩
            rw [hmem] at ho11
            obtain ⟨A11, c11, rfl⟩ := ho11.slice
            rw [HWL.out] at ho11 ⊢
            have HB11 := Lib.hid (HB10.out.trans (hb11.mono HB10.out.size))
            have hsame := same (.slice A11 wl c11) (.slice A9 wl c9) was was w11 ho11.ints (HW5.out.ints.below HB11.out)
            rw [sameB_self] at hsame
            clear hb11 ho11 hmem g10
            go_wp2_with fail
            refine hsame.mono ?_
            rintro e w12 ⟨rfl, nd, rfl⟩
            go_wp2_with fail
            go_meet
            exact Below.quiet HB11.out _
      case rest =>
        have hs5 := HS5.out.under hcut
        have x0 := hs5.fb.c0
        have x1 := hs5.cell
        have x2 := hs5.tlt
        have HSx := Lib.hid hs5
        have HWx := Lib.hid (HB45.out.trans (hcut.mono HB45.out.size))
        clear hs5 hcut HS5 HW5 HB45 HBQ HA5 HR5
        go_wp2_with fail
        refine (rem_any (.slice A n c) n F m _ (HT.out.below hpos HSx.out.fb.bel) (HR.out.below HSx.out.fb.bel) hn).mono ?_
        rintro e w7 ⟨A7, n7, c7, er7, G7, rfl, hR7, hb7, -, hn7, hA7⟩
        have hs7 := HSx.out.under hb7
        have y0 := hs7.fb.c0
        have y1 := hs7.cell
        have y2 := hs7.tlt
        have y3 := hs7.frozen
        have y4 := hs7.fb.lt
        have y5 := hs7.lt
        have HS7 := Lib.hid hs7
        have HR7 := Lib.hid (hR7.setBox (u := .slice A7 n7 c7) y1)
        have HW7 := Lib.hid ((HWx.out.trans (hb7.mono HWx.out.size)).setCell (p := ⟨T, 0, none⟩) hT4 (.slice A7 n7 c7))
        have HA7 := Lib.hid hA7
        clear hb7 hs7 hR7 hA7 x0 x1 x2 HSx HWx
        go_upto_region 12 with fail
        have hs8 := HS7.out.set (.slice A7 n7 c7)
        obtain ⟨W7, hW7⟩ : ∃ W7, W7 = w7.setCell ⟨T, 0, none⟩ (.slice A7 n7 c7) := ⟨_, rfl⟩
        rw [← hW7] at HR7 HW7 hs8 ⊢
        have HS8 := Lib.hid hs8
        clear hW7 HS7 hs8 y0 y1 y2 y3 y4 y5
        go_cut [115] (fun s wx => s = .bool false ∧ Below W7.heap.size W7 wx)
        case first =>
          have z1 := HS8.out.cell
          have z2 := HS8.out.tlt
          by_cases he : er7 = 0
          · have hst := (HA7.out he).st
            have hlen := hst.len
            rw [← HWAS.out, HWL.out] at hlen
            have HST := Lib.hid hst
            subst he
            clear HA7 hst
            have HT7 := Lib.hid (HT.out.below hpos HS8.out.fb.bel)
            have hpos7 := HT7.out.pos
            go_wp2_with fail
            refine (check10 (.slice A7 n7 c7) n7 G7 W7 HT7.out HR7.out (by omega)).mono ?_
            rintro e w8 ⟨rfl, hb8⟩
            rw [HST.out.ok, errB_true]
            have z8 := (hb8.cell (p := ⟨T, 0, none⟩) z2).trans z1
            have hz8 := World.block_lt_of_cell? _ _ z8
            have HB8 := Lib.hid hb8
            clear hb8 z1 z2
            go_wp2_with fail
            refine (find15 (.slice A7 n7 c7) n7 G7 m w8 (HT7.out.below hpos7 HB8.out) (HR7.out.below HB8.out) (by omega)).mono ?_
            rintro e w9 ⟨rfl, hb9⟩
            have hfn := HST.out.fnd
            generalize findM G7 m (sizeM n7 G7) = z at *
            have tz : decide (0 ≤ z) = false := decide_eq_false (by omega)
            have z9 := (hb9.cell (p := ⟨T, 0, none⟩) hz8).trans z8
            have hz9 := World.block_lt_of_cell? _ _ z9
            have HB9 := Lib.hid (HB8.out.trans (hb9.mono HB8.out.size))
            clear hb9 z8 hz8 hfn
            go_wp2_with fail
            refine (members12 (.slice A7 n7 c7) n7 G7 w9 (HT7.out.below hpos7 HB9.out) (HR7.out.below HB9.out) (by omega)).mono ?_
            rintro e w10 ⟨v10, rfl, ho10, hb10⟩
            obtain ⟨A10, c10, rfl⟩ := ho10.slice
            generalize (memL G7 (sizeM n7 G7)).length = k at *
            have tk : ((k : Int) != (wl : Int) - 1) = false := by rw [bne_eq_false_iff_eq]; omega
            have hB10 := HB9.out.trans (hb10.mono HB9.out.size)
            clear hb10 ho10 hlen
            go_wp2_with fail
            go_meet
            exact ⟨rfl, hB10⟩
          · have t0 : (er7 == 0) = false := by rw [beq_eq_false_iff_ne]; exact he
            clear he HA7
            go_wp2_with fail
            go_meet
            exact ⟨rfl, Below.refl _ _⟩
        case rest =>
          obtain ⟨rfl, hb78⟩ := hcut
          have hs9 := HS8.out.under hb78
          have x0 := hs9.fb.c0
          have x2 := World.block_lt_of_cell? _ _ x0
          have HSx := Lib.hid hs9
          have HWx := Lib.hid (HW7.out.trans (hb78.mono HW7.out.size))
          clear hs9 hb78 HS8 HW7 HA7 HR7
          go_wp2_with fail
          refine (path17 (.slice A n c) n F leaf _ (HT.out.below hpos HSx.out.fb.bel) (HR.out.below HSx.out.fb.bel) hn).mono ?_
          rintro e w9 ⟨⟨v9, rfl, ho9⟩, hb9⟩
          obtain ⟨Ap, cp, rfl⟩ := ho9.slice
          have HS9 := Lib.hid (HSx.out.under hb9)
          have HW9 := Lib.hid (HWx.out.trans (hb9.mono HWx.out.size))
          have HP9 := Lib.hid ho9.ints
          have hnl : (natL (pathL n F leaf)).length = (pathL n F leaf).length := by simp [natL]
          rw [hnl] at HP9 ⊢
          clear hb9 ho9 hnl x0 x2 HSx HWx
          by_cases hq : rowsE n F leaf = 0
          · obtain ⟨d, j, hO, rfl, hj, hrl⟩ := rowsL_is HZ.out hq
            have hp : 1 ≤ (F (2 * j)).pub := by
              obtain ⟨j', e, _, h⟩ := rowsE_ok hO hq
              obtain rfl : j = j' := by omega
              exact h
            have hpl : pathL n F (j : Int) = (rowsM F d j).map (·.1) := by unfold pathL; rw [hrl]
            rw [hpl] at HP9 ⊢
            rw [hq]
            have hpl3 : ((rowsM F d j).map (·.1)).length ≤ 3 := by
              rw [List.length_map]
              have := rowsK_length F j d
              have := hO.hd
              show (rowsK F j d).length ≤ 3
              omega
            have HSET := Lib.hid (fun (vp : Value) (k : Nat) (W : World) (hT : Tab W) (hR : TrR W (.slice A n c) n F) => set_any (.slice A n c) n d j F vp k W hT hR hO hj hp)
            generalize (rowsM F d j).map (·.1) = pl at *
            generalize hln : pl.length = ln at *
            have HLN := Lib.hid hln
            clear hq hO hrl hp hpl hj hln
            go_wp2_with fail
            go_loopg [16, 17] (ln + 1) (fun g v16 v17 wr => ∃ k : Nat, k ≤ ln ∧ k + g = ln + 1 ∧ v17 = .int .i64 k ∧ OwnI wr w9.heap.size v16 (pubsL k) ∧ Below w9.heap.size w9 wr ∧ w9.heap.size ≤ wr.heap.size)
            case atStart => exact ⟨0, by omega, by omega, rfl, World.ownsRow_nil _ _ _ _, Below.refl _ _, Nat.le_refl _⟩
            case round =>
              obtain ⟨k, hk, hg, rfl, hown, hbel, hSr⟩ := hrel
              have HG := Lib.hid hg
              have HOWN := Lib.hid hown
              have HBEL := Lib.hid hbel
              clear hg
              by_cases hlt : k < ln
              · have hlen2 : (pubsL k).length < 4294967296 := by rw [pubsL_length]; omega
                have HPS := Lib.hid (pubsL_succ k)
                obtain ⟨At, ct, rfl⟩ := hown.slice
                generalize pubsL k = TT at *
                clear hown
                go_wp2_with (at_builtin; refine pushg rfl _ _ rfl rfl rfl HOWN hbel hSr rfl hlen2 ?_)
                intro v' w' h1 h2 h3
                have H1 := Lib.hid h1
                clear h1 HOWN
                go_wp2_with fail
                go_roundg (gk - 1)
                case rel => exact ⟨k + 1, by omega, by have := HG.out; omega, by go_num, by rw [HPS.out]; exact H1.out, h2, h3⟩
                case measure => have := HG.out; omega
              · obtain rfl : k = ln := by omega
                obtain ⟨At, ct, rfl⟩ := hown.slice
                rw [pubsL_length] at HOWN ⊢
                have hs10 := HS9.out.under hbel
                have x0 := hs10.fb.c0
                have x2 := World.block_lt_of_cell? _ _ x0
                have HS10 := Lib.hid hs10
                have HW10 := Lib.hid (HW9.out.trans (hbel.mono HW9.out.size))
                have HP10 := Lib.hid (HP9.out.below hbel)
                have HO10 := Lib.hid (show Ints wr (.slice At k ct) (pubsL k) by have := HOWN.out.ints; exact this)
                clear hown hbel hlt hk hs10 HOWN HBEL HS9 HW9 HP9
                go_wp2_with fail
                refine (HSET.out (.slice At k ct) k wr (HT.out.below hpos HS10.out.fb.bel) (HR.out.below HS10.out.fb.bel) HO10.out rfl).mono ?_
                rintro e w11 ⟨A11, c11, G11, rfl, hR11, hb11, hSS⟩
                have hs11 := HS10.out.under hb11
                have y1 := hs11.cell
                have y2 := hs11.tlt
                have y3 := hs11.frozen
                have HS11 := Lib.hid hs11
                have HR11 := Lib.hid (hR11.setBox (u := .slice A11 n c11) y1)
                have HW11 := Lib.hid ((HW10.out.trans (hb11.mono HW10.out.size)).setCell (p := ⟨T, 0, none⟩) hT4 (.slice A11 n c11))
                have HSS := Lib.hid hSS
                have HB11 := Lib.hid hb11
                clear hR11 hSS hs11 x0 x2 hb11
                go_upto_region 23 with fail
                have hs12 := HS11.out.set (.slice A11 n c11)
                obtain ⟨W12, hW12⟩ : ∃ W12, W12 = w11.setCell ⟨T, 0, none⟩ (.slice A11 n c11) := ⟨_, rfl⟩
                have hpb : Below wr.heap.size wr w11 := HB11.out
                have hP12 : Ints W12 (.slice Ap k cp) (natL pl) := by
                  rw [hW12]
                  exact (HP10.out.below hpb).setBox y1
                rw [← hW12] at HR11 HW11 hs12 ⊢
                have HS12 := Lib.hid hs12
                have HP12 := Lib.hid hP12
                have z0 := hs12.cell
                have z2 := hs12.tlt
                clear hW12 HS11 hs12 hP12 hpb y1 y2 y3 HP10 HS10 HW10 HO10
                go_wp2_with fail
                refine (check10 (.slice A11 n c11) n G11 W12 (HT.out.below hpos HS12.out.fb.bel) HR11.out (by omega)).mono ?_
                rintro e w13 ⟨rfl, hb13⟩
                rw [HSS.out.ok, errB_true]
                have z13 := (hb13.cell (p := ⟨T, 0, none⟩) z2).trans z0
                have hz13 := World.block_lt_of_cell? _ _ z13
                have HB13 := Lib.hid hb13
                clear hb13 z0 z2
                go_wp2_with fail
                refine (members12 (.slice A11 n c11) n G11 w13 (HT.out.below hpos (HS12.out.under HB13.out).fb.bel) (HR11.out.below HB13.out) (by omega)).mono ?_
                rintro e w14 ⟨v14, rfl, ho14, hb14⟩
                rw [HSS.out.mem, ← HWAS.out] at ho14
                obtain ⟨A14, c14, rfl⟩ := ho14.slice
                rw [HWL.out] at ho14 ⊢
                have HB14 := Lib.hid (HB13.out.trans (hb14.mono HB13.out.size))
                have z14 := (hb14.cell (p := ⟨T, 0, none⟩) hz13).trans z13
                have hz14 := World.block_lt_of_cell? _ _ z14
                have hsame := same (.slice A14 wl c14) (.slice A9 wl c9) was was w14 ho14.ints (HW.out.ints.below (HW11.out.trans (HB14.out.mono HW11.out.size)))
                rw [sameB_self] at hsame
                clear hb14 ho14 z13 hz13 HB13
                go_wp2_with fail
                refine hsame.mono ?_
                rintro e w15 ⟨rfl, nd, rfl⟩
                obtain ⟨W15, hW15⟩ : ∃ W15, W15 = w14.drewN nd := ⟨_, rfl⟩
                rw [← hW15]
                have hb15 : Below W12.heap.size W12 W15 := by rw [hW15]; exact Below.quiet HB14.out _
                have HS15 := Lib.hid (HS12.out.under hb15)
                have HR15 := Lib.hid (HR11.out.below hb15)
                have HP15 := Lib.hid (HP12.out.below hb15)
                clear hsame hb15 hW15 z14 hz14 HB14 HS12 HR11 HP12 HW11 HW
                go_wp2_with fail
                have q0 := HS15.out.cell
                have q1 := HS15.out.tlt
                go_loopg [18] (k + 1) (fun g v18 wr => ∃ i : Nat, i ≤ k ∧ i + g = k + 1 ∧ v18 = .int .i64 i ∧ Below W15.heap.size W15 wr)
                case atStart => exact ⟨0, by omega, by omega, rfl, Below.refl _ _⟩
                case round =>
                  obtain ⟨i, hi, hg, rfl, hbel⟩ := hrel
                  have HG := Lib.hid hg
                  have HBEL := Lib.hid hbel
                  have r0 := (hbel.cell (p := ⟨T, 0, none⟩) q1).trans q0
                  clear hg
                  by_cases hlt : i < k
                  · obtain ⟨x, hx⟩ : ∃ x, pl[i]? = some x := ⟨pl[i]'(by have := HLN.out; omega), List.getElem?_eq_getElem _⟩
                    obtain ⟨hE, hL⟩ := HSS.out.res x (List.mem_of_getElem? hx)
                    have hI15 := HP15.out.below hbel
                    obtain ⟨bp, op, rfl, cpx⟩ := hI15.at (natL_get hx)
                    have hbp := World.block_lt_of_cell? _ _ cpx
                    have hres : ∀ W, Below wr.heap.size wr W → Calls Tryd.prog 19 #[.agg #[.slice A11 n c11], .int .i64 (x : Int)] W fun e w' => ResA W [(x : Int)] 0 e w' := fun W hW => by
                      have := res19 (.slice A11 n c11) n G11 (x : Int) W (HT.out.below hpos (HS15.out.under (hbel.trans (hW.mono hbel.size))).fb.bel) (HR15.out.below (hbel.trans (hW.mono hbel.size))) hn
                      rw [hE, hL] at this
                      exact this
                    have hHeld : wr.cell? ⟨T, 0, none⟩ = some (.slice A11 n c11) ∧ wr.cell? ⟨bp, op + i, none⟩ = some (.int .i64 (x : Int)) ∧ Below wr.heap.size wr wr := ⟨r0, cpx, Below.refl _ _⟩
                    have hrefl : Below wr.heap.size wr wr := Below.refl _ _
                    have j1 : (0 : Int) ≤ (i : Int) := by omega
                    have j2 : (i : Int) < (k : Int) := by omega
                    have hkc : k ≤ cp ∧ cp ≤ maxLen := by
                      obtain ⟨A', c', e, h1, h2, -⟩ := hI15
                      have hnl : (natL pl).length = k := by simp [natL]; exact HLN.out
                      rw [hnl] at h1
                      obtain ⟨-, -, rfl⟩ : _ ∧ _ ∧ cp = c' := by simpa using e
                      exact ⟨h1, h2⟩
                    have hcx := Lib.hid cpx
                    clear hx hE hL hI15 hbel r0 cpx
                    go_wp2_with fail
                    go_region_held3 (fun w' => w'.cell? ⟨T, 0, none⟩ = some (.slice A11 n c11) ∧ w'.cell? ⟨bp, op + i, none⟩ = some (.int .i64 (x : Int)) ∧ Below wr.heap.size wr w') (first | assumption | exact held_drew (by assumption) | exact held_call (by assumption) (by assumption)) (first
                      | (go_at_call 19; with_reducible refine (hres _ (below_mid hrefl (by assumption))).mono ?_; rintro e' w16 ⟨⟨v16, rfl, ho16⟩, hb16⟩; obtain ⟨A16, c16, rfl⟩ := ho16.slice))
                    have hb16' : Below wr.heap.size wr w16 := ⟨hb16.os, hb16.tape, hb16.output, hb16.size, hb16.block⟩
                    have cx16 := (hb16'.cell (p := ⟨bp, op + i, none⟩) hbp).trans hcx.out
                    have hI16 : Ints w16 (.slice (some ⟨bp, op + i, none⟩) 1 (cp - i)) [(x : Int)] := ⟨_, _, rfl, by show 1 ≤ cp - i; omega, by omega, fun _ => ⟨bp, op + i, rfl, fun j y hy => by
                      have hj : j = 0 := by have := (List.getElem?_eq_some_iff.1 hy).1; simp at this; omega
                      subst hj
                      obtain rfl : (x : Int) = y := by simpa using hy
                      exact cx16⟩⟩
                    have hsame2 := same (.slice A16 1 c16) (.slice (some ⟨bp, op + i, none⟩) 1 (cp - i)) [(x : Int)] [(x : Int)] w16 ho16.ints hI16
                    rw [sameB_self] at hsame2
                    have HB16 := Lib.hid (HBEL.out.trans (hb16'.mono HBEL.out.size))
                    have j3 : (i : Int) + 1 ≤ (cp : Int) := by omega
                    clear hb16 hb16' cx16 hI16 ho16 hres hrefl
                    go_wp2_with fail
                    refine hsame2.mono ?_
                    rintro e' w17 ⟨rfl, nd, rfl⟩
                    have hB17 := Below.quiet HB16.out nd
                    clear hsame2
                    go_wp2_with fail
                    go_roundg (gk - 1)
                    case rel => exact ⟨i + 1, by omega, by have := HG.out; omega, by go_num, hB17⟩
                    case measure => have := HG.out; omega
                  · obtain rfl : i = k := by omega
                    have hB := HS15.out.under hbel
                    have HB := Lib.hid hB
                    clear hlt hi hB hbel
                    go_wp2_with fail
                    refine (alive11 _ (HT.out.below hpos HB.out.fb.bel)).mono ?_
                    rintro e w17 ⟨rfl, hb17⟩
                    have hB17 := (HB.out.under hb17).fb.bel
                    go_wp2_with fail
                    go_ret
                    exact ⟨rfl, hB17⟩
          · generalize rowsE n F leaf = er at *
            have t0 : (er != 0) = true := by rw [bne_iff_ne]; exact hq
            generalize pathL n F leaf = pl at *
            generalize pl.length = ln at *
            clear hq
            go_wp2_with fail
            refine (alive11 _ (HT.out.below hpos HS9.out.fb.bel)).mono ?_
            rintro e w10 ⟨rfl, hb10⟩
            have hB10 := (HS9.out.under hb10).fb.bel
            go_wp2_with fail
            go_ret
            exact ⟨rfl, hB10⟩
end Go.Proofs.YtopkanokpfhmmaaDoor
