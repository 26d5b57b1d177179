/- SetPath, where it is done, of a leaf with no path. -/
import Derived.Test.YtnahhclflnjmcaaGreatDoorTZ
namespace Go.Proofs.YtnahhclflnjmcaaGreatDoor
open Go Go.RowKit Go.Proofs.Phase
set_option linter.unusedVariables false
set_option linter.unusedSimpArgs false
set_option maxRecDepth 100000

set_option maxHeartbeats 8000000 in
set_option maxRecDepth 100000 in
theorem set_none (v : Value) (n d i : Nat) (F : Nat → Node) (ep pub : Int) (vp : Value) (ps : List Int) (w : World) (hT : Tab w) (hR : TrR w v n F) (hO : Ok d n F) (hi : i < 2 ^ d) (hp : 1 ≤ (F (2 * i)).pub) (hep : 0 ≤ ep) (hpub : 1 ≤ pub)
    (hps : Ints w vp ps) (hlen : ps.length = (rowsM F d i).length) (hp1 : ∀ x ∈ ps, 1 ≤ x) (hp0 : ps.length = 0) :
    Calls Tryz.prog 32 #[.agg #[v], .int .i64 i, .int .i64 ep, .int .i64 pub, vp] w fun e w' => SetYes w n (setF F d i ep pub (((rowsM F d i).map (·.1)).zip ps)) e w' := by
  have hz : chk n F = true := chk_iff.2 (.inr ⟨d, hO⟩)
  have hn15 := hO.n_le
  have hC : ∀ W, Below w.heap.size w W → Calls Tryz.prog 10 #[.agg #[v]] W fun e w' => e = .returned (.int .i64 (errB (chk n F))) ∧ Below W.heap.size W w' := fun W hW =>
    check10 v n F W (hT.below hT.pos hW) (hR.below hW) (by omega)
  rw [hz, errB_true] at hC
  have hrE : rowsE n F i = 0 := by
    unfold rowsE
    rw [hz, if_neg (by decide), hO.lvs, Int.toNat_natCast, if_neg]
    omega
  have hP : ∀ W, Below w.heap.size w W → Calls Tryz.prog 36 #[.agg #[v], .int .i64 i] W fun e w' => PathA W (pathL n F i) 0 e w' := fun W hW => by
    have := path17 v n F i W (hT.below hT.pos hW) (hR.below hW) (by omega)
    rw [hrE] at this
    exact this
  have hpl : pathL n F i = (rowsM F d i).map (·.1) := by
    unfold pathL rowsL
    rw [hrE, if_pos rfl, hO.lvs, lg_pow hO.hd, Int.toNat_natCast]
  rw [hpl] at hP
  have hpos := hT.pos
  have h2d := two_pos d
  have h2d3 : 2 ^ d ≤ 2 ^ 3 := Nat.pow_le_pow_right (by decide) hO.hd
  have hs := two_succ d
  have hnd := hO.hn
  have hTW : ∀ W, Below w.heap.size w W → Calls Tryz.prog 154 #[.agg #[v], .int .i64 (2 ^ d : Nat)] W fun e w' => ∃ b uv, e = .returned (.agg #[.slice (some ⟨b, 0, none⟩) n n]) ∧ OwnK W w' W.heap.size b n n F uv ∧ Below W.heap.size W w' := fun W hW => by
    have := twin30 v n (2 ^ d) F W (hR.below hW) (by omega) (by omega) (by omega) (fun y hy => by have := hO.un_len hy; omega)
    rw [show 2 * 2 ^ d - 1 = n by omega] at this
    refine this.mono ?_
    rintro e w' ⟨b, uv, h1, h2, h3⟩
    refine ⟨b, uv, h1, h2.congr fun y hy => ?_, h3⟩
    unfold pad
    rw [if_pos hy]
  have hmin : ps.length ≠ 0 → ∀ W, Below w.heap.size w W → Calls Tryz.prog 166 #[vp] W fun e w' => ∃ m, e = .returned (.int .i64 m) ∧ (m < 1 ↔ ∃ x ∈ ps, x < 1) ∧ W = w' := fun h0 W hW =>
    min36 vp ps W (hps.below hW) (by omega) (by
      rw [hlen]
      have := rowsK_length F i d
      have := hO.hd
      show (rowsK F i d).length ≤ 1000
      omega)
  obtain ⟨A, c, rfl, -, -, -⟩ := hR
  have hL := fun w => leaves26 A n c w (by omega)
  rw [hO.lvs] at hL
  obtain ⟨L, hLd⟩ : ∃ L, L = 2 ^ d := ⟨_, rfl⟩
  rw [← hLd] at hL hTW hi h2d h2d3
  have hpn : ((rowsM F d i).map (·.1)).length ≤ 3 := by
    rw [List.length_map]
    have := rowsK_length F i d
    have := hO.hd
    show (rowsK F i d).length ≤ 3
    omega
  have hdis : ∀ x ∈ (rowsM F d i).map (·.1), x ∈ dirs d i := fun x hx => rowsM_mem hx
  have HND := Lib.hid (fun (j x : Nat) (hx : ((rowsM F d i).map (·.1))[j]? = some x) => nodup_take (rowsM_nodup hO.hd (by rw [← hLd]; exact hi)) hx)
  have hlen2 : ps.length = ((rowsM F d i).map (·.1)).length := by rw [List.length_map]; exact hlen
  generalize hPL : (rowsM F d i).map (·.1) = pl at *
  obtain ⟨Ap, cp, hvp⟩ : ∃ A c, vp = .slice A 0 c := by
    obtain ⟨A, c, e, _⟩ := hps
    rw [hp0] at e
    exact ⟨A, c, e⟩
  subst hvp
  obtain rfl : ps = [] := List.eq_nil_of_length_eq_zero hp0
  obtain rfl : pl = [] := List.eq_nil_of_length_eq_zero hlen2.symm
  have HD := Lib.hid (And.intro hO (And.intro hLd (And.intro hT (And.intro hi (And.intro hps (And.intro hp1 (And.intro hdis hPL)))))))
  have HB0 := Lib.hid (TwoB.start w (.slice A n c))
  have h2in : 2 * i < n := by omega
  have t1 : decide (ep < 0) = false := decide_eq_false (by omega)
  have t2 : decide (pub < 1) = false := decide_eq_false (by omega)
  have m1 : (0 : Int) ≤ 2 * (i : Int) := by omega
  have m2 : 2 * (i : Int) < (n : Int) := by omega
  clear hz hps hlen hp1 hrE hpl hs hnd hLd hO hi hdis hp hep hpub hlen2 hpn hPL HND hp0
  go_enter Tryz.func32, Tryz.ntmps32
  go_wp2_with (first
    | (go_at_call 10; refine (hC _ HB0.out.bel).mono ?_; rintro e' w1 ⟨rfl, hb1⟩; obtain ⟨d0, d1, d2, d3, d4⟩ := HB0.out.under hb1; have HB1 := Lib.hid (HB0.out.under hb1); have d5 : w.heap.size < w1.heap.size := by omega))
  refine (hP _ HB1.out.bel).mono ?_
  rintro e' w2 ⟨⟨vq, rfl, hoq⟩, hb2⟩
  obtain ⟨f0, f1, f2, f3, f4⟩ := HB1.out.under hb2
  have HB2 := Lib.hid (HB1.out.under hb2)
  have f5 : w.heap.size < w2.heap.size := by omega
  obtain ⟨Aq, cq, rfl⟩ := hoq.slice
  have hnl : (natL []).length = 0 := rfl
  rw [hnl] at hoq ⊢
  have HOQ := Lib.hid hoq.ints
  clear hoq hnl hb1 hb2 d0 d1 d2 d3 d4 d5
  have hS2 : w2.cell? ⟨w.heap.size, 0, none⟩ = some (.slice A n c) ∧ w2.cell? ⟨w.heap.size + 1, 0, none⟩ = some (.slice none 0 0) ∧ Below w2.heap.size w2 w2 := ⟨f1, f2, Below.refl _ _⟩
  · clear hmin
    go_wp2_with fail
    refine wp_region_ph (S := (fun w' => w'.cell? ⟨w.heap.size, 0, none⟩ = some (.slice A n c) ∧ w'.cell? ⟨w.heap.size + 1, 0, none⟩ = some (.slice none 0 0) ∧ Below w2.heap.size w2 w')) 5 (by kernel_rfl) (held2_drew hS2) (fun hHeld => ?_)
    refine wpPh_take' (i := 0) (by simp only [List.getElem?_toArray, List.getElem?_cons_succ, List.getElem?_cons_zero]; rfl) ?_
    refine ⟨?_, ⟨by kernel_rfl, by kernel_rfl, by kernel_rfl, by kernel_rfl⟩, fun _ _ _ h => h, Or.inl ⟨by rfl, ?_⟩, by assumption, ?_⟩
    rotate_left
    · (intro w hSw; (try dsimp only at hSw); go_simp; with_reducible rfl)
    try simp only [Act.put, List.setIfInBounds_toArray, List.set_cons_zero, List.set_cons_succ]
    refine wpPh_take' (i := 1) (by simp only [List.getElem?_toArray, List.getElem?_cons_succ, List.getElem?_cons_zero]; rfl) ?_
    refine ⟨?_, ⟨by kernel_rfl, by kernel_rfl, by kernel_rfl, by kernel_rfl⟩, fun _ _ _ h => h, Or.inl ⟨by rfl, ?_⟩, by assumption, ?_⟩
    rotate_left
    · (intro w hSw; (try dsimp only at hSw); go_simp; with_reducible rfl)
    try simp only [Act.put, List.setIfInBounds_toArray, List.set_cons_zero, List.set_cons_succ]
    refine wpPh_two (i := 2) (j := 4) (by kernel_rfl) (by simp only [List.getElem?_toArray, List.getElem?_cons_succ, List.getElem?_cons_zero]; rfl) (by simp only [List.getElem?_toArray, List.getElem?_cons_succ, List.getElem?_cons_zero]; rfl) (fun K hK => ?_) (fun K hK => ?_)
    · go_simp
      with_reducible refine (hL _).mono ?_
      rintro e' w4 ⟨rfl, hb4⟩
      go_wp2_with fail
      refine hK.out _ _ ?_ (fun hHeldN => ?_)
      · exact held2_call hHeld hb4
      clear hHeld
      have hHeld := hHeldN
      clear hHeldN
      clear hK K
      try simp only [Act.put, List.setIfInBounds_toArray, List.set_cons_zero, List.set_cons_succ]
      refine wpPh_two (i := 3) (j := 4) (by kernel_rfl) (by simp only [List.getElem?_toArray, List.getElem?_cons_succ, List.getElem?_cons_zero]; rfl) (by simp only [List.getElem?_toArray, List.getElem?_cons_succ, List.getElem?_cons_zero]; rfl) (fun K hK => ?_) (fun K hK => ?_)
      · go_simp
        with_reducible refine (hTW _ (held2_mid f0 hHeld)).mono ?_
        rintro e' w5 ⟨b2, uv, rfl, hK5, hb5⟩
        have hHeld0 := Lib.hid hHeld
        go_wp2_with fail
        refine hK.out _ _ ?_ (fun hHeldN => ?_)
        · exact held2_call hHeld hb5
        clear hHeld
        have hHeld := hHeldN
        clear hHeldN
        clear hK K
        try simp only [Act.put, List.setIfInBounds_toArray, List.set_cons_zero, List.set_cons_succ]
        refine wpPh_before (i := 4) (by kernel_rfl) (by simp only [List.getElem?_toArray, List.getElem?_cons_succ, List.getElem?_cons_zero]; rfl) (fun K hK => ?_)
        go_simp
        refine hK.out _ _ ?_ (fun hHeldN => ?_)
        · exact held2_alloc hHeld
        clear hHeld
        have hHeld := hHeldN
        clear hHeldN
        clear hK K
        try simp only [Act.put, List.setIfInBounds_toArray, List.set_cons_zero, List.set_cons_succ]
        refine wpPh_behind (i := 5) (by kernel_rfl) (by simp only [List.getElem?_toArray, List.getElem?_cons_succ, List.getElem?_cons_zero]; rfl) (by kernel_rfl) (fun K hK => ?_)
        go_simp
        refine hK.out _ _ ?_
        clear hK K
        try simp only [Act.put, List.setIfInBounds_toArray, List.set_cons_zero, List.set_cons_succ]
        refine wpPh_done (by kernel_rfl) ?_ _
        have hB25 : Below w2.heap.size w2 w5 := hHeld0.out.2.2.trans (hb5.mono hHeld0.out.2.2.size)
        have hbx : (w5.alloc (.cells #[(.slice (some ⟨b2, 0, none⟩) n n)] 24)).cell? ⟨w5.heap.size, 0, none⟩ = some (.slice (some ⟨b2, 0, none⟩) n n) := cell_one_new w5 (.slice (some ⟨b2, 0, none⟩) n n) 24 0 _ rfl
        have hKF := ((hK5.lower hHeld0.out.2.2.size).base (w1 := w)).below ((Below.refl _ _).alloc (Nat.le_refl _) (.cells #[(.slice (some ⟨b2, 0, none⟩) n n)] 24))
        have hBF := hB25.alloc hB25.size (.cells #[(.slice (some ⟨b2, 0, none⟩) n n)] 24)
        have hGb : w5.heap.size ≠ b2 := by have := hK5.blt; omega
        have hb2w : w2.heap.size ≤ b2 := Nat.le_trans hHeld0.out.2.2.size hK5.hb
        obtain ⟨wF, hwF⟩ : ∃ wF, wF = w5.alloc (.cells #[(.slice (some ⟨b2, 0, none⟩) n n)] 24) := ⟨_, rfl⟩
        rw [← hwF] at hbx hKF hBF ⊢
        have hGlt := World.block_lt_of_cell? _ _ hbx
        obtain ⟨x0, x1, x2, x3⟩ := hKF.cells h2in
        have xf0 := hKF.row.frozen (2 * i * 4)
        have xf2 := hKF.row.frozen (2 * i * 4 + 2)
        have hb2F := hKF.blt
        have HBF := Lib.hid (HB2.out.under2 hBF f4)
        obtain ⟨e0, e1, e2, e3, e4⟩ := HB2.out.under2 hBF f4
        have e5 : w.heap.size < wF.heap.size := by omega
        have e6 : ¬ (b2 = w.heap.size) := by omega
        have e7 : ¬ (w.heap.size = b2) := by omega
        have HKF := Lib.hid hKF
        have HBX := Lib.hid (And.intro hBF (And.intro hGb hb2w))
        clear hwF hK5 hb5 hB25 hKF hBF hGb hb2w
        go_wp2_with fail
        obtain ⟨WB, hWB⟩ : ∃ WB, WB = ((wF.setCell ⟨b2, 2 * i * 4 + 2, none⟩ (.int .i64 ep)).setCell ⟨b2, 2 * i * 4, none⟩ (.int .i64 pub)) := ⟨_, rfl⟩
        rw [← hWB]
        have hgWB : wF.grownBy WB (some b2) := by rw [hWB]; exact (grownBy_set _ _ _ _).trans (grownBy_set _ _ _ _)
        have hKB : OwnK w WB w2.heap.size b2 n n (setK F d i ep pub 0) uv := by
          rw [hWB]
          refine ((HKF.out.setEp h2in ep).setPub h2in pub).congr fun y hy => ?_
          unfold setK
          by_cases e1 : y = 2 * i
          · simp [e1]
          · simp [e1]
        have hbB : Below w2.heap.size w2 WB := HBX.out.1.grown hgWB HBX.out.1.size (fun q hq => by obtain rfl : b2 = q := Option.some.inj hq; exact HBX.out.2.2)
        have hbxB : WB.cell? ⟨w5.heap.size, 0, none⟩ = some (.slice (some ⟨b2, 0, none⟩) n n) := hgWB.cell hbx (fun e => HBX.out.2.1 (Option.some.inj e))
        have HKB := Lib.hid hKB
        have HBB := Lib.hid hbB
        have hTB : Tab WB := HD.out.2.2.1.below hpos (f0.trans (hbB.mono f0.size))
        clear hWB hgWB hKB hbB hbx hGlt x0 x1 x2 x3 xf0 xf2 hb2F e0 e1 e2 e3 e4 e5 HKF
        refine (hL WB).mono ?_
        rintro e' w6 ⟨rfl, hb6⟩
        go_wp2_with fail
        refine (dir31 d i L HD.out.1.hd HD.out.2.1 HD.out.2.2.2.1 w6 (hTB.below (by have := hTB.pos; omega) hb6)).mono ?_
        rintro e' w7 ⟨vd, rfl, hvd, hvb, hb7⟩
        obtain ⟨Ad, cd, rfl, -, -, -⟩ := id hvd
        have hdl : (natL (dirs d i)).length = d := by unfold natL; rw [List.length_map, dirs_length]
        rw [hdl] at hvd hvb ⊢
        have hb67 : Below WB.heap.size WB w7 := hb6.trans (hb7.mono hb6.size)
        have hB27 : Below w2.heap.size w2 w7 := HBB.out.trans (hb67.mono HBB.out.size)
        have HB7 := Lib.hid (HB2.out.under2 hB27 f4)
        have HK7 := Lib.hid (HKB.out.below hb67)
        have hbx7 := (hb67.cell (World.block_lt_of_cell? _ _ hbxB)).trans hbxB
        have hb26 : b2 < w6.heap.size := Nat.lt_of_lt_of_le HKB.out.blt hb6.size
        have HVD := Lib.hid (And.intro hvd hvb)
        have HB27 := Lib.hid hB27
        have hd3 : d ≤ 3 := HD.out.1.hd
        have HGB := Lib.hid HBX.out.2
        clear hvd hvb hb6 hb7 hTB hb67 hB27 hbxB HKB HBB HBX
        go_wp2_with fail
        go_loopg [81] (d + 1) (fun g v81 wr => ∃ (k : Nat) (uv' : Nat → Value), k ≤ d ∧ k + g = d + 1 ∧ v81 = .int .i64 k ∧ OwnK w wr w2.heap.size b2 n n (setK F d i ep pub k) uv' ∧ w7.grownBy wr (some b2))
        case atStart => exact ⟨0, uv, by omega, by omega, rfl, HK7.out, World.grownBy.refl _ _⟩
        case round =>
          obtain ⟨k, uv', hk, hg2, rfl, hK, hM⟩ := hrel
          have HG2 := Lib.hid hg2
          have HK := Lib.hid hK
          have HM := Lib.hid hM
          have hsr := hM.size
          have hbr : b2 < wr.heap.size := hK.blt
          have hbox := World.grownBy.cell hM hbx7 (fun e => HGB.out.1 (Option.some.inj e))
          have hGr := World.block_lt_of_cell? _ _ hbox
          clear hg2
          by_cases hlt2 : k < d
          · obtain ⟨x, hx, hxn, hxo, hxt, htk⟩ := dirs_at hd3 (show i < 2 ^ d by rw [← HD.out.2.1]; exact HD.out.2.2.2.1) hlt2
            have hxN : x < n := by rw [HD.out.1.hn]; exact hxn
            obtain ⟨bd, od, rfl, cd0⟩ := HVD.out.1.at (natL_get hx)
            have hbd1 : w6.heap.size ≤ bd := HVD.out.2 bd rfl
            have cdk := World.grownBy.cell hM cd0 (fun e => by have : bd = b2 := Option.some.inj e; omega)
            have hbdr : bd < wr.heap.size := World.block_lt_of_cell? _ _ cdk
            obtain ⟨x0, x1, x2, x3⟩ := hK.cells hxN
            have xf0 := hK.row.frozen (x * 4)
            have xf1 := hK.row.frozen (x * 4 + 1)
            have xf2 := hK.row.frozen (x * 4 + 2)
            have xf3 := hK.row.frozen (x * 4 + 3)
            have j1 : (0 : Int) ≤ (k : Int) := by omega
            have j2 : (k : Int) < (d : Int) := by omega
            have j4 : (0 : Int) ≤ (x : Int) := by omega
            have j5 : (x : Int) < (n : Int) := by omega
            have HX := Lib.hid (And.intro htk (show x ≠ 2 * i by omega))
            clear hx hxt htk cd0 hK hM
            go_wp2_with fail
            go_roundg (gk - 1)
            case rel =>
              refine ⟨k + 1, _, by omega, by have := HG2.out; omega, by go_num, (HK.out.setNode hxN 0 0 0 (by decide)).congr fun y hy => ?_, (((HM.out.trans (grownBy_set _ _ _ _)).trans (grownBy_set _ _ _ _)).trans (grownBy_set _ _ _ _)).trans (grownBy_set _ _ _ _)⟩
              unfold setK
              rw [HX.out.1]
              by_cases e2 : y = x
              · have := HX.out.2
                simp [e2, zeroN, this]
              · simp [e2]
            case measure => have := HG2.out; omega
          · obtain rfl : k = d := by omega
            have hM8 := Lib.hid hM
            have hK8 : OwnK w wr w2.heap.size b2 n n (setF F k i ep pub []) uv' := HK.out.congr fun y hy => by
              unfold setK setF
              rw [show (dirs k i).take k = dirs k i from List.take_of_length_le (by rw [dirs_length]; exact Nat.le_refl _)]
              rfl
            have HK8 := Lib.hid hK8
            have hB28 : Below w2.heap.size w2 wr := HB27.out.grown hM HB27.out.size (fun q hq => by obtain rfl : b2 = q := Option.some.inj hq; exact HGB.out.2)
            have HB28 := Lib.hid hB28
            obtain ⟨w8, rfl⟩ : ∃ w8, w8 = wr := ⟨_, rfl⟩
            have HBOX8 := Lib.hid hbox
            clear hK hM hK8 hB28 hbox hGr hbx7 HVD
            go_wp2_with fail
            go_loopg [93] 1 (fun g v93 wr => ∃ (j : Nat) (uv' : Nat → Value), j ≤ 0 ∧ j + g = 1 ∧ v93 = .int .i64 j ∧ OwnK w wr w2.heap.size b2 n n (setF F k i ep pub []) uv' ∧ w8.grownBy wr (some b2))
            case atStart => exact ⟨0, uv', by omega, by omega, rfl, HK8.out, World.grownBy.refl _ _⟩
            case round =>
              obtain ⟨j, uv2, hj, hg3, rfl, hK, hM⟩ := hrel
              have HG3 := Lib.hid hg3
              have HK9 := Lib.hid hK
              have HM9 := Lib.hid hM
              have hbr9 : b2 < wr.heap.size := hK.blt
              have hbox := World.grownBy.cell hM HBOX8.out (fun e => HGB.out.1 (Option.some.inj e))
              have hGr := World.block_lt_of_cell? _ _ hbox
              have hB29 : Below w2.heap.size w2 wr := HB28.out.grown hM HB28.out.size (fun q hq => by obtain rfl : b2 = q := Option.some.inj hq; exact HGB.out.2)
              have HB29 := Lib.hid hB29
              clear hg3
              by_cases hlt3 : j < 0
              · exfalso
                omega
              · obtain rfl : j = 0 := by omega
                obtain ⟨z0, z1, z2, z3, z4⟩ := HB2.out.under2 HB29.out f4
                have z8 := (HB2.out.under2 HB29.out f4).stored
                have hKe := HK9.out.setFar (a := ⟨w.heap.size + 1, 0, none⟩) (by show b2 ≠ w.heap.size + 1; have := HGB.out.2; omega) (fun y hy e => by have h1 := (World.ownsRow.lt (HK9.out.un y hy hy) _ e).1; have h2 : w2.heap.size ≤ w.heap.size + 1 := h1; omega) (.slice (some ⟨b2, 0, none⟩) n n)
                have HKE := Lib.hid hKe
                clear hK hM hKe hB29
                go_wp2_with fail
                refine bodyPost_ret (by simp [results, Tryz.results32, go_sem, z8]; rfl) rfl ?_
                refine ⟨⟨_, rfl, ?_⟩, z0.setCell (by show w.heap.size ≤ w.heap.size + 1; omega) _⟩
                exact HKE.out.trO (by unfold maxLen; omega) (by omega)
      · have hs24 := hHeld.2.2.size
        go_simp
        refine hK.out _ _ ?_ (fun hHeldN => ?_)
        · exact held2_alloc hHeld
        clear hHeld
        have hHeld := hHeldN
        clear hHeldN
        clear hK K
        try simp only [Act.put, List.setIfInBounds_toArray, List.set_cons_zero, List.set_cons_succ]
        refine wpPh_before (i := 3) (by kernel_rfl) (by simp only [List.getElem?_toArray, List.getElem?_cons_succ, List.getElem?_cons_zero]; rfl) (fun K hK => ?_)
        go_simp
        with_reducible refine (hTW _ (held2_mid f0 hHeld)).mono ?_
        rintro e' w5 ⟨b2, uv, rfl, hK5, hb5⟩
        obtain ⟨x51, x52, x53⟩ := box_first' hb5
        have hHeld0 := Lib.hid hHeld
        go_wp2_with fail
        refine hK.out _ _ ?_ (fun hHeldN => ?_)
        · exact held2_call hHeld hb5
        clear hHeld
        have hHeld := hHeldN
        clear hHeldN
        clear hK K
        try simp only [Act.put, List.setIfInBounds_toArray, List.set_cons_zero, List.set_cons_succ]
        refine wpPh_behind (i := 5) (by kernel_rfl) (by simp only [List.getElem?_toArray, List.getElem?_cons_succ, List.getElem?_cons_zero]; rfl) (by kernel_rfl) (fun K hK => ?_)
        go_simp
        refine hK.out _ _ ?_
        clear hK K
        try simp only [Act.put, List.setIfInBounds_toArray, List.set_cons_zero, List.set_cons_succ]
        refine wpPh_done (by kernel_rfl) ?_ _
        have hB25 : Below w2.heap.size w2 w5 := hHeld0.out.2.2.trans (hb5.mono hHeld0.out.2.2.size)
        have hbx : (w5.setCell ⟨w4.heap.size, 0, none⟩ (.slice (some ⟨b2, 0, none⟩) n n)).cell? ⟨w4.heap.size, 0, none⟩ = some (.slice (some ⟨b2, 0, none⟩) n n) := by apply World.cell?_setCell_same; exact x51
        have hsW : (w4.alloc (.cells #[.slice none 0 0] 24)).heap.size = w4.heap.size + 1 := by simp
        have hKF := (((hK5.elsewhere (a := ⟨w4.heap.size, 0, none⟩) (by rw [hsW]; exact Nat.lt_succ_self _) (.slice (some ⟨b2, 0, none⟩) n n)).lower hHeld0.out.2.2.size).base (w1 := w))
        have hBF := hB25.setCell (p := ⟨w4.heap.size, 0, none⟩) (by exact hs24) (.slice (some ⟨b2, 0, none⟩) n n)
        have hGb : w4.heap.size ≠ b2 := by have := hK5.hb; rw [hsW] at this; omega
        have hb2w : w2.heap.size ≤ b2 := Nat.le_trans hHeld0.out.2.2.size hK5.hb
        clear hsW x51 x52 x53 hs24
        obtain ⟨wF, hwF⟩ : ∃ wF, wF = w5.setCell ⟨w4.heap.size, 0, none⟩ (.slice (some ⟨b2, 0, none⟩) n n) := ⟨_, rfl⟩
        rw [← hwF] at hbx hKF hBF ⊢
        have hGlt := World.block_lt_of_cell? _ _ hbx
        obtain ⟨x0, x1, x2, x3⟩ := hKF.cells h2in
        have xf0 := hKF.row.frozen (2 * i * 4)
        have xf2 := hKF.row.frozen (2 * i * 4 + 2)
        have hb2F := hKF.blt
        have HBF := Lib.hid (HB2.out.under2 hBF f4)
        obtain ⟨e0, e1, e2, e3, e4⟩ := HB2.out.under2 hBF f4
        have e5 : w.heap.size < wF.heap.size := by omega
        have e6 : ¬ (b2 = w.heap.size) := by omega
        have e7 : ¬ (w.heap.size = b2) := by omega
        have HKF := Lib.hid hKF
        have HBX := Lib.hid (And.intro hBF (And.intro hGb hb2w))
        clear hwF hK5 hb5 hB25 hKF hBF hGb hb2w
        go_wp2_with fail
        obtain ⟨WB, hWB⟩ : ∃ WB, WB = ((wF.setCell ⟨b2, 2 * i * 4 + 2, none⟩ (.int .i64 ep)).setCell ⟨b2, 2 * i * 4, none⟩ (.int .i64 pub)) := ⟨_, rfl⟩
        rw [← hWB]
        have hgWB : wF.grownBy WB (some b2) := by rw [hWB]; exact (grownBy_set _ _ _ _).trans (grownBy_set _ _ _ _)
        have hKB : OwnK w WB w2.heap.size b2 n n (setK F d i ep pub 0) uv := by
          rw [hWB]
          refine ((HKF.out.setEp h2in ep).setPub h2in pub).congr fun y hy => ?_
          unfold setK
          by_cases e1 : y = 2 * i
          · simp [e1]
          · simp [e1]
        have hbB : Below w2.heap.size w2 WB := HBX.out.1.grown hgWB HBX.out.1.size (fun q hq => by obtain rfl : b2 = q := Option.some.inj hq; exact HBX.out.2.2)
        have hbxB : WB.cell? ⟨w4.heap.size, 0, none⟩ = some (.slice (some ⟨b2, 0, none⟩) n n) := hgWB.cell hbx (fun e => HBX.out.2.1 (Option.some.inj e))
        have HKB := Lib.hid hKB
        have HBB := Lib.hid hbB
        have hTB : Tab WB := HD.out.2.2.1.below hpos (f0.trans (hbB.mono f0.size))
        clear hWB hgWB hKB hbB hbx hGlt x0 x1 x2 x3 xf0 xf2 hb2F e0 e1 e2 e3 e4 e5 HKF
        refine (hL WB).mono ?_
        rintro e' w6 ⟨rfl, hb6⟩
        go_wp2_with fail
        refine (dir31 d i L HD.out.1.hd HD.out.2.1 HD.out.2.2.2.1 w6 (hTB.below (by have := hTB.pos; omega) hb6)).mono ?_
        rintro e' w7 ⟨vd, rfl, hvd, hvb, hb7⟩
        obtain ⟨Ad, cd, rfl, -, -, -⟩ := id hvd
        have hdl : (natL (dirs d i)).length = d := by unfold natL; rw [List.length_map, dirs_length]
        rw [hdl] at hvd hvb ⊢
        have hb67 : Below WB.heap.size WB w7 := hb6.trans (hb7.mono hb6.size)
        have hB27 : Below w2.heap.size w2 w7 := HBB.out.trans (hb67.mono HBB.out.size)
        have HB7 := Lib.hid (HB2.out.under2 hB27 f4)
        have HK7 := Lib.hid (HKB.out.below hb67)
        have hbx7 := (hb67.cell (World.block_lt_of_cell? _ _ hbxB)).trans hbxB
        have hb26 : b2 < w6.heap.size := Nat.lt_of_lt_of_le HKB.out.blt hb6.size
        have HVD := Lib.hid (And.intro hvd hvb)
        have HB27 := Lib.hid hB27
        have hd3 : d ≤ 3 := HD.out.1.hd
        have HGB := Lib.hid HBX.out.2
        clear hvd hvb hb6 hb7 hTB hb67 hB27 hbxB HKB HBB HBX
        go_wp2_with fail
        go_loopg [81] (d + 1) (fun g v81 wr => ∃ (k : Nat) (uv' : Nat → Value), k ≤ d ∧ k + g = d + 1 ∧ v81 = .int .i64 k ∧ OwnK w wr w2.heap.size b2 n n (setK F d i ep pub k) uv' ∧ w7.grownBy wr (some b2))
        case atStart => exact ⟨0, uv, by omega, by omega, rfl, HK7.out, World.grownBy.refl _ _⟩
        case round =>
          obtain ⟨k, uv', hk, hg2, rfl, hK, hM⟩ := hrel
          have HG2 := Lib.hid hg2
          have HK := Lib.hid hK
          have HM := Lib.hid hM
          have hsr := hM.size
          have hbr : b2 < wr.heap.size := hK.blt
          have hbox := World.grownBy.cell hM hbx7 (fun e => HGB.out.1 (Option.some.inj e))
          have hGr := World.block_lt_of_cell? _ _ hbox
          clear hg2
          by_cases hlt2 : k < d
          · obtain ⟨x, hx, hxn, hxo, hxt, htk⟩ := dirs_at hd3 (show i < 2 ^ d by rw [← HD.out.2.1]; exact HD.out.2.2.2.1) hlt2
            have hxN : x < n := by rw [HD.out.1.hn]; exact hxn
            obtain ⟨bd, od, rfl, cd0⟩ := HVD.out.1.at (natL_get hx)
            have hbd1 : w6.heap.size ≤ bd := HVD.out.2 bd rfl
            have cdk := World.grownBy.cell hM cd0 (fun e => by have : bd = b2 := Option.some.inj e; omega)
            have hbdr : bd < wr.heap.size := World.block_lt_of_cell? _ _ cdk
            obtain ⟨x0, x1, x2, x3⟩ := hK.cells hxN
            have xf0 := hK.row.frozen (x * 4)
            have xf1 := hK.row.frozen (x * 4 + 1)
            have xf2 := hK.row.frozen (x * 4 + 2)
            have xf3 := hK.row.frozen (x * 4 + 3)
            have j1 : (0 : Int) ≤ (k : Int) := by omega
            have j2 : (k : Int) < (d : Int) := by omega
            have j4 : (0 : Int) ≤ (x : Int) := by omega
            have j5 : (x : Int) < (n : Int) := by omega
            have HX := Lib.hid (And.intro htk (show x ≠ 2 * i by omega))
            clear hx hxt htk cd0 hK hM
            go_wp2_with fail
            go_roundg (gk - 1)
            case rel =>
              refine ⟨k + 1, _, by omega, by have := HG2.out; omega, by go_num, (HK.out.setNode hxN 0 0 0 (by decide)).congr fun y hy => ?_, (((HM.out.trans (grownBy_set _ _ _ _)).trans (grownBy_set _ _ _ _)).trans (grownBy_set _ _ _ _)).trans (grownBy_set _ _ _ _)⟩
              unfold setK
              rw [HX.out.1]
              by_cases e2 : y = x
              · have := HX.out.2
                simp [e2, zeroN, this]
              · simp [e2]
            case measure => have := HG2.out; omega
          · obtain rfl : k = d := by omega
            have hM8 := Lib.hid hM
            have hK8 : OwnK w wr w2.heap.size b2 n n (setF F k i ep pub []) uv' := HK.out.congr fun y hy => by
              unfold setK setF
              rw [show (dirs k i).take k = dirs k i from List.take_of_length_le (by rw [dirs_length]; exact Nat.le_refl _)]
              rfl
            have HK8 := Lib.hid hK8
            have hB28 : Below w2.heap.size w2 wr := HB27.out.grown hM HB27.out.size (fun q hq => by obtain rfl : b2 = q := Option.some.inj hq; exact HGB.out.2)
            have HB28 := Lib.hid hB28
            obtain ⟨w8, rfl⟩ : ∃ w8, w8 = wr := ⟨_, rfl⟩
            have HBOX8 := Lib.hid hbox
            clear hK hM hK8 hB28 hbox hGr hbx7 HVD
            go_wp2_with fail
            go_loopg [93] 1 (fun g v93 wr => ∃ (j : Nat) (uv' : Nat → Value), j ≤ 0 ∧ j + g = 1 ∧ v93 = .int .i64 j ∧ OwnK w wr w2.heap.size b2 n n (setF F k i ep pub []) uv' ∧ w8.grownBy wr (some b2))
            case atStart => exact ⟨0, uv', by omega, by omega, rfl, HK8.out, World.grownBy.refl _ _⟩
            case round =>
              obtain ⟨j, uv2, hj, hg3, rfl, hK, hM⟩ := hrel
              have HG3 := Lib.hid hg3
              have HK9 := Lib.hid hK
              have HM9 := Lib.hid hM
              have hbr9 : b2 < wr.heap.size := hK.blt
              have hbox := World.grownBy.cell hM HBOX8.out (fun e => HGB.out.1 (Option.some.inj e))
              have hGr := World.block_lt_of_cell? _ _ hbox
              have hB29 : Below w2.heap.size w2 wr := HB28.out.grown hM HB28.out.size (fun q hq => by obtain rfl : b2 = q := Option.some.inj hq; exact HGB.out.2)
              have HB29 := Lib.hid hB29
              clear hg3
              by_cases hlt3 : j < 0
              · exfalso
                omega
              · obtain rfl : j = 0 := by omega
                obtain ⟨z0, z1, z2, z3, z4⟩ := HB2.out.under2 HB29.out f4
                have z8 := (HB2.out.under2 HB29.out f4).stored
                have hKe := HK9.out.setFar (a := ⟨w.heap.size + 1, 0, none⟩) (by show b2 ≠ w.heap.size + 1; have := HGB.out.2; omega) (fun y hy e => by have h1 := (World.ownsRow.lt (HK9.out.un y hy hy) _ e).1; have h2 : w2.heap.size ≤ w.heap.size + 1 := h1; omega) (.slice (some ⟨b2, 0, none⟩) n n)
                have HKE := Lib.hid hKe
                clear hK hM hKe hB29
                go_wp2_with fail
                refine bodyPost_ret (by simp [results, Tryz.results32, go_sem, z8]; rfl) rfl ?_
                refine ⟨⟨_, rfl, ?_⟩, z0.setCell (by show w.heap.size ≤ w.heap.size + 1; omega) _⟩
                exact HKE.out.trO (by unfold maxLen; omega) (by omega)
    · go_simp
      refine hK.out _ _ ?_ (fun hHeldN => ?_)
      · exact held2_alloc hHeld
      clear hHeld
      have hHeld := hHeldN
      clear hHeldN
      clear hK K
      try simp only [Act.put, List.setIfInBounds_toArray, List.set_cons_zero, List.set_cons_succ]
      refine wpPh_before (i := 2) (by kernel_rfl) (by simp only [List.getElem?_toArray, List.getElem?_cons_succ, List.getElem?_cons_zero]; rfl) (fun K hK => ?_)
      go_simp
      with_reducible refine (hL _).mono ?_
      rintro e' w4 ⟨rfl, hb4⟩
      obtain ⟨x41, x42, x43⟩ := box_first hb4
      go_wp2_with fail
      refine hK.out _ _ ?_ (fun hHeldN => ?_)
      · exact held2_call hHeld hb4
      clear hHeld
      have hHeld := hHeldN
      clear hHeldN
      clear hK K
      try simp only [Act.put, List.setIfInBounds_toArray, List.set_cons_zero, List.set_cons_succ]
      refine wpPh_before (i := 3) (by kernel_rfl) (by simp only [List.getElem?_toArray, List.getElem?_cons_succ, List.getElem?_cons_zero]; rfl) (fun K hK => ?_)
      go_simp
      with_reducible refine (hTW _ (held2_mid f0 hHeld)).mono ?_
      rintro e' w5 ⟨b2, uv, rfl, hK5, hb5⟩
      obtain ⟨x51, x52, x53⟩ := box_next hb5 x41 x42 x43
      have hHeld0 := Lib.hid hHeld
      go_wp2_with fail
      refine hK.out _ _ ?_ (fun hHeldN => ?_)
      · exact held2_call hHeld hb5
      clear hHeld
      have hHeld := hHeldN
      clear hHeldN
      clear hK K
      try simp only [Act.put, List.setIfInBounds_toArray, List.set_cons_zero, List.set_cons_succ]
      refine wpPh_behind (i := 5) (by kernel_rfl) (by simp only [List.getElem?_toArray, List.getElem?_cons_succ, List.getElem?_cons_zero]; rfl) (by kernel_rfl) (fun K hK => ?_)
      go_simp
      refine hK.out _ _ ?_
      clear hK K
      try simp only [Act.put, List.setIfInBounds_toArray, List.set_cons_zero, List.set_cons_succ]
      refine wpPh_done (by kernel_rfl) ?_ _
      have hB25 : Below w2.heap.size w2 w5 := hHeld0.out.2.2.trans (hb5.mono hHeld0.out.2.2.size)
      have hbx : (w5.setCell ⟨w2.heap.size, 0, none⟩ (.slice (some ⟨b2, 0, none⟩) n n)).cell? ⟨w2.heap.size, 0, none⟩ = some (.slice (some ⟨b2, 0, none⟩) n n) := by apply World.cell?_setCell_same; exact x51
      have hKF := (((hK5.elsewhere (a := ⟨w2.heap.size, 0, none⟩) (by exact x43) (.slice (some ⟨b2, 0, none⟩) n n)).lower hHeld0.out.2.2.size).base (w1 := w))
      have hBF := hB25.setCell (p := ⟨w2.heap.size, 0, none⟩) (Nat.le_refl _) (.slice (some ⟨b2, 0, none⟩) n n)
      have hGb : w2.heap.size ≠ b2 := by have := hK5.hb; omega
      have hb2w : w2.heap.size ≤ b2 := Nat.le_trans hHeld0.out.2.2.size hK5.hb
      clear x41 x42 x43 x51 x52 x53
      obtain ⟨wF, hwF⟩ : ∃ wF, wF = w5.setCell ⟨w2.heap.size, 0, none⟩ (.slice (some ⟨b2, 0, none⟩) n n) := ⟨_, rfl⟩
      rw [← hwF] at hbx hKF hBF ⊢
      have hGlt := World.block_lt_of_cell? _ _ hbx
      obtain ⟨x0, x1, x2, x3⟩ := hKF.cells h2in
      have xf0 := hKF.row.frozen (2 * i * 4)
      have xf2 := hKF.row.frozen (2 * i * 4 + 2)
      have hb2F := hKF.blt
      have HBF := Lib.hid (HB2.out.under2 hBF f4)
      obtain ⟨e0, e1, e2, e3, e4⟩ := HB2.out.under2 hBF f4
      have e5 : w.heap.size < wF.heap.size := by omega
      have e6 : ¬ (b2 = w.heap.size) := by omega
      have e7 : ¬ (w.heap.size = b2) := by omega
      have HKF := Lib.hid hKF
      have HBX := Lib.hid (And.intro hBF (And.intro hGb hb2w))
      clear hwF hK5 hb5 hB25 hKF hBF hGb hb2w
      go_wp2_with fail
      obtain ⟨WB, hWB⟩ : ∃ WB, WB = ((wF.setCell ⟨b2, 2 * i * 4 + 2, none⟩ (.int .i64 ep)).setCell ⟨b2, 2 * i * 4, none⟩ (.int .i64 pub)) := ⟨_, rfl⟩
      rw [← hWB]
      have hgWB : wF.grownBy WB (some b2) := by rw [hWB]; exact (grownBy_set _ _ _ _).trans (grownBy_set _ _ _ _)
      have hKB : OwnK w WB w2.heap.size b2 n n (setK F d i ep pub 0) uv := by
        rw [hWB]
        refine ((HKF.out.setEp h2in ep).setPub h2in pub).congr fun y hy => ?_
        unfold setK
        by_cases e1 : y = 2 * i
        · simp [e1]
        · simp [e1]
      have hbB : Below w2.heap.size w2 WB := HBX.out.1.grown hgWB HBX.out.1.size (fun q hq => by obtain rfl : b2 = q := Option.some.inj hq; exact HBX.out.2.2)
      have hbxB : WB.cell? ⟨w2.heap.size, 0, none⟩ = some (.slice (some ⟨b2, 0, none⟩) n n) := hgWB.cell hbx (fun e => HBX.out.2.1 (Option.some.inj e))
      have HKB := Lib.hid hKB
      have HBB := Lib.hid hbB
      have hTB : Tab WB := HD.out.2.2.1.below hpos (f0.trans (hbB.mono f0.size))
      clear hWB hgWB hKB hbB hbx hGlt x0 x1 x2 x3 xf0 xf2 hb2F e0 e1 e2 e3 e4 e5 HKF
      refine (hL WB).mono ?_
      rintro e' w6 ⟨rfl, hb6⟩
      go_wp2_with fail
      refine (dir31 d i L HD.out.1.hd HD.out.2.1 HD.out.2.2.2.1 w6 (hTB.below (by have := hTB.pos; omega) hb6)).mono ?_
      rintro e' w7 ⟨vd, rfl, hvd, hvb, hb7⟩
      obtain ⟨Ad, cd, rfl, -, -, -⟩ := id hvd
      have hdl : (natL (dirs d i)).length = d := by unfold natL; rw [List.length_map, dirs_length]
      rw [hdl] at hvd hvb ⊢
      have hb67 : Below WB.heap.size WB w7 := hb6.trans (hb7.mono hb6.size)
      have hB27 : Below w2.heap.size w2 w7 := HBB.out.trans (hb67.mono HBB.out.size)
      have HB7 := Lib.hid (HB2.out.under2 hB27 f4)
      have HK7 := Lib.hid (HKB.out.below hb67)
      have hbx7 := (hb67.cell (World.block_lt_of_cell? _ _ hbxB)).trans hbxB
      have hb26 : b2 < w6.heap.size := Nat.lt_of_lt_of_le HKB.out.blt hb6.size
      have HVD := Lib.hid (And.intro hvd hvb)
      have HB27 := Lib.hid hB27
      have hd3 : d ≤ 3 := HD.out.1.hd
      have HGB := Lib.hid HBX.out.2
      clear hvd hvb hb6 hb7 hTB hb67 hB27 hbxB HKB HBB HBX
      go_wp2_with fail
      go_loopg [81] (d + 1) (fun g v81 wr => ∃ (k : Nat) (uv' : Nat → Value), k ≤ d ∧ k + g = d + 1 ∧ v81 = .int .i64 k ∧ OwnK w wr w2.heap.size b2 n n (setK F d i ep pub k) uv' ∧ w7.grownBy wr (some b2))
      case atStart => exact ⟨0, uv, by omega, by omega, rfl, HK7.out, World.grownBy.refl _ _⟩
      case round =>
        obtain ⟨k, uv', hk, hg2, rfl, hK, hM⟩ := hrel
        have HG2 := Lib.hid hg2
        have HK := Lib.hid hK
        have HM := Lib.hid hM
        have hsr := hM.size
        have hbr : b2 < wr.heap.size := hK.blt
        have hbox := World.grownBy.cell hM hbx7 (fun e => HGB.out.1 (Option.some.inj e))
        have hGr := World.block_lt_of_cell? _ _ hbox
        clear hg2
        by_cases hlt2 : k < d
        · obtain ⟨x, hx, hxn, hxo, hxt, htk⟩ := dirs_at hd3 (show i < 2 ^ d by rw [← HD.out.2.1]; exact HD.out.2.2.2.1) hlt2
          have hxN : x < n := by rw [HD.out.1.hn]; exact hxn
          obtain ⟨bd, od, rfl, cd0⟩ := HVD.out.1.at (natL_get hx)
          have hbd1 : w6.heap.size ≤ bd := HVD.out.2 bd rfl
          have cdk := World.grownBy.cell hM cd0 (fun e => by have : bd = b2 := Option.some.inj e; omega)
          have hbdr : bd < wr.heap.size := World.block_lt_of_cell? _ _ cdk
          obtain ⟨x0, x1, x2, x3⟩ := hK.cells hxN
          have xf0 := hK.row.frozen (x * 4)
          have xf1 := hK.row.frozen (x * 4 + 1)
          have xf2 := hK.row.frozen (x * 4 + 2)
          have xf3 := hK.row.frozen (x * 4 + 3)
          have j1 : (0 : Int) ≤ (k : Int) := by omega
          have j2 : (k : Int) < (d : Int) := by omega
          have j4 : (0 : Int) ≤ (x : Int) := by omega
          have j5 : (x : Int) < (n : Int) := by omega
          have HX := Lib.hid (And.intro htk (show x ≠ 2 * i by omega))
          clear hx hxt htk cd0 hK hM
          go_wp2_with fail
          go_roundg (gk - 1)
          case rel =>
            refine ⟨k + 1, _, by omega, by have := HG2.out; omega, by go_num, (HK.out.setNode hxN 0 0 0 (by decide)).congr fun y hy => ?_, (((HM.out.trans (grownBy_set _ _ _ _)).trans (grownBy_set _ _ _ _)).trans (grownBy_set _ _ _ _)).trans (grownBy_set _ _ _ _)⟩
            unfold setK
            rw [HX.out.1]
            by_cases e2 : y = x
            · have := HX.out.2
              simp [e2, zeroN, this]
            · simp [e2]
          case measure => have := HG2.out; omega
        · obtain rfl : k = d := by omega
          have hM8 := Lib.hid hM
          have hK8 : OwnK w wr w2.heap.size b2 n n (setF F k i ep pub []) uv' := HK.out.congr fun y hy => by
            unfold setK setF
            rw [show (dirs k i).take k = dirs k i from List.take_of_length_le (by rw [dirs_length]; exact Nat.le_refl _)]
            rfl
          have HK8 := Lib.hid hK8
          have hB28 : Below w2.heap.size w2 wr := HB27.out.grown hM HB27.out.size (fun q hq => by obtain rfl : b2 = q := Option.some.inj hq; exact HGB.out.2)
          have HB28 := Lib.hid hB28
          obtain ⟨w8, rfl⟩ : ∃ w8, w8 = wr := ⟨_, rfl⟩
          have HBOX8 := Lib.hid hbox
          clear hK hM hK8 hB28 hbox hGr hbx7 HVD
          go_wp2_with fail
          go_loopg [93] 1 (fun g v93 wr => ∃ (j : Nat) (uv' : Nat → Value), j ≤ 0 ∧ j + g = 1 ∧ v93 = .int .i64 j ∧ OwnK w wr w2.heap.size b2 n n (setF F k i ep pub []) uv' ∧ w8.grownBy wr (some b2))
          case atStart => exact ⟨0, uv', by omega, by omega, rfl, HK8.out, World.grownBy.refl _ _⟩
          case round =>
            obtain ⟨j, uv2, hj, hg3, rfl, hK, hM⟩ := hrel
            have HG3 := Lib.hid hg3
            have HK9 := Lib.hid hK
            have HM9 := Lib.hid hM
            have hbr9 : b2 < wr.heap.size := hK.blt
            have hbox := World.grownBy.cell hM HBOX8.out (fun e => HGB.out.1 (Option.some.inj e))
            have hGr := World.block_lt_of_cell? _ _ hbox
            have hB29 : Below w2.heap.size w2 wr := HB28.out.grown hM HB28.out.size (fun q hq => by obtain rfl : b2 = q := Option.some.inj hq; exact HGB.out.2)
            have HB29 := Lib.hid hB29
            clear hg3
            by_cases hlt3 : j < 0
            · exfalso
              omega
            · obtain rfl : j = 0 := by omega
              obtain ⟨z0, z1, z2, z3, z4⟩ := HB2.out.under2 HB29.out f4
              have z8 := (HB2.out.under2 HB29.out f4).stored
              have hKe := HK9.out.setFar (a := ⟨w.heap.size + 1, 0, none⟩) (by show b2 ≠ w.heap.size + 1; have := HGB.out.2; omega) (fun y hy e => by have h1 := (World.ownsRow.lt (HK9.out.un y hy hy) _ e).1; have h2 : w2.heap.size ≤ w.heap.size + 1 := h1; omega) (.slice (some ⟨b2, 0, none⟩) n n)
              have HKE := Lib.hid hKe
              clear hK hM hKe hB29
              go_wp2_with fail
              refine bodyPost_ret (by simp [results, Tryz.results32, go_sem, z8]; rfl) rfl ?_
              refine ⟨⟨_, rfl, ?_⟩, z0.setCell (by show w.heap.size ≤ w.heap.size + 1; omega) _⟩
              exact HKE.out.trO (by unfold maxLen; omega) (by omega)
end Go.Proofs.YtnahhclflnjmcaaGreatDoor
