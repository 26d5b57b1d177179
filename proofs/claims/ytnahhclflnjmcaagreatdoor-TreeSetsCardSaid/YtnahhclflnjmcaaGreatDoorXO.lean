/- Chapter 08's own SetPath, where it is done. -/
import Derived.Test.YtnahhclflnjmcaaGreatDoorXN
import Derived.Test.YtnahhclflnjmcaaGreatDoorTZ
import Derived.Test.YtnahhclflnjmcaaGreatDoorK0
namespace Go.Proofs.YtnahhclflnjmcaaGreatDoor
open Go Go.RowKit Go.Proofs.YtnahhclflnjmcaaGreatDoor.Bk
set_option linter.unusedVariables false
set_option linter.unusedSimpArgs false
set_option maxRecDepth 100000

theorem RwT.setPub {w : World} {B n b c y : Nat} {F : Nat → Node} {uv : Nat → Value} (h : RwT w B (.slice (some ⟨b, 0, none⟩) n c) n F uv) (hy : y < n) (p : Int) :
    RwT (w.setCell ⟨b, y * 4, none⟩ (.int .i64 p)) B (.slice (some ⟨b, 0, none⟩) n c) n (fun z => if z = y then { F y with pub := p } else F z) uv := by
  obtain ⟨b', c', cur, e, k2, k3, k4, k5, k6, k6', k7⟩ := h.at (by omega)
  injection e with e1 _ e3
  injection e1 with e1
  injection e1 with e1
  subst e1 e3
  have hg := grown_setCell w ⟨b, y * 4, none⟩ (.int .i64 p)
  have hz := heap_setCell_same w b (y * 4) cur 95 (.int .i64 p) k2
  refine ⟨⟨ndCells_length _ _ _, .inr ⟨b, c, _, rfl, k3, hz, k4, k5, by simpa using k6', ?_⟩⟩, fun z hz => ?_, h.nb, fun z hz => ?_⟩
  · apply List.ext_getElem?
    intro j
    by_cases hj : j < n * 4
    · rw [List.getElem?_take_of_lt hj, Array.getElem?_toList, ndCells_get _ _ hj]
      by_cases e : j = y * 4
      · subst e
        rw [Array.getElem?_setIfInBounds_self_of_lt (by omega), cellF0, if_pos rfl]
      · rw [Array.getElem?_setIfInBounds_ne (fun e2 => e e2.symm), k7 j hj]
        congr 1
        unfold cellF
        by_cases e2 : j / 4 = y
        · have cn : ¬ j % 4 = 0 := by omega
          simp only [if_pos e2, if_neg cn, e2]
          rfl
        · simp only [if_neg e2]
    · rw [List.getElem?_eq_none (by rw [List.length_take]; omega), List.getElem?_eq_none (by rw [ndCells_length]; omega)]
  · have hk := own_kept (h.un z hz) hg fun q hq e2 => h.nb z hz q hq e2
    by_cases e : z = y
    · simp only [if_pos e]
      rw [e] at hk ⊢
      exact hk
    · simp only [if_neg e]
      exact hk
  · by_cases e : z = y
    · simp only [if_pos e]; exact h.wf y hy
    · simp only [if_neg e]; exact h.wf z hz
theorem RX.setPub {S g k : Nat} {G : Nat → Node} {W : World} {uv : Nat → Value} {b c y : Nat} (h : RX S g k G W (.slice (some ⟨b, 0, none⟩) k c) uv) (hy : y < k) (p : Int) :
    RX S g k (fun z => if z = y then { G y with pub := p } else G z) (W.setCell ⟨b, y * 4, none⟩ (.int .i64 p)) (.slice (some ⟨b, 0, none⟩) k c) uv := by
  have hbg : b ≠ g := h.nv b rfl
  exact ⟨(heap_setCell_other W ⟨b, y * 4, none⟩ g _ (fun e => hbg e.symm)).trans h.box, h.tr.setPub hy p, h.nv, h.nu, h.hg⟩
theorem RwT.setEp {w : World} {B n b c y : Nat} {F : Nat → Node} {uv : Nat → Value} (h : RwT w B (.slice (some ⟨b, 0, none⟩) n c) n F uv) (hy : y < n) (p : Int) :
    RwT (w.setCell ⟨b, y * 4 + 2, none⟩ (.int .i64 p)) B (.slice (some ⟨b, 0, none⟩) n c) n (fun z => if z = y then { F y with ep := p } else F z) uv := by
  obtain ⟨b', c', cur, e, k2, k3, k4, k5, k6, k6', k7⟩ := h.at (by omega)
  injection e with e1 _ e3
  injection e1 with e1
  injection e1 with e1
  subst e1 e3
  have hg := grown_setCell w ⟨b, y * 4 + 2, none⟩ (.int .i64 p)
  have hz := heap_setCell_same w b (y * 4 + 2) cur 95 (.int .i64 p) k2
  refine ⟨⟨ndCells_length _ _ _, .inr ⟨b, c, _, rfl, k3, hz, k4, k5, by simpa using k6', ?_⟩⟩, fun z hz => ?_, h.nb, fun z hz => ?_⟩
  · apply List.ext_getElem?
    intro j
    by_cases hj : j < n * 4
    · rw [List.getElem?_take_of_lt hj, Array.getElem?_toList, ndCells_get _ _ hj]
      by_cases e : j = y * 4 + 2
      · subst e
        rw [Array.getElem?_setIfInBounds_self_of_lt (by omega), cellF2, if_pos rfl]
      · rw [Array.getElem?_setIfInBounds_ne (fun e2 => e e2.symm), k7 j hj]
        congr 1
        unfold cellF
        by_cases e2 : j / 4 = y
        · have cn : ¬ j % 4 = 2 := by omega
          simp only [if_pos e2, if_neg cn, e2]
          rfl
        · simp only [if_neg e2]
    · rw [List.getElem?_eq_none (by rw [List.length_take]; omega), List.getElem?_eq_none (by rw [ndCells_length]; omega)]
  · have hk := own_kept (h.un z hz) hg fun q hq e2 => h.nb z hz q hq e2
    by_cases e : z = y
    · simp only [if_pos e]
      rw [e] at hk ⊢
      exact hk
    · simp only [if_neg e]
      exact hk
  · by_cases e : z = y
    · simp only [if_pos e]; exact h.wf y hy
    · simp only [if_neg e]; exact h.wf z hz
theorem RX.setEp {S g k : Nat} {G : Nat → Node} {W : World} {uv : Nat → Value} {b c y : Nat} (h : RX S g k G W (.slice (some ⟨b, 0, none⟩) k c) uv) (hy : y < k) (p : Int) :
    RX S g k (fun z => if z = y then { G y with ep := p } else G z) (W.setCell ⟨b, y * 4 + 2, none⟩ (.int .i64 p)) (.slice (some ⟨b, 0, none⟩) k c) uv := by
  have hbg : b ≠ g := h.nv b rfl
  exact ⟨(heap_setCell_other W ⟨b, y * 4 + 2, none⟩ g _ (fun e => hbg e.symm)).trans h.box, h.tr.setEp hy p, h.nv, h.nu, h.hg⟩
/-- What SetPath leaves. -/
structure RSetYes (w : World) (n : Nat) (G : Nat → Node) (e : Ending) (w' : World) : Prop where
  out : ∃ v' uv B, e = .returned (.tuple #[.agg #[v'], .int .i64 0]) ∧ w.heap.size ≤ B ∧ RwT w' B v' n G uv
  bel : Below w.heap.size w w'
theorem setK_full (F : Nat → Node) (d i : Nat) (ep pub : Int) : setK F d i ep pub d = setF F d i ep pub [] := by
  funext y
  unfold setK setF
  rw [show (dirs d i).take d = dirs d i from List.take_of_length_le (by rw [dirs_length]; exact Nat.le_refl _)]
  rfl
theorem setF_node {F : Nat → Node} {d i : Nat} {ep pub : Int} {zs : List (Nat × Int)} {x : Nat} {q : Int} (hxd : x ∈ dirs d i) (hx2 : x ≠ 2 * i) (hno : ¬ ∃ p, p ∈ zs ∧ p.1 = x) (y : Nat) :
    (if y = x then (⟨q, 0, 0, []⟩ : Node) else setF F d i ep pub zs y) = setF F d i ep pub (zs ++ [(x, q)]) y := by
  rw [← setF_step rfl hxd hx2 hno]
  by_cases e : y = x
  · rw [if_pos e, if_pos e]
    have hnf : zs.find? (fun p => p.1 == x) = none := by
      rw [List.find?_eq_none]
      intro p hp e
      exact hno ⟨p, hp, by simpa using e⟩
    unfold setF
    rw [if_neg hx2, hnf]
    simp [hxd, zeroN]
  · rw [if_neg e, if_neg e]
theorem zip_take {pl : List Nat} {ps : List Int} {j x : Nat} {q : Int} (hx : pl[j]? = some x) (hq : ps[j]? = some q) : (pl.zip ps).take (j + 1) = (pl.zip ps).take j ++ [(x, q)] := by
  rw [List.take_add_one, (List.getElem?_zip_eq_some (z := (x, q))).2 ⟨hx, hq⟩]
  rfl
theorem zip_no {pl : List Nat} {ps : List Int} {j x : Nat} (hnd : x ∉ pl.take j) : ¬ ∃ p, p ∈ (pl.zip ps).take j ∧ p.1 = x := fun h => hnd (by
  obtain ⟨pp, hp1, hp2⟩ := h
  obtain ⟨jj, hjj⟩ := List.mem_iff_getElem?.1 hp1
  have hjl : jj < j := by have := (List.getElem?_eq_some_iff.1 hjj).1; simp at this; omega
  rw [List.getElem?_take_of_lt hjl] at hjj
  have := (List.getElem?_zip_eq_some.1 hjj).1
  rw [hp2] at this
  exact List.mem_of_getElem? (by rw [List.getElem?_take_of_lt hjl]; exact this))
set_option maxHeartbeats 8000000 in
theorem rset_yes (v : Value) (n d i : Nat) (F : Nat → Node) (ep pub : Int) (vp : Value) (ps : List Int) (w : World) (hpos : 0 < w.heap.size) (hR : TrR w v n F) (hO : Ok d n F) (hil : i < 2 ^ d) (hp : 1 ≤ (F (2 * i)).pub) (hep : 0 ≤ ep) (hpub : 1 ≤ pub)
    (hps : Ints w vp ps) (hlen : ps.length = (rowsM F d i).length) (hp1 : ∀ x ∈ ps, 1 ≤ x) :
    Calls Tryz.prog 33 #[.agg #[v], .int .i64 i, .int .i64 ep, .int .i64 pub, vp] w fun e w' => RSetYes w n (setF F d i ep pub (((rowsM F d i).map (·.1)).zip ps)) e w' := by
  have hz : chk n F = true := chk_iff.2 (.inr ⟨d, hO⟩)
  have hn15 := hO.n_le
  have hun8 : ∀ y, y < n → (F y).un.length ≤ 8 := fun y hy => hO.un_len hy
  have hun : ∀ y, y < n → (F y).un.length ≤ 1000000 := fun y hy => Nat.le_trans (hun8 y hy) (by decide)
  have hC : ∀ W, Below w.heap.size w W → Calls Tryz.prog 15 #[.agg #[v]] W fun e w' => e = .returned (.int .i64 (errB (chk n F))) ∧ Below W.heap.size W w' := fun W hW =>
    rcheck v n F W (hR.below hW) hun
  rw [hz, errB_true] at hC
  have h2s := two_succ d
  have h2p := two_pos d
  have h8 : 2 ^ d ≤ 2 ^ 3 := Nat.pow_le_pow_right (by decide) hO.hd
  have hi8 : i < 8 := by omega
  have hrE : rowsE n F i = 0 := by
    unfold rowsE
    rw [hz, if_neg (by decide), hO.lvs, Int.toNat_natCast, if_neg]
    omega
  have hpl : pathL n F i = (rowsM F d i).map (·.1) := by
    unfold pathL rowsL
    rw [hrE, if_pos rfl, hO.lvs, lg_pow hO.hd, Int.toNat_natCast]
  have hP : ∀ W, Below w.heap.size w W → Calls Tryz.prog 39 #[.agg #[v], .int .i64 i] W fun e w' => ∃ v', e = .returned (.tuple #[v', .int .i64 0]) ∧ OwnI w' W.heap.size v' (natL ((rowsM F d i).map (·.1))) ∧ Below W.heap.size W w' := fun W hW => by
    have := rpath v n F i W (Nat.lt_of_lt_of_le hpos hW.size) (hR.below hW) hun ((by decide : ∀ i : Fin 8, (Lit.int .i64 ((i.val : Nat) : Int)).wf = true) ⟨i, hi8⟩)
    rw [hrE, hpl] at this
    exact this.mono fun e w' h => by obtain ⟨⟨v', h1, h2⟩, h3⟩ := h; exact ⟨v', h1, h2, h3⟩
  have HTW := Lib.hid (fun (W : World) (hW : Below w.heap.size w W) => rtwin v n F W (hR.below hW) (by omega) hun)
  obtain ⟨A, c, rfl, -, -, -⟩ := hR
  have hL := fun w => rleaves A n c w
  have HB0 := Lib.hid (TwoB.start w (.slice A n c))
  rw [hO.lvs] at hL
  obtain ⟨N2, hN2⟩ : ∃ N2, N2 = 2 ^ d := ⟨_, rfl⟩
  rw [← hN2] at hL
  have HD := Lib.hid (show d ≤ 3 ∧ N2 = 2 ^ d ∧ n = 2 * 2 ^ d - 1 ∧ i < N2 from ⟨hO.hd, hN2, by rw [hO.hn]; omega, by rw [hN2]; exact hil⟩)
  have hpn : ((rowsM F d i).map (·.1)).length ≤ 3 := by
    rw [List.length_map]
    have := rowsK_length F i d
    have := hO.hd
    show (rowsK F i d).length ≤ 3
    omega
  have hdis : ∀ x ∈ (rowsM F d i).map (·.1), x ∈ dirs d i := fun x hx => rowsM_mem hx
  have HND := Lib.hid (fun (j x : Nat) (hx : ((rowsM F d i).map (·.1))[j]? = some x) => nodup_take (rowsM_nodup hO.hd hil) hx)
  have hlen2 : ps.length = ((rowsM F d i).map (·.1)).length := by rw [List.length_map]; exact hlen
  generalize (rowsM F d i).map (·.1) = pl at *
  obtain ⟨Ap, cp, rfl, -, -, -⟩ := id hps
  have HPS := Lib.hid (And.intro hps (And.intro hp1 hdis))
  have hnl : (natL pl).length = pl.length := by unfold natL; rw [List.length_map]
  have t1 : decide (ep < 0) = false := decide_eq_false (by omega)
  have t2 : decide (pub < 1) = false := decide_eq_false (by omega)
  generalize hpl2 : pl.length = pn at *
  rw [hlen2]
  have HLN := Lib.hid (And.intro hpl2 hlen2)
  clear hz hn15 hun8 hun h2s h2p h8 hrE hpl hN2 hdis hlen hlen2 hps hp1 hep hpub hp hO hil hpl2
  go_enter Tryz.func33, Tryz.ntmps33
  go_wp2_with (go_at_call 15; refine (hC _ HB0.out.bel).mono ?_; rintro e' w1 ⟨rfl, hb1⟩; obtain ⟨d0, d1, d2, d3, d4⟩ := HB0.out.under hb1; have HB1 := Lib.hid (HB0.out.under hb1); have d5 : w.heap.size < w1.heap.size := by omega)
  refine (hP _ HB1.out.bel).mono ?_
  rintro e' w2 ⟨v2, rfl, ho2, hb2⟩
  obtain ⟨A2, c2, rfl⟩ := ho2.slice
  obtain ⟨f0, f1, f2, f3, f4⟩ := HB1.out.under hb2
  have HB2 := Lib.hid (HB1.out.under hb2)
  have f5 : w.heap.size < w2.heap.size := by omega
  have HQL := Lib.hid ho2.ints
  rw [hnl] at HQL ⊢
  clear ho2 hb1 hb2 d0 d1 d2 d3 d4 d5 hC hP HB1 HB0 hnl
  go_wp2_with fail
  go_loopg [14] (pn + 1) (fun gg v14 wr => ∃ j : Nat, j ≤ pn ∧ j + gg = pn + 1 ∧ v14 = .int .i64 (j : Int) ∧ w2 = wr)
  case atStart => exact ⟨0, by omega, by omega, rfl, rfl⟩
  case round =>
    obtain ⟨j, hj, hg, rfl, rfl⟩ := hrel
    have HG := Lib.hid hg
    clear hg
    by_cases hlt : j < pn
    · have j1 : (0 : Int) ≤ (j : Int) := by omega
      have j2 : (j : Int) < (pn : Int) := by omega
      obtain ⟨x, hx⟩ : ∃ x, ps[j]? = some x := ⟨ps[j]'(by have := HLN.out.2; omega), List.getElem?_eq_getElem _⟩
      obtain ⟨bp, op, e1, cp0⟩ := (HPS.out.1.below HB2.out.bel).at hx
      subst e1
      have hbp := World.block_lt_of_cell? _ _ cp0
      have t3 : decide (x < 1) = false := decide_eq_false (by have := HPS.out.2.1 x (List.mem_of_getElem? hx); omega)
      clear hx
      go_wp2_with fail
      go_roundg (gk - 1)
      case rel => exact ⟨j + 1, by omega, by have := HG.out; omega, by go_num, rfl⟩
      case measure => have := HG.out; omega
    · obtain rfl : j = pn := by omega
      clear hlt hj HG
      go_wp2_with fail
      refine (HTW.out _ HB2.out.bel).mono ?_
      rintro e' w4 ⟨⟨v', uv, rfl, hRw⟩, hb4⟩
      obtain ⟨A', c', rfl, -, -⟩ := hRw.slice
      have HB4 := Lib.hid (HB2.out.under hb4)
      obtain ⟨W5, hW5⟩ : ∃ W5, W5 = w4.alloc (.cells #[.slice A' n c'] 24) := ⟨_, rfl⟩
      have hX : RX w2.heap.size w4.heap.size n F W5 (.slice A' n c') uv := by
        rw [hW5]
        exact ⟨heap_alloc_new _ _, hRw.below ((Below.refl _ _).alloc (Nat.le_refl _) _), fun q hq => by have := (World.ownsRow.lt hRw.row q hq).2; omega, fun y hy q hq => by have := (World.ownsRow.lt (hRw.un y hy) q hq).2; omega, hb4.size⟩
      have hb5 : Below w4.heap.size w4 W5 := by rw [hW5]; exact (Below.refl _ _).alloc (Nat.le_refl _) _
      have HB5 := Lib.hid (HB4.out.under hb5)
      obtain ⟨S, hS⟩ : ∃ S, S = w2.heap.size := ⟨_, rfl⟩
      have hS2 : w.heap.size + 1 < S := by rw [hS]; exact f4
      obtain ⟨g, hg⟩ : ∃ g, g = w4.heap.size := ⟨_, rfl⟩
      have hSg : S ≤ g := by rw [hS, hg]; exact hb4.size
      have HS2 := Lib.hid hS
      have hb25 : Below S w2 W5 := by rw [hS]; exact hb4.trans (hb5.mono hb4.size)
      rw [← hS, ← hg] at hX
      obtain ⟨g0, g1, g2, g3, g4⟩ := HB4.out
      have g5 : w.heap.size < w4.heap.size := by omega
      clear hb4 hRw hb5 HTW f0 f1 f2 f3
      go_upto_region 14 with fail
      rw [← hW5, ← hg]
      clear hW5 g0 g1 g2 g3 g4 g5 HB4 hS f4 f5 hg
      have HS := Lib.hid (And.intro hS2 hSg)
      obtain ⟨hd, hN2, hNT, hat⟩ := HD.out
      have h2p := two_pos d
      have hiT : 2 * i < n := by omega
      obtain ⟨b, cb, cur, e9, hcur, hSb, hbl, hbg, hfit, hcc, hcm⟩ := hX.slice (by omega)
      injection e9 with e1 _ e3
      subst e1 e3
      obtain ⟨W6, hW6⟩ : ∃ W6, W6 = (W5.setCell ⟨b, 2 * i * 4 + 2, none⟩ (.int .i64 ep)).setCell ⟨b, 2 * i * 4, none⟩ (.int .i64 pub) := ⟨_, rfl⟩
      have hX2 : RX S g n (setK F d i ep pub 0) W6 (.slice (some ⟨b, 0, none⟩) n c') uv := by
        rw [hW6]
        refine ((hX.setEp hiT ep).setPub hiT pub).congr fun y hy => ?_
        unfold setK
        by_cases e1 : y = 2 * i
        · simp [e1]
        · simp [e1]
      have hb6 : Below S W5 W6 := by rw [hW6]; exact ((Below.refl S W5).setCell (p := ⟨b, 2 * i * 4 + 2, none⟩) hSb _).setCell (p := ⟨b, 2 * i * 4, none⟩) hSb _
      have HB6 := Lib.hid (HB5.out.under2 hb6 HS.out.1)
      have HX2 := Lib.hid hX2
      have hbox := hX.cell.1
      have hgl := hX.lt
      obtain ⟨b', o', e8, hnd⟩ := hX.tr.trR.at' hiT
      injection e8 with e8
      injection e8 with e8 e8o
      subst e8
      subst e8o
      obtain ⟨x0, x1, x2, -, -⟩ := hnd
      rw [Nat.zero_add] at x0 x1 x2
      have xf0 : W5.frozen? ⟨b, 2 * i * 4, none⟩ = false := frozen_of_row _ _ _ _ _ hcur
      have xf2 : W5.frozen? ⟨b, 2 * i * 4 + 2, none⟩ = false := frozen_of_row _ _ _ _ _ hcur
      obtain ⟨g0, g1, g2, g3, g4⟩ := HB5.out
      have g5 : w.heap.size < W5.heap.size := by omega
      have g6 : ¬ (b = w.heap.size) := by omega
      have g7 : ¬ (b = g) := hbg
      have m1 : (0 : Int) ≤ 2 * (i : Int) := by omega
      have m2 : 2 * (i : Int) < (n : Int) := by omega
      have HF := Lib.hid (And.intro hSb (And.intro hbl (And.intro hbg (And.intro hb6 (hb25.trans hb6)))))
      clear hX hX2 hcur hSb hbg hfit hcc hcm hb6 hb25 hiT h2p hd hN2 hNT hat hS2 hSg x1
      go_upto_region 16 with fail
      rw [← hW6]
      clear hW6 hbox hgl g0 g1 g2 g3 g4 g5 g6 g7 HB5 x0 x2 xf0 xf2
      obtain ⟨g0, g1, g2, g3, g4⟩ := HB6.out
      have g5 : w.heap.size < W6.heap.size := by omega
      go_wp2_with fail
      refine (hL W6).mono ?_
      rintro e' w7 ⟨rfl, hb7⟩
      have hp7 : 0 < w7.heap.size := by have := hb7.size; omega
      have HX7 := Lib.hid (HX2.out.under hb7)
      have HB7 := Lib.hid (HB6.out.under hb7)
      have hs67 := hb7.size
      have hs56 := HF.out.2.2.2.1.size
      have hbl0 := HF.out.2.1
      have HL7 : Hid (b < w7.heap.size ∧ Below S w2 w7) := Lib.hid ⟨by omega, HF.out.2.2.2.2.trans (hb7.mono (by have := HX2.out.hg; have := HX2.out.lt; omega))⟩
      clear hb7 HX2 HB6 m2 g0 g1 g2 g3 g4 g5 hL hs67 hs56 hbl0 hbl
      go_wp2_with fail
      refine (rdirect d i N2 HD.out.1 HD.out.2.1 HD.out.2.2.2 w7 hp7).mono ?_
      rintro e' w8 ⟨vd, rfl, hvd, hb8⟩
      obtain ⟨Ad, cd, rfl⟩ := hvd.slice
      have hdl : (natL (dirs d i)).length = d := by unfold natL; rw [List.length_map, dirs_length]
      rw [hdl] at hvd ⊢
      have HVD := Lib.hid hvd
      have HX8 := Lib.hid (HX7.out.under hb8)
      have HB8 := Lib.hid (HB7.out.under hb8)
      have hs8 := hb8.size
      have HL8 : Hid (S ≤ w8.heap.size ∧ Below S w2 w8) := Lib.hid ⟨by have h1 := HF.out.1; have h2 := HL7.out.1; omega, HL7.out.2.trans (hb8.mono (by have h1 := HF.out.1; have h2 := HL7.out.1; omega))⟩
      clear hvd hb8 hdl HX7 HB7 hp7 m1
      go_wp2_with fail
      go_loopg [18] (d + 1) (fun gg v9 wr => ∃ (k : Nat) (uv : Nat → Value), k ≤ d ∧ k + gg = d + 1 ∧ v9 = .int .i64 (k : Int) ∧ Hid (RX S g n (setK F d i ep pub k) wr (.slice (some ⟨b, 0, none⟩) n c') uv ∧ Bk.Chg (fun q => q = b) w8 wr))
      case atStart => exact ⟨0, _, by omega, by omega, rfl, Lib.hid ⟨HX8.out, Bk.Chg.refl _ _⟩⟩
      case round =>
        obtain ⟨k, uv', hk, hg2, rfl, HK⟩ := hrel
        have HG2 := Lib.hid (And.intro hg2 hk)
        have hbox := HK.out.1.cell.1
        have hgl := HK.out.1.lt
        clear hg2
        by_cases hlt2 : k < d
        · obtain ⟨hd, hN2, hNT, hat⟩ := HD.out
          obtain ⟨x, hx, hxn, hxo, hxt, htk⟩ := dirs_at hd (show i < 2 ^ d by omega) hlt2
          have hxN : x < n := by have := two_succ d; omega
          have hx2i : x ≠ 2 * i := by omega
          have hk3 : k < 4 := by omega
          obtain ⟨bd, od, rfl, cd0⟩ := HVD.out.ints.at (natL_get hx)
          have hbd1 := (World.ownsRow.lt HVD.out bd rfl).1
          have hbd2 := (World.ownsRow.lt HVD.out bd rfl).2
          have hbdb : ¬ bd = b := fun e => by have := HL7.out.1; omega
          have hcb := HK.out.2.block bd hbd2 hbdb
          have hcc : ∀ w' : World, w'.heap[g]? = wr.heap[g]? → w'.heap[bd]? = wr.heap[bd]? → w'.cell? ⟨g, 0, none⟩ = some (.slice (some ⟨b, 0, none⟩) n c') ∧ w'.cell? ⟨bd, od + k, none⟩ = some (.int .i64 x) := fun w' h1 h2 =>
            ⟨(World.cell?_of_block (a := ⟨g, 0, none⟩) h1).trans hbox, (World.cell?_of_block (a := ⟨bd, od + k, none⟩) (h2.trans hcb)).trans cd0⟩
          obtain ⟨-, cdk⟩ := hcc wr rfl rfl
          have hbdr : bd < wr.heap.size := World.block_lt_of_cell? _ _ cdk
          obtain ⟨b', c2, cur2, e1, hcur2, -, hbr, -, hfit2, -, -⟩ := HK.out.1.slice (by omega)
          injection e1 with e1 _ e3
          injection e1 with e1
          injection e1 with e1
          subst e1 e3
          have j1 : (0 : Int) ≤ (k : Int) := by omega
          have j2 : (k : Int) < (d : Int) := by omega
          have j4 : (0 : Int) ≤ (x : Int) := by omega
          have j5 : (x : Int) < (n : Int) := by omega
          have HCC := Lib.hid hcc
          have HCU : Hid (wr.drew.heap[b]? = some (.cells cur2 95 (0, 0))) := Lib.hid hcur2
          have HFI : Hid (x * 4 + 4 ≤ cur2.size) := Lib.hid (by omega)
          have HN : Hid (RX S g n (setK F d i ep pub (k + 1)) (wr.drew.setRow b (Bk.over cur2 (x * 4) #[.int .i64 0, .int .i64 0, .int .i64 0, .slice none 0 0])) (.slice (some ⟨b, 0, none⟩) n c') (fun z => if z = x then .slice none 0 0 else uv' z) ∧ Bk.Chg (fun q => q = b) w8 (wr.drew.setRow b (Bk.over cur2 (x * 4) #[.int .i64 0, .int .i64 0, .int .i64 0, .slice none 0 0]))) := Lib.hid (by
            refine ⟨(((HK.out.1.under (Below.refl _ _).drew).node hcur2 hxN ⟨0, 0, 0, []⟩ rfl (by decide)).congr fun y hy => ?_), HK.out.2.trans ((Bk.Chg.of_below (Below.refl _ _).drew).trans (Bk.Chg.setRow (X := fun q => q = b) wr.drew b _ rfl))⟩
            unfold setK
            rw [htk]
            by_cases e2 : y = x
            · simp [e2, zeroN, hx2i]
            · simp [e2])
          clear hx hxt htk hcc hcb cd0 hcur2 hfit2 hd hN2 hNT hat hbd1 hbd2 hbdb hxN hx2i
          go_wp2_with fail
          refine Go.Proofs.Phase.wp_region_ph (S := (fun w' => w'.cell? ⟨g, 0, none⟩ = some (.slice (some ⟨b, 0, none⟩) n c') ∧ w'.cell? ⟨bd, od + k, none⟩ = some (.int .i64 x))) 8 (by kernel_rfl) ?_ (fun hHeld => ?_)
          · ((try dsimp only) <;> (first | assumption | exact HCC.out _ rfl rfl))
          refine Go.Proofs.Phase.wpPh_take' (i := 0) (by simp only [List.getElem?_toArray, List.getElem?_cons_succ, List.getElem?_cons_zero]; rfl) ?_
          refine ⟨?_, ⟨by kernel_rfl, by kernel_rfl, by kernel_rfl, by kernel_rfl⟩, fun _ _ _ h => h, Or.inl ⟨by first | rfl | (simp [Region.wanted, yielded]; done), ?_⟩, by assumption, ?_⟩
          rotate_left
          · (intro w hSw; (try dsimp only at hSw); go_simp; with_reducible rfl)
          try simp only [Act.put, List.setIfInBounds_toArray, List.set_cons_zero, List.set_cons_succ]
          refine Go.Proofs.Phase.wpPh_take' (i := 1) (by simp only [List.getElem?_toArray, List.getElem?_cons_succ, List.getElem?_cons_zero]; rfl) ?_
          refine ⟨?_, ⟨by kernel_rfl, by kernel_rfl, by kernel_rfl, by kernel_rfl⟩, fun _ _ _ h => h, Or.inl ⟨by first | rfl | (simp [Region.wanted, yielded]; done), ?_⟩, by assumption, ?_⟩
          rotate_left
          · (intro w hSw; (try dsimp only at hSw); go_simp; with_reducible rfl)
          try simp only [Act.put, List.setIfInBounds_toArray, List.set_cons_zero, List.set_cons_succ]
          refine Go.Proofs.Phase.wpPh_take' (i := 2) (by simp only [List.getElem?_toArray, List.getElem?_cons_succ, List.getElem?_cons_zero]; rfl) ?_
          refine ⟨?_, ⟨by kernel_rfl, by kernel_rfl, by kernel_rfl, by kernel_rfl⟩, fun _ _ _ h => h, Or.inl ⟨by first | rfl | (simp [Region.wanted, yielded]; done), ?_⟩, by assumption, ?_⟩
          rotate_left
          · (intro w hSw; (try dsimp only at hSw); go_simp; with_reducible rfl)
          try simp only [Act.put, List.setIfInBounds_toArray, List.set_cons_zero, List.set_cons_succ]
          refine Go.Proofs.Phase.wpPh_take' (i := 3) (by simp only [List.getElem?_toArray, List.getElem?_cons_succ, List.getElem?_cons_zero]; rfl) ?_
          refine ⟨?_, ⟨by kernel_rfl, by kernel_rfl, by kernel_rfl, by kernel_rfl⟩, fun _ _ _ h => h, Or.inl ⟨by first | rfl | (simp [Region.wanted, yielded]; done), ?_⟩, by assumption, ?_⟩
          rotate_left
          · (intro w hSw; (try dsimp only at hSw); go_simp; with_reducible rfl)
          try simp only [Act.put, List.setIfInBounds_toArray, List.set_cons_zero, List.set_cons_succ]
          refine Go.Proofs.Phase.wpPh_take' (i := 4) (by simp only [List.getElem?_toArray, List.getElem?_cons_succ, List.getElem?_cons_zero]; rfl) ?_
          refine ⟨?_, ⟨by kernel_rfl, by kernel_rfl, by kernel_rfl, by kernel_rfl⟩, fun _ _ _ h => h, Or.inl ⟨by first | rfl | (simp [Region.wanted, yielded]; done), ?_⟩, by assumption, ?_⟩
          rotate_left
          · (intro w hSw; (try dsimp only at hSw); go_simp; with_reducible rfl)
          try simp only [Act.put, List.setIfInBounds_toArray, List.set_cons_zero, List.set_cons_succ]
          refine Go.Proofs.Phase.wpPh_take' (i := 5) (by simp only [List.getElem?_toArray, List.getElem?_cons_succ, List.getElem?_cons_zero]; rfl) ?_
          refine ⟨?_, ⟨by kernel_rfl, by kernel_rfl, by kernel_rfl, by kernel_rfl⟩, fun _ _ _ h => h, Or.inl ⟨by first | rfl | (simp [Region.wanted, yielded]; done), ?_⟩, by assumption, ?_⟩
          rotate_left
          · (intro w hSw; (try dsimp only at hSw); go_simp; with_reducible rfl)
          try simp only [Act.put, List.setIfInBounds_toArray, List.set_cons_zero, List.set_cons_succ]
          refine Go.Proofs.Phase.wpPh_take' (i := 6) (by simp only [List.getElem?_toArray, List.getElem?_cons_succ, List.getElem?_cons_zero]; rfl) ?_
          refine ⟨?_, ⟨by kernel_rfl, by kernel_rfl, by kernel_rfl, by kernel_rfl⟩, fun _ _ _ h => h, Or.inl ⟨by first | rfl | (simp [Region.wanted, yielded]; done), ?_⟩, by assumption, ?_⟩
          rotate_left
          · (intro w hSw; (try dsimp only at hSw); go_simp; with_reducible rfl)
          try simp only [Act.put, List.setIfInBounds_toArray, List.set_cons_zero, List.set_cons_succ]
          refine Go.Proofs.Phase.wpPh_take' (i := 7) (by simp only [List.getElem?_toArray, List.getElem?_cons_succ, List.getElem?_cons_zero]; rfl) ?_
          refine ⟨?_, ⟨by kernel_rfl, by kernel_rfl, by kernel_rfl, by kernel_rfl⟩, fun _ _ _ h => h, Or.inl ⟨by first | rfl | (simp [Region.wanted, yielded]; done), ?_⟩, by assumption, ?_⟩
          rotate_left
          · (intro w hSw; (try dsimp only at hSw); go_simp; with_reducible rfl)
          try simp only [Act.put, List.setIfInBounds_toArray, List.set_cons_zero, List.set_cons_succ]
          refine Go.Proofs.Phase.wpPh_behind (i := 8) (by kernel_rfl) (by simp only [List.getElem?_toArray, List.getElem?_cons_succ, List.getElem?_cons_zero]; rfl) (by kernel_rfl) (fun K hK => ?_)
          (with_reducible refine step_store_part rfl 95 _ _ rfl rfl b (x * 4) 4 rfl 95 cur2 _ rfl HCU.out cells95x rfl HFI.out (by simp [Value.oneCell']) ?_)
          refine hK.out _ _ ?_
          clear hK K
          try simp only [Act.put, List.setIfInBounds_toArray, List.set_cons_zero, List.set_cons_succ]
          refine Go.Proofs.Phase.wpPh_done (by kernel_rfl) ?_ _
          go_wp2_with fail
          go_roundg (gk - 1)
          case rel => exact ⟨k + 1, _, by omega, step_gg HG2.out.1 hlt2, by go_num, HN⟩
          case measure => exact meas_gg HG2.out.1 HG2.out.2
        · obtain rfl : k = d := by omega
          have hX9 := HK.out
          rw [setK_full] at hX9
          have HX9 := Lib.hid hX9
          clear hX9 HG2 hbox hgl hlt2 hk HK
          obtain ⟨w9, rfl⟩ : ∃ w9, w9 = wr := ⟨_, rfl⟩
          go_wp2_with fail
          go_loopg [19] (j + 1) (fun gg v19 wr => ∃ (m : Nat) (uv : Nat → Value), m ≤ j ∧ m + gg = j + 1 ∧ v19 = .int .i64 (m : Int) ∧ Hid (RX S g n (setF F k i ep pub ((pl.zip ps).take m)) wr (.slice (some ⟨b, 0, none⟩) n c') uv ∧ Bk.Chg (fun q => q = b) w8 wr))
          case atStart => exact ⟨0, _, by omega, by omega, rfl, HX9⟩
          case round =>
            obtain ⟨m, uv3, hm, hg3, rfl, HK⟩ := hrel
            have HG3 := Lib.hid (And.intro hg3 hm)
            have hbox := HK.out.1.cell.1
            have hgl := HK.out.1.lt
            have hbw : Below S w8 wr := HK.out.2.below HL8.out.1 (fun q _ e2 => by rw [e2]; exact HF.out.1)
            clear hg3
            by_cases hlt3 : m < j
            · obtain ⟨hd, hN2, hNT, hat⟩ := HD.out
              obtain ⟨hpl1, hps1⟩ := HLN.out
              obtain ⟨x, hx⟩ : ∃ x, pl[m]? = some x := ⟨pl[m]'(by omega), List.getElem?_eq_getElem _⟩
              obtain ⟨q, hq⟩ : ∃ q, ps[m]? = some q := ⟨ps[m]'(by omega), List.getElem?_eq_getElem _⟩
              have hxd := HPS.out.2.2 x (List.mem_of_getElem? hx)
              obtain ⟨kx, hkx, hkx2⟩ : ∃ kx, kx < k ∧ (dirs k i)[kx]? = some x := by
                obtain ⟨kx, hkx⟩ := List.mem_iff_getElem?.1 hxd
                exact ⟨kx, by have := (List.getElem?_eq_some_iff.1 hkx).1; rw [dirs_length] at this; exact this, hkx⟩
              obtain ⟨x', hx', hxn, hxo, -, -⟩ := dirs_at hd (show i < 2 ^ k by omega) hkx
              obtain rfl : x = x' := Option.some.inj (hkx2.symm.trans hx')
              have hxN : x < n := by have := two_succ k; omega
              have hnd := HND.out m x hx
              have hb2r : Below S w2 wr := HL8.out.2.trans hbw
              obtain ⟨bq, oq, rfl, cq0⟩ := HQL.out.at (natL_get hx)
              have hbq2 : bq < w2.heap.size := World.block_lt_of_cell? _ _ cq0
              have cqk := (hb2r.cell (p := ⟨bq, oq + m, none⟩) (by have := HS2.out; show bq < S; omega)).trans cq0
              have hbqr : bq < wr.heap.size := World.block_lt_of_cell? _ _ cqk
              obtain ⟨bp, op, rfl, cp0⟩ := (HPS.out.1.below HB2.out.bel).at hq
              have hbp2 : bp < w2.heap.size := World.block_lt_of_cell? _ _ cp0
              have cpk := (hb2r.cell (p := ⟨bp, op + m, none⟩) (by have := HS2.out; show bp < S; omega)).trans cp0
              have hbpr : bp < wr.heap.size := World.block_lt_of_cell? _ _ cpk
              have hcc : ∀ w' : World, w'.heap[g]? = wr.heap[g]? → w'.heap[bq]? = wr.heap[bq]? → w'.heap[bp]? = wr.heap[bp]? → w'.cell? ⟨g, 0, none⟩ = some (.slice (some ⟨b, 0, none⟩) n c') ∧ w'.cell? ⟨bq, oq + m, none⟩ = some (.int .i64 x) ∧ w'.cell? ⟨bp, op + m, none⟩ = some (.int .i64 q) := fun w' h1 h2 h3 =>
                ⟨(World.cell?_of_block (a := ⟨g, 0, none⟩) h1).trans hbox, (World.cell?_of_block (a := ⟨bq, oq + m, none⟩) h2).trans cqk, (World.cell?_of_block (a := ⟨bp, op + m, none⟩) h3).trans cpk⟩
              obtain ⟨b', c3, cur2, e1, hcur2, -, hbr, -, hfit2, -, -⟩ := HK.out.1.slice (by omega)
              injection e1 with e1 _ e3
              injection e1 with e1
              injection e1 with e1
              subst e1 e3
              have j1 : (0 : Int) ≤ (m : Int) := by omega
              have j2 : (m : Int) < (j : Int) := by omega
              have j4 : (0 : Int) ≤ (x : Int) := by omega
              have j5 : (x : Int) < (n : Int) := by omega
              have HCC := Lib.hid hcc
              have HCU : Hid (wr.drew.heap[b]? = some (.cells cur2 95 (0, 0))) := Lib.hid hcur2
              have HFI : Hid (x * 4 + 4 ≤ cur2.size) := Lib.hid (by omega)
              have HN : Hid (RX S g n (setF F k i ep pub ((pl.zip ps).take (m + 1))) (wr.drew.setRow b (Bk.over cur2 (x * 4) #[.int .i64 q, .int .i64 0, .int .i64 0, .slice none 0 0])) (.slice (some ⟨b, 0, none⟩) n c') (fun z => if z = x then .slice none 0 0 else uv3 z) ∧ Bk.Chg (fun q => q = b) w8 (wr.drew.setRow b (Bk.over cur2 (x * 4) #[.int .i64 q, .int .i64 0, .int .i64 0, .slice none 0 0]))) := Lib.hid (by
                refine ⟨(((HK.out.1.under (Below.refl _ _).drew).node hcur2 hxN ⟨q, 0, 0, []⟩ rfl (show (Lit.int .i64 0).wf = true by decide)).congr fun y hy => ?_), HK.out.2.trans ((Bk.Chg.of_below (Below.refl _ _).drew).trans (Bk.Chg.setRow (X := fun q => q = b) wr.drew b _ rfl))⟩
                rw [zip_take hx hq]
                exact setF_node hxd (by omega) (zip_no hnd) y)
              clear hx hq hcc cq0 cp0 hcur2 hfit2 hd hN2 hNT hat hxN hxd hkx hkx2 hx' hnd hb2r hbw hxn hxo hpl1 hps1 hbq2 hbp2
              go_wp2_with fail
              refine Go.Proofs.Phase.wp_region_ph (S := (fun w' => w'.cell? ⟨g, 0, none⟩ = some (.slice (some ⟨b, 0, none⟩) n c') ∧ w'.cell? ⟨bq, oq + m, none⟩ = some (.int .i64 x) ∧ w'.cell? ⟨bp, op + m, none⟩ = some (.int .i64 q))) 12 (by kernel_rfl) ?_ (fun hHeld => ?_)
              · ((try dsimp only) <;> (first | assumption | exact HCC.out _ rfl rfl rfl))
              refine Go.Proofs.Phase.wpPh_take' (i := 0) (by simp only [List.getElem?_toArray, List.getElem?_cons_succ, List.getElem?_cons_zero]; rfl) ?_
              refine ⟨?_, ⟨by kernel_rfl, by kernel_rfl, by kernel_rfl, by kernel_rfl⟩, fun _ _ _ h => h, Or.inl ⟨by first | rfl | (simp [Region.wanted, yielded]; done), ?_⟩, by assumption, ?_⟩
              rotate_left
              · (intro w hSw; (try dsimp only at hSw); go_simp; with_reducible rfl)
              try simp only [Act.put, List.setIfInBounds_toArray, List.set_cons_zero, List.set_cons_succ]
              refine Go.Proofs.Phase.wpPh_take' (i := 1) (by simp only [List.getElem?_toArray, List.getElem?_cons_succ, List.getElem?_cons_zero]; rfl) ?_
              refine ⟨?_, ⟨by kernel_rfl, by kernel_rfl, by kernel_rfl, by kernel_rfl⟩, fun _ _ _ h => h, Or.inl ⟨by first | rfl | (simp [Region.wanted, yielded]; done), ?_⟩, by assumption, ?_⟩
              rotate_left
              · (intro w hSw; (try dsimp only at hSw); go_simp; with_reducible rfl)
              try simp only [Act.put, List.setIfInBounds_toArray, List.set_cons_zero, List.set_cons_succ]
              refine Go.Proofs.Phase.wpPh_take' (i := 2) (by simp only [List.getElem?_toArray, List.getElem?_cons_succ, List.getElem?_cons_zero]; rfl) ?_
              refine ⟨?_, ⟨by kernel_rfl, by kernel_rfl, by kernel_rfl, by kernel_rfl⟩, fun _ _ _ h => h, Or.inl ⟨by first | rfl | (simp [Region.wanted, yielded]; done), ?_⟩, by assumption, ?_⟩
              rotate_left
              · (intro w hSw; (try dsimp only at hSw); go_simp; with_reducible rfl)
              try simp only [Act.put, List.setIfInBounds_toArray, List.set_cons_zero, List.set_cons_succ]
              refine Go.Proofs.Phase.wpPh_take' (i := 3) (by simp only [List.getElem?_toArray, List.getElem?_cons_succ, List.getElem?_cons_zero]; rfl) ?_
              refine ⟨?_, ⟨by kernel_rfl, by kernel_rfl, by kernel_rfl, by kernel_rfl⟩, fun _ _ _ h => h, Or.inl ⟨by first | rfl | (simp [Region.wanted, yielded]; done), ?_⟩, by assumption, ?_⟩
              rotate_left
              · (intro w hSw; (try dsimp only at hSw); go_simp; with_reducible rfl)
              try simp only [Act.put, List.setIfInBounds_toArray, List.set_cons_zero, List.set_cons_succ]
              refine Go.Proofs.Phase.wpPh_take' (i := 4) (by simp only [List.getElem?_toArray, List.getElem?_cons_succ, List.getElem?_cons_zero]; rfl) ?_
              refine ⟨?_, ⟨by kernel_rfl, by kernel_rfl, by kernel_rfl, by kernel_rfl⟩, fun _ _ _ h => h, Or.inl ⟨by first | rfl | (simp [Region.wanted, yielded]; done), ?_⟩, by assumption, ?_⟩
              rotate_left
              · (intro w hSw; (try dsimp only at hSw); go_simp; with_reducible rfl)
              try simp only [Act.put, List.setIfInBounds_toArray, List.set_cons_zero, List.set_cons_succ]
              refine Go.Proofs.Phase.wpPh_take' (i := 5) (by simp only [List.getElem?_toArray, List.getElem?_cons_succ, List.getElem?_cons_zero]; rfl) ?_
              refine ⟨?_, ⟨by kernel_rfl, by kernel_rfl, by kernel_rfl, by kernel_rfl⟩, fun _ _ _ h => h, Or.inl ⟨by first | rfl | (simp [Region.wanted, yielded]; done), ?_⟩, by assumption, ?_⟩
              rotate_left
              · (intro w hSw; (try dsimp only at hSw); go_simp; with_reducible rfl)
              try simp only [Act.put, List.setIfInBounds_toArray, List.set_cons_zero, List.set_cons_succ]
              refine Go.Proofs.Phase.wpPh_take' (i := 6) (by simp only [List.getElem?_toArray, List.getElem?_cons_succ, List.getElem?_cons_zero]; rfl) ?_
              refine ⟨?_, ⟨by kernel_rfl, by kernel_rfl, by kernel_rfl, by kernel_rfl⟩, fun _ _ _ h => h, Or.inl ⟨by first | rfl | (simp [Region.wanted, yielded]; done), ?_⟩, by assumption, ?_⟩
              rotate_left
              · (intro w hSw; (try dsimp only at hSw); go_simp; with_reducible rfl)
              try simp only [Act.put, List.setIfInBounds_toArray, List.set_cons_zero, List.set_cons_succ]
              refine Go.Proofs.Phase.wpPh_take' (i := 7) (by simp only [List.getElem?_toArray, List.getElem?_cons_succ, List.getElem?_cons_zero]; rfl) ?_
              refine ⟨?_, ⟨by kernel_rfl, by kernel_rfl, by kernel_rfl, by kernel_rfl⟩, fun _ _ _ h => h, Or.inl ⟨by first | rfl | (simp [Region.wanted, yielded]; done), ?_⟩, by assumption, ?_⟩
              rotate_left
              · (intro w hSw; (try dsimp only at hSw); go_simp; with_reducible rfl)
              try simp only [Act.put, List.setIfInBounds_toArray, List.set_cons_zero, List.set_cons_succ]
              refine Go.Proofs.Phase.wpPh_take' (i := 8) (by simp only [List.getElem?_toArray, List.getElem?_cons_succ, List.getElem?_cons_zero]; rfl) ?_
              refine ⟨?_, ⟨by kernel_rfl, by kernel_rfl, by kernel_rfl, by kernel_rfl⟩, fun _ _ _ h => h, Or.inl ⟨by first | rfl | (simp [Region.wanted, yielded]; done), ?_⟩, by assumption, ?_⟩
              rotate_left
              · (intro w hSw; (try dsimp only at hSw); go_simp; with_reducible rfl)
              try simp only [Act.put, List.setIfInBounds_toArray, List.set_cons_zero, List.set_cons_succ]
              refine Go.Proofs.Phase.wpPh_take' (i := 9) (by simp only [List.getElem?_toArray, List.getElem?_cons_succ, List.getElem?_cons_zero]; rfl) ?_
              refine ⟨?_, ⟨by kernel_rfl, by kernel_rfl, by kernel_rfl, by kernel_rfl⟩, fun _ _ _ h => h, Or.inl ⟨by first | rfl | (simp [Region.wanted, yielded]; done), ?_⟩, by assumption, ?_⟩
              rotate_left
              · (intro w hSw; (try dsimp only at hSw); go_simp; with_reducible rfl)
              try simp only [Act.put, List.setIfInBounds_toArray, List.set_cons_zero, List.set_cons_succ]
              refine Go.Proofs.Phase.wpPh_take' (i := 10) (by simp only [List.getElem?_toArray, List.getElem?_cons_succ, List.getElem?_cons_zero]; rfl) ?_
              refine ⟨?_, ⟨by kernel_rfl, by kernel_rfl, by kernel_rfl, by kernel_rfl⟩, fun _ _ _ h => h, Or.inl ⟨by first | rfl | (simp [Region.wanted, yielded]; done), ?_⟩, by assumption, ?_⟩
              rotate_left
              · (intro w hSw; (try dsimp only at hSw); go_simp; with_reducible rfl)
              try simp only [Act.put, List.setIfInBounds_toArray, List.set_cons_zero, List.set_cons_succ]
              refine Go.Proofs.Phase.wpPh_take' (i := 11) (by simp only [List.getElem?_toArray, List.getElem?_cons_succ, List.getElem?_cons_zero]; rfl) ?_
              refine ⟨?_, ⟨by kernel_rfl, by kernel_rfl, by kernel_rfl, by kernel_rfl⟩, fun _ _ _ h => h, Or.inl ⟨by first | rfl | (simp [Region.wanted, yielded]; done), ?_⟩, by assumption, ?_⟩
              rotate_left
              · (intro w hSw; (try dsimp only at hSw); go_simp; with_reducible rfl)
              try simp only [Act.put, List.setIfInBounds_toArray, List.set_cons_zero, List.set_cons_succ]
              refine Go.Proofs.Phase.wpPh_behind (i := 12) (by kernel_rfl) (by simp only [List.getElem?_toArray, List.getElem?_cons_succ, List.getElem?_cons_zero]; rfl) (by kernel_rfl) (fun K hK => ?_)
              (with_reducible refine step_store_part rfl 95 _ _ rfl rfl b (x * 4) 4 rfl 95 cur2 _ rfl HCU.out cells95x rfl HFI.out (by simp [Value.oneCell']) ?_)
              refine hK.out _ _ ?_
              clear hK K
              try simp only [Act.put, List.setIfInBounds_toArray, List.set_cons_zero, List.set_cons_succ]
              refine Go.Proofs.Phase.wpPh_done (by kernel_rfl) ?_ _
              go_wp2_with fail
              go_roundg (gk - 1)
              case rel => exact ⟨m + 1, _, by omega, step_gg HG3.out.1 hlt3, by go_num, HN⟩
              case measure => exact meas_gg HG3.out.1 HG3.out.2
            · obtain rfl : m = j := by omega
              have HBr := Lib.hid (HB8.out.under2 hbw HS.out.1)
              obtain ⟨q0, q1, q2, q3, q4⟩ := HBr.out
              have q8 := HBr.out.stored
              have hTr : RwT (wr.setCell ⟨w.heap.size + 1, 0, none⟩ (.slice (some ⟨b, 0, none⟩) n c')) S (.slice (some ⟨b, 0, none⟩) n c') n (setF F k i ep pub ((pl.zip ps).take m)) uv3 :=
                (HK.out.1.tr.grown (grown_setCell _ ⟨w.heap.size + 1, 0, none⟩ _) (fun e2 => by have h1 := (World.ownsRow.lt HK.out.1.tr.row _ e2).1; have h2 := HS.out.1; simp only at h1; omega) (fun y hy e2 => by have h1 := (World.ownsRow.lt (HK.out.1.tr.un y hy) _ e2).1; have h2 := HS.out.1; simp only at h1; omega))
              rw [show (pl.zip ps).take m = pl.zip ps from List.take_of_length_le (by rw [List.length_zip]; have := HLN.out.1; omega)] at hTr
              have HTR := Lib.hid hTr
              clear hTr hbw
              go_wp2_with fail
              refine bodyPost_ret (by simp [results, Tryz.results33, go_sem, q8]; rfl) rfl ?_
              exact ⟨⟨_, _, _, rfl, by have := HS.out.1; omega, HTR.out⟩, q0.setCell (by show w.heap.size ≤ w.heap.size + 1; omega) _⟩
end Go.Proofs.YtnahhclflnjmcaaGreatDoor
