/- Chapter 08's own Path. -/
import Derived.Test.YtnahhclflnjmcaaGreatDoorXL
namespace Go.Proofs.YtnahhclflnjmcaaGreatDoor
open Go Go.RowKit
set_option linter.unusedVariables false
set_option linter.unusedSimpArgs false
set_option maxRecDepth 100000

theorem rowsE_zero {n : Nat} {F : Nat → Node} {i : Int} (hq : rowsE n F i = 0) : ∃ d j : Nat, Ok d n F ∧ i = j ∧ j < 2 ^ d ∧ 1 ≤ (F (2 * j)).pub ∧ rowsL n F i = rowsK F j d := by
  have hz : chk n F = true := by
    cases hz : chk n F with
    | true => rfl
    | false => unfold rowsE at hq; rw [if_pos hz] at hq; cases hq
  rcases chk_iff.1 hz with rfl | ⟨d, hO⟩
  · exact absurd hq rowsE_empty
  · obtain ⟨j, rfl, hj, hp⟩ := rowsE_ok hO hq
    refine ⟨d, j, hO, rfl, hj, hp, ?_⟩
    unfold rowsL
    rw [if_pos hq, hO.lvs, lg_pow hO.hd, Int.toNat_natCast]
    rfl
theorem pathK_succ (F : Nat → Node) (i k : Nat) : natL ((rowsK F i (k + 1)).map (·.1)) = natL ((rowsK F i k).map (·.1)) ++ if (resM F k (sib (2 * i) k)).isEmpty then [] else [((anc (2 * i) (k + 1) : Nat) : Int)] := by
  rw [rowsK_succ, List.map_append]
  unfold natL
  rw [List.map_append]
  cases (resM F k (sib (2 * i) k)).isEmpty <;> rfl
set_option maxHeartbeats 4000000 in
theorem rpath (v : Value) (n : Nat) (F : Nat → Node) (i : Int) (w : World) (hpos : 0 < w.heap.size) (hR : TrR w v n F) (hun : ∀ y, y < n → (F y).un.length ≤ 1000000) (hi : (Lit.int .i64 i).wf = true) :
    Calls Tryz.prog 39 #[.agg #[v], .int .i64 i] w fun e w' => PathA w (pathL n F i) (rowsE n F i) e w' := by
  obtain ⟨A, c, rfl, -, -, -⟩ := id hR
  obtain ⟨W0, hW0⟩ : ∃ W0, W0 = w.alloc (.cells #[.slice A n c] 24) := ⟨_, rfl⟩
  have hb0 : Below w.heap.size w W0 := by rw [hW0]; exact (Below.refl _ _).alloc (Nat.le_refl _) _
  have hx0 : W0.cell? ⟨w.heap.size, 0, none⟩ = some (.slice A n c) := by rw [hW0]; exact cell_one_new w _ 24 0 _ rfl
  have hxl := World.block_lt_of_cell? _ _ hx0
  have hA := rasked (.slice A n c) n F i W0 (hR.below hb0) hun hi
  have HR := Lib.hid hR
  have HB := Lib.hid hb0
  clear hun hb0 hi
  by_cases hq : rowsE n F i = 0
  · rw [hq] at hA ⊢
    obtain ⟨d, j, hO, rfl, hj, hp, hL0⟩ := rowsE_zero hq
    have hPL : pathL n F j = (rowsK F j d).map (·.1) := by unfold pathL; rw [hL0]
    rw [hPL]
    have hL := fun W => rleaves A n c W
    rw [hO.lvs] at hL
    have h8 : 2 ^ d ≤ 2 ^ 3 := Nat.pow_le_pow_right (by decide) hO.hd
    have hj8 : j < 8 := by omega
    obtain ⟨N2, hN2⟩ : ∃ N2, N2 = 2 ^ d := ⟨_, rfl⟩
    rw [← hN2] at hL
    have HD := Lib.hid (show d ≤ 3 ∧ N2 = 2 ^ d ∧ j < N2 ∧ 0 < w.heap.size from ⟨hO.hd, hN2, by omega, hpos⟩)
    have HO := Lib.hid hO
    have j1 : (0 : Int) ≤ 2 * (j : Int) := by omega
    clear hq hp hL0 hPL hN2 h8 hO hj hpos hR
    go_enter Tryz.func39, Tryz.ntmps39
    go_wp2_with fail
    rw [← hW0]
    refine hA.mono ?_
    rintro e w1 ⟨rfl, hb1⟩
    have hx1 := (hb1.cell (p := ⟨w.heap.size, 0, none⟩) hxl).trans hx0
    have hx1l := World.block_lt_of_cell? _ _ hx1
    have HB1 := Lib.hid (HB.out.trans (hb1.mono HB.out.size))
    clear hb1 hW0 hA hx0 hxl
    go_wp2_with fail
    refine (hL _).mono ?_
    rintro e w2 ⟨rfl, hb2⟩
    have hx2 := (hb2.cell (p := ⟨w.heap.size, 0, none⟩) hx1l).trans hx1
    have hx2l := World.block_lt_of_cell? _ _ hx2
    have HB2 := Lib.hid (HB1.out.trans (hb2.mono HB1.out.size))
    clear hb2 hL hx1 hx1l
    go_wp2_with fail
    refine (rdirect d j N2 HD.out.1 HD.out.2.1 HD.out.2.2.1 w2 (Nat.lt_of_lt_of_le HD.out.2.2.2 HB2.out.size)).mono ?_
    rintro e w3 ⟨vd, rfl, hvd, hb3⟩
    obtain ⟨Ad, cd, rfl⟩ := hvd.slice
    have hdl : (natL (dirs d j)).length = d := by unfold natL; rw [List.length_map, dirs_length]
    rw [hdl] at hvd ⊢
    have HVD := Lib.hid hvd.ints
    have hx3 := (hb3.cell (p := ⟨w.heap.size, 0, none⟩) hx2l).trans hx2
    have hx3l := World.block_lt_of_cell? _ _ hx3
    have HB3 := Lib.hid (HB2.out.trans (hb3.mono HB2.out.size))
    clear hb3 hvd hdl hx2 hx2l
    obtain ⟨S2, hS2⟩ : ∃ S2, S2 = w3.heap.size := ⟨_, rfl⟩
    have HS2 := Lib.hid hS2
    have hS3 : S2 ≤ w3.heap.size := by omega
    clear hS2
    go_wp2_with fail
    go_loopg [7, 9] (d + 1) (fun g v7 v9 wr => ∃ k : Nat, k ≤ d ∧ k + g = d + 1 ∧ v9 = .int .i64 (k : Int) ∧ Hid (OwnI wr S2 v7 (natL ((rowsK F j k).map (·.1)))) ∧ Below S2 w3 wr ∧ S2 ≤ wr.heap.size)
    case atStart => exact ⟨0, by omega, by omega, rfl, Lib.hid (World.ownsRow_nil _ _ _ _), Below.refl _ _, hS3⟩
    case round =>
      obtain ⟨k, hk, hg, rfl, HOWN, hbel, hSr⟩ := hrel
      have HG := Lib.hid hg
      have hbelS := Lib.hid hbel
      rw [HS2.out] at hbel
      have hxr := (hbel.cell (p := ⟨w.heap.size, 0, none⟩) hx3l).trans hx3
      have hxrl := World.block_lt_of_cell? _ _ hxr
      have hbwr : Below w.heap.size w wr := HB3.out.trans (hbel.mono HB3.out.size)
      clear hg
      by_cases hlt : k < d
      · obtain ⟨f1, f2, f3⟩ := sib_at HD.out.1 (by rw [← HD.out.2.1]; exact HD.out.2.2.1) hlt
        obtain ⟨x, hx, hxn, hxo, hxt, htk⟩ := dirs_at HD.out.1 (show j < 2 ^ d by rw [← HD.out.2.1]; exact HD.out.2.2.1) hlt
        have hxa : x = anc (2 * j) (k + 1) := by
          have : (dirs d j)[k]? = some (anc (2 * j) (k + 1)) := by simp [dirs, hlt]
          rw [this] at hx
          exact (Option.some.inj hx).symm
        have hOt := Lib.hid (fun W => rother d j k HD.out.1 (by rw [← HD.out.2.1]; exact HD.out.2.2.1) hlt W)
        rw [← hxa] at hOt
        have hsn : sib (2 * j) k < n := by have := HO.out.hn; omega
        have hRs := Lib.hid (fun (W : World) (hW : Below w.heap.size w W) => rres_ok HO.out HR.out k (sib (2 * j) k) _ f3 hsn W hW)
        have HPK := Lib.hid (pathK_succ F j k)
        rw [← hxa] at HPK
        obtain ⟨bd, od, rfl, cd0⟩ := HVD.out.at (natL_get hx)
        have hbd3 := World.block_lt_of_cell? _ _ cd0
        have cdk := (hbel.cell (p := ⟨bd, od + k, none⟩) hbd3).trans cd0
        have hbdr : bd < wr.heap.size := World.block_lt_of_cell? _ _ cdk
        have k1 : (0 : Int) ≤ (k : Int) := by omega
        have hk3 : k ≤ 3 := by have := HD.out.1; omega
        have k2 : (k : Int) < (d : Int) := by omega
        have hkw : IntKind.i64.wrap (k : Int) = k := i64_small k (by have := HD.out.1; omega)
        have hHeld : wr.cell? ⟨w.heap.size, 0, none⟩ = some (.slice A n c) ∧ wr.cell? ⟨bd, od + k, none⟩ = some (.int .i64 (x : Int)) ∧ Below wr.heap.size wr wr := ⟨hxr, cdk, Below.refl _ _⟩
        have HLEN : Hid ((natL ((rowsK F j k).map (·.1))).length < 4294967296) := Lib.hid (by
          have := rowsK_length F j k
          have := HD.out.1
          unfold natL
          rw [List.length_map, List.length_map]
          omega)
        clear f1 f2 f3 hx hxn hxo hxt htk hxa hsn cd0 hbd3
        generalize resM F k (sib (2 * j) k) = rl at *
        generalize sib (2 * j) k = sx at *
        generalize natL ((rowsK F j k).map (·.1)) = TT at *
        obtain ⟨At, ct, rfl⟩ := HOWN.out.slice
        go_wp2_with fail
        go_region_held3 (fun w' => w'.cell? ⟨w.heap.size, 0, none⟩ = some (.slice A n c) ∧ w'.cell? ⟨bd, od + k, none⟩ = some (.int .i64 (x : Int)) ∧ Below wr.heap.size wr w') (first | assumption | exact held_drew (by assumption) | exact held_call (by assumption) (by assumption)) (first
          | (go_at_call 175; with_reducible refine (hOt.out _).mono ?_; rintro e w' ⟨rfl, rfl⟩)
          | (go_at_call 173; with_reducible refine (hRs.out _ (below_mid hbwr (by assumption))).mono ?_; rintro e w7 ⟨v7, rfl, ho7, hb7⟩; obtain ⟨A7, c7, rfl⟩ := ho7.slice))
        obtain ⟨z1, z2, z3⟩ : w7.cell? ⟨w.heap.size, 0, none⟩ = some (.slice A n c) ∧ w7.cell? ⟨bd, od + k, none⟩ = some (.int .i64 (x : Int)) ∧ Below wr.heap.size wr w7 := by assumption
        have hOWN7 := Lib.hid (HOWN.out.below z3)
        have hbel7 : Below S2 w3 w7 := hbelS.out.trans (z3.mono hSr)
        have hS7 : S2 ≤ w7.heap.size := Nat.le_trans hSr z3.size
        clear ho7 hb7 hRs hOt
        by_cases hrl : 0 < rl.length
        · have t5 : decide (0 < rl.length) = true := decide_eq_true hrl
          have HP2 : Hid (natL ((rowsK F j (k + 1)).map (·.1)) = TT ++ [(x : Int)]) := Lib.hid (by
            rw [HPK.out]
            have : rl.isEmpty = false := by cases rl <;> simp at hrl ⊢
            rw [this]
            rfl)
          clear hrl
          rw [t5]
          go_wp2_with (at_builtin; refine push rfl _ _ rfl rfl rfl hOWN7 hbel7 hS7 HLEN.out ?_)
          intro v' w' h1 h2 h3
          have H1 := Lib.hid h1
          clear h1 hOWN7
          go_wp2_with fail
          go_roundg (gk - 1)
          case rel => exact ⟨k + 1, by omega, by have := HG.out; omega, by go_num, by rw [HP2.out]; exact H1, h2, h3⟩
          case measure => have := HG.out; omega
        · have t5 : decide (0 < rl.length) = false := decide_eq_false hrl
          have HP2 : Hid (natL ((rowsK F j (k + 1)).map (·.1)) = TT) := Lib.hid (by
            rw [HPK.out]
            have : rl.isEmpty = true := by cases rl <;> simp at hrl ⊢
            rw [this]
            simp)
          clear hrl
          rw [t5]
          go_wp2_with fail
          go_roundg (gk - 1)
          case rel => exact ⟨k + 1, by omega, by have := HG.out; omega, by go_num, by rw [HP2.out]; exact hOWN7, hbel7, hS7⟩
          case measure => have := HG.out; omega
      · obtain rfl : k = d := by omega
        have HF := Lib.hid (And.intro (own_lower (by rw [HS2.out]; exact HB3.out.size) HOWN.out) hbwr)
        obtain ⟨At, ct, rfl⟩ := HOWN.out.slice
        go_wp2_with fail
        go_ret2
        exact ⟨⟨_, rfl, HF.out.1⟩, HF.out.2⟩
  · have hPL : pathL n F i = [] := by unfold pathL rowsL; rw [if_neg hq]; rfl
    rw [hPL]
    generalize rowsE n F i = z at *
    have t1 : (z != 0) = true := by rw [bne_iff_ne]; exact hq
    clear hq hPL hR hpos
    go_enter Tryz.func39, Tryz.ntmps39
    go_wp2_with fail
    rw [← hW0]
    refine hA.mono ?_
    rintro e w1 ⟨rfl, hb1⟩
    have HB1 := Lib.hid (HB.out.trans (hb1.mono HB.out.size))
    clear hb1 hW0 hA
    go_wp2_with fail
    go_ret2
    exact ⟨⟨_, rfl, World.ownsRow_nil _ _ _ _⟩, HB1.out⟩
end Go.Proofs.YtnahhclflnjmcaaGreatDoor
