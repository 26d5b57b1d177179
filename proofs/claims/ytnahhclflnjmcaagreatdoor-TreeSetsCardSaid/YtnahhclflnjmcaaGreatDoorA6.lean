import Derived.Test.YtnahhclflnjmcaaGreatDoorA4
import Derived.Test.YtnahhclflnjmcaaGreatDoorA5
/- rows, where there are any; Path. -/
namespace Go.Proofs.YtnahhclflnjmcaaGreatDoor
open Go Go.RowKit
set_option linter.unusedVariables false
set_option linter.unusedSimpArgs false
set_option maxRecDepth 100000

theorem held_drew {wr w' : World} {s bo oo : Nat} {v : Value} {x : Int} (h : w'.cell? ⟨s, 0, none⟩ = some v ∧ w'.cell? ⟨bo, oo, none⟩ = some (.int .i64 x) ∧ Below wr.heap.size wr w') :
    w'.drew.cell? ⟨s, 0, none⟩ = some v ∧ w'.drew.cell? ⟨bo, oo, none⟩ = some (.int .i64 x) ∧ Below wr.heap.size wr w'.drew := ⟨h.1, h.2.1, h.2.2.drew⟩
theorem held_call {wr w' w'' : World} {s bo oo : Nat} {v : Value} {x : Int} (h : w'.cell? ⟨s, 0, none⟩ = some v ∧ w'.cell? ⟨bo, oo, none⟩ = some (.int .i64 x) ∧ Below wr.heap.size wr w') (hb : Below w'.heap.size w' w'') :
    w''.cell? ⟨s, 0, none⟩ = some v ∧ w''.cell? ⟨bo, oo, none⟩ = some (.int .i64 x) ∧ Below wr.heap.size wr w'' :=
  ⟨(hb.cell (World.block_lt_of_cell? _ _ h.1)).trans h.1, (hb.cell (World.block_lt_of_cell? _ _ h.2.1)).trans h.2.1, h.2.2.trans (hb.mono h.2.2.size)⟩
theorem below_mid {w wr w' : World} {s bo oo : Nat} {v : Value} {x : Int} (h : Below w.heap.size w wr) (hh : w'.cell? ⟨s, 0, none⟩ = some v ∧ w'.cell? ⟨bo, oo, none⟩ = some (.int .i64 x) ∧ Below wr.heap.size wr w') : Below w.heap.size w w' := h.trans (hh.2.2.mono h.size)
set_option maxHeartbeats 4000000 in
set_option maxRecDepth 100000 in
theorem rows_yes (v : Value) (n d i : Nat) (F : Nat → Node) (w : World) (hT : Tab w) (hR : TrR w v n F) (hO : Ok d n F) (hi : i < 2 ^ d) (hp : 1 ≤ (F (2 * i)).pub) :
    Calls Tryz.prog 169 #[.agg #[v], .int .i64 i] w fun e w' => RowsA w (rowsM F d i) 0 e w' := by
  have hz : chk n F = true := chk_iff.2 (.inr ⟨d, hO⟩)
  have hC : ∀ W, Below w.heap.size w W → Calls Tryz.prog 10 #[.agg #[v]] W fun e w' => e = .returned (.int .i64 (errB (chk n F))) ∧ Below W.heap.size W w' := fun W hW =>
    check10 v n F W (hT.below hT.pos hW) (hR.below hW) (by have := hO.n_le; omega)
  rw [hz, errB_true] at hC
  have hbA : Below w.heap.size w (w.alloc (.cells #[v] 24)) := (Below.refl _ _).alloc (Nat.le_refl _) _
  have hpos := hT.pos
  have hn15 := hO.n_le
  have hnd := hO.hn
  have hs := two_succ d
  obtain ⟨A, c, rfl, -, -, h3⟩ := hR
  obtain ⟨b, o, rfl, hN⟩ := h3 (by omega)
  have hL := fun w => leaves26 (some ⟨b, o, none⟩) n c w (by omega)
  rw [hO.lvs] at hL
  obtain ⟨c0, -, -, -, -⟩ := hN (2 * i) (by omega)
  have hb0 : b < w.heap.size := World.block_lt_of_cell? _ _ c0
  have hNi : Nd (2 * i) 0 i := by unfold Nd; simp
  have hCo : ∀ W, Tab W → Calls Tryz.prog 260 #[.int .i64 (2 * (i : Int)), .int .i64 (2 ^ d : Nat)] W fun e w' => ∃ v, e = .returned v ∧ OwnI w' W.heap.size v (coL (2 * i) 0 d) ∧ Below W.heap.size W w' := fun W hW => by
    have := copath_yes (2 * i) 0 i d (by have := hO.hd; omega) hNi (by omega) W hW
    rw [show ((2 * i : Nat) : Int) = 2 * (i : Int) by omega] at this
    exact this
  have hDi : ∀ W, Tab W → Calls Tryz.prog 155 #[.int .i64 (2 * (i : Int)), .int .i64 (2 ^ d : Nat)] W fun e w' => ∃ v, e = .returned v ∧ Ints w' v (natL (dirs d i)) ∧ (∀ k, v.ownBlock = some k → W.heap.size ≤ k) ∧ Below W.heap.size W w' := fun W hW =>
    dir31 d i (2 ^ d) hO.hd rfl hi W hW
  have hRN : Hid (∀ k, k < d → ∀ W, Below w.heap.size w W → Calls Tryz.prog 168 #[.slice none 0 0, .agg #[.slice (some ⟨b, o, none⟩) n c], .int .i64 (sib (2 * i) k : Nat)] W fun e w' => ∃ v', e = .returned v' ∧ OwnI w' W.heap.size v' (resM F k (sib (2 * i) k)) ∧ Below W.heap.size W w') := Lib.hid fun k hk W hW => by
    obtain ⟨-, f2, f3⟩ := sib_at hO.hd hi hk
    exact res_new hO hT hN hW f3 (by omega)
  have hd3 := hO.hd
  have HD := Lib.hid (And.intro hd3 hi)
  obtain ⟨L, hLd⟩ : ∃ L, L = 2 ^ d := ⟨_, rfl⟩
  rw [← hLd] at hL hCo hDi hi
  have t1 : ((F (2 * i)).pub == 0) = false := by rw [beq_eq_false_iff_ne]; omega
  have t2 : (L ≤ i) = False := eq_false (by omega)
  have t3 : decide ((i : Int) < 0) = false := decide_eq_false (by omega)
  have j1 : (0 : Int) ≤ 2 * (i : Int) := by omega
  have j2 : 2 * (i : Int) < n := by omega
  have hi8 : i < 8 := by omega
  have HLd := Lib.hid hLd
  clear hz h3 hN hO hnd hs hNi hp hLd hd3
  generalize (F (2 * i)).pub = p at *
  go_enter Tryz.func169, Tryz.ntmps169
  go_wp2_with (go_at_call 10; refine (hC _ hbA).mono ?_; rintro e' w1 ⟨rfl, hb1⟩; obtain ⟨hbox, hs1⟩ := box_keep hb1; have hbw1 := below_box hb1)
  refine (hL _).mono ?_
  rintro e' w2 ⟨rfl, hb2⟩
  have hbox2 := (hb2.cell hs1).trans hbox
  have hs2 : w.heap.size < w2.heap.size := Nat.lt_of_lt_of_le hs1 hb2.size
  have hbw2 := hbw1.trans (hb2.mono hbw1.size)
  have d0 := (hbw2.cell (p := ⟨b, o + 2 * i * 4, none⟩) hb0).trans c0
  have hb02 : b < w2.heap.size := by omega
  go_wp2_with fail
  refine (hL _).mono ?_
  rintro e' w3 ⟨rfl, hb3⟩
  have hbox3 := (hb3.cell hs2).trans hbox2
  have hs3 : w.heap.size < w3.heap.size := Nat.lt_of_lt_of_le hs2 hb3.size
  have hbw3 := hbw2.trans (hb3.mono hbw2.size)
  go_wp2_with fail
  refine (hCo _ (hT.below hpos hbw3)).mono ?_
  rintro e' w4 ⟨vo, rfl, hoo, hb4⟩
  have hbox4 := (hb4.cell hs3).trans hbox3
  have hs4 : w.heap.size < w4.heap.size := Nat.lt_of_lt_of_le hs3 hb4.size
  have hbw4 := hbw3.trans (hb4.mono hbw3.size)
  obtain ⟨Ao, co, rfl⟩ := hoo.slice
  have HO4 := Lib.hid hoo.ints
  rw [coL_length] at HO4 ⊢
  go_wp2_with fail
  refine (hL _).mono ?_
  rintro e' w5 ⟨rfl, hb5⟩
  have hbox5 := (hb5.cell hs4).trans hbox4
  have hs5 : w.heap.size < w5.heap.size := Nat.lt_of_lt_of_le hs4 hb5.size
  have hbw5 := hbw4.trans (hb5.mono hbw4.size)
  have HO5 := Lib.hid (HO4.out.below hb5)
  go_wp2_with fail
  refine (hDi _ (hT.below hpos hbw5)).mono ?_
  rintro e' w6 ⟨vd, rfl, hvd, -, hb6⟩
  have hbox6 := (hb6.cell hs5).trans hbox5
  have hs6 : w.heap.size < w6.heap.size := Nat.lt_of_lt_of_le hs5 hb6.size
  have hbw6 := hbw5.trans (hb6.mono hbw5.size)
  have HO6 := Lib.hid (HO5.out.below hb6)
  obtain ⟨Ad, cd, rfl, -, -, -⟩ := id hvd
  have hdl : (natL (dirs d i)).length = d := by unfold natL; rw [List.length_map, dirs_length]
  rw [hdl] at hvd ⊢
  have HVD := Lib.hid hvd
  have HBW := Lib.hid hbw6
  clear hb1 hb2 hb3 hb4 hb5 hb6 hbox hbox2 hbox3 hbox4 hbox5 hs1 hs2 hs3 hs4 hs5 hbw1 hbw2 hbw3 hbw4 hbw5 hbw6 d0 c0 hoo hvd HO4 HO5 hC hL hCo hDi hb02 j1 j2
  obtain ⟨S2, hS2⟩ : ∃ S2, S2 = w6.heap.size := ⟨_, rfl⟩
  have HS2 := Lib.hid hS2
  clear hS2
  go_wp2_with fail
  go_loopg [6, 43] (d + 1) (fun g v6 v43 wr => ∃ (k : Nat) (M : List Rw1), k ≤ d ∧ k + g = d + 1 ∧ v43 = .int .i64 k ∧ RowsO wr S2 v6 M ∧ M.map (fun r => (r.node, r.l)) = rowsK F i k ∧ Below S2 w6 wr)
  case atStart => exact ⟨0, [], by omega, by omega, rfl, RowsO.nil _ _, rfl, Below.refl _ _⟩
  case round =>
    obtain ⟨k, M, hk, hg, rfl, hM, hMK, hbel⟩ := hrel
    have HG := Lib.hid (And.intro hg hMK)
    have HM := Lib.hid hM
    obtain ⟨Ar, cr, rfl⟩ := hM.slice
    have hbelS := Lib.hid hbel
    rw [HS2.out] at hbel
    have hkd : k ≤ 3 := by have := HD.out.1; omega
    have hboxr := (hbel.cell (p := ⟨w.heap.size, 0, none⟩) hs6).trans hbox6
    have hsr : w.heap.size < wr.heap.size := Nat.lt_of_lt_of_le hs6 hbel.size
    have hbwr : Below w.heap.size w wr := HBW.out.trans (hbel.mono HBW.out.size)
    have HBEL := Lib.hid hbel
    clear hg hMK hM
    by_cases hlt : k < d
    · obtain ⟨x, hx, hxn, hxo, hxt, htk⟩ := dirs_at HD.out.1 HD.out.2 hlt
      obtain ⟨f1, f2, f3⟩ := sib_at HD.out.1 HD.out.2 hlt
      obtain ⟨bd, od, rfl, cd0⟩ := HVD.out.at (natL_get hx)
      obtain ⟨bo, oo, rfl, co0⟩ := HO6.out.at f1
      have hbd6 := World.block_lt_of_cell? _ _ cd0
      have hbo6 := World.block_lt_of_cell? _ _ co0
      have cdk := (hbel.cell (p := ⟨bd, od + k, none⟩) hbd6).trans cd0
      have cok := (hbel.cell (p := ⟨bo, oo + k, none⟩) hbo6).trans co0
      have hbdr : bd < wr.heap.size := World.block_lt_of_cell? _ _ cdk
      have hbor : bo < wr.heap.size := World.block_lt_of_cell? _ _ cok
      have j1 : (0 : Int) ≤ (k : Int) := by omega
      have j2 : (k : Int) < (d : Int) := by omega
      have hkw : IntKind.i64.wrap (k : Int) = k := i64_small k (by have := HD.out.1; omega)
      have hxa : x = anc (2 * i) (k + 1) := by
        have : (dirs d i)[k]? = some (anc (2 * i) (k + 1)) := by simp [dirs, hlt]
        rw [this] at hx
        exact (Option.some.inj hx).symm
      have HXA := Lib.hid hxa
      have hcall : ∀ W, Below w.heap.size w W → Calls Tryz.prog 168 #[.slice none 0 0, .agg #[.slice (some ⟨b, o, none⟩) n c], .int .i64 (sib (2 * i) k : Nat)] W fun e w' => ∃ v', e = .returned v' ∧ OwnI w' W.heap.size v' (resM F k (sib (2 * i) k)) ∧ Below W.heap.size W w' := hRN.out k hlt
      obtain ⟨rl, hrl⟩ : ∃ rl, rl = resM F k (sib (2 * i) k) := ⟨_, rfl⟩
      rw [← hrl] at hcall
      have HRL := Lib.hid hrl
      generalize hsx : sib (2 * i) k = sx at *
      have HSX := Lib.hid hsx
      clear hsx
      have hHeld : wr.cell? ⟨w.heap.size, 0, none⟩ = some (.slice (some ⟨b, o, none⟩) n c) ∧ wr.cell? ⟨bo, oo + k, none⟩ = some (.int .i64 (sx : Int)) ∧ Below wr.heap.size wr wr := ⟨hboxr, cok, Below.refl _ _⟩
      clear hx hxt htk f1 f2 f3 cd0 co0 hxa hrl hbel
      go_wp2_with fail
      go_region_held3 (fun w' => w'.cell? ⟨w.heap.size, 0, none⟩ = some (.slice (some ⟨b, o, none⟩) n c) ∧ w'.cell? ⟨bo, oo + k, none⟩ = some (.int .i64 (sx : Int)) ∧ Below wr.heap.size wr w') (first | assumption | exact held_drew (by assumption) | exact held_call (by assumption) (by assumption)) (first
        | (go_at_call 168; with_reducible refine (hcall _ (below_mid hbwr (by assumption))).mono ?_; rintro e' w7 ⟨v7, rfl, ho7, hb7⟩; obtain ⟨A7, c7, rfl⟩ := ho7.slice))
      have hb7' : Below wr.heap.size wr w7 := ⟨hb7.os, hb7.tape, hb7.output, hb7.size, hb7.block⟩
      have ho7' : OwnI w7 wr.heap.size (.slice A7 rl.length c7) rl := ho7
      have HM7 := Lib.hid (HM.out.below hb7')
      have hS2r : S2 ≤ wr.heap.size := by rw [HS2.out]; exact HBEL.out.size
      have hS2r7 : S2 ≤ w7.heap.size := Nat.le_trans hS2r hb7'.size
      have HO7 := Lib.hid (own_lower hS2r ho7')
      have hq7 : ∀ q, (Value.slice A7 rl.length c7).ownBlock = some q → (Value.slice Ar M.length cr).ownBlock ≠ some q ∧ ∀ r ∈ M, r.v.ownBlock ≠ some q := fun q hq => by
        have h1 := (World.ownsRow.lt ho7' q hq).1
        refine ⟨fun e => ?_, fun r hr e => ?_⟩
        · have := (World.ownsRow.lt HM.out.row q e).2
          omega
        · have := (World.ownsRow.lt (HM.out.own r hr) q e).2
          omega
      have HQ7 := Lib.hid hq7
      have hbel7 : Below S2 w6 w7 := by rw [HS2.out]; exact HBEL.out.trans (hb7'.mono HBEL.out.size)
      have hMlen : M.length ≤ 100 := by
        have h1 := rowsK_length F i k
        rw [← HG.out.2, List.length_map] at h1
        have := HD.out.1
        omega
      clear hb7 ho7 hb7' ho7' hq7
      by_cases hrl : 0 < rl.length
      · have t5 : decide (0 < rl.length) = true := decide_eq_true hrl
        have HK1 := Lib.hid (show rowsK F i (k + 1) = rowsK F i k ++ [(x, rl)] by
          rw [rowsK_succ, HSX.out, ← HRL.out, ← HXA.out]
          have : rl.isEmpty = false := by cases rl <;> simp at hrl ⊢
          rw [this]
          rfl)
        clear hrl
        go_wp2_with (at_builtin; refine pushRow (x := x) rfl _ _ rfl rfl rfl HM7 HO7 HQ7 hS2r7 ?c0 hMlen ?_)
        case c0 => simp
        intro v8 w8 h1 h2
        have H1 := Lib.hid h1
        clear h1
        go_wp2_with fail
        go_roundg (gk - 1)
        case rel => exact ⟨k + 1, _, by omega, by have := HG.out.1; omega, by go_num, H1.out, by rw [HK1.out, List.map_append, HG.out.2]; rfl, hbel7.trans h2⟩
        case measure => have := HG.out.1; omega
      · have t5 : decide (0 < rl.length) = false := decide_eq_false hrl
        have HK1 := Lib.hid (show rowsK F i (k + 1) = rowsK F i k by
          rw [rowsK_succ, HSX.out, ← HRL.out]
          have : rl.isEmpty = true := by cases rl <;> simp at hrl ⊢
          rw [this]
          simp)
        clear hrl
        go_wp2_with fail
        go_roundg (gk - 1)
        case rel => exact ⟨k + 1, M, by omega, by have := HG.out.1; omega, by go_num, HM7.out, by rw [HK1.out]; exact HG.out.2, hbel7⟩
        case measure => have := HG.out.1; omega
    · obtain rfl : k = d := by omega
      go_wp2_with fail
      go_ret2
      have hbf : Below w.heap.size w wr := hbwr
      refine ⟨⟨_, M, rfl, HM.out.lower (by rw [HS2.out]; exact HBW.out.size), HG.out.2⟩, hbf⟩
end Go.Proofs.YtnahhclflnjmcaaGreatDoor

/- Path. -/
namespace Go.Proofs.YtnahhclflnjmcaaGreatDoor
open Go Go.RowKit
set_option linter.unusedVariables false
set_option linter.unusedSimpArgs false
set_option maxRecDepth 100000

def rowsL (n : Nat) (F : Nat → Node) (i : Int) : List (Nat × List Int) := if rowsE n F i = 0 then rowsM F (lg (lvs n)) i.toNat else []
theorem rowsE_ok {n d : Nat} {F : Nat → Node} {i : Int} (hO : Ok d n F) (h : rowsE n F i = 0) : ∃ j : Nat, i = j ∧ j < 2 ^ d ∧ 1 ≤ (F (2 * j)).pub := by
  have hz : chk n F = true := chk_iff.2 (.inr ⟨d, hO⟩)
  unfold rowsE at h
  rw [hz, if_neg (by decide)] at h
  by_cases h1 : i < 0 ∨ (lvs n : Int) ≤ i ∨ (F (2 * i.toNat)).pub = 0
  · rw [if_pos h1] at h
    cases h
  · obtain ⟨j, rfl⟩ : ∃ j : Nat, i = j := ⟨i.toNat, by omega⟩
    rw [hO.lvs, Int.toNat_natCast] at h1
    have hj : j < 2 ^ d := by omega
    refine ⟨j, rfl, hj, ?_⟩
    rcases hO.leaf j hj with h2 | h2
    · rw [Node.blank_iff.1 h2] at h1
      exact absurd (by decide) (fun h => h1 (.inr (.inr h)))
    · exact h2.1
theorem rowsE_empty {F : Nat → Node} {i : Int} : rowsE 0 F i ≠ 0 := by
  unfold rowsE
  have : chk 0 F = true := rfl
  rw [this, if_neg (by decide), if_pos]
  · decide
  · have : lvs 0 = 0 := rfl
    rw [this]
    omega
theorem rows35 (v : Value) (n : Nat) (F : Nat → Node) (i : Int) (w : World) (hT : Tab w) (hR : TrR w v n F) (hn : n ≤ 262144) :
    Calls Tryz.prog 169 #[.agg #[v], .int .i64 i] w fun e w' => RowsA w (rowsL n F i) (rowsE n F i) e w' := by
  by_cases hq : rowsE n F i = 0
  · have hz : chk n F = true := by
      cases hz : chk n F with
      | true => rfl
      | false => unfold rowsE at hq; rw [if_pos hz] at hq; cases hq
    rcases chk_iff.1 hz with rfl | ⟨d, hO⟩
    · exact absurd hq rowsE_empty
    · obtain ⟨j, rfl, hj, hp⟩ := rowsE_ok hO hq
      unfold rowsL
      rw [hq, if_pos rfl, hO.lvs, lg_pow hO.hd, Int.toNat_natCast]
      exact rows_yes v n d j F w hT hR hO hj hp
  · unfold rowsL
    rw [if_neg hq]
    exact rows_no v n F i w hT hR hn hq
theorem rwCells_get : ∀ (M : List Rw1) (k : Nat) (r : Rw1), M[k]? = some r → (rwCells M)[k * 2]? = some (.int .i64 r.node) ∧ (rwCells M)[k * 2 + 1]? = some r.v
  | [], k, r, h => by simp at h
  | x :: M, 0, r, h => by
    obtain rfl : x = r := by simpa using h
    simp [rwCells]
  | x :: M, k + 1, r, h => by
    have ih := rwCells_get M k r (by simpa using h)
    have e : rwCells (x :: M) = .int .i64 x.node :: x.v :: rwCells M := by simp [rwCells]
    rw [e, show (k + 1) * 2 = k * 2 + 1 + 1 by omega]
    simpa using ih
theorem RowsO.at {w : World} {B : Nat} {vr : Value} {M : List Rw1} (h : RowsO w B vr M) {k : Nat} {r : Rw1} (hk : M[k]? = some r) :
    ∃ b c, vr = .slice (some ⟨b, 0, none⟩) M.length c ∧ B ≤ b ∧ w.cell? ⟨b, k * 2, none⟩ = some (.int .i64 r.node) ∧ w.cell? ⟨b, k * 2 + 1, none⟩ = some r.v := by
  have hlt := (List.getElem?_eq_some_iff.1 hk).1
  rcases h.row.2 with ⟨_, h2⟩ | ⟨b, cap, cur, rfl, h2, h3, h4, h5, h6, h7⟩
  · omega
  · obtain ⟨g0, g1⟩ := rwCells_get M k r hk
    rw [← h7, List.getElem?_take_of_lt (by omega), Array.getElem?_toList] at g0 g1
    exact ⟨b, cap, rfl, h2, by rw [cell_of_row _ _ _ _ _ _ h3]; exact g0, by rw [cell_of_row _ _ _ _ _ _ h3]; exact g1⟩
def pathL (n : Nat) (F : Nat → Node) (i : Int) : List Nat := (rowsL n F i).map (·.1)
/-- What Path answers. -/
structure PathA (w : World) (L : List Nat) (c : Int) (e : Ending) (w' : World) : Prop where
  out : ∃ v', e = .returned (.tuple #[v', .int .i64 c]) ∧ OwnI w' w.heap.size v' (natL L)
  bel : Below w.heap.size w w'
set_option maxHeartbeats 4000000 in
set_option maxRecDepth 100000 in
theorem path17 (v : Value) (n : Nat) (F : Nat → Node) (i : Int) (w : World) (hT : Tab w) (hR : TrR w v n F) (hn : n ≤ 262144) :
    Calls Tryz.prog 36 #[.agg #[v], .int .i64 i] w fun e w' => PathA w (pathL n F i) (rowsE n F i) e w' := by
  have hbA : Below w.heap.size w (w.alloc (.cells #[v] 24)) := (Below.refl _ _).alloc (Nat.le_refl _) _
  have hr := rows35 v n F i _ (hT.below hT.pos hbA) (hR.below hbA) hn
  have hlen : (rowsL n F i).length ≤ 3 := by
    unfold rowsL
    split
    · refine Nat.le_trans (rowsK_length F i.toNat (lg (lvs n))) ?_
      unfold lg
      repeat' split
      all_goals omega
    · simp
  unfold pathL
  generalize rowsE n F i = c at *
  generalize rowsL n F i = L at *
  obtain ⟨A, cc, rfl, -, -, -⟩ := hR
  go_enter Tryz.func36, Tryz.ntmps36
  go_wp2_with fail
  refine hr.mono ?_
  rintro e w1 ⟨⟨vr, M, rfl, hM, hML⟩, hb1⟩
  have hbw1 := below_box hb1
  obtain ⟨Ar, cr, hvr⟩ := hM.slice
  subst hvr
  have HM := Lib.hid hM
  have hMl : M.length ≤ 3 := by rw [← hML, List.length_map] at hlen; exact hlen
  have HML := Lib.hid hML
  obtain ⟨S2, hS2⟩ : ∃ S2, S2 = w1.heap.size := ⟨_, rfl⟩
  have HS2 := Lib.hid (And.intro hS2 hbw1)
  have hS2' : S2 ≤ w1.heap.size := by omega
  generalize hml : M.length = ml at *
  have HLN := Lib.hid hml
  clear hM hML hb1 hr hlen hS2 hml
  go_wp2_with fail
  go_loopg [8, 19] (ml + 1) (fun g v8 v19 wr => ∃ k : Nat, k ≤ ml ∧ k + g = ml + 1 ∧ v19 = .int .i64 k ∧ OwnI wr S2 v8 (natL ((M.take k).map (·.node))) ∧ Below S2 w1 wr ∧ S2 ≤ wr.heap.size)
  case atStart => exact ⟨0, by omega, by omega, rfl, World.ownsRow_nil _ _ _ _, Below.refl _ _, hS2'⟩
  case round =>
    obtain ⟨k, hk, hg, rfl, hown, hbel, hSr⟩ := hrel
    have HG := Lib.hid hg
    have HOWN := Lib.hid hown
    clear hg
    by_cases hlt : k < ml
    · obtain ⟨r, hrk⟩ : ∃ r, M[k]? = some r := ⟨M[k]'(by have := HLN.out; omega), List.getElem?_eq_getElem _⟩
      obtain ⟨b, c', e, -, d0, d1⟩ := HM.out.at hrk
      have e1 : Ar = some ⟨b, 0, none⟩ := by injection e
      clear e
      subst e1
      have hb1s := World.block_lt_of_cell? _ _ d0
      have hbel1 : Below w1.heap.size w1 wr := by have := HS2.out.1; rw [← this]; exact hbel
      have x0 := (hbel1.cell (p := ⟨b, k * 2, none⟩) hb1s).trans d0
      have x1 := (hbel1.cell (p := ⟨b, k * 2 + 1, none⟩) hb1s).trans d1
      have hbr := World.block_lt_of_cell? _ _ x0
      have j1 : (0 : Int) ≤ (k : Int) := by omega
      have j2 : (k : Int) < (ml : Int) := by omega
      have HT := Lib.hid (show natL ((M.take (k + 1)).map (·.node)) = natL ((M.take k).map (·.node)) ++ [(r.node : Int)] by
        rw [List.take_add_one, hrk]; simp [natL])
      have hlen2 : (natL ((M.take k).map (·.node))).length < 4294967296 := by simp [natL]; omega
      generalize natL ((M.take k).map (·.node)) = TT at *
      obtain ⟨At, ct, rfl⟩ := hown.slice
      obtain ⟨node, rv, rl⟩ := r
      simp only at x0 x1 HT d0 d1
      have hval : ∃ A2 n2 c2, rv = .slice A2 n2 c2 := by
        obtain ⟨A2, c2, e⟩ := (HM.out.own ⟨node, rv, rl⟩ (List.mem_of_getElem? hrk)).slice
        exact ⟨A2, _, c2, e⟩
      obtain ⟨A2, n2, c2, rfl⟩ := hval
      have hown2 := Lib.hid (HOWN.out.below ((Below.refl _ _).alloc (Nat.le_refl _) (.cells #[.int .i64 (node : Int), .slice A2 n2 c2] 121)))
      have hbel2 := hbel.alloc hSr (.cells #[.int .i64 (node : Int), .slice A2 n2 c2] 121)
      have hB2 : S2 ≤ (wr.alloc (.cells #[.int .i64 (node : Int), .slice A2 n2 c2] 121)).heap.size := by simp; omega
      clear hrk d0 d1 hbel1 hown
      go_wp2_with (at_builtin; refine pushg rfl _ _ rfl rfl rfl hown2 hbel2 hB2 ?c0 hlen2 ?_)
      intro v' w' h1 h2 h3
      have H1 := Lib.hid h1
      clear h1 hown2
      go_wp2_with fail
      go_roundg (gk - 1)
      case rel => exact ⟨k + 1, by omega, by have := HG.out; omega, by go_num, by rw [HT.out]; exact H1.out, h2, h3⟩
      case measure => have := HG.out; omega
    · obtain rfl : k = ml := by omega
      rw [show M.take k = M from List.take_of_length_le (by have := HLN.out; omega)] at HOWN
      clear hown
      go_wp2_with fail
      go_ret2
      have hbw := HS2.out.2
      refine ⟨⟨_, rfl, ?_⟩, hbw.trans (hbel.mono (by have := HS2.out.1; have := hbw.size; omega))⟩
      have e : (L.map (·.1)) = M.map (·.node) := by rw [← HML.out]; simp
      rw [e]
      exact own_lower (by have := HS2.out.1; have := hbw.size; omega) HOWN.out
end Go.Proofs.YtnahhclflnjmcaaGreatDoor
