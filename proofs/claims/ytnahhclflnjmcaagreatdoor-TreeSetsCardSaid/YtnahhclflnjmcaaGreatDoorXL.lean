/- Chapter 08's own other, asked, Resolution, Path. -/
import Derived.Test.YtnahhclflnjmcaaGreatDoorXJ
import Derived.Test.YtnahhclflnjmcaaGreatDoorXF
import Derived.Test.YtnahhclflnjmcaaGreatDoorB3
import Derived.Test.YtnahhclflnjmcaaGreatDoorA6
import Derived.Test.YtnahhclflnjmcaaGreatDoorV1
namespace Go.Proofs.YtnahhclflnjmcaaGreatDoor
open Go Go.RowKit
set_option linter.unusedVariables false
set_option linter.unusedSimpArgs false
set_option maxRecDepth 100000

theorem oth_fin : ∀ d : Fin 4, ∀ i : Fin 8, ∀ k : Fin 4, i.val < 2 ^ d.val → k.val < d.val → (if wi i.val (anc (2 * i.val) (k.val + 1) - 2 ^ k.val) = true then anc (2 * i.val) (k.val + 1) + 2 ^ k.val else anc (2 * i.val) (k.val + 1) - 2 ^ k.val) = sib (2 * i.val) k.val ∧ anc (2 * i.val) (k.val + 1) < 15 := by decide +kernel
set_option maxHeartbeats 2000000 in
theorem rother (d i k : Nat) (hd : d ≤ 3) (hi : i < 2 ^ d) (hk : k < d) (w : World) :
    Calls Tryz.prog 175 #[.int .i64 (anc (2 * i) (k + 1) : Nat), .int .i64 i] w fun e w' => e = .returned (.int .i64 (sib (2 * i) k : Nat)) ∧ w = w' := by
  have h8 : 2 ^ d ≤ 2 ^ 3 := Nat.pow_le_pow_right (by decide) hd
  obtain ⟨hf, hx15⟩ := oth_fin ⟨d, by omega⟩ ⟨i, by omega⟩ ⟨k, by omega⟩ hi hk
  simp only at hf hx15
  have hN := anc_nd (2 * i) (k + 1)
  generalize anc (2 * i) (k + 1) = x at *
  have hLf := fun W => rleft_yes x (k + 1) _ hN (by omega) (by omega) W
  have hRt := fun W => rright_yes x (k + 1) _ hN (by omega) (by omega) (by omega) W
  rw [Nat.add_sub_cancel] at hLf hRt
  have hxl : x - 2 ^ k < 31 := Nat.lt_of_le_of_lt (Nat.sub_le _ _) (by omega)
  have hW := fun W => wi_iff (i := i) (x := x - 2 ^ k) (by omega) hxl W
  have hi8 : i < 8 := by omega
  generalize x - 2 ^ k = l at *
  generalize x + 2 ^ k = r at *
  generalize sib (2 * i) k = sb at *
  cases hwi : wi i l with
  | true =>
    rw [hwi] at hW hf
    rw [if_pos rfl] at hf
    subst hf
    clear hwi hN hk hi hd h8
    go_enter Tryz.func175, Tryz.ntmps175
    go_wp2_with (first | (go_at_call 263; refine (hLf _).mono ?_; rintro e w' ⟨rfl, rfl⟩) | (go_at_call 264; refine (hRt _).mono ?_; rintro e w' ⟨rfl, rfl⟩) | (go_at_call 265; refine (hW _).mono ?_; rintro e w' ⟨rfl, rfl⟩))
    go_ret
    exact ⟨rfl, rfl⟩
  | false =>
    rw [hwi] at hW hf
    rw [if_neg (by decide)] at hf
    subst hf
    clear hwi hN hk hi hd h8
    go_enter Tryz.func175, Tryz.ntmps175
    go_wp2_with (first | (go_at_call 263; refine (hLf _).mono ?_; rintro e w' ⟨rfl, rfl⟩) | (go_at_call 264; refine (hRt _).mono ?_; rintro e w' ⟨rfl, rfl⟩) | (go_at_call 265; refine (hW _).mono ?_; rintro e w' ⟨rfl, rfl⟩))
    go_ret
    exact ⟨rfl, rfl⟩
set_option maxHeartbeats 4000000 in
theorem rasked (v : Value) (n : Nat) (F : Nat → Node) (i : Int) (w : World) (hR : TrR w v n F) (hun : ∀ y, y < n → (F y).un.length ≤ 1000000) (hi : (Lit.int .i64 i).wf = true) :
    Calls Tryz.prog 174 #[.agg #[v], .int .i64 i] w fun e w' => e = .returned (.int .i64 (rowsE n F i)) ∧ Below w.heap.size w w' := by
  obtain ⟨A, c, rfl, -, -, -⟩ := id hR
  obtain ⟨W0, hW0⟩ : ∃ W0, W0 = w.alloc (.cells #[.slice A n c] 24) := ⟨_, rfl⟩
  have hb0 : Below w.heap.size w W0 := by rw [hW0]; exact (Below.refl _ _).alloc (Nat.le_refl _) _
  have hx0 : W0.cell? ⟨w.heap.size, 0, none⟩ = some (.slice A n c) := by rw [hW0]; exact cell_one_new w _ 24 0 _ rfl
  have hxl := World.block_lt_of_cell? _ _ hx0
  have hC := rcheck (.slice A n c) n F W0 (hR.below hb0) hun
  have hL := fun W => rleaves A n c W
  have HR := Lib.hid hR
  have HB := Lib.hid hb0
  obtain ⟨z, hz⟩ : ∃ z, z = rowsE n F i := ⟨_, rfl⟩
  rw [← hz]
  have HZ := Lib.hid hz
  clear hR hun hb0 hz
  cases hk : chk n F with
  | false =>
    obtain rfl : z = 1 := by rw [HZ.out]; unfold rowsE; rw [if_pos hk]
    rw [hk, errB_false] at hC
    clear hk hi
    go_enter Tryz.func174, Tryz.ntmps174
    go_wp2_with fail
    rw [← hW0]
    refine hC.mono ?_
    rintro e w1 ⟨rfl, hb1⟩
    have HB1 := Lib.hid (HB.out.trans (hb1.mono HB.out.size))
    clear hb1 hW0 hC
    go_wp2_with fail
    go_ret
    exact ⟨rfl, HB1.out⟩
  | true =>
    rw [hk, errB_true] at hC
    have hz2 : z = if i < 0 ∨ (lvs n : Int) ≤ i ∨ (F (2 * i.toNat)).pub = 0 then 7 else 0 := by rw [HZ.out]; unfold rowsE; rw [hk, if_neg (by decide)]
    have hsc := (size_cases hk).1
    have hs8 := (size_cases hk).2.1
    rw [show sizeM n F = lvs n from if_pos hk] at hsc hs8
    have HSC := Lib.hid hsc
    generalize lvs n = L at *
    clear hk hsc
    by_cases h1 : i < 0
    · obtain rfl : z = 7 := by rw [hz2, if_pos (.inl h1)]
      have t1 : decide (i < 0) = true := decide_eq_true h1
      clear h1 hz2 hi
      go_enter Tryz.func174, Tryz.ntmps174
      go_wp2_with fail
      rw [← hW0]
      refine hC.mono ?_
      rintro e w1 ⟨rfl, hb1⟩
      have HB1 := Lib.hid (HB.out.trans (hb1.mono HB.out.size))
      clear hb1 hW0 hC
      go_wp2_with fail
      go_ret
      exact ⟨rfl, HB1.out⟩
    · have t1 : decide (i < 0) = false := decide_eq_false h1
      by_cases h2 : (L : Int) ≤ i
      · obtain rfl : z = 7 := by rw [hz2, if_pos (.inr (.inl h2))]
        have t2 : decide ((L : Int) ≤ i) = true := decide_eq_true h2
        clear h1 h2 hz2 hi
        go_enter Tryz.func174, Tryz.ntmps174
        go_wp2_with fail
        rw [← hW0]
        refine hC.mono ?_
        rintro e w1 ⟨rfl, hb1⟩
        have hx1 := (hb1.cell (p := ⟨w.heap.size, 0, none⟩) hxl).trans hx0
        have hx1l := World.block_lt_of_cell? _ _ hx1
        have HB1 := Lib.hid (HB.out.trans (hb1.mono HB.out.size))
        clear hb1 hW0 hC hx0 hxl
        go_wp2_with fail
        refine (hL _).mono ?_
        rintro e w2 ⟨rfl, hb2⟩
        have HB2 := Lib.hid (HB1.out.trans (hb2.mono HB1.out.size))
        clear hb2 hL
        go_wp2_with fail
        go_ret
        exact ⟨rfl, HB2.out⟩
      · have t2 : decide ((L : Int) ≤ i) = false := decide_eq_false h2
        obtain ⟨j, rfl⟩ : ∃ j : Nat, i = j := ⟨i.toNat, by omega⟩
        rw [Int.toNat_natCast] at hz2
        have hjn : 2 * j < n := (HSC.out j).2 (by omega)
        have hj8 : j < 8 := by omega
        have hz3 : z = if (F (2 * j)).pub = 0 then 7 else 0 := by
          rw [hz2]
          by_cases h3 : (F (2 * j)).pub = 0
          · rw [if_pos h3, if_pos (.inr (.inr h3))]
          · rw [if_neg h3, if_neg (by rintro (h | h | h); exact h1 h; exact h2 h; exact h3 h)]
        have j1 : (0 : Int) ≤ 2 * (j : Int) := by omega
        have j2 : 2 * (j : Int) < (n : Int) := by omega
        have t2' : decide (L ≤ j) = false := decide_eq_false (by omega)
        have HN := Lib.hid hjn
        have HZ3 := Lib.hid hz3
        clear h1 h2 hz2 hi hjn hz3
        go_enter Tryz.func174, Tryz.ntmps174
        go_wp2_with fail
        rw [← hW0]
        refine hC.mono ?_
        rintro e w1 ⟨rfl, hb1⟩
        have hx1 := (hb1.cell (p := ⟨w.heap.size, 0, none⟩) hxl).trans hx0
        have hx1l := World.block_lt_of_cell? _ _ hx1
        have HB1 := Lib.hid (HB.out.trans (hb1.mono HB.out.size))
        clear hb1 hW0 hC hx0 hxl
        go_wp2_with fail
        refine (hL _).mono ?_
        rintro e w2 ⟨rfl, hb2⟩
        have hx2 := (hb2.cell (p := ⟨w.heap.size, 0, none⟩) hx1l).trans hx1
        have hx2l := World.block_lt_of_cell? _ _ hx2
        have hB2 := HB1.out.trans (hb2.mono HB1.out.size)
        obtain ⟨b, o, rfl, hN⟩ := (HR.out.below hB2).at' HN.out
        obtain ⟨y0, -, -, -, -⟩ := hN
        have hbl := World.block_lt_of_cell? _ _ y0
        have HB2 := Lib.hid hB2
        clear hb2 hL hB2 hx1 hx1l
        generalize (F (2 * j)).pub = p at *
        by_cases hp : p = 0
        · obtain rfl : z = 7 := by rw [HZ3.out, if_pos hp]
          have t3 : (p == 0) = true := by rw [hp]; rfl
          clear hp
          go_wp2_with fail
          go_ret
          exact ⟨rfl, HB2.out⟩
        · obtain rfl : z = 0 := by rw [HZ3.out, if_neg hp]
          have t3 : (p == 0) = false := by rw [beq_eq_false_iff_ne]; exact hp
          clear hp
          go_wp2_with fail
          go_ret
          exact ⟨rfl, HB2.out⟩
/-- What a tree that may be gives to the walk of resolution. -/
theorem rres_ok {w0 : World} {A : Option Addr} {c n d : Nat} {F : Nat → Node} (hO : Ok d n F) (hR : TrR w0 (.slice A n c) n F) :
    ∀ (k x j : Nat), Nd x k j → x < n → ∀ (w : World), Below w0.heap.size w0 w → Calls Tryz.prog 173 #[.agg #[.slice A n c], .int .i64 x] w fun e w' => ∃ v', e = .returned v' ∧ OwnI w' w.heap.size v' (resM F k x) ∧ Below w.heap.size w w' := by
  have hnl := hO.lvs_ne
  have hn0 := (lvs_le hnl).1
  obtain ⟨A', c', e, -, -, h3⟩ := hR
  injection e with e1 _ e3
  subst e1 e3
  obtain ⟨b, o, rfl, hN⟩ := h3 hn0
  have hu : ∀ y, y < n → (F y).un.length ≤ 8 := fun y hy => hO.un_len hy
  have hpp : ∀ y, y < n → 0 ≤ (F y).pub := fun y hy => by
    have := pad_pub (chk_iff.2 (.inr ⟨d, hO⟩)) y
    unfold pad at this
    rwa [if_pos hy] at this
  intro k x j hx hxn w hw
  have key := rres b o n c (pad n F) w0 hnl (fun y hy => by unfold pad; rw [if_pos hy]; exact hN y hy) (fun y hy => by unfold pad; rw [if_pos hy]; exact hu y hy) (fun y => by unfold pad; split; exact hu y (by assumption); exact Nat.zero_le _)
    (fun y hy => by unfold pad; rw [if_pos hy]; exact hO.un_rng hy) (fun y hy => by unfold pad; rw [if_pos hy]; exact hpp y hy) k x j hx hxn w hw
  rw [resM_pad hnl k x j hx hxn] at key
  exact key
set_option maxHeartbeats 2000000 in
theorem rresolution (v : Value) (n : Nat) (F : Nat → Node) (x : Int) (w : World) (hR : TrR w v n F) (hun : ∀ y, y < n → (F y).un.length ≤ 1000000) :
    Calls Tryz.prog 38 #[.agg #[v], .int .i64 x] w fun e w' => ResA w (resL n F x) (resE n F x) e w' := by
  obtain ⟨A, c, rfl, -, -, -⟩ := id hR
  obtain ⟨W0, hW0⟩ : ∃ W0, W0 = w.alloc (.cells #[.slice A n c] 24) := ⟨_, rfl⟩
  have hb0 : Below w.heap.size w W0 := by rw [hW0]; exact (Below.refl _ _).alloc (Nat.le_refl _) _
  have hx0 : W0.cell? ⟨w.heap.size, 0, none⟩ = some (.slice A n c) := by rw [hW0]; exact cell_one_new w _ 24 0 _ rfl
  have hxl := World.block_lt_of_cell? _ _ hx0
  have hC := rcheck (.slice A n c) n F W0 (hR.below hb0) hun
  have HR := Lib.hid hR
  have HB := Lib.hid hb0
  clear hR hun hb0
  have no : ∀ z, resE n F x = z → z ≠ 0 → resL n F x = [] := fun z h1 h2 => by unfold resL; rw [if_neg (by rw [h1]; exact h2)]
  cases hk : chk n F with
  | false =>
    have hz : resE n F x = 1 := by unfold resE; rw [if_pos hk]
    rw [hz, no 1 hz (by decide)]
    rw [hk, errB_false] at hC
    clear hk hz no
    go_enter Tryz.func38, Tryz.ntmps38
    go_wp2_with fail
    rw [← hW0]
    refine hC.mono ?_
    rintro e w1 ⟨rfl, hb1⟩
    have HB1 := Lib.hid (HB.out.trans (hb1.mono HB.out.size))
    clear hb1 hW0 hC
    go_wp2_with fail
    go_ret2
    exact ⟨⟨_, rfl, World.ownsRow_nil _ _ _ _⟩, HB1.out⟩
  | true =>
    rw [hk, errB_true] at hC
    have HK := Lib.hid hk
    by_cases h1 : x < 0 ∨ (n : Int) ≤ x
    · have hz : resE n F x = 7 := by unfold resE; rw [hk, if_neg (by decide), if_pos h1]
      rw [hz, no 7 hz (by decide)]
      have t12 : (decide (x < 0) = true) ∨ (decide (x < 0) = false ∧ decide ((n : Int) ≤ x) = true) := by
        by_cases h2 : x < 0
        · exact .inl (decide_eq_true h2)
        · exact .inr ⟨decide_eq_false h2, decide_eq_true (by omega)⟩
      clear hk hz no h1
      rcases t12 with t1 | ⟨t1, t2⟩
      · go_enter Tryz.func38, Tryz.ntmps38
        go_wp2_with fail
        rw [← hW0]
        refine hC.mono ?_
        rintro e w1 ⟨rfl, hb1⟩
        have HB1 := Lib.hid (HB.out.trans (hb1.mono HB.out.size))
        clear hb1 hW0 hC
        go_wp2_with fail
        go_ret2
        exact ⟨⟨_, rfl, World.ownsRow_nil _ _ _ _⟩, HB1.out⟩
      · go_enter Tryz.func38, Tryz.ntmps38
        go_wp2_with fail
        rw [← hW0]
        refine hC.mono ?_
        rintro e w1 ⟨rfl, hb1⟩
        have hx1 := (hb1.cell (p := ⟨w.heap.size, 0, none⟩) hxl).trans hx0
        have hx1l := World.block_lt_of_cell? _ _ hx1
        have HB1 := Lib.hid (HB.out.trans (hb1.mono HB.out.size))
        clear hb1 hW0 hC hx0 hxl
        go_wp2_with fail
        go_ret2
        exact ⟨⟨_, rfl, World.ownsRow_nil _ _ _ _⟩, HB1.out⟩
    · have hz : resE n F x = 0 := by unfold resE; rw [hk, if_neg (by decide), if_neg h1]
      have hl : resL n F x = resM F (lvN x.toNat) x.toNat := by unfold resL; rw [if_pos hz]
      rw [hz, hl]
      obtain ⟨y, rfl⟩ : ∃ y : Nat, x = y := ⟨x.toNat, by omega⟩
      rw [Int.toNat_natCast]
      have t1 : decide ((y : Int) < 0) = false := decide_eq_false (by omega)
      have t2 : decide ((n : Int) ≤ (y : Int)) = false := decide_eq_false (by omega)
      have hyn : y < n := by omega
      obtain ⟨d, hO⟩ : ∃ d, Ok d n F := by
        rcases chk_iff.1 hk with rfl | h
        · omega
        · exact h
      have hn15 := hO.n_le
      have hM := Lib.hid (fun (W : World) (hW : Below w.heap.size w W) => rres_ok hO HR.out (lvN y) y _ (nd_lv (by omega)) hyn W hW)
      have y0 : (0 : Int) ≤ (y : Int) := by omega
      clear hk hz no h1 hl
      generalize resM F (lvN y) y = l at *
      go_enter Tryz.func38, Tryz.ntmps38
      go_wp2_with fail
      rw [← hW0]
      refine hC.mono ?_
      rintro e w1 ⟨rfl, hb1⟩
      have hx1 := (hb1.cell (p := ⟨w.heap.size, 0, none⟩) hxl).trans hx0
      have hx1l := World.block_lt_of_cell? _ _ hx1
      have HB1 := Lib.hid (HB.out.trans (hb1.mono HB.out.size))
      clear hb1 hW0 hC hx0 hxl
      go_wp2_with fail
      refine (hM.out _ HB1.out).mono ?_
      rintro e w2 ⟨v2, rfl, ho2, hb2⟩
      have HO := Lib.hid (And.intro (own_lower HB1.out.size ho2) (HB1.out.trans (hb2.mono HB1.out.size)))
      obtain ⟨A2, c2, rfl⟩ := ho2.slice
      clear ho2 hb2
      go_wp2_with fail
      go_ret2
      exact ⟨⟨_, rfl, HO.out.1⟩, HO.out.2⟩
end Go.Proofs.YtnahhclflnjmcaaGreatDoor
