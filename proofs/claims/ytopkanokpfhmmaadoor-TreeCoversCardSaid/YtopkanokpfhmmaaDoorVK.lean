/- TreeCovers: the walk. -/
import Derived.Test.YtopkanokpfhmmaaDoorVJ
namespace Go.Proofs.YtopkanokpfhmmaaDoor
open Go Go.RowKit
set_option linter.unusedVariables false
set_option linter.unusedSimpArgs false

theorem tgtL_nil (n : Nat) (F : Nat → Node) (i : Int) : tgtL n F i [] = (rowsL n F i).map (·.2) := by
  unfold tgtL
  refine List.map_congr_left fun r _ => ?_
  refine List.filter_eq_self.2 fun x _ => ?_
  simp [freshB]
theorem rowsL_some {n : Nat} {F : Nat → Node} {i : Int} (hz : chk n F = true) (h : rowsE n F i = 0) : ∃ d j : Nat, Ok d n F ∧ i = j ∧ j < 2 ^ d ∧ rowsL n F i = rowsM F d j := by
  rcases chk_iff.1 hz with rfl | ⟨d, hO⟩
  · exact absurd h rowsE_empty
  · obtain ⟨j, rfl, hj, hp⟩ := rowsE_ok hO h
    refine ⟨d, j, hO, rfl, hj, ?_⟩
    unfold rowsL
    rw [h, if_pos rfl, hO.lvs, lg_pow hO.hd, Int.toNat_natCast]
theorem rowsM_pos {F : Nat → Node} {d i : Nat} {r : Nat × List Int} (h : r ∈ rowsM F d i) : 0 < r.2.length := by
  have h2 := (List.mem_filter.1 h).2
  cases hr : r.2 with
  | nil => rw [hr] at h2; cases h2
  | cons a l => simp
theorem resE_some {n : Nat} {F : Nat → Node} {x : Int} (hz : chk n F = true) (h : resE n F x = 0) : ∃ d y : Nat, Ok d n F ∧ x = y ∧ y < n := by
  unfold resE at h
  rw [if_neg (by rw [hz]; decide)] at h
  by_cases h1 : x < 0 ∨ (n : Int) ≤ x
  · rw [if_pos h1] at h; cases h
  · rcases chk_iff.1 hz with rfl | ⟨d, hO⟩
    · exact absurd (by omega) h1
    · exact ⟨d, x.toNat, hO, by omega, by omega⟩
set_option maxHeartbeats 4000000 in
set_option maxRecDepth 100000 in
theorem covers (v : Value) (n : Nat) (F : Nat → Node) (x leaf : Int) (w : World) (hT : Tab w) (hR : TrR w v n F) (hw1 : (Lit.int .i64 x).wf = true) (hw2 : (Lit.int .i64 leaf).wf = true) :
    Calls Tryd.prog 6 #[.agg #[v], .int .i64 x, .int .i64 leaf] w fun e w' => e = .returned (.bool true) ∧ Below w.heap.size w w' := by
  have hpos := hT.pos
  have HT := Lib.hid hT
  have HR := Lib.hid hR
  clear hw1 hw2
  obtain ⟨A, c, rfl, -, -, -⟩ := id hR
  clear hR
  go_enter Tryd.func6, Tryd.ntmps6
  go_wp2_with fail
  obtain ⟨W0, hW0⟩ : ∃ W0, W0 = w.alloc (.cells #[.slice A n c] 24) := ⟨_, rfl⟩
  have hb0 : Below w.heap.size w W0 := by rw [hW0]; exact (Below.refl _ _).alloc (Nat.le_refl _) _
  have hx0 : W0.cell? ⟨w.heap.size, 0, none⟩ = some (.slice A n c) := by rw [hW0]; exact cell_one_new w _ 24 0 _ rfl
  rw [← hW0]
  refine (size9 (.slice A n c) n F W0 (HR.out.below hb0)).mono ?_
  rintro e w1 ⟨s, rfl, hs, hb1⟩
  have hx1 := (hb1.cell (p := ⟨w.heap.size, 0, none⟩) (World.block_lt_of_cell? _ _ hx0)).trans hx0
  have hb1' := hb0.trans (hb1.mono hb0.size)
  have HS := Lib.hid hs
  clear hW0 hs hb1 hb0 hx0
  go_wp2_with fail
  refine (beyond8 w1.heap.size 0 s _ (cell_one_new w1 (.int .i64 s) 3 0 _ rfl)).mono ?_
  rintro e w2 ⟨rfl, rfl⟩
  obtain ⟨W2, hW2⟩ : ∃ W2, W2 = w1.alloc (.cells #[.int .i64 s] 3) := ⟨_, rfl⟩
  have hb2 : Below w.heap.size w W2 := by rw [hW2]; exact hb1'.alloc hb1'.size _
  have hx2 : W2.cell? ⟨w.heap.size, 0, none⟩ = some (.slice A n c) := by
    rw [hW2, World.cell?_alloc_lt _ _ _ (World.block_lt_of_cell? _ _ hx1)]; exact hx1
  rw [← hW2]
  clear hW2 hx1 hb1'
  have HB2 := Lib.hid hb2
  cases hbd : (decide (s < 0) || decide (262144 < s)) with
  | true =>
    clear HS hbd hb2
    go_wp2_with fail
    refine (alive11 _ (HT.out.below hpos HB2.out)).mono ?_
    rintro e w3 ⟨rfl, hb3⟩
    have hB3 := HB2.out.trans (hb3.mono HB2.out.size)
    go_wp2_with fail
    go_ret
    exact ⟨rfl, hB3⟩
  | false =>
    have hn : n ≤ 262144 := HS.out (by simp at hbd; omega)
    clear HS hbd hb2
    go_wp2_with fail
    refine (check10 (.slice A n c) n F W2 (HT.out.below hpos HB2.out) (HR.out.below HB2.out) (by omega)).mono ?_
    rintro e w3 ⟨rfl, hb3⟩
    have HB3 := Lib.hid (HB2.out.trans (hb3.mono HB2.out.size))
    have hx3 := (hb3.cell (p := ⟨w.heap.size, 0, none⟩) (World.block_lt_of_cell? _ _ hx2)).trans hx2
    clear hb3 hx2 HB2
    cases hz : chk n F with
    | false =>
      rw [errB_false]
      clear hz
      go_wp2_with fail
      refine (alive11 _ (HT.out.below hpos HB3.out)).mono ?_
      rintro e w4 ⟨rfl, hb4⟩
      have hB4 := HB3.out.trans (hb4.mono HB3.out.size)
      go_wp2_with fail
      go_ret
      exact ⟨rfl, hB4⟩
    | true =>
      rw [errB_true]
      have HZ := Lib.hid hz
      clear hz
      go_wp2_with fail
      refine (res19 (.slice A n c) n F x w3 (HT.out.below hpos HB3.out) (HR.out.below HB3.out) hn).mono ?_
      rintro e w4 ⟨⟨v4, rfl, ho4⟩, b4⟩
      have hx4 := (b4.cell (p := ⟨w.heap.size, 0, none⟩) (World.block_lt_of_cell? _ _ hx3)).trans hx3
      have HB4 := Lib.hid (HB3.out.trans (b4.mono HB3.out.size))
      obtain ⟨A4, c4, rfl⟩ := ho4.slice
      have HO4 := Lib.hid ho4
      obtain ⟨er, her⟩ : ∃ er, er = resE n F x := ⟨_, rfl⟩
      rw [← her]
      have HER := Lib.hid her
      clear b4 ho4 hx3 HB3 her
      go_upto_if 34 with fail
      generalize hbq : (er == 0) = bq at *
      have HBQ := Lib.hid hbq
      clear hbq
      go_cut [] (fun wx => Below w4.heap.size w4 wx)
      case first =>
        cases bq with
        | true =>
          have hE : resE n F x = 0 := by rw [← HER.out]; exact beq_iff_eq.1 HBQ.out
          obtain ⟨d, y, hO, rfl, hy⟩ := resE_some HZ.out hE
          have HO := Lib.hid hO
          have hn15 := hO.n_le
          have hp3 := pow3 hO.hd
          have h2s := two_succ d
          have hnd := hO.hn
          have hlen := res_len hO hy
          have HNM := Lib.hid (fun (i : Nat) (hi : i < 2 ^ d) (hp : 0 < (F (2 * i)).pub) => names_res hO hi hp hy)
          have HMZ : Hid (∀ z ∈ resL n F (y : Int), ∃ x : Nat, z = x ∧ x < n) := Lib.hid (by
            unfold resL
            rw [if_pos hE, Int.toNat_natCast]
            intro z hz
            obtain ⟨u, h1, h2, _⟩ := resM_pub hO (lvN y) y _ (nd_lv (by omega)) hy z hz
            exact ⟨u, h1, h2⟩)
          have hun : ∀ z, z < n → (F z).un.length ≤ 1000000 := fun z hz => by have := hO.un_len hz; omega
          have hS : ∀ W, Below w4.heap.size w4 W → Calls Tryd.prog 20 #[.agg #[.slice A n c]] W fun e w' => e = .returned (.int .i64 (2 ^ d : Nat)) ∧ Below W.heap.size W w' := fun W hW => by
            have := size20 (.slice A n c) n F W (HT.out.below hpos (HB4.out.trans (hW.mono HB4.out.size))) (HR.out.below (HB4.out.trans (hW.mono HB4.out.size))) hn
            rw [sizeM_ok hO] at this
            exact this
          have HI := Lib.hid HO4.out.ints
          generalize resL n F (y : Int) = rl at *
          obtain ⟨L, hL⟩ : ∃ L, L = 2 ^ d := ⟨_, rfl⟩
          rw [← hL] at hS hp3 h2s
          have HL := Lib.hid (And.intro hL hnd)
          have hL8 : L ≤ 8 := hp3.1
          have h2L : 2 * L = n + 1 := by omega
          have HUN := Lib.hid hun
          clear hE hO hnd hp3 h2s hL hun HO4 HER HBQ
          go_wp2_with fail
          go_loopg [9] (L + 1) (fun g v9 wr => ∃ i : Nat, i ≤ L ∧ i + g = L + 1 ∧ v9 = .int .i64 i ∧ Below w4.heap.size w4 wr)
          case atStart => exact ⟨0, by omega, by omega, rfl, Below.refl _ _⟩
          case round =>
            obtain ⟨i, hi, hg, rfl, hbel⟩ := hrel
            have HG := Lib.hid hg
            have HBEL := Lib.hid hbel
            have hxr := (hbel.cell (p := ⟨w.heap.size, 0, none⟩) (World.block_lt_of_cell? _ _ hx4)).trans hx4
            clear hg hbel
            go_wp2_with fail
            refine (hS wr HBEL.out).mono ?_
            rintro e w5 ⟨rfl, hb5⟩
            have hx5 := (hb5.cell (p := ⟨w.heap.size, 0, none⟩) (World.block_lt_of_cell? _ _ hxr)).trans hxr
            have hb45 := HBEL.out.trans (hb5.mono HBEL.out.size)
            have HB45 := Lib.hid hb45
            clear hb5 hxr
            by_cases hlt : i < L
            · have hin : 2 * i < n := by omega
              have hi8 : i < 8 := by omega
              have hBw := HB4.out.trans (hb45.mono HB4.out.size)
              obtain ⟨b, o, rfl, hN⟩ := (HR.out.below hBw).at' hin
              obtain ⟨y0, -, -, -, -⟩ := hN
              have hwi := wi_iff (i := i) (x := y) hi8 (by omega) w5
              have hnam := names23 (.slice (some ⟨b, o, none⟩) n c) (.slice A4 rl.length c4) n i F rl w5 (HR.out.below hBw) (HI.out.below hb45) hlen hn15 hi8 HMZ.out HUN.out
              have hbl : b < w5.heap.size := World.block_lt_of_cell? _ _ y0
              have iw := i64_two i (by omega)
              have j1 : (0 : Int) ≤ 2 * (i : Int) := by omega
              have j2 : 2 * (i : Int) < (n : Int) := by omega
              have HNI := Lib.hid (HNM.out i (by have := HL.out.1; omega))
              have jt : (2 * (i : Int)).toNat = 2 * i := by omega
              generalize hp : (F (2 * i)).pub = p at *
              clear hb45 hBw hp
              go_wp2_with fail
              refine hwi.mono ?_
              rintro e w6 ⟨rfl, rfl⟩
              by_cases hpp : 0 < p
              · have hnm := HNI.out hpp
                have t3 : decide (0 < p) = true := decide_eq_true hpp
                rw [hnm] at hnam
                clear hnm hpp
                cases hw : wi i y with
                | true =>
                  rw [hw] at hnam
                  clear hw
                  go_wp2_with fail
                  refine hnam.mono ?_
                  rintro e w7 ⟨rfl, hb7⟩
                  have hb47 := HB45.out.trans (hb7.mono HB45.out.size)
                  clear hnam hb7
                  go_wp2_with fail
                  go_roundg (gk - 1)
                  case rel => exact ⟨i + 1, by omega, by have := HG.out; omega, by go_num, hb47⟩
                  case measure => have := HG.out; omega
                | false =>
                  rw [hw] at hnam
                  clear hw
                  go_wp2_with fail
                  refine hnam.mono ?_
                  rintro e w7 ⟨rfl, hb7⟩
                  have hb47 := HB45.out.trans (hb7.mono HB45.out.size)
                  clear hnam hb7
                  go_wp2_with fail
                  go_roundg (gk - 1)
                  case rel => exact ⟨i + 1, by omega, by have := HG.out; omega, by go_num, hb47⟩
                  case measure => have := HG.out; omega
              · have t3 : decide (0 < p) = false := decide_eq_false hpp
                clear hpp hnam
                cases hw : wi i y with
                | true =>
                  clear hw
                  go_wp2_with fail
                  go_roundg (gk - 1)
                  case rel => exact ⟨i + 1, by omega, by have := HG.out; omega, by go_num, HB45.out⟩
                  case measure => have := HG.out; omega
                | false =>
                  clear hw
                  go_wp2_with fail
                  go_roundg (gk - 1)
                  case rel => exact ⟨i + 1, by omega, by have := HG.out; omega, by go_num, HB45.out⟩
                  case measure => have := HG.out; omega
            · obtain rfl : i = L := by omega
              clear hlt hi
              go_wp2_with fail
              go_meet
              exact HB45.out
        | false =>
          clear HER HBQ
          go_wp2_with fail
          go_meet
          exact Below.refl _ _
      case rest =>
        have HBW := Lib.hid (HB4.out.trans (hcut.mono HB4.out.size))
        have hx5 := (hcut.cell (p := ⟨w.heap.size, 0, none⟩) (World.block_lt_of_cell? _ _ hx4)).trans hx4
        clear hcut hx4 HB4 HO4 HER HBQ
        go_wp2_with fail
        refine (targets25 (.slice A n c) (.slice none 0 0) n F leaf [] _ (HT.out.below hpos HBW.out) (HR.out.below HBW.out) hn (Ints.nil _) (by simp)).mono ?_
        rintro e w6 ⟨⟨vo, U, rfl, hU⟩, b6⟩
        rw [tgtL_nil] at hU
        have hx6 := (b6.cell (p := ⟨w.heap.size, 0, none⟩) (World.block_lt_of_cell? _ _ hx5)).trans hx5
        have HB6 := Lib.hid (HBW.out.trans (b6.mono HBW.out.size))
        clear b6 hx5 HBW
        by_cases hq : rowsE n F leaf = 0
        · obtain ⟨d, j, hO, rfl, hj, hrl⟩ := rowsL_some HZ.out hq
          rw [hrl] at hU
          rw [hq]
          have hn15 := hO.n_le
          have hp3 := pow3 hO.hd
          have h2s := two_succ d
          have hnd := hO.hn
          have HNM : Hid (∀ (i : Nat), i < 2 ^ d → 0 < (F (2 * i)).pub → nmL F i (((rowsM F d j).map (·.2)).flatten) = if i = j then 0 else 1) := Lib.hid (fun i hi hp => by
            have := names_all (l := j) hO hi hj hp
            unfold allL at this
            rw [List.flatMap_def] at this
            exact this)
          have hfacts := rowsL_facts (n := n) (F := F) (i := (j : Int))
          rw [hrl] at hfacts
          have HLL : Hid (((rowsM F d j).map (·.2)).length ≤ 3 ∧ ∀ l ∈ (rowsM F d j).map (·.2), l.length ≤ 300 ∧ ∀ z : Int, z ∈ l → ∃ x : Nat, z = x ∧ x < n) := Lib.hid ⟨by rw [List.length_map]; exact hfacts.1, fun l hl => by
            obtain ⟨r, hr, rfl⟩ := List.mem_map.1 hl
            refine ⟨(hfacts.2 r hr).1, fun z hz => ?_⟩
            obtain ⟨k, hk, rfl⟩ := List.mem_map.1 (List.mem_filter.1 hr).1
            have hk := List.mem_range.1 hk
            obtain ⟨f1, f2, f3⟩ := sib_at hO.hd hj hk
            rw [← hnd] at f2
            obtain ⟨y, h1, h2, _⟩ := resM_pub hO k _ _ f3 f2 z hz
            exact ⟨y, h1, h2⟩⟩
          have hun : ∀ z, z < n → (F z).un.length ≤ 1000000 := fun z hz => by have := hO.un_len hz; omega
          have hS : ∀ W, Below w6.heap.size w6 W → Calls Tryd.prog 20 #[.agg #[.slice A n c]] W fun e w' => e = .returned (.int .i64 (2 ^ d : Nat)) ∧ Below W.heap.size W w' := fun W hW => by
            have := size20 (.slice A n c) n F W (HT.out.below hpos (HB6.out.trans (hW.mono HB6.out.size))) (HR.out.below (HB6.out.trans (hW.mono HB6.out.size))) hn
            rw [sizeM_ok hO] at this
            exact this
          obtain ⟨Ao, co, rfl⟩ := hU.slice
          generalize hLLd : (rowsM F d j).map (·.2) = LL at *
          have HU := Lib.hid hU
          obtain ⟨L, hL⟩ : ∃ L, L = 2 ^ d := ⟨_, rfl⟩
          rw [← hL] at hS hp3 h2s
          have HL := Lib.hid (And.intro hL hnd)
          have hL8 : L ≤ 8 := hp3.1
          have h2L : 2 * L = n + 1 := by omega
          have HUN := Lib.hid hun
          have hm3 := HLL.out.1
          generalize hml : LL.length = m at *
          have HML := Lib.hid hml
          clear hq hO hnd hp3 h2s hL hun hU hfacts hrl hLLd hj hml
          go_wp2_with fail
          go_loopg [13, 14] (m + 1) (fun g v13 v14 wr => ∃ k : Nat, k ≤ m ∧ k + g = m + 1 ∧ v14 = .int .i64 k ∧ OwnI wr w6.heap.size v13 (LL.take k).flatten ∧ (LL.take k).flatten.length ≤ k * 300 ∧ Below w6.heap.size w6 wr)
          case atStart => exact ⟨0, by omega, by omega, rfl, World.ownsRow_nil _ _ _ _, by simp, Below.refl _ _⟩
          case round =>
            obtain ⟨k, hk, hg, rfl, hown, hfl, hbel⟩ := hrel
            have HG := Lib.hid hg
            have HOWN := Lib.hid hown
            have HBEL := Lib.hid hbel
            clear hg
            by_cases hlt : k < m
            · obtain ⟨l, hl⟩ : ∃ l, LL[k]? = some l := ⟨LL[k]'(by have := HML.out; omega), List.getElem?_eq_getElem _⟩
              obtain ⟨b, A', c', rfl, -, y0, ho⟩ := (HU.out.below hbel).at hl
              have HO := Lib.hid ho
              have hbl : b < wr.heap.size := World.block_lt_of_cell? _ _ y0
              have q1 : (0 : Int) ≤ (k : Int) := by omega
              have q2 : (k : Int) < (m : Int) := by omega
              have HT2 := Lib.hid (show (LL.take (k + 1)).flatten = (LL.take k).flatten ++ l by rw [List.take_add_one, hl]; simp)
              have hll := (HLL.out.2 l (List.mem_of_getElem? hl)).1
              have hbs := hbel.size
              have hlen : (LL.take k).flatten.length + l.length < 4294967296 := by omega
              have HLEN := Lib.hid (show (LL.take k).flatten.length + l.length ≤ (k + 1) * 300 by omega)
              obtain ⟨Aw, cw, rfl⟩ := hown.slice
              clear hl ho hown hll hfl
              generalize (LL.take k).flatten = fl at *
              go_wp2_with (at_builtin; refine append_ints rfl _ _ rfl rfl rfl HOWN HO.out.ints hbel hbs hlen ?_)
              intro v' w' h1 h2 h3
              have H1 := Lib.hid h1
              clear h1
              go_wp2_with fail
              go_roundg (gk - 1)
              case rel => exact ⟨k + 1, by omega, by have := HG.out; omega, by go_num, by rw [HT2.out]; exact H1.out, by rw [HT2.out, List.length_append]; exact HLEN.out, h2⟩
              case measure => have := HG.out; omega
            · obtain rfl : k = m := by omega
              have hflat : (LL.take k).flatten = LL.flatten := by rw [List.take_of_length_le (by have := HML.out; omega)]
              rw [hflat] at HOWN hfl hown
              have HMZ : Hid (∀ z ∈ LL.flatten, ∃ x : Nat, z = x ∧ x < n) := Lib.hid (fun z hz => by
                obtain ⟨l, h1, h2⟩ := List.mem_flatten.1 hz
                exact (HLL.out.2 l h1).2 z h2)
              obtain ⟨Aw, cw, rfl⟩ := hown.slice
              have hal : LL.flatten.length ≤ 900 := by omega
              generalize LL.flatten = al at *
              clear hflat hfl hown hlt hk
              go_wp2_with fail
              obtain ⟨wo, rfl⟩ : ∃ wo, wo = wr := ⟨_, rfl⟩
              have hx7 := (hbel.cell (p := ⟨w.heap.size, 0, none⟩) (World.block_lt_of_cell? _ _ hx6)).trans hx6
              have HB7 := Lib.hid (HB6.out.trans (hbel.mono HB6.out.size))
              have hS7 : ∀ W, Below wo.heap.size wo W → Calls Tryd.prog 20 #[.agg #[.slice A n c]] W fun e w' => e = .returned (.int .i64 (L : Nat)) ∧ Below W.heap.size W w' := fun W hW => hS W (HBEL.out.trans (hW.mono HBEL.out.size))
              clear hS hx6 HB6 hbel HBEL HU
              go_loopg [15] (L + 1) (fun g v15 wr => ∃ i : Nat, i ≤ L ∧ i + g = L + 1 ∧ v15 = .int .i64 i ∧ Below wo.heap.size wo wr)
              case atStart => exact ⟨0, by omega, by omega, rfl, Below.refl _ _⟩
              case round =>
                obtain ⟨i, hi, hg, rfl, hbel⟩ := hrel
                have HG := Lib.hid hg
                have HBEL := Lib.hid hbel
                have hxr := (hbel.cell (p := ⟨w.heap.size, 0, none⟩) (World.block_lt_of_cell? _ _ hx7)).trans hx7
                clear hg hbel
                go_wp2_with fail
                refine (hS7 wr HBEL.out).mono ?_
                rintro e w8 ⟨rfl, hb8⟩
                have hx8 := (hb8.cell (p := ⟨w.heap.size, 0, none⟩) (World.block_lt_of_cell? _ _ hxr)).trans hxr
                have hb78 := HBEL.out.trans (hb8.mono HBEL.out.size)
                have HB78 := Lib.hid hb78
                clear hb8 hxr
                by_cases hlt : i < L
                · have hin : 2 * i < n := by omega
                  have hi8 : i < 8 := by omega
                  have hBw := HB7.out.trans (hb78.mono HB7.out.size)
                  obtain ⟨b, o, rfl, hN⟩ := (HR.out.below hBw).at' hin
                  obtain ⟨y0, -, -, -, -⟩ := hN
                  have hnam := names23 (.slice (some ⟨b, o, none⟩) n c) (.slice Aw al.length cw) n i F al w8 (HR.out.below hBw) (HOWN.out.ints.below hb78) (by omega) hn15 hi8 HMZ.out HUN.out
                  have hbl : b < w8.heap.size := World.block_lt_of_cell? _ _ y0
                  have iw := i64_two i (by omega)
                  have j1 : (0 : Int) ≤ 2 * (i : Int) := by omega
                  have j2 : 2 * (i : Int) < (n : Int) := by omega
                  have HNI := Lib.hid (HNM.out i (by have := HL.out.1; omega))
                  have jt : (2 * (i : Int)).toNat = 2 * i := by omega
                  generalize hp : (F (2 * i)).pub = p at *
                  clear hb78 hBw hp
                  by_cases hij : i = j
                  · have t4 : (((i : Nat) : Int) == ((j : Nat) : Int)) = true := by rw [beq_iff_eq]; omega
                    by_cases hpp : 0 < p
                    · have hnm := HNI.out hpp
                      have t3 : decide (0 < p) = true := decide_eq_true hpp
                      rw [hnm, if_pos hij] at hnam
                      clear hnm hpp hij
                      go_wp2_with fail
                      refine hnam.mono ?_
                      rintro e w9 ⟨rfl, hb9⟩
                      have hb79 := HB78.out.trans (hb9.mono HB78.out.size)
                      clear hnam hb9
                      go_wp2_with fail
                      go_roundg (gk - 1)
                      case rel => exact ⟨i + 1, by omega, by have := HG.out; omega, by go_num, hb79⟩
                      case measure => have := HG.out; omega
                    · have t3 : decide (0 < p) = false := decide_eq_false hpp
                      clear hpp hnam hij
                      go_wp2_with fail
                      go_roundg (gk - 1)
                      case rel => exact ⟨i + 1, by omega, by have := HG.out; omega, by go_num, HB78.out⟩
                      case measure => have := HG.out; omega
                  · have t4 : (((i : Nat) : Int) == ((j : Nat) : Int)) = false := by rw [beq_eq_false_iff_ne]; omega
                    by_cases hpp : 0 < p
                    · have hnm := HNI.out hpp
                      have t3 : decide (0 < p) = true := decide_eq_true hpp
                      rw [hnm, if_neg hij] at hnam
                      clear hnm hpp hij
                      go_wp2_with fail
                      refine hnam.mono ?_
                      rintro e w9 ⟨rfl, hb9⟩
                      have hb79 := HB78.out.trans (hb9.mono HB78.out.size)
                      clear hnam hb9
                      go_wp2_with fail
                      go_roundg (gk - 1)
                      case rel => exact ⟨i + 1, by omega, by have := HG.out; omega, by go_num, hb79⟩
                      case measure => have := HG.out; omega
                    · have t3 : decide (0 < p) = false := decide_eq_false hpp
                      clear hpp hnam hij
                      go_wp2_with fail
                      go_roundg (gk - 1)
                      case rel => exact ⟨i + 1, by omega, by have := HG.out; omega, by go_num, HB78.out⟩
                      case measure => have := HG.out; omega
                · obtain rfl : i = L := by omega
                  have hB8 := HB7.out.trans (hb78.mono HB7.out.size)
                  have HB8 := Lib.hid hB8
                  clear hlt hi hB8
                  go_wp2_with fail
                  refine (alive11 _ (HT.out.below hpos HB8.out)).mono ?_
                  rintro e w9 ⟨rfl, hb9⟩
                  have hB9 := HB8.out.trans (hb9.mono HB8.out.size)
                  go_wp2_with fail
                  go_ret
                  exact ⟨rfl, hB9⟩
        · generalize rowsE n F leaf = er at *
          have t0 : (er != 0) = true := by rw [bne_iff_ne]; exact hq
          clear hq hU
          go_wp2_with fail
          refine (alive11 _ (HT.out.below hpos HB6.out)).mono ?_
          rintro e w7 ⟨rfl, hb7⟩
          have hB7 := HB6.out.trans (hb7.mono HB6.out.size)
          go_wp2_with fail
          go_ret
          exact ⟨rfl, hB7⟩
end Go.Proofs.YtopkanokpfhmmaaDoor
