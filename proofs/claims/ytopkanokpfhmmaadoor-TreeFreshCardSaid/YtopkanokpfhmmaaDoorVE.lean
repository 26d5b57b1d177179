/- TreeForgets: the walk. -/
import Derived.Test.YtopkanokpfhmmaaDoorVD
namespace Go.Proofs.YtopkanokpfhmmaaDoor
open Go Go.RowKit
set_option linter.unusedVariables false
set_option linter.unusedSimpArgs false

theorem res_len {d n : Nat} {F : Nat → Node} (hO : Ok d n F) {x : Nat} (hx : x < n) : (resL n F (x : Int)).length ≤ 1000000 := by
  unfold resL
  rw [if_pos (resE_ok hO hx), Int.toNat_natCast]
  have hn := hO.n_le
  have hNd := nd_lv (x := x) (by omega)
  rw [← resM_pad hO.lvs_ne (lvN x) x _ hNd hx]
  have h1 := resM_length (F := pad n F) (n := n) (fun y => by unfold pad; split <;> first | exact hO.un_len (by assumption) | decide) (lvN x) x
  have h2 : lvN x < 5 := hNd.level_lt (by omega)
  have h3 : 2 ^ lvN x ≤ 2 ^ 5 := Nat.pow_le_pow_right (by decide) (by omega)
  omega
theorem ints1 (w : World) (a : Int) : Ints (w.alloc (.cells #[.int .i64 a] 3)) (.slice (some ⟨w.heap.size, 0, none⟩) 1 1) [a] :=
  ⟨_, _, rfl, Nat.le_refl 1, by decide, fun _ => ⟨w.heap.size, 0, rfl, fun i x hi => by
    have hi0 : i = 0 := by have := (List.getElem?_eq_some_iff.1 hi).1; simp at this; omega
    subst hi0
    have hx : x = a := by simpa using hi.symm
    rw [hx]
    exact cell_one_new w _ 3 0 _ rfl⟩⟩
theorem box_of {w w1 : World} {v : Value} (hb : Below (w.heap.size + 1) (w.alloc (.cells #[v] 24)) w1) : w1.cell? ⟨w.heap.size, 0, none⟩ = some v :=
  (hb.cell (p := ⟨w.heap.size, 0, none⟩) (by show w.heap.size < w.heap.size + 1; omega)).trans (cell_one_new w _ 24 0 _ rfl)
structure ForgQ (n : Nat) (F : Nat → Node) (L i n' : Nat) (G : Nat → Node) : Prop where
  small : L ≤ 8 ∧ n' ≤ n ∧ n ≤ 15 ∧ i < 8 ∧ 2 * L = n' + 1
  others : ∀ j, j < L → j ≠ i → 2 * j < n ∧ 2 * j < n' ∧ G (2 * j) = F (2 * j)
theorem ForgQ.of {n : Nat} {F : Nat → Node} {d i e n' : Nat} {G : Nat → Node} (h : ForgetsP n F d i e n' G) : ForgQ n F (2 ^ e) i n' G := by
  have hs := h.small
  exact ⟨by omega, fun j hj hne => ⟨by omega, by omega, h.others j hj hne⟩⟩
set_option maxHeartbeats 4000000 in
set_option maxRecDepth 100000 in
theorem forgets (v : Value) (n : Nat) (F : Nat → Node) (m : Int) (w : World) (hT : Tab w) (hR : TrR w v n F) (hwf : (Lit.int .i64 m).wf = true) :
    Calls Tryd.prog 5 #[.agg #[v], .int .i64 m] w fun e w' => e = .returned (.bool true) ∧ Below w.heap.size w w' := by
  have hpos := hT.pos
  have HT := Lib.hid hT
  have HR := Lib.hid hR
  clear hwf
  obtain ⟨A, c, rfl, -, -, -⟩ := id hR
  clear hR
  go_enter Tryd.func5, Tryd.ntmps5
  go_wp2_with fail
  obtain ⟨W0, hW0⟩ : ∃ W0, W0 = w.alloc (.cells #[.slice A n c] 24) := ⟨_, rfl⟩
  have hb0 : Below w.heap.size w W0 := by rw [hW0]; exact (Below.refl _ _).alloc (Nat.le_refl _) _
  have hx0 : W0.cell? ⟨w.heap.size, 0, none⟩ = some (.slice A n c) := by rw [hW0]; exact cell_one_new w _ 24 0 _ rfl
  rw [← hW0]
  refine (size9 (.slice A n c) n F W0 (HR.out.below hb0)).mono ?_
  rintro e w1 ⟨s, rfl, hs, hb1⟩
  have hx1 := (hb1.cell (p := ⟨w.heap.size, 0, none⟩) (World.block_lt_of_cell? _ _ hx0)).trans hx0
  have hb1' := hb0.trans (hb1.mono hb0.size)
  have HS := Lib.hid hs
  clear hW0 hs hb1 hb0 hx0
  go_wp2_with fail
  refine (beyond8 w1.heap.size 0 s _ (cell_one_new w1 (.int .i64 s) 3 0 _ rfl)).mono ?_
  rintro e w2 ⟨rfl, rfl⟩
  obtain ⟨W2, hW2⟩ : ∃ W2, W2 = w1.alloc (.cells #[.int .i64 s] 3) := ⟨_, rfl⟩
  have hb2 : Below w.heap.size w W2 := by rw [hW2]; exact hb1'.alloc hb1'.size _
  have hx2 : W2.cell? ⟨w.heap.size, 0, none⟩ = some (.slice A n c) := by
    rw [hW2, World.cell?_alloc_lt _ _ _ (World.block_lt_of_cell? _ _ hx1)]; exact hx1
  rw [← hW2]
  clear hW2 hx1 hb1'
  have HB2 := Lib.hid hb2
  cases hbd : (decide (s < 0) || decide (262144 < s)) with
  | true =>
    go_wp2_with fail
    go_ret
    exact ⟨rfl, HB2.out⟩
  | false =>
    have hn : n ≤ 262144 := HS.out (by simp at hbd; omega)
    clear HS hbd hb2
    go_wp2_with fail
    refine (find15 (.slice A n c) n F m W2 (HT.out.below hpos HB2.out) (HR.out.below HB2.out) hn).mono ?_
    rintro e w3 ⟨rfl, hb3⟩
    have HB3 := Lib.hid (HB2.out.trans (hb3.mono HB2.out.size))
    have hx3 := (hb3.cell (p := ⟨w.heap.size, 0, none⟩) (World.block_lt_of_cell? _ _ hx2)).trans hx2
    clear hb3 hx2
    go_wp2_with fail
    by_cases hE : remE n F m = 0
    · obtain ⟨d, i, hO, hfi, hid, hip, him, hml, hoth⟩ := rem_facts hE
      refine (rem_yes (.slice A n c) n d i F m w3 (HT.out.below hpos HB3.out) (HR.out.below HB3.out) hO hfi hid hml).mono ?_
      rintro e w4 ⟨⟨v4, rfl, h4⟩, b4⟩
      rw [hfi]
      have hP := forgetsP hO hid hoth
      generalize cut (blankF F d i) d = e0 at *
      generalize 2 ^ (e0 + 1) - 1 = n' at *
      generalize blankF F d i = G at *
      obtain ⟨A4, c4, rfl, -, -, -⟩ := id h4
      have HP := Lib.hid hP
      have HB4 := Lib.hid (HB3.out.trans (b4.mono HB3.out.size))
      have hx4 := (b4.cell (p := ⟨w.heap.size, 0, none⟩) (World.block_lt_of_cell? _ _ hx3)).trans hx3
      have HR4 := Lib.hid h4
      clear hfi hid hip him hml hoth hO hP b4 hx3 HB3 h4 hE
      have hb45 : Below w4.heap.size w4 (w4.alloc (.cells #[.slice A4 n' c4] 24)) := (Below.refl _ _).alloc (Nat.le_refl _) _
      go_wp2_with fail
      obtain ⟨W5, hW5⟩ : ∃ W5, W5 = w4.alloc (.cells #[.slice A4 n' c4] 24) := ⟨_, rfl⟩
      have hg5 : W5.cell? ⟨w4.heap.size, 0, none⟩ = some (.slice A4 n' c4) := by rw [hW5]; exact cell_one_new w4 _ 24 0 _ rfl
      rw [← hW5] at hb45 ⊢
      have hx5 := (hb45.cell (p := ⟨w.heap.size, 0, none⟩) (World.block_lt_of_cell? _ _ hx4)).trans hx4
      have HB5 := Lib.hid (HB4.out.trans (hb45.mono HB4.out.size))
      have HR5 := Lib.hid (HR4.out.below hb45)
      have HT5 := Lib.hid (HR.out.below HB5.out)
      have HTab := Lib.hid (fun (W : World) (h : Below W5.heap.size W5 W) => HT.out.below hpos (HB5.out.trans (h.mono HB5.out.size)))
      have hn15 : n' ≤ 15 := by have := HP.out.small; omega
      have hi8 : i < 8 := HP.out.small.2.2.1
      clear hW5 hb45 hx4 HB4 HR4 HB2
      go_loopg [8] (n' + 1) (fun g v8 wr => ∃ (x : Nat) (z : Int), x ≤ n' ∧ x + g = n' + 1 ∧ z = x ∧ v8 = .int .i64 z ∧ Below W5.heap.size W5 wr)
      case atStart => exact ⟨0, 0, by omega, by omega, rfl, rfl, Below.refl _ _⟩
      case round =>
        obtain ⟨x, z, hx, hg, hz, rfl, hbel⟩ := hrel
        have HG := Lib.hid hg
        have HZ := Lib.hid hz
        have HBEL := Lib.hid hbel
        have hgr := (hbel.cell (p := ⟨w4.heap.size, 0, none⟩) (World.block_lt_of_cell? _ _ hg5)).trans hg5
        clear hg
        by_cases hlt : x < n'
        · have z0 : (0 : Int) ≤ z := by omega
          have z1 : z < (n' : Int) := by omega
          have tz : decide (z < (n' : Int)) = true := decide_eq_true z1
          clear hz hbel
          go_wp2_with fail
          obtain ⟨hE0, hcon⟩ := HP.out.res x hlt
          rw [← HZ.out] at hE0 hcon
          have hres := res19 (.slice A4 n' c4) n' G z wr (HTab.out wr HBEL.out) (HR5.out.below HBEL.out) (by omega)
          have hlen := res_len HP.out.ok hlt
          rw [← HZ.out] at hlen
          rw [hE0] at hres
          generalize resL n' G z = rl at *
          refine hres.mono ?_
          rintro e' w6 ⟨⟨v6, rfl, ho6⟩, b6⟩
          obtain ⟨A6, c6, rfl⟩ := ho6.slice
          have HO6 := Lib.hid ho6.ints
          have hb56 : Below W5.heap.size W5 w6 := HBEL.out.trans (b6.mono HBEL.out.size)
          have HB6 := Lib.hid hb56
          have hg6 := (hb56.cell (p := ⟨w4.heap.size, 0, none⟩) (World.block_lt_of_cell? _ _ hg5)).trans hg5
          obtain ⟨b, o, rfl, hN⟩ := (HR5.out.below hb56).at' hlt
          obtain ⟨y0, -, -, ⟨Ay, cy, y3, hIy⟩, -⟩ := hN
          have hbl : b < w6.heap.size := World.block_lt_of_cell? _ _ y0
          have hxz : x = z.toNat := by have := HZ.out; omega
          have hh1 := has22 (.slice A6 rl.length c6) rl (2 * (i : Int)) w6 HO6.out hlen
          rw [hcon] at hh1
          have hh2 := has22 (.slice Ay (G x).un.length cy) (G x).un (i : Int) w6 hIy (by have := HP.out.ok.un_len hlt; omega)
          rw [HP.out.un x hlt] at hh2
          have hnam := HP.out.nam x hlt
          have hun : ∀ y, y < n' → (G y).un.length ≤ 1000000 := fun y hy => by have := HP.out.ok.un_len hy; omega
          have hnm := HP.out.nam x hlt
          have iw := i64_two i (by omega)
          generalize (G x).un.length = ul at *
          have HPUB := Lib.hid (show ((G x).pub > 0) ↔ 0 < (G x).pub from Iff.rfl)
          obtain ⟨p, hp⟩ : ∃ p, p = (G x).pub := ⟨_, rfl⟩
          have HPP := Lib.hid hp
          rw [← hp] at y0 hnm hnam
          rw [hxz] at y0 y3
          have HXZ := Lib.hid hxz
          have HNM := Lib.hid hnm
          clear hp hnm hnam hxz hIy hb56 b6 ho6 hres hcon hE0 hgr HPUB
          go_wp2_with fail
          refine hh1.mono ?_
          rintro e' w7 ⟨rfl, rfl⟩
          go_wp2_with fail
          refine hh2.mono ?_
          rintro e' w7 ⟨rfl, rfl⟩
          by_cases ho : x % 2 = 1
          · have t2 : (z.tmod 2 == 1) = true := by
              have := HZ.out
              rw [beq_iff_eq, Int.tmod_eq_emod_of_nonneg (by omega)]; omega
            have t2e : (z % 2 == 1) = true := by
              have := HZ.out
              rw [beq_iff_eq]; omega
            by_cases hpp : 0 < p
            · have t3 : decide (0 < p) = true := decide_eq_true hpp
              have hwi := HNM.out ho hpp
              have hnmz : nmL G i [z] = 0 := by
                unfold nmL nm1
                rw [HZ.out]
                simp only [List.map_cons, List.map_nil, List.foldl_cons, List.foldl_nil, Int.toNat_natCast, hwi]
                rw [if_neg (by omega), if_neg (by rintro ⟨_, h, _⟩; cases h)]
              clear ho hpp hwi
              go_wp2_with fail
              have hb6a : Below w6.heap.size w6 (w6.alloc (.cells #[.int .i64 z] 3)) := (Below.refl _ _).alloc (Nat.le_refl _) _
              have hnames := names23 (.slice (some ⟨b, o, none⟩) n' c4) _ n' i G [z] _ ((HR5.out.below HB6.out).below hb6a) (ints1 w6 z) (by simp) hn15 hi8 (fun u hu => by
                obtain rfl : u = z := by simpa using hu
                exact ⟨x, HZ.out, hlt⟩) hun
              rw [hnmz] at hnames
              refine hnames.mono ?_
              rintro e' w8 ⟨rfl, hb8⟩
              have hbel8 : Below W5.heap.size W5 w8 := (HB6.out.trans (hb6a.mono HB6.out.size)).trans (hb8.mono (HB6.out.trans (hb6a.mono HB6.out.size)).size)
              clear hnames hb6a
              go_wp2_with fail
              go_roundg (gk - 1)
              case rel => exact ⟨x + 1, z + 1, by omega, by have := HG.out; omega, by have := HZ.out; omega, by go_num, hbel8⟩
              case measure => have := HG.out; omega
            · have t3 : decide (0 < p) = false := decide_eq_false hpp
              clear ho hpp
              go_wp2_with fail
              go_roundg (gk - 1)
              case rel => exact ⟨x + 1, z + 1, by omega, by have := HG.out; omega, by have := HZ.out; omega, by go_num, HB6.out⟩
              case measure => have := HG.out; omega
          · have t2 : (z.tmod 2 == 1) = false := by
              have := HZ.out
              rw [beq_eq_false_iff_ne, Int.tmod_eq_emod_of_nonneg (by omega)]; omega
            have t2e : (z % 2 == 1) = false := by
              have := HZ.out
              rw [beq_eq_false_iff_ne]; omega
            clear ho
            go_wp2_with fail
            go_roundg (gk - 1)
            case rel => exact ⟨x + 1, z + 1, by omega, by have := HG.out; omega, by have := HZ.out; omega, by go_num, HB6.out⟩
            case measure => have := HG.out; omega
        · have hxn : x = n' := by omega
          have tz : decide (z < (n' : Int)) = false := decide_eq_false (by omega)
          clear hz hbel hlt hx
          go_wp2_with fail
          obtain ⟨wo, rfl⟩ : ∃ wo, wo = wr := ⟨_, rfl⟩
          have HB7 := Lib.hid (HB5.out.trans (HBEL.out.mono HB5.out.size))
          have hx7 := (HBEL.out.cell (p := ⟨w.heap.size, 0, none⟩) (World.block_lt_of_cell? _ _ hx5)).trans hx5
          have hg7 := hgr
          have HT7 := Lib.hid (HR.out.below HB7.out)
          have HR7 := Lib.hid (HR5.out.below HBEL.out)
          have hS0 : ∀ W, Below wo.heap.size wo W → Calls Tryd.prog 20 #[.agg #[.slice A4 n' c4]] W fun e w' => e = .returned (.int .i64 (2 ^ e0 : Nat)) ∧ Below W.heap.size W w' := fun W hW => by
            have := size20 (.slice A4 n' c4) n' G W (HTab.out W (HBEL.out.trans (hW.mono HBEL.out.size))) (HR7.out.below hW) (by omega)
            rw [sizeM_ok HP.out.ok] at this
            exact this
          have HQ := Lib.hid (ForgQ.of HP.out)
          generalize 2 ^ e0 = L at *
          have hSW := hS0
          clear hS0 HP HBEL HG HZ hx5 hg5 hgr hxn tz HB5 HR5 HT5
          have hL8 : L ≤ 8 := HQ.out.small.1
          go_loopg [11] (L + 1) (fun g v11 wr => ∃ j : Nat, j ≤ L ∧ j + g = L + 1 ∧ v11 = .int .i64 j ∧ Below wo.heap.size wo wr)
          case atStart => exact ⟨0, by omega, by omega, rfl, Below.refl _ _⟩
          case round =>
            obtain ⟨x, hx, hg2, rfl, hbel⟩ := hrel
            have HG2 := Lib.hid hg2
            have HBEL := Lib.hid hbel
            have bx := (hbel.cell (p := ⟨w4.heap.size, 0, none⟩) (World.block_lt_of_cell? _ _ hg7)).trans hg7
            clear hg2 hbel
            go_wp2_with fail
            refine (hSW wr HBEL.out).mono ?_
            rintro e wq ⟨rfl, hbq⟩
            have hbq2 : Below wo.heap.size wo wq := HBEL.out.trans (hbq.mono HBEL.out.size)
            have HBEL2 := Lib.hid hbq2
            have bx2 := (hbq2.cell (p := ⟨w.heap.size, 0, none⟩) (World.block_lt_of_cell? _ _ hx7)).trans hx7
            have bx3 := (hbq2.cell (p := ⟨w4.heap.size, 0, none⟩) (World.block_lt_of_cell? _ _ hg7)).trans hg7
            clear hbq hbq2 HBEL bx
            by_cases hlt2 : x < L
            · by_cases hxj : x = i
              · subst hxj
                go_wp2_with fail
                go_quiet (fail)
                go_wp2_with fail
                go_roundg (gk - 1)
                case rel => exact ⟨x + 1, by omega, by have := HG2.out; omega, by go_num, Below.quiet HBEL2.out _⟩
                case measure => have := HG2.out; omega
              · obtain ⟨hxn, hxN, hGF⟩ := HQ.out.others x hlt2 hxj
                obtain ⟨b, o, rfl, hN⟩ := (HT7.out.below HBEL2.out).at' hxn
                obtain ⟨bg, og, rfl, hM⟩ := (HR7.out.below HBEL2.out).at' hxN
                rw [hGF] at hM
                obtain ⟨y0, y1, y2, ⟨Ay, cy, y3, hIy⟩, -⟩ := hN
                obtain ⟨z0, z1, z2, ⟨Az, cz, z3, hIz⟩, -⟩ := hM
                have hsame : ∀ W, Below wq.heap.size wq W → Calls Tryd.prog 21 #[.agg #[.int .i64 (F (2 * x)).pub, .int .i64 (F (2 * x)).mem, .int .i64 (F (2 * x)).ep, .slice Az (F (2 * x)).un.length cz], .agg #[.int .i64 (F (2 * x)).pub, .int .i64 (F (2 * x)).mem, .int .i64 (F (2 * x)).ep, .slice Ay (F (2 * x)).un.length cy]] W
                    fun e w' => e = .returned (.bool true) ∧ Below W.heap.size W w' := fun W hW => by
                  have := same21 (F (2 * x)) (F (2 * x)) Az Ay cz cy W (hIz.below hW) (hIy.below hW)
                  rw [sameN_self] at this
                  exact this
                clear hIy hIz hGF
                generalize (F (2 * x)).pub = p at *
                generalize (F (2 * x)).mem = mm at *
                generalize (F (2 * x)).ep = ee at *
                generalize (F (2 * x)).un.length = k at *
                have t1 : (((x : Nat) : Int) != ((i : Nat) : Int)) = true := by rw [bne_iff_ne]; omega
                have hbl : b < wq.heap.size := World.block_lt_of_cell? _ _ y0
                have hbg : bg < wq.heap.size := World.block_lt_of_cell? _ _ z0
                have j1 : (0 : Int) ≤ 2 * (x : Int) := by omega
                have j2 : 2 * (x : Int) < n := by omega
                have j3 : 2 * (x : Int) < (n' : Int) := by omega
                have hHeld2 : wq.cell? ⟨w.heap.size, 0, none⟩ = some (.slice (some ⟨b, o, none⟩) n c) ∧ wq.cell? ⟨w4.heap.size, 0, none⟩ = some (.slice (some ⟨bg, og, none⟩) n' c4) ∧ wq.cell? ⟨b, o + 2 * x * 4, none⟩ = some (.int .i64 p) ∧ wq.cell? ⟨b, o + 2 * x * 4 + 1, none⟩ = some (.int .i64 mm) ∧ wq.cell? ⟨b, o + 2 * x * 4 + 2, none⟩ = some (.int .i64 ee) ∧ wq.cell? ⟨b, o + 2 * x * 4 + 3, none⟩ = some (.slice Ay k cy) ∧ wq.cell? ⟨bg, og + 2 * x * 4, none⟩ = some (.int .i64 p) ∧ wq.cell? ⟨bg, og + 2 * x * 4 + 1, none⟩ = some (.int .i64 mm) ∧ wq.cell? ⟨bg, og + 2 * x * 4 + 2, none⟩ = some (.int .i64 ee) ∧ wq.cell? ⟨bg, og + 2 * x * 4 + 3, none⟩ = some (.slice Az k cz) ∧ Below wq.heap.size wq wq :=
                  ⟨bx2, bx3, y0, y1, y2, y3, z0, z1, z2, z3, Below.refl _ _⟩
                have jw : IntKind.i64.wrap (2 * (x : Int)) = 2 * (x : Int) := by
                  have := i64_small (2 * x) (by omega)
                  rw [show ((2 * x : Nat) : Int) = 2 * (x : Int) by omega] at this
                  exact this
                have jt : (2 * (x : Int)).toNat = 2 * x := by omega
                clear y0 y1 y2 y3 z0 z1 z2 z3 bx2 bx3
                go_wp2_with fail
                go_region_held3 (fun w' => w'.cell? ⟨w.heap.size, 0, none⟩ = some (.slice (some ⟨b, o, none⟩) n c) ∧ w'.cell? ⟨w4.heap.size, 0, none⟩ = some (.slice (some ⟨bg, og, none⟩) n' c4) ∧ w'.cell? ⟨b, o + 2 * x * 4, none⟩ = some (.int .i64 p) ∧ w'.cell? ⟨b, o + 2 * x * 4 + 1, none⟩ = some (.int .i64 mm) ∧ w'.cell? ⟨b, o + 2 * x * 4 + 2, none⟩ = some (.int .i64 ee) ∧ w'.cell? ⟨b, o + 2 * x * 4 + 3, none⟩ = some (.slice Ay k cy) ∧ w'.cell? ⟨bg, og + 2 * x * 4, none⟩ = some (.int .i64 p) ∧ w'.cell? ⟨bg, og + 2 * x * 4 + 1, none⟩ = some (.int .i64 mm) ∧ w'.cell? ⟨bg, og + 2 * x * 4 + 2, none⟩ = some (.int .i64 ee) ∧ w'.cell? ⟨bg, og + 2 * x * 4 + 3, none⟩ = some (.slice Az k cz) ∧ Below wq.heap.size wq w')
                  (first | assumption | exact heldT_drew (by assumption) | exact heldT_call (by assumption) (by assumption)) (first
                  | (go_at_call 21; with_reducible refine (hsame _ (heldT_mid (by assumption))).mono ?_; rintro e' wz ⟨rfl, hbz⟩))
                clear hsame jw jt
                go_wp2_with fail
                go_roundg (gk - 1)
                case rel => exact ⟨x + 1, by omega, by have := HG2.out; omega, by go_num, HBEL2.out.drew.trans (hbz.mono HBEL2.out.drew.size)⟩
                case measure => have := HG2.out; omega
            · obtain rfl : x = L := by omega
              clear hlt2 hx bx2 bx3
              go_wp2_with fail
              refine (alive11 _ (HT.out.below hpos (HB7.out.trans (HBEL2.out.mono HB7.out.size)))).mono ?_
              rintro e' wz ⟨rfl, hbz⟩
              have hB9 := (HB7.out.trans (HBEL2.out.mono HB7.out.size)).trans (hbz.mono (HB7.out.trans (HBEL2.out.mono HB7.out.size)).size)
              go_wp2_with fail
              go_ret
              exact ⟨rfl, hB9⟩
    · refine (rem_no (.slice A n c) n F m w3 (HT.out.below hpos HB3.out) (HR.out.below HB3.out) hn hE).mono ?_
      rintro e w4 ⟨rfl, b4⟩
      have t0 : (remE n F m != 0) = true := by rw [bne_iff_ne]; exact hE
      generalize remE n F m = er at *
      generalize findM F m (sizeM n F) = z at *
      have HB4 := Lib.hid (HB3.out.trans (b4.mono HB3.out.size))
      clear hE b4 HB3 HB2
      go_wp2_with fail
      refine (alive11 _ (HT.out.below hpos (HB4.out.alloc HB4.out.size _))).mono ?_
      rintro e w5 ⟨rfl, hb5⟩
      have hB5 := (HB4.out.alloc HB4.out.size (.cells #[.slice none 0 0] 24)).trans (hb5.mono (HB4.out.alloc HB4.out.size (.cells #[.slice none 0 0] 24)).size)
      go_wp2_with fail
      go_ret
      exact ⟨rfl, hB5⟩
end Go.Proofs.YtopkanokpfhmmaaDoor
