/- TreeFresh: the walk. -/
import Derived.Test.YtopkanokpfhmmaaDoorVJ
import Derived.BigQuiet
namespace Go.Proofs.YtopkanokpfhmmaaDoor
open Go Go.RowKit
set_option linter.unusedVariables false
set_option linter.unusedSimpArgs false

theorem tgtL_nil' (n : Nat) (F : Nat → Node) (i : Int) : tgtL n F i [] = (rowsL n F i).map (·.2) := by
  unfold tgtL
  refine List.map_congr_left fun r _ => ?_
  refine List.filter_eq_self.2 fun x _ => ?_
  simp [freshB]
theorem fresh_one (i y : Nat) : freshB [(i : Int)] (y : Int) = decide ((y : Int) = 2 * (i : Int)) := by
  unfold freshB
  have e1 : (y : Int).tdiv 2 = ((y / 2 : Nat) : Int) := by rw [Int.tdiv_eq_ediv_of_nonneg (by omega)]; omega
  have e2 : (y : Int).tmod 2 = ((y % 2 : Nat) : Int) := by rw [Int.tmod_eq_emod_of_nonneg (by omega)]; omega
  rw [e1, e2, Bool.eq_iff_iff]
  simp
  omega
/-- What TreeFresh wants of the tree behind an Add. -/
structure FreshR (n3 : Nat) (G : Nat → Node) (p : Int) : Prop where
  ok : chk n3 G = true
  small : n3 ≤ 15
  at' : ∃ i : Nat, p = i ∧ i < 8
  cnt : ∀ leaf : Int, rowsE n3 G leaf = 0 → p ≠ leaf → (((rowsL n3 G leaf).map (·.2)).flatten).count (2 * p) = 1
theorem add_fresh (v : Value) (n : Nat) (F : Nat → Node) (a : Addx) (w : World) (hT : Tab w) (hR : TrR w v n F) (hn : n ≤ 262144) (hwf : (Lit.int .i64 a.mem).wf = true) :
    Calls Tryd.prog 13 #[.agg #[v], a.v] w fun e w' => ∃ A3 n3 c3 p er G, e = .returned (.tuple #[.agg #[.slice A3 n3 c3], .int .i64 p, .int .i64 er]) ∧ TrR w' (.slice A3 n3 c3) n3 G ∧ Below w.heap.size w w' ∧ (er = 0 → FreshR n3 G p) := by
  refine (add13 v n F a w hT hR hn hwf).mono fun e w' h => ?_
  by_cases h0 : addE n F a = 0
  · obtain ⟨⟨v', h1, h2⟩, h3⟩ := h.yes h0
    obtain ⟨A, c, rfl, -, -, -⟩ := id h2
    obtain ⟨d, hlg, hN, hO⟩ := add_ok h0
    obtain ⟨d', hd, hN', hlg', hat, -⟩ := add_facts h0
    obtain rfl : d' = d := by rw [← hlg', ← hlg]
    have hp3 := pow3 hd
    rw [hlg] at h2
    refine ⟨A, _, c, _, 0, _, h1, h2, h3, fun _ => ⟨chk_iff.2 (.inr ⟨_, hO⟩), by omega, ⟨_, rfl, by omega⟩, fun leaf hq hne => ?_⟩⟩
    obtain ⟨l, rfl, hl, hp⟩ := rowsE_ok hO hq
    have := fresh_count h0 hO hlg hN hl (fun e => hne (by rw [e]))
    unfold rowsL
    rw [hq, if_pos rfl, hO.lvs, lg_pow hO.hd, Int.toNat_natCast, ← List.flatMap_def]
    exact this
  · obtain ⟨h1, h3⟩ := h.no h0
    exact ⟨none, 0, 0, 0, _, fun _ => zeroN, h1, TrR.nil _ _, h3, fun h => absurd h h0⟩
theorem filter_at {p : Int → Bool} {l : List Int} {j : Nat} {x : Int} (h : l[j]? = some x) (hp : p x = true) : (l.filter p)[((l.take j).filter p).length]? = some x := by
  have hj := (List.getElem?_eq_some_iff.1 h).1
  have e : l = l.take j ++ x :: l.drop (j + 1) := by
    have h1 := List.take_append_drop j l
    rw [List.drop_eq_getElem_cons hj] at h1
    rw [(List.getElem?_eq_some_iff.1 h).2] at h1
    exact h1.symm
  have e2 : l.filter p = (l.take j).filter p ++ x :: (l.drop (j + 1)).filter p := by
    have := congrArg (List.filter p) e
    rw [this, List.filter_append, List.filter_cons, if_pos hp]
  rw [e2, List.getElem?_append_right (Nat.le_refl _), Nat.sub_self]
  rfl
set_option maxHeartbeats 4000000 in
set_option maxRecDepth 100000 in
theorem fresh (v : Value) (n : Nat) (F : Nat → Node) (a : Addx) (leaf : Int) (w : World) (hT : Tab w) (hR : TrR w v n F) (hwf : (Lit.int .i64 a.mem).wf = true) (hw1 : (Lit.int .i64 leaf).wf = true) :
    Calls Tryd.prog 7 #[.agg #[v], a.v, .int .i64 leaf] w fun e w' => e = .returned (.bool true) ∧ Below w.heap.size w w' := by
  have hpos := hT.pos
  have HT := Lib.hid hT
  have HR := Lib.hid hR
  have HWF := Lib.hid hwf
  clear hwf hw1
  obtain ⟨A, c, rfl, -, -, -⟩ := id hR
  obtain ⟨am, ae, ap⟩ := a
  clear hR
  show Calls Tryd.prog 7 #[.agg #[.slice A n c], .agg #[.int .i64 am, .int .i64 ae, .int .i64 ap], .int .i64 leaf] w _
  go_enter Tryd.func7, Tryd.ntmps7
  go_wp2_with fail
  obtain ⟨W0, hW0⟩ : ∃ W0, W0 = ((w.alloc (.cells #[.slice A n c] 24)).alloc (.cells #[.int .i64 am, .int .i64 ae, .int .i64 ap] 26)) := ⟨_, rfl⟩
  have hB0 : FB w (.slice A n c) am ae ap W0 := by rw [hW0]; exact FB.start ..
  rw [← hW0]
  refine (size9 (.slice A n c) n F W0 (HR.out.below hB0.bel)).mono ?_
  rintro e w1 ⟨s, rfl, hs, hb1⟩
  have hB1 := hB0.under hb1
  have HS := Lib.hid hs
  clear hW0 hB0 hs hb1
  go_wp2_with fail
  refine (beyond8 w1.heap.size 0 s _ (cell_one_new w1 (.int .i64 s) 3 0 _ rfl)).mono ?_
  rintro e w2 ⟨rfl, rfl⟩
  obtain ⟨W2, hW2⟩ : ∃ W2, W2 = w1.alloc (.cells #[.int .i64 s] 3) := ⟨_, rfl⟩
  have hB2 : FB w (.slice A n c) am ae ap W2 := by rw [hW2]; exact hB1.under ((Below.refl _ _).alloc (Nat.le_refl _) _)
  have HB2 := Lib.hid hB2
  rw [← hW2]
  clear hW2 hB1
  cases hbd : (decide (s < 0) || decide (262144 < s)) with
  | true =>
    clear HS hbd hB2
    go_wp2_with fail
    go_ret
    exact ⟨rfl, HB2.out.bel⟩
  | false =>
    have hn : n ≤ 262144 := HS.out (by simp at hbd; omega)
    clear HS hbd
    obtain ⟨-, k0, k1, k2, k3, hl2⟩ := hB2
    go_wp2_with fail
    refine (add_fresh (.slice A n c) n F ⟨am, ae, ap⟩ W2 (HT.out.below hpos HB2.out.bel) (HR.out.below HB2.out.bel) hn HWF.out).mono ?_
    rintro e w3 ⟨A3, n3, c3, p, er, G, rfl, hR3, hb3, hA3⟩
    have hb23 := HB2.out.bel.trans (hb3.mono HB2.out.bel.size)
    have HB3 := Lib.hid (hb23.alloc hb23.size (.cells #[.slice A3 n3 c3] 24))
    have HR3 := Lib.hid (hR3.alloc (.cells #[.slice A3 n3 c3] 24))
    have HA3 := Lib.hid hA3
    clear k0 k1 k2 k3 hl2 hb3 hR3 hA3 HB2 hb23
    by_cases he : er = 0
    · have hf := HA3.out he
      subst he
      by_cases hpl : p = leaf
      · have tp : (p == leaf) = true := by rw [beq_iff_eq]; exact hpl
        clear hpl hf HA3
        go_wp2_with fail
        refine (alive11 _ (HT.out.below hpos HB3.out)).mono ?_
        rintro e w4 ⟨rfl, hb4⟩
        have hB4 := HB3.out.trans (hb4.mono HB3.out.size)
        go_wp2_with fail
        go_ret
        exact ⟨rfl, hB4⟩
      · have tp : (p == leaf) = false := by rw [beq_eq_false_iff_ne]; exact hpl
        have HF := Lib.hid hf
        have hn15 := hf.small
        obtain ⟨i0, hp, hi8⟩ := hf.at'
        subst hp
        have HPL := Lib.hid hpl
        clear hf HA3 hpl
        go_wp2_with fail
        obtain ⟨W3, hW3⟩ : ∃ W3, W3 = w3.alloc (.cells #[.slice A3 n3 c3] 24) := ⟨_, rfl⟩
        have g3 : W3.cell? ⟨w3.heap.size, 0, none⟩ = some (.slice A3 n3 c3) := by rw [hW3]; exact cell_one_new w3 _ 24 0 _ rfl
        have hsz : W3.heap.size = w3.heap.size + 1 := by rw [hW3]; simp
        rw [← hW3] at HB3 HR3 ⊢
        have hin := ints1 W3 (i0 : Int)
        rw [hsz] at hin
        clear hW3
        have hq0 : Below W3.heap.size W3 (W3.alloc (.cells #[.int .i64 (i0 : Int)] 3)) := (Below.refl _ _).alloc (Nat.le_refl _) _
        have hg3 := World.block_lt_of_cell? _ _ g3
        have iw0 := i64_two i0 (by omega)
        have hB4 := HB3.out.trans (hq0.mono HB3.out.size)
        refine (targets25 (.slice A3 n3 c3) (.slice (some ⟨w3.heap.size + 1, 0, none⟩) 1 1) n3 G leaf [(i0 : Int)] _ (HT.out.below hpos hB4) (HR3.out.below hq0) (by omega) hin (by simp)).mono ?_
        rintro e w5 ⟨⟨vo, U, rfl, hU⟩, b5⟩
        have hq5 : Below W3.heap.size W3 w5 := hq0.trans (b5.mono hq0.size)
        obtain ⟨Ao, co, rfl⟩ := hU.slice
        have HU := Lib.hid hU
        have HQ5 := Lib.hid hq5
        have g5 := (hq5.cell (p := ⟨w3.heap.size, 0, none⟩) hg3).trans g3
        clear hU b5 hq5 hq0 hB4 g3 hg3 hin hsz
        go_wp2_with fail
        have hB5 := HB3.out.trans (HQ5.out.mono HB3.out.size)
        refine (targets25 (.slice A3 n3 c3) (.slice none 0 0) n3 G leaf [] w5 (HT.out.below hpos hB5) (HR3.out.below HQ5.out) (by omega) (Ints.nil _) (by simp)).mono ?_
        rintro e w6 ⟨⟨vm, U2, rfl, hU2⟩, b6⟩
        rw [tgtL_nil'] at hU2
        obtain ⟨Am, cm, rfl⟩ := hU2.slice
        have HU2 := Lib.hid hU2
        have HU1 := Lib.hid (HU.out.below b6)
        have HB6 := Lib.hid (hB5.trans (b6.mono hB5.size))
        clear hU2 b6 hB5 g5 HQ5 HU
        have hln : (tgtL n3 G leaf [(i0 : Int)]).length = ((rowsL n3 G leaf).map (·.2)).length := by unfold tgtL; simp
        rw [hln] at HU1 ⊢
        by_cases hq : rowsE n3 G leaf = 0
        · rw [hq]
          have hcnt := HF.out.cnt leaf hq HPL.out
          obtain ⟨hl3, hfacts⟩ := rowsL_facts (n := n3) (F := G) (i := leaf)
          have hT1 : tgtL n3 G leaf [(i0 : Int)] = ((rowsL n3 G leaf).map (·.2)).map (fun l => l.filter fun x => !freshB [(i0 : Int)] x) := by unfold tgtL; rw [List.map_map]; rfl
          have HLL : Hid (∀ l ∈ (rowsL n3 G leaf).map (·.2), l.length ≤ 300 ∧ ∀ z : Int, z ∈ l → ∃ x : Nat, z = x ∧ x < 1000) := Lib.hid fun l hl => by
            obtain ⟨r, hr, rfl⟩ := List.mem_map.1 hl
            exact hfacts r hr
          rw [hT1] at HU1
          have hm3 : ((rowsL n3 G leaf).map (·.2)).length ≤ 3 := by rw [List.length_map]; exact hl3
          generalize (rowsL n3 G leaf).map (·.2) = LL at *
          generalize hml : LL.length = m at *
          have HML := Lib.hid hml
          have HCNT := Lib.hid hcnt
          clear hq hln hT1 hml hcnt hl3 hfacts
          go_wp2_with fail
          go_loopg [14, 15] (m + 1) (fun g v14 v15 wr => ∃ i : Nat, i ≤ m ∧ i + g = m + 1 ∧ v15 = .int .i64 i ∧ v14 = .int .i64 (((LL.take i).flatten.count (2 * (i0 : Int)) : Nat)) ∧ Below w6.heap.size w6 wr)
          case atStart => exact ⟨0, by omega, by omega, rfl, rfl, Below.refl _ _⟩
          case round =>
            obtain ⟨i, hi, hg, rfl, rfl, hbel⟩ := hrel
            have HG := Lib.hid hg
            have HBEL := Lib.hid hbel
            clear hg
            by_cases hlt : i < m
            · obtain ⟨r, hr⟩ : ∃ r, LL[i]? = some r := ⟨LL[i]'(by have := HML.out; omega), List.getElem?_eq_getElem _⟩
              have HT2 := Lib.hid (show ((LL.take (i + 1)).flatten.count (2 * (i0 : Int))) = (LL.take i).flatten.count (2 * (i0 : Int)) + r.count (2 * (i0 : Int)) by rw [List.take_add_one, hr]; simp)
              have hrf := HLL.out r (List.mem_of_getElem? hr)
              have hcl : (LL.take i).flatten.count (2 * (i0 : Int)) ≤ 1 := by
                rw [← HCNT.out]
                have := List.take_append_drop i LL
                have e : LL.flatten = (LL.take i).flatten ++ (LL.drop i).flatten := by rw [← List.flatten_append, this]
                rw [e, List.count_append]; omega
              have hcr := List.count_le_length (a := 2 * (i0 : Int)) (l := r)
              generalize (LL.take i).flatten.count (2 * (i0 : Int)) = c0 at *
              have hr1 : (LL.map (fun l => l.filter fun x => !freshB [(i0 : Int)] x))[i]? = some (r.filter fun x => !freshB [(i0 : Int)] x) := by rw [List.getElem?_map, hr]; rfl
              obtain ⟨b2, A2, c2, rfl, -, y2, ho2⟩ := (HU2.out.below hbel).at hr
              obtain ⟨b1, A1, c1, rfl, -, y1, ho1⟩ := (HU1.out.below hbel).at hr1
              have HO1 := Lib.hid ho1.ints
              have HO2 := Lib.hid ho2.ints
              have hb1l := World.block_lt_of_cell? _ _ y1
              have hb2l := World.block_lt_of_cell? _ _ y2
              have q1 : (0 : Int) ≤ (i : Int) := by omega
              have q2 : (i : Int) < (m : Int) := by omega
              have hrl := hrf.1
              have HRZ := Lib.hid hrf.2
              generalize hrn : r.length = rn at *
              have HRN := Lib.hid hrn
              generalize hqn : (r.filter fun x => !freshB [(i0 : Int)] x).length = qn at *
              have HQN := Lib.hid hqn
              clear hr hr1 ho1 ho2 hrf hrn hqn hbel
              go_wp2_with fail
              go_loopg [14, 16, 17] (rn + 1) (fun g v14 v16 v17 W => ∃ j : Nat, j ≤ rn ∧ j + g = rn + 1 ∧ v17 = .int .i64 j ∧ v16 = .int .i64 (((r.take j).filter fun x => !freshB [(i0 : Int)] x).length : Nat) ∧ v14 = .int .i64 (((c0 + (r.take j).count (2 * (i0 : Int))) : Nat) : Int) ∧ Below wr.heap.size wr W)
              case atStart => exact ⟨0, by omega, by omega, rfl, rfl, rfl, Below.refl _ _⟩
              case round =>
                obtain ⟨j, hj, hg, rfl, rfl, rfl, hbel⟩ := hrel
                have HGj := Lib.hid hg
                have HBELj := Lib.hid hbel
                have z1 := (hbel.cell (p := ⟨b1, i, none⟩) hb1l).trans y1
                have z2 := (hbel.cell (p := ⟨b2, i, none⟩) hb2l).trans y2
                have hz1 := World.block_lt_of_cell? _ _ z1
                have hz2 := World.block_lt_of_cell? _ _ z2
                clear hg
                have hct : (r.take j).count (2 * (i0 : Int)) ≤ 300 := by
                  have h1 := List.count_le_length (a := 2 * (i0 : Int)) (l := r.take j)
                  rw [List.length_take] at h1
                  omega
                have hkl : ((r.take j).filter fun x => !freshB [(i0 : Int)] x).length ≤ j := sub_len r j
                by_cases hltj : j < rn
                · obtain ⟨x, hx⟩ : ∃ x, r[j]? = some x := ⟨r[j]'(by have := HRN.out; omega), List.getElem?_eq_getElem _⟩
                  obtain ⟨bb2, oo2, rfl, cx⟩ := (HO2.out.below hbel).at hx
                  have hbb2 := World.block_lt_of_cell? _ _ cx
                  have p1 : (0 : Int) ≤ (j : Int) := by omega
                  have p2 : (j : Int) < (rn : Int) := by omega
                  obtain ⟨y, hxy, hy⟩ := HRZ.out x (List.mem_of_getElem? hx)
                  have hfq : freshB [(i0 : Int)] x = decide (x = 2 * (i0 : Int)) := by rw [hxy]; exact fresh_one i0 y
                  have hct2 : (r.take (j + 1)).count (2 * (i0 : Int)) = (r.take j).count (2 * (i0 : Int)) + if x = 2 * (i0 : Int) then 1 else 0 := by
                    rw [List.take_add_one, hx]
                    simp [List.count_cons]
                  have hfl2 := filter_take (p := fun x => !freshB [(i0 : Int)] x) hx
                  by_cases hxe : x = 2 * (i0 : Int)
                  · have t1 : (x == 2 * (i0 : Int)) = true := by rw [beq_iff_eq]; exact hxe
                    have HFL := Lib.hid (show ((r.take (j + 1)).filter fun x => !freshB [(i0 : Int)] x).length = ((r.take j).filter fun x => !freshB [(i0 : Int)] x).length by rw [hfl2, hfq, decide_eq_true hxe]; simp)
                    have HCT := Lib.hid (show (r.take (j + 1)).count (2 * (i0 : Int)) = (r.take j).count (2 * (i0 : Int)) + 1 by rw [hct2, if_pos hxe])
                    generalize ((r.take j).filter fun x => !freshB [(i0 : Int)] x).length = kk at *
                    generalize (r.take j).count (2 * (i0 : Int)) = cc at *
                    clear hct2 hfl2 hfq hxy hy hxe hx hbel
                    go_wp2_with fail
                    go_roundg (gk - 1)
                    case rel => exact ⟨j + 1, by omega, by have := HGj.out; omega, by go_num, by rw [HFL.out], by rw [HCT.out]; go_num, HBELj.out⟩
                    case measure => have := HGj.out; omega
                  · have t1 : (x == 2 * (i0 : Int)) = false := by rw [beq_eq_false_iff_ne]; exact hxe
                    have hqx : (!freshB [(i0 : Int)] x) = true := by rw [hfq, decide_eq_false hxe]; rfl
                    have hget := filter_at (p := fun x => !freshB [(i0 : Int)] x) hx hqx
                    have HFL := Lib.hid (show ((r.take (j + 1)).filter fun x => !freshB [(i0 : Int)] x).length = ((r.take j).filter fun x => !freshB [(i0 : Int)] x).length + 1 by rw [hfl2, if_pos hqx, List.length_append]; rfl)
                    have HCT := Lib.hid (show (r.take (j + 1)).count (2 * (i0 : Int)) = (r.take j).count (2 * (i0 : Int)) by rw [hct2, if_neg hxe]; rfl)
                    have hkq : ((r.take j).filter fun x => !freshB [(i0 : Int)] x).length < qn := by
                      have := (List.getElem?_eq_some_iff.1 hget).1
                      have := HQN.out
                      omega
                    have hI1 := HO1.out.below hbel
                    rw [← HQN.out] at hI1
                    obtain ⟨bb1, oo1, rfl, cx1⟩ := hI1.at hget
                    have hbb1 := World.block_lt_of_cell? _ _ cx1
                    clear hget hI1
                    generalize ((r.take j).filter fun x => !freshB [(i0 : Int)] x).length = kk at *
                    generalize (r.take j).count (2 * (i0 : Int)) = cc at *
                    have k1 : (0 : Int) ≤ (kk : Int) := by omega
                    have k2 : (kk : Int) < (qn : Int) := by omega
                    have k3 : decide ((qn : Int) ≤ (kk : Int)) = false := decide_eq_false (by omega)
                    clear hct2 hfl2 hfq hxy hy hxe hx hbel hqx
                    go_wp2_with fail
                    go_quiet (fail)
                    go_wp2_with fail
                    go_roundg (gk - 1)
                    case rel => exact ⟨j + 1, by omega, by have := HGj.out; omega, by go_num, by rw [HFL.out]; go_num, by rw [HCT.out]; go_num, Below.quiet HBELj.out _⟩
                    case measure => have := HGj.out; omega
                · obtain rfl : j = rn := by omega
                  have hr' : r.take j = r := List.take_of_length_le (by have := HRN.out; omega)
                  rw [hr', HQN.out]
                  have HBo := Lib.hid (HBEL.out.trans (hbel.mono HBEL.out.size))
                  clear hr' hct hkl hltj hj hbel
                  go_wp2_with fail
                  go_roundg (m - i)
                  case rel => exact ⟨i + 1, by omega, by omega, by go_num, by rw [HT2.out]; go_num, HBo.out⟩
                  case measure => have := HG.out; omega
            · obtain rfl : i = m := by omega
              have hfl : LL.take i = LL := List.take_of_length_le (by have := HML.out; omega)
              rw [hfl, HCNT.out]
              have HB7 := Lib.hid (HB6.out.trans (hbel.mono HB6.out.size))
              clear hfl hbel hlt hi
              go_wp2_with fail
              refine (alive11 _ (HT.out.below hpos HB7.out)).mono ?_
              rintro e w7 ⟨rfl, hb7⟩
              have hB7 := HB7.out.trans (hb7.mono HB7.out.size)
              go_wp2_with fail
              go_ret
              exact ⟨rfl, hB7⟩
        · have te : (rowsE n3 G leaf != 0) = true := by rw [bne_iff_ne]; exact hq
          generalize rowsE n3 G leaf = er at *
          generalize ((rowsL n3 G leaf).map (·.2)).length = m at *
          clear hq hln
          go_wp2_with fail
          refine (alive11 _ (HT.out.below hpos HB6.out)).mono ?_
          rintro e w7 ⟨rfl, hb7⟩
          have hB7 := HB6.out.trans (hb7.mono HB6.out.size)
          go_wp2_with fail
          go_ret
          exact ⟨rfl, hB7⟩
    · have te : (er != 0) = true := by rw [bne_iff_ne]; exact he
      clear he HA3
      go_wp2_with fail
      refine (alive11 _ (HT.out.below hpos HB3.out)).mono ?_
      rintro e w4 ⟨rfl, hb4⟩
      have hB4 := HB3.out.trans (hb4.mono HB3.out.size)
      go_wp2_with fail
      go_ret
      exact ⟨rfl, hB4⟩
end Go.Proofs.YtopkanokpfhmmaaDoor
