/- TreeTells: the walk (under work). -/
import Derived.Test.YtnahhclflnjmcaaGreatDoorB1
import Derived.Test.YtnahhclflnjmcaaGreatDoorB3
import Derived.Test.YtnahhclflnjmcaaGreatDoorA7
import Derived.Test.YtnahhclflnjmcaaGreatDoorK2
import Derived.Deep.DeepCutAuto
import Derived.Deep.RegionWith
namespace Go.Proofs.YtnahhclflnjmcaaGreatDoor
open Go Go.RowKit Go.Proofs.YtnahhclflnjmcaaGreatDoor.Bk
set_option linter.unusedVariables false
set_option linter.unusedSimpArgs false
set_option maxRecDepth 100000

theorem below_mid2 {wr w' : World} {s s1 : Nat} {v u : Value} (hh : w'.cell? ⟨s, 0, none⟩ = some v ∧ w'.cell? ⟨s1, 0, none⟩ = some u ∧ Below wr.heap.size wr w') : Below wr.heap.size wr w' := hh.2.2
theorem TrR.wf {w : World} {v : Value} {n : Nat} {F : Nat → Node} (h : TrR w v n F) : ∀ y, y < n → (Lit.int .i64 (F y).mem).wf = true := fun y hy => by
  obtain ⟨A, c, rfl, _, _, h3⟩ := h
  obtain ⟨b, o, _, h4⟩ := h3 (by omega)
  exact (h4 y hy).r1
set_option maxHeartbeats 8000000 in
theorem tells (v : Value) (n : Nat) (F : Nat → Node) (m : Int) (w : World) (hT : Tab w) (hR : TrR w v n F) (hub : ∀ y, y < n → (F y).un.length ≤ 17592186044416) (hw1 : (Lit.int .i64 m).wf = true) :
    Calls Tryz.prog 3 #[.agg #[v], .int .i64 m] w fun e w' => e = .returned (.bool true) ∧ Below w.heap.size w w' := by
  have hpos := hT.pos
  have HT := Lib.hid hT
  have HR := Lib.hid hR
  have HUB := Lib.hid hub
  obtain ⟨A, c, rfl, -, -, -⟩ := id hR
  clear hR hub hw1
  go_enter Tryz.func3, Tryz.ntmps3
  go_wp2_with fail
  obtain ⟨W0, hW0⟩ : ∃ W0, W0 = w.alloc (.cells #[.slice A n c] 24) := ⟨_, rfl⟩
  have hb0 : Below w.heap.size w W0 := by rw [hW0]; exact (Below.refl _ _).alloc (Nat.le_refl _) _
  have hx0 : W0.cell? ⟨w.heap.size, 0, none⟩ = some (.slice A n c) := by rw [hW0]; exact cell_one_new w _ 24 0 _ rfl
  rw [← hW0]
  refine (size9u (.slice A n c) n F W0 (HR.out.below hb0) HUB.out).mono ?_
  rintro e w1 ⟨s, rfl, hs, hb1⟩
  have hx1 := (hb1.cell (p := ⟨w.heap.size, 0, none⟩) (World.block_lt_of_cell? _ _ hx0)).trans hx0
  have hb1' := hb0.trans (hb1.mono hb0.size)
  have HS := Lib.hid hs
  clear hW0 hs hb1 hb0 hx0 HUB
  go_wp2_with fail
  refine (beyond8 w1.heap.size 0 s _ (cell_one_new w1 (.int .i64 s) 3 0 _ rfl)).mono ?_
  rintro e w2 ⟨rfl, rfl⟩
  obtain ⟨W2, hW2⟩ : ∃ W2, W2 = w1.alloc (.cells #[.int .i64 s] 3) := ⟨_, rfl⟩
  have hb2 : Below w.heap.size w W2 := by rw [hW2]; exact hb1'.alloc hb1'.size _
  have hx2 : W2.cell? ⟨w.heap.size, 0, none⟩ = some (.slice A n c) := by
    rw [hW2, World.cell?_alloc_lt _ _ _ (World.block_lt_of_cell? _ _ hx1)]; exact hx1
  rw [← hW2]
  clear hW2 hx1 hb1'
  have HB2 := Lib.hid hb2
  cases hbd : (decide (s < 0) || decide (262144 < s)) with
  | true =>
    clear HS hbd hb2
    go_wp2_with fail
    go_ret
    exact ⟨rfl, HB2.out⟩
  | false =>
    obtain ⟨hn, hu⟩ := HS.out (by simp at hbd; omega)
    have HU := Lib.hid (fun y hy => Nat.le_trans (hu y hy) (by decide : 262144 ≤ 1000000))
    clear HS hbd hb2 hu
    go_wp2_with fail
    refine (twinTree (.slice A n c) n F W2 (HR.out.below HB2.out) hn HU.out).mono ?_
    rintro e w3 ⟨rfl, hit, hb3⟩
    have hx3 := (hb3.cell (p := ⟨w.heap.size, 0, none⟩) (World.block_lt_of_cell? _ _ hx2)).trans hx2
    have hx3l := World.block_lt_of_cell? _ _ hx3
    obtain ⟨ub, hTw⟩ := hit
    obtain ⟨b, hb⟩ : ∃ b, b = W2.heap.size + 2 := ⟨_, rfl⟩
    rw [← hb] at hTw ⊢
    have hq3 : Below w3.heap.size w3 (w3.alloc (.cells #[.slice (some ⟨b, 0, none⟩) n (n + 2)] 24)) := (Below.refl _ _).alloc (Nat.le_refl _) _
    have HB3 := Lib.hid (And.intro (HB2.out.trans (hb3.mono HB2.out.size)) hq3)
    have HTw := Lib.hid (hTw.below hq3)
    clear hb3 hx2 hTw hq3 hb
    go_upto_region 4 with fail
    obtain ⟨W3, hW3⟩ : ∃ W3, W3 = w3.alloc (.cells #[.slice (some ⟨b, 0, none⟩) n (n + 2)] 24) := ⟨_, rfl⟩
    have hy3 : W3.cell? ⟨w3.heap.size, 0, none⟩ = some (.slice (some ⟨b, 0, none⟩) n (n + 2)) := by rw [hW3]; exact cell_one_new w3 _ 24 0 _ rfl
    have hz3 : W3.cell? ⟨w.heap.size, 0, none⟩ = some (.slice A n c) := by rw [hW3, World.cell?_alloc_lt _ _ _ hx3l]; exact hx3
    rw [← hW3] at HB3 HTw ⊢
    have HBW := Lib.hid (HB3.out.1.trans (HB3.out.2.mono HB3.out.1.size))
    have hTR := HTw.out.trR hn HU.out HR.out.wf
    have HTR := Lib.hid hTR
    have hsT : Below w.heap.size w W3 := HBW.out
    have hC : ∀ W, Below W3.heap.size W3 W → Calls Tryz.prog 10 #[.agg #[.slice (some ⟨b, 0, none⟩) n (n + 2)]] W fun e w' => e = .returned (.int .i64 (errB (chk n F))) ∧ Below W.heap.size W w' := fun W hW =>
      check10 _ n F W (HT.out.below hpos (HBW.out.trans (hW.mono HBW.out.size))) (HTR.out.below hW) (by omega)
    have hS : ∀ W, Below W3.heap.size W3 W → Calls Tryz.prog 11 #[.agg #[.slice (some ⟨b, 0, none⟩) n (n + 2)]] W fun e w' => e = .returned (.int .i64 (sizeM n F : Nat)) ∧ Below W.heap.size W w' := fun W hW =>
      size20 _ n F W (HT.out.below hpos (HBW.out.trans (hW.mono HBW.out.size))) (HTR.out.below hW) hn
    have hF : ∀ W, Below W3.heap.size W3 W → Calls Tryz.prog 12 #[.agg #[.slice (some ⟨b, 0, none⟩) n (n + 2)], .int .i64 m] W fun e w' => e = .returned (.int .i64 (findM F m (sizeM n F))) ∧ Below W.heap.size W w' := fun W hW =>
      find15 _ n F m W (HT.out.below hpos (HBW.out.trans (hW.mono HBW.out.size))) (HTR.out.below hW) hn
    have HM := Lib.hid (fun (W : World) (hW : Below W3.heap.size W3 W) => members12 _ n F W (HT.out.below hpos (HBW.out.trans (hW.mono HBW.out.size))) (HTR.out.below hW) hn)
    have hHeld : W3.cell? ⟨w3.heap.size, 0, none⟩ = some (.slice (some ⟨b, 0, none⟩) n (n + 2)) ∧ W3.cell? ⟨w.heap.size, 0, none⟩ = some (.slice A n c) ∧ Below W3.heap.size W3 W3 := ⟨hy3, hz3, Below.refl _ _⟩
    have HC1 := Lib.hid (fun (W : World) (hW : Below w.heap.size w W) => rcheck (.slice A n c) n F W (HR.out.below hW) HU.out)
    have HS1 := Lib.hid (fun (W : World) (hW : Below w.heap.size w W) => rsize (.slice A n c) n F W (HR.out.below hW) HU.out)
    have HF1 := Lib.hid (fun (W : World) (hW : Below w.heap.size w W) => rfind (.slice A n c) n F m W (HR.out.below hW) HU.out)
    have HM1 := Lib.hid (fun (W : World) (hW : Below w.heap.size w W) => rmembers (.slice A n c) n F W (HR.out.below hW) HU.out)
    have HL1 := Lib.hid (fun (W : World) (hW : Below W3.heap.size W3 W) => leftTree _ b n c A F ub W (HTw.out.below hW) (HR.out.below (HBW.out.trans (hW.mono HBW.out.size))) hn HU.out)
    generalize errB (chk n F) = ec at *
    generalize findM F m (sizeM n F) = zf at *
    generalize hsz : sizeM n F = sz at *
    clear hW3 hTR hsT hx3 hx3l hy3 hz3
    go_region_held3 (fun w' => w'.cell? ⟨w3.heap.size, 0, none⟩ = some (.slice (some ⟨b, 0, none⟩) n (n + 2)) ∧ w'.cell? ⟨w.heap.size, 0, none⟩ = some (.slice A n c) ∧ Below W3.heap.size W3 w') (first | assumption | exact held2_drew (by assumption) | exact held2_call (by assumption) (by assumption)) (first
      | (go_at_call 10; with_reducible refine (hC _ (below_mid2 (by assumption))).mono ?_; rintro e' wa ⟨rfl, hba⟩)
      | (go_at_call 11; with_reducible refine (hS _ (below_mid2 (by assumption))).mono ?_; rintro e' wb ⟨rfl, hbb⟩)
      | (go_at_call 12; with_reducible refine (hF _ (below_mid2 (by assumption))).mono ?_; rintro e' wc ⟨rfl, hbc⟩))
    have h4 : wc.cell? ⟨w3.heap.size, 0, none⟩ = some (.slice (some ⟨b, 0, none⟩) n (n + 2)) ∧ wc.cell? ⟨w.heap.size, 0, none⟩ = some (.slice A n c) ∧ Below W3.heap.size W3 wc := by assumption
    clear hba hbb hbc hC hS hF
    go_wp2_with fail
    go_region_held3 (fun w' => w'.cell? ⟨w3.heap.size, 0, none⟩ = some (.slice (some ⟨b, 0, none⟩) n (n + 2)) ∧ w'.cell? ⟨w.heap.size, 0, none⟩ = some (.slice A n c) ∧ Below W3.heap.size W3 w') (first | assumption | exact held2_drew (by assumption) | exact held2_call (by assumption) (by assumption)) (first
      | (go_at_call 13; with_reducible refine (HM.out _ (below_mid2 (by assumption))).mono ?_; rintro e' wd ⟨vd, rfl, hod, hbd⟩; obtain ⟨Ad, cd, rfl⟩ := hod.slice))
    rename_i wa hba A4 c4 hoa hHd
    have hba' : Below wc.heap.size wc wa := ⟨hba.os, hba.tape, hba.output, hba.size, hba.block⟩
    have hoa' : OwnI wa wc.heap.size (.slice A4 (memL F sz).length c4) (memL F sz) := hoa
    have HO := Lib.hid (And.intro hoa' (And.intro hod (And.intro hba' hbd)))
    have h34 := h4.2.2
    have H4 := Lib.hid h34
    obtain ⟨z1, z2, z3⟩ := hHd
    have HB5 := Lib.hid z3
    have hz1 := World.block_lt_of_cell? _ _ z1
    have hz2 := World.block_lt_of_cell? _ _ z2
    have hml : (memL F sz).length ≤ 1000 := Nat.le_trans (memL_length F sz) (by rw [← hsz]; exact Nat.le_trans (sizeM_le n F) (by decide))
    have HML := Lib.hid hml
    clear hml
    generalize memL F sz = ml at *
    obtain ⟨k, hk⟩ : ∃ k, k = ml.length := ⟨_, rfl⟩
    rw [← hk] at HO ⊢
    have HK := Lib.hid hk
    have hw5 := HBW.out.trans (z3.mono HBW.out.size)
    clear hba hoa hod hbd hba' hoa' h4 h34 z3 hk
    go_wp2_with fail
    refine (HM1.out wd hw5).mono ?_
    rintro e w5 ⟨v5, rfl, ho5, hb5⟩
    obtain ⟨A5, c5, rfl⟩ := ho5.slice
    rw [← HK.out] at ho5 ⊢
    have HW5 := Lib.hid (And.intro ho5 hb5)
    have a1 := (hb5.cell (p := ⟨w3.heap.size, 0, none⟩) hz1).trans z1
    have a2 := (hb5.cell (p := ⟨w.heap.size, 0, none⟩) hz2).trans z2
    have al1 := World.block_lt_of_cell? _ _ a1
    have al2 := World.block_lt_of_cell? _ _ a2
    have HB6 := Lib.hid (HB5.out.trans (hb5.mono HB5.out.size))
    clear z1 z2 hz1 hz2 ho5 hb5 hw5
    go_wp2_with fail
    refine (HC1.out w5 (HBW.out.trans (HB6.out.mono HBW.out.size))).mono ?_
    rintro e w6 ⟨rfl, hb6⟩
    have b1 := (hb6.cell (p := ⟨w3.heap.size, 0, none⟩) al1).trans a1
    have b2 := (hb6.cell (p := ⟨w.heap.size, 0, none⟩) al2).trans a2
    have bl1 := World.block_lt_of_cell? _ _ b1
    have bl2 := World.block_lt_of_cell? _ _ b2
    have HD6 := Lib.hid hb6
    clear hb6 a1 a2 al1 al2
    go_wp2_with fail
    refine (HS1.out w6 (HBW.out.trans ((HB6.out.trans (HD6.out.mono HB6.out.size)).mono HBW.out.size))).mono ?_
    rintro e w7 ⟨rfl, hb7⟩
    have a1 := (hb7.cell (p := ⟨w3.heap.size, 0, none⟩) bl1).trans b1
    have a2 := (hb7.cell (p := ⟨w.heap.size, 0, none⟩) bl2).trans b2
    have al1 := World.block_lt_of_cell? _ _ a1
    have al2 := World.block_lt_of_cell? _ _ a2
    have HD7 := Lib.hid (HD6.out.trans (hb7.mono HD6.out.size))
    clear hb7 b1 b2 bl1 bl2
    go_wp2_with fail
    refine (HF1.out w7 (HBW.out.trans ((HB6.out.trans (HD7.out.mono HB6.out.size)).mono HBW.out.size))).mono ?_
    rintro e w8 ⟨rfl, hb8⟩
    have b1 := (hb8.cell (p := ⟨w3.heap.size, 0, none⟩) al1).trans a1
    have b2 := (hb8.cell (p := ⟨w.heap.size, 0, none⟩) al2).trans a2
    have HD8 := Lib.hid (HD7.out.trans (hb8.mono HD7.out.size))
    have hIa : Ints w8 (.slice A4 k c4) ml := by
      obtain ⟨o1, o2, o3, o4⟩ := HO.out
      have := o1.ints
      exact this.below ((o4.trans (HW5.out.2.mono o4.size)).trans (HD8.out.mono (o4.trans (HW5.out.2.mono o4.size)).size))
    have hIb : Ints w8 (.slice Ad k cd) ml := by
      obtain ⟨o1, o2, o3, o4⟩ := HO.out
      exact o2.ints.below (HW5.out.2.trans (HD8.out.mono HW5.out.2.size))
    have hI5 : Ints w8 (.slice A5 k c5) ml := HW5.out.1.ints.below HD8.out
    have hs1 := same (.slice A4 k c4) (.slice A5 k c5) ml ml w8 hIa hI5
    have hs2 := fun nd => same (.slice Ad k cd) (.slice A5 k c5) ml ml (w8.drewN nd) (hIb.below (Below.quiet (Below.refl _ _) nd)) (hI5.below (Below.quiet (Below.refl _ _) nd))
    rw [sameB_self'] at hs1
    simp only [sameB_self'] at hs2
    clear hb8 a1 a2 al1 al2 hIa hIb hI5
    go_wp2_with fail
    refine hs1.mono ?_
    rintro e w9 ⟨rfl, nd, rfl⟩
    go_wp2_with fail
    refine (hs2 nd).mono ?_
    rintro e w10 ⟨rfl, nd2, hw10⟩
    have h10 : Below w8.heap.size w8 w10 := by rw [hw10]; exact Below.quiet (Below.quiet (Below.refl _ _) nd) nd2
    have a1 := (h10.cell (p := ⟨w3.heap.size, 0, none⟩) (World.block_lt_of_cell? _ _ b1)).trans b1
    have a2 := (h10.cell (p := ⟨w.heap.size, 0, none⟩) (World.block_lt_of_cell? _ _ b2)).trans b2
    have HD10 := Lib.hid (HD8.out.trans (h10.mono HD8.out.size))
    clear hs1 hs2 hw10 h10 b1 b2
    go_wp2_with fail
    refine (HL1.out w10 (HB6.out.trans (HD10.out.mono HB6.out.size))).mono ?_
    rintro e w11 ⟨rfl, hb11⟩
    have HD11 := Lib.hid (HD10.out.trans (hb11.mono HD10.out.size))
    clear hb11 a1 a2
    obtain ⟨z, hz⟩ : ∃ z : Array Value, z = #[.int .i64 0, .slice none 0 0, .slice none 0 0, .slice none 0 0, .slice none 0 0, .slice none 0 0, .slice none 0 0, .slice none 0 0, .slice none 0 0, .slice none 0 0, .slice none 0 0, .slice none 0 0, .slice none 0 0, .slice none 0 0, .slice none 0 0, .slice none 0 0, .slice none 0 0, .slice none 0 0, .slice none 0 0, .slice none 0 0, .slice none 0 0, .slice none 0 0, .slice none 0 0, .slice none 0 0, .slice none 0 0, .slice none 0 0, .slice none 0 0, .slice none 0 0, .slice none 0 0, .slice none 0 0, .slice none 0 0, .slice none 0 0, .slice none 0 0, .slice none 0 0, .slice none 0 0] := ⟨_, rfl⟩
    have hbu := build70 w11
    rw [← hz] at hbu
    have HBU := Lib.hid hbu
    clear hbu
    obtain ⟨W0, hW0⟩ : ∃ W, W = (w11.alloc (.cells z 70)).setRow w11.heap.size (over z 0 z) := ⟨_, rfl⟩
    have hx0 : (w11.alloc (.cells z 70)).heap[w11.heap.size]? = some (.cells z 70 (0, 0)) := heap_alloc_new w11 _
    have hzs : z.size = 35 := by rw [hz]; rfl
    have hzo : ∀ u ∈ z.toList, u.oneCell' = true := by rw [hz]; simp [Value.oneCell']
    have hfit : 0 + 35 ≤ z.size := by omega
    have HW := Lib.hid (And.intro hz (And.intro hW0 (And.intro hx0 (And.intro hzs (And.intro hzo hfit)))))
    clear hz hW0 hx0 hzs hzo hfit HC1 HS1 HF1 HM HM1 HL1 HTw HTR
    go_wp2_with (first | (with_reducible refine wpList_build_eq rfl 70 rfl _ HBU.out ?_) | (rw [← HW.out.1]; with_reducible refine wpList_store_part rfl 70 _ _ rfl rfl w11.heap.size 0 35 rfl 70 _ _ rfl HW.out.2.2.1 cells70 HW.out.2.2.2.1 HW.out.2.2.2.2.2 HW.out.2.2.2.2.1 ?_))
    have hB11 : Below W3.heap.size W3 w11 := HB6.out.trans (HD11.out.mono HB6.out.size)
    have hBw11 : Below w.heap.size w w11 := HBW.out.trans (hB11.mono HBW.out.size)
    have hbW : Below w11.heap.size w11 W0 := by
      rw [HW.out.2.1]
      exact Bk.below_setRow ((Below.refl _ _).alloc (Nat.le_refl _) _) (Nat.le_refl _)
    have hxW : W0.heap[w11.heap.size]? = some (.cells z 70 (0, 0)) := by
      rw [HW.out.2.1]
      exact (setRow_same HW.out.2.2.1).trans (congrArg (fun y => some (Obj.cells y 70 (0, 0))) (over_full rfl))
    have hnil : ∀ j, 1 ≤ j → j < 35 → z[j]? = some (.slice none 0 0) := fun j h1 h2 => by
      obtain ⟨k, rfl⟩ : ∃ k, j = k + 1 := ⟨j - 1, by omega⟩
      rw [HW.out.1]
      simp only [List.getElem?_toArray, List.getElem?_cons_succ]
      show (List.replicate 34 (Value.slice none 0 0))[k]? = _
      rw [List.getElem?_replicate, if_pos (by omega)]
    obtain ⟨o1, o2, o3, o4⟩ := HO.out
    have o5 := HW5.out.2
    have s1 := H4.out.size
    have s0 := HBW.out.size
    have s2 := o3.size
    have s3 := o4.size
    have s4 := o5.size
    have s5 := HD11.out.size
    have o45 : Below wa.heap.size wa w5 := o4.trans (o5.mono s3)
    have q1 : OwnI W0 wc.heap.size (.slice A4 k c4) ml := o1.below ((o45.trans (HD11.out.mono o45.size)).trans (hbW.mono (o45.trans (HD11.out.mono o45.size)).size))
    have q2 : OwnI W0 wa.heap.size (.slice Ad k cd) ml := o2.below ((o5.trans (HD11.out.mono s4)).trans (hbW.mono (o5.trans (HD11.out.mono s4)).size))
    have l1 : ∀ b, (Value.slice A4 k c4).ownBlock = some b → b < wa.heap.size ∧ wc.heap.size ≤ b := fun b hb => (o1.held HML.out 0).lt hb
    have l2 : ∀ b, (Value.slice Ad k cd).ownBlock = some b → b < wd.heap.size ∧ wa.heap.size ≤ b := fun b hb => (o2.held HML.out 0).lt hb
    have hSt : StM ksOf 70 w W0 w.heap.size w11.heap.size (fun _ => 1000) (fun _ => 0) 0 (fun b => b < wc.heap.size ∨ w11.heap.size ≤ b) :=
      startM hxW HW.out.2.2.2.1 (by rw [HW.out.1]; rfl) hnil (by omega) (Nat.le_refl _) (hBw11.trans (hbW.mono hBw11.size))
    have M := keepM hSt (by decide) (by omega) s2 (by omega) (q1.held HML.out) (fun b hb => (l1 b hb).1)
    have HA := Lib.hid (And.intro (q2.held HML.out) (And.intro l2 (And.intro s1 (And.intro s0 (And.intro s2 (And.intro s3 (And.intro s4 s5)))))))
    clear q1 q2 l1 l2 hSt hnil hxW hbW hBw11 hB11 o1 o2 o3 o4 o5 o45 s0 s1 s2 s3 s4 s5 HBU HO
    rw [← HW.out.2.1]
    clear HW
    refine M.mono ?_
    rintro e u1 ⟨rfl, hSt, hfr⟩
    obtain ⟨q2, l2, s1, s0, s2, s3, s4, s5⟩ := HA.out
    have q3 := hfr (.slice Ad k cd) (fun b hb => ⟨(l2 b hb).2, by have := (l2 b hb).1; omega⟩) q2
    have M := keepM hSt (by decide) (by omega) (Nat.le_trans s3 (Nat.le_trans s4 s5)) (Nat.le_refl _) q3 (fun b hb => Nat.lt_of_lt_of_le (l2 b hb).1 (Nat.le_trans s4 s5))
    clear q2 q3 l2 hSt hfr s0 s1 s2 s3 s4 s5
    go_wp2_with fail
    refine M.mono ?_
    rintro e u2 ⟨rfl, hSt, -⟩
    have M := apartM hSt (by decide) (by decide)
    clear hSt HA
    go_wp2_with fail
    refine M.mono ?_
    rintro e u3 ⟨rfl, hb3⟩
    have MA := alive11 u3 (HT.out.below hpos hb3)
    have HU3 := Lib.hid hb3
    clear M hb3
    go_wp2_with fail
    refine MA.mono ?_
    rintro e u4 ⟨rfl, hb4⟩
    have HU4 := Lib.hid (HU3.out.trans (hb4.mono HU3.out.size))
    clear MA hb4
    go_wp2_with fail
    go_ret
    exact ⟨rfl, HU4.out⟩
end Go.Proofs.YtnahhclflnjmcaaGreatDoor
