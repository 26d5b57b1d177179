/- The book: all lists of terms are written over. -/
import Derived.Test.YtenaljhkdnhgpaaGreatDoorLib
import Derived.Test.YtenaljhkdnhgpaaGreatDoorPhase
namespace Go.Proofs.YtenaljhkdnhgpaaGreatDoor.Bk
open Go Go.RowKit
set_option linter.unusedVariables false
set_option linter.unusedSimpArgs false

def kdTerm : KD := ⟨105, 69, 4, fun m => #[.int .u8 0, .int .i64 0, .int .i64 (wrap64 (-1000 - m)), .int .i64 0], by decide, fun _ => rfl, fun m => by simp [Value.oneCell']⟩
theorem cells69 : (Tryz.prog.info? 69).map (·.size) = some 4 := by kernel_rfl
theorem markTerm (n : Int) (w : World) : Calls Tryz.prog 152 #[.int .i64 n] w fun e w' => e = .returned (.agg (kdTerm.mark n)) ∧ Below w.heap.size w w' := by
  have x1 : (w.alloc (.cells #[.int .u8 0, .int .i64 0, .int .i64 0, .int .i64 0] 69)).heap[w.heap.size]? = some (.cells #[.int .u8 0, .int .i64 0, .int .i64 0, .int .i64 0] 69 (0, 0)) := heap_alloc_new w _
  have HX := Lib.hid x1
  have HB := Lib.hid ((Below.refl w.heap.size w).alloc (Nat.le_refl _) (.cells #[.int .u8 0, .int .i64 0, .int .i64 0, .int .i64 0] 69))
  clear x1
  go_enter Tryz.func152, Tryz.ntmps152
  go_wp2_with (with_reducible refine wpList_store_part rfl 69 _ _ rfl rfl _ 0 4 rfl 69 _ _ rfl HX.out (by kernel_rfl) rfl (by simp) (by simp [Value.oneCell']) ?_)
  refine bodyPost_ret (v := .agg (kdTerm.mark n)) (results_cell_row Tryz.results152 _ _ _ _ _ _ _ rfl ((setRow_same HX.out).trans (congrArg (fun z => some (Obj.cells z 69 (0, 0))) (over_full rfl))) Tryz.underlying69 rfl (by kernel_rfl)) rfl ⟨rfl, below_setRow HB.out (Nat.le_refl _)⟩
set_option maxHeartbeats 4000000 in
set_option maxRecDepth 100000 in
theorem fillTerm {w : World} {B : Nat} {F : Nat → Prop} {lv : Value} {hs : List (Value × Int)} {lim kf : Nat → Nat} (bb : Nat) (bc : Array Value) (h : HL kdTerm w B F lv hs lim kf) (hb : w.heap[bb]? = some (.cells bc 66 (0, 0))) (hl : bc[5]? = some lv) (hFb : ¬ F bb) (hn : hs.length ≤ 1000000) (hlim : ∀ i, lim i ≤ 2000000) (hF : ∀ b, F b → b < w.heap.size) :
    Calls Tryz.prog 38 #[.pointer (some ⟨bb, 0, none⟩)] w fun e w' => e = .returned (.tuple #[]) ∧ HL kdTerm w' B F lv hs lim (fun _ => 4000000) ∧ Chg F w w' := by
  obtain ⟨A0, c0, rfl⟩ := h.slice
  have l1 : w.cell? ⟨bb, 5, none⟩ = some (.slice A0 hs.length c0) := (cell_of_row w bb _ _ _ _ hb).trans hl
  have H0 : Hid (HL kdTerm w B F (.slice A0 hs.length c0) hs lim (fun j => if j < 0 then 4000000 else 0) ∧ Chg F w w) := Lib.hid ⟨h.less fun j _ => by simp, Chg.refl _ _⟩
  have HC := Lib.hid (And.intro hb (And.intro hl (And.intro hFb (And.intro hlim hF))))
  have hi0 : (0 : Int) ≤ (hs.length : Int) := by omega
  clear h hb hl hFb hlim hF
  go_enter Tryz.func38, Tryz.ntmps38
  go_wp2_with fail
  go_loopg [10] hs.length (fun k v10 wr => ∃ i : Nat, v10 = .int .i64 (i : Int) ∧ i + k = hs.length ∧ Hid (HL kdTerm wr B F (.slice A0 hs.length c0) hs lim (fun j => if j < i then 4000000 else 0) ∧ Chg F w wr))
  case atStart => exact ⟨0, rfl, by simp, H0⟩
  case round =>
    clear H0 l1
    obtain ⟨i, rfl, hik, HT⟩ := hrel
    have l1 : wr.cell? ⟨bb, 5, none⟩ = some (.slice A0 hs.length c0) := (cell_of_row wr bb _ _ _ _ (HT.out.2.keep HC.out.1 HC.out.2.2.1)).trans HC.out.2.1
    by_cases hi : i < hs.length
    · obtain ⟨⟨v, m⟩, hvm⟩ : ∃ x, hs[i]? = some x := ⟨hs[i], List.getElem?_eq_getElem hi⟩
      obtain ⟨A, n, c, rfl, hnl⟩ := HT.out.1.sl hvm
      obtain ⟨gl, capl, curl, e, k1, k2, k3, k4, k5⟩ := HT.out.1.at hvm
      injection e with e1 _ e3
      subst e1 e3
      have l2 : wr.cell? ⟨gl, i * 2, none⟩ = some (.slice A n c) := (cell_of_row wr gl _ _ _ _ k1).trans k3
      have i1 : (0 : Int) ≤ (i : Int) := by omega
      have i2 : (i : Int) < (hs.length : Int) := by omega
      have i3 : (0 : Int) ≤ (n : Int) := by omega
      have HI := Lib.hid (And.intro hvm hi)
      have hnl2 : n ≤ 2000000 := Nat.le_trans hnl (HC.out.2.2.2.1 i)
      clear hvm k1 k2 k3 k4 k5 hnl hi
      go_wp2_with fail
      go_loopg [24] n (fun k v24 wr => ∃ q : Nat, v24 = .int .i64 (q : Int) ∧ q + k = n ∧ Hid (HL kdTerm wr B F (.slice (some ⟨gl, 0, none⟩) hs.length c0) hs lim (fun j => if j < i then 4000000 else if j = i then q else 0) ∧ Chg F w wr))
      case atStart => exact ⟨0, rfl, by simp, Lib.hid ⟨HT.out.1.less fun j _ => by
        show (if j < i then 4000000 else if j = i then 0 else 0) ≤ if j < i then 4000000 else 0
        split
        · exact Nat.le_refl _
        · split <;> exact Nat.le_refl _, HT.out.2⟩⟩
      case round =>
        clear HT l1 l2
        obtain ⟨q, rfl, hqk, HQ⟩ := hrel
        by_cases hq : q < n
        · obtain ⟨g, o, cur, rfl, k1, k2, k3, k4, k5, k6⟩ := HQ.out.1.elem HI.out.1 (by omega)
          obtain ⟨gl', capl', curl, e, p1, p2, p3, p4, p5⟩ := HQ.out.1.at HI.out.1
          injection e with e1 _ e3
          injection e1 with e1
          injection e1 with e1
          subst e1 e3
          have hq4 : q * 4 + 4 ≤ n * 4 := by omega
          have hfit : (o + q * 4) + 4 ≤ cur.size := by have : o + n * 4 ≤ cur.size := k2; omega
          have hcc : ∀ w' : World, w'.heap[gl]? = wr.heap[gl]? → w'.cell? ⟨gl, i * 2, none⟩ = some (.slice (some ⟨g, o, none⟩) n c) ∧ w'.cell? ⟨gl, i * 2 + 1, none⟩ = some (.int .i64 m) := fun w' e1 =>
            ⟨(cell_of_row w' gl _ _ _ _ (e1.trans p1)).trans p3, (cell_of_row w' gl _ _ _ _ (e1.trans p1)).trans p4⟩
          obtain ⟨c1, c2⟩ := hcc wr rfl
          obtain ⟨y, hy⟩ : ∃ y, y = kdTerm.mark m := ⟨_, rfl⟩
          have hys : y.size = 4 := by rw [hy]; exact kdTerm.mks m
          have hyo : ∀ u ∈ y.toList, u.oneCell' = true := by rw [hy]; exact kdTerm.mko m
          have hneg : gl ≠ g := fun e => k4 (by rw [e]; rfl)
          have HH := Lib.hid (And.intro hcc (And.intro k1 (And.intro hfit (And.intro k3 (And.intro hys (And.intro hyo (And.intro (lt_of_some p1) (And.intro (lt_of_some k1) (And.intro p1 hneg)))))))))
          have HY := Lib.hid hy
          have HQL := Lib.hid hq
          have i4 : (0 : Int) ≤ (q : Int) := by omega
          have i5 : (q : Int) < (n : Int) := by omega
          clear k1 k2 k3 k4 k5 k6 p1 p2 p3 p4 p5 hy hcc hys hyo hneg hfit hq4
          go_wp2_with fail
          refine Go.Proofs.Phase.wp_region_ph (S := (fun w' => w'.cell? ⟨gl, i * 2, none⟩ = some (.slice (some ⟨g, o, none⟩) n c) ∧ w'.cell? ⟨gl, i * 2 + 1, none⟩ = some (.int .i64 m))) 11 (by kernel_rfl) ?_ (fun hHeld => ?_)
          · ((try dsimp only) <;> (first | assumption | exact HH.out.1 _ rfl | exact KS))
          refine Go.Proofs.Phase.wpPh_take' (i := 0) (by simp only [List.getElem?_toArray, List.getElem?_cons_succ, List.getElem?_cons_zero]; rfl) ?_
          refine ⟨?_, ⟨by kernel_rfl, by kernel_rfl, by kernel_rfl, by kernel_rfl⟩, fun _ _ _ h => h, Or.inl ⟨by rfl, ?_⟩, by assumption, ?_⟩
          rotate_left
          · (intro w hSw; (try dsimp only at hSw); go_simp; with_reducible rfl)
          try simp only [Act.put, List.setIfInBounds_toArray, List.set_cons_zero, List.set_cons_succ]
          refine Go.Proofs.Phase.wpPh_take' (i := 1) (by simp only [List.getElem?_toArray, List.getElem?_cons_succ, List.getElem?_cons_zero]; rfl) ?_
          refine ⟨?_, ⟨by kernel_rfl, by kernel_rfl, by kernel_rfl, by kernel_rfl⟩, fun _ _ _ h => h, Or.inl ⟨by rfl, ?_⟩, by assumption, ?_⟩
          rotate_left
          · (intro w hSw; (try dsimp only at hSw); go_simp; with_reducible rfl)
          try simp only [Act.put, List.setIfInBounds_toArray, List.set_cons_zero, List.set_cons_succ]
          refine Go.Proofs.Phase.wpPh_take' (i := 2) (by simp only [List.getElem?_toArray, List.getElem?_cons_succ, List.getElem?_cons_zero]; rfl) ?_
          refine ⟨?_, ⟨by kernel_rfl, by kernel_rfl, by kernel_rfl, by kernel_rfl⟩, fun _ _ _ h => h, Or.inl ⟨by rfl, ?_⟩, by assumption, ?_⟩
          rotate_left
          · (intro w hSw; (try dsimp only at hSw); go_simp; with_reducible rfl)
          try simp only [Act.put, List.setIfInBounds_toArray, List.set_cons_zero, List.set_cons_succ]
          refine Go.Proofs.Phase.wpPh_take' (i := 3) (by simp only [List.getElem?_toArray, List.getElem?_cons_succ, List.getElem?_cons_zero]; rfl) ?_
          refine ⟨?_, ⟨by kernel_rfl, by kernel_rfl, by kernel_rfl, by kernel_rfl⟩, fun _ _ _ h => h, Or.inl ⟨by rfl, ?_⟩, by assumption, ?_⟩
          rotate_left
          · (intro w hSw; (try dsimp only at hSw); go_simp; with_reducible rfl)
          try simp only [Act.put, List.setIfInBounds_toArray, List.set_cons_zero, List.set_cons_succ]
          refine Go.Proofs.Phase.wpPh_take' (i := 4) (by simp only [List.getElem?_toArray, List.getElem?_cons_succ, List.getElem?_cons_zero]; rfl) ?_
          refine ⟨?_, ⟨by kernel_rfl, by kernel_rfl, by kernel_rfl, by kernel_rfl⟩, fun _ _ _ h => h, Or.inl ⟨by rfl, ?_⟩, by assumption, ?_⟩
          rotate_left
          · (intro w hSw; (try dsimp only at hSw); go_simp; with_reducible rfl)
          try simp only [Act.put, List.setIfInBounds_toArray, List.set_cons_zero, List.set_cons_succ]
          refine Go.Proofs.Phase.wpPh_take' (i := 5) (by simp only [List.getElem?_toArray, List.getElem?_cons_succ, List.getElem?_cons_zero]; rfl) ?_
          refine ⟨?_, ⟨by kernel_rfl, by kernel_rfl, by kernel_rfl, by kernel_rfl⟩, fun _ _ _ h => h, Or.inl ⟨by rfl, ?_⟩, by assumption, ?_⟩
          rotate_left
          · (intro w hSw; (try dsimp only at hSw); go_simp; with_reducible rfl)
          try simp only [Act.put, List.setIfInBounds_toArray, List.set_cons_zero, List.set_cons_succ]
          refine Go.Proofs.Phase.wpPh_take' (i := 6) (by simp only [List.getElem?_toArray, List.getElem?_cons_succ, List.getElem?_cons_zero]; rfl) ?_
          refine ⟨?_, ⟨by kernel_rfl, by kernel_rfl, by kernel_rfl, by kernel_rfl⟩, fun _ _ _ h => h, Or.inl ⟨by rfl, ?_⟩, by assumption, ?_⟩
          rotate_left
          · (intro w hSw; (try dsimp only at hSw); go_simp; with_reducible rfl)
          try simp only [Act.put, List.setIfInBounds_toArray, List.set_cons_zero, List.set_cons_succ]
          refine Go.Proofs.Phase.wpPh_take' (i := 7) (by simp only [List.getElem?_toArray, List.getElem?_cons_succ, List.getElem?_cons_zero]; rfl) ?_
          refine ⟨?_, ⟨by kernel_rfl, by kernel_rfl, by kernel_rfl, by kernel_rfl⟩, fun _ _ _ h => h, Or.inl ⟨by rfl, ?_⟩, by assumption, ?_⟩
          rotate_left
          · (intro w hSw; (try dsimp only at hSw); go_simp; with_reducible rfl)
          try simp only [Act.put, List.setIfInBounds_toArray, List.set_cons_zero, List.set_cons_succ]
          refine Go.Proofs.Phase.wpPh_take' (i := 8) (by simp only [List.getElem?_toArray, List.getElem?_cons_succ, List.getElem?_cons_zero]; rfl) ?_
          refine ⟨?_, ⟨by kernel_rfl, by kernel_rfl, by kernel_rfl, by kernel_rfl⟩, fun _ _ _ h => h, Or.inl ⟨by rfl, ?_⟩, by assumption, ?_⟩
          rotate_left
          · (intro w hSw; (try dsimp only at hSw); go_simp; with_reducible rfl)
          try simp only [Act.put, List.setIfInBounds_toArray, List.set_cons_zero, List.set_cons_succ]
          refine Go.Proofs.Phase.wpPh_before (i := 9) (by kernel_rfl) (by simp only [List.getElem?_toArray, List.getElem?_cons_succ, List.getElem?_cons_zero]; rfl) (fun K hK => ?_)
          go_simp
          ((first
              | ((with_reducible refine (markTerm m _).mono ?_); rintro e w3 ⟨rfl, B3⟩; rw [← HY.out]; have K3 := (Below.refl wr.heap.size wr).drew.trans (B3.mono (Nat.le_refl _)); have KS := HH.out.1 w3 (K3.block _ HH.out.2.2.2.2.2.2.1); have KG : Hid (w3.heap[g]? = some (.cells cur 69 (0, 0))) := Lib.hid ((K3.block _ HH.out.2.2.2.2.2.2.2.1).trans HH.out.2.1); have HK3 := Lib.hid K3)
              | (with_reducible refine step_store_part rfl 69 _ _ rfl rfl g (o + q * 4) 4 rfl 69 cur y rfl KG.out cells69 HH.out.2.2.2.2.1 HH.out.2.2.1 HH.out.2.2.2.2.2.1 ?_)))
          go_wp2_with fail
          refine hK.out _ _ ?_ (fun hHeldN => ?_)
          · ((try dsimp only) <;> (first | assumption | exact HH.out.1 _ rfl | exact KS))
          clear hHeld
          have hHeld := hHeldN
          clear hHeldN
          clear hK K
          try simp only [Act.put, List.setIfInBounds_toArray, List.set_cons_zero, List.set_cons_succ]
          refine Go.Proofs.Phase.wpPh_take' (i := 10) (by simp only [List.getElem?_toArray, List.getElem?_cons_succ, List.getElem?_cons_zero]; rfl) ?_
          refine ⟨?_, ⟨by kernel_rfl, by kernel_rfl, by kernel_rfl, by kernel_rfl⟩, fun _ _ _ h => h, Or.inl ⟨by rfl, ?_⟩, by assumption, ?_⟩
          rotate_left
          · (intro w hSw; (try dsimp only at hSw); go_simp; with_reducible rfl)
          try simp only [Act.put, List.setIfInBounds_toArray, List.set_cons_zero, List.set_cons_succ]
          refine Go.Proofs.Phase.wpPh_behind (i := 11) (by kernel_rfl) (by simp only [List.getElem?_toArray, List.getElem?_cons_succ, List.getElem?_cons_zero]; rfl) (by kernel_rfl) (fun K hK => ?_)
          ((first
              | ((with_reducible refine (markTerm m _).mono ?_); rintro e w3 ⟨rfl, B3⟩; rw [← HY.out]; have K3 := (Below.refl wr.heap.size wr).drew.trans (B3.mono (Nat.le_refl _)); have KS := HH.out.1 w3 (K3.block _ HH.out.2.2.2.2.2.2.1); have KG : Hid (w3.heap[g]? = some (.cells cur 69 (0, 0))) := Lib.hid ((K3.block _ HH.out.2.2.2.2.2.2.2.1).trans HH.out.2.1); have HK3 := Lib.hid K3)
              | (with_reducible refine step_store_part rfl 69 _ _ rfl rfl g (o + q * 4) 4 rfl 69 cur y rfl KG.out cells69 HH.out.2.2.2.2.1 HH.out.2.2.1 HH.out.2.2.2.2.2.1 ?_)))
          refine hK.out _ _ ?_
          clear hK K
          try simp only [Act.put, List.setIfInBounds_toArray, List.set_cons_zero, List.set_cons_succ]
          refine Go.Proofs.Phase.wpPh_done (by kernel_rfl) ?_ _
          have hN : HL kdTerm (w3.setRow g (over cur (o + q * 4) y)) B F (.slice (some ⟨gl, 0, none⟩) hs.length c0) hs lim (fun j => if j < i then 4000000 else if j = i then q + 1 else 0) ∧ Chg F w (w3.setRow g (over cur (o + q * 4) y)) := by
            obtain ⟨hcc, k1, hfit, k3, hys, hyo, _, _, p1, hneg⟩ := HH.out
            have hz := setRow_same (vs := over cur (o + q * 4) y) KG.out
            have hq := HQL.out
            have hc1 : Chg (· = g) wr (w3.setRow g (over cur (o + q * 4) y)) := (Chg.of_below HK3.out).trans (Chg.setRow w3 g _ rfl)
            have hw := HQ.out.1.write (w' := w3.setRow g (over cur (o + q * 4) y)) (k := q) (cur' := over cur (o + q * 4) y) HI.out.1 k1 (by rw [if_neg (Nat.lt_irrefl i), if_pos rfl]; exact Nat.le_refl _) hq (size_over (by rw [hys]; exact hfit)) (by
              have h9 := over_extract_same (cs := cur) (vs := y) (off := o + q * 4) (by rw [hys]; exact hfit)
              rw [hys] at h9
              rw [← HY.out]
              exact h9) (fun j hj => by
              have h8 : j * 4 + 4 ≤ q * 4 := by omega
              exact over_extract_lt (cs := cur) (vs := y) (off := o + q * 4) (a := o + j * 4) (b := o + j * 4 + 4) (by rw [hys]; exact hfit) (by omega)) hz hc1
            refine ⟨hw.less fun j _ => ?_, HQ.out.2.trans (hc1.mono fun b _ hb => by rw [hb]; exact k3)⟩
            show (if j < i then 4000000 else if j = i then q + 1 else 0) ≤ if j = i then q + 1 else if j < i then 4000000 else if j = i then q else 0
            by_cases e : j = i
            · subst e; simp
            · rw [if_neg e, if_neg e, if_neg e]; exact Nat.le_refl _
          have HN := Lib.hid hN
          clear hN K3 KS B3
          go_wp2_with fail
          go_roundg (n - (q + 1))
          case measure => have := HQL.out; omega
          case rel => exact ⟨q + 1, by go_num, by have := HQL.out; omega, HN⟩
        · obtain rfl : q = n := by omega
          have HE : Hid (HL kdTerm wr B F (.slice (some ⟨gl, 0, none⟩) hs.length c0) hs lim (fun j => if j < i + 1 then 4000000 else 0) ∧ Chg F w wr) := Lib.hid ⟨HQ.out.1.fin HI.out.1 (by rw [if_neg (Nat.lt_irrefl i), if_pos rfl]; exact Nat.le_refl _) fun j hj => by
            by_cases h1 : j < i
            · rw [if_pos h1, if_pos (by omega)]
            · rw [if_neg h1, if_neg hj, if_neg (by omega)], HQ.out.2⟩
          clear hq HQ
          go_wp2_with fail
          go_roundg (hs.length - (i + 1))
          case measure => have := HI.out.2; omega
          case rel => exact ⟨i + 1, by go_num, by have := HI.out.2; omega, HE⟩
    · obtain rfl : i = hs.length := by omega
      go_wp2_with fail
      go_end0
      exact ⟨rfl, HT.out.1.less fun j hj => by rw [if_pos hj]; exact Nat.le_refl _, HT.out.2⟩
end Go.Proofs.YtenaljhkdnhgpaaGreatDoor.Bk
