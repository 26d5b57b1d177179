/- The book: all lists of terms hold their marks. -/
import Derived.Test.YtenaljhkdnhgpaaGreatDoorBkFillT
import Derived.Test.YtenaljhkdnhgpaaGreatDoorPhase
namespace Go.Proofs.YtenaljhkdnhgpaaGreatDoor.Bk
open Go Go.RowKit
set_option linter.unusedVariables false
set_option linter.unusedSimpArgs false

theorem isTerm (n : Int) (w : World) : Calls Tryz.prog 185 #[.agg (kdTerm.mark n), .int .i64 n] w fun e w' => e = .returned (.bool true) ∧ Below w.heap.size w w' := by
  have M := markTerm n
  have hmk : kdTerm.mark n = #[.int .u8 0, .int .i64 0, .int .i64 (wrap64 (-1000 - n)), .int .i64 0] := rfl
  rw [hmk] at M ⊢
  clear hmk
  obtain ⟨Y, hy⟩ : ∃ Y, Y = wrap64 (-1000 - n) := ⟨_, rfl⟩
  rw [← hy] at M ⊢
  clear hy
  have x1 : (w.alloc (.cells #[.int .u8 0, .int .i64 0, .int .i64 Y, .int .i64 0] 69)).heap[w.heap.size]? = some (.cells #[.int .u8 0, .int .i64 0, .int .i64 Y, .int .i64 0] 69 (0, 0)) := heap_alloc_new w _
  have hcc : ∀ w' : World, w'.heap[w.heap.size]? = (w.alloc (.cells #[.int .u8 0, .int .i64 0, .int .i64 Y, .int .i64 0] 69)).heap[w.heap.size]? → w'.cell? ⟨w.heap.size, 0, none⟩ = some (.int .u8 0) ∧ w'.cell? ⟨w.heap.size, 1, none⟩ = some (.int .i64 0) ∧ w'.cell? ⟨w.heap.size, 2, none⟩ = some (.int .i64 Y) ∧ w'.cell? ⟨w.heap.size, 3, none⟩ = some (.int .i64 0) := fun w' e =>
    ⟨(cell_of_row w' _ _ _ _ _ (e.trans x1)).trans rfl, (cell_of_row w' _ _ _ _ _ (e.trans x1)).trans rfl, (cell_of_row w' _ _ _ _ _ (e.trans x1)).trans rfl, (cell_of_row w' _ _ _ _ _ (e.trans x1)).trans rfl⟩
  have HX := Lib.hid (And.intro hcc (And.intro (lt_of_some x1) ((Below.refl w.heap.size w).alloc (Nat.le_refl _) (.cells #[.int .u8 0, .int .i64 0, .int .i64 Y, .int .i64 0] 69))))
  clear x1 hcc
  go_enter Tryz.func185, Tryz.ntmps185
  go_wp2_with fail
  generalize hw1 : w.alloc (.cells #[.int .u8 0, .int .i64 0, .int .i64 Y, .int .i64 0] 69) = w1 at *
  have HW1 := Lib.hid hw1
  clear hw1
  have hS := HX.out.1 w1 rfl
  refine Go.Proofs.Phase.wp_region_ph (S := (fun w' => w'.cell? ⟨w.heap.size, 0, none⟩ = some (.int .u8 0) ∧ w'.cell? ⟨w.heap.size, 1, none⟩ = some (.int .i64 0) ∧ w'.cell? ⟨w.heap.size, 2, none⟩ = some (.int .i64 Y) ∧ w'.cell? ⟨w.heap.size, 3, none⟩ = some (.int .i64 0))) 4 (by kernel_rfl) ?_ (fun hHeld => ?_)
  · ((try dsimp only) <;> (first | assumption | exact KS))
  refine Go.Proofs.Phase.wpPh_take' (i := 0) (by simp only [List.getElem?_toArray, List.getElem?_cons_succ, List.getElem?_cons_zero]; rfl) ?_
  refine ⟨?_, ⟨by kernel_rfl, by kernel_rfl, by kernel_rfl, by kernel_rfl⟩, fun _ _ _ h => h, Or.inl ⟨by rfl, ?_⟩, by assumption, ?_⟩
  rotate_left
  · (intro w hSw; (try dsimp only at hSw); go_simp; with_reducible rfl)
  try simp only [Act.put, List.setIfInBounds_toArray, List.set_cons_zero, List.set_cons_succ]
  refine Go.Proofs.Phase.wpPh_take' (i := 1) (by simp only [List.getElem?_toArray, List.getElem?_cons_succ, List.getElem?_cons_zero]; rfl) ?_
  refine ⟨?_, ⟨by kernel_rfl, by kernel_rfl, by kernel_rfl, by kernel_rfl⟩, fun _ _ _ h => h, Or.inl ⟨by rfl, ?_⟩, by assumption, ?_⟩
  rotate_left
  · (intro w hSw; (try dsimp only at hSw); go_simp; with_reducible rfl)
  try simp only [Act.put, List.setIfInBounds_toArray, List.set_cons_zero, List.set_cons_succ]
  refine Go.Proofs.Phase.wpPh_before (i := 2) (by kernel_rfl) (by simp only [List.getElem?_toArray, List.getElem?_cons_succ, List.getElem?_cons_zero]; rfl) (fun K hK => ?_)
  go_simp
  (((with_reducible refine (M _).mono ?_); rintro e w3 ⟨rfl, B3⟩; have K3 := (Below.refl w1.heap.size w1).drew.trans (B3.mono (Nat.le_refl _)); have KS := HX.out.1 w3 (K3.block _ HX.out.2.1); have HK3 := Lib.hid K3))
  go_wp2_with fail
  refine hK.out _ _ ?_ (fun hHeldN => ?_)
  · ((try dsimp only) <;> (first | assumption | exact KS))
  clear hHeld
  have hHeld := hHeldN
  clear hHeldN
  clear hK K
  try simp only [Act.put, List.setIfInBounds_toArray, List.set_cons_zero, List.set_cons_succ]
  refine Go.Proofs.Phase.wpPh_take' (i := 3) (by simp only [List.getElem?_toArray, List.getElem?_cons_succ, List.getElem?_cons_zero]; rfl) ?_
  refine ⟨?_, ⟨by kernel_rfl, by kernel_rfl, by kernel_rfl, by kernel_rfl⟩, fun _ _ _ h => h, Or.inl ⟨by rfl, ?_⟩, by assumption, ?_⟩
  rotate_left
  · (intro w hSw; (try dsimp only at hSw); go_simp; with_reducible rfl)
  try simp only [Act.put, List.setIfInBounds_toArray, List.set_cons_zero, List.set_cons_succ]
  refine Go.Proofs.Phase.wpPh_behind (i := 4) (by kernel_rfl) (by simp only [List.getElem?_toArray, List.getElem?_cons_succ, List.getElem?_cons_zero]; rfl) (by kernel_rfl) (fun K hK => ?_)
  go_simp
  refine hK.out _ _ ?_
  clear hK K
  try simp only [Act.put, List.setIfInBounds_toArray, List.set_cons_zero, List.set_cons_succ]
  refine Go.Proofs.Phase.wpPh_done (by kernel_rfl) ?_ _
  go_wp2_with fail
  go_ret
  exact ⟨rfl, (show Below w.heap.size w w1 from HW1.out ▸ HX.out.2.2).trans (HK3.out.mono (show w.heap.size ≤ w1.heap.size from HW1.out ▸ HX.out.2.2.size))⟩
set_option maxHeartbeats 4000000 in
set_option maxRecDepth 100000 in
theorem lookTerm {w : World} {B : Nat} {F : Nat → Prop} {lv : Value} {hs : List (Value × Int)} {L : Nat} (bb : Nat) (bc : Array Value) (h : HL kdTerm w B F lv hs (fun _ => L) (fun _ => 4000000)) (hb : w.heap[bb]? = some (.cells bc 66 (0, 0))) (hl : bc[5]? = some lv) (hn : hs.length ≤ 1000000) (hlim : L ≤ 2000003) :
    Calls Tryz.prog 105 #[.pointer (some ⟨bb, 0, none⟩)] w fun e w' => e = .returned (.bool true) ∧ Below w.heap.size w w' := by
  obtain ⟨N, hN⟩ : ∃ N, N = hs.length := ⟨_, rfl⟩
  obtain ⟨A0, c0, e⟩ := h.slice
  rw [← hN] at e hn
  subst e
  have l1 : w.cell? ⟨bb, 5, none⟩ = some (.slice A0 N c0) := (cell_of_row w bb _ _ _ _ hb).trans hl
  have HC := Lib.hid (And.intro h (And.intro hN hlim))
  have hi0 : (0 : Int) ≤ (N : Int) := by omega
  clear h hb hl hlim hN
  go_enter Tryz.func105, Tryz.ntmps105
  go_wp2_with fail
  go_loopg [12] N (fun k v12 wr => ∃ i : Nat, v12 = .int .i64 (i : Int) ∧ i + k = N ∧ Hid (Below w.heap.size w wr))
  case atStart => exact ⟨0, rfl, by simp, Lib.hid (Below.refl _ _)⟩
  case round =>
    clear l1
    obtain ⟨i, rfl, hik, HT⟩ := hrel
    by_cases hi : i < N
    · obtain ⟨⟨v, m⟩, hvm⟩ : ∃ x, hs[i]? = some x := ⟨hs[i]'(by have := HC.out.2.1; omega), List.getElem?_eq_getElem _⟩
      obtain ⟨A, n, c, rfl, hnl⟩ := HC.out.1.sl hvm
      obtain ⟨gl, capl, curl, e, k1, k2, k3, k4, k5⟩ := HC.out.1.at hvm
      injection e with e1 e2 e3
      clear e2
      subst e1 e3
      have hgl := lt_of_some k1
      have c1 : wr.cell? ⟨gl, i * 2, none⟩ = some (.slice A n c) := (HT.out.cell (p := ⟨gl, i * 2, none⟩) hgl).trans ((cell_of_row w gl _ _ _ _ k1).trans k3)
      have c2 : wr.cell? ⟨gl, i * 2 + 1, none⟩ = some (.int .i64 m) := (HT.out.cell (p := ⟨gl, i * 2 + 1, none⟩) hgl).trans ((cell_of_row w gl _ _ _ _ k1).trans k4)
      have i1 : (0 : Int) ≤ (i : Int) := by omega
      have i2 : (i : Int) < (N : Int) := by omega
      have i3 : (0 : Int) ≤ (n : Int) := by omega
      have HI := Lib.hid (And.intro hvm hi)
      have hnl2 : n ≤ 2000003 := Nat.le_trans hnl HC.out.2.2
      have hx1 : (wr.alloc (.cells #[.slice none 0 0, .int .i64 0] 105)).heap[wr.heap.size]? = some (.cells #[.slice none 0 0, .int .i64 0] 105 (0, 0)) := heap_alloc_new wr _
      obtain ⟨w2, hw2⟩ : ∃ w2, w2 = (wr.alloc (.cells #[.slice none 0 0, .int .i64 0] 105)).setRow wr.heap.size (over #[.slice none 0 0, .int .i64 0] 0 #[.slice A n c, .int .i64 m]) := ⟨_, rfl⟩
      have hx2 : w2.heap[wr.heap.size]? = some (.cells #[.slice A n c, .int .i64 m] 105 (0, 0)) := by
        rw [hw2]
        exact (setRow_same hx1).trans (congrArg (fun z => some (Obj.cells z 105 (0, 0))) (over_full rfl))
      have hb2 : Below w.heap.size w w2 := by
        rw [hw2]
        exact below_setRow (HT.out.alloc HT.out.size _) HT.out.size
      have hszw : wr.heap.size < w2.heap.size := lt_of_some hx2
      have hcs : (Tryz.prog.info? 105).map (·.size) = some 2 := by kernel_rfl
      have hon : ∀ u ∈ (#[.slice A n c, .int .i64 m] : Array Value).toList, u.oneCell' = true := by simp [Value.oneCell']
      have HX := Lib.hid (And.intro hx1 (And.intro hw2 (And.intro hx2 (And.intro hb2 (And.intro hcs hon)))))
      have d1 : w2.cell? ⟨wr.heap.size, 0, none⟩ = some (.slice A n c) := (cell_of_row w2 _ _ _ _ _ hx2).trans rfl
      clear hvm k1 k2 k3 k4 k5 hnl hi hx1 hw2 hx2 hb2 hgl hszw hcs hon
      go_wp2_with (first | (rw [← HX.out.2.1]) | (with_reducible refine wpList_store_part rfl 105 _ _ rfl rfl wr.heap.size 0 2 rfl 105 _ _ rfl HX.out.1 HX.out.2.2.2.2.1 rfl (by simp) HX.out.2.2.2.2.2 ?_))
      go_loopg [19] n (fun k v19 wr => ∃ q : Nat, v19 = .int .i64 (q : Int) ∧ q + k = n ∧ Hid (Below w2.heap.size w2 wr))
      case atStart => exact ⟨0, rfl, by simp, Lib.hid (Below.refl _ _)⟩
      case round =>
        obtain ⟨q, rfl, hqk, HQ⟩ := hrel
        have HX2 := Lib.hid (And.intro HX.out.2.2.1 HX.out.2.2.2.1)
        clear HX c1 c2 d1
        by_cases hq : q < n
        · obtain ⟨g, o, cur, rfl, k1, k2, k3, k4, k5, k6⟩ := HC.out.1.elem HI.out.1 (by omega)
          have k6q := k6 q (by rw [Nat.min_eq_right (by omega)]; exact hq)
          have k2 : o + n * 4 ≤ cur.size := k2
          have hfit : (o + q * 4) + 4 ≤ cur.size := by omega
          obtain ⟨y, hy⟩ : ∃ y, y = kdTerm.mark m := ⟨_, rfl⟩
          have hex : cur.extract (o + q * 4) (o + q * 4 + 4) = y := by rw [hy]; exact k6q
          have hgw := lt_of_some k1
          have hgr : wr.heap[g]? = some (.cells cur 69 (0, 0)) := ((HX2.out.2.trans (HQ.out.mono HX2.out.2.size)).block g hgw).trans k1
          have hys : y.size = 4 := by rw [hy]; exact kdTerm.mks m
          have hyo : ∀ u ∈ y.toList, u.oneCell' = true := by rw [hy]; exact kdTerm.mko m
          have x1 : (wr.alloc (.cells #[.int .u8 0, .int .i64 0, .int .i64 0, .int .i64 0] 69)).heap[wr.heap.size]? = some (.cells #[.int .u8 0, .int .i64 0, .int .i64 0, .int .i64 0] 69 (0, 0)) := heap_alloc_new wr _
          obtain ⟨w4, hw4⟩ : ∃ w4, w4 = (wr.alloc (.cells #[.int .u8 0, .int .i64 0, .int .i64 0, .int .i64 0] 69)).setRow wr.heap.size (over #[.int .u8 0, .int .i64 0, .int .i64 0, .int .i64 0] 0 y) := ⟨_, rfl⟩
          have x2 : w4.heap[wr.heap.size]? = some (.cells y 69 (0, 0)) := by
            rw [hw4]
            exact (setRow_same x1).trans (congrArg (fun z => some (Obj.cells z 69 (0, 0))) (over_full hys.symm))
          have hb4 : Below w2.heap.size w2 w4 := by
            rw [hw4]
            exact below_setRow (HQ.out.alloc HQ.out.size _) HQ.out.size
          have c5 : w4.cell? ⟨_, 1, none⟩ = some (.int .i64 m) := (cell_of_row w4 _ _ _ _ _ ((hb4.block _ (lt_of_some HX2.out.1)).trans HX2.out.1)).trans rfl
          have hxe : y.extract 0 (0 + 4) = y := by rw [Nat.zero_add, ← hys]; exact Array.extract_size
          have hsz : 0 + 4 ≤ y.size := by omega
          have M := isTerm m w4
          rw [← hy] at M
          have i4 : (0 : Int) ≤ (q : Int) := by omega
          have i5 : (q : Int) < (n : Int) := by omega
          have HQL := Lib.hid hq
          have HH := Lib.hid (And.intro hgr (And.intro hfit (And.intro hex (And.intro x1 (And.intro hw4 (And.intro x2 (And.intro hys (And.intro hyo (And.intro hxe hsz)))))))))
          have HB4 := Lib.hid hb4
          clear k1 k2 k3 k4 k5 k6 k6q hy hgw hq hfit hex hgr hys hyo x1 hw4 x2 hxe hsz hb4
          go_wp2_with (first | (rw [← HH.out.2.2.2.2.1]) | (with_reducible refine wpList_load_part' rfl 69 _ rfl g (o + q * 4) 4 rfl 69 cur _ _ HH.out.1 Tryz.underlying69 rfl cells69 HH.out.2.1 y HH.out.2.2.1 ?_) | (with_reducible refine wpList_store_part rfl 69 _ _ rfl rfl wr.heap.size 0 4 rfl 69 _ y rfl HH.out.2.2.2.1 cells69 HH.out.2.2.2.2.2.2.1 (by simp) HH.out.2.2.2.2.2.2.2.1 ?_) | (with_reducible refine wpList_load_part' rfl 69 _ rfl wr.heap.size 0 4 rfl 69 y _ _ HH.out.2.2.2.2.2.1 Tryz.underlying69 rfl cells69 HH.out.2.2.2.2.2.2.2.2.2 y HH.out.2.2.2.2.2.2.2.2.1 ?_))
          refine M.mono ?_
          rintro e w5 ⟨rfl, hb5⟩
          have HB5 := Lib.hid (HB4.out.trans (hb5.mono HB4.out.size))
          clear hb5 M HB4 HH c5
          go_wp2_with fail
          go_roundg (n - (q + 1))
          case measure => have := HQL.out; omega
          case rel => exact ⟨q + 1, by go_num, by have := HQL.out; omega, HB5⟩
        · obtain rfl : q = n := by omega
          have HE := Lib.hid (HX2.out.2.trans (HQ.out.mono HX2.out.2.size))
          clear hq
          go_wp2_with fail
          go_roundg (N - (i + 1))
          case measure => have := HI.out.2; omega
          case rel => exact ⟨i + 1, by go_num, by have := HI.out.2; omega, HE⟩
    · obtain rfl : i = N := by omega
      go_wp2_with fail
      go_ret
      exact ⟨rfl, HT.out⟩
end Go.Proofs.YtenaljhkdnhgpaaGreatDoor.Bk
