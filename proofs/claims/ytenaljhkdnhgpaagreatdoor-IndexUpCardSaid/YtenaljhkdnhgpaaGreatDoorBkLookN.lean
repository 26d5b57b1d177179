/- The book: all lists of numbers are marks. -/
import Derived.Test.YtenaljhkdnhgpaaGreatDoorBkFillN
namespace Go.Proofs.YtenaljhkdnhgpaaGreatDoor.Bk
open Go Go.RowKit
set_option linter.unusedVariables false
set_option linter.unusedSimpArgs false

theorem isNumber (n : Int) (w : World) : Calls Tryz.prog 182 #[.int .i64 (wrap64 (-1000 - n)), .int .i64 n] w fun e w' => e = .returned (.bool true) ∧ w' = w := by
  have M := markNumber n w
  obtain ⟨y, hy⟩ : ∃ y, y = wrap64 (-1000 - n) := ⟨_, rfl⟩
  rw [← hy]
  have HY := Lib.hid hy
  clear hy
  go_enter Tryz.func182, Tryz.ntmps182
  go_wp2_with (go_at_call 149; with_reducible refine M.mono ?_; rintro e w' ⟨rfl, rfl⟩)
  go_ret
  exact ⟨by simp; exact HY.out, rfl⟩
set_option maxHeartbeats 4000000 in
set_option maxRecDepth 100000 in
theorem lookNumber {w : World} {B : Nat} {F : Nat → Prop} {lv : Value} {hs : List (Value × Int)} {L : Nat} (bb : Nat) (bc : Array Value) (h : HL kdNumber w B F lv hs (fun _ => L) (fun _ => 4000000)) (hb : w.heap[bb]? = some (.cells bc 66 (0, 0))) (hl : bc[2]? = some lv) (hn : hs.length ≤ 1000000) (hlim : L ≤ 2000003) :
    Calls Tryz.prog 102 #[.pointer (some ⟨bb, 0, none⟩)] w fun e w' => e = .returned (.bool true) ∧ Below w.heap.size w w' := by
  obtain ⟨N, hN⟩ : ∃ N, N = hs.length := ⟨_, rfl⟩
  obtain ⟨A0, c0, e⟩ := h.slice
  rw [← hN] at e hn
  subst e
  have l1 : w.cell? ⟨bb, 2, none⟩ = some (.slice A0 N c0) := (cell_of_row w bb _ _ _ _ hb).trans hl
  have HC := Lib.hid (And.intro h (And.intro hN hlim))
  have hi0 : (0 : Int) ≤ (N : Int) := by omega
  clear h hb hl hlim hN
  go_enter Tryz.func102, Tryz.ntmps102
  go_wp2_with fail
  go_loopg [12] N (fun k v12 wr => ∃ i : Nat, v12 = .int .i64 (i : Int) ∧ i + k = N ∧ Hid (Below w.heap.size w wr))
  case atStart => exact ⟨0, rfl, by simp, Lib.hid (Below.refl _ _)⟩
  case round =>
    clear l1
    obtain ⟨i, rfl, hik, HT⟩ := hrel
    by_cases hi : i < N
    · obtain ⟨⟨v, m⟩, hvm⟩ : ∃ x, hs[i]? = some x := ⟨hs[i]'(by have := HC.out.2.1; omega), List.getElem?_eq_getElem _⟩
      obtain ⟨A, n, c, rfl, hnl⟩ := HC.out.1.sl hvm
      obtain ⟨gl, capl, curl, e, k1, k2, k3, k4, k5⟩ := HC.out.1.at hvm
      injection e with e1 e2 e3
      clear e2
      subst e1 e3
      have hgl := lt_of_some k1
      have c1 : wr.cell? ⟨gl, i * 2, none⟩ = some (.slice A n c) := (HT.out.cell (p := ⟨gl, i * 2, none⟩) hgl).trans ((cell_of_row w gl _ _ _ _ k1).trans k3)
      have c2 : wr.cell? ⟨gl, i * 2 + 1, none⟩ = some (.int .i64 m) := (HT.out.cell (p := ⟨gl, i * 2 + 1, none⟩) hgl).trans ((cell_of_row w gl _ _ _ _ k1).trans k4)
      have i1 : (0 : Int) ≤ (i : Int) := by omega
      have i2 : (i : Int) < (N : Int) := by omega
      have i3 : (0 : Int) ≤ (n : Int) := by omega
      have HI := Lib.hid (And.intro hvm hi)
      have hnl2 : n ≤ 2000003 := Nat.le_trans hnl HC.out.2.2
      have hx1 : (wr.alloc (.cells #[.slice none 0 0, .int .i64 0] 108)).heap[wr.heap.size]? = some (.cells #[.slice none 0 0, .int .i64 0] 108 (0, 0)) := heap_alloc_new wr _
      obtain ⟨w2, hw2⟩ : ∃ w2, w2 = (wr.alloc (.cells #[.slice none 0 0, .int .i64 0] 108)).setRow wr.heap.size (over #[.slice none 0 0, .int .i64 0] 0 #[.slice A n c, .int .i64 m]) := ⟨_, rfl⟩
      have hx2 : w2.heap[wr.heap.size]? = some (.cells #[.slice A n c, .int .i64 m] 108 (0, 0)) := by
        rw [hw2]
        exact (setRow_same hx1).trans (congrArg (fun z => some (Obj.cells z 108 (0, 0))) (over_full rfl))
      have hb2 : Below w.heap.size w w2 := by
        rw [hw2]
        exact below_setRow (HT.out.alloc HT.out.size _) HT.out.size
      have hszw : wr.heap.size < w2.heap.size := lt_of_some hx2
      have hcs : (Tryz.prog.info? 108).map (·.size) = some 2 := by kernel_rfl
      have hon : ∀ u ∈ (#[.slice A n c, .int .i64 m] : Array Value).toList, u.oneCell' = true := by simp [Value.oneCell']
      have HX := Lib.hid (And.intro hx1 (And.intro hw2 (And.intro hx2 (And.intro hb2 (And.intro hcs hon)))))
      have d1 : w2.cell? ⟨wr.heap.size, 0, none⟩ = some (.slice A n c) := (cell_of_row w2 _ _ _ _ _ hx2).trans rfl
      clear hvm k1 k2 k3 k4 k5 hnl hi hx1 hw2 hx2 hb2 hgl hszw hcs hon
      go_wp2_with (first | (rw [← HX.out.2.1]) | (with_reducible refine wpList_store_part rfl 108 _ _ rfl rfl wr.heap.size 0 2 rfl 108 _ _ rfl HX.out.1 HX.out.2.2.2.2.1 rfl (by simp) HX.out.2.2.2.2.2 ?_))
      go_loopg [19] n (fun k v19 wr => ∃ q : Nat, v19 = .int .i64 (q : Int) ∧ q + k = n ∧ Hid (Below w2.heap.size w2 wr))
      case atStart => exact ⟨0, rfl, by simp, Lib.hid (Below.refl _ _)⟩
      case round =>
        obtain ⟨q, rfl, hqk, HQ⟩ := hrel
        have HX2 := Lib.hid (And.intro HX.out.2.2.1 HX.out.2.2.2.1)
        clear HX c1 c2 d1
        by_cases hq : q < n
        · obtain ⟨g, o, cur, rfl, k1, k2, k3, k4, k5, k6⟩ := HC.out.1.elem HI.out.1 (by omega)
          have hy : cur[o + q]? = some (.int .i64 (wrap64 (-1000 - m))) := by
            have h6 := k6 q (by rw [Nat.min_eq_right (by omega)]; exact hq)
            have k2 : o + n * 1 ≤ cur.size := k2
            have h7 := congrArg (fun a => a[0]?) h6
            simp only [Array.getElem?_extract] at h7
            rw [if_pos (by show 0 < min (o + q * 1 + 1) cur.size - (o + q * 1); omega)] at h7
            have h8 : cur[o + q * 1 + 0]? = some (.int .i64 (wrap64 (-1000 - m))) := h7
            rwa [Nat.mul_one, Nat.add_zero] at h8
          have hgw := lt_of_some k1
          have c3 : wr.cell? ⟨g, o + q, none⟩ = some (.int .i64 (wrap64 (-1000 - m))) := ((HX2.out.2.trans (HQ.out.mono HX2.out.2.size)).cell (p := ⟨g, o + q, none⟩) hgw).trans ((cell_of_row w g _ _ _ _ k1).trans hy)
          have c4 : wr.cell? ⟨_, 1, none⟩ = some (.int .i64 m) := (cell_of_row wr _ _ _ _ _ ((HQ.out.block _ (lt_of_some HX2.out.1)).trans HX2.out.1)).trans rfl
          have M := isNumber m wr
          obtain ⟨y, hy2⟩ : ∃ y, y = wrap64 (-1000 - m) := ⟨_, rfl⟩
          rw [← hy2] at c3 M
          have i4 : (0 : Int) ≤ (q : Int) := by omega
          have i5 : (q : Int) < (n : Int) := by omega
          have HQL := Lib.hid hq
          clear k1 k2 k3 k4 k5 k6 hy hgw hy2 hq
          go_wp2_with fail
          refine M.mono ?_
          rintro e w' ⟨rfl, rfl⟩
          go_wp2_with fail
          go_roundg (n - (q + 1))
          case measure => have := HQL.out; omega
          case rel => exact ⟨q + 1, by go_num, by have := HQL.out; omega, HQ⟩
        · obtain rfl : q = n := by omega
          have HE := Lib.hid (HX2.out.2.trans (HQ.out.mono HX2.out.2.size))
          clear hq
          go_wp2_with fail
          go_roundg (N - (i + 1))
          case measure => have := HI.out.2; omega
          case rel => exact ⟨i + 1, by go_num, by have := HI.out.2; omega, HE⟩
    · obtain rfl : i = N := by omega
      go_wp2_with fail
      go_ret
      exact ⟨rfl, HT.out⟩
end Go.Proofs.YtenaljhkdnhgpaaGreatDoor.Bk
