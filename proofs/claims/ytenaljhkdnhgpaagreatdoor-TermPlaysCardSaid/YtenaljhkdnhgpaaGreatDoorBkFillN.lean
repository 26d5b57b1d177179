/- The book: all lists of numbers are written over. -/
import Derived.Test.YtenaljhkdnhgpaaGreatDoorLib
import Derived.Test.YtenaljhkdnhgpaaGreatDoorPhase
namespace Go.Proofs.YtenaljhkdnhgpaaGreatDoor.Bk
open Go Go.RowKit
set_option linter.unusedVariables false
set_option linter.unusedSimpArgs false

def kdNumber : KD := ⟨108, 3, 1, fun m => #[.int .i64 (wrap64 (-1000 - m))], by decide, fun _ => rfl, fun m => by simp [Value.oneCell']⟩
theorem markNumber (n : Int) (w : World) : Calls Tryz.prog 149 #[.int .i64 n] w fun e w' => e = .returned (.int .i64 (wrap64 (-1000 - n))) ∧ w' = w := by
  go_enter Tryz.func149, Tryz.ntmps149
  go_wp2
  go_ret
  exact ⟨rfl, rfl⟩
set_option maxHeartbeats 4000000 in
set_option maxRecDepth 100000 in
theorem fillNumber {w : World} {B : Nat} {F : Nat → Prop} {lv : Value} {hs : List (Value × Int)} {lim kf : Nat → Nat} (bb : Nat) (bc : Array Value) (h : HL kdNumber w B F lv hs lim kf) (hb : w.heap[bb]? = some (.cells bc 66 (0, 0))) (hl : bc[2]? = some lv) (hFb : ¬ F bb) (hn : hs.length ≤ 1000000) (hlim : ∀ i, lim i ≤ 2000000) (hF : ∀ b, F b → b < w.heap.size) :
    Calls Tryz.prog 35 #[.pointer (some ⟨bb, 0, none⟩)] w fun e w' => e = .returned (.tuple #[]) ∧ HL kdNumber w' B F lv hs lim (fun _ => 4000000) ∧ Chg F w w' := by
  obtain ⟨A0, c0, rfl⟩ := h.slice
  have l1 : w.cell? ⟨bb, 2, none⟩ = some (.slice A0 hs.length c0) := (cell_of_row w bb _ _ _ _ hb).trans hl
  have H0 : Hid (HL kdNumber w B F (.slice A0 hs.length c0) hs lim (fun j => if j < 0 then 4000000 else 0) ∧ Chg F w w) := Lib.hid ⟨h.less fun j _ => by simp, Chg.refl _ _⟩
  have HC := Lib.hid (And.intro hb (And.intro hl (And.intro hFb (And.intro hlim hF))))
  have hi0 : (0 : Int) ≤ (hs.length : Int) := by omega
  clear h hb hl hFb hlim hF
  go_enter Tryz.func35, Tryz.ntmps35
  go_wp2_with fail
  go_loopg [10] hs.length (fun k v10 wr => ∃ i : Nat, v10 = .int .i64 (i : Int) ∧ i + k = hs.length ∧ Hid (HL kdNumber wr B F (.slice A0 hs.length c0) hs lim (fun j => if j < i then 4000000 else 0) ∧ Chg F w wr))
  case atStart => exact ⟨0, rfl, by simp, H0⟩
  case round =>
    clear H0 l1
    obtain ⟨i, rfl, hik, HT⟩ := hrel
    have l1 : wr.cell? ⟨bb, 2, none⟩ = some (.slice A0 hs.length c0) := (cell_of_row wr bb _ _ _ _ (HT.out.2.keep HC.out.1 HC.out.2.2.1)).trans HC.out.2.1
    by_cases hi : i < hs.length
    · obtain ⟨⟨v, m⟩, hvm⟩ : ∃ x, hs[i]? = some x := ⟨hs[i], List.getElem?_eq_getElem hi⟩
      obtain ⟨A, n, c, rfl, hnl⟩ := HT.out.1.sl hvm
      obtain ⟨gl, capl, curl, e, k1, k2, k3, k4, k5⟩ := HT.out.1.at hvm
      injection e with e1 _ e3
      subst e1 e3
      have l2 : wr.cell? ⟨gl, i * 2, none⟩ = some (.slice A n c) := (cell_of_row wr gl _ _ _ _ k1).trans k3
      have i1 : (0 : Int) ≤ (i : Int) := by omega
      have i2 : (i : Int) < (hs.length : Int) := by omega
      have i3 : (0 : Int) ≤ (n : Int) := by omega
      have HI := Lib.hid (And.intro hvm hi)
      have hnl2 : n ≤ 2000000 := Nat.le_trans hnl (HC.out.2.2.2.1 i)
      clear hvm k1 k2 k3 k4 k5 hnl hi
      go_wp2_with fail
      go_loopg [24] n (fun k v24 wr => ∃ q : Nat, v24 = .int .i64 (q : Int) ∧ q + k = n ∧ Hid (HL kdNumber wr B F (.slice (some ⟨gl, 0, none⟩) hs.length c0) hs lim (fun j => if j < i then 4000000 else if j = i then q else 0) ∧ Chg F w wr))
      case atStart => exact ⟨0, rfl, by simp, Lib.hid ⟨HT.out.1.less fun j _ => by
        show (if j < i then 4000000 else if j = i then 0 else 0) ≤ if j < i then 4000000 else 0
        split
        · exact Nat.le_refl _
        · split <;> exact Nat.le_refl _, HT.out.2⟩⟩
      case round =>
        clear HT l1 l2
        obtain ⟨q, rfl, hqk, HQ⟩ := hrel
        by_cases hq : q < n
        · obtain ⟨g, o, cur, rfl, k1, k2, k3, k4, k5, k6⟩ := HQ.out.1.elem HI.out.1 (by omega)
          obtain ⟨gl', capl', curl, e, p1, p2, p3, p4, p5⟩ := HQ.out.1.at HI.out.1
          injection e with e1 _ e3
          injection e1 with e1
          injection e1 with e1
          subst e1 e3
          obtain ⟨y, hy⟩ : ∃ y, cur[o + q]? = some y := ⟨cur[o + q]'(by have : o + n * 1 ≤ cur.size := k2; omega), Array.getElem?_eq_getElem _⟩
          have hcc : ∀ w' : World, w'.heap[gl]? = wr.heap[gl]? → w'.heap[g]? = wr.heap[g]? → w'.cell? ⟨gl, i * 2, none⟩ = some (.slice (some ⟨g, o, none⟩) n c) ∧ w'.cell? ⟨gl, i * 2 + 1, none⟩ = some (.int .i64 m) ∧ w'.cell? ⟨g, o + q, none⟩ = some y ∧ w'.frozen? ⟨g, o + q, none⟩ = false := fun w' e1 e2 =>
            ⟨(cell_of_row w' gl _ _ _ _ (e1.trans p1)).trans p3, (cell_of_row w' gl _ _ _ _ (e1.trans p1)).trans p4, (cell_of_row w' g _ _ _ _ (e2.trans k1)).trans hy, frozen_of_row w' g _ _ _ (e2.trans k1)⟩
          obtain ⟨c1, c2, c3, c4⟩ := hcc wr rfl rfl
          have HH := Lib.hid (And.intro hcc (And.intro k1 (And.intro k2 (And.intro k3 hy))))
          have HQL := Lib.hid hq
          have i4 : (0 : Int) ≤ (q : Int) := by omega
          have i5 : (q : Int) < (n : Int) := by omega
          clear k1 k2 k3 k4 k5 k6 p1 p2 p3 p4 p5 hy hcc
          go_wp2_with fail
          refine Go.Proofs.Phase.wp_region_ph (S := (fun w' => w'.cell? ⟨gl, i * 2, none⟩ = some (.slice (some ⟨g, o, none⟩) n c) ∧ w'.cell? ⟨gl, i * 2 + 1, none⟩ = some (.int .i64 m) ∧ w'.cell? ⟨g, o + q, none⟩ = some y ∧ w'.frozen? ⟨g, o + q, none⟩ = false)) 11 (by kernel_rfl) ?_ (fun hHeld => ?_)
          · ((try dsimp only) <;> (first | assumption | exact HH.out.1 _ rfl rfl))
          refine Go.Proofs.Phase.wpPh_take' (i := 0) (by simp only [List.getElem?_toArray, List.getElem?_cons_succ, List.getElem?_cons_zero]; rfl) ?_
          refine ⟨?_, ⟨by kernel_rfl, by kernel_rfl, by kernel_rfl, by kernel_rfl⟩, fun _ _ _ h => h, Or.inl ⟨by rfl, ?_⟩, by assumption, ?_⟩
          rotate_left
          · (intro w hSw; (try dsimp only at hSw); go_simp; with_reducible rfl)
          try simp only [Act.put, List.setIfInBounds_toArray, List.set_cons_zero, List.set_cons_succ]
          refine Go.Proofs.Phase.wpPh_take' (i := 1) (by simp only [List.getElem?_toArray, List.getElem?_cons_succ, List.getElem?_cons_zero]; rfl) ?_
          refine ⟨?_, ⟨by kernel_rfl, by kernel_rfl, by kernel_rfl, by kernel_rfl⟩, fun _ _ _ h => h, Or.inl ⟨by rfl, ?_⟩, by assumption, ?_⟩
          rotate_left
          · (intro w hSw; (try dsimp only at hSw); go_simp; with_reducible rfl)
          try simp only [Act.put, List.setIfInBounds_toArray, List.set_cons_zero, List.set_cons_succ]
          refine Go.Proofs.Phase.wpPh_take' (i := 2) (by simp only [List.getElem?_toArray, List.getElem?_cons_succ, List.getElem?_cons_zero]; rfl) ?_
          refine ⟨?_, ⟨by kernel_rfl, by kernel_rfl, by kernel_rfl, by kernel_rfl⟩, fun _ _ _ h => h, Or.inl ⟨by rfl, ?_⟩, by assumption, ?_⟩
          rotate_left
          · (intro w hSw; (try dsimp only at hSw); go_simp; with_reducible rfl)
          try simp only [Act.put, List.setIfInBounds_toArray, List.set_cons_zero, List.set_cons_succ]
          refine Go.Proofs.Phase.wpPh_take' (i := 3) (by simp only [List.getElem?_toArray, List.getElem?_cons_succ, List.getElem?_cons_zero]; rfl) ?_
          refine ⟨?_, ⟨by kernel_rfl, by kernel_rfl, by kernel_rfl, by kernel_rfl⟩, fun _ _ _ h => h, Or.inl ⟨by rfl, ?_⟩, by assumption, ?_⟩
          rotate_left
          · (intro w hSw; (try dsimp only at hSw); go_simp; with_reducible rfl)
          try simp only [Act.put, List.setIfInBounds_toArray, List.set_cons_zero, List.set_cons_succ]
          refine Go.Proofs.Phase.wpPh_take' (i := 4) (by simp only [List.getElem?_toArray, List.getElem?_cons_succ, List.getElem?_cons_zero]; rfl) ?_
          refine ⟨?_, ⟨by kernel_rfl, by kernel_rfl, by kernel_rfl, by kernel_rfl⟩, fun _ _ _ h => h, Or.inl ⟨by rfl, ?_⟩, by assumption, ?_⟩
          rotate_left
          · (intro w hSw; (try dsimp only at hSw); go_simp; with_reducible rfl)
          try simp only [Act.put, List.setIfInBounds_toArray, List.set_cons_zero, List.set_cons_succ]
          refine Go.Proofs.Phase.wpPh_take' (i := 5) (by simp only [List.getElem?_toArray, List.getElem?_cons_succ, List.getElem?_cons_zero]; rfl) ?_
          refine ⟨?_, ⟨by kernel_rfl, by kernel_rfl, by kernel_rfl, by kernel_rfl⟩, fun _ _ _ h => h, Or.inl ⟨by rfl, ?_⟩, by assumption, ?_⟩
          rotate_left
          · (intro w hSw; (try dsimp only at hSw); go_simp; with_reducible rfl)
          try simp only [Act.put, List.setIfInBounds_toArray, List.set_cons_zero, List.set_cons_succ]
          refine Go.Proofs.Phase.wpPh_take' (i := 6) (by simp only [List.getElem?_toArray, List.getElem?_cons_succ, List.getElem?_cons_zero]; rfl) ?_
          refine ⟨?_, ⟨by kernel_rfl, by kernel_rfl, by kernel_rfl, by kernel_rfl⟩, fun _ _ _ h => h, Or.inl ⟨by rfl, ?_⟩, by assumption, ?_⟩
          rotate_left
          · (intro w hSw; (try dsimp only at hSw); go_simp; with_reducible rfl)
          try simp only [Act.put, List.setIfInBounds_toArray, List.set_cons_zero, List.set_cons_succ]
          refine Go.Proofs.Phase.wpPh_take' (i := 7) (by simp only [List.getElem?_toArray, List.getElem?_cons_succ, List.getElem?_cons_zero]; rfl) ?_
          refine ⟨?_, ⟨by kernel_rfl, by kernel_rfl, by kernel_rfl, by kernel_rfl⟩, fun _ _ _ h => h, Or.inl ⟨by rfl, ?_⟩, by assumption, ?_⟩
          rotate_left
          · (intro w hSw; (try dsimp only at hSw); go_simp; with_reducible rfl)
          try simp only [Act.put, List.setIfInBounds_toArray, List.set_cons_zero, List.set_cons_succ]
          refine Go.Proofs.Phase.wpPh_take' (i := 8) (by simp only [List.getElem?_toArray, List.getElem?_cons_succ, List.getElem?_cons_zero]; rfl) ?_
          refine ⟨?_, ⟨by kernel_rfl, by kernel_rfl, by kernel_rfl, by kernel_rfl⟩, fun _ _ _ h => h, Or.inl ⟨by rfl, ?_⟩, by assumption, ?_⟩
          rotate_left
          · (intro w hSw; (try dsimp only at hSw); go_simp; with_reducible rfl)
          try simp only [Act.put, List.setIfInBounds_toArray, List.set_cons_zero, List.set_cons_succ]
          refine Go.Proofs.Phase.wpPh_before (i := 9) (by kernel_rfl) (by simp only [List.getElem?_toArray, List.getElem?_cons_succ, List.getElem?_cons_zero]; rfl) (fun K hK => ?_)
          go_simp
          ((first | ((with_reducible refine (markNumber m _).mono ?_); rintro e w' ⟨rfl, rfl⟩)))
          go_wp2_with fail
          refine hK.out _ _ ?_ (fun hHeldN => ?_)
          · ((try dsimp only) <;> (first | assumption | exact HH.out.1 _ rfl rfl))
          clear hHeld
          have hHeld := hHeldN
          clear hHeldN
          clear hK K
          try simp only [Act.put, List.setIfInBounds_toArray, List.set_cons_zero, List.set_cons_succ]
          refine Go.Proofs.Phase.wpPh_take' (i := 10) (by simp only [List.getElem?_toArray, List.getElem?_cons_succ, List.getElem?_cons_zero]; rfl) ?_
          refine ⟨?_, ⟨by kernel_rfl, by kernel_rfl, by kernel_rfl, by kernel_rfl⟩, fun _ _ _ h => h, Or.inl ⟨by rfl, ?_⟩, by assumption, ?_⟩
          rotate_left
          · (intro w hSw; (try dsimp only at hSw); go_simp; with_reducible rfl)
          try simp only [Act.put, List.setIfInBounds_toArray, List.set_cons_zero, List.set_cons_succ]
          refine Go.Proofs.Phase.wpPh_behind (i := 11) (by kernel_rfl) (by simp only [List.getElem?_toArray, List.getElem?_cons_succ, List.getElem?_cons_zero]; rfl) (by kernel_rfl) (fun K hK => ?_)
          go_simp
          refine hK.out _ _ ?_
          clear hK K
          try simp only [Act.put, List.setIfInBounds_toArray, List.set_cons_zero, List.set_cons_succ]
          refine Go.Proofs.Phase.wpPh_done (by kernel_rfl) ?_ _
          have hN : HL kdNumber ((wr.setCell ⟨g, o + q, none⟩ (.int .i64 (wrap64 (-1000 - m)))).drew) B F (.slice (some ⟨gl, 0, none⟩) hs.length c0) hs lim (fun j => if j < i then 4000000 else if j = i then q + 1 else 0) ∧ Chg F w ((wr.setCell ⟨g, o + q, none⟩ (.int .i64 (wrap64 (-1000 - m)))).drew) := by
            obtain ⟨hcc, k1, k2, k3, hy⟩ := HH.out
            have hz := heap_setCell_same wr g (o + q) _ _ (.int .i64 (wrap64 (-1000 - m))) k1
            have k2 : o + n * 1 ≤ cur.size := k2
            have hq := HQL.out
            have hw := HQ.out.1.write (w' := (wr.setCell ⟨g, o + q, none⟩ (.int .i64 (wrap64 (-1000 - m)))).drew) (k := q) (cur' := cur.setIfInBounds (o + q) (.int .i64 (wrap64 (-1000 - m)))) HI.out.1 k1 (by rw [if_neg (Nat.lt_irrefl i), if_pos rfl]; exact Nat.le_refl _) hq (by simp) (by
              show (cur.setIfInBounds (o + q) _).extract (o + q * 1) (o + q * 1 + 1) = #[.int .i64 (wrap64 (-1000 - m))]
              rw [Nat.mul_one]
              apply Array.ext_getElem?
              intro j
              rw [Array.getElem?_extract]
              by_cases hj : j < 1
              · obtain rfl : j = 0 := by omega
                rw [if_pos (by simp; omega), Nat.add_zero, Array.getElem?_setIfInBounds_self_of_lt (by omega)]
                rfl
              · rw [if_neg (by simp; omega), Array.getElem?_eq_none (by simp; omega)]) (fun j hj => by
              show (cur.setIfInBounds (o + q) _).extract (o + j * 1) (o + j * 1 + 1) = cur.extract (o + j * 1) (o + j * 1 + 1)
              rw [Nat.mul_one]
              apply Array.ext_getElem?
              intro x
              rw [Array.getElem?_extract, Array.getElem?_extract, Array.size_setIfInBounds]
              split
              · rw [Array.getElem?_setIfInBounds_ne (by omega)]
              · rfl) hz (Chg.setCell (X := (· = g)) wr ⟨g, o + q, none⟩ _ rfl |>.trans (Chg.of_below (Below.refl _ _).drew))
            refine ⟨hw.less fun j _ => ?_, HQ.out.2.trans (Chg.setCell (X := F) wr ⟨g, o + q, none⟩ _ k3 |>.trans (Chg.of_below (Below.refl _ _).drew))⟩
            show (if j < i then 4000000 else if j = i then q + 1 else 0) ≤ if j = i then q + 1 else if j < i then 4000000 else if j = i then q else 0
            by_cases e : j = i
            · subst e; simp
            · rw [if_neg e, if_neg e, if_neg e]; exact Nat.le_refl _
          have HN := Lib.hid hN
          clear hN
          go_wp2_with fail
          go_roundg (n - (q + 1))
          case measure => have := HQL.out; omega
          case rel => exact ⟨q + 1, by go_num, by have := HQL.out; omega, HN⟩
        · obtain rfl : q = n := by omega
          have HE : Hid (HL kdNumber wr B F (.slice (some ⟨gl, 0, none⟩) hs.length c0) hs lim (fun j => if j < i + 1 then 4000000 else 0) ∧ Chg F w wr) := Lib.hid ⟨HQ.out.1.fin HI.out.1 (by rw [if_neg (Nat.lt_irrefl i), if_pos rfl]; exact Nat.le_refl _) fun j hj => by
            by_cases h1 : j < i
            · rw [if_pos h1, if_pos (by omega)]
            · rw [if_neg h1, if_neg hj, if_neg (by omega)], HQ.out.2⟩
          clear hq HQ
          go_wp2_with fail
          go_roundg (hs.length - (i + 1))
          case measure => have := HI.out.2; omega
          case rel => exact ⟨i + 1, by go_num, by have := HI.out.2; omega, HE⟩
    · obtain rfl : i = hs.length := by omega
      go_wp2_with fail
      go_end0
      exact ⟨rfl, HT.out.1.less fun j hj => by rw [if_pos hj]; exact Nat.le_refl _, HT.out.2⟩
end Go.Proofs.YtenaljhkdnhgpaaGreatDoor.Bk
