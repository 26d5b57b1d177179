/- The walk of TermNone, lives' answer given. -/
import Derived.Test.YtbngiimhkgdjeaaSame
namespace Go.Proofs.Ytbngiimhkgdjeaa
open Go.RowKit

theorem none_nil (w : World) : ∀ w1, Below w.heap.size w w1 → Calls Try.prog 29 #[.pointer none] w1 fun e w' => e = .returned (.bool false) ∧ w1 = w' := fun w1 _ => made_nil w1
set_option maxHeartbeats 2000000 in
set_option maxRecDepth 100000 in
theorem termNone (k n a b x : Int) (hlv : ∀ w, Calls Try.prog 12 #[] w fun e w' => e = .returned (.bool true) ∧ Below w.heap.size w w') (w : World) :
    Calls Try.prog 5 #[.agg #[.int .u8 k, .int .i64 n, .int .i64 a, .int .i64 b], .int .i64 x] w fun e w' => e = .returned (.bool true) ∧ Below w.heap.size w w' := by
  go_enter Try.func5, Try.ntmps5
  go_wp2_with fail
  have hb0 : Below w.heap.size w (w.alloc (.cells #[.int .u8 k, .int .i64 n, .int .i64 a, .int .i64 b] 30)) := (Below.refl _ _).alloc (Nat.le_refl _) _
  have hx0 : (w.alloc (.cells #[.int .u8 k, .int .i64 n, .int .i64 a, .int .i64 b] 30)).heap[w.heap.size]? = some (.cells #[.int .u8 k, .int .i64 n, .int .i64 a, .int .i64 b] 30 (0, 0)) := heap_alloc_new w _
  go_loopw [6] (fun v6 wr => ∃ i : Nat, i ≤ 2 ∧ v6 = .int .i64 i ∧ Hid (Below w.heap.size w wr ∧ wr.heap[w.heap.size]? = some (.cells #[.int .u8 k, .int .i64 n, .int .i64 a, .int .i64 b] 30 (0, 0)))) (fun v6 _ => 3 - (intOf v6).toNat)
  case atStart => exact ⟨0, by omega, rfl, Lib.hid ⟨hb0, hx0⟩⟩
  case round =>
    obtain ⟨i, hi, rfl, HI⟩ := hrel
    clear hb0 hx0
    rcases (show i = 0 ∨ i = 1 ∨ i = 2 by omega) with rfl | rfl | rfl
    · have x0 : wr.cell? ⟨w.heap.size, 0, none⟩ = some (.int .u8 k) := by rw [cell_of_row wr _ 0 _ _ _ HI.out.2]; rfl
      have x1 : wr.cell? ⟨w.heap.size, 1, none⟩ = some (.int .i64 n) := by rw [cell_of_row wr _ 1 _ _ _ HI.out.2]; rfl
      have x2 : wr.cell? ⟨w.heap.size, 2, none⟩ = some (.int .i64 a) := by rw [cell_of_row wr _ 2 _ _ _ HI.out.2]; rfl
      have x3 : wr.cell? ⟨w.heap.size, 3, none⟩ = some (.int .i64 b) := by rw [cell_of_row wr _ 3 _ _ _ HI.out.2]; rfl
      go_wp2_with fail
      refine (make_no (.pointer none) k n a b wr (none_nil _)).mono ?_
      rintro e w1 ⟨rfl, b1⟩
      go_wp2_with (first | (go_at_call 17; with_reducible refine (list_no _ _ _ (made_nil _)).mono ?_; rintro e w' ⟨rfl, rfl⟩) | (go_at_call 19; with_reducible refine (data_no _ _ _ (made_nil _)).mono ?_; rintro e w' ⟨rfl, rfl⟩))
      refine (get_no (.pointer none) x _ (none_nil _)).mono ?_
      rintro e w2 ⟨rfl, b2⟩
      go_wp2_with (first | (go_at_call 25; with_reducible refine (len_no _ _ (made_nil _)).mono ?_; rintro e w' ⟨rfl, rfl⟩) | (go_at_call 11; with_reducible refine (dag_no _ _ _ (made_nil _)).mono ?_; rintro e w' ⟨rfl, rfl⟩))
      have B1 := HI.out.1.trans (b1.mono HI.out.1.size)
      have B1' := B1.alloc B1.size (.cells #[.int .i64 1] 2)
      have B2 := B1'.trans (b2.mono B1'.size)
      have X1 := (b1.block _ (lt_of_some HI.out.2)).trans HI.out.2
      have X1' := (Below.heap_alloc w1 (.cells #[.int .i64 1] 2) _ (lt_of_some X1)).trans X1
      have X2 := (b2.block _ (lt_of_some X1')).trans X1'
      exact ⟨⟨1, by omega, rfl, Lib.hid ⟨B2.alloc B2.size _, (Below.heap_alloc w2 _ _ (lt_of_some X2)).trans X2⟩⟩, by simp [intOf]⟩
    · have bb := HI.out.1.alloc HI.out.1.size (.cells #[.slice none 0 0, .map none] 57)
      have xx := (Below.heap_alloc wr (.cells #[.slice none 0 0, .map none] 57) _ (lt_of_some HI.out.2)).trans HI.out.2
      have gg : (wr.alloc (.cells #[.slice none 0 0, .map none] 57)).heap[wr.heap.size]? = some (.cells #[.slice none 0 0, .map none] 57 (0, 0)) := heap_alloc_new wr _
      have hU : ∀ w1, Below (wr.alloc (.cells #[.slice none 0 0, .map none] 57)).heap.size (wr.alloc (.cells #[.slice none 0 0, .map none] 57)) w1 → Calls Try.prog 29 #[.pointer (some ⟨wr.heap.size, 0, none⟩)] w1 fun e w' => e = .returned (.bool false) ∧ w1 = w' := fun w1 h1 =>
        made_un _ w1 (by rw [cell_of_row w1 _ 1 _ _ _ ((h1.block _ (lt_of_some gg)).trans gg)]; rfl)
      have x0 : (wr.alloc (.cells #[.slice none 0 0, .map none] 57)).cell? ⟨w.heap.size, 0, none⟩ = some (.int .u8 k) := by rw [cell_of_row _ _ 0 _ _ _ xx]; rfl
      have x1 : (wr.alloc (.cells #[.slice none 0 0, .map none] 57)).cell? ⟨w.heap.size, 1, none⟩ = some (.int .i64 n) := by rw [cell_of_row _ _ 1 _ _ _ xx]; rfl
      have x2 : (wr.alloc (.cells #[.slice none 0 0, .map none] 57)).cell? ⟨w.heap.size, 2, none⟩ = some (.int .i64 a) := by rw [cell_of_row _ _ 2 _ _ _ xx]; rfl
      have x3 : (wr.alloc (.cells #[.slice none 0 0, .map none] 57)).cell? ⟨w.heap.size, 3, none⟩ = some (.int .i64 b) := by rw [cell_of_row _ _ 3 _ _ _ xx]; rfl
      have GG := Lib.hid gg
      have BB := Lib.hid bb
      have XX := Lib.hid xx
      clear gg bb xx
      go_wp2_with fail
      refine (make_no _ k n a b _ hU).mono ?_
      rintro e w1 ⟨rfl, b1⟩
      have hU1 := hU _ b1
      have b1a := b1.alloc b1.size (.cells #[.int .i64 1] 2)
      have hU2 := hU _ b1a
      go_wp2_with (first | (go_at_call 17; with_reducible refine (list_no _ _ _ hU1).mono ?_; rintro e w' ⟨rfl, rfl⟩) | (go_at_call 19; with_reducible refine (data_no _ _ _ hU2).mono ?_; rintro e w' ⟨rfl, rfl⟩))
      refine (get_no _ x _ (fun w2 h2 => hU _ (b1a.trans (h2.mono b1a.size)))).mono ?_
      rintro e w2 ⟨rfl, b2⟩
      have b2a := b1a.trans (b2.mono b1a.size)
      have b2b := b2a.alloc b2a.size (.cells #[.int .u8 0, .int .i64 0, .int .i64 0, .int .i64 0] 30)
      have hU3 := hU _ b2b
      go_wp2_with (first | (go_at_call 25; with_reducible refine (len_no _ _ hU3).mono ?_; rintro e w' ⟨rfl, rfl⟩) | (go_at_call 11; with_reducible refine (dag_no _ _ _ hU3).mono ?_; rintro e w' ⟨rfl, rfl⟩))
      exact ⟨⟨2, by omega, rfl, Lib.hid ⟨BB.out.trans (b2b.mono BB.out.size), (b2b.block _ (lt_of_some XX.out)).trans XX.out⟩⟩, by simp [intOf]⟩
    · go_wp2_with (go_at_call 12; with_reducible refine (hlv _).mono ?_; rintro e w1 ⟨rfl, b1⟩)
      go_ret
      exact ⟨rfl, HI.out.1.trans (b1.mono HI.out.1.size)⟩
end Go.Proofs.Ytbngiimhkgdjeaa
