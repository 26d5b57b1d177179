/- NetNone. -/
import Derived.Test.YthahadhdhpcndaaOpens
namespace Go.Proofs.Ythahadhdhpcndaa
open Go Go.RowKit

set_option maxHeartbeats 8000000 in
set_option maxRecDepth 100000 in
theorem netNone (c : Array Value) (d : PackD) (i : Int) (w : World) (h : RdP (fun _ => True) w c d) (hb : BdF d.d) :
    Calls Try.prog 5 #[.agg c, .int .i64 i] w fun e w' => e = .returned (.bool true) ∧ Below w.heap.size w w' := by
  obtain ⟨m, hrow, hm⟩ := h.out
  have hc57 := h.size
  have hb1 : Below w.heap.size w (w.alloc (.cells c 44)) := (Below.refl _ _).alloc (Nat.le_refl _) _
  have x1 : (w.alloc (.cells c 44)).heap[w.heap.size]? = some (.cells c 44 (0, 0)) := heap_alloc_new w _
  have hpart : c.extract 4 (4 + 53) = m := by rw [hrow, d.partF m hm.size]
  have hall : c.extract 0 (0 + 57) = c := by rw [show 0 + 57 = c.size by rw [hc57]]; exact Array.extract_size
  have hkeep : ∀ w', Below (w.heap.size + 1) (w.alloc (.cells c 44)) w' → w'.heap[w.heap.size]? = some (.cells c 44 (0, 0)) := fun w' hw => (hw.block _ (by omega)).trans x1
  have M1 := size10 m d.d (w.alloc (.cells c 44)) (hm.keep (Kn.of_below hb1)) hb
  obtain ⟨z44, hz44⟩ : ∃ z : Array Value, z = #[.int .i64 0, .int .i64 0, .bool false, .int .i64 0, .int .u8 0, .int .i64 0, .int .i64 0, .int .i64 0, .int .i64 0, .int .i64 0, .int .i64 0, .int .i64 0, .bool false, .slice none 0 0, .slice none 0 0, .slice none 0 0, .slice none 0 0, .int .i64 0, .int .i64 0, .slice none 0 0, .int .i64 0, .int .i64 0, .int .u8 0, .int .i64 0, .int .i64 0, .int .i64 0, .int .i64 0, .int .i64 0, .bool false, .slice none 0 0, .slice none 0 0, .slice none 0 0, .slice none 0 0, .int .i64 0, .int .i64 0, .slice none 0 0, .int .i64 0, .int .i64 0, .int .i64 0, .int .i64 0, .int .i64 0, .int .i64 0, .int .i64 0, .int .i64 0, .int .i64 0, .slice none 0 0, .int .i64 0, .int .i64 0, .int .i64 0, .int .i64 0, .int .i64 0, .int .i64 0, .int .i64 0, .int .i64 0, .int .i64 0, .int .i64 0, .int .i64 0] := ⟨_, rfl⟩
  have hzs : z44.size = 57 := by rw [hz44]; rfl
  have HZ := Lib.hid (And.intro hz44 hzs)
  have HX := Lib.hid (And.intro hc57 (And.intro hall (And.intro hpart (And.intro hkeep (And.intro x1 hb1)))))
  clear hz44 hzs hrow hm hc57 hall hpart hkeep x1 hb1 h hb
  go_enter Try.func5, Try.ntmps5
  go_wp2_with (with_reducible refine wpList_load_part' rfl 42 _ rfl w.heap.size 4 53 rfl 44 c (0, 0) _ HX.out.2.2.2.2.1 Try.underlying42 rfl cells42 (by rw [HX.out.1]; decide) m HX.out.2.2.1 ?_)
  refine M1.mono ?_
  rintro e w2 ⟨n, rfl, q1, q2, _, B1⟩
  have b2 : Below (w.heap.size + 1) (w.alloc (.cells c 44)) w2 := B1.mono (by simp)
  have hsl : Rw (fun _ => True) (w2.alloc (.cells #[.int .i64 n] 3)) 1 (.slice (some ⟨w2.heap.size, 0, none⟩) 1 1) ([n].map (Value.int .i64)) := by
    refine ⟨some ⟨w2.heap.size, 0, none⟩, 1, 1, rfl, rfl, (fun e => by cases e), fun _ => ⟨w2.heap.size, 0, rfl, trivial, by simp, fun j u hj => ?_⟩, by simp [Value.oneCell']⟩
    rw [Nat.zero_add, cell_of_row _ _ j _ _ _ (heap_alloc_new w2 _)]
    simpa using hj
  have M2 := beyond9 (.slice (some ⟨w2.heap.size, 0, none⟩) 1 1) [n] (w2.alloc (.cells #[.int .i64 n] 3)) hsl (by simp)
  have b3 : Below (w.heap.size + 1) (w.alloc (.cells c 44)) (w2.alloc (.cells #[.int .i64 n] 3)) := b2.alloc (by have := b2.size; simp at this; omega) _
  have HB3 := Lib.hid b3
  clear M1 B1 hsl b2 b3
  go_wp2_with fail
  refine M2.mono ?_
  rintro e w' ⟨rfl, b, rfl, _⟩
  clear M2
  have hfin : ∀ w', Below (w.heap.size + 1) (w.alloc (.cells c 44)) w' → Below w.heap.size w w' := fun w' hw => HX.out.2.2.2.2.2.trans (hw.mono (by omega))
  cases b with
  | true =>
    have HF := Lib.hid (hfin _ HB3.out)
    clear hfin
    go_wp2_with fail
    go_ret
    exact ⟨rfl, HF.out⟩
  | false =>
    have HFI := Lib.hid hfin
    clear hfin
    go_wp2_with fail
    go_loopw [6] (fun v6 wr => ∃ k : Nat, k ≤ 2 ∧ v6 = .int .i64 k ∧ Below (w.heap.size + 1) (w.alloc (.cells c 44)) wr) (fun v6 _ => 2 - (intOf v6).toNat)
    case atStart => exact ⟨0, by omega, rfl, HB3.out⟩
    case round =>
      obtain ⟨k, hk, rfl, hB⟩ := hrel
      by_cases hk2 : k = 2
      · subst hk2
        have HF := Lib.hid hB
        clear hB
        go_wp2_with fail
        refine (alive12 wr).mono ?_
        rintro e w3 ⟨rfl, b3⟩
        have HG := Lib.hid (HFI.out _ (HF.out.trans (b3.mono (by have := HF.out.size; simpa using this))))
        clear b3
        go_wp2_with fail
        go_ret
        exact ⟨rfl, HG.out⟩
      · by_cases hk0 : k = 0
        · subst hk0
          obtain ⟨wq, hwq⟩ : ∃ wq, wq = wr := ⟨_, rfl⟩
          have hno : NoNet wq (.pointer none) := .inl rfl
          have hBq : Below (w.heap.size + 1) (w.alloc (.cells c 44)) wq := by rw [hwq]; exact hB
          subst hwq
          clear hB
          have hN : ∀ w', Below wq.heap.size wq w' → NoNet w' (.pointer none) := fun w' hw => hno.below hw
          have hat : ∀ w', Below wq.heap.size wq w' → Calls Try.prog 41 #[.pointer none, .int .i64 i] w' fun e w'' => e = .returned (.int .i64 2) ∧ w'' = w' := fun w' hw => at41no w' _ i (hN w' hw)
          have M1 := deliver17e wq none i 2 (by decide) hat
          have HN := Lib.hid (And.intro hN (And.intro hat hBq))
          clear hN hat hno hBq
          go_wp2_with fail
          refine M1.mono ?_
          rintro e w2 ⟨⟨z, rfl, hz, ho⟩, b2⟩
          have x2 : (w2.alloc (.cells z44 44)).heap[w2.heap.size]? = some (.cells z44 44 (0, 0)) := heap_alloc_new w2 _
          obtain ⟨W3, hW3⟩ : ∃ W, W = (w2.alloc (.cells z44 44)).setRow w2.heap.size (over z44 0 z) := ⟨_, rfl⟩
          have b3 : Below wq.heap.size wq W3 := by rw [hW3]; exact below_setRow (b2.alloc b2.size _) b2.size
          have y3 : W3.heap[w.heap.size]? = some (.cells c 44 (0, 0)) := HX.out.2.2.2.1 W3 (HN.out.2.2.trans (b3.mono (by have := HN.out.2.2.size; simpa using this)))
          have H2 := Lib.hid (And.intro hz (And.intro ho (And.intro x2 (And.intro y3 b3))))
          have HW3 := Lib.hid hW3
          clear M1 hz ho b2 x2 hW3 b3 y3
          go_wp2_with (first | (rw [← HZ.out.1]; with_reducible refine wpList_store_part rfl 44 _ _ rfl rfl _ 0 57 rfl 44 _ _ rfl H2.out.2.2.1 cells44 H2.out.1 (by rw [HZ.out.2]; decide) H2.out.2.1 ?_; rw [← HW3.out]) | (with_reducible refine wpList_load_partg (by simp [Region.wanted, yielded]) 44 _ rfl w.heap.size 0 57 rfl 44 c (0, 0) _ H2.out.2.2.2.1 Try.underlying44 rfl cells44 (by rw [HX.out.1]; decide) c HX.out.2.1 ?_))
          refine (send14no W3 _ c (HN.out.1 W3 H2.out.2.2.2.2)).mono ?_
          rintro e w4 ⟨rfl, b4⟩
          have H4 := Lib.hid (H2.out.2.2.2.2.trans (b4.mono H2.out.2.2.2.2.size))
          clear b4
          go_wp2_with fail
          refine (drop20e w4 none i 2 (by decide) (fun w' hw => HN.out.2.1 w' (H4.out.trans (hw.mono H4.out.size)))).mono ?_
          rintro e w5 ⟨rfl, b5⟩
          have H5 := Lib.hid (H4.out.trans (b5.mono H4.out.size))
          clear b5
          go_wp2_with fail
          refine (copy15e w5 none i 2 (by decide) (HN.out.2.1 w5 H5.out)).mono ?_
          rintro e w' ⟨rfl, rfl⟩
          go_wp2_with fail
          refine (len16no w' _ (HN.out.1 w' H5.out)).mono ?_
          rintro e w'' ⟨rfl, rfl⟩
          go_wp2_with fail
          refine (all21no w'' _ (HN.out.1 w'' H5.out)).mono ?_
          rintro e w3 ⟨rfl, rfl⟩
          have HF := Lib.hid (HN.out.2.2.trans (H5.out.mono (by have := HN.out.2.2.size; simpa using this)))
          go_wp2_with fail
          go_roundw
          case rel => exact ⟨1, by decide, rfl, HF.out⟩
          case measure => decide
        · obtain rfl : k = 1 := by omega
          have b4 : Below (w.heap.size + 1) (w.alloc (.cells c 44)) (wr.alloc (.cells #[.bool false, .slice none 0 0] 63)) := hB.alloc (by have := hB.size; simpa using this) _
          have n4 : NoNet (wr.alloc (.cells #[.bool false, .slice none 0 0] 63)) (.pointer (some ⟨wr.heap.size, 0, none⟩)) := .inr ⟨wr.heap.size, rfl, by rw [cell_of_row _ _ 0 _ _ _ (heap_alloc_new wr _)]; rfl, by simp⟩
          have HB4 := Lib.hid (And.intro b4 n4)
          clear hB b4 n4
          go_wp2_with fail
          have hno := HB4.out.2
          have hBq := HB4.out.1
          clear HB4
          generalize wr.alloc (.cells #[.bool false, .slice none 0 0] 63) = wq at *
          have hN : ∀ w', Below wq.heap.size wq w' → NoNet w' (.pointer (some ⟨wr.heap.size, 0, none⟩)) := fun w' hw => hno.below hw
          have hat : ∀ w', Below wq.heap.size wq w' → Calls Try.prog 41 #[.pointer (some ⟨wr.heap.size, 0, none⟩), .int .i64 i] w' fun e w'' => e = .returned (.int .i64 2) ∧ w'' = w' := fun w' hw => at41no w' _ i (hN w' hw)
          have M1 := deliver17e wq (some ⟨wr.heap.size, 0, none⟩) i 2 (by decide) hat
          have HN := Lib.hid (And.intro hN (And.intro hat hBq))
          clear hN hat hno hBq
          refine M1.mono ?_
          rintro e w2 ⟨⟨z, rfl, hz, ho⟩, b2⟩
          have x2 : (w2.alloc (.cells z44 44)).heap[w2.heap.size]? = some (.cells z44 44 (0, 0)) := heap_alloc_new w2 _
          obtain ⟨W3, hW3⟩ : ∃ W, W = (w2.alloc (.cells z44 44)).setRow w2.heap.size (over z44 0 z) := ⟨_, rfl⟩
          have b3 : Below wq.heap.size wq W3 := by rw [hW3]; exact below_setRow (b2.alloc b2.size _) b2.size
          have y3 : W3.heap[w.heap.size]? = some (.cells c 44 (0, 0)) := HX.out.2.2.2.1 W3 (HN.out.2.2.trans (b3.mono (by have := HN.out.2.2.size; simpa using this)))
          have H2 := Lib.hid (And.intro hz (And.intro ho (And.intro x2 (And.intro y3 b3))))
          have HW3 := Lib.hid hW3
          clear M1 hz ho b2 x2 hW3 b3 y3
          go_wp2_with (first | (rw [← HZ.out.1]; with_reducible refine wpList_store_part rfl 44 _ _ rfl rfl _ 0 57 rfl 44 _ _ rfl H2.out.2.2.1 cells44 H2.out.1 (by rw [HZ.out.2]; decide) H2.out.2.1 ?_; rw [← HW3.out]) | (with_reducible refine wpList_load_partg (by simp [Region.wanted, yielded]) 44 _ rfl w.heap.size 0 57 rfl 44 c (0, 0) _ H2.out.2.2.2.1 Try.underlying44 rfl cells44 (by rw [HX.out.1]; decide) c HX.out.2.1 ?_))
          refine (send14no W3 _ c (HN.out.1 W3 H2.out.2.2.2.2)).mono ?_
          rintro e w4 ⟨rfl, b4⟩
          have H4 := Lib.hid (H2.out.2.2.2.2.trans (b4.mono H2.out.2.2.2.2.size))
          clear b4
          go_wp2_with fail
          refine (drop20e w4 (some ⟨wr.heap.size, 0, none⟩) i 2 (by decide) (fun w' hw => HN.out.2.1 w' (H4.out.trans (hw.mono H4.out.size)))).mono ?_
          rintro e w5 ⟨rfl, b5⟩
          have H5 := Lib.hid (H4.out.trans (b5.mono H4.out.size))
          clear b5
          go_wp2_with fail
          refine (copy15e w5 (some ⟨wr.heap.size, 0, none⟩) i 2 (by decide) (HN.out.2.1 w5 H5.out)).mono ?_
          rintro e w' ⟨rfl, rfl⟩
          go_wp2_with fail
          refine (len16no w' _ (HN.out.1 w' H5.out)).mono ?_
          rintro e w'' ⟨rfl, rfl⟩
          go_wp2_with fail
          refine (all21no w'' _ (HN.out.1 w'' H5.out)).mono ?_
          rintro e w3 ⟨rfl, rfl⟩
          have HF := Lib.hid (HN.out.2.2.trans (H5.out.mono (by have := HN.out.2.2.size; simpa using this)))
          go_wp2_with fail
          go_roundw
          case rel => exact ⟨2, by decide, rfl, HF.out⟩
          case measure => decide
end Go.Proofs.Ythahadhdhpcndaa
