/- NetFull. -/
import Derived.Test.YthahadhdhpcndaaNetX
import Derived.Laws.Entries
namespace Go.Proofs.Ythahadhdhpcndaa
open Go Go.RowKit
set_option linter.unusedVariables false
set_option linter.unusedSimpArgs false

/-- A Send that finds no room. -/
theorem SendP.full {B g : Nat} {v : Value} {cs : List (Array Value)} {L : List PackD} {d : PackD} {w w' : World} {e : Ending} (h : SendP B g v cs L d w e w') (h1 : d.Ok) (h2 : L.length = 4096) :
    e = .returned (.int .i64 3) ∧ Below w.heap.size w w' := by
  rcases h.out with h | h | h
  · exact absurd h1 h.1
  · exact h.2.2
  · exact absurd h2 h.2.1
/-- The low twelve bits of a number. -/
theorem and4095 (x : Int) : ∃ j : Nat, bits .and .i64 x 4095 = (j : Int) ∧ j < 4096 := by
  have hb : (BitVec.ofInt 64 x &&& BitVec.ofInt 64 4095).toNat ≤ 4095 := by
    rw [BitVec.toNat_and]
    exact Nat.le_trans Nat.and_le_right (by decide)
  refine ⟨(BitVec.ofInt 64 x &&& BitVec.ofInt 64 4095).toNat, ?_, by omega⟩
  show IntKind.i64.wrap ((BitVec.ofInt 64 x &&& BitVec.ofInt 64 4095).toNat : Int) = _
  exact wrapi _ (by omega)
theorem one_int (ok : Nat → Prop) (w : World) (n : Int) (h : ok w.heap.size) : Rw ok (w.alloc (.cells #[.int .i64 n] 3)) 1 (.slice (some ⟨w.heap.size, 0, none⟩) 1 1) ([n].map (Value.int .i64)) := by
  refine ⟨some ⟨w.heap.size, 0, none⟩, 1, 1, rfl, rfl, (fun e => by cases e), fun _ => ⟨w.heap.size, 0, rfl, h, by simp, fun j u hj => ?_⟩, by simp [Value.oneCell']⟩
  rw [Nat.zero_add, cell_of_row _ _ j _ _ _ (heap_alloc_new w _)]
  simpa using hj
set_option maxHeartbeats 8000000 in
set_option maxRecDepth 100000 in
theorem netFull (c : Array Value) (d : PackD) (i : Int) (w : World) (h : RdP (fun _ => True) w c d) (hb : BdF d.d) (hn : NumF d.d) :
    Calls Try.prog 3 #[.agg c, .int .i64 i] w fun e w' => e = .returned (.bool true) ∧ Below w.heap.size w w' := by
  obtain ⟨m, hrow, hm⟩ := h.out
  have hc57 := h.size
  have hb1 : Below w.heap.size w (w.alloc (.cells c 44)) := (Below.refl _ _).alloc (Nat.le_refl _) _
  have x1 : (w.alloc (.cells c 44)).heap[w.heap.size]? = some (.cells c 44 (0, 0)) := heap_alloc_new w _
  have hpart : c.extract 4 (4 + 53) = m := by rw [hrow, d.partF m hm.size]
  have hall : c.extract 0 (0 + 57) = c := by rw [show 0 + 57 = c.size by rw [hc57]]; exact Array.extract_size
  have hkeep : ∀ w', Below (w.heap.size + 1) (w.alloc (.cells c 44)) w' → w'.heap[w.heap.size]? = some (.cells c 44 (0, 0)) := fun w' hw => (hw.block _ (by omega)).trans x1
  have hmp := hm.mono (ok' := fun b => b < w.heap.size) fun b hb _ => hb
  have hpp := h.mono (ok' := fun b => b < w.heap.size) fun b hb _ => hb
  have hS : ∀ w', Below (w.heap.size + 1) (w.alloc (.cells c 44)) w' → RdF (fun b => b < w.heap.size) w' m d.d ∧ RdP (fun b => b < w.heap.size) w' c d := fun w' hw => by
    have hb := hb1.trans (hw.mono (by omega))
    exact ⟨hmp.keep (Kn.of_below hb), hpp.keep (Kn.of_below hb)⟩
  have hfin : ∀ w', Below (w.heap.size + 1) (w.alloc (.cells c 44)) w' → Below w.heap.size w w' := fun w' hw => hb1.trans (hw.mono (by omega))
  have M1 := size10 m d.d (w.alloc (.cells c 44)) (hS _ (Below.refl _ _)).1 hb
  obtain ⟨z44, hz44⟩ : ∃ z : Array Value, z = #[.int .i64 0, .int .i64 0, .bool false, .int .i64 0, .int .u8 0, .int .i64 0, .int .i64 0, .int .i64 0, .int .i64 0, .int .i64 0, .int .i64 0, .int .i64 0, .bool false, .slice none 0 0, .slice none 0 0, .slice none 0 0, .slice none 0 0, .int .i64 0, .int .i64 0, .slice none 0 0, .int .i64 0, .int .i64 0, .int .u8 0, .int .i64 0, .int .i64 0, .int .i64 0, .int .i64 0, .int .i64 0, .bool false, .slice none 0 0, .slice none 0 0, .slice none 0 0, .slice none 0 0, .int .i64 0, .int .i64 0, .slice none 0 0, .int .i64 0, .int .i64 0, .int .i64 0, .int .i64 0, .int .i64 0, .int .i64 0, .int .i64 0, .int .i64 0, .int .i64 0, .slice none 0 0, .int .i64 0, .int .i64 0, .int .i64 0, .int .i64 0, .int .i64 0, .int .i64 0, .int .i64 0, .int .i64 0, .int .i64 0, .int .i64 0, .int .i64 0] := ⟨_, rfl⟩
  have hzs : z44.size = 57 := by rw [hz44]; rfl
  have HZ := Lib.hid (And.intro hz44 hzs)
  have HX := Lib.hid (And.intro hc57 (And.intro hall (And.intro hpart (And.intro hkeep (And.intro x1 (And.intro hS (And.intro hfin (And.intro hb hn))))))))
  clear hz44 hzs hrow hm hc57 hall hpart hkeep x1 hb1 h hb hmp hpp hS hn hfin
  go_enter Try.func3, Try.ntmps3
  go_wp2_with (with_reducible refine wpList_load_part' rfl 42 _ rfl w.heap.size 4 53 rfl 44 c (0, 0) _ HX.out.2.2.2.2.1 Try.underlying42 rfl cells42 (by rw [HX.out.1]; decide) m HX.out.2.2.1 ?_)
  refine M1.mono ?_
  rintro e w2 ⟨n, rfl, q1, q2, q3, B1⟩
  have b2 : Below (w.heap.size + 1) (w.alloc (.cells c 44)) w2 := B1.mono (by simp)
  have M2 := beyond9 (.slice (some ⟨w2.heap.size, 0, none⟩) 1 1) [n] (w2.alloc (.cells #[.int .i64 n] 3)) (one_int (fun _ => True) w2 n trivial) (by simp)
  have b3 : Below (w.heap.size + 1) (w.alloc (.cells c 44)) (w2.alloc (.cells #[.int .i64 n] 3)) := b2.alloc (by have := b2.size; simpa using this) _
  have HB3 := Lib.hid (And.intro b3 q3)
  clear M1 B1 b2 b3 q3
  go_wp2_with fail
  refine M2.mono ?_
  rintro e w3 ⟨rfl, b, rfl, hbey⟩
  clear M2
  cases b with
  | true =>
    clear hbey
    go_wp2_with fail
    refine (alive12 _).mono ?_
    rintro e w4 ⟨rfl, b4⟩
    have HF := Lib.hid (HX.out.2.2.2.2.2.2.1 _ (HB3.out.1.trans (b4.mono (by have := HB3.out.1.size; simpa using this))))
    clear b4
    go_wp2_with fail
    go_ret
    exact ⟨rfl, HF.out⟩
  | false =>
    have hle := (hbey rfl n (by simp)).2
    have HLE := Lib.hid (And.intro (HB3.out.2 hle) hle)
    clear hbey hle
    have HR3 := Lib.hid (HX.out.2.2.2.1 _ HB3.out.1)
    go_wp2_with (with_reducible refine wpList_load_partg (by simp [Region.wanted, yielded]) 42 _ rfl w.heap.size 4 53 rfl 44 c (0, 0) _ HR3.out Try.underlying42 rfl cells42 (by rw [HX.out.1]; decide) m HX.out.2.2.1 ?_)
    refine (size10 m d.d _ (HX.out.2.2.2.2.2.1 _ HB3.out.1).1 HX.out.2.2.2.2.2.2.2.1).mono ?_
    rintro e w4 ⟨n2, rfl, _, _, _, B4⟩
    have b4 : Below (w.heap.size + 1) (w.alloc (.cells c 44)) w4 := HB3.out.1.trans (B4.mono (by have := HB3.out.1.size; simpa using this))
    have HB4 := Lib.hid (And.intro b4 (HX.out.2.2.2.1 _ b4))
    clear B4 b4
    by_cases h100 : n2 > 100
    · have t1 : decide (n2 > 100) = true := decide_eq_true h100
      clear h100
      go_wp2_with fail
      refine (alive12 _).mono ?_
      rintro e w5 ⟨rfl, b5⟩
      have HF := Lib.hid (HX.out.2.2.2.2.2.2.1 _ (HB4.out.1.trans (b5.mono (by have := HB4.out.1.size; simpa using this))))
      clear b5
      go_wp2_with fail
      go_ret
      exact ⟨rfl, HF.out⟩
    have t1 : decide (n2 > 100) = false := decide_eq_false h100
    clear h100
    go_wp2_with (with_reducible refine wpList_load_partg (by simp [Region.wanted, yielded]) 44 _ rfl w.heap.size 0 57 rfl 44 c (0, 0) _ HB4.out.2 Try.underlying44 rfl cells44 (by rw [HX.out.1]; decide) c HX.out.2.1 ?_)
    refine (may11 c d _ (HX.out.2.2.2.2.2.1 _ HB4.out.1).2).mono ?_
    rintro e w5 ⟨⟨b, rfl, hmay⟩, B5⟩
    have b5 : Below (w.heap.size + 1) (w.alloc (.cells c 44)) w5 := HB4.out.1.trans (B5.mono (by have := HB4.out.1.size; simpa using this))
    have HB5 := Lib.hid (And.intro b5 (And.intro (HX.out.2.2.2.1 _ b5) hmay))
    clear B5 b5 hmay
    cases b with
    | false =>
      go_wp2_with fail
      refine (alive12 _).mono ?_
      rintro e w6 ⟨rfl, b6⟩
      have HF := Lib.hid (HX.out.2.2.2.2.2.2.1 _ (HB5.out.1.trans (b6.mono (by have := HB5.out.1.size; simpa using this))))
      clear b6
      go_wp2_with fail
      go_ret
      exact ⟨rfl, HF.out⟩
    | true =>
      have HOK := Lib.hid (And.intro (HB5.out.2.2.1 rfl) (HLE.out.1.sz HLE.out.2))
      go_wp2_with fail
      refine (new13 w5).mono ?_
      rintro e w6 ⟨rfl, n6, b6⟩
      have hw5 : w.heap.size + 1 ≤ w5.heap.size := by have := HB5.out.1.size; simpa using this
      have hall : ∀ w', Below w5.heap.size w5 w' → Below (w.heap.size + 1) (w.alloc (.cells c 44)) w' := fun w' hw => HB5.out.1.trans (hw.mono hw5)
      have HA := Lib.hid (And.intro hall hw5)
      have H6 := Lib.hid (And.intro n6 (And.intro b6 (HX.out.2.2.2.1 _ (hall _ b6))))
      clear n6 b6 hall hw5
      go_wp2_with (with_reducible refine wpList_load_partg (by simp [Region.wanted, yielded]) 44 _ rfl w.heap.size 0 57 rfl 44 c (0, 0) _ H6.out.2.2 Try.underlying44 rfl cells44 (by rw [HX.out.1]; decide) c HX.out.2.1 ?_)
      refine (send14 H6.out.1 (by decide) (HX.out.2.2.2.2.2.1 _ (HA.out.1 _ H6.out.2.1)).2 (fun _ => HOK.out.2)).mono ?_
      intro e w7 hS
      obtain ⟨rfl, v7, c7, n7, f7⟩ := hS.took HOK.out.1 (by decide)
      have H7 : Hid (∃ v cs, NetI w7 w5.heap.size w5.heap.size v cs (List.replicate 1 d) ∧ Below w5.heap.size w5 w7) := Lib.hid ⟨_, _, n7, H6.out.2.1.trans f7.below⟩
      clear hS n7 f7
      go_wp2_with fail
      go_loopw [6] (fun v6 wr => ∃ k : Nat, 1 ≤ k ∧ k ≤ 4096 ∧ v6 = .int .i64 k ∧ Hid (∃ v cs, NetI wr w5.heap.size w5.heap.size v cs (List.replicate k d) ∧ Below w5.heap.size w5 wr)) (fun v6 _ => 4096 - (intOf v6).toNat)
      case atStart => exact ⟨1, by decide, by decide, rfl, H7⟩
      case round =>
        obtain ⟨k, hk1, hk2, rfl, HE⟩ := hrel
        clear H7
        obtain ⟨v, cs, hN, hB⟩ := HE.out
        by_cases hk : k < 4096
        · have t1 : decide ((k : Int) < 4096) = true := decide_eq_true (by omega)
          have M := copy15 (i := 0) hN (by simp; omega) (d := d) (by rw [List.getElem?_replicate, if_pos (by omega)]) (fun _ => HOK.out.2)
          have HK := Lib.hid (And.intro hk hB)
          clear hk hN hB
          go_wp2_with fail
          refine M.mono ?_
          intro e w8 hS
          obtain ⟨rfl, v8, c8, n8, f8⟩ := hS.took HOK.out.1 (by have := HK.out.1; simp; omega)
          rw [← List.replicate_succ'] at n8
          have H8 : Hid (∃ v cs, NetI w8 w5.heap.size w5.heap.size v cs (List.replicate (k + 1) d) ∧ Below w5.heap.size w5 w8) := Lib.hid ⟨_, _, n8, HK.out.2.trans f8.below⟩
          clear hS n8 f8 M
          go_wp2_with fail
          go_roundw
          case rel => exact ⟨k + 1, by omega, by have := HK.out.1; omega, by simp, H8⟩
          case measure => have := HK.out.1; simp [intOf]; omega
        · obtain rfl : k = 4096 := by omega
          have M := copy15 (i := 0) hN (by simp) (d := d) (by simp) (fun _ => HOK.out.2)
          have HK := Lib.hid (And.intro hN hB)
          clear hk hN hB hk1 hk2 HE
          go_wp2_with fail
          refine M.mono ?_
          intro e w8 hS
          obtain ⟨rfl, b8⟩ := hS.full HOK.out.1 (by simp)
          have n8 := HK.out.1.below b8
          have B8 := HK.out.2.trans (b8.mono HK.out.2.size)
          have H8 := Lib.hid (And.intro n8 (And.intro B8 (HX.out.2.2.2.1 _ (HA.out.1 _ B8))))
          clear hS M n8 B8 b8
          go_wp2_with (with_reducible refine wpList_load_partg (by simp [Region.wanted, yielded]) 44 _ rfl w.heap.size 0 57 rfl 44 c (0, 0) _ H8.out.2.2 Try.underlying44 rfl cells44 (by rw [HX.out.1]; decide) c HX.out.2.1 ?_)
          refine (send14 H8.out.1 (by simp) (HX.out.2.2.2.2.2.1 _ (HA.out.1 _ H8.out.2.1)).2 (fun _ => HOK.out.2)).mono ?_
          intro e w9 hS
          obtain ⟨rfl, b9⟩ := hS.full HOK.out.1 (by simp)
          have n9 := H8.out.1.below b9
          have B9 := H8.out.2.1.trans (b9.mono H8.out.2.1.size)
          have H9 := Lib.hid (And.intro n9 B9)
          have ML := len16 n9
          rw [List.length_replicate] at ML
          clear hS n9 B9 b9
          go_wp2_with fail
          refine ML.mono ?_
          rintro e w' ⟨rfl, rfl⟩
          clear ML
          go_wp2_with fail
          obtain ⟨j, hj, hj2⟩ := and4095 i
          rw [hj]
          refine (deliver17 H9.out.1 (by rw [List.length_replicate]; decide) (i := j) (by rw [List.length_replicate]; exact hj2)).mono ?_
          intro e w10 hD
          obtain ⟨c1, d1, v10, hc, hd, rfl, n10, r10, f10⟩ := hD.out
          obtain rfl : d = d1 := by
            rw [List.getElem?_replicate, if_pos hj2] at hd
            injection hd
          rw [List.eraseIdx_replicate, if_pos hj2] at n10
          have X10 : (w10.alloc (.cells z44 44)).heap[w10.heap.size]? = some (.cells z44 44 (0, 0)) := heap_alloc_new w10 _
          obtain ⟨W11, hW11⟩ : ∃ W, W = (w10.alloc (.cells z44 44)).setRow w10.heap.size (over z44 0 c1) := ⟨_, rfl⟩
          have b11 : Below w10.heap.size w10 W11 := by rw [hW11]; exact below_setRow ((Below.refl _ _).alloc (Nat.le_refl _) _) (Nat.le_refl _)
          have y11 : W11.heap[w10.heap.size]? = some (.cells c1 44 (0, 0)) := by
            rw [hW11]; exact (setRow_same X10).trans (congrArg (fun z => some (Obj.cells z 44 (0, 0))) (over_full (by rw [HZ.out.2, r10.size])))
          have B10 := H9.out.2.trans f10.below
          have B11 := B10.trans (b11.mono B10.size)
          have H10 := Lib.hid (And.intro X10 (And.intro r10.size (And.intro r10.one (And.intro y11 (HX.out.2.2.2.1 _ (HA.out.1 _ B11))))))
          have all1 : c1.extract 0 (0 + 57) = c1 := by rw [show 0 + 57 = c1.size by rw [r10.size]]; exact Array.extract_size
          have H11 := Lib.hid (And.intro (n10.below b11) (And.intro B11 (And.intro (r10.keep (Kn.of_below b11)) all1)))
          have HW11 := Lib.hid hW11
          clear hD hc hd n10 r10 f10 X10 hW11 b11 y11 B10 B11 all1 hj
          go_wp2_with (first | (rw [← HZ.out.1]; with_reducible refine wpList_store_part rfl 44 _ _ rfl rfl _ 0 57 rfl 44 _ _ rfl H10.out.1 cells44 H10.out.2.1 (by rw [HZ.out.2]; decide) H10.out.2.2.1 ?_; rw [← HW11.out]) | (with_reducible refine wpList_load_partg (by simp [Region.wanted, yielded, Act.put]) 44 _ rfl w.heap.size 0 57 rfl 44 c (0, 0) _ H10.out.2.2.2.2 Try.underlying44 rfl cells44 (by rw [HX.out.1]; decide) c HX.out.2.1 ?_) | (with_reducible refine wpList_load_partg (by simp [Region.wanted, yielded, Act.put]) 44 _ rfl w10.heap.size 0 57 rfl 44 c1 (0, 0) _ H10.out.2.2.2.1 Try.underlying44 rfl cells44 (by rw [H10.out.2.1]; decide) c1 H11.out.2.2.2 ?_))
          refine (same18 c1 c d W11 H11.out.2.2.1 (HX.out.2.2.2.2.2.1 _ (HA.out.1 _ H11.out.2.1)).2 HX.out.2.2.2.2.2.2.2.2 HOK.out.2).mono ?_
          rintro e w12 ⟨rfl, b12⟩
          have n12 := H11.out.1.below b12
          have B12 := H11.out.2.1.trans (b12.mono H11.out.2.1.size)
          have H12 := Lib.hid (And.intro n12 (And.intro B12 (HX.out.2.2.2.1 _ (HA.out.1 _ B12))))
          have ML := len16 n12
          rw [List.length_replicate] at ML
          clear n12 B12 b12
          go_wp2_with fail
          refine ML.mono ?_
          rintro e w' ⟨rfl, rfl⟩
          clear ML
          go_wp2_with (with_reducible refine wpList_load_partg (by simp [Region.wanted, yielded]) 44 _ rfl w.heap.size 0 57 rfl 44 c (0, 0) _ H12.out.2.2 Try.underlying44 rfl cells44 (by rw [HX.out.1]; decide) c HX.out.2.1 ?_)
          refine (send14 H12.out.1 (by simp) (HX.out.2.2.2.2.2.1 _ (HA.out.1 _ H12.out.2.1)).2 (fun _ => HOK.out.2)).mono ?_
          intro e w13 hS
          obtain ⟨rfl, v13, c13, n13, f13⟩ := hS.took HOK.out.1 (by simp)
          have H13 := Lib.hid (H12.out.2.1.trans f13.below)
          clear hS n13 f13
          go_wp2_with fail
          refine (alive12 _).mono ?_
          rintro e w14 ⟨rfl, b14⟩
          have HF := Lib.hid (HX.out.2.2.2.2.2.2.1 _ (HA.out.1 _ (H13.out.trans (b14.mono H13.out.size))))
          clear b14
          go_wp2_with fail
          go_ret
          exact ⟨rfl, HF.out⟩
end Go.Proofs.Ythahadhdhpcndaa
