/- Trees: reading, and copies.Tree. -/
import Derived.Test.YthahadhdhpcndaaClone
import Derived.Deep.LoopGhost
namespace Go.Proofs.Ythahadhdhpcndaa
open Go Go.RowKit
set_option linter.unusedVariables false
set_option linter.unusedSimpArgs false

structure NodeD where
  p : Int
  m : Int
  e : Int
  u : List Value
def NodeD.cs (d : NodeD) (v : Value) : List Value := [.int .i64 d.p, .int .i64 d.m, .int .i64 d.e, v]
/-- A list of nodes reads so. -/
def RdN (ok : Nat → Prop) (w : World) (v : Value) (ns : List NodeD) : Prop := ∃ A n c, v = .slice A n c ∧ n = ns.length ∧ (A = none → n = 0 ∧ c = 0) ∧ (0 < n → ∃ b o, A = some ⟨b, o, none⟩ ∧ ok b ∧ b < w.heap.size ∧ ∀ i d, ns[i]? = some d →
  w.cell? ⟨b, o + i * 4, none⟩ = some (.int .i64 d.p) ∧ w.cell? ⟨b, o + i * 4 + 1, none⟩ = some (.int .i64 d.m) ∧ w.cell? ⟨b, o + i * 4 + 2, none⟩ = some (.int .i64 d.e) ∧ ∃ vu, w.cell? ⟨b, o + i * 4 + 3, none⟩ = some vu ∧ Rw ok w 1 vu d.u)
theorem RdN.keep {ok : Nat → Prop} {w w' : World} {v : Value} {ns : List NodeD} (h : RdN ok w v ns) (hk : Kn ok w w') : RdN ok w' v ns := by
  obtain ⟨A, n, c, rfl, h1, h2, h3⟩ := h
  refine ⟨A, n, c, rfl, h1, h2, fun hp => ?_⟩
  obtain ⟨b, o, rfl, p1, p2, p3⟩ := h3 hp
  have hb := hk.2 b p2 p1
  refine ⟨b, o, rfl, p1, Nat.lt_of_lt_of_le p2 hk.1, fun i d hd => ?_⟩
  obtain ⟨q1, q2, q3, vu, q4, q5⟩ := p3 i d hd
  exact ⟨(World.cell?_of_block (a := ⟨b, _, none⟩) hb).trans q1, (World.cell?_of_block (a := ⟨b, _, none⟩) hb).trans q2, (World.cell?_of_block (a := ⟨b, _, none⟩) hb).trans q3, vu, (World.cell?_of_block (a := ⟨b, _, none⟩) hb).trans q4, q5.keep hk⟩
theorem Rw.slice {ok : Nat → Prop} {sz : Nat} {w : World} {v : Value} {xs : List Value} (h : Rw ok w sz v xs) : ∃ A n c, v = .slice A n c := by obtain ⟨A, n, c, h, _⟩ := h; exact ⟨A, n, c, h⟩
theorem info108 : (Try.prog.info? 108).map (fun i => (i.zero, i.size, i.bytes)) = some (some (.agg #[.int .i64 0, .int .i64 0, .int .i64 0, .slice none 0 0]), 4, 48) := by kernel_rfl
set_option maxHeartbeats 1000000 in
set_option maxRecDepth 100000 in
theorem node84 {ok : Nat → Prop} (d : NodeD) (v : Value) (w : World) (h : Rw ok w 1 v d.u) (hs : d.u.length ≤ 3000000) :
    Calls Try.prog 84 #[.agg #[.int .i64 d.p, .int .i64 d.m, .int .i64 d.e, v]] w fun e w' => ∃ v', e = .returned (.agg #[.int .i64 d.p, .int .i64 d.m, .int .i64 d.e, v']) ∧ Rw (w.heap.size ≤ ·) w' 1 v' d.u ∧ Below w.heap.size w w' := by
  obtain ⟨A, n, c, rfl⟩ := h.slice
  have hb1 : Below w.heap.size w (w.alloc (.cells #[.int .i64 d.p, .int .i64 d.m, .int .i64 d.e, .slice A n c] 108)) := (Below.refl _ _).alloc (Nat.le_refl _) _
  have hb2 : Below w.heap.size w ((w.alloc (.cells #[.int .i64 d.p, .int .i64 d.m, .int .i64 d.e, .slice A n c] 108)).alloc (.cells #[.int .i64 0, .int .i64 0, .int .i64 0, .slice none 0 0] 108)) := hb1.alloc (by simp) _
  have M := clone80 (.slice A n c) d.u _ (h.keep (Kn.of_below hb2)) hs
  have x1 : ((w.alloc (.cells #[.int .i64 d.p, .int .i64 d.m, .int .i64 d.e, .slice A n c] 108)).alloc (.cells #[.int .i64 0, .int .i64 0, .int .i64 0, .slice none 0 0] 108)).heap[w.heap.size]? = some (.cells #[.int .i64 d.p, .int .i64 d.m, .int .i64 d.e, .slice A n c] 108 (0, 0)) := heap_alloc2_old w _ _
  have x2 : ((w.alloc (.cells #[.int .i64 d.p, .int .i64 d.m, .int .i64 d.e, .slice A n c] 108)).alloc (.cells #[.int .i64 0, .int .i64 0, .int .i64 0, .slice none 0 0] 108)).heap[w.heap.size + 1]? = some (.cells #[.int .i64 0, .int .i64 0, .int .i64 0, .slice none 0 0] 108 (0, 0)) := heap_alloc2_new w _ _
  have HB2 := Lib.hid hb2
  have HX := Lib.hid (And.intro x1 x2)
  obtain ⟨dp, dm, de, du⟩ := d
  dsimp only at *
  clear h hb1 hb2 x1 x2 hs
  go_enter Try.func84, Try.ntmps84
  go_wp2_with fail
  refine M.mono ?_
  rintro e w2 ⟨v', rfl, R', B'⟩
  obtain ⟨A', n', c', rfl⟩ := R'.slice
  have y1 := (B'.block _ (lt_of_some HX.out.1)).trans HX.out.1
  have y2 := (B'.block _ (lt_of_some HX.out.2)).trans HX.out.2
  have q3 : w2.cell? ⟨w.heap.size, 3, none⟩ = some (.slice A n c) := by rw [cell_of_row w2 _ 3 _ _ _ y1]; rfl
  have f3 : w2.frozen? ⟨w.heap.size, 3, none⟩ = false := frozen_of_row w2 _ 3 _ _ y1
  have z1 := heap_setCell_same w2 w.heap.size 3 _ _ (.slice A' n' c') y1
  have z2 : (w2.setCell ⟨w.heap.size, 3, none⟩ (.slice A' n' c')).heap[w.heap.size + 1]? = _ := (heap_setCell_other w2 ⟨w.heap.size, 3, none⟩ (w.heap.size + 1) (.slice A' n' c') (show w.heap.size + 1 ≠ w.heap.size by omega)).trans y2
  have HR := Lib.hid R'
  have HB' := Lib.hid (HB2.out.trans (B'.mono HB2.out.size))
  have hz : w.heap.size + 1 < w2.heap.size := lt_of_some y2
  have z1 : (w2.setCell ⟨w.heap.size, 3, none⟩ (.slice A' n' c')).heap[w.heap.size]? = some (.cells #[.int .i64 dp, .int .i64 dm, .int .i64 de, .slice A' n' c'] 108 (0, 0)) := z1
  have HZ := Lib.hid (And.intro z1 z2)
  clear M R' B' y1 y2 z1 z2
  go_wp2_with (first | (with_reducible refine wpList_load_row rfl 108 _ rfl _ rfl 108 _ _ _ HZ.out.1 Try.underlying108 rfl (by kernel_rfl) ?_) | (with_reducible refine wpList_store_part rfl 108 _ _ rfl rfl _ 0 4 rfl 108 _ _ rfl HZ.out.2 (by kernel_rfl) rfl (by simp) (by simp [Value.oneCell']) ?_))
  have hfin : ((w2.setCell ⟨w.heap.size, 3, none⟩ (.slice A' n' c')).setRow (w.heap.size + 1) (over #[.int .i64 0, .int .i64 0, .int .i64 0, .slice none 0 0] 0 #[.int .i64 dp, .int .i64 dm, .int .i64 de, .slice A' n' c'])).heap[w.heap.size + 1]? = some (.cells #[.int .i64 dp, .int .i64 dm, .int .i64 de, .slice A' n' c'] 108 (0, 0)) := by
    exact (setRow_same HZ.out.2).trans (congrArg (fun z => some (Obj.cells z 108 (0, 0))) (over_full (by rfl)))
  refine bodyPost_ret (v := .agg #[.int .i64 dp, .int .i64 dm, .int .i64 de, .slice A' n' c']) (results_cell_row Try.results84 _ _ _ _ _ _ _ rfl hfin Try.underlying108 rfl (by kernel_rfl)) rfl ⟨_, rfl, ?_, ?_⟩
  · have hs2 := HB2.out.size
    have h5 : Rw (w.heap.size + 2 ≤ ·) w2 1 (.slice A' n' c') du := HR.out.mono fun b _ hb => by simpa using hb
    exact ((h5.keep (Kn.setCell _ _ _ _ (by omega))).keep (Kn.setRow _ _ _ (by omega))).mono fun b _ hb => by omega
  · exact below_setRow (HB'.out.setCell (Nat.le_refl _) _) (by omega)
end Go.Proofs.Ythahadhdhpcndaa
