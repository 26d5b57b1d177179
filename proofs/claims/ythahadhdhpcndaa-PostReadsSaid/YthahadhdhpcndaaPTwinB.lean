/- Twins of structs and of lists of them. -/
import Derived.Test.YthahadhdhpcndaaPTwin
namespace Go.Proofs.Ythahadhdhpcndaa
open Go Go.RowKit
set_option linter.unusedVariables false
set_option linter.unusedSimpArgs false

/-- A struct in its box, and the place of the result behind it. -/
structure Bx (w W : World) (ty : TypeId) (cs z : Array Value) : Prop where
  box : W.heap[w.heap.size]? = some (.cells cs ty (0, 0))
  res : W.heap[w.heap.size + 1]? = some (.cells z ty (0, 0))
  below : Below w.heap.size w W
theorem Bx.start (w : World) (ty : TypeId) (cs z : Array Value) : Bx w ((w.alloc (.cells cs ty)).alloc (.cells z ty)) ty cs z :=
  ⟨heap_alloc2_old w _ _, heap_alloc2_new w _ _, ((Below.refl _ _).alloc (Nat.le_refl _) _).alloc (by simp) _⟩
theorem Bx.keep {w W W1 : World} {ty : TypeId} {cs z : Array Value} (h : Bx w W ty cs z) (hb : Below W.heap.size W W1) : Bx w W1 ty cs z :=
  ⟨(hb.block _ (lt_of_some h.box)).trans h.box, (hb.block _ (lt_of_some h.res)).trans h.res, h.below.trans (hb.mono h.below.size)⟩
theorem Bx.cell {w W : World} {ty : TypeId} {cs z : Array Value} (h : Bx w W ty cs z) {off : Nat} {v : Value} (hv : cs[off]? = some v) : W.cell? ⟨w.heap.size, off, none⟩ = some v := by
  rw [cell_of_row W _ _ _ _ _ h.box]; exact hv
theorem Bx.frozen {w W : World} {ty : TypeId} {cs z : Array Value} (h : Bx w W ty cs z) (off : Nat) : W.frozen? ⟨w.heap.size, off, none⟩ = false := frozen_of_row W _ _ _ _ h.box
theorem Bx.put1 {w W : World} {ty : TypeId} {cs z cs' : Array Value} (h : Bx w W ty cs z) (off : Nat) (v : Value) (he : cs.setIfInBounds off v = cs') : Bx w (W.setCell ⟨w.heap.size, off, none⟩ v) ty cs' z :=
  ⟨by rw [← he]; exact heap_setCell_same W _ off _ _ v h.box, (heap_setCell_other W ⟨w.heap.size, off, none⟩ _ v (show w.heap.size + 1 ≠ w.heap.size by omega)).trans h.res, h.below.setCell (Nat.le_refl _) _⟩
theorem Bx.put {w W : World} {ty : TypeId} {cs z cs' : Array Value} (h : Bx w W ty cs z) (off : Nat) (vs : Array Value) (he : over cs off vs = cs') : Bx w (W.setRow w.heap.size (over cs off vs)) ty cs' z :=
  ⟨by rw [setRow_same h.box, he], (setRow_ne (show w.heap.size + 1 ≠ w.heap.size by omega)).trans h.res, below_setRow h.below (Nat.le_refl _)⟩
theorem Bx.two {w W : World} {ty : TypeId} {cs z : Array Value} (h : Bx w W ty cs z) : w.heap.size + 2 ≤ W.heap.size := lt_of_some h.res
/-- From one world to a later one, with the box changed. -/
theorem Bx.kn1 {w W W1 : World} (hb : Below W.heap.size W W1) (off : Nat) (v : Value) : Kn (fun b => w.heap.size + 2 ≤ b) W (W1.setCell ⟨w.heap.size, off, none⟩ v) :=
  (Kn.of_below hb).trans (Kn.setCell _ _ _ _ (by omega))
theorem Bx.kn {w W W1 : World} (hb : Below W.heap.size W W1) (vs : Array Value) : Kn (fun b => w.heap.size + 2 ≤ b) W (W1.setRow w.heap.size vs) :=
  (Kn.of_below hb).trans (Kn.setRow _ _ _ (by omega))
theorem Kn.new {w W W1 : World} (h : w.heap.size + 2 ≤ W.heap.size) (vs : Array Value) : Kn (fun b => w.heap.size + 2 ≤ b) W1 (W1.setRow w.heap.size vs) := Kn.setRow _ _ _ (by omega)
/-- What was there before the box. -/
theorem Bx.old {w W : World} {ty : TypeId} {cs z : Array Value} (h : Bx w W ty cs z) {ok : Nat → Prop} : Kn ok w W := Kn.of_below h.below
theorem Bx.fin {w W : World} {ty : TypeId} {cs z : Array Value} (h : Bx w W ty cs z) (hs : z.size = cs.size) : (W.setRow (w.heap.size + 1) (over z 0 cs)).heap[w.heap.size + 1]? = some (.cells cs ty (0, 0)) ∧ Below w.heap.size w (W.setRow (w.heap.size + 1) (over z 0 cs)) ∧ Kn (fun b => w.heap.size + 2 ≤ b) W (W.setRow (w.heap.size + 1) (over z 0 cs)) :=
  ⟨(setRow_same h.res).trans (by rw [over_full hs]), below_setRow h.below (by omega), Kn.setRow _ _ _ (by omega)⟩
/-- A list of structs under work. -/
structure TwD {D : Type} (E : Elem D) (B N : Nat) (t : TypeId) (w0 : World) (L : List D) (i : Nat) (wr : World) : Prop where
  out : ∃ cur : Array Value, wr.heap[B]? = some (.cells cur t (0, 0)) ∧ cur.size = (N + 2) * E.sz ∧ ∀ j d, j < i → L[j]? = some d → E.Rd (B < ·) wr (cur.extract (j * E.sz) (j * E.sz + E.sz)) d
  below : Below B w0 wr
section
variable {D : Type} {E : Elem D} {B N : Nat} {t : TypeId} {w0 wr w2 : World} {L : List D} {i : Nat}
theorem TwD.keep (h : TwD E B N t w0 L i wr) (hb : Below wr.heap.size wr w2) : TwD E B N t w0 L i w2 := by
  obtain ⟨cur, h2, h3, h4⟩ := h.out
  exact ⟨⟨cur, (hb.block _ (lt_of_some h2)).trans h2, h3, fun j d hj hd => E.keep (h4 j d hj hd) (Kn.of_below hb)⟩, h.below.trans (hb.mono (Nat.le_of_lt (lt_of_some h2)))⟩
theorem over_extract_same {cs vs : Array Value} {off : Nat} (h : off + vs.size ≤ cs.size) : (over cs off vs).extract off (off + vs.size) = vs := by
  apply Array.ext_getElem?
  intro j
  rw [Array.getElem?_extract, over_get h, size_over h]
  by_cases hj : j < vs.size
  · rw [if_pos (by omega), if_neg (by omega), if_pos (by omega)]; congr 1; omega
  · rw [if_neg (by omega), Array.getElem?_eq_none (by omega)]
theorem over_extract_lt {cs vs : Array Value} {off a b : Nat} (h : off + vs.size ≤ cs.size) (hb : b ≤ off) : (over cs off vs).extract a b = cs.extract a b := by
  apply Array.ext_getElem?
  intro j
  rw [Array.getElem?_extract, Array.getElem?_extract, over_get h, size_over h]
  by_cases hj : j < min b cs.size - a
  · rw [if_pos hj, if_pos hj, if_pos (by omega)]
  · rw [if_neg hj, if_neg hj]
theorem mul_step {j i sz : Nat} (h : j < i) : j * sz + sz ≤ i * sz := by
  have : (j + 1) * sz ≤ i * sz := Nat.mul_le_mul_right _ h
  rwa [Nat.add_mul, Nat.one_mul] at this
theorem TwD.put {cur vs : Array Value} {d : D} (h : TwD E B N t w0 L i wr) (hc : wr.heap[B]? = some (.cells cur t (0, 0))) (hi : i * E.sz + E.sz ≤ cur.size) (hd : L[i]? = some d) (hv : E.Rd (B < ·) wr vs d) : TwD E B N t w0 L (i + 1) (wr.setRow B (over cur (i * E.sz) vs)) := by
  obtain ⟨cur', h4, h5, h6⟩ := h.out
  rw [hc] at h4
  injection h4 with h4
  injection h4 with h4
  subst h4
  have hz := E.size hv
  have hk : Kn (B < ·) wr (wr.setRow B (over cur (i * E.sz) vs)) := Kn.setRow _ _ _ (Nat.lt_irrefl _)
  refine ⟨⟨_, setRow_same hc, by rw [size_over (by omega)]; exact h5, fun j d' hj hd' => ?_⟩, below_setRow h.below (Nat.le_refl _)⟩
  by_cases e : j = i
  · subst e
    rw [hd] at hd'
    injection hd' with hd'
    subst hd'
    rw [← hz, hz, show j * E.sz + E.sz = j * E.sz + vs.size by rw [hz], over_extract_same (by omega)]
    exact E.keep hv hk
  · rw [over_extract_lt (by omega) (mul_step (by omega))]
    exact E.keep (h6 j d' (by omega) hd') hk
theorem TwD.mark {cur vs : Array Value} {k : Nat} (h : TwD E B N t w0 L i wr) (hc : wr.heap[B]? = some (.cells cur t (0, 0))) (hi : i ≤ k) (hk : k * E.sz + E.sz ≤ cur.size) (hv : vs.size = E.sz) : TwD E B N t w0 L i (wr.setRow B (over cur (k * E.sz) vs)) := by
  obtain ⟨cur', h4, h5, h6⟩ := h.out
  rw [hc] at h4
  injection h4 with h4
  injection h4 with h4
  subst h4
  have hkn : Kn (B < ·) wr (wr.setRow B (over cur (k * E.sz) vs)) := Kn.setRow _ _ _ (Nat.lt_irrefl _)
  refine ⟨⟨_, setRow_same hc, by rw [size_over (by omega)]; exact h5, fun j d' hj hd' => ?_⟩, below_setRow h.below (Nat.le_refl _)⟩
  rw [over_extract_lt (by omega) (Nat.le_trans (mul_step (by omega)) (Nat.mul_le_mul_right _ hi))]
  exact E.keep (h6 j d' hj hd') hkn
theorem prow_cut (cur : Array Value) (sz : Nat) : ∀ n, n * sz ≤ cur.size → prow ((List.range n).map fun j => cur.extract (j * sz) (j * sz + sz)) = cur.toList.take (n * sz)
  | 0, _ => by simp [prow]
  | n + 1, h => by
    rw [Nat.add_mul, Nat.one_mul] at h ⊢
    rw [List.range_succ, List.map_append, List.map_singleton, prow_snoc, prow_cut cur sz n (by omega), Array.toList_extract]
    show List.take (n * sz) cur.toList ++ List.take (n * sz + sz - n * sz) (List.drop (n * sz) cur.toList) = _
    rw [Nat.add_sub_cancel_left, ← List.take_add]
theorem TwD.own {c : Nat} (h : TwD E B L.length t w0 L L.length wr) (hc : c = L.length + 2) (hm : c ≤ maxLen) : ∃ cs, E.Own t B wr (.slice (some ⟨B, 0, none⟩) L.length c) cs L := by
  subst hc
  obtain ⟨cur, h2, h3, h4⟩ := h.out
  have hle : L.length * E.sz ≤ cur.size := by rw [h3]; exact Nat.mul_le_mul_right _ (by omega)
  refine ⟨(List.range L.length).map fun j => cur.extract (j * E.sz) (j * E.sz + E.sz), by simp, ⟨by rw [prow_cut _ _ _ hle]; simp; omega, .inr ⟨B, _, cur, rfl, Nat.le_refl _, h2, by omega, hm, h3, (prow_cut _ _ _ hle).symm⟩⟩, fun j c d hc hd => ?_⟩
  have hj := (List.getElem?_eq_some_iff.1 hd).1
  rw [List.getElem?_map, List.getElem?_range hj] at hc
  have hc : cur.extract (j * E.sz) (j * E.sz + E.sz) = c := by simpa using hc
  subst hc
  exact E.mono (h4 j d hj hd) fun b _ hb => ⟨Nat.le_of_lt hb, fun e => by
    have e : B = b := by simpa [Value.ownBlock] using e
    omega⟩
end
theorem RdN.elem {ok : Nat → Prop} {w : World} {v : Value} {ns : List NodeD} (h : RdN ok w v ns) : elemN.RdL ok w v ns := by
  obtain ⟨A, n, c, rfl, h1, h2, h3⟩ := h
  refine ⟨A, n, c, rfl, h1, h2, fun hp => ?_⟩
  obtain ⟨b, o, rfl, p1, p2, p3⟩ := h3 hp
  obtain ⟨d0, hd0⟩ : ∃ d, ns[0]? = some d := ⟨ns[0]'(by omega), List.getElem?_eq_getElem _⟩
  obtain ⟨cur, t, fr, q1, _, _⟩ := oneOf (p3 0 d0 hd0).1 p1
  refine ⟨b, o, cur, t, fr, rfl, p1, q1, fun i d hd => ?_⟩
  obtain ⟨k1, k2, k3, vu, k4, k5⟩ := p3 i d hd
  rw [cell_of_row w b _ _ _ _ q1] at k1 k2 k3 k4
  have hs := (Array.getElem?_eq_some_iff.1 k4).1
  refine ⟨show o + i * 4 + 4 ≤ cur.size by omega, vu, ?_, k5⟩
  show cur.extract (o + i * 4) (o + i * 4 + 4) = _
  apply Array.ext_getElem?
  intro j
  rw [Array.getElem?_extract]
  by_cases hj : j < 4
  · rw [if_pos (by omega)]
    rcases (by omega : j = 0 ∨ j = 1 ∨ j = 2 ∨ j = 3) with rfl | rfl | rfl | rfl
    · exact k1
    · exact k2
    · exact k3
    · exact k4
  · rw [if_neg (by omega), Array.getElem?_eq_none (by simp [NodeD.cs]; omega)]
set_option maxHeartbeats 1000000 in
set_option maxRecDepth 100000 in
theorem node101 {ok : Nat → Prop} (d : NodeD) (v : Value) (w : World) (h : Rw ok w 1 v d.u) (hs : d.u.length ≤ 3000000) :
    Calls Try.prog 101 #[.agg #[.int .i64 d.p, .int .i64 d.m, .int .i64 d.e, v]] w fun e w' => ∃ v', e = .returned (.agg #[.int .i64 d.p, .int .i64 d.m, .int .i64 d.e, v']) ∧ Rw (w.heap.size ≤ ·) w' 1 v' d.u ∧ Below w.heap.size w w' := by
  obtain ⟨A, n, c, rfl⟩ := h.slice
  have hb1 : Below w.heap.size w (w.alloc (.cells #[.int .i64 d.p, .int .i64 d.m, .int .i64 d.e, .slice A n c] 108)) := (Below.refl _ _).alloc (Nat.le_refl _) _
  have hb2 : Below w.heap.size w ((w.alloc (.cells #[.int .i64 d.p, .int .i64 d.m, .int .i64 d.e, .slice A n c] 108)).alloc (.cells #[.int .i64 0, .int .i64 0, .int .i64 0, .slice none 0 0] 108)) := hb1.alloc (by simp) _
  have M := twin89 (.slice A n c) d.u _ (h.keep (Kn.of_below hb2)) hs
  have x1 : ((w.alloc (.cells #[.int .i64 d.p, .int .i64 d.m, .int .i64 d.e, .slice A n c] 108)).alloc (.cells #[.int .i64 0, .int .i64 0, .int .i64 0, .slice none 0 0] 108)).heap[w.heap.size]? = some (.cells #[.int .i64 d.p, .int .i64 d.m, .int .i64 d.e, .slice A n c] 108 (0, 0)) := heap_alloc2_old w _ _
  have x2 : ((w.alloc (.cells #[.int .i64 d.p, .int .i64 d.m, .int .i64 d.e, .slice A n c] 108)).alloc (.cells #[.int .i64 0, .int .i64 0, .int .i64 0, .slice none 0 0] 108)).heap[w.heap.size + 1]? = some (.cells #[.int .i64 0, .int .i64 0, .int .i64 0, .slice none 0 0] 108 (0, 0)) := heap_alloc2_new w _ _
  have HB2 := Lib.hid hb2
  have HX := Lib.hid (And.intro x1 x2)
  obtain ⟨dp, dm, de, du⟩ := d
  dsimp only at *
  clear h hb1 hb2 x1 x2 hs
  go_enter Try.func101, Try.ntmps101
  go_wp2_with fail
  refine M.mono ?_
  rintro e w2 ⟨v', rfl, R', B'⟩
  obtain ⟨A', n', c', rfl⟩ := R'.slice
  have y1 := (B'.block _ (lt_of_some HX.out.1)).trans HX.out.1
  have y2 := (B'.block _ (lt_of_some HX.out.2)).trans HX.out.2
  have q3 : w2.cell? ⟨w.heap.size, 3, none⟩ = some (.slice A n c) := by rw [cell_of_row w2 _ 3 _ _ _ y1]; rfl
  have f3 : w2.frozen? ⟨w.heap.size, 3, none⟩ = false := frozen_of_row w2 _ 3 _ _ y1
  have z1 := heap_setCell_same w2 w.heap.size 3 _ _ (.slice A' n' c') y1
  have z2 : (w2.setCell ⟨w.heap.size, 3, none⟩ (.slice A' n' c')).heap[w.heap.size + 1]? = _ := (heap_setCell_other w2 ⟨w.heap.size, 3, none⟩ (w.heap.size + 1) (.slice A' n' c') (show w.heap.size + 1 ≠ w.heap.size by omega)).trans y2
  have HR := Lib.hid R'
  have HB' := Lib.hid (HB2.out.trans (B'.mono HB2.out.size))
  have hz : w.heap.size + 1 < w2.heap.size := lt_of_some y2
  have z1 : (w2.setCell ⟨w.heap.size, 3, none⟩ (.slice A' n' c')).heap[w.heap.size]? = some (.cells #[.int .i64 dp, .int .i64 dm, .int .i64 de, .slice A' n' c'] 108 (0, 0)) := z1
  have HZ := Lib.hid (And.intro z1 z2)
  clear M R' B' y1 y2 z1 z2
  go_wp2_with (first | (with_reducible refine wpList_load_row rfl 108 _ rfl _ rfl 108 _ _ _ HZ.out.1 Try.underlying108 rfl (by kernel_rfl) ?_) | (with_reducible refine wpList_store_part rfl 108 _ _ rfl rfl _ 0 4 rfl 108 _ _ rfl HZ.out.2 (by kernel_rfl) rfl (by simp) (by simp [Value.oneCell']) ?_))
  have hfin : ((w2.setCell ⟨w.heap.size, 3, none⟩ (.slice A' n' c')).setRow (w.heap.size + 1) (over #[.int .i64 0, .int .i64 0, .int .i64 0, .slice none 0 0] 0 #[.int .i64 dp, .int .i64 dm, .int .i64 de, .slice A' n' c'])).heap[w.heap.size + 1]? = some (.cells #[.int .i64 dp, .int .i64 dm, .int .i64 de, .slice A' n' c'] 108 (0, 0)) := by
    exact (setRow_same HZ.out.2).trans (congrArg (fun z => some (Obj.cells z 108 (0, 0))) (over_full (by rfl)))
  refine bodyPost_ret (v := .agg #[.int .i64 dp, .int .i64 dm, .int .i64 de, .slice A' n' c']) (results_cell_row Try.results101 _ _ _ _ _ _ _ rfl hfin Try.underlying108 rfl (by kernel_rfl)) rfl ⟨_, rfl, ?_, ?_⟩
  · have hs2 := HB2.out.size
    have h5 : Rw (w.heap.size + 2 ≤ ·) w2 1 (.slice A' n' c') du := HR.out.mono fun b _ hb => by simpa using hb
    exact ((h5.keep (Kn.setCell _ _ _ _ (by omega))).keep (Kn.setRow _ _ _ (by omega))).mono fun b _ hb => by omega
  · exact below_setRow (HB'.out.setCell (Nat.le_refl _) _) (by omega)
theorem mark102 (n : Nat) (hn : n ≤ 4000000) (w : World) : Calls Try.prog 102 #[.int .i64 n] w fun e w' => ∃ cs, e = .returned (.agg cs) ∧ cs.size = 4 ∧ (∀ u ∈ cs.toList, u.oneCell' = true) ∧ Below w.heap.size w w' := by
  have x1 : (w.alloc (.cells #[.int .i64 0, .int .i64 0, .int .i64 0, .slice none 0 0] 108)).heap[w.heap.size]? = some (.cells #[.int .i64 0, .int .i64 0, .int .i64 0, .slice none 0 0] 108 (0, 0)) := heap_alloc_new w _
  have HX := Lib.hid x1
  have HB := Lib.hid ((Below.refl w.heap.size w).alloc (Nat.le_refl _) (.cells #[.int .i64 0, .int .i64 0, .int .i64 0, .slice none 0 0] 108))
  have hw1 : IntKind.i64.wrap (-1000 - (n : Int)) = -1000 - (n : Int) := wrapi _ (by omega)
  clear x1
  go_enter Try.func102, Try.ntmps102
  go_wp2_with (with_reducible refine wpList_store_part rfl 108 _ _ rfl rfl _ 0 4 rfl 108 _ _ rfl HX.out (by kernel_rfl) rfl (by simp) (by simp [Value.oneCell']) ?_)
  refine bodyPost_ret (results_cell_row Try.results102 _ _ _ _ _ _ _ rfl (setRow_same HX.out) Try.underlying108 rfl (by rw [size_over (by simp)]; kernel_rfl)) rfl ⟨_, rfl, by rw [size_over (by simp)]; rfl, ?_, below_setRow HB.out (Nat.le_refl _)⟩
  rw [over_full (by rfl)]
  simp [Value.oneCell']
theorem size_madeCells (z : Array Value) (k : Nat) : (madeCells z k).size = k := by simp [madeCells]
theorem cells108 : (Try.prog.info? 108).map (·.size) = some 4 := by kernel_rfl
theorem node101' {ok : Nat → Prop} (cs : Array Value) (d : NodeD) (w : World) (h : elemN.Rd ok w cs d) (hs : d.u.length ≤ 3000000) :
    Calls Try.prog 101 #[.agg cs] w fun e w' => ∃ cs', e = .returned (.agg cs') ∧ elemN.Rd (w.heap.size ≤ ·) w' cs' d ∧ Below w.heap.size w w' := by
  obtain ⟨v, rfl, h1⟩ := h
  exact (node101 d v w h1 hs).mono fun e w' ⟨v', e1, h2, h3⟩ => ⟨_, e1, ⟨v', rfl, h2⟩, h3⟩
set_option maxHeartbeats 4000000 in
set_option maxRecDepth 100000 in
theorem twin94 {ok : Nat → Prop} (v : Value) (L : List NodeD) (w : World) (h : elemN.RdL ok w v L) (hs : L.length ≤ 1000000) (hS : ∀ d ∈ L, d.u.length ≤ 3000000) :
    Calls Try.prog 94 #[v] w fun e w' => ∃ v' cs', e = .returned v' ∧ elemN.Own 108 w.heap.size w' v' cs' L ∧ Below w.heap.size w w' := by
  obtain ⟨A, n, c, rfl, rfl, h2, h3⟩ := h
  obtain ⟨i0, hinf, hz0, hz1, hz2⟩ := info_parts info108
  obtain ⟨N, hN⟩ : ∃ N, N = L.length := ⟨_, rfl⟩
  have hmk := run_make (P := Try.prog) w 27 108 i0 _ Try.underlying27 hinf hz0 .i64 .i64 (N : Int) ((N : Int) + 2) (by omega) (by omega) (by rw [hz2]; omega) (by omega)
  rw [show ((N : Int)).toNat = N by omega, show ((N : Int) + 2).toNat = N + 2 by omega, hz1] at hmk
  generalize hROW : madeCells _ ((N + 2) * 4) = ROW at hmk
  have hRs : ROW.size = (N + 2) * 4 := by rw [← hROW, size_madeCells]
  obtain ⟨W1, hW1⟩ : ∃ W, W = w.alloc (.cells ROW 108) := ⟨_, rfl⟩
  have n1 : W1.heap[w.heap.size]? = some (.cells ROW 108 (0, 0)) := by rw [hW1]; exact heap_alloc_new w _
  rw [← hW1] at hmk
  have H0 : Hid (TwD elemN w.heap.size N 108 w L 0 W1) := Lib.hid ⟨⟨ROW, n1, hRs, fun j d hj => absurd hj (by omega)⟩, by rw [hW1]; exact (Below.refl _ _).alloc (Nat.le_refl _) _⟩
  have HS := Lib.hid (And.intro hN (And.intro hs (And.intro hS h3)))
  have hi1 : (0 : Int) ≤ (N : Int) := by omega
  have hw2 : IntKind.i64.wrap ((N : Int) + 2) = (N : Int) + 2 := wrapi _ (by omega)
  have hNs : N ≤ 1000000 := by omega
  rw [← hN]
  clear h2 h3 hS hs hz0 hz1 hz2 hinf n1 hRs hROW hW1 hN
  go_enter Try.func94, Try.ntmps94
  go_wp2_with fail
  go_loopg [4, 15] N (fun k v4 v15 wr => ∃ i : Nat, v15 = .int .i64 (i : Int) ∧ i + k = N ∧ Hid (TwD elemN w.heap.size N 108 w L i wr))
  case atStart => exact ⟨0, rfl, by simp, H0⟩
  case round =>
    clear H0 hmk
    obtain ⟨i, rfl, hik, HT⟩ := hrel
    by_cases hi : i < N
    · obtain ⟨d, hd⟩ : ∃ d, L[i]? = some d := ⟨L[i]'(by have := HS.out.1; omega), List.getElem?_eq_getElem _⟩
      obtain ⟨b, o, cur, tt, fr, rfl, p1, p2, p3⟩ := HS.out.2.2.2 (by have := HS.out.1; omega)
      obtain ⟨p4, p5⟩ := p3 i d hd
      change o + i * 4 + 4 ≤ cur.size at p4
      change elemN.Rd ok w (cur.extract (o + i * 4) (o + i * 4 + 4)) d at p5
      generalize hx : cur.extract (o + i * 4) (o + i * 4 + 4) = c0 at p5
      have hT := HT.out
      have hbr := (hT.below.block b (lt_of_some p2)).trans p2
      have M := node101' c0 d wr (elemN.keep p5 (Kn.of_below hT.below)) (HS.out.2.2.1 d (List.mem_of_getElem? hd))
      have HX := Lib.hid (And.intro hbr (And.intro p4 hx))
      have HD := Lib.hid (And.intro hd hi)
      have i1 : (0 : Int) ≤ (i : Int) := by omega
      have i2 : (i : Int) < (N : Int) := by omega
      clear p1 p2 p3 p4 p5 hx hbr hd hT
      go_wp2_with (with_reducible refine wpList_load_part' rfl 108 _ rfl b (o + i * 4) 4 rfl _ cur _ _ HX.out.1 Try.underlying108 rfl cells108 HX.out.2.1 c0 HX.out.2.2 ?_)
      refine M.mono ?_
      rintro e w2 ⟨c', rfl, R', B'⟩
      have hT2 := HT.out.keep B'
      obtain ⟨cu2, hc2, hs2, _⟩ := hT2.out
      have hB0 := Nat.le_of_lt (lt_of_some HT.out.out.choose_spec.1)
      have hR2 := elemN.mono (ok' := fun b => w.heap.size < b) R' fun b _ hb => Nat.lt_of_lt_of_le (lt_of_some HT.out.out.choose_spec.1) hb
      have hle : i * 4 + 4 ≤ cu2.size := by rw [hs2]; exact Nat.le_trans (mul_step (by omega : i < N + 2)) (Nat.le_refl _)
      have HC := Lib.hid (And.intro hT2 (And.intro hc2 (And.intro hle (And.intro (elemN.size R') (And.intro (elemN.one R') hR2)))))
      have hsc : c'.size = 4 := elemN.size R'
      have HSC := Lib.hid hsc
      clear M R' B' hT2 hc2 hs2 hle hR2 hB0 hsc
      go_wp2_with (with_reducible refine wpList_store_part rfl 108 _ _ rfl rfl w.heap.size (i * 4) 4 rfl 108 cu2 c' rfl HC.out.2.1 cells108 HSC.out HC.out.2.2.1 HC.out.2.2.2.2.1 ?_)
      go_roundg (N - (i + 1))
      case measure => have := HD.out.2; omega
      case rel => exact ⟨i + 1, by go_num, by have := HD.out.2; omega, Lib.hid (HC.out.1.put HC.out.2.1 HC.out.2.2.1 HD.out.1 HC.out.2.2.2.2.2)⟩
    · obtain rfl : i = N := by omega
      clear hik hi
      have i3 : (0 : Int) ≤ (i : Int) := by omega
      go_wp2_with fail
      go_loopg [6] 2 (fun k v6 wr => ∃ m : Nat, v6 = .int .i64 (m : Int) ∧ m + k = i + 2 ∧ Hid (TwD elemN w.heap.size i 108 w L i wr ∧ i ≤ m))
      case atStart => exact ⟨i, rfl, rfl, Lib.hid ⟨HT.out, Nat.le_refl _⟩⟩
      case round =>
        clear HT
        obtain ⟨m, rfl, hmk, HI⟩ := hrel
        by_cases hlt : m < i + 2
        · have hNi := HI.out.2
          have M := mark102 m (by omega) wr
          have i1 : (0 : Int) ≤ (m : Int) := by omega
          have i2 : (m : Int) < (i : Int) + 2 := by omega
          have HL := Lib.hid (And.intro hlt hNi)
          clear hNi
          go_wp2_with (go_at_call 102; with_reducible refine M.mono ?_)
          rintro e w2 ⟨cs, rfl, hcs, hc1, hB2⟩
          have HI2 := HI.out.1.keep hB2
          obtain ⟨cur, hcu, hcz, hcj⟩ := HI2.out
          have hle : m * 4 + 4 ≤ cur.size := by rw [hcz]; exact Nat.le_trans (mul_step HL.out.1) (Nat.le_refl _)
          have HC := Lib.hid (And.intro HI2 (And.intro hcu (And.intro hle (And.intro hcs hc1))))
          clear hcu hcz hcj HI2 hcs hc1 hB2 M hle
          go_wp2_with (with_reducible refine wpList_store_part rfl 108 _ _ rfl rfl w.heap.size (m * 4) 4 rfl 108 cur cs rfl HC.out.2.1 cells108 HC.out.2.2.2.1 HC.out.2.2.1 HC.out.2.2.2.2 ?_)
          go_roundg (i + 2 - (m + 1))
          case measure => have := HL.out.1; omega
          case rel => exact ⟨m + 1, by go_num, by have := HL.out.1; omega, Lib.hid ⟨HC.out.1.mark HC.out.2.1 HL.out.2 HC.out.2.2.1 HC.out.2.2.2.1, Nat.le_succ_of_le HL.out.2⟩⟩
        · obtain rfl : m = i + 2 := by omega
          go_wp2_with fail
          go_ret
          have hN := HS.out.1
          have h6 := HI.out.1
          subst hN
          obtain ⟨cs', h7⟩ := h6.own (c := L.length + 2) rfl (by have := HS.out.2.1; unfold maxLen; omega)
          exact ⟨_, cs', rfl, h7, h6.below⟩
set_option maxHeartbeats 4000000 in
set_option maxRecDepth 100000 in
theorem twin87 {ok : Nat → Prop} (v : Value) (ns : List NodeD) (w : World) (h : RdN ok w v ns) (hs : SzN ns) :
    Calls Try.prog 87 #[.agg #[v]] w fun e w' => ∃ cs, e = .returned (.agg cs) ∧ (∃ v', cs = #[v'] ∧ RdN (w.heap.size ≤ ·) w' v' ns) ∧ Below w.heap.size w w' := by
  obtain ⟨Ax, nx, cx, rfl⟩ := h.slice
  obtain ⟨cs, hcs⟩ : ∃ cs : Array Value, cs = #[.slice Ax nx cx] := ⟨_, rfl⟩
  rw [← hcs]
  obtain ⟨ZR, hZR⟩ : ∃ z : Array Value, z = #[.slice none 0 0] := ⟨_, rfl⟩
  obtain ⟨W0, hW0⟩ : ∃ W, W = (w.alloc (.cells cs 29)).alloc (.cells ZR 29) := ⟨_, rfl⟩
  have X0 : Hid (Bx w W0 29 (#[.slice Ax nx cx]) ZR) := Lib.hid (by rw [hW0, ← hcs]; exact Bx.start w 29 cs ZR)
  have HZ := Lib.hid (And.intro hZR (And.intro hW0 (show ZR.size = 1 by rw [hZR]; rfl)))
  clear hW0 hZR hcs
  have M0 := twin94 (.slice Ax nx cx) ns W0 (h.keep X0.out.old).elem hs.1 hs.2
  have l0 := X0.out.cell (off := 0) (v := .slice Ax nx cx) (by rfl)
  go_enter Try.func87, Try.ntmps87
  go_wp2_with (first | (rw [← HZ.out.1, ← HZ.out.2.1]))
  refine M0.mono ?_
  rintro e w1 ⟨v0, cs0, rfl, R0', B0⟩
  have R0 := R0'.rdL.nodes
  obtain ⟨A9, c9, rfl⟩ := R0'.slice
  have Y0 := Lib.hid (X0.out.keep B0)
  have q0 := Y0.out.cell (off := 0) (v := .slice Ax nx cx) (by rfl)
  have f0 := Y0.out.frozen 0
  obtain ⟨W1, hW1⟩ : ∃ W, W = w1.setCell ⟨w.heap.size, 0, none⟩ (.slice A9 ns.length c9) := ⟨_, rfl⟩
  have X1 : Hid (Bx w W1 29 (#[.slice A9 ns.length c9]) ZR) := Lib.hid (by rw [hW1]; exact Y0.out.put1 0 _ (by rfl))
  have Z0 : Hid (Kn (fun b => w.heap.size + 2 ≤ b) W0 W1 ∧ Kn (fun b => w.heap.size + 2 ≤ b) w1 W1 ∧ w.heap.size + 2 ≤ W0.heap.size) := Lib.hid ⟨by rw [hW1]; exact Bx.kn1 B0 _ _, by rw [hW1]; exact Kn.setCell _ _ _ _ (by omega), X0.out.two⟩
  have HR0 := Lib.hid R0
  have HW1 := Lib.hid hW1
  clear M0 R0 B0 hW1 l0
  have szf : (#[.slice A9 ns.length c9] : Array Value).size = 1 := rfl
  have szi : (Try.prog.info? 29).map (·.size) = some (#[.slice A9 ns.length c9] : Array Value).size := by rw [szf]; exact cells29
  have onf : ∀ u ∈ (#[.slice A9 ns.length c9] : Array Value).toList, u.oneCell' = true := (by simp [Value.oneCell'])
  have ftf : 0 + 1 ≤ ZR.size := by rw [HZ.out.2.2]; decide
  go_wp2_with (first | (rw [← HW1.out]) | (with_reducible refine wpList_load_row rfl 29 _ rfl _ rfl 29 _ _ _ X1.out.box Try.underlying29 rfl szi ?_) | (with_reducible refine wpList_store_part rfl 29 _ _ rfl rfl (w.heap.size + 1) 0 1 rfl 29 _ _ rfl X1.out.res cells29 szf ftf onf ?_))
  have hF := X1.out.fin (by rw [HZ.out.2.2, szf])
  refine bodyPost_ret (v := .agg (#[.slice A9 ns.length c9])) (results_cell_row Try.results87 _ _ _ _ _ _ _ rfl hF.1 Try.underlying29 rfl szi) rfl ⟨_, rfl, ?_, hF.2.1⟩
  have E0 := (((HR0.out.mono (ok' := fun b => w.heap.size + 2 ≤ b) fun b _ hb => Nat.le_trans Z0.out.2.2 hb).keep Z0.out.2.1).keep hF.2.2).mono (ok' := fun b => w.heap.size ≤ b) fun b _ hb => Nat.le_trans (Nat.le_add_right _ 2) hb
  exact ⟨_, rfl, E0⟩
set_option maxHeartbeats 4000000 in
set_option maxRecDepth 100000 in
theorem twin68 {ok : Nat → Prop} (cs : Array Value) (d : CommitD) (w : World) (h : RdC ok w cs d) (hs : SzC d) :
    Calls Try.prog 68 #[.agg cs] w fun e w' => ∃ cs', e = .returned (.agg cs') ∧ RdC (w.heap.size ≤ ·) w' cs' d ∧ Below w.heap.size w w' := by
  obtain ⟨va, vr, vs, vj, vt, hcs, h1, h2, h3, h4, h5⟩ := h.out
  clear h
  obtain ⟨Pa, pa, qa, rfl⟩ := h1.slice
  obtain ⟨Pr, pr, qr, rfl⟩ := h2.slice
  obtain ⟨Ps, ps, qs, rfl⟩ := h3.slice
  obtain ⟨Pj, pj, qj, rfl⟩ := h4.slice
  obtain ⟨Pt, pt, qt, rfl⟩ := h5.slice
  obtain ⟨ZR, hZR⟩ : ∃ z : Array Value, z = #[.int .i64 0, .int .i64 0, .int .i64 0, .int .i64 0, .int .i64 0, .bool false, .slice none 0 0, .slice none 0 0, .slice none 0 0, .slice none 0 0, .int .i64 0, .int .i64 0, .slice none 0 0, .int .i64 0, .int .i64 0] := ⟨_, rfl⟩
  obtain ⟨W0, hW0⟩ : ∃ W, W = (w.alloc (.cells cs 31)).alloc (.cells ZR 31) := ⟨_, rfl⟩
  have X0 : Hid (Bx w W0 31 (d.cs (.slice Pa pa qa) (.slice Pr pr qr) (.slice Ps ps qs) (.slice Pj pj qj) (.slice Pt pt qt)) ZR) := Lib.hid (by rw [hW0, ← hcs]; exact Bx.start w 31 cs ZR)
  have HZ := Lib.hid (And.intro hZR (And.intro hW0 (show ZR.size = 15 by rw [hZR]; rfl)))
  clear hW0 hZR hcs
  have M0 := twin87 (.slice Pt pt qt) d.ns W0 (h5.keep X0.out.old) hs.ns
  have ft0 : 12 + 1 ≤ (d.cs (.slice Pa pa qa) (.slice Pr pr qr) (.slice Ps ps qs) (.slice Pj pj qj) (.slice Pt pt qt) : Array Value).size := (by show 12 + 1 ≤ 15; decide)
  have pr0 : (d.cs (.slice Pa pa qa) (.slice Pr pr qr) (.slice Ps ps qs) (.slice Pj pj qj) (.slice Pt pt qt) : Array Value).extract 12 (12 + 1) = #[.slice Pt pt qt] := (by rfl)
  go_enter Try.func68, Try.ntmps68
  go_wp2_with (first | (rw [← HZ.out.1, ← HZ.out.2.1]) | (with_reducible refine wpList_load_part' rfl 29 _ rfl w.heap.size 12 1 rfl 31 _ _ _ X0.out.box Try.underlying29 rfl cells29 ft0 (#[.slice Pt pt qt]) pr0 ?_))
  refine M0.mono ?_
  rintro e w1 ⟨cs0, rfl, ⟨v0, rfl, R0⟩, B0⟩
  have Y0 := Lib.hid (X0.out.keep B0)
  obtain ⟨A0, n0, c0, rfl⟩ := R0.slice
  obtain ⟨W1, hW1⟩ : ∃ W, W = w1.setRow w.heap.size (over (d.cs (.slice Pa pa qa) (.slice Pr pr qr) (.slice Ps ps qs) (.slice Pj pj qj) (.slice Pt pt qt)) 12 (#[.slice A0 n0 c0])) := ⟨_, rfl⟩
  have X1 : Hid (Bx w W1 31 (d.cs (.slice Pa pa qa) (.slice Pr pr qr) (.slice Ps ps qs) (.slice Pj pj qj) (.slice A0 n0 c0)) ZR) := Lib.hid (by rw [hW1]; exact Y0.out.put 12 _ (by rfl))
  have Z0 : Hid (Kn (fun b => w.heap.size + 2 ≤ b) W0 W1 ∧ Kn (fun b => w.heap.size + 2 ≤ b) w1 W1 ∧ w.heap.size + 2 ≤ W0.heap.size) := Lib.hid ⟨by rw [hW1]; exact Bx.kn B0 _, by rw [hW1]; exact Kn.setRow _ _ _ (by omega), X0.out.two⟩
  have HR0 := Lib.hid R0
  have HW1 := Lib.hid hW1
  have sz0 : (#[.slice A0 n0 c0] : Array Value).size = 1 := rfl
  have on0 : ∀ u ∈ (#[.slice A0 n0 c0] : Array Value).toList, u.oneCell' = true := (by simp [Value.oneCell'])
  clear M0 R0 B0 hW1
  have M1 := twin88 (.slice Pa pa qa) d.a W1 (h1.keep X1.out.old) hs.a
  have l1 := X1.out.cell (off := 6) (v := .slice Pa pa qa) (by rfl)
  go_wp2_with (first | (rw [← HW1.out]) | (with_reducible refine wpList_store_part rfl 29 _ _ rfl rfl w.heap.size 12 1 rfl 31 _ _ rfl Y0.out.box cells29 sz0 ft0 on0 ?_))
  refine M1.mono ?_
  rintro e w2 ⟨v1, rfl, R1, B1⟩
  have Y1 := Lib.hid (X1.out.keep B1)
  obtain ⟨A1, n1, c1, rfl⟩ := R1.slice
  have q1 := Y1.out.cell (off := 6) (v := .slice Pa pa qa) (by rfl)
  have f1 := Y1.out.frozen 6
  obtain ⟨W2, hW2⟩ : ∃ W, W = w2.setCell ⟨w.heap.size, 6, none⟩ (.slice A1 n1 c1) := ⟨_, rfl⟩
  have X2 : Hid (Bx w W2 31 (d.cs (.slice A1 n1 c1) (.slice Pr pr qr) (.slice Ps ps qs) (.slice Pj pj qj) (.slice A0 n0 c0)) ZR) := Lib.hid (by rw [hW2]; exact Y1.out.put1 6 _ (by rfl))
  have Z1 : Hid (Kn (fun b => w.heap.size + 2 ≤ b) W1 W2 ∧ Kn (fun b => w.heap.size + 2 ≤ b) w2 W2 ∧ w.heap.size + 2 ≤ W1.heap.size) := Lib.hid ⟨by rw [hW2]; exact Bx.kn1 B1 _ _, by rw [hW2]; exact Kn.setCell _ _ _ _ (by omega), X1.out.two⟩
  have HR1 := Lib.hid R1
  have HW2 := Lib.hid hW2
  clear M1 R1 B1 hW2 l1
  have M2 := twin89 (.slice Pr pr qr) d.r W2 (h2.keep X2.out.old) hs.r
  have l2 := X2.out.cell (off := 7) (v := .slice Pr pr qr) (by rfl)
  go_wp2_with (first | (rw [← HW2.out]))
  refine M2.mono ?_
  rintro e w3 ⟨v2, rfl, R2, B2⟩
  have Y2 := Lib.hid (X2.out.keep B2)
  obtain ⟨A2, n2, c2, rfl⟩ := R2.slice
  have q2 := Y2.out.cell (off := 7) (v := .slice Pr pr qr) (by rfl)
  have f2 := Y2.out.frozen 7
  obtain ⟨W3, hW3⟩ : ∃ W, W = w3.setCell ⟨w.heap.size, 7, none⟩ (.slice A2 n2 c2) := ⟨_, rfl⟩
  have X3 : Hid (Bx w W3 31 (d.cs (.slice A1 n1 c1) (.slice A2 n2 c2) (.slice Ps ps qs) (.slice Pj pj qj) (.slice A0 n0 c0)) ZR) := Lib.hid (by rw [hW3]; exact Y2.out.put1 7 _ (by rfl))
  have Z2 : Hid (Kn (fun b => w.heap.size + 2 ≤ b) W2 W3 ∧ Kn (fun b => w.heap.size + 2 ≤ b) w3 W3 ∧ w.heap.size + 2 ≤ W2.heap.size) := Lib.hid ⟨by rw [hW3]; exact Bx.kn1 B2 _ _, by rw [hW3]; exact Kn.setCell _ _ _ _ (by omega), X2.out.two⟩
  have HR2 := Lib.hid R2
  have HW3 := Lib.hid hW3
  clear M2 R2 B2 hW3 l2
  have M3 := twin90 (.slice Ps ps qs) d.s W3 (h3.keep X3.out.old) hs.s
  have l3 := X3.out.cell (off := 8) (v := .slice Ps ps qs) (by rfl)
  go_wp2_with (first | (rw [← HW3.out]))
  refine M3.mono ?_
  rintro e w4 ⟨v3, rfl, R3, B3⟩
  have Y3 := Lib.hid (X3.out.keep B3)
  obtain ⟨A3, n3, c3, rfl⟩ := R3.slice
  have q3 := Y3.out.cell (off := 8) (v := .slice Ps ps qs) (by rfl)
  have f3 := Y3.out.frozen 8
  obtain ⟨W4, hW4⟩ : ∃ W, W = w4.setCell ⟨w.heap.size, 8, none⟩ (.slice A3 n3 c3) := ⟨_, rfl⟩
  have X4 : Hid (Bx w W4 31 (d.cs (.slice A1 n1 c1) (.slice A2 n2 c2) (.slice A3 n3 c3) (.slice Pj pj qj) (.slice A0 n0 c0)) ZR) := Lib.hid (by rw [hW4]; exact Y3.out.put1 8 _ (by rfl))
  have Z3 : Hid (Kn (fun b => w.heap.size + 2 ≤ b) W3 W4 ∧ Kn (fun b => w.heap.size + 2 ≤ b) w4 W4 ∧ w.heap.size + 2 ≤ W3.heap.size) := Lib.hid ⟨by rw [hW4]; exact Bx.kn1 B3 _ _, by rw [hW4]; exact Kn.setCell _ _ _ _ (by omega), X3.out.two⟩
  have HR3 := Lib.hid R3
  have HW4 := Lib.hid hW4
  clear M3 R3 B3 hW4 l3
  have M4 := twin91 (.slice Pj pj qj) d.j W4 (h4.keep X4.out.old) hs.j
  have l4 := X4.out.cell (off := 9) (v := .slice Pj pj qj) (by rfl)
  go_wp2_with (first | (rw [← HW4.out]))
  refine M4.mono ?_
  rintro e w5 ⟨v4, rfl, R4, B4⟩
  have Y4 := Lib.hid (X4.out.keep B4)
  obtain ⟨A4, n4, c4, rfl⟩ := R4.slice
  have q4 := Y4.out.cell (off := 9) (v := .slice Pj pj qj) (by rfl)
  have f4 := Y4.out.frozen 9
  obtain ⟨W5, hW5⟩ : ∃ W, W = w5.setCell ⟨w.heap.size, 9, none⟩ (.slice A4 n4 c4) := ⟨_, rfl⟩
  have X5 : Hid (Bx w W5 31 (d.cs (.slice A1 n1 c1) (.slice A2 n2 c2) (.slice A3 n3 c3) (.slice A4 n4 c4) (.slice A0 n0 c0)) ZR) := Lib.hid (by rw [hW5]; exact Y4.out.put1 9 _ (by rfl))
  have Z4 : Hid (Kn (fun b => w.heap.size + 2 ≤ b) W4 W5 ∧ Kn (fun b => w.heap.size + 2 ≤ b) w5 W5 ∧ w.heap.size + 2 ≤ W4.heap.size) := Lib.hid ⟨by rw [hW5]; exact Bx.kn1 B4 _ _, by rw [hW5]; exact Kn.setCell _ _ _ _ (by omega), X4.out.two⟩
  have HR4 := Lib.hid R4
  have HW5 := Lib.hid hW5
  clear M4 R4 B4 hW5 l4
  have szf : (d.cs (.slice A1 n1 c1) (.slice A2 n2 c2) (.slice A3 n3 c3) (.slice A4 n4 c4) (.slice A0 n0 c0) : Array Value).size = 15 := rfl
  have szi : (Try.prog.info? 31).map (·.size) = some (d.cs (.slice A1 n1 c1) (.slice A2 n2 c2) (.slice A3 n3 c3) (.slice A4 n4 c4) (.slice A0 n0 c0) : Array Value).size := by rw [szf]; exact cells31
  have onf : ∀ u ∈ (d.cs (.slice A1 n1 c1) (.slice A2 n2 c2) (.slice A3 n3 c3) (.slice A4 n4 c4) (.slice A0 n0 c0) : Array Value).toList, u.oneCell' = true := (by simp [CommitD.cs, Value.oneCell'])
  have ftf : 0 + 15 ≤ ZR.size := by rw [HZ.out.2.2]; decide
  go_wp2_with (first | (rw [← HW5.out]) | (with_reducible refine wpList_load_row rfl 31 _ rfl _ rfl 31 _ _ _ X5.out.box Try.underlying31 rfl szi ?_) | (with_reducible refine wpList_store_part rfl 31 _ _ rfl rfl (w.heap.size + 1) 0 15 rfl 31 _ _ rfl X5.out.res cells31 szf ftf onf ?_))
  have hF := X5.out.fin (by rw [HZ.out.2.2, szf])
  refine bodyPost_ret (v := .agg (d.cs (.slice A1 n1 c1) (.slice A2 n2 c2) (.slice A3 n3 c3) (.slice A4 n4 c4) (.slice A0 n0 c0))) (results_cell_row Try.results68 _ _ _ _ _ _ _ rfl hF.1 Try.underlying31 rfl szi) rfl ⟨_, rfl, ?_, hF.2.1⟩
  have E0 := (((((((HR0.out.mono (ok' := fun b => w.heap.size + 2 ≤ b) fun b _ hb => Nat.le_trans Z0.out.2.2 hb).keep Z0.out.2.1).keep Z1.out.1).keep Z2.out.1).keep Z3.out.1).keep Z4.out.1).keep hF.2.2).mono (ok' := fun b => w.heap.size ≤ b) fun b _ hb => Nat.le_trans (Nat.le_add_right _ 2) hb
  have E1 := ((((((HR1.out.mono (ok' := fun b => w.heap.size + 2 ≤ b) fun b _ hb => Nat.le_trans Z1.out.2.2 hb).keep Z1.out.2.1).keep Z2.out.1).keep Z3.out.1).keep Z4.out.1).keep hF.2.2).mono (ok' := fun b => w.heap.size ≤ b) fun b _ hb => Nat.le_trans (Nat.le_add_right _ 2) hb
  have E2 := (((((HR2.out.mono (ok' := fun b => w.heap.size + 2 ≤ b) fun b _ hb => Nat.le_trans Z2.out.2.2 hb).keep Z2.out.2.1).keep Z3.out.1).keep Z4.out.1).keep hF.2.2).mono (ok' := fun b => w.heap.size ≤ b) fun b _ hb => Nat.le_trans (Nat.le_add_right _ 2) hb
  have E3 := ((((HR3.out.mono (ok' := fun b => w.heap.size + 2 ≤ b) fun b _ hb => Nat.le_trans Z3.out.2.2 hb).keep Z3.out.2.1).keep Z4.out.1).keep hF.2.2).mono (ok' := fun b => w.heap.size ≤ b) fun b _ hb => Nat.le_trans (Nat.le_add_right _ 2) hb
  have E4 := (((HR4.out.mono (ok' := fun b => w.heap.size + 2 ≤ b) fun b _ hb => Nat.le_trans Z4.out.2.2 hb).keep Z4.out.2.1).keep hF.2.2).mono (ok' := fun b => w.heap.size ≤ b) fun b _ hb => Nat.le_trans (Nat.le_add_right _ 2) hb
  exact ⟨⟨_, _, _, _, _, rfl, E1, E2, E3, E4, E0⟩⟩
theorem cells36 : (Try.prog.info? 36).map (·.size) = some 4 := by kernel_rfl
set_option maxHeartbeats 4000000 in
set_option maxRecDepth 100000 in
theorem twin69 {ok : Nat → Prop} (v : Value) (g e p : Int) (ns : List NodeD) (w : World) (h : RdN ok w v ns) (hs : SzN ns) :
    Calls Try.prog 69 #[.agg #[.int .i64 g, .int .i64 e, v, .int .i64 p]] w fun x w' => ∃ cs', x = .returned (.agg cs') ∧ (∃ v', cs' = #[.int .i64 g, .int .i64 e, v', .int .i64 p] ∧ RdN (w.heap.size ≤ ·) w' v' ns) ∧ Below w.heap.size w w' := by
  obtain ⟨Pt, pt, qt, rfl⟩ := h.slice
  obtain ⟨cs, hcs⟩ : ∃ cs : Array Value, cs = #[.int .i64 g, .int .i64 e, (.slice Pt pt qt), .int .i64 p] := ⟨_, rfl⟩
  rw [← hcs]
  obtain ⟨ZR, hZR⟩ : ∃ z : Array Value, z = #[.int .i64 0, .int .i64 0, .slice none 0 0, .int .i64 0] := ⟨_, rfl⟩
  obtain ⟨W0, hW0⟩ : ∃ W, W = (w.alloc (.cells cs 36)).alloc (.cells ZR 36) := ⟨_, rfl⟩
  have X0 : Hid (Bx w W0 36 (#[.int .i64 g, .int .i64 e, (.slice Pt pt qt), .int .i64 p]) ZR) := Lib.hid (by rw [hW0, ← hcs]; exact Bx.start w 36 cs ZR)
  have HZ := Lib.hid (And.intro hZR (And.intro hW0 (show ZR.size = 4 by rw [hZR]; rfl)))
  clear hW0 hZR hcs
  have M0 := twin87 (.slice Pt pt qt) ns W0 (h.keep X0.out.old) hs
  have ft0 : 2 + 1 ≤ (#[.int .i64 g, .int .i64 e, (.slice Pt pt qt), .int .i64 p] : Array Value).size := (by show 2 + 1 ≤ 4; decide)
  have pr0 : (#[.int .i64 g, .int .i64 e, (.slice Pt pt qt), .int .i64 p] : Array Value).extract 2 (2 + 1) = #[.slice Pt pt qt] := (by rfl)
  go_enter Try.func69, Try.ntmps69
  go_wp2_with (first | (rw [← HZ.out.1, ← HZ.out.2.1]) | (with_reducible refine wpList_load_part' rfl 29 _ rfl w.heap.size 2 1 rfl 36 _ _ _ X0.out.box Try.underlying29 rfl cells29 ft0 (#[.slice Pt pt qt]) pr0 ?_))
  refine M0.mono ?_
  rintro x w1 ⟨cs0, rfl, ⟨v0, rfl, R0⟩, B0⟩
  have Y0 := Lib.hid (X0.out.keep B0)
  obtain ⟨A0, n0, c0, rfl⟩ := R0.slice
  obtain ⟨W1, hW1⟩ : ∃ W, W = w1.setRow w.heap.size (over (#[.int .i64 g, .int .i64 e, (.slice Pt pt qt), .int .i64 p]) 2 (#[.slice A0 n0 c0])) := ⟨_, rfl⟩
  have X1 : Hid (Bx w W1 36 (#[.int .i64 g, .int .i64 e, (.slice A0 n0 c0), .int .i64 p]) ZR) := Lib.hid (by rw [hW1]; exact Y0.out.put 2 _ (by rfl))
  have Z0 : Hid (Kn (fun b => w.heap.size + 2 ≤ b) W0 W1 ∧ Kn (fun b => w.heap.size + 2 ≤ b) w1 W1 ∧ w.heap.size + 2 ≤ W0.heap.size) := Lib.hid ⟨by rw [hW1]; exact Bx.kn B0 _, by rw [hW1]; exact Kn.setRow _ _ _ (by omega), X0.out.two⟩
  have HR0 := Lib.hid R0
  have HW1 := Lib.hid hW1
  have sz0 : (#[.slice A0 n0 c0] : Array Value).size = 1 := rfl
  have on0 : ∀ u ∈ (#[.slice A0 n0 c0] : Array Value).toList, u.oneCell' = true := (by simp [Value.oneCell'])
  clear M0 R0 B0 hW1
  have szf : (#[.int .i64 g, .int .i64 e, (.slice A0 n0 c0), .int .i64 p] : Array Value).size = 4 := rfl
  have szi : (Try.prog.info? 36).map (·.size) = some (#[.int .i64 g, .int .i64 e, (.slice A0 n0 c0), .int .i64 p] : Array Value).size := by rw [szf]; exact cells36
  have onf : ∀ u ∈ (#[.int .i64 g, .int .i64 e, (.slice A0 n0 c0), .int .i64 p] : Array Value).toList, u.oneCell' = true := (by simp [Value.oneCell'])
  have ftf : 0 + 4 ≤ ZR.size := by rw [HZ.out.2.2]; decide
  go_wp2_with (first | (rw [← HW1.out]) | (with_reducible refine wpList_store_part rfl 29 _ _ rfl rfl w.heap.size 2 1 rfl 36 _ _ rfl Y0.out.box cells29 sz0 ft0 on0 ?_) | (with_reducible refine wpList_load_row rfl 36 _ rfl _ rfl 36 _ _ _ X1.out.box Try.underlying36 rfl szi ?_) | (with_reducible refine wpList_store_part rfl 36 _ _ rfl rfl (w.heap.size + 1) 0 4 rfl 36 _ _ rfl X1.out.res cells36 szf ftf onf ?_))
  have hF := X1.out.fin (by rw [HZ.out.2.2, szf])
  refine bodyPost_ret (v := .agg (#[.int .i64 g, .int .i64 e, (.slice A0 n0 c0), .int .i64 p])) (results_cell_row Try.results69 _ _ _ _ _ _ _ rfl hF.1 Try.underlying36 rfl szi) rfl ⟨_, rfl, ?_, hF.2.1⟩
  have E0 := (((HR0.out.mono (ok' := fun b => w.heap.size + 2 ≤ b) fun b _ hb => Nat.le_trans Z0.out.2.2 hb).keep Z0.out.2.1).keep hF.2.2).mono (ok' := fun b => w.heap.size ≤ b) fun b _ hb => Nat.le_trans (Nat.le_add_right _ 2) hb
  exact ⟨_, rfl, E0⟩
theorem mail_one (d : MailD) (c : Array Value) (v : Value) (h : ∀ u ∈ c.toList, u.oneCell' = true) {A : Option Addr} {n k : Nat} (hv : v = .slice A n k := by rfl) : ∀ u ∈ (d.cs c v).toList, u.oneCell' = true := by
  subst hv
  intro u hu
  simp only [MailD.cs, MailD.m1, MailD.m2, Array.toList_append, List.mem_append] at hu
  rcases hu with (((hu | hu) | hu) | hu) | hu
  · simp at hu; subst hu; rfl
  · exact h u hu
  · simp at hu; rcases hu with rfl | rfl | rfl | rfl | rfl | rfl | rfl <;> rfl
  · simp at hu; subst hu; rfl
  · simp at hu; rcases hu with rfl | rfl | rfl | rfl | rfl | rfl <;> rfl
theorem MailD.partF (d : MailD) (c : Array Value) (vt : Value) (hc : c.size = 15) : (d.cs c vt).extract 21 (21 + 4) = #[.int .i64 d.fg, .int .i64 d.fe, vt, .int .i64 d.fp] := by
  apply Array.ext'
  simp [MailD.cs, MailD.m1, MailD.m2, hc, List.take_append, List.drop_append, List.take_of_length_le, List.drop_of_length_le]
theorem MailD.overF (d : MailD) (c : Array Value) (vt vt' : Value) (hc : c.size = 15) : over (d.cs c vt) 21 #[.int .i64 d.fg, .int .i64 d.fe, vt', .int .i64 d.fp] = d.cs c vt' := by
  apply Array.ext'
  simp [over, MailD.cs, MailD.m1, MailD.m2, hc, List.take_append, List.drop_append, List.take_of_length_le, List.drop_of_length_le]
set_option maxHeartbeats 4000000 in
set_option maxRecDepth 100000 in
theorem twin55 {ok : Nat → Prop} (cs : Array Value) (d : MailD) (w : World) (h : RdM ok w cs d) (hs : SzM d) :
    Calls Try.prog 55 #[.agg cs] w fun e w' => ∃ cs', e = .returned (.agg cs') ∧ RdM (w.heap.size ≤ ·) w' cs' d ∧ Below w.heap.size w w' := by
  obtain ⟨cc, vt, hcs, h1, h2⟩ := h.out
  clear h
  have hcc := h1.size
  obtain ⟨Pt, pt, qt, rfl⟩ := h2.slice
  obtain ⟨ZR, hZR⟩ : ∃ z : Array Value, z = #[.int .u8 0, .int .i64 0, .int .i64 0, .int .i64 0, .int .i64 0, .int .i64 0, .bool false, .slice none 0 0, .slice none 0 0, .slice none 0 0, .slice none 0 0, .int .i64 0, .int .i64 0, .slice none 0 0, .int .i64 0, .int .i64 0, .int .i64 0, .int .i64 0, .int .i64 0, .int .i64 0, .int .i64 0, .int .i64 0, .int .i64 0, .slice none 0 0, .int .i64 0, .int .i64 0, .int .i64 0, .int .i64 0, .int .i64 0, .int .i64 0] := ⟨_, rfl⟩
  obtain ⟨W0, hW0⟩ : ∃ W, W = (w.alloc (.cells cs 40)).alloc (.cells ZR 40) := ⟨_, rfl⟩
  have X0 : Hid (Bx w W0 40 (d.cs cc (.slice Pt pt qt)) ZR) := Lib.hid (by rw [hW0, ← hcs]; exact Bx.start w 40 cs ZR)
  have HZ := Lib.hid (And.intro hZR (And.intro hW0 (show ZR.size = 30 by rw [hZR]; rfl)))
  clear hW0 hZR hcs
  have M0 := twin68 cc d.c W0 (h1.keep X0.out.old) hs.c
  have ft0 : 1 + 15 ≤ (d.cs cc (.slice Pt pt qt) : Array Value).size := (by rw [d.size _ _ hcc]; decide)
  have pr0 : (d.cs cc (.slice Pt pt qt) : Array Value).extract 1 (1 + 15) = cc := (d.partC _ _ hcc)
  go_enter Try.func55, Try.ntmps55
  go_wp2_with (first | (rw [← HZ.out.1, ← HZ.out.2.1]) | (with_reducible refine wpList_load_part' rfl 31 _ rfl w.heap.size 1 15 rfl 40 _ _ _ X0.out.box Try.underlying31 rfl cells31 ft0 (cc) pr0 ?_))
  refine M0.mono ?_
  rintro e w1 ⟨v0, rfl, R0, B0⟩
  have Y0 := Lib.hid (X0.out.keep B0)
  obtain ⟨W1, hW1⟩ : ∃ W, W = w1.setRow w.heap.size (over (d.cs cc (.slice Pt pt qt)) 1 (v0)) := ⟨_, rfl⟩
  have X1 : Hid (Bx w W1 40 (d.cs v0 (.slice Pt pt qt)) ZR) := Lib.hid (by rw [hW1]; exact Y0.out.put 1 _ (d.overC _ _ _ hcc R0.size))
  have Z0 : Hid (Kn (fun b => w.heap.size + 2 ≤ b) W0 W1 ∧ Kn (fun b => w.heap.size + 2 ≤ b) w1 W1 ∧ w.heap.size + 2 ≤ W0.heap.size) := Lib.hid ⟨by rw [hW1]; exact Bx.kn B0 _, by rw [hW1]; exact Kn.setRow _ _ _ (by omega), X0.out.two⟩
  have HR0 := Lib.hid R0
  have HW1 := Lib.hid hW1
  have sz0 : (v0 : Array Value).size = 15 := HR0.out.size
  have on0 : ∀ u ∈ (v0 : Array Value).toList, u.oneCell' = true := HR0.out.one
  clear M0 R0 B0 hW1
  have M1 := twin69 (.slice Pt pt qt) d.fg d.fe d.fp d.ns W1 (h2.keep X1.out.old) hs.ns
  have ft1 : 21 + 4 ≤ (d.cs v0 (.slice Pt pt qt) : Array Value).size := (by rw [d.size _ _ HR0.out.size]; decide)
  have pr1 : (d.cs v0 (.slice Pt pt qt) : Array Value).extract 21 (21 + 4) = #[.int .i64 d.fg, .int .i64 d.fe, .slice Pt pt qt, .int .i64 d.fp] := (d.partF _ _ HR0.out.size)
  go_wp2_with (first | (rw [← HW1.out]) | (with_reducible refine wpList_store_part rfl 31 _ _ rfl rfl w.heap.size 1 15 rfl 40 _ _ rfl Y0.out.box cells31 sz0 ft0 on0 ?_) | (with_reducible refine wpList_load_part' rfl 36 _ rfl w.heap.size 21 4 rfl 40 _ _ _ X1.out.box Try.underlying36 rfl cells36 ft1 (#[.int .i64 d.fg, .int .i64 d.fe, .slice Pt pt qt, .int .i64 d.fp]) pr1 ?_))
  refine M1.mono ?_
  rintro e w2 ⟨cs1, rfl, ⟨v1, rfl, R1⟩, B1⟩
  have Y1 := Lib.hid (X1.out.keep B1)
  obtain ⟨A1, n1, c1, rfl⟩ := R1.slice
  obtain ⟨W2, hW2⟩ : ∃ W, W = w2.setRow w.heap.size (over (d.cs v0 (.slice Pt pt qt)) 21 (#[.int .i64 d.fg, .int .i64 d.fe, .slice A1 n1 c1, .int .i64 d.fp])) := ⟨_, rfl⟩
  have X2 : Hid (Bx w W2 40 (d.cs v0 (.slice A1 n1 c1)) ZR) := Lib.hid (by rw [hW2]; exact Y1.out.put 21 _ (d.overF _ _ _ HR0.out.size))
  have Z1 : Hid (Kn (fun b => w.heap.size + 2 ≤ b) W1 W2 ∧ Kn (fun b => w.heap.size + 2 ≤ b) w2 W2 ∧ w.heap.size + 2 ≤ W1.heap.size) := Lib.hid ⟨by rw [hW2]; exact Bx.kn B1 _, by rw [hW2]; exact Kn.setRow _ _ _ (by omega), X1.out.two⟩
  have HR1 := Lib.hid R1
  have HW2 := Lib.hid hW2
  have sz1 : (#[.int .i64 d.fg, .int .i64 d.fe, .slice A1 n1 c1, .int .i64 d.fp] : Array Value).size = 4 := rfl
  have on1 : ∀ u ∈ (#[.int .i64 d.fg, .int .i64 d.fe, .slice A1 n1 c1, .int .i64 d.fp] : Array Value).toList, u.oneCell' = true := (by simp [Value.oneCell'])
  clear M1 R1 B1 hW2
  have szf : (d.cs v0 (.slice A1 n1 c1) : Array Value).size = 30 := (d.size _ _ HR0.out.size)
  have szi : (Try.prog.info? 40).map (·.size) = some (d.cs v0 (.slice A1 n1 c1) : Array Value).size := by rw [szf]; exact cells40
  have onf : ∀ u ∈ (d.cs v0 (.slice A1 n1 c1) : Array Value).toList, u.oneCell' = true := (mail_one d _ _ (RdC.one HR0.out))
  have ftf : 0 + 30 ≤ ZR.size := by rw [HZ.out.2.2]; decide
  go_wp2_with (first | (rw [← HW2.out]) | (with_reducible refine wpList_store_part rfl 36 _ _ rfl rfl w.heap.size 21 4 rfl 40 _ _ rfl Y1.out.box cells36 sz1 ft1 on1 ?_) | (with_reducible refine wpList_load_row rfl 40 _ rfl _ rfl 40 _ _ _ X2.out.box Try.underlying40 rfl szi ?_) | (with_reducible refine wpList_store_part rfl 40 _ _ rfl rfl (w.heap.size + 1) 0 30 rfl 40 _ _ rfl X2.out.res cells40 szf ftf onf ?_))
  have hF := X2.out.fin (by rw [HZ.out.2.2, szf])
  refine bodyPost_ret (v := .agg (d.cs v0 (.slice A1 n1 c1))) (results_cell_row Try.results55 _ _ _ _ _ _ _ rfl hF.1 Try.underlying40 rfl szi) rfl ⟨_, rfl, ?_, hF.2.1⟩
  have E0 := ((((HR0.out.mono (ok' := fun b => w.heap.size + 2 ≤ b) fun b _ hb => Nat.le_trans Z0.out.2.2 hb).keep Z0.out.2.1).keep Z1.out.1).keep hF.2.2).mono (ok' := fun b => w.heap.size ≤ b) fun b _ hb => Nat.le_trans (Nat.le_add_right _ 2) hb
  have E1 := (((HR1.out.mono (ok' := fun b => w.heap.size + 2 ≤ b) fun b _ hb => Nat.le_trans Z1.out.2.2 hb).keep Z1.out.2.1).keep hF.2.2).mono (ok' := fun b => w.heap.size ≤ b) fun b _ hb => Nat.le_trans (Nat.le_add_right _ 2) hb
  exact ⟨⟨_, _, rfl, E0, E1⟩⟩
theorem mark56 (n : Nat) (hn : n ≤ 4000000) (w : World) : Calls Try.prog 56 #[.int .i64 n] w fun e w' => ∃ cs, e = .returned (.agg cs) ∧ cs.size = 30 ∧ (∀ u ∈ cs.toList, u.oneCell' = true) ∧ Below w.heap.size w w' := by
  have x1 : (w.alloc (.cells #[.int .u8 0, .int .i64 0, .int .i64 0, .int .i64 0, .int .i64 0, .int .i64 0, .bool false, .slice none 0 0, .slice none 0 0, .slice none 0 0, .slice none 0 0, .int .i64 0, .int .i64 0, .slice none 0 0, .int .i64 0, .int .i64 0, .int .i64 0, .int .i64 0, .int .i64 0, .int .i64 0, .int .i64 0, .int .i64 0, .int .i64 0, .slice none 0 0, .int .i64 0, .int .i64 0, .int .i64 0, .int .i64 0, .int .i64 0, .int .i64 0] 40)).heap[w.heap.size]? = some (.cells #[.int .u8 0, .int .i64 0, .int .i64 0, .int .i64 0, .int .i64 0, .int .i64 0, .bool false, .slice none 0 0, .slice none 0 0, .slice none 0 0, .slice none 0 0, .int .i64 0, .int .i64 0, .slice none 0 0, .int .i64 0, .int .i64 0, .int .i64 0, .int .i64 0, .int .i64 0, .int .i64 0, .int .i64 0, .int .i64 0, .int .i64 0, .slice none 0 0, .int .i64 0, .int .i64 0, .int .i64 0, .int .i64 0, .int .i64 0, .int .i64 0] 40 (0, 0)) := heap_alloc_new w _
  have HX := Lib.hid x1
  have HB := Lib.hid ((Below.refl w.heap.size w).alloc (Nat.le_refl _) (.cells #[.int .u8 0, .int .i64 0, .int .i64 0, .int .i64 0, .int .i64 0, .int .i64 0, .bool false, .slice none 0 0, .slice none 0 0, .slice none 0 0, .slice none 0 0, .int .i64 0, .int .i64 0, .slice none 0 0, .int .i64 0, .int .i64 0, .int .i64 0, .int .i64 0, .int .i64 0, .int .i64 0, .int .i64 0, .int .i64 0, .int .i64 0, .slice none 0 0, .int .i64 0, .int .i64 0, .int .i64 0, .int .i64 0, .int .i64 0, .int .i64 0] 40))
  have hw1 : IntKind.i64.wrap (-1000 - (n : Int)) = -1000 - (n : Int) := wrapi _ (by omega)
  clear x1
  go_enter Try.func56, Try.ntmps56
  go_wp2_with (with_reducible refine wpList_store_part rfl 40 _ _ rfl rfl _ 0 30 rfl 40 _ _ rfl HX.out (by kernel_rfl) rfl (by simp) (by simp [Value.oneCell']) ?_)
  refine bodyPost_ret (results_cell_row Try.results56 _ _ _ _ _ _ _ rfl (setRow_same HX.out) Try.underlying40 rfl (by rw [size_over (by simp)]; kernel_rfl)) rfl ⟨_, rfl, by rw [size_over (by simp)]; rfl, ?_, below_setRow HB.out (Nat.le_refl _)⟩
  rw [over_full (by rfl)]
  simp [Value.oneCell']
set_option maxHeartbeats 4000000 in
set_option maxRecDepth 100000 in
theorem twin34 {ok : Nat → Prop} (v : Value) (L : List MailD) (w : World) (h : elemM.RdL ok w v L) (hs : L.length ≤ 1000000) (hS : ∀ d ∈ L, SzM d) :
    Calls Try.prog 34 #[v] w fun e w' => ∃ v' cs', e = .returned v' ∧ elemM.Own 40 w.heap.size w' v' cs' L ∧ Below w.heap.size w w' := by
  obtain ⟨A, n, c, rfl, rfl, h2, h3⟩ := h
  obtain ⟨i0, hinf, hz0, hz1, hz2⟩ := info_parts info40
  obtain ⟨N, hN⟩ : ∃ N, N = L.length := ⟨_, rfl⟩
  have hmk := run_make (P := Try.prog) w 74 40 i0 _ Try.underlying74 hinf hz0 .i64 .i64 (N : Int) ((N : Int) + 2) (by omega) (by omega) (by rw [hz2]; omega) (by omega)
  rw [show ((N : Int)).toNat = N by omega, show ((N : Int) + 2).toNat = N + 2 by omega, hz1] at hmk
  generalize hROW : madeCells _ ((N + 2) * 30) = ROW at hmk
  have hRs : ROW.size = (N + 2) * 30 := by rw [← hROW, size_madeCells]
  obtain ⟨W1, hW1⟩ : ∃ W, W = w.alloc (.cells ROW 40) := ⟨_, rfl⟩
  have n1 : W1.heap[w.heap.size]? = some (.cells ROW 40 (0, 0)) := by rw [hW1]; exact heap_alloc_new w _
  rw [← hW1] at hmk
  have H0 : Hid (TwD elemM w.heap.size N 40 w L 0 W1) := Lib.hid ⟨⟨ROW, n1, hRs, fun j d hj => absurd hj (by omega)⟩, by rw [hW1]; exact (Below.refl _ _).alloc (Nat.le_refl _) _⟩
  have HS := Lib.hid (And.intro hN (And.intro hs (And.intro hS h3)))
  have hi1 : (0 : Int) ≤ (N : Int) := by omega
  have hw2 : IntKind.i64.wrap ((N : Int) + 2) = (N : Int) + 2 := wrapi _ (by omega)
  have hNs : N ≤ 1000000 := by omega
  rw [← hN]
  clear h2 h3 hS hs hz0 hz1 hz2 hinf n1 hRs hROW hW1 hN
  go_enter Try.func34, Try.ntmps34
  go_wp2_with fail
  go_loopg [4, 15] N (fun k v4 v15 wr => ∃ i : Nat, v15 = .int .i64 (i : Int) ∧ i + k = N ∧ Hid (TwD elemM w.heap.size N 40 w L i wr))
  case atStart => exact ⟨0, rfl, by simp, H0⟩
  case round =>
    clear H0 hmk
    obtain ⟨i, rfl, hik, HT⟩ := hrel
    by_cases hi : i < N
    · obtain ⟨d, hd⟩ : ∃ d, L[i]? = some d := ⟨L[i]'(by have := HS.out.1; omega), List.getElem?_eq_getElem _⟩
      obtain ⟨b, o, cur, tt, fr, rfl, p1, p2, p3⟩ := HS.out.2.2.2 (by have := HS.out.1; omega)
      obtain ⟨p4, p5⟩ := p3 i d hd
      change o + i * 30 + 30 ≤ cur.size at p4
      change elemM.Rd ok w (cur.extract (o + i * 30) (o + i * 30 + 30)) d at p5
      generalize hx : cur.extract (o + i * 30) (o + i * 30 + 30) = c0 at p5
      have hT := HT.out
      have hbr := (hT.below.block b (lt_of_some p2)).trans p2
      have M := twin55 c0 d wr (elemM.keep p5 (Kn.of_below hT.below)) (HS.out.2.2.1 d (List.mem_of_getElem? hd))
      have HX := Lib.hid (And.intro hbr (And.intro p4 hx))
      have HD := Lib.hid (And.intro hd hi)
      have i1 : (0 : Int) ≤ (i : Int) := by omega
      have i2 : (i : Int) < (N : Int) := by omega
      clear p1 p2 p3 p4 p5 hx hbr hd hT
      go_wp2_with (with_reducible refine wpList_load_part' rfl 40 _ rfl b (o + i * 30) 30 rfl _ cur _ _ HX.out.1 Try.underlying40 rfl cells40 HX.out.2.1 c0 HX.out.2.2 ?_)
      refine M.mono ?_
      rintro e w2 ⟨c', rfl, R', B'⟩
      have hT2 := HT.out.keep B'
      obtain ⟨cu2, hc2, hs2, _⟩ := hT2.out
      have hB0 := Nat.le_of_lt (lt_of_some HT.out.out.choose_spec.1)
      have hR2 := elemM.mono (ok' := fun b => w.heap.size < b) R' fun b _ hb => Nat.lt_of_lt_of_le (lt_of_some HT.out.out.choose_spec.1) hb
      have hle : i * 30 + 30 ≤ cu2.size := by rw [hs2]; exact Nat.le_trans (mul_step (by omega : i < N + 2)) (Nat.le_refl _)
      have HC := Lib.hid (And.intro hT2 (And.intro hc2 (And.intro hle (And.intro (elemM.size R') (And.intro (elemM.one R') hR2)))))
      have hsc : c'.size = 30 := elemM.size R'
      have HSC := Lib.hid hsc
      clear M R' B' hT2 hc2 hs2 hle hR2 hB0 hsc
      go_wp2_with (with_reducible refine wpList_store_part rfl 40 _ _ rfl rfl w.heap.size (i * 30) 30 rfl 40 cu2 c' rfl HC.out.2.1 cells40 HSC.out HC.out.2.2.1 HC.out.2.2.2.2.1 ?_)
      go_roundg (N - (i + 1))
      case measure => have := HD.out.2; omega
      case rel => exact ⟨i + 1, by go_num, by have := HD.out.2; omega, Lib.hid (HC.out.1.put HC.out.2.1 HC.out.2.2.1 HD.out.1 HC.out.2.2.2.2.2)⟩
    · obtain rfl : i = N := by omega
      clear hik hi
      have i3 : (0 : Int) ≤ (i : Int) := by omega
      go_wp2_with fail
      go_loopg [6] 2 (fun k v6 wr => ∃ m : Nat, v6 = .int .i64 (m : Int) ∧ m + k = i + 2 ∧ Hid (TwD elemM w.heap.size i 40 w L i wr ∧ i ≤ m))
      case atStart => exact ⟨i, rfl, rfl, Lib.hid ⟨HT.out, Nat.le_refl _⟩⟩
      case round =>
        clear HT
        obtain ⟨m, rfl, hmk, HI⟩ := hrel
        by_cases hlt : m < i + 2
        · have hNi := HI.out.2
          have M := mark56 m (by omega) wr
          have i1 : (0 : Int) ≤ (m : Int) := by omega
          have i2 : (m : Int) < (i : Int) + 2 := by omega
          have HL := Lib.hid (And.intro hlt hNi)
          clear hNi
          go_wp2_with (go_at_call 56; with_reducible refine M.mono ?_)
          rintro e w2 ⟨cs, rfl, hcs, hc1, hB2⟩
          have HI2 := HI.out.1.keep hB2
          obtain ⟨cur, hcu, hcz, hcj⟩ := HI2.out
          have hle : m * 30 + 30 ≤ cur.size := by rw [hcz]; exact Nat.le_trans (mul_step HL.out.1) (Nat.le_refl _)
          have HC := Lib.hid (And.intro HI2 (And.intro hcu (And.intro hle (And.intro hcs hc1))))
          clear hcu hcz hcj HI2 hcs hc1 hB2 M hle
          go_wp2_with (with_reducible refine wpList_store_part rfl 40 _ _ rfl rfl w.heap.size (m * 30) 30 rfl 40 cur cs rfl HC.out.2.1 cells40 HC.out.2.2.2.1 HC.out.2.2.1 HC.out.2.2.2.2 ?_)
          go_roundg (i + 2 - (m + 1))
          case measure => have := HL.out.1; omega
          case rel => exact ⟨m + 1, by go_num, by have := HL.out.1; omega, Lib.hid ⟨HC.out.1.mark HC.out.2.1 HL.out.2 HC.out.2.2.1 HC.out.2.2.2.1, Nat.le_succ_of_le HL.out.2⟩⟩
        · obtain rfl : m = i + 2 := by omega
          go_wp2_with fail
          go_ret
          have hN := HS.out.1
          have h6 := HI.out.1
          subst hN
          obtain ⟨cs', h7⟩ := h6.own (c := L.length + 2) rfl (by have := HS.out.2.1; unfold maxLen; omega)
          exact ⟨_, cs', rfl, h7, h6.below⟩
end Go.Proofs.Ythahadhdhpcndaa
