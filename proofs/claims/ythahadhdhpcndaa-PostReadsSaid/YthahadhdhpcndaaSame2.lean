/- Same trees, commits, faces. -/
import Derived.Test.YthahadhdhpcndaaSame1
namespace Go.Proofs.Ythahadhdhpcndaa
open Go Go.RowKit
set_option linter.unusedVariables false
set_option linter.unusedSimpArgs false

set_option maxHeartbeats 1000000 in
theorem same71 {ok ok' : Nat → Prop} (v v' : Value) (ns : List NodeD) (w : World) (h : RdN ok w v ns) (h' : RdN ok' w v' ns) (hx : NumN ns) (hs : SzN ns) :
    Calls Try.prog 71 #[.agg #[v], .agg #[v']] w fun e w' => e = .returned (.bool true) ∧ Below w.heap.size w w' := by
  have hb1 : Below w.heap.size w (w.alloc (.cells #[v] 29)) := (Below.refl _ _).alloc (Nat.le_refl _) _
  have hb2 : Below w.heap.size w ((w.alloc (.cells #[v] 29)).alloc (.cells #[v'] 29)) := hb1.alloc (by simp) _
  have M := same92 v v' ns _ (h.keep (Kn.of_below hb2)) (h'.keep (Kn.of_below hb2)) hx hs
  obtain ⟨A, n, c, rfl⟩ := h.slice
  obtain ⟨A', n', c', rfl⟩ := h'.slice
  have HB2 := Lib.hid hb2
  clear h hb1 hb2 hs h' hx
  go_enter Try.func71, Try.ntmps71
  go_wp2_with fail
  refine M.mono ?_
  rintro e w2 ⟨rfl, B'⟩
  have HB' := Lib.hid (HB2.out.trans (B'.mono HB2.out.size))
  clear M B'
  go_wp2_with fail
  go_ret
  exact ⟨rfl, HB'.out⟩
structure NumC (d : CommitD) : Prop where
  a : AllI d.a
  r : AllI d.r
  s : AllI d.s
  j : AllI d.j
  ns : NumN d.ns
set_option maxHeartbeats 4000000 in
set_option maxRecDepth 100000 in
theorem same60 {ok ok' : Nat → Prop} (cs cs' : Array Value) (d : CommitD) (w : World) (h : RdC ok w cs d) (h' : RdC ok' w cs' d) (hx : NumC d) (hs : SzC d) :
    Calls Try.prog 60 #[.agg cs, .agg cs'] w fun e w' => e = .returned (.bool true) ∧ Below w.heap.size w w' := by
  have hb1 : Below w.heap.size w (w.alloc (.cells cs 31)) := (Below.refl _ _).alloc (Nat.le_refl _) _
  have hb2 : Below w.heap.size w ((w.alloc (.cells cs 31)).alloc (.cells cs' 31)) := hb1.alloc (by simp) _
  obtain ⟨va, vr, vs, vj, vt, e1, h1, h2, h3, h4, h5⟩ := (h.keep (Kn.of_below hb2)).out
  obtain ⟨va', vr', vs', vj', vt', e2, g1, g2, g3, g4, g5⟩ := (h'.keep (Kn.of_below hb2)).out
  have y1 : ((w.alloc (.cells cs 31)).alloc (.cells cs' 31)).heap[w.heap.size]? = some (.cells cs 31 (0, 0)) := heap_alloc2_old w _ _
  have y2 : ((w.alloc (.cells cs 31)).alloc (.cells cs' 31)).heap[w.heap.size + 1]? = some (.cells cs' 31 (0, 0)) := heap_alloc2_new w _ _
  clear h h'
  obtain ⟨A1, n1, c1, rfl⟩ := h1.slice
  obtain ⟨A2, n2, c2, rfl⟩ := h2.slice
  obtain ⟨A3, n3, c3, rfl⟩ := h3.slice
  obtain ⟨A4, n4, c4, rfl⟩ := h4.slice
  obtain ⟨A5, n5, c5, rfl⟩ := h5.slice
  obtain ⟨B1, m1, k1, rfl⟩ := g1.slice
  obtain ⟨B2, m2, k2, rfl⟩ := g2.slice
  obtain ⟨B3, m3, k3, rfl⟩ := g3.slice
  obtain ⟨B4, m4, k4, rfl⟩ := g4.slice
  obtain ⟨B5, m5, k5, rfl⟩ := g5.slice
  have cells : ∀ w', Below ((w.alloc (.cells cs 31)).alloc (.cells cs' 31)).heap.size ((w.alloc (.cells cs 31)).alloc (.cells cs' 31)) w' → (∀ i, w'.cell? ⟨w.heap.size, i, none⟩ = cs[i]?) ∧ (∀ i, w'.cell? ⟨w.heap.size + 1, i, none⟩ = cs'[i]?) := fun w' hw =>
    ⟨fun i => cell_of_row w' _ i _ _ _ ((hw.block _ (lt_of_some y1)).trans y1), fun i => cell_of_row w' _ i _ _ _ ((hw.block _ (lt_of_some y2)).trans y2)⟩
  have M1 := fun w' (hw : Below ((w.alloc (.cells cs 31)).alloc (.cells cs' 31)).heap.size ((w.alloc (.cells cs 31)).alloc (.cells cs' 31)) w') => same71 (.slice A5 n5 c5) (.slice B5 m5 k5) d.ns w' (h5.keep (Kn.of_below hw)) (g5.keep (Kn.of_below hw)) hx.ns hs.ns
  have M2 := fun w' (hw : Below ((w.alloc (.cells cs 31)).alloc (.cells cs' 31)).heap.size ((w.alloc (.cells cs 31)).alloc (.cells cs' 31)) w') => same72 (.slice A1 n1 c1) (.slice B1 m1 k1) d.a w' (h1.keep (Kn.of_below hw)) (g1.keep (Kn.of_below hw)) hx.a hs.a
  have M3 := fun w' (hw : Below ((w.alloc (.cells cs 31)).alloc (.cells cs' 31)).heap.size ((w.alloc (.cells cs 31)).alloc (.cells cs' 31)) w') => same73 (.slice A2 n2 c2) (.slice B2 m2 k2) d.r w' (h2.keep (Kn.of_below hw)) (g2.keep (Kn.of_below hw)) hx.r hs.r
  have M4 := fun w' (hw : Below ((w.alloc (.cells cs 31)).alloc (.cells cs' 31)).heap.size ((w.alloc (.cells cs 31)).alloc (.cells cs' 31)) w') => same74 (.slice A3 n3 c3) (.slice B3 m3 k3) d.s w' (h3.keep (Kn.of_below hw)) (g3.keep (Kn.of_below hw)) hx.s hs.s
  have M5 := fun w' (hw : Below ((w.alloc (.cells cs 31)).alloc (.cells cs' 31)).heap.size ((w.alloc (.cells cs 31)).alloc (.cells cs' 31)) w') => same75 (.slice A4 n4 c4) (.slice B4 m4 k4) d.j w' (h4.keep (Kn.of_below hw)) (g4.keep (Kn.of_below hw)) hx.j hs.j
  have HM := Lib.hid (And.intro M1 (And.intro M2 (And.intro M3 (And.intro M4 M5))))
  have HC := Lib.hid cells
  have HB2 := Lib.hid hb2
  clear M1 M2 M3 M4 M5 cells hb1 hb2 y1 y2 h1 h2 h3 h4 h5 g1 g2 g3 g4 g5 hx hs
  obtain ⟨xg, xe, xb, xm, xk, xx, xa, xr, xs, xj, xo, xn, xns, xf, xc⟩ := d
  subst e1 e2
  dsimp only [CommitD.cs] at *
  have t0 := beq_self_eq_true xg
  have t1 := beq_self_eq_true xe
  have t2 := beq_self_eq_true xb
  have t3 := beq_self_eq_true xm
  have t4 := beq_self_eq_true xk
  have t5 := beq_self_eq_true xx
  have t6 := beq_self_eq_true xo
  have t7 := beq_self_eq_true xn
  have t8 := beq_self_eq_true xf
  have t9 := beq_self_eq_true xc
  go_enter Try.func60, Try.ntmps60
  go_wp2_with fail
  generalize hwz : (w.alloc (.cells #[.int .i64 xg, .int .i64 xe, .int .i64 xb, .int .i64 xm, .int .i64 xk, .bool xx, .slice A1 n1 c1, .slice A2 n2 c2, .slice A3 n3 c3, .slice A4 n4 c4, .int .i64 xo, .int .i64 xn, .slice A5 n5 c5, .int .i64 xf, .int .i64 xc] 31)).alloc (.cells #[.int .i64 xg, .int .i64 xe, .int .i64 xb, .int .i64 xm, .int .i64 xk, .bool xx, .slice B1 m1 k1, .slice B2 m2 k2, .slice B3 m3 k3, .slice B4 m4 k4, .int .i64 xo, .int .i64 xn, .slice B5 m5 k5, .int .i64 xf, .int .i64 xc] 31) = wz at *
  clear hwz
  refine (HM.out.1 _ (Below.refl _ _)).mono ?_
  rintro e w2 ⟨rfl, K2⟩
  have p6 : w2.cell? ⟨w.heap.size, 6, none⟩ = some (.slice A1 n1 c1) := (HC.out _ K2).1 6
  have q6 : w2.cell? ⟨w.heap.size + 1, 6, none⟩ = some (.slice B1 m1 k1) := (HC.out _ K2).2 6
  go_wp2_with fail
  clear p6 q6
  refine (HM.out.2.1 _ K2).mono ?_
  rintro e w3 ⟨rfl, L3⟩
  have K3 := K2.trans (L3.mono K2.size)
  clear L3
  have p7 : w3.cell? ⟨w.heap.size, 7, none⟩ = some (.slice A2 n2 c2) := (HC.out _ K3).1 7
  have q7 : w3.cell? ⟨w.heap.size + 1, 7, none⟩ = some (.slice B2 m2 k2) := (HC.out _ K3).2 7
  go_wp2_with fail
  clear p7 q7
  refine (HM.out.2.2.1 _ K3).mono ?_
  rintro e w4 ⟨rfl, L4⟩
  have K4 := K3.trans (L4.mono K3.size)
  clear L4
  have p8 : w4.cell? ⟨w.heap.size, 8, none⟩ = some (.slice A3 n3 c3) := (HC.out _ K4).1 8
  have q8 : w4.cell? ⟨w.heap.size + 1, 8, none⟩ = some (.slice B3 m3 k3) := (HC.out _ K4).2 8
  go_wp2_with fail
  clear p8 q8
  refine (HM.out.2.2.2.1 _ K4).mono ?_
  rintro e w5 ⟨rfl, L5⟩
  have K5 := K4.trans (L5.mono K4.size)
  clear L5
  have p9 : w5.cell? ⟨w.heap.size, 9, none⟩ = some (.slice A4 n4 c4) := (HC.out _ K5).1 9
  have q9 : w5.cell? ⟨w.heap.size + 1, 9, none⟩ = some (.slice B4 m4 k4) := (HC.out _ K5).2 9
  go_wp2_with fail
  clear p9 q9
  refine (HM.out.2.2.2.2 _ K5).mono ?_
  rintro e w6 ⟨rfl, L6⟩
  have K6 := K5.trans (L6.mono K5.size)
  clear L6
  go_wp2_with fail
  go_ret
  exact ⟨rfl, HB2.out.trans (K6.mono HB2.out.size)⟩
set_option maxHeartbeats 1000000 in
theorem same70 {ok ok' : Nat → Prop} (v v' : Value) (g e p : Int) (ns : List NodeD) (w : World) (h : RdN ok w v ns) (h' : RdN ok' w v' ns) (hx : NumN ns) (hs : SzN ns) :
    Calls Try.prog 70 #[.agg #[.int .i64 g, .int .i64 e, v, .int .i64 p], .agg #[.int .i64 g, .int .i64 e, v', .int .i64 p]] w fun e w' => e = .returned (.bool true) ∧ Below w.heap.size w w' := by
  have hb1 : Below w.heap.size w (w.alloc (.cells #[.int .i64 g, .int .i64 e, v, .int .i64 p] 36)) := (Below.refl _ _).alloc (Nat.le_refl _) _
  have hb2 : Below w.heap.size w ((w.alloc (.cells #[.int .i64 g, .int .i64 e, v, .int .i64 p] 36)).alloc (.cells #[.int .i64 g, .int .i64 e, v', .int .i64 p] 36)) := hb1.alloc (by simp) _
  have M := same71 v v' ns _ (h.keep (Kn.of_below hb2)) (h'.keep (Kn.of_below hb2)) hx hs
  obtain ⟨A, n, c, rfl⟩ := h.slice
  obtain ⟨A', n', c', rfl⟩ := h'.slice
  have HB2 := Lib.hid hb2
  have t0 := beq_self_eq_true g
  have t1 := beq_self_eq_true e
  have t2 := beq_self_eq_true p
  clear h hb1 hb2 hs h' hx
  go_enter Try.func70, Try.ntmps70
  go_wp2_with fail
  refine M.mono ?_
  rintro e w2 ⟨rfl, B'⟩
  have HB' := Lib.hid (HB2.out.trans (B'.mono HB2.out.size))
  clear M B'
  go_wp2_with fail
  go_ret
  exact ⟨rfl, HB'.out⟩
end Go.Proofs.Ythahadhdhpcndaa
