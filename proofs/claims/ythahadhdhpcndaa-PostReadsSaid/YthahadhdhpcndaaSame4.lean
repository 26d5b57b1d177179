/- Same feeds, packets. -/
import Derived.Test.YthahadhdhpcndaaSame3
namespace Go.Proofs.Ythahadhdhpcndaa
open Go Go.RowKit
set_option linter.unusedVariables false
set_option linter.unusedSimpArgs false

theorem FeedD.at (d : FeedD) (c m : Array Value) (hc : c.size = 15) (hm : m.size = 30) : (d.cs c m)[0]? = some (.int .u8 d.k) ∧ (d.cs c m)[1]? = some (.int .i64 d.t) ∧ (d.cs c m)[2]? = some (.int .i64 d.f) ∧
    (d.cs c m)[48]? = some (.int .i64 d.ng) ∧ (d.cs c m)[49]? = some (.int .i64 d.ne) ∧ (d.cs c m)[50]? = some (.int .i64 d.nb) ∧ (d.cs c m)[51]? = some (.int .i64 d.nn) ∧ (d.cs c m)[52]? = some (.int .i64 d.nt) := by
  refine ⟨?_, ?_, ?_, ?_, ?_, ?_, ?_, ?_⟩ <;> simp [FeedD.cs, FeedD.m0, FeedD.m1, hc, hm, Array.getElem?_append]
structure NumF (d : FeedD) : Prop where
  c : NumC d.c
  m : NumM d.m
set_option maxHeartbeats 4000000 in
set_option maxRecDepth 100000 in
theorem same43 {ok ok' : Nat → Prop} (cs cs' : Array Value) (d : FeedD) (w : World) (h : RdF ok w cs d) (h' : RdF ok' w cs' d) (hx : NumF d) (hs : SzF d) :
    Calls Try.prog 43 #[.agg cs, .agg cs'] w fun e w' => e = .returned (.bool true) ∧ Below w.heap.size w w' := by
  have hb1 : Below w.heap.size w (w.alloc (.cells cs 42)) := (Below.refl _ _).alloc (Nat.le_refl _) _
  have hb2 : Below w.heap.size w ((w.alloc (.cells cs 42)).alloc (.cells cs' 42)) := hb1.alloc (by simp) _
  have z1 := h.size
  have z2 := h'.size
  have y1 : ((w.alloc (.cells cs 42)).alloc (.cells cs' 42)).heap[w.heap.size]? = some (.cells cs 42 (0, 0)) := heap_alloc2_old w _ _
  have y2 : ((w.alloc (.cells cs 42)).alloc (.cells cs' 42)).heap[w.heap.size + 1]? = some (.cells cs' 42 (0, 0)) := heap_alloc2_new w _ _
  obtain ⟨c, m, e1, h1, h2⟩ := (h.keep (Kn.of_below hb2)).out
  obtain ⟨c', m', e2, g1, g2⟩ := (h'.keep (Kn.of_below hb2)).out
  have a1 := d.at c m h1.size h2.size
  have a2 := d.at c' m' g1.size g2.size
  have b1 := d.partC c m h1.size h2.size
  have b2 := d.partC c' m' g1.size g2.size
  have b3 := d.partM c m h1.size h2.size
  have b4 := d.partM c' m' g1.size g2.size
  rw [← e1] at a1 b1 b3
  rw [← e2] at a2 b2 b4
  have cells : ∀ w', Below ((w.alloc (.cells cs 42)).alloc (.cells cs' 42)).heap.size ((w.alloc (.cells cs 42)).alloc (.cells cs' 42)) w' → (∀ i, w'.cell? ⟨w.heap.size, i, none⟩ = cs[i]?) ∧ (∀ i, w'.cell? ⟨w.heap.size + 1, i, none⟩ = cs'[i]?) := fun w' hw =>
    ⟨fun i => cell_of_row w' _ i _ _ _ ((hw.block _ (lt_of_some y1)).trans y1), fun i => cell_of_row w' _ i _ _ _ ((hw.block _ (lt_of_some y2)).trans y2)⟩
  have M1 := same60 c c' d.c ((w.alloc (.cells cs 42)).alloc (.cells cs' 42)) h1 g1 hx.c hs.c
  have M2 := fun w' (hw : Below ((w.alloc (.cells cs 42)).alloc (.cells cs' 42)).heap.size ((w.alloc (.cells cs 42)).alloc (.cells cs' 42)) w') => same57 m m' d.m w' (h2.keep (Kn.of_below hw)) (g2.keep (Kn.of_below hw)) hx.m hs.m
  have c0 := cells _ (Below.refl _ _)
  have l0 := (c0.1 0).trans a1.1
  have r0 := (c0.2 0).trans a2.1
  have l1 := (c0.1 1).trans a1.2.1
  have r1 := (c0.2 1).trans a2.2.1
  have l2 := (c0.1 2).trans a1.2.2.1
  have r2 := (c0.2 2).trans a2.2.2.1
  have l3 := (c0.1 48).trans a1.2.2.2.1
  have r3 := (c0.2 48).trans a2.2.2.2.1
  have l4 := (c0.1 49).trans a1.2.2.2.2.1
  have r4 := (c0.2 49).trans a2.2.2.2.2.1
  have l5 := (c0.1 50).trans a1.2.2.2.2.2.1
  have r5 := (c0.2 50).trans a2.2.2.2.2.2.1
  have l6 := (c0.1 51).trans a1.2.2.2.2.2.2.1
  have r6 := (c0.2 51).trans a2.2.2.2.2.2.2.1
  have l7 := (c0.1 52).trans a1.2.2.2.2.2.2.2
  have r7 := (c0.2 52).trans a2.2.2.2.2.2.2.2
  have HY := Lib.hid (And.intro y1 (And.intro y2 (And.intro z1 (And.intro z2 (And.intro b1 (And.intro b2 (And.intro b3 b4)))))))
  have HM := Lib.hid (And.intro M1 M2)
  have HB2 := Lib.hid hb2
  have t0 := beq_self_eq_true d.k
  have t1 := beq_self_eq_true d.t
  have t2 := beq_self_eq_true d.f
  clear M1 M2 c0 cells hb1 hb2 y1 y2 h1 h2 g1 g2 hx hs h h' e1 e2 z1 z2 b1 b2 b3 b4 a1 a2
  go_enter Try.func43, Try.ntmps43
  go_wp2_with (first | (with_reducible refine wpList_load_partg (by simp [Region.wanted, yielded]) 31 _ rfl w.heap.size 3 15 rfl 42 cs (0, 0) _ HY.out.1 Try.underlying31 rfl cells31 (by rw [HY.out.2.2.1]; decide) c HY.out.2.2.2.2.1 ?_) | (with_reducible refine wpList_load_partg (by simp [Region.wanted, yielded]) 31 _ rfl (w.heap.size + 1) 3 15 rfl 42 cs' (0, 0) _ HY.out.2.1 Try.underlying31 rfl cells31 (by rw [HY.out.2.2.2.1]; decide) c' HY.out.2.2.2.2.2.1 ?_))
  generalize hwz : ((w.alloc (.cells cs 42)).alloc (.cells cs' 42)) = wz at *
  clear hwz l0 r0 l1 r1 l2 r2 l3 r3 l4 r4 l5 r5 l6 r6 l7 r7
  refine HM.out.1.mono ?_
  rintro e w2 ⟨rfl, K2⟩
  have HK2 := Lib.hid K2
  have p1 := (K2.block _ (lt_of_some HY.out.1)).trans HY.out.1
  have p2 := (K2.block _ (lt_of_some HY.out.2.1)).trans HY.out.2.1
  have HP := Lib.hid (And.intro p1 p2)
  clear K2 p1 p2
  go_wp2_with (first | (with_reducible refine wpList_load_partg (by simp [Region.wanted, yielded]) 40 _ rfl w.heap.size 18 30 rfl 42 cs (0, 0) _ HP.out.1 Try.underlying40 rfl cells40 (by rw [HY.out.2.2.1]; decide) m HY.out.2.2.2.2.2.2.1 ?_) | (with_reducible refine wpList_load_partg (by simp [Region.wanted, yielded]) 40 _ rfl (w.heap.size + 1) 18 30 rfl 42 cs' (0, 0) _ HP.out.2 Try.underlying40 rfl cells40 (by rw [HY.out.2.2.2.1]; decide) m' HY.out.2.2.2.2.2.2.2 ?_))
  refine (HM.out.2 _ HK2.out).mono ?_
  rintro e w3 ⟨rfl, K3⟩
  have HK3 := Lib.hid (HB2.out.trans ((HK2.out.trans (K3.mono HK2.out.size)).mono HB2.out.size))
  clear K3
  go_wp2_with fail
  go_ret
  exact ⟨rfl, HK3.out⟩
set_option maxHeartbeats 4000000 in
set_option maxRecDepth 100000 in
theorem same18 {ok ok' : Nat → Prop} (cs cs' : Array Value) (d : PackD) (w : World) (h : RdP ok w cs d) (h' : RdP ok' w cs' d) (hx : NumF d.d) (hs : SzF d.d) :
    Calls Try.prog 18 #[.agg cs, .agg cs'] w fun e w' => e = .returned (.bool true) ∧ Below w.heap.size w w' := by
  have hb1 : Below w.heap.size w (w.alloc (.cells cs 44)) := (Below.refl _ _).alloc (Nat.le_refl _) _
  have hb2 : Below w.heap.size w ((w.alloc (.cells cs 44)).alloc (.cells cs' 44)) := hb1.alloc (by simp) _
  have z1 := h.size
  have z2 := h'.size
  have y1 : ((w.alloc (.cells cs 44)).alloc (.cells cs' 44)).heap[w.heap.size]? = some (.cells cs 44 (0, 0)) := heap_alloc2_old w _ _
  have y2 : ((w.alloc (.cells cs 44)).alloc (.cells cs' 44)).heap[w.heap.size + 1]? = some (.cells cs' 44 (0, 0)) := heap_alloc2_new w _ _
  have a1 := h.at0
  have a2 := h'.at0
  obtain ⟨m, e1, h1⟩ := (h.keep (Kn.of_below hb2)).out
  obtain ⟨m', e2, g1⟩ := (h'.keep (Kn.of_below hb2)).out
  have b1 := d.partF m h1.size
  have b2 := d.partF m' g1.size
  rw [← e1] at b1
  rw [← e2] at b2
  have c1 : ∀ i, ((w.alloc (.cells cs 44)).alloc (.cells cs' 44)).cell? ⟨w.heap.size, i, none⟩ = cs[i]? := fun i => cell_of_row _ _ i _ _ _ y1
  have c2 : ∀ i, ((w.alloc (.cells cs 44)).alloc (.cells cs' 44)).cell? ⟨w.heap.size + 1, i, none⟩ = cs'[i]? := fun i => cell_of_row _ _ i _ _ _ y2
  have M1 := same43 m m' d.d ((w.alloc (.cells cs 44)).alloc (.cells cs' 44)) h1 g1 hx hs
  have l0 := (c1 0).trans a1.1
  have r0 := (c2 0).trans a2.1
  have l1 := (c1 1).trans a1.2.1
  have r1 := (c2 1).trans a2.2.1
  have l2 := (c1 2).trans a1.2.2.1
  have r2 := (c2 2).trans a2.2.2.1
  have l3 := (c1 3).trans a1.2.2.2.1
  have r3 := (c2 3).trans a2.2.2.2.1
  have HY := Lib.hid (And.intro y1 (And.intro y2 (And.intro z1 (And.intro z2 (And.intro b1 b2)))))
  have HM := Lib.hid M1
  have HB2 := Lib.hid hb2
  have t0 := beq_self_eq_true d.f
  have t1 := beq_self_eq_true d.t
  have t2 := beq_self_eq_true d.a
  have t3 := beq_self_eq_true d.s
  clear M1 c1 c2 hb1 hb2 y1 y2 h1 g1 hx hs h h' e1 e2 z1 z2 b1 b2 a1 a2
  go_enter Try.func18, Try.ntmps18
  go_wp2_with (first | (with_reducible refine wpList_load_partg (by simp [Region.wanted, yielded]) 42 _ rfl w.heap.size 4 53 rfl 44 cs (0, 0) _ HY.out.1 Try.underlying42 rfl cells42 (by rw [HY.out.2.2.1]; decide) m HY.out.2.2.2.2.1 ?_) | (with_reducible refine wpList_load_partg (by simp [Region.wanted, yielded]) 42 _ rfl (w.heap.size + 1) 4 53 rfl 44 cs' (0, 0) _ HY.out.2.1 Try.underlying42 rfl cells42 (by rw [HY.out.2.2.2.1]; decide) m' HY.out.2.2.2.2.2 ?_))
  refine HM.out.mono ?_
  rintro e w3 ⟨rfl, K3⟩
  have HK3 := Lib.hid (HB2.out.trans (K3.mono HB2.out.size))
  clear K3
  go_wp2_with fail
  go_ret
  exact ⟨rfl, HK3.out⟩
end Go.Proofs.Ythahadhdhpcndaa
