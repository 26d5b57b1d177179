/- Same mails. -/
import Derived.Test.YthahadhdhpcndaaSame2
namespace Go.Proofs.Ythahadhdhpcndaa
open Go Go.RowKit
set_option linter.unusedVariables false
set_option linter.unusedSimpArgs false

theorem MailD.at (d : MailD) (c : Array Value) (vt : Value) (hc : c.size = 15) : (d.cs c vt)[0]? = some (.int .u8 d.k) ∧ (d.cs c vt)[16]? = some (.int .i64 d.g) ∧ (d.cs c vt)[17]? = some (.int .i64 d.e) ∧ (d.cs c vt)[18]? = some (.int .i64 d.cu) ∧ (d.cs c vt)[19]? = some (.int .i64 d.ce) ∧ (d.cs c vt)[20]? = some (.int .i64 d.cp) ∧
    (d.cs c vt)[21]? = some (.int .i64 d.fg) ∧ (d.cs c vt)[22]? = some (.int .i64 d.fe) ∧ (d.cs c vt)[23]? = some vt ∧ (d.cs c vt)[24]? = some (.int .i64 d.fp) ∧ (d.cs c vt)[25]? = some (.int .i64 d.ng) ∧ (d.cs c vt)[26]? = some (.int .i64 d.ne) ∧ (d.cs c vt)[27]? = some (.int .i64 d.nb) ∧ (d.cs c vt)[28]? = some (.int .i64 d.nn) ∧ (d.cs c vt)[29]? = some (.int .i64 d.nt) := by
  refine ⟨?_, ?_, ?_, ?_, ?_, ?_, ?_, ?_, ?_, ?_, ?_, ?_, ?_, ?_, ?_⟩ <;> simp [MailD.cs, MailD.m1, MailD.m2, hc, Array.getElem?_append]
structure NumM (d : MailD) : Prop where
  c : NumC d.c
  ns : NumN d.ns
set_option maxHeartbeats 4000000 in
set_option maxRecDepth 100000 in
theorem same57 {ok ok' : Nat → Prop} (cs cs' : Array Value) (d : MailD) (w : World) (h : RdM ok w cs d) (h' : RdM ok' w cs' d) (hx : NumM d) (hs : SzM d) :
    Calls Try.prog 57 #[.agg cs, .agg cs'] w fun e w' => e = .returned (.bool true) ∧ Below w.heap.size w w' := by
  have hb1 : Below w.heap.size w (w.alloc (.cells cs 40)) := (Below.refl _ _).alloc (Nat.le_refl _) _
  have hb2 : Below w.heap.size w ((w.alloc (.cells cs 40)).alloc (.cells cs' 40)) := hb1.alloc (by simp) _
  have z1 := h.size
  have z2 := h'.size
  have y1 : ((w.alloc (.cells cs 40)).alloc (.cells cs' 40)).heap[w.heap.size]? = some (.cells cs 40 (0, 0)) := heap_alloc2_old w _ _
  have y2 : ((w.alloc (.cells cs 40)).alloc (.cells cs' 40)).heap[w.heap.size + 1]? = some (.cells cs' 40 (0, 0)) := heap_alloc2_new w _ _
  obtain ⟨c, vt, e1, h1, h2⟩ := (h.keep (Kn.of_below hb2)).out
  obtain ⟨c', vt', e2, g1, g2⟩ := (h'.keep (Kn.of_below hb2)).out
  obtain ⟨A, n, k, rfl⟩ := h2.slice
  obtain ⟨B, m, k', rfl⟩ := g2.slice
  have a1 := d.at c (.slice A n k) h1.size
  have a2 := d.at c' (.slice B m k') g1.size
  have b1 := d.partC c (.slice A n k) h1.size
  have b2 := d.partC c' (.slice B m k') g1.size
  rw [← e1] at a1 b1
  rw [← e2] at a2 b2
  have cells : ∀ w', Below ((w.alloc (.cells cs 40)).alloc (.cells cs' 40)).heap.size ((w.alloc (.cells cs 40)).alloc (.cells cs' 40)) w' → (∀ i, w'.cell? ⟨w.heap.size, i, none⟩ = cs[i]?) ∧ (∀ i, w'.cell? ⟨w.heap.size + 1, i, none⟩ = cs'[i]?) := fun w' hw =>
    ⟨fun i => cell_of_row w' _ i _ _ _ ((hw.block _ (lt_of_some y1)).trans y1), fun i => cell_of_row w' _ i _ _ _ ((hw.block _ (lt_of_some y2)).trans y2)⟩
  have M1 := same60 c c' d.c ((w.alloc (.cells cs 40)).alloc (.cells cs' 40)) h1 g1 hx.c hs.c
  have M2 := fun w' (hw : Below ((w.alloc (.cells cs 40)).alloc (.cells cs' 40)).heap.size ((w.alloc (.cells cs 40)).alloc (.cells cs' 40)) w') => same70 (.slice A n k) (.slice B m k') d.fg d.fe d.fp d.ns w' (h2.keep (Kn.of_below hw)) (g2.keep (Kn.of_below hw)) hx.ns hs.ns
  have c0 := cells _ (Below.refl _ _)
  have l0 := (c0.1 0).trans a1.1
  have r0 := (c0.2 0).trans a2.1
  have l1 := (c0.1 16).trans a1.2.1
  have r1 := (c0.2 16).trans a2.2.1
  have l2 := (c0.1 17).trans a1.2.2.1
  have r2 := (c0.2 17).trans a2.2.2.1
  have l3 := (c0.1 18).trans a1.2.2.2.1
  have r3 := (c0.2 18).trans a2.2.2.2.1
  have l4 := (c0.1 19).trans a1.2.2.2.2.1
  have r4 := (c0.2 19).trans a2.2.2.2.2.1
  have l5 := (c0.1 20).trans a1.2.2.2.2.2.1
  have r5 := (c0.2 20).trans a2.2.2.2.2.2.1
  have l6 := (c0.1 25).trans a1.2.2.2.2.2.2.2.2.2.2.1
  have r6 := (c0.2 25).trans a2.2.2.2.2.2.2.2.2.2.2.1
  have l7 := (c0.1 26).trans a1.2.2.2.2.2.2.2.2.2.2.2.1
  have r7 := (c0.2 26).trans a2.2.2.2.2.2.2.2.2.2.2.2.1
  have l8 := (c0.1 27).trans a1.2.2.2.2.2.2.2.2.2.2.2.2.1
  have r8 := (c0.2 27).trans a2.2.2.2.2.2.2.2.2.2.2.2.2.1
  have l9 := (c0.1 28).trans a1.2.2.2.2.2.2.2.2.2.2.2.2.2.1
  have r9 := (c0.2 28).trans a2.2.2.2.2.2.2.2.2.2.2.2.2.2.1
  have l10 := (c0.1 29).trans a1.2.2.2.2.2.2.2.2.2.2.2.2.2.2
  have r10 := (c0.2 29).trans a2.2.2.2.2.2.2.2.2.2.2.2.2.2.2
  have HF := Lib.hid (And.intro (fun w' hw => (((cells w' hw).1 21).trans a1.2.2.2.2.2.2.1)) (And.intro (fun w' hw => (((cells w' hw).1 22).trans a1.2.2.2.2.2.2.2.1)) (And.intro (fun w' hw => (((cells w' hw).1 23).trans a1.2.2.2.2.2.2.2.2.1)) (fun w' hw => (((cells w' hw).1 24).trans a1.2.2.2.2.2.2.2.2.2.1)))))
  have HG := Lib.hid (And.intro (fun w' hw => (((cells w' hw).2 21).trans a2.2.2.2.2.2.2.1)) (And.intro (fun w' hw => (((cells w' hw).2 22).trans a2.2.2.2.2.2.2.2.1)) (And.intro (fun w' hw => (((cells w' hw).2 23).trans a2.2.2.2.2.2.2.2.2.1)) (fun w' hw => (((cells w' hw).2 24).trans a2.2.2.2.2.2.2.2.2.2.1)))))
  have HY := Lib.hid (And.intro y1 (And.intro y2 (And.intro z1 (And.intro z2 (And.intro b1 b2)))))
  have HM := Lib.hid (And.intro M1 M2)
  have HB2 := Lib.hid hb2
  have t0 := beq_self_eq_true d.k
  have t1 := beq_self_eq_true d.g
  have t2 := beq_self_eq_true d.e
  clear M1 M2 c0 cells hb1 hb2 y1 y2 h1 h2 g1 g2 hx hs h h' e1 e2 z1 z2 b1 b2 a1 a2
  go_enter Try.func57, Try.ntmps57
  go_wp2_with (first | (with_reducible refine wpList_load_partg (by simp [Region.wanted, yielded]) 31 _ rfl w.heap.size 1 15 rfl 40 cs (0, 0) _ HY.out.1 Try.underlying31 rfl cells31 (by rw [HY.out.2.2.1]; decide) c HY.out.2.2.2.2.1 ?_) | (with_reducible refine wpList_load_partg (by simp [Region.wanted, yielded]) 31 _ rfl (w.heap.size + 1) 1 15 rfl 40 cs' (0, 0) _ HY.out.2.1 Try.underlying31 rfl cells31 (by rw [HY.out.2.2.2.1]; decide) c' HY.out.2.2.2.2.2 ?_))
  generalize hwz : ((w.alloc (.cells cs 40)).alloc (.cells cs' 40)) = wz at *
  clear hwz l0 r0 l1 r1 l2 r2 l3 r3 l4 r4 l5 r5 l6 r6 l7 r7 l8 r8 l9 r9 l10 r10
  refine HM.out.1.mono ?_
  rintro e w2 ⟨rfl, K2⟩
  have l1 := HF.out.1 _ K2
  have r1 := HG.out.1 _ K2
  have l2 := HF.out.2.1 _ K2
  have r2 := HG.out.2.1 _ K2
  have l3 := HF.out.2.2.1 _ K2
  have r3 := HG.out.2.2.1 _ K2
  have l4 := HF.out.2.2.2 _ K2
  have r4 := HG.out.2.2.2 _ K2
  have HK2 := Lib.hid K2
  clear K2
  go_wp2_with fail
  refine (HM.out.2 _ HK2.out).mono ?_
  rintro e w3 ⟨rfl, K3⟩
  have HK3 := Lib.hid (HB2.out.trans ((HK2.out.trans (K3.mono HK2.out.size)).mono HB2.out.size))
  clear K3 l1 l2 l3 l4 r1 r2 r3 r4
  go_wp2_with fail
  go_ret
  exact ⟨rfl, HK3.out⟩
end Go.Proofs.Ythahadhdhpcndaa
