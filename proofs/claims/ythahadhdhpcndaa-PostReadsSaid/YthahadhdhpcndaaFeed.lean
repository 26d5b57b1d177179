/- copies.Feed. -/
import Derived.Test.YthahadhdhpcndaaMail
import Derived.Test.YthahadhdhpcndaaPhase
namespace Go.Proofs.Ythahadhdhpcndaa
open Go Go.RowKit
set_option linter.unusedVariables false
set_option linter.unusedSimpArgs false

/-- A feed. -/
structure FeedD where
  k : Int
  t : Int
  f : Int
  c : CommitD
  m : MailD
  ng : Int
  ne : Int
  nb : Int
  nn : Int
  nt : Int
def FeedD.m0 (d : FeedD) : Array Value := #[.int .u8 d.k, .int .i64 d.t, .int .i64 d.f]
def FeedD.m1 (d : FeedD) : Array Value := #[.int .i64 d.ng, .int .i64 d.ne, .int .i64 d.nb, .int .i64 d.nn, .int .i64 d.nt]
def FeedD.cs (d : FeedD) (c m : Array Value) : Array Value := d.m0 ++ c ++ m ++ d.m1
structure RdF (ok : Nat → Prop) (w : World) (cs : Array Value) (d : FeedD) : Prop where
  out : ∃ c m, cs = d.cs c m ∧ RdC ok w c d.c ∧ RdM ok w m d.m
structure SzF (d : FeedD) : Prop where
  c : SzC d.c
  m : SzM d.m
theorem RdF.keep {ok : Nat → Prop} {w w' : World} {cs : Array Value} {d : FeedD} (h : RdF ok w cs d) (hk : Kn ok w w') : RdF ok w' cs d := by
  obtain ⟨c, m, h0, h1, h2⟩ := h.out
  exact ⟨c, m, h0, h1.keep hk, h2.keep hk⟩
theorem RdF.mono {ok ok' : Nat → Prop} {w : World} {cs : Array Value} {d : FeedD} (h : RdF ok w cs d) (hk : ∀ b, b < w.heap.size → ok b → ok' b) : RdF ok' w cs d := by
  obtain ⟨c, m, h0, h1, h2⟩ := h.out
  exact ⟨c, m, h0, h1.mono hk, h2.mono hk⟩
theorem FeedD.size (d : FeedD) (c m : Array Value) (hc : c.size = 15) (hm : m.size = 30) : (d.cs c m).size = 53 := by simp [FeedD.cs, FeedD.m0, FeedD.m1, hc, hm]
theorem RdF.size {ok : Nat → Prop} {w : World} {cs : Array Value} {d : FeedD} (h : RdF ok w cs d) : cs.size = 53 := by
  obtain ⟨c, m, rfl, h1, h2⟩ := h.out
  exact d.size c m h1.size h2.size
theorem RdF.one {ok : Nat → Prop} {w : World} {cs : Array Value} {d : FeedD} (h : RdF ok w cs d) : ∀ v ∈ cs.toList, v.oneCell' = true := by
  obtain ⟨c, m, rfl, h1, h2⟩ := h.out
  intro v hv
  simp only [FeedD.cs, FeedD.m0, FeedD.m1, Array.toList_append, List.mem_append] at hv
  rcases hv with ((hv | hv) | hv) | hv
  · simp at hv; rcases hv with rfl | rfl | rfl <;> rfl
  · exact h1.one v hv
  · exact h2.one v hv
  · simp at hv; rcases hv with rfl | rfl | rfl | rfl | rfl <;> rfl
theorem FeedD.partC (d : FeedD) (c m : Array Value) (hc : c.size = 15) (hm : m.size = 30) : (d.cs c m).extract 3 (3 + 15) = c := by
  apply Array.ext'
  simp [FeedD.cs, FeedD.m0, FeedD.m1, hc, hm]
  exact List.take_of_length_le (by simp [hc])
theorem FeedD.partM (d : FeedD) (c m : Array Value) (hc : c.size = 15) (hm : m.size = 30) : (d.cs c m).extract 18 (18 + 30) = m := by
  apply Array.ext'
  simp [FeedD.cs, FeedD.m0, FeedD.m1, hc, hm, List.take_append, List.drop_append, List.take_of_length_le, List.drop_of_length_le]
theorem FeedD.overC (d : FeedD) (c m c' : Array Value) (hc : c.size = 15) (hc' : c'.size = 15) : over (d.cs c m) 3 c' = d.cs c' m := by
  apply Array.ext'
  simp [over, FeedD.cs, FeedD.m0, FeedD.m1, hc, hc', List.take_append, List.drop_append, List.take_of_length_le, List.drop_of_length_le]
theorem FeedD.overM (d : FeedD) (c m m' : Array Value) (hc : c.size = 15) (hm : m.size = 30) (hm' : m'.size = 30) : over (d.cs c m) 18 m' = d.cs c m' := by
  apply Array.ext'
  simp [over, FeedD.cs, FeedD.m0, FeedD.m1, hc, hm, hm', List.take_append, List.drop_append, List.take_of_length_le, List.drop_of_length_le]
set_option maxHeartbeats 4000000 in
set_option maxRecDepth 100000 in
theorem feed59 {ok : Nat → Prop} (cs : Array Value) (d : FeedD) (w : World) (h : RdF ok w cs d) (hs : SzF d) :
    Calls Try.prog 59 #[.agg cs] w fun e w' => ∃ cs', e = .returned (.agg cs') ∧ RdF (w.heap.size ≤ ·) w' cs' d ∧ Below w.heap.size w w' := by
  obtain ⟨c, m, hrow, h1, h2⟩ := h.out
  have hc := h1.size
  have hm := h2.size
  have hb1 : Below w.heap.size w (w.alloc (.cells cs 42)) := (Below.refl _ _).alloc (Nat.le_refl _) _
  have hb2 : Below w.heap.size w ((w.alloc (.cells cs 42)).alloc (.cells #[.int .u8 0, .int .i64 0, .int .i64 0, .int .i64 0, .int .i64 0, .int .i64 0, .int .i64 0, .int .i64 0, .bool false, .slice none 0 0, .slice none 0 0, .slice none 0 0, .slice none 0 0, .int .i64 0, .int .i64 0, .slice none 0 0, .int .i64 0, .int .i64 0, .int .u8 0, .int .i64 0, .int .i64 0, .int .i64 0, .int .i64 0, .int .i64 0, .bool false, .slice none 0 0, .slice none 0 0, .slice none 0 0, .slice none 0 0, .int .i64 0, .int .i64 0, .slice none 0 0, .int .i64 0, .int .i64 0, .int .i64 0, .int .i64 0, .int .i64 0, .int .i64 0, .int .i64 0, .int .i64 0, .int .i64 0, .slice none 0 0, .int .i64 0, .int .i64 0, .int .i64 0, .int .i64 0, .int .i64 0, .int .i64 0, .int .i64 0, .int .i64 0, .int .i64 0, .int .i64 0, .int .i64 0] 42)) := hb1.alloc (by simp) _
  have x1 : ((w.alloc (.cells cs 42)).alloc (.cells #[.int .u8 0, .int .i64 0, .int .i64 0, .int .i64 0, .int .i64 0, .int .i64 0, .int .i64 0, .int .i64 0, .bool false, .slice none 0 0, .slice none 0 0, .slice none 0 0, .slice none 0 0, .int .i64 0, .int .i64 0, .slice none 0 0, .int .i64 0, .int .i64 0, .int .u8 0, .int .i64 0, .int .i64 0, .int .i64 0, .int .i64 0, .int .i64 0, .bool false, .slice none 0 0, .slice none 0 0, .slice none 0 0, .slice none 0 0, .int .i64 0, .int .i64 0, .slice none 0 0, .int .i64 0, .int .i64 0, .int .i64 0, .int .i64 0, .int .i64 0, .int .i64 0, .int .i64 0, .int .i64 0, .int .i64 0, .slice none 0 0, .int .i64 0, .int .i64 0, .int .i64 0, .int .i64 0, .int .i64 0, .int .i64 0, .int .i64 0, .int .i64 0, .int .i64 0, .int .i64 0, .int .i64 0] 42)).heap[w.heap.size]? = some (.cells cs 42 (0, 0)) := heap_alloc2_old w _ _
  have x2 : ((w.alloc (.cells cs 42)).alloc (.cells #[.int .u8 0, .int .i64 0, .int .i64 0, .int .i64 0, .int .i64 0, .int .i64 0, .int .i64 0, .int .i64 0, .bool false, .slice none 0 0, .slice none 0 0, .slice none 0 0, .slice none 0 0, .int .i64 0, .int .i64 0, .slice none 0 0, .int .i64 0, .int .i64 0, .int .u8 0, .int .i64 0, .int .i64 0, .int .i64 0, .int .i64 0, .int .i64 0, .bool false, .slice none 0 0, .slice none 0 0, .slice none 0 0, .slice none 0 0, .int .i64 0, .int .i64 0, .slice none 0 0, .int .i64 0, .int .i64 0, .int .i64 0, .int .i64 0, .int .i64 0, .int .i64 0, .int .i64 0, .int .i64 0, .int .i64 0, .slice none 0 0, .int .i64 0, .int .i64 0, .int .i64 0, .int .i64 0, .int .i64 0, .int .i64 0, .int .i64 0, .int .i64 0, .int .i64 0, .int .i64 0, .int .i64 0] 42)).heap[w.heap.size + 1]? = some (.cells #[.int .u8 0, .int .i64 0, .int .i64 0, .int .i64 0, .int .i64 0, .int .i64 0, .int .i64 0, .int .i64 0, .bool false, .slice none 0 0, .slice none 0 0, .slice none 0 0, .slice none 0 0, .int .i64 0, .int .i64 0, .slice none 0 0, .int .i64 0, .int .i64 0, .int .u8 0, .int .i64 0, .int .i64 0, .int .i64 0, .int .i64 0, .int .i64 0, .bool false, .slice none 0 0, .slice none 0 0, .slice none 0 0, .slice none 0 0, .int .i64 0, .int .i64 0, .slice none 0 0, .int .i64 0, .int .i64 0, .int .i64 0, .int .i64 0, .int .i64 0, .int .i64 0, .int .i64 0, .int .i64 0, .int .i64 0, .slice none 0 0, .int .i64 0, .int .i64 0, .int .i64 0, .int .i64 0, .int .i64 0, .int .i64 0, .int .i64 0, .int .i64 0, .int .i64 0, .int .i64 0, .int .i64 0] 42 (0, 0)) := heap_alloc2_new w _ _
  have hsz : ((w.alloc (.cells cs 42)).alloc (.cells #[.int .u8 0, .int .i64 0, .int .i64 0, .int .i64 0, .int .i64 0, .int .i64 0, .int .i64 0, .int .i64 0, .bool false, .slice none 0 0, .slice none 0 0, .slice none 0 0, .slice none 0 0, .int .i64 0, .int .i64 0, .slice none 0 0, .int .i64 0, .int .i64 0, .int .u8 0, .int .i64 0, .int .i64 0, .int .i64 0, .int .i64 0, .int .i64 0, .bool false, .slice none 0 0, .slice none 0 0, .slice none 0 0, .slice none 0 0, .int .i64 0, .int .i64 0, .slice none 0 0, .int .i64 0, .int .i64 0, .int .i64 0, .int .i64 0, .int .i64 0, .int .i64 0, .int .i64 0, .int .i64 0, .int .i64 0, .slice none 0 0, .int .i64 0, .int .i64 0, .int .i64 0, .int .i64 0, .int .i64 0, .int .i64 0, .int .i64 0, .int .i64 0, .int .i64 0, .int .i64 0, .int .i64 0] 42)).heap.size = w.heap.size + 2 := by simp
  have HX := Lib.hid (And.intro hb2 (And.intro x1 (And.intro x2 hsz)))
  have HK := Lib.hid (And.intro ((h1.mono (ok' := fun b => b < w.heap.size) fun b hb _ => hb).keep (Kn.of_below hb2)) ((h2.mono (ok' := fun b => b < w.heap.size) fun b hb _ => hb).keep (Kn.of_below hb2)))
  have hcc : ∀ w', Below ((w.alloc (.cells cs 42)).alloc (.cells #[.int .u8 0, .int .i64 0, .int .i64 0, .int .i64 0, .int .i64 0, .int .i64 0, .int .i64 0, .int .i64 0, .bool false, .slice none 0 0, .slice none 0 0, .slice none 0 0, .slice none 0 0, .int .i64 0, .int .i64 0, .slice none 0 0, .int .i64 0, .int .i64 0, .int .u8 0, .int .i64 0, .int .i64 0, .int .i64 0, .int .i64 0, .int .i64 0, .bool false, .slice none 0 0, .slice none 0 0, .slice none 0 0, .slice none 0 0, .int .i64 0, .int .i64 0, .slice none 0 0, .int .i64 0, .int .i64 0, .int .i64 0, .int .i64 0, .int .i64 0, .int .i64 0, .int .i64 0, .int .i64 0, .int .i64 0, .slice none 0 0, .int .i64 0, .int .i64 0, .int .i64 0, .int .i64 0, .int .i64 0, .int .i64 0, .int .i64 0, .int .i64 0, .int .i64 0, .int .i64 0, .int .i64 0] 42)).heap.size ((w.alloc (.cells cs 42)).alloc (.cells #[.int .u8 0, .int .i64 0, .int .i64 0, .int .i64 0, .int .i64 0, .int .i64 0, .int .i64 0, .int .i64 0, .bool false, .slice none 0 0, .slice none 0 0, .slice none 0 0, .slice none 0 0, .int .i64 0, .int .i64 0, .slice none 0 0, .int .i64 0, .int .i64 0, .int .u8 0, .int .i64 0, .int .i64 0, .int .i64 0, .int .i64 0, .int .i64 0, .bool false, .slice none 0 0, .slice none 0 0, .slice none 0 0, .slice none 0 0, .int .i64 0, .int .i64 0, .slice none 0 0, .int .i64 0, .int .i64 0, .int .i64 0, .int .i64 0, .int .i64 0, .int .i64 0, .int .i64 0, .int .i64 0, .int .i64 0, .slice none 0 0, .int .i64 0, .int .i64 0, .int .i64 0, .int .i64 0, .int .i64 0, .int .i64 0, .int .i64 0, .int .i64 0, .int .i64 0, .int .i64 0, .int .i64 0] 42)) w' → (loadVar 31 ⟨w.heap.size, 3, none⟩).run Try.prog w' = .ok (.agg c) w' ∧ (loadVar 40 ⟨w.heap.size, 18, none⟩).run Try.prog w' = .ok (.agg m) w' ∧ Below ((w.alloc (.cells cs 42)).alloc (.cells #[.int .u8 0, .int .i64 0, .int .i64 0, .int .i64 0, .int .i64 0, .int .i64 0, .int .i64 0, .int .i64 0, .bool false, .slice none 0 0, .slice none 0 0, .slice none 0 0, .slice none 0 0, .int .i64 0, .int .i64 0, .slice none 0 0, .int .i64 0, .int .i64 0, .int .u8 0, .int .i64 0, .int .i64 0, .int .i64 0, .int .i64 0, .int .i64 0, .bool false, .slice none 0 0, .slice none 0 0, .slice none 0 0, .slice none 0 0, .int .i64 0, .int .i64 0, .slice none 0 0, .int .i64 0, .int .i64 0, .int .i64 0, .int .i64 0, .int .i64 0, .int .i64 0, .int .i64 0, .int .i64 0, .int .i64 0, .slice none 0 0, .int .i64 0, .int .i64 0, .int .i64 0, .int .i64 0, .int .i64 0, .int .i64 0, .int .i64 0, .int .i64 0, .int .i64 0, .int .i64 0, .int .i64 0] 42)).heap.size ((w.alloc (.cells cs 42)).alloc (.cells #[.int .u8 0, .int .i64 0, .int .i64 0, .int .i64 0, .int .i64 0, .int .i64 0, .int .i64 0, .int .i64 0, .bool false, .slice none 0 0, .slice none 0 0, .slice none 0 0, .slice none 0 0, .int .i64 0, .int .i64 0, .slice none 0 0, .int .i64 0, .int .i64 0, .int .u8 0, .int .i64 0, .int .i64 0, .int .i64 0, .int .i64 0, .int .i64 0, .bool false, .slice none 0 0, .slice none 0 0, .slice none 0 0, .slice none 0 0, .int .i64 0, .int .i64 0, .slice none 0 0, .int .i64 0, .int .i64 0, .int .i64 0, .int .i64 0, .int .i64 0, .int .i64 0, .int .i64 0, .int .i64 0, .int .i64 0, .slice none 0 0, .int .i64 0, .int .i64 0, .int .i64 0, .int .i64 0, .int .i64 0, .int .i64 0, .int .i64 0, .int .i64 0, .int .i64 0, .int .i64 0, .int .i64 0] 42)) w' := fun w' hw => by
    have y := (hw.block _ (lt_of_some x1)).trans x1
    refine ⟨?_, ?_, hw⟩
    · have := run_loadVar_part (P := Try.prog) w' w.heap.size 3 15 42 31 cs (0, 0) _ y Try.underlying31 rfl cells31 (by rw [h.size]; decide)
      rw [hrow, d.partC c m hc hm] at this
      exact this
    · have := run_loadVar_part (P := Try.prog) w' w.heap.size 18 30 42 40 cs (0, 0) _ y Try.underlying40 rfl cells40 (by rw [h.size]; decide)
      rw [hrow, d.partM c m hc hm] at this
      exact this
  obtain ⟨l1, l2, _⟩ := hcc _ (Below.refl _ _)
  have HC := Lib.hid hcc
  have HH := Lib.hid (And.intro h (And.intro hs (And.intro hc hrow)))
  clear hcc hb1 hb2 x1 x2 hsz h1 h2 h hs hrow
  go_enter Try.func59, Try.ntmps59
  go_wp2_with fail
  generalize hwz : (w.alloc (.cells cs 42)).alloc (.cells #[.int .u8 0, .int .i64 0, .int .i64 0, .int .i64 0, .int .i64 0, .int .i64 0, .int .i64 0, .int .i64 0, .bool false, .slice none 0 0, .slice none 0 0, .slice none 0 0, .slice none 0 0, .int .i64 0, .int .i64 0, .slice none 0 0, .int .i64 0, .int .i64 0, .int .u8 0, .int .i64 0, .int .i64 0, .int .i64 0, .int .i64 0, .int .i64 0, .bool false, .slice none 0 0, .slice none 0 0, .slice none 0 0, .slice none 0 0, .int .i64 0, .int .i64 0, .slice none 0 0, .int .i64 0, .int .i64 0, .int .i64 0, .int .i64 0, .int .i64 0, .int .i64 0, .int .i64 0, .int .i64 0, .int .i64 0, .slice none 0 0, .int .i64 0, .int .i64 0, .int .i64 0, .int .i64 0, .int .i64 0, .int .i64 0, .int .i64 0, .int .i64 0, .int .i64 0, .int .i64 0, .int .i64 0] 42) = wz at *
  clear hwz
  refine Go.Proofs.Phase.wp_region_ph (S := (fun w' => (loadVar 31 ⟨w.heap.size, 3, none⟩).run Try.prog w' = .ok (.agg c) w' ∧ (loadVar 40 ⟨w.heap.size, 18, none⟩).run Try.prog w' = .ok (.agg m) w' ∧ Below wz.heap.size wz w')) 7 (by kernel_rfl) ?_ (fun hHeld => ?_)
  · ((try dsimp only) <;> (first | exact HC.out _ (by assumption) | exact HC.out _ (below_drewN (Below.refl _ _) _) | exact HC.out _ (Below.refl _ _).drew))
  refine Go.Proofs.Phase.wpPh_take' (i := 0) (by simp only [List.getElem?_toArray, List.getElem?_cons_succ, List.getElem?_cons_zero]; rfl) ?_
  refine ⟨?_, ⟨by kernel_rfl, by kernel_rfl, by kernel_rfl, by kernel_rfl⟩, fun _ _ _ h => h, Or.inl ⟨by rfl, ?_⟩, by assumption, ?_⟩
  rotate_left
  · (intro w hSw; (try dsimp only at hSw); go_simp; with_reducible rfl)
  try simp only [Act.put, List.setIfInBounds_toArray, List.set_cons_zero, List.set_cons_succ]
  refine Go.Proofs.Phase.wpPh_take' (i := 1) (by simp only [List.getElem?_toArray, List.getElem?_cons_succ, List.getElem?_cons_zero]; rfl) ?_
  refine ⟨?_, ⟨by kernel_rfl, by kernel_rfl, by kernel_rfl, by kernel_rfl⟩, fun _ _ _ h => h, Or.inl ⟨by rfl, ?_⟩, by assumption, ?_⟩
  rotate_left
  · (intro w hSw; (try dsimp only at hSw); first | (refine (Go.Proofs.Phase.exec_load _ _ rfl _ rfl _ hSw.1).trans ?_; with_reducible rfl) | (refine (Go.Proofs.Phase.exec_load _ _ rfl _ rfl _ hSw.2.1).trans ?_; with_reducible rfl) | (refine (Go.Proofs.Phase.exec_load _ _ rfl _ rfl _ hSw.2.2.1).trans ?_; with_reducible rfl))
  try simp only [Act.put, List.setIfInBounds_toArray, List.set_cons_zero, List.set_cons_succ]
  refine Go.Proofs.Phase.wpPh_take' (i := 3) (by simp only [List.getElem?_toArray, List.getElem?_cons_succ, List.getElem?_cons_zero]; rfl) ?_
  refine ⟨?_, ⟨by kernel_rfl, by kernel_rfl, by kernel_rfl, by kernel_rfl⟩, fun _ _ _ h => h, Or.inl ⟨by rfl, ?_⟩, by assumption, ?_⟩
  rotate_left
  · (intro w hSw; (try dsimp only at hSw); go_simp; with_reducible rfl)
  try simp only [Act.put, List.setIfInBounds_toArray, List.set_cons_zero, List.set_cons_succ]
  refine Go.Proofs.Phase.wpPh_take' (i := 4) (by simp only [List.getElem?_toArray, List.getElem?_cons_succ, List.getElem?_cons_zero]; rfl) ?_
  refine ⟨?_, ⟨by kernel_rfl, by kernel_rfl, by kernel_rfl, by kernel_rfl⟩, fun _ _ _ h => h, Or.inl ⟨by rfl, ?_⟩, by assumption, ?_⟩
  rotate_left
  · (intro w hSw; (try dsimp only at hSw); first | (refine (Go.Proofs.Phase.exec_load _ _ rfl _ rfl _ hSw.1).trans ?_; with_reducible rfl) | (refine (Go.Proofs.Phase.exec_load _ _ rfl _ rfl _ hSw.2.1).trans ?_; with_reducible rfl) | (refine (Go.Proofs.Phase.exec_load _ _ rfl _ rfl _ hSw.2.2.1).trans ?_; with_reducible rfl))
  try simp only [Act.put, List.setIfInBounds_toArray, List.set_cons_zero, List.set_cons_succ]
  refine Go.Proofs.Phase.wpPh_before (i := 2) (by kernel_rfl) (by simp only [List.getElem?_toArray, List.getElem?_cons_succ, List.getElem?_cons_zero]; rfl) (fun K hK => ?_)
  go_simp
  ((first
      | with_reducible refine step_store_part rfl 31 _ _ rfl rfl _ 3 15 rfl 42 _ _ rfl Y1.out cells31 R1.size (by rw [HH.out.1.size]; decide) R1.one ?_
      | with_reducible refine step_store_part rfl 40 _ _ rfl rfl _ 18 30 rfl 42 _ _ rfl Y2.out cells40 R2.size (by rw [size_over (by rw [HH.out.1.size, R1.size]; decide), HH.out.1.size]; decide) R2.one ?_
      | (have tk := R1; obtain ⟨_, _, s2⟩ := (show _ ∧ _ ∧ Below wz.heap.size wz _ by assumption); with_reducible refine (mail48 _ d.m _ (HK.out.2.keep (Kn.of_below s2)) HH.out.2.1.m).mono ?_; rintro e w4 ⟨m', rfl, R2, B2⟩; have K2 := s2.trans (B2.mono s2.size); have Y1 := Lib.hid ((K2.block _ (lt_of_some HX.out.2.1)).trans HX.out.2.1); have Y2 := Lib.hid (setRow_same (vs := over cs 3 c') Y1.out); clear s2)
      | (obtain ⟨_, _, s2⟩ := (show _ ∧ _ ∧ Below wz.heap.size wz _ by assumption); with_reducible refine (commit63 _ d.c _ (HK.out.1.keep (Kn.of_below s2)) HH.out.2.1.c).mono ?_; rintro e w3 ⟨c', rfl, R1, B1⟩; have K1 := s2.trans (B1.mono s2.size); clear s2)))
  go_wp2_with fail
  refine hK.out _ _ ?_ (fun hHeldN => ?_)
  · ((try dsimp only) <;> (first | exact HC.out _ (by assumption) | exact HC.out _ (below_drewN (Below.refl _ _) _) | exact HC.out _ (Below.refl _ _).drew))
  clear hHeld
  have hHeld := hHeldN
  clear hHeldN
  clear hK K
  try simp only [Act.put, List.setIfInBounds_toArray, List.set_cons_zero, List.set_cons_succ]
  refine Go.Proofs.Phase.wpPh_take' (i := 6) (by simp only [List.getElem?_toArray, List.getElem?_cons_succ, List.getElem?_cons_zero]; rfl) ?_
  refine ⟨?_, ⟨by kernel_rfl, by kernel_rfl, by kernel_rfl, by kernel_rfl⟩, fun _ _ _ h => h, Or.inl ⟨by rfl, ?_⟩, by assumption, ?_⟩
  rotate_left
  · (intro w hSw; (try dsimp only at hSw); go_simp; with_reducible rfl)
  try simp only [Act.put, List.setIfInBounds_toArray, List.set_cons_zero, List.set_cons_succ]
  refine Go.Proofs.Phase.wpPh_before (i := 5) (by kernel_rfl) (by simp only [List.getElem?_toArray, List.getElem?_cons_succ, List.getElem?_cons_zero]; rfl) (fun K hK => ?_)
  go_simp
  ((first
      | with_reducible refine step_store_part rfl 31 _ _ rfl rfl _ 3 15 rfl 42 _ _ rfl Y1.out cells31 R1.size (by rw [HH.out.1.size]; decide) R1.one ?_
      | with_reducible refine step_store_part rfl 40 _ _ rfl rfl _ 18 30 rfl 42 _ _ rfl Y2.out cells40 R2.size (by rw [size_over (by rw [HH.out.1.size, R1.size]; decide), HH.out.1.size]; decide) R2.one ?_
      | (have tk := R1; obtain ⟨_, _, s2⟩ := (show _ ∧ _ ∧ Below wz.heap.size wz _ by assumption); with_reducible refine (mail48 _ d.m _ (HK.out.2.keep (Kn.of_below s2)) HH.out.2.1.m).mono ?_; rintro e w4 ⟨m', rfl, R2, B2⟩; have K2 := s2.trans (B2.mono s2.size); have Y1 := Lib.hid ((K2.block _ (lt_of_some HX.out.2.1)).trans HX.out.2.1); have Y2 := Lib.hid (setRow_same (vs := over cs 3 c') Y1.out); clear s2)
      | (obtain ⟨_, _, s2⟩ := (show _ ∧ _ ∧ Below wz.heap.size wz _ by assumption); with_reducible refine (commit63 _ d.c _ (HK.out.1.keep (Kn.of_below s2)) HH.out.2.1.c).mono ?_; rintro e w3 ⟨c', rfl, R1, B1⟩; have K1 := s2.trans (B1.mono s2.size); clear s2)))
  go_wp2_with fail
  refine hK.out _ _ ?_ (fun hHeldN => ?_)
  · ((try dsimp only) <;> (first | exact HC.out _ (by assumption) | exact HC.out _ (below_drewN (Below.refl _ _) _) | exact HC.out _ (Below.refl _ _).drew))
  clear hHeld
  have hHeld := hHeldN
  clear hHeldN
  clear hK K
  try simp only [Act.put, List.setIfInBounds_toArray, List.set_cons_zero, List.set_cons_succ]
  refine Go.Proofs.Phase.wpPh_behind (i := 7) (by kernel_rfl) (by simp only [List.getElem?_toArray, List.getElem?_cons_succ, List.getElem?_cons_zero]; rfl) (by kernel_rfl) (fun K hK => ?_)
  ((first
      | with_reducible refine step_store_part rfl 31 _ _ rfl rfl _ 3 15 rfl 42 _ _ rfl Y1.out cells31 R1.size (by rw [HH.out.1.size]; decide) R1.one ?_
      | with_reducible refine step_store_part rfl 40 _ _ rfl rfl _ 18 30 rfl 42 _ _ rfl Y2.out cells40 R2.size (by rw [size_over (by rw [HH.out.1.size, R1.size]; decide), HH.out.1.size]; decide) R2.one ?_
      | (have tk := R1; obtain ⟨_, _, s2⟩ := (show _ ∧ _ ∧ Below wz.heap.size wz _ by assumption); with_reducible refine (mail48 _ d.m _ (HK.out.2.keep (Kn.of_below s2)) HH.out.2.1.m).mono ?_; rintro e w4 ⟨m', rfl, R2, B2⟩; have K2 := s2.trans (B2.mono s2.size); have Y1 := Lib.hid ((K2.block _ (lt_of_some HX.out.2.1)).trans HX.out.2.1); have Y2 := Lib.hid (setRow_same (vs := over cs 3 c') Y1.out); clear s2)
      | (obtain ⟨_, _, s2⟩ := (show _ ∧ _ ∧ Below wz.heap.size wz _ by assumption); with_reducible refine (commit63 _ d.c _ (HK.out.1.keep (Kn.of_below s2)) HH.out.2.1.c).mono ?_; rintro e w3 ⟨c', rfl, R1, B1⟩; have K1 := s2.trans (B1.mono s2.size); clear s2)))
  refine hK.out _ _ ?_
  clear hK K
  try simp only [Act.put, List.setIfInBounds_toArray, List.set_cons_zero, List.set_cons_succ]
  refine Go.Proofs.Phase.wpPh_behind (i := 8) (by kernel_rfl) (by simp only [List.getElem?_toArray, List.getElem?_cons_succ, List.getElem?_cons_zero]; rfl) (by kernel_rfl) (fun K hK => ?_)
  go_simp
  refine hK.out _ _ ?_
  clear hK K
  try simp only [Act.put, List.setIfInBounds_toArray, List.set_cons_zero, List.set_cons_succ]
  refine Go.Proofs.Phase.wpPh_behind (i := 9) (by kernel_rfl) (by simp only [List.getElem?_toArray, List.getElem?_cons_succ, List.getElem?_cons_zero]; rfl) (by kernel_rfl) (fun K hK => ?_)
  ((first
      | with_reducible refine step_store_part rfl 31 _ _ rfl rfl _ 3 15 rfl 42 _ _ rfl Y1.out cells31 R1.size (by rw [HH.out.1.size]; decide) R1.one ?_
      | with_reducible refine step_store_part rfl 40 _ _ rfl rfl _ 18 30 rfl 42 _ _ rfl Y2.out cells40 R2.size (by rw [size_over (by rw [HH.out.1.size, R1.size]; decide), HH.out.1.size]; decide) R2.one ?_
      | (have tk := R1; obtain ⟨_, _, s2⟩ := (show _ ∧ _ ∧ Below wz.heap.size wz _ by assumption); with_reducible refine (mail48 _ d.m _ (HK.out.2.keep (Kn.of_below s2)) HH.out.2.1.m).mono ?_; rintro e w4 ⟨m', rfl, R2, B2⟩; have K2 := s2.trans (B2.mono s2.size); have Y1 := Lib.hid ((K2.block _ (lt_of_some HX.out.2.1)).trans HX.out.2.1); have Y2 := Lib.hid (setRow_same (vs := over cs 3 c') Y1.out); clear s2)
      | (obtain ⟨_, _, s2⟩ := (show _ ∧ _ ∧ Below wz.heap.size wz _ by assumption); with_reducible refine (commit63 _ d.c _ (HK.out.1.keep (Kn.of_below s2)) HH.out.2.1.c).mono ?_; rintro e w3 ⟨c', rfl, R1, B1⟩; have K1 := s2.trans (B1.mono s2.size); clear s2)))
  refine hK.out _ _ ?_
  clear hK K
  try simp only [Act.put, List.setIfInBounds_toArray, List.set_cons_zero, List.set_cons_succ]
  refine Go.Proofs.Phase.wpPh_done (by kernel_rfl) ?_ _
  have R1' := (R1.keep (Kn.of_below B2)).mono (ok' := fun b => wz.heap.size ≤ b) fun b _ hb => hb
  have R2' := R2.mono (ok' := fun b => wz.heap.size ≤ b) fun b _ hb => Nat.le_trans K1.size hb
  have hcs : over (over cs 3 c') 18 m' = d.cs c' m' := by rw [HH.out.2.2.2, d.overC c m c' hc R1.size, d.overM c' m m' R1.size hm R2.size]
  have hY := (setRow_same (vs := over (over cs 3 c') 18 m') Y2.out)
  have hN : Kn (fun b => b ≠ w.heap.size) w4 ((w4.setRow w.heap.size (over cs 3 c')).setRow w.heap.size (over (over cs 3 c') 18 m')) :=
    (Kn.setRow _ _ _ (by simp)).trans (Kn.setRow _ _ _ (by simp))
  have hBB : Below w.heap.size w ((w4.setRow w.heap.size (over cs 3 c')).setRow w.heap.size (over (over cs 3 c') 18 m')) :=
    below_setRow (below_setRow (HX.out.1.trans (K2.mono HX.out.1.size)) (Nat.le_refl _)) (Nat.le_refl _)
  have hZ0 := (K2.block _ (lt_of_some HX.out.2.2.1)).trans HX.out.2.2.1
  have hZ := (hN.2 _ (lt_of_some hZ0) (show w.heap.size + 1 ≠ w.heap.size by omega)).trans hZ0
  have hs4 := K2.size
  generalize (w4.setRow w.heap.size (over cs 3 c')).setRow w.heap.size (over (over cs 3 c') 18 m') = w5 at *
  rw [hcs] at hY
  have hR := RdF.mk (d := d) (cs := d.cs c' m') (ok := fun b => wz.heap.size ≤ b) (w := w4) ⟨_, _, rfl, R1', R2'⟩
  have hsz2 := HX.out.2.2.2
  generalize hrow' : d.cs c' m' = cs' at *
  have hR5 := (hR.mono (ok' := fun b => b ≠ w.heap.size ∧ w.heap.size + 2 ≤ b) (fun b _ hb => by omega)).keep (hN.mono' fun b hb => hb.1)
  have H5 := Lib.hid (And.intro hY (And.intro hZ (And.intro hBB hR5)))
  have hsz53 := hR.size
  have hone := hR.one
  have HO := Lib.hid hone
  clear R1 R2 R1' R2' K1 K2 B1 B2 hcs hY hN hBB hZ hZ0 hR hR5 tk l1 l2 hone
  go_wp2_with (first | (with_reducible refine wpList_load_row rfl 42 _ rfl _ rfl 42 _ _ _ H5.out.1 Try.underlying42 rfl (by rw [cells42, hsz53]) ?_) | (with_reducible refine wpList_store_part rfl 42 _ _ rfl rfl _ 0 53 rfl 42 _ _ rfl H5.out.2.1 cells42 hsz53 (by simp) HO.out ?_))
  have hfin : (w5.setRow (w.heap.size + 1) (over #[.int .u8 0, .int .i64 0, .int .i64 0, .int .i64 0, .int .i64 0, .int .i64 0, .int .i64 0, .int .i64 0, .bool false, .slice none 0 0, .slice none 0 0, .slice none 0 0, .slice none 0 0, .int .i64 0, .int .i64 0, .slice none 0 0, .int .i64 0, .int .i64 0, .int .u8 0, .int .i64 0, .int .i64 0, .int .i64 0, .int .i64 0, .int .i64 0, .bool false, .slice none 0 0, .slice none 0 0, .slice none 0 0, .slice none 0 0, .int .i64 0, .int .i64 0, .slice none 0 0, .int .i64 0, .int .i64 0, .int .i64 0, .int .i64 0, .int .i64 0, .int .i64 0, .int .i64 0, .int .i64 0, .int .i64 0, .slice none 0 0, .int .i64 0, .int .i64 0, .int .i64 0, .int .i64 0, .int .i64 0, .int .i64 0, .int .i64 0, .int .i64 0, .int .i64 0, .int .i64 0, .int .i64 0] 0 cs')).heap[w.heap.size + 1]? = some (.cells cs' 42 (0, 0)) := by
    exact (setRow_same H5.out.2.1).trans (congrArg (fun z => some (Obj.cells z 42 (0, 0))) (over_full (by rw [hsz53]; rfl)))
  refine bodyPost_ret (v := .agg cs') (results_cell_row Try.results59 _ _ _ _ _ _ _ rfl hfin Try.underlying42 rfl (by rw [cells42, hsz53])) rfl ⟨_, rfl, ?_, ?_⟩
  · exact (H5.out.2.2.2.keep (Kn.setRow _ _ _ (by omega))).mono fun b _ hb => by omega
  · exact below_setRow H5.out.2.2.1 (by omega)
end Go.Proofs.Ythahadhdhpcndaa
