/- MailSize, FeedSize, Beyond. -/
import Derived.Test.YthahadhdhpcndaaSizes
import Derived.Test.YthahadhdhpcndaaPhase
namespace Go.Proofs.Ythahadhdhpcndaa
open Go Go.RowKit
set_option linter.unusedVariables false
set_option linter.unusedSimpArgs false

structure BdM (d : MailD) : Prop where
  c : BdC d.c
  ns : BdN d.ns
structure LeM (d : MailD) (n : Int) : Prop where
  c : LeC d.c n
  ns : LeN d.ns n
theorem LeM.mono {d : MailD} {n m : Int} (h : LeM d n) (hm : n ≤ m) : LeM d m := ⟨h.c.mono hm, h.ns.mono hm⟩
theorem LeM.sz {d : MailD} {n : Int} (h : LeM d n) (hm : n ≤ 262144) : SzM d := ⟨h.c.sz hm, h.ns.sz hm⟩
structure BdF (d : FeedD) : Prop where
  c : BdC d.c
  m : BdM d.m
structure LeF (d : FeedD) (n : Int) : Prop where
  c : LeC d.c n
  m : LeM d.m n
theorem LeF.mono {d : FeedD} {n m : Int} (h : LeF d n) (hm : n ≤ m) : LeF d m := ⟨h.c.mono hm, h.m.mono hm⟩
theorem LeF.sz {d : FeedD} {n : Int} (h : LeF d n) (hm : n ≤ 262144) : SzF d := ⟨h.c.sz hm, h.m.sz hm⟩
set_option maxHeartbeats 4000000 in
set_option maxRecDepth 100000 in
theorem size24 {ok : Nat → Prop} (cs : Array Value) (d : MailD) (w : World) (h : RdM ok w cs d) (hs : BdM d) :
    Calls Try.prog 24 #[.agg cs] w fun e w' => ∃ n : Int, e = .returned (.int .i64 n) ∧ 0 ≤ n ∧ n ≤ 18014398509481984 ∧ (n ≤ 262144 → LeM d n) ∧ Below w.heap.size w w' := by
  obtain ⟨c, vt, hrow, h1, h2⟩ := h.out
  obtain ⟨A1, n1, c1, rfl⟩ := h2.slice
  have hc := h1.size
  have hb1 : Below w.heap.size w (w.alloc (.cells cs 40)) := (Below.refl _ _).alloc (Nat.le_refl _) _
  have x1 : (w.alloc (.cells cs 40)).heap[w.heap.size]? = some (.cells cs 40 (0, 0)) := heap_alloc_new w _
  have hcc : ∀ w', Below (w.alloc (.cells cs 40)).heap.size (w.alloc (.cells cs 40)) w' → (loadVar 31 ⟨w.heap.size, 1, none⟩).run Try.prog w' = .ok (.agg c) w' ∧ w'.cell? ⟨w.heap.size, 23, none⟩ = some (.slice A1 n1 c1) ∧ Below (w.alloc (.cells cs 40)).heap.size (w.alloc (.cells cs 40)) w' := fun w' hw => by
    have y := (hw.block _ (lt_of_some x1)).trans x1
    refine ⟨?_, ?_, hw⟩
    · have := run_loadVar_part (P := Try.prog) w' w.heap.size 1 15 40 31 cs (0, 0) _ y Try.underlying31 rfl cells31 (by rw [h.size]; decide)
      rw [hrow, d.partC c _ hc] at this
      exact this
    · rw [cell_of_row w' _ 23 _ _ _ y, hrow, d.partT c _ hc]
  obtain ⟨l1, l2, _⟩ := hcc _ (Below.refl _ _)
  have HC := Lib.hid hcc
  have HK := Lib.hid (And.intro (h1.keep (Kn.of_below hb1)) (And.intro (h2.keep (Kn.of_below hb1)) (And.intro hs hb1)))
  clear hcc hb1 x1 h1 h2 h hs hrow
  go_enter Try.func24, Try.ntmps24
  go_wp2_with fail
  generalize hwz : w.alloc (.cells cs 40) = wz at *
  clear hwz
  refine Go.Proofs.Phase.wp_region_ph (S := (fun w' => (loadVar 31 ⟨w.heap.size, 1, none⟩).run Try.prog w' = .ok (.agg c) w' ∧ w'.cell? ⟨w.heap.size, 23, none⟩ = some (.slice A1 n1 c1) ∧ Below wz.heap.size wz w')) 8 (by kernel_rfl) ?_ (fun hHeld => ?_)
  · ((try dsimp only) <;> (first | exact HC.out _ (by assumption) | exact HC.out _ (below_drewN (Below.refl _ _) _) | exact HC.out _ (Below.refl _ _).drew))
  refine Go.Proofs.Phase.wpPh_take' (i := 0) (by simp only [List.getElem?_toArray, List.getElem?_cons_succ, List.getElem?_cons_zero]; rfl) ?_
  refine ⟨?_, ⟨by kernel_rfl, by kernel_rfl, by kernel_rfl, by kernel_rfl⟩, fun _ _ _ h => h, Or.inl ⟨by rfl, ?_⟩, by assumption, ?_⟩
  rotate_left
  · (intro w hSw; (try dsimp only at hSw); go_simp; with_reducible rfl)
  try simp only [Act.put, List.setIfInBounds_toArray, List.set_cons_zero, List.set_cons_succ]
  refine Go.Proofs.Phase.wpPh_take' (i := 1) (by simp only [List.getElem?_toArray, List.getElem?_cons_succ, List.getElem?_cons_zero]; rfl) ?_
  refine ⟨?_, ⟨by kernel_rfl, by kernel_rfl, by kernel_rfl, by kernel_rfl⟩, fun _ _ _ h => h, Or.inl ⟨by rfl, ?_⟩, by assumption, ?_⟩
  rotate_left
  · (intro w hSw; (try dsimp only at hSw); first | (refine (Go.Proofs.Phase.exec_load _ _ rfl _ rfl _ hSw.1).trans ?_; with_reducible rfl) | (refine (Go.Proofs.Phase.exec_load _ _ rfl _ rfl _ hSw.2.1).trans ?_; with_reducible rfl) | (refine (Go.Proofs.Phase.exec_load _ _ rfl _ rfl _ hSw.2.2.1).trans ?_; with_reducible rfl))
  try simp only [Act.put, List.setIfInBounds_toArray, List.set_cons_zero, List.set_cons_succ]
  refine Go.Proofs.Phase.wpPh_take' (i := 3) (by simp only [List.getElem?_toArray, List.getElem?_cons_succ, List.getElem?_cons_zero]; rfl) ?_
  refine ⟨?_, ⟨by kernel_rfl, by kernel_rfl, by kernel_rfl, by kernel_rfl⟩, fun _ _ _ h => h, Or.inl ⟨by rfl, ?_⟩, by assumption, ?_⟩
  rotate_left
  · (intro w hSw; (try dsimp only at hSw); go_simp; with_reducible rfl)
  try simp only [Act.put, List.setIfInBounds_toArray, List.set_cons_zero, List.set_cons_succ]
  refine Go.Proofs.Phase.wpPh_take' (i := 4) (by simp only [List.getElem?_toArray, List.getElem?_cons_succ, List.getElem?_cons_zero]; rfl) ?_
  refine ⟨?_, ⟨by kernel_rfl, by kernel_rfl, by kernel_rfl, by kernel_rfl⟩, fun _ _ _ h => h, Or.inl ⟨by rfl, ?_⟩, by assumption, ?_⟩
  rotate_left
  · (intro w hSw; (try dsimp only at hSw); go_simp; with_reducible rfl)
  try simp only [Act.put, List.setIfInBounds_toArray, List.set_cons_zero, List.set_cons_succ]
  refine Go.Proofs.Phase.wpPh_take' (i := 5) (by simp only [List.getElem?_toArray, List.getElem?_cons_succ, List.getElem?_cons_zero]; rfl) ?_
  refine ⟨?_, ⟨by kernel_rfl, by kernel_rfl, by kernel_rfl, by kernel_rfl⟩, fun _ _ _ h => h, Or.inl ⟨by rfl, ?_⟩, by assumption, ?_⟩
  rotate_left
  · (intro w hSw; (try dsimp only at hSw); go_simp; with_reducible rfl)
  try simp only [Act.put, List.setIfInBounds_toArray, List.set_cons_zero, List.set_cons_succ]
  refine Go.Proofs.Phase.wpPh_before (i := 2) (by kernel_rfl) (by simp only [List.getElem?_toArray, List.getElem?_cons_succ, List.getElem?_cons_zero]; rfl) (fun K hK => ?_)
  go_simp
  ((first
      | (have tk := j1; obtain ⟨_, _, s2⟩ := (show _ ∧ _ ∧ Below wz.heap.size wz _ by assumption); with_reducible refine (size45 _ d.ns _ (HK.out.2.1.keep (Kn.of_below s2)) HK.out.2.2.1.ns).mono ?_; rintro e w4 ⟨n2, rfl, k1, k2, k3, B2⟩; have K2 := s2.trans (B2.mono s2.size); clear s2 B2)
      | (obtain ⟨_, _, s2⟩ := (show _ ∧ _ ∧ Below wz.heap.size wz _ by assumption); with_reducible refine (size36 _ d.c _ (HK.out.1.keep (Kn.of_below s2)) HK.out.2.2.1.c).mono ?_; rintro e w3 ⟨n1, rfl, j1, j2, j3, B1⟩; have K1 := s2.trans (B1.mono s2.size); clear s2 B1)))
  go_wp2_with fail
  refine hK.out _ _ ?_ (fun hHeldN => ?_)
  · ((try dsimp only) <;> (first | exact HC.out _ (by assumption) | exact HC.out _ (below_drewN (Below.refl _ _) _) | exact HC.out _ (Below.refl _ _).drew))
  clear hHeld
  have hHeld := hHeldN
  clear hHeldN
  clear hK K
  try simp only [Act.put, List.setIfInBounds_toArray, List.set_cons_zero, List.set_cons_succ]
  refine Go.Proofs.Phase.wpPh_before (i := 6) (by kernel_rfl) (by simp only [List.getElem?_toArray, List.getElem?_cons_succ, List.getElem?_cons_zero]; rfl) (fun K hK => ?_)
  go_simp
  ((first
      | (have tk := j1; obtain ⟨_, _, s2⟩ := (show _ ∧ _ ∧ Below wz.heap.size wz _ by assumption); with_reducible refine (size45 _ d.ns _ (HK.out.2.1.keep (Kn.of_below s2)) HK.out.2.2.1.ns).mono ?_; rintro e w4 ⟨n2, rfl, k1, k2, k3, B2⟩; have K2 := s2.trans (B2.mono s2.size); clear s2 B2)
      | (obtain ⟨_, _, s2⟩ := (show _ ∧ _ ∧ Below wz.heap.size wz _ by assumption); with_reducible refine (size36 _ d.c _ (HK.out.1.keep (Kn.of_below s2)) HK.out.2.2.1.c).mono ?_; rintro e w3 ⟨n1, rfl, j1, j2, j3, B1⟩; have K1 := s2.trans (B1.mono s2.size); clear s2 B1)))
  go_wp2_with fail
  refine hK.out _ _ ?_ (fun hHeldN => ?_)
  · ((try dsimp only) <;> (first | exact HC.out _ (by assumption) | exact HC.out _ (below_drewN (Below.refl _ _) _) | exact HC.out _ (Below.refl _ _).drew))
  clear hHeld
  have hHeld := hHeldN
  clear hHeldN
  clear hK K
  try simp only [Act.put, List.setIfInBounds_toArray, List.set_cons_zero, List.set_cons_succ]
  refine Go.Proofs.Phase.wpPh_take' (i := 7) (by simp only [List.getElem?_toArray, List.getElem?_cons_succ, List.getElem?_cons_zero]; rfl) ?_
  refine ⟨?_, ⟨by kernel_rfl, by kernel_rfl, by kernel_rfl, by kernel_rfl⟩, fun _ _ _ h => h, Or.inl ⟨by rfl, ?_⟩, by assumption, ?_⟩
  rotate_left
  · (intro w hSw; (try dsimp only at hSw); go_simp; with_reducible rfl)
  try simp only [Act.put, List.setIfInBounds_toArray, List.set_cons_zero, List.set_cons_succ]
  refine Go.Proofs.Phase.wpPh_behind (i := 8) (by kernel_rfl) (by simp only [List.getElem?_toArray, List.getElem?_cons_succ, List.getElem?_cons_zero]; rfl) (by kernel_rfl) (fun K hK => ?_)
  go_simp
  refine hK.out _ _ ?_
  clear hK K
  try simp only [Act.put, List.setIfInBounds_toArray, List.set_cons_zero, List.set_cons_succ]
  refine Go.Proofs.Phase.wpPh_done (by kernel_rfl) ?_ _
  go_wp2_with fail
  go_ret
  have e : IntKind.i64.wrap (n1 + n2) = n1 + n2 := wrapi _ (by omega)
  refine ⟨_, congrArg (fun z => Ending.returned (.int .i64 z)) e, by omega, by omega, fun hle => ?_, HK.out.2.2.2.trans (K2.mono HK.out.2.2.2.size)⟩
  exact ⟨(j3 (by omega)).mono (by omega), (k3 (by omega)).mono (by omega)⟩
set_option maxHeartbeats 4000000 in
set_option maxRecDepth 100000 in
theorem size10 {ok : Nat → Prop} (cs : Array Value) (d : FeedD) (w : World) (h : RdF ok w cs d) (hs : BdF d) :
    Calls Try.prog 10 #[.agg cs] w fun e w' => ∃ n : Int, e = .returned (.int .i64 n) ∧ 0 ≤ n ∧ n ≤ 36028797018963968 ∧ (n ≤ 262144 → LeF d n) ∧ Below w.heap.size w w' := by
  obtain ⟨c, m, hrow, h1, h2⟩ := h.out
  have hc := h1.size
  have hm := h2.size
  have hb1 : Below w.heap.size w (w.alloc (.cells cs 42)) := (Below.refl _ _).alloc (Nat.le_refl _) _
  have x1 : (w.alloc (.cells cs 42)).heap[w.heap.size]? = some (.cells cs 42 (0, 0)) := heap_alloc_new w _
  have hcc : ∀ w', Below (w.alloc (.cells cs 42)).heap.size (w.alloc (.cells cs 42)) w' → (loadVar 31 ⟨w.heap.size, 3, none⟩).run Try.prog w' = .ok (.agg c) w' ∧ (loadVar 40 ⟨w.heap.size, 18, none⟩).run Try.prog w' = .ok (.agg m) w' ∧ Below (w.alloc (.cells cs 42)).heap.size (w.alloc (.cells cs 42)) w' := fun w' hw => by
    have y := (hw.block _ (lt_of_some x1)).trans x1
    refine ⟨?_, ?_, hw⟩
    · have := run_loadVar_part (P := Try.prog) w' w.heap.size 3 15 42 31 cs (0, 0) _ y Try.underlying31 rfl cells31 (by rw [h.size]; decide)
      rw [hrow, d.partC c m hc hm] at this
      exact this
    · have := run_loadVar_part (P := Try.prog) w' w.heap.size 18 30 42 40 cs (0, 0) _ y Try.underlying40 rfl cells40 (by rw [h.size]; decide)
      rw [hrow, d.partM c m hc hm] at this
      exact this
  obtain ⟨l1, l2, _⟩ := hcc _ (Below.refl _ _)
  have HC := Lib.hid hcc
  have HK := Lib.hid (And.intro (h1.keep (Kn.of_below hb1)) (And.intro (h2.keep (Kn.of_below hb1)) (And.intro hs hb1)))
  clear hcc hb1 x1 h1 h2 h hs hrow
  go_enter Try.func10, Try.ntmps10
  go_wp2_with fail
  generalize hwz : w.alloc (.cells cs 42) = wz at *
  clear hwz
  refine Go.Proofs.Phase.wp_region_ph (S := (fun w' => (loadVar 31 ⟨w.heap.size, 3, none⟩).run Try.prog w' = .ok (.agg c) w' ∧ (loadVar 40 ⟨w.heap.size, 18, none⟩).run Try.prog w' = .ok (.agg m) w' ∧ Below wz.heap.size wz w')) 8 (by kernel_rfl) ?_ (fun hHeld => ?_)
  · ((try dsimp only) <;> (first | exact HC.out _ (by assumption) | exact HC.out _ (below_drewN (Below.refl _ _) _) | exact HC.out _ (Below.refl _ _).drew))
  refine Go.Proofs.Phase.wpPh_take' (i := 0) (by simp only [List.getElem?_toArray, List.getElem?_cons_succ, List.getElem?_cons_zero]; rfl) ?_
  refine ⟨?_, ⟨by kernel_rfl, by kernel_rfl, by kernel_rfl, by kernel_rfl⟩, fun _ _ _ h => h, Or.inl ⟨by rfl, ?_⟩, by assumption, ?_⟩
  rotate_left
  · (intro w hSw; (try dsimp only at hSw); go_simp; with_reducible rfl)
  try simp only [Act.put, List.setIfInBounds_toArray, List.set_cons_zero, List.set_cons_succ]
  refine Go.Proofs.Phase.wpPh_take' (i := 1) (by simp only [List.getElem?_toArray, List.getElem?_cons_succ, List.getElem?_cons_zero]; rfl) ?_
  refine ⟨?_, ⟨by kernel_rfl, by kernel_rfl, by kernel_rfl, by kernel_rfl⟩, fun _ _ _ h => h, Or.inl ⟨by rfl, ?_⟩, by assumption, ?_⟩
  rotate_left
  · (intro w hSw; (try dsimp only at hSw); first | (refine (Go.Proofs.Phase.exec_load _ _ rfl _ rfl _ hSw.1).trans ?_; with_reducible rfl) | (refine (Go.Proofs.Phase.exec_load _ _ rfl _ rfl _ hSw.2.1).trans ?_; with_reducible rfl) | (refine (Go.Proofs.Phase.exec_load _ _ rfl _ rfl _ hSw.2.2.1).trans ?_; with_reducible rfl))
  try simp only [Act.put, List.setIfInBounds_toArray, List.set_cons_zero, List.set_cons_succ]
  refine Go.Proofs.Phase.wpPh_take' (i := 4) (by simp only [List.getElem?_toArray, List.getElem?_cons_succ, List.getElem?_cons_zero]; rfl) ?_
  refine ⟨?_, ⟨by kernel_rfl, by kernel_rfl, by kernel_rfl, by kernel_rfl⟩, fun _ _ _ h => h, Or.inl ⟨by rfl, ?_⟩, by assumption, ?_⟩
  rotate_left
  · (intro w hSw; (try dsimp only at hSw); go_simp; with_reducible rfl)
  try simp only [Act.put, List.setIfInBounds_toArray, List.set_cons_zero, List.set_cons_succ]
  refine Go.Proofs.Phase.wpPh_take' (i := 5) (by simp only [List.getElem?_toArray, List.getElem?_cons_succ, List.getElem?_cons_zero]; rfl) ?_
  refine ⟨?_, ⟨by kernel_rfl, by kernel_rfl, by kernel_rfl, by kernel_rfl⟩, fun _ _ _ h => h, Or.inl ⟨by rfl, ?_⟩, by assumption, ?_⟩
  rotate_left
  · (intro w hSw; (try dsimp only at hSw); first | (refine (Go.Proofs.Phase.exec_load _ _ rfl _ rfl _ hSw.1).trans ?_; with_reducible rfl) | (refine (Go.Proofs.Phase.exec_load _ _ rfl _ rfl _ hSw.2.1).trans ?_; with_reducible rfl) | (refine (Go.Proofs.Phase.exec_load _ _ rfl _ rfl _ hSw.2.2.1).trans ?_; with_reducible rfl))
  try simp only [Act.put, List.setIfInBounds_toArray, List.set_cons_zero, List.set_cons_succ]
  refine Go.Proofs.Phase.wpPh_before (i := 2) (by kernel_rfl) (by simp only [List.getElem?_toArray, List.getElem?_cons_succ, List.getElem?_cons_zero]; rfl) (fun K hK => ?_)
  go_simp
  ((first
      | (have tk := j1; obtain ⟨_, _, s2⟩ := (show _ ∧ _ ∧ Below wz.heap.size wz _ by assumption); with_reducible refine (size24 _ d.m _ (HK.out.2.1.keep (Kn.of_below s2)) HK.out.2.2.1.m).mono ?_; rintro e w4 ⟨n2, rfl, k1, k2, k3, B2⟩; have K2 := s2.trans (B2.mono s2.size); clear s2 B2)
      | (obtain ⟨_, _, s2⟩ := (show _ ∧ _ ∧ Below wz.heap.size wz _ by assumption); with_reducible refine (size36 _ d.c _ (HK.out.1.keep (Kn.of_below s2)) HK.out.2.2.1.c).mono ?_; rintro e w3 ⟨n1, rfl, j1, j2, j3, B1⟩; have K1 := s2.trans (B1.mono s2.size); clear s2 B1)))
  go_wp2_with fail
  refine hK.out _ _ ?_ (fun hHeldN => ?_)
  · ((try dsimp only) <;> (first | exact HC.out _ (by assumption) | exact HC.out _ (below_drewN (Below.refl _ _) _) | exact HC.out _ (Below.refl _ _).drew))
  clear hHeld
  have hHeld := hHeldN
  clear hHeldN
  clear hK K
  try simp only [Act.put, List.setIfInBounds_toArray, List.set_cons_zero, List.set_cons_succ]
  refine Go.Proofs.Phase.wpPh_take' (i := 3) (by simp only [List.getElem?_toArray, List.getElem?_cons_succ, List.getElem?_cons_zero]; rfl) ?_
  refine ⟨?_, ⟨by kernel_rfl, by kernel_rfl, by kernel_rfl, by kernel_rfl⟩, fun _ _ _ h => h, Or.inl ⟨by rfl, ?_⟩, by assumption, ?_⟩
  rotate_left
  · (intro w hSw; (try dsimp only at hSw); go_simp; with_reducible rfl)
  try simp only [Act.put, List.setIfInBounds_toArray, List.set_cons_zero, List.set_cons_succ]
  refine Go.Proofs.Phase.wpPh_before (i := 6) (by kernel_rfl) (by simp only [List.getElem?_toArray, List.getElem?_cons_succ, List.getElem?_cons_zero]; rfl) (fun K hK => ?_)
  go_simp
  ((first
      | (have tk := j1; obtain ⟨_, _, s2⟩ := (show _ ∧ _ ∧ Below wz.heap.size wz _ by assumption); with_reducible refine (size24 _ d.m _ (HK.out.2.1.keep (Kn.of_below s2)) HK.out.2.2.1.m).mono ?_; rintro e w4 ⟨n2, rfl, k1, k2, k3, B2⟩; have K2 := s2.trans (B2.mono s2.size); clear s2 B2)
      | (obtain ⟨_, _, s2⟩ := (show _ ∧ _ ∧ Below wz.heap.size wz _ by assumption); with_reducible refine (size36 _ d.c _ (HK.out.1.keep (Kn.of_below s2)) HK.out.2.2.1.c).mono ?_; rintro e w3 ⟨n1, rfl, j1, j2, j3, B1⟩; have K1 := s2.trans (B1.mono s2.size); clear s2 B1)))
  go_wp2_with fail
  refine hK.out _ _ ?_ (fun hHeldN => ?_)
  · ((try dsimp only) <;> (first | exact HC.out _ (by assumption) | exact HC.out _ (below_drewN (Below.refl _ _) _) | exact HC.out _ (Below.refl _ _).drew))
  clear hHeld
  have hHeld := hHeldN
  clear hHeldN
  clear hK K
  try simp only [Act.put, List.setIfInBounds_toArray, List.set_cons_zero, List.set_cons_succ]
  refine Go.Proofs.Phase.wpPh_take' (i := 7) (by simp only [List.getElem?_toArray, List.getElem?_cons_succ, List.getElem?_cons_zero]; rfl) ?_
  refine ⟨?_, ⟨by kernel_rfl, by kernel_rfl, by kernel_rfl, by kernel_rfl⟩, fun _ _ _ h => h, Or.inl ⟨by rfl, ?_⟩, by assumption, ?_⟩
  rotate_left
  · (intro w hSw; (try dsimp only at hSw); go_simp; with_reducible rfl)
  try simp only [Act.put, List.setIfInBounds_toArray, List.set_cons_zero, List.set_cons_succ]
  refine Go.Proofs.Phase.wpPh_behind (i := 8) (by kernel_rfl) (by simp only [List.getElem?_toArray, List.getElem?_cons_succ, List.getElem?_cons_zero]; rfl) (by kernel_rfl) (fun K hK => ?_)
  go_simp
  refine hK.out _ _ ?_
  clear hK K
  try simp only [Act.put, List.setIfInBounds_toArray, List.set_cons_zero, List.set_cons_succ]
  refine Go.Proofs.Phase.wpPh_done (by kernel_rfl) ?_ _
  go_wp2_with fail
  go_ret
  have e : IntKind.i64.wrap (IntKind.i64.wrap (1 + n1) + n2) = 1 + n1 + n2 := by rw [wrapi (1 + n1) (by omega), wrapi _ (by omega)]
  refine ⟨_, congrArg (fun z => Ending.returned (.int .i64 z)) e, by omega, by omega, fun hle => ?_, HK.out.2.2.2.trans (K2.mono HK.out.2.2.2.size)⟩
  exact ⟨(j3 (by omega)).mono (by omega), (k3 (by omega)).mono (by omega)⟩
end Go.Proofs.Ythahadhdhpcndaa
