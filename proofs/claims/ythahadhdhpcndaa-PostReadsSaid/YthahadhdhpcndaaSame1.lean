/- Same nodes, trees. -/
import Derived.Test.YthahadhdhpcndaaSame0
import Derived.Test.YthahadhdhpcndaaPhaseAll
namespace Go.Proofs.Ythahadhdhpcndaa
open Go Go.RowKit
set_option linter.unusedVariables false
set_option linter.unusedSimpArgs false

set_option maxHeartbeats 1000000 in
theorem same99 {ok ok' : Nat → Prop} (d : NodeD) (v v' : Value) (w : World) (h : Rw ok w 1 v d.u) (h' : Rw ok' w 1 v' d.u) (hx : AllI d.u) (hs : d.u.length ≤ 3000000) :
    Calls Try.prog 99 #[.agg #[.int .i64 d.p, .int .i64 d.m, .int .i64 d.e, v], .agg #[.int .i64 d.p, .int .i64 d.m, .int .i64 d.e, v']] w fun e w' => e = .returned (.bool true) ∧ Below w.heap.size w w' := by
  obtain ⟨A, n, c, rfl⟩ := h.slice
  obtain ⟨A', n', c', rfl⟩ := h'.slice
  have hb1 : Below w.heap.size w (w.alloc (.cells #[.int .i64 d.p, .int .i64 d.m, .int .i64 d.e, .slice A n c] 108)) := (Below.refl _ _).alloc (Nat.le_refl _) _
  have hb2 : Below w.heap.size w ((w.alloc (.cells #[.int .i64 d.p, .int .i64 d.m, .int .i64 d.e, .slice A n c] 108)).alloc (.cells #[.int .i64 d.p, .int .i64 d.m, .int .i64 d.e, .slice A' n' c'] 108)) := hb1.alloc (by simp) _
  have M := same73 (.slice A n c) (.slice A' n' c') d.u _ (h.keep (Kn.of_below hb2)) (h'.keep (Kn.of_below hb2)) hx hs
  have x1 : ((w.alloc (.cells #[.int .i64 d.p, .int .i64 d.m, .int .i64 d.e, .slice A n c] 108)).alloc (.cells #[.int .i64 d.p, .int .i64 d.m, .int .i64 d.e, .slice A' n' c'] 108)).heap[w.heap.size]? = some (.cells #[.int .i64 d.p, .int .i64 d.m, .int .i64 d.e, .slice A n c] 108 (0, 0)) := heap_alloc2_old w _ _
  have x2 : ((w.alloc (.cells #[.int .i64 d.p, .int .i64 d.m, .int .i64 d.e, .slice A n c] 108)).alloc (.cells #[.int .i64 d.p, .int .i64 d.m, .int .i64 d.e, .slice A' n' c'] 108)).heap[w.heap.size + 1]? = some (.cells #[.int .i64 d.p, .int .i64 d.m, .int .i64 d.e, .slice A' n' c'] 108 (0, 0)) := heap_alloc2_new w _ _
  have HB2 := Lib.hid hb2
  obtain ⟨dp, dm, de, du⟩ := d
  dsimp only at *
  have t0 : (dp == dp) = true := by simp
  have t1 : (dm == dm) = true := by simp
  have t2 : (de == de) = true := by simp
  clear h hb1 hb2 x1 x2 hs h' hx
  go_enter Try.func99, Try.ntmps99
  go_wp2_with fail
  refine M.mono ?_
  rintro e w2 ⟨rfl, B'⟩
  have HB' := Lib.hid (HB2.out.trans (B'.mono HB2.out.size))
  clear M B'
  go_wp2_with fail
  go_ret
  exact ⟨rfl, HB'.out⟩

def NumN (ns : List NodeD) : Prop := ∀ d ∈ ns, AllI d.u
theorem load108 (w : World) (b o : Nat) (v0 v1 v2 v3 : Value) (h0 : w.cell? ⟨b, o, none⟩ = some v0) (h1 : w.cell? ⟨b, o + 1, none⟩ = some v1) (h2 : w.cell? ⟨b, o + 2, none⟩ = some v2) (h3 : w.cell? ⟨b, o + 3, none⟩ = some v3) :
    (loadVar 108 ⟨b, o, none⟩).run Try.prog w = .ok (.agg #[v0, v1, v2, v3]) w := by
  go_simp
set_option maxHeartbeats 2000000 in
set_option maxRecDepth 100000 in
theorem same92 {ok ok' : Nat → Prop} (v v' : Value) (ns : List NodeD) (w : World) (h : RdN ok w v ns) (h' : RdN ok' w v' ns) (hx : NumN ns) (hs : SzN ns) :
    Calls Try.prog 92 #[v, v'] w fun e w' => e = .returned (.bool true) ∧ Below w.heap.size w w' := by
  obtain ⟨A, n, c, rfl, h1, h2, h3⟩ := h
  obtain ⟨A', n', c', rfl, g1, g2, g3⟩ := h'
  obtain rfl : n = n' := by omega
  have HH := Lib.hid (And.intro h1 (And.intro h3 (And.intro g3 (And.intro hx hs))))
  have t0 : ((n : Int) != (n : Int)) = false := by simp
  have b1 : n ≤ 1000000 := by rw [h1]; exact hs.1
  clear h1 h2 h3 g1 g2 g3 hx hs
  go_enter Try.func92, Try.ntmps92
  go_wp2_with fail
  go_loopw [13] (fun v13 wr => ∃ k : Nat, k ≤ n ∧ v13 = .int .i64 k ∧ Below w.heap.size w wr) (fun v13 _ => n - (intOf v13).toNat)
  case atStart => exact ⟨0, by omega, rfl, Below.refl _ _⟩
  case round =>
    obtain ⟨k, hk, rfl, hB⟩ := hrel
    by_cases hlt : k < n
    · obtain ⟨d, hd⟩ : ∃ d, ns[k]? = some d := ⟨ns[k]'(by have := HH.out.1; omega), List.getElem?_eq_getElem _⟩
      obtain ⟨b, o, rfl, p1, p2, p3⟩ := HH.out.2.1 (by omega)
      obtain ⟨b', o', rfl, q1, q2, q3⟩ := HH.out.2.2.1 (by omega)
      obtain ⟨c0, c1, c2, vu, c3, hR⟩ := p3 k d hd
      obtain ⟨c0', c1', c2', vu', c3', hR'⟩ := q3 k d hd
      have hbl := fun w' (hb : Below w.heap.size w w') => hb.block b p2
      have hbl' := fun w' (hb : Below w.heap.size w w') => hb.block b' q2
      have hm := List.mem_of_getElem? hd
      have hld : ∀ w', Below wr.heap.size wr w' → (loadVar 108 ⟨b, o + k * 4, none⟩).run Try.prog w' = .ok (.agg #[.int .i64 d.p, .int .i64 d.m, .int .i64 d.e, vu]) w' ∧ (loadVar 108 ⟨b', o' + k * 4, none⟩).run Try.prog w' = .ok (.agg #[.int .i64 d.p, .int .i64 d.m, .int .i64 d.e, vu']) w' ∧ Below wr.heap.size wr w' := fun w' hw => by
        have hb := hB.trans (hw.mono hB.size)
        refine ⟨load108 w' _ _ _ _ _ _ ?_ ?_ ?_ ?_, load108 w' _ _ _ _ _ _ ?_ ?_ ?_ ?_, hw⟩
        · exact (World.cell?_of_block (a := ⟨b, _, none⟩) (hbl w' hb)).trans c0
        · exact (World.cell?_of_block (a := ⟨b, _, none⟩) (hbl w' hb)).trans c1
        · exact (World.cell?_of_block (a := ⟨b, _, none⟩) (hbl w' hb)).trans c2
        · exact (World.cell?_of_block (a := ⟨b, _, none⟩) (hbl w' hb)).trans c3
        · exact (World.cell?_of_block (a := ⟨b', _, none⟩) (hbl' w' hb)).trans c0'
        · exact (World.cell?_of_block (a := ⟨b', _, none⟩) (hbl' w' hb)).trans c1'
        · exact (World.cell?_of_block (a := ⟨b', _, none⟩) (hbl' w' hb)).trans c2'
        · exact (World.cell?_of_block (a := ⟨b', _, none⟩) (hbl' w' hb)).trans c3'
      obtain ⟨l1, l2, _⟩ := hld _ (Below.refl _ _)
      have HC := Lib.hid hld
      have HK := Lib.hid (And.intro (hR.keep (Kn.of_below hB)) (And.intro (hR'.keep (Kn.of_below hB)) (And.intro (HH.out.2.2.2.1 d hm) (And.intro (HH.out.2.2.2.2.2 d hm) hB))))
      have HL := Lib.hid hlt
      have i1 : (0 : Int) ≤ k := by omega
      have i2 : (k : Int) < n := by omega
      clear p3 q3 hd p1 q1 p2 q2 hld c0 c1 c2 c3 c0' c1' c2' c3' hR hR' hbl hbl' hm hB
      go_wp2_with fail
      refine Go.Proofs.Phase.wp_region_al (S := (fun w' => (loadVar 108 ⟨b, o + k * 4, none⟩).run Try.prog w' = .ok (.agg #[.int .i64 d.p, .int .i64 d.m, .int .i64 d.e, vu]) w' ∧ (loadVar 108 ⟨b', o' + k * 4, none⟩).run Try.prog w' = .ok (.agg #[.int .i64 d.p, .int .i64 d.m, .int .i64 d.e, vu']) w' ∧ Below wr.heap.size wr w')) (by kernel_rfl) ?_ (fun hHeld => ?_)
      · ((try dsimp only) <;> (first | exact HC.out _ (by assumption) | exact HC.out _ (below_drewN (Below.refl _ _) _) | exact HC.out _ (Below.refl _ _).drew))
      refine Go.Proofs.Phase.wpAl_take' (i := 0) (by simp only [List.getElem?_toArray, List.getElem?_cons_succ, List.getElem?_cons_zero]; rfl) ?_
      refine ⟨?_, ⟨by kernel_rfl, by kernel_rfl, by kernel_rfl⟩, fun _ _ _ h => h, Or.inl ⟨by rfl, ?_⟩, by assumption, ?_⟩
      rotate_left
      · (intro w hSw; (try dsimp only at hSw); go_simp; with_reducible rfl)
      try simp only [Act.put, List.setIfInBounds_toArray, List.set_cons_zero, List.set_cons_succ]
      refine Go.Proofs.Phase.wpAl_take' (i := 1) (by simp only [List.getElem?_toArray, List.getElem?_cons_succ, List.getElem?_cons_zero]; rfl) ?_
      refine ⟨?_, ⟨by kernel_rfl, by kernel_rfl, by kernel_rfl⟩, fun _ _ _ h => h, Or.inl ⟨by rfl, ?_⟩, by assumption, ?_⟩
      rotate_left
      · (intro w hSw; (try dsimp only at hSw); go_simp; with_reducible rfl)
      try simp only [Act.put, List.setIfInBounds_toArray, List.set_cons_zero, List.set_cons_succ]
      refine Go.Proofs.Phase.wpAl_take' (i := 2) (by simp only [List.getElem?_toArray, List.getElem?_cons_succ, List.getElem?_cons_zero]; rfl) ?_
      refine ⟨?_, ⟨by kernel_rfl, by kernel_rfl, by kernel_rfl⟩, fun _ _ _ h => h, Or.inl ⟨by rfl, ?_⟩, by assumption, ?_⟩
      rotate_left
      · (intro w hSw; (try dsimp only at hSw); go_simp; with_reducible rfl)
      try simp only [Act.put, List.setIfInBounds_toArray, List.set_cons_zero, List.set_cons_succ]
      refine Go.Proofs.Phase.wpAl_take' (i := 3) (by simp only [List.getElem?_toArray, List.getElem?_cons_succ, List.getElem?_cons_zero]; rfl) ?_
      refine ⟨?_, ⟨by kernel_rfl, by kernel_rfl, by kernel_rfl⟩, fun _ _ _ h => h, Or.inl ⟨by rfl, ?_⟩, by assumption, ?_⟩
      rotate_left
      · (intro w hSw; (try dsimp only at hSw); first | (refine (Go.Proofs.Phase.exec_load _ _ rfl _ rfl _ hSw.1).trans ?_; with_reducible rfl) | (refine (Go.Proofs.Phase.exec_load _ _ rfl _ rfl _ hSw.2.1).trans ?_; with_reducible rfl) | (refine (Go.Proofs.Phase.exec_load _ _ rfl _ rfl _ hSw.2.2.1).trans ?_; with_reducible rfl))
      try simp only [Act.put, List.setIfInBounds_toArray, List.set_cons_zero, List.set_cons_succ]
      refine Go.Proofs.Phase.wpAl_take' (i := 4) (by simp only [List.getElem?_toArray, List.getElem?_cons_succ, List.getElem?_cons_zero]; rfl) ?_
      refine ⟨?_, ⟨by kernel_rfl, by kernel_rfl, by kernel_rfl⟩, fun _ _ _ h => h, Or.inl ⟨by rfl, ?_⟩, by assumption, ?_⟩
      rotate_left
      · (intro w hSw; (try dsimp only at hSw); go_simp; with_reducible rfl)
      try simp only [Act.put, List.setIfInBounds_toArray, List.set_cons_zero, List.set_cons_succ]
      refine Go.Proofs.Phase.wpAl_take' (i := 5) (by simp only [List.getElem?_toArray, List.getElem?_cons_succ, List.getElem?_cons_zero]; rfl) ?_
      refine ⟨?_, ⟨by kernel_rfl, by kernel_rfl, by kernel_rfl⟩, fun _ _ _ h => h, Or.inl ⟨by rfl, ?_⟩, by assumption, ?_⟩
      rotate_left
      · (intro w hSw; (try dsimp only at hSw); go_simp; with_reducible rfl)
      try simp only [Act.put, List.setIfInBounds_toArray, List.set_cons_zero, List.set_cons_succ]
      refine Go.Proofs.Phase.wpAl_take' (i := 6) (by simp only [List.getElem?_toArray, List.getElem?_cons_succ, List.getElem?_cons_zero]; rfl) ?_
      refine ⟨?_, ⟨by kernel_rfl, by kernel_rfl, by kernel_rfl⟩, fun _ _ _ h => h, Or.inl ⟨by rfl, ?_⟩, by assumption, ?_⟩
      rotate_left
      · (intro w hSw; (try dsimp only at hSw); go_simp; with_reducible rfl)
      try simp only [Act.put, List.setIfInBounds_toArray, List.set_cons_zero, List.set_cons_succ]
      refine Go.Proofs.Phase.wpAl_take' (i := 7) (by simp only [List.getElem?_toArray, List.getElem?_cons_succ, List.getElem?_cons_zero]; rfl) ?_
      refine ⟨?_, ⟨by kernel_rfl, by kernel_rfl, by kernel_rfl⟩, fun _ _ _ h => h, Or.inl ⟨by rfl, ?_⟩, by assumption, ?_⟩
      rotate_left
      · (intro w hSw; (try dsimp only at hSw); first | (refine (Go.Proofs.Phase.exec_load _ _ rfl _ rfl _ hSw.1).trans ?_; with_reducible rfl) | (refine (Go.Proofs.Phase.exec_load _ _ rfl _ rfl _ hSw.2.1).trans ?_; with_reducible rfl) | (refine (Go.Proofs.Phase.exec_load _ _ rfl _ rfl _ hSw.2.2.1).trans ?_; with_reducible rfl))
      try simp only [Act.put, List.setIfInBounds_toArray, List.set_cons_zero, List.set_cons_succ]
      refine Go.Proofs.Phase.wpAl_before (i := 8) (by kernel_rfl) (by simp only [List.getElem?_toArray, List.getElem?_cons_succ, List.getElem?_cons_zero]; rfl) (fun K hK => ?_)
      go_simp
      ((obtain ⟨_, _, s2⟩ := (show _ ∧ _ ∧ Below wr.heap.size wr _ by assumption); with_reducible refine (same99 d vu vu' _ (HK.out.1.keep (Kn.of_below s2)) (HK.out.2.1.keep (Kn.of_below s2)) HK.out.2.2.1 HK.out.2.2.2.1).mono ?_; rintro e w4 ⟨rfl, B2⟩; have K2 := s2.trans (B2.mono s2.size); clear s2 B2))
      go_wp2_with fail
      refine hK.out _ _ ?_ (fun hHeldN => ?_)
      · ((try dsimp only) <;> (first | exact HC.out _ (by assumption) | exact HC.out _ (below_drewN (Below.refl _ _) _) | exact HC.out _ (Below.refl _ _).drew))
      clear hHeld
      have hHeld := hHeldN
      clear hHeldN
      clear hK K
      try simp only [Act.put, List.setIfInBounds_toArray, List.set_cons_zero, List.set_cons_succ]
      refine Go.Proofs.Phase.wpAl_take' (i := 9) (by simp only [List.getElem?_toArray, List.getElem?_cons_succ, List.getElem?_cons_zero]; rfl) ?_
      refine ⟨?_, ⟨by kernel_rfl, by kernel_rfl, by kernel_rfl⟩, fun _ _ _ h => h, Or.inl ⟨by rfl, ?_⟩, by assumption, ?_⟩
      rotate_left
      · (intro w hSw; (try dsimp only at hSw); go_simp; with_reducible rfl)
      try simp only [Act.put, List.setIfInBounds_toArray, List.set_cons_zero, List.set_cons_succ]
      refine Go.Proofs.Phase.wpAl_done (by kernel_rfl) ?_ _
      have HK2 := Lib.hid (HK.out.2.2.2.2.trans (K2.mono HK.out.2.2.2.2.size))
      clear K2
      go_wp2_with fail
      go_roundw
      case rel => exact ⟨k + 1, by have := HL.out; omega, by simp, HK2.out⟩
      case measure =>
        have := HL.out
        simp [intOf]; omega
    · obtain rfl : k = n := by omega
      go_wp2
      go_ret
      exact ⟨rfl, hB⟩
end Go.Proofs.Ythahadhdhpcndaa
