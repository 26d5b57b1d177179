/- Net: Send. -/
import Derived.Test.YthahadhdhpcndaaBuild
import Derived.Test.YthahadhdhpcndaaPhase
namespace Go.Proofs.Ythahadhdhpcndaa
open Go Go.RowKit
set_option linter.unusedVariables false
set_option linter.unusedSimpArgs false

structure Fr (B : Nat) (w w' : World) (g : Nat) (v v' : Value) : Prop where
  size : w.heap.size ≤ w'.heap.size
  same : ∀ b, b < w.heap.size → b ≠ g → v.ownBlock ≠ some b → w'.heap[b]? = w.heap[b]?
  new : ∀ k, v'.ownBlock = some k → v.ownBlock = some k ∨ w.heap.size ≤ k
  below : Below B w w'
theorem info44 : (Try.prog.info? 44).map (fun i => (i.zero, i.size, i.bytes)) = some (some (.agg #[.int .i64 0, .int .i64 0, .bool false, .int .i64 0, .int .u8 0, .int .i64 0, .int .i64 0, .int .i64 0, .int .i64 0, .int .i64 0, .int .i64 0, .int .i64 0, .bool false, .slice none 0 0, .slice none 0 0, .slice none 0 0, .slice none 0 0, .int .i64 0, .int .i64 0, .slice none 0 0, .int .i64 0, .int .i64 0, .int .u8 0, .int .i64 0, .int .i64 0, .int .i64 0, .int .i64 0, .int .i64 0, .bool false, .slice none 0 0, .slice none 0 0, .slice none 0 0, .slice none 0 0, .int .i64 0, .int .i64 0, .slice none 0 0, .int .i64 0, .int .i64 0, .int .i64 0, .int .i64 0, .int .i64 0, .int .i64 0, .int .i64 0, .int .i64 0, .int .i64 0, .slice none 0 0, .int .i64 0, .int .i64 0, .int .i64 0, .int .i64 0, .int .i64 0, .int .i64 0, .int .i64 0, .int .i64 0, .int .i64 0, .int .i64 0, .int .i64 0]), 57, 632) := by kernel_rfl
/-- What Send answers. -/
structure SendP (B g : Nat) (v : Value) (cs : List (Array Value)) (L : List PackD) (d : PackD) (w : World) (e : Ending) (w' : World) : Prop where
  out : (¬ d.Ok ∧ e = .returned (.int .i64 1) ∧ Below w.heap.size w w') ∨ (d.Ok ∧ L.length = 4096 ∧ e = .returned (.int .i64 3) ∧ Below w.heap.size w w') ∨
    (d.Ok ∧ L.length ≠ 4096 ∧ e = .returned (.int .i64 0) ∧ ∃ v' c', NetI w' B g v' (cs ++ [c']) (L ++ [d]) ∧ Fr B w w' g v v' ∧ RdP (fun b => w.heap.size ≤ b ∧ v'.ownBlock ≠ some b) w' c' d)
theorem NetI.sent {w w2 w3 w4 : World} {B g g' cap' : Nat} {v : Value} {cs : List (Array Value)} {L : List PackD} {c' : Array Value} {d : PackD} {o : Obj} (h0 : NetI w B g v cs L) (B2 : Below w.heap.size w w2) (h : NetI w2 B g v cs L) (K3 : Below w2.heap.size w2 w3) (R3 : RdP (w2.heap.size ≤ ·) w3 c' d)
    (o1 : w4.ownsRow B 44 57 (.slice (some ⟨g', 0, none⟩) (L.length + 1) cap') (L.length + 1) (prow cs ++ c'.toList)) (o2 : (w3.alloc o).grownBy w4 v.ownBlock) (o3 : v.ownBlock = some g' ∨ g' = (w3.alloc o).heap.size) (hB : Below B w w2) :
    NetI (w4.setCell ⟨g, 1, none⟩ (.slice (some ⟨g', 0, none⟩) (L.length + 1) cap')) B g (.slice (some ⟨g', 0, none⟩) (L.length + 1) cap') (cs ++ [c']) (L ++ [d]) ∧
      Fr B w (w4.setCell ⟨g, 1, none⟩ (.slice (some ⟨g', 0, none⟩) (L.length + 1) cap')) g v (.slice (some ⟨g', 0, none⟩) (L.length + 1) cap') ∧
      RdP (fun b => w.heap.size ≤ b ∧ (Value.slice (some ⟨g', 0, none⟩) (L.length + 1) cap').ownBlock ≠ some b) (w4.setCell ⟨g, 1, none⟩ (.slice (some ⟨g', 0, none⟩) (L.length + 1) cap')) c' d := by
  have hvb := h.vb
  have hlg := lt_of_some h.blk
  have s2 := B2.size
  have s3 := K3.size
  have s4 := o2.size
  have K4 := K3.alloc K3.size o
  have hsz : (w3.alloc o).heap.size = w3.heap.size + 1 := by simp
  have hg4 : w4.heap[g]? = some (.cells #[.bool true, v] 63 (0, 0)) := ((o2.block _ (by omega) (fun e => h.far e.symm)).trans (K4.block _ hlg)).trans h.blk
  have hgg : g' ≠ g := by
    rintro rfl
    rcases o3 with o3 | o3
    · exact h.far o3
    · omega
  have hfar : (Value.slice (some ⟨g', 0, none⟩) (L.length + 1) cap').ownBlock ≠ some g := fun e => hgg (by simpa [Value.ownBlock] using e)
  refine ⟨⟨heap_setCell_same w4 g 1 _ _ _ hg4, h.lo, by have := h.hB; simp; omega, by simp [h.len], ?_, hfar, ?_⟩, ⟨by simp; omega, ?_, ?_, ?_⟩, ?_⟩
  · rw [List.length_append, List.length_singleton, prow_snoc]
    rcases o1.2 with ⟨e, _⟩ | ⟨b, cp, cur, e1, e2, e3, e4⟩
    · cases e
    · refine ⟨o1.1, .inr ⟨b, cp, cur, e1, e2, ?_, e4⟩⟩
      have : b = g' := by injection e1 with e; injection e with e; injection e with e; exact e.symm
      subst this
      exact (heap_setCell_other w4 ⟨g, 1, none⟩ b _ (show b ≠ g from hgg)).trans e3
  · intro j c0 d0 hc hd
    by_cases hj : j < cs.length
    · rw [List.getElem?_append_left hj] at hc
      rw [List.getElem?_append_left (by have := h.len; omega)] at hd
      have r0 := (h.sub j c0 d0 hc hd).mono (ok' := fun b => (B ≤ b ∧ b ≠ g ∧ v.ownBlock ≠ some b) ∧ b < w2.heap.size) fun b hb hp => ⟨hp, hb⟩
      have r1 := ((r0.keep (Kn.of_below K4)).keep (Kn.grown o2 fun b hb => hb.1.2.2)).keep (Kn.setCell w4 g 1 (.slice (some ⟨g', 0, none⟩) (L.length + 1) cap') (fun hb => hb.1.2.1 rfl))
      refine r1.mono fun b _ hp => ⟨hp.1.1, hp.1.2.1, fun e => ?_⟩
      have e : g' = b := by simpa [Value.ownBlock] using e
      subst e
      rcases o3 with o3 | o3
      · exact hp.1.2.2 o3
      · omega
    · have hjl : j = cs.length := by
        have := (List.getElem?_eq_some_iff.1 hc).1
        simp at this; omega
      subst hjl
      rw [List.getElem?_append_right (Nat.le_refl _)] at hc
      rw [h.len, List.getElem?_append_right (Nat.le_refl _)] at hd
      have e1 : c' = c0 := by simpa using hc
      have e2 : d = d0 := by simpa using hd
      subst e1 e2
      have r0 := R3.mono (ok' := fun b => w2.heap.size ≤ b ∧ b < w3.heap.size) fun b hb hp => ⟨hp, hb⟩
      have r1 := ((r0.keep (Kn.of_below ((Below.refl w3.heap.size w3).alloc (Nat.le_refl _) o))).keep (Kn.grown o2 fun b hb e => by have := (hvb b e).2; omega)).keep (Kn.setCell w4 g 1 (.slice (some ⟨g', 0, none⟩) (L.length + 1) cap') (fun hb => by omega))
      refine r1.mono fun b _ hp => ⟨by have := h.hB; omega, by omega, fun e => ?_⟩
      have e : g' = b := by simpa [Value.ownBlock] using e
      subst e
      rcases o3 with o3 | o3
      · have := (hvb _ o3).2; omega
      · omega
  · intro b hb hbg hbv
    exact (heap_setCell_other w4 ⟨g, 1, none⟩ b _ hbg).trans ((o2.block _ (by omega) (fun e => hbv e.symm)).trans ((K4.block _ (by omega)).trans (B2.block _ hb)))
  · intro k hk
    have e : g' = k := by simpa [Value.ownBlock] using hk
    subst e
    rcases o3 with o3 | o3
    · exact .inl o3
    · exact .inr (by omega)
  · exact ((hB.trans (K4.mono (by have := h.hB; omega))).grown o2 (by have := h.hB; omega) (fun k hk => (hvb k hk).1)).setCell h.lo _
  · have r0 := R3.mono (ok' := fun b => w2.heap.size ≤ b ∧ b < w3.heap.size) fun b hb hp => ⟨hp, hb⟩
    have r1 := ((r0.keep (Kn.of_below ((Below.refl w3.heap.size w3).alloc (Nat.le_refl _) o))).keep (Kn.grown o2 fun b hb e => by have := (hvb b e).2; omega)).keep (Kn.setCell w4 g 1 (.slice (some ⟨g', 0, none⟩) (L.length + 1) cap') (fun hb => by omega))
    refine r1.mono fun b _ hp => ⟨by omega, fun e => ?_⟩
    have e : g' = b := by simpa [Value.ownBlock] using e
    subst e
    rcases o3 with o3 | o3
    · have := (hvb _ o3).2; omega
    · omega
set_option maxHeartbeats 4000000 in
set_option maxRecDepth 100000 in
theorem send14 {w : World} {B g : Nat} {v : Value} {cs : List (Array Value)} {L : List PackD} {ok : Nat → Prop} {c : Array Value} {d : PackD} (h : NetI w B g v cs L) (hL : L.length ≤ 4096) (hp : RdP ok w c d) (hs : d.Ok → SzF d.d) :
    Calls Try.prog 14 #[.pointer (some ⟨g, 0, none⟩), .agg c] w fun e w' => SendP B g v cs L d w e w' := by
  have hb1 : Below w.heap.size w (w.alloc (.cells c 44)) := (Below.refl _ _).alloc (Nat.le_refl _) _
  have hn1 := h.below hb1
  have hp1 := hp.keep (Kn.of_below hb1)
  have M0 := there38 _ g hn1.c0
  have M1 := sendable39 c d _ hp1
  have x1 : (w.alloc (.cells c 44)).heap[w.heap.size]? = some (.cells c 44 (0, 0)) := heap_alloc_new w _
  obtain ⟨A, cap, rfl⟩ := h.slice
  have HN := Lib.hid (And.intro hn1 (And.intro hp1 (And.intro hb1 (And.intro hs (And.intro hp.size (And.intro h hp))))))
  have HX := Lib.hid x1
  clear h hn1 hp hp1 hb1 hs x1
  go_enter Try.func14, Try.ntmps14
  go_wp2_with (first | (with_reducible refine M0.mono ?_; rintro e w' ⟨rfl, rfl⟩) | (with_reducible refine wpList_load_row rfl 44 _ rfl _ rfl 44 _ _ _ HX.out Try.underlying44 rfl (by rw [cells44, HN.out.2.2.2.2.1]) ?_))
  refine M1.mono ?_
  rintro e w2 ⟨⟨b, rfl, hb⟩, B2⟩
  have hbw2 := HN.out.2.2.1.trans (B2.mono HN.out.2.2.1.size)
  cases b with
  | false =>
    have hno : ¬ d.Ok := fun h => by cases hb.2 h
    have H := Lib.hid (And.intro hno hbw2)
    clear hb B2 hbw2 hno M0 M1
    go_wp2_with fail
    go_ret
    exact ⟨.inl ⟨H.out.1, rfl, H.out.2⟩⟩
  | true =>
    have hyes := hb.1 rfl
    have hn2 := HN.out.1.below B2
    have c1 := hn2.c1
    have H := Lib.hid (And.intro hyes (And.intro hbw2 (And.intro hn2 B2)))
    clear hb B2 hbw2 hyes hn2 M0 M1
    by_cases hf : L.length = 4096
    · have e1 : ((L.length : Int) == 4096) = true := by rw [beq_iff_eq]; omega
      have HF := Lib.hid hf
      clear hf
      go_wp2_with fail
      go_ret
      exact ⟨.inr (.inl ⟨H.out.1, HF.out, rfl, H.out.2.1⟩)⟩
    · have e1 : ((L.length : Int) == 4096) = false := by rw [beq_eq_false_iff_ne]; omega
      have hx2 := (H.out.2.2.2.block _ (lt_of_some HX.out)).trans HX.out
      have hcc : ∀ w', w'.heap[w.heap.size]? = w2.heap[w.heap.size]? → w'.heap[g]? = w2.heap[g]? → (loadVar 44 ⟨w.heap.size, 0, none⟩).run Try.prog w' = .ok (.agg c) w' ∧ w'.cell? ⟨g, 1, none⟩ = some (.slice A L.length cap) := fun w' h1 h2 => by
        refine ⟨?_, ?_⟩
        · have := run_loadVar_part (P := Try.prog) w' w.heap.size 0 57 44 44 c (0, 0) _ (h1.trans hx2) Try.underlying44 rfl cells44 (by rw [HN.out.2.2.2.2.1]; decide)
          rw [show c.extract 0 (0 + 57) = c by rw [show 0 + 57 = c.size by rw [HN.out.2.2.2.2.1]]; exact Array.extract_size] at this
          exact this
        · rw [cell_of_row w' g 1 _ _ _ (h2.trans H.out.2.2.1.blk)]; rfl
      have hlg : g < w2.heap.size := lt_of_some H.out.2.2.1.blk
      have hlw : w.heap.size < w2.heap.size := lt_of_some hx2
      obtain ⟨l1, l2⟩ := hcc w2 rfl rfl
      have hkb : ∀ w', Below w2.heap.size w2 w' → (loadVar 44 ⟨w.heap.size, 0, none⟩).run Try.prog w' = .ok (.agg c) w' ∧ w'.cell? ⟨g, 1, none⟩ = some (.slice A L.length cap) := fun w' hb => hcc w' (hb.block _ hlw) (hb.block _ hlg)
      have HC := Lib.hid (And.intro hcc hkb)
      clear hcc hkb hx2
      go_wp2_with fail
      have HP := Lib.hid ((HN.out.2.1.keep (Kn.of_below H.out.2.2.2)))
      obtain ⟨i0, hinf, hz0, hz1, hz2⟩ := info_parts info44
      have FARF : Hid ((Value.slice A L.length cap).ownBlock = some g → False) := Lib.hid HN.out.1.far
      refine Go.Proofs.Phase.wp_region_ph (S := (fun w' => (loadVar 44 ⟨w.heap.size, 0, none⟩).run Try.prog w' = .ok (.agg c) w' ∧ w'.cell? ⟨g, 1, none⟩ = some (.slice A L.length cap))) 11 (by kernel_rfl) ?_ (fun hHeld => ?_)
      · ((try dsimp only) <;> (first | exact HC.out.2 _ (Below.refl _ _).drew | exact HC.out.2 _ (by assumption) | exact HC.out.2 _ (below_drewN (Below.refl _ _) _) | assumption))
      refine Go.Proofs.Phase.wpPh_take' (i := 0) (by simp only [List.getElem?_toArray, List.getElem?_cons_succ, List.getElem?_cons_zero]; rfl) ?_
      refine ⟨?_, ⟨by kernel_rfl, by kernel_rfl, by kernel_rfl, by kernel_rfl⟩, fun _ _ _ h => h, Or.inl ⟨by rfl, ?_⟩, by assumption, ?_⟩
      rotate_left
      · (intro w hSw; (try dsimp only at hSw); go_simp; with_reducible rfl)
      try simp only [Act.put, List.setIfInBounds_toArray, List.set_cons_zero, List.set_cons_succ]
      refine Go.Proofs.Phase.wpPh_take' (i := 1) (by simp only [List.getElem?_toArray, List.getElem?_cons_succ, List.getElem?_cons_zero]; rfl) ?_
      refine ⟨?_, ⟨by kernel_rfl, by kernel_rfl, by kernel_rfl, by kernel_rfl⟩, fun _ _ _ h => h, Or.inl ⟨by rfl, ?_⟩, by assumption, ?_⟩
      rotate_left
      · (intro w hSw; (try dsimp only at hSw); go_simp; with_reducible rfl)
      try simp only [Act.put, List.setIfInBounds_toArray, List.set_cons_zero, List.set_cons_succ]
      refine Go.Proofs.Phase.wpPh_take' (i := 2) (by simp only [List.getElem?_toArray, List.getElem?_cons_succ, List.getElem?_cons_zero]; rfl) ?_
      refine ⟨?_, ⟨by kernel_rfl, by kernel_rfl, by kernel_rfl, by kernel_rfl⟩, fun _ _ _ h => h, Or.inl ⟨by rfl, ?_⟩, by assumption, ?_⟩
      rotate_left
      · (intro w hSw; (try dsimp only at hSw); go_simp; with_reducible rfl)
      try simp only [Act.put, List.setIfInBounds_toArray, List.set_cons_zero, List.set_cons_succ]
      refine Go.Proofs.Phase.wpPh_take' (i := 3) (by simp only [List.getElem?_toArray, List.getElem?_cons_succ, List.getElem?_cons_zero]; rfl) ?_
      refine ⟨?_, ⟨by kernel_rfl, by kernel_rfl, by kernel_rfl, by kernel_rfl⟩, fun _ _ _ h => h, Or.inl ⟨by rfl, ?_⟩, by assumption, ?_⟩
      rotate_left
      · (intro w hSw; (try dsimp only at hSw); go_simp; with_reducible rfl)
      try simp only [Act.put, List.setIfInBounds_toArray, List.set_cons_zero, List.set_cons_succ]
      refine Go.Proofs.Phase.wpPh_take' (i := 4) (by simp only [List.getElem?_toArray, List.getElem?_cons_succ, List.getElem?_cons_zero]; rfl) ?_
      refine ⟨?_, ⟨by kernel_rfl, by kernel_rfl, by kernel_rfl, by kernel_rfl⟩, fun _ _ _ h => h, Or.inl ⟨by rfl, ?_⟩, by assumption, ?_⟩
      rotate_left
      · (intro w hSw; (try dsimp only at hSw); go_simp; with_reducible rfl)
      try simp only [Act.put, List.setIfInBounds_toArray, List.set_cons_zero, List.set_cons_succ]
      refine Go.Proofs.Phase.wpPh_take' (i := 5) (by simp only [List.getElem?_toArray, List.getElem?_cons_succ, List.getElem?_cons_zero]; rfl) ?_
      refine ⟨?_, ⟨by kernel_rfl, by kernel_rfl, by kernel_rfl, by kernel_rfl⟩, fun _ _ _ h => h, Or.inl ⟨by rfl, ?_⟩, by assumption, ?_⟩
      rotate_left
      · (intro w hSw; (try dsimp only at hSw); first | (refine (Go.Proofs.Phase.exec_load _ _ rfl _ rfl _ hSw.1).trans ?_; with_reducible rfl) | (refine (Go.Proofs.Phase.exec_load _ _ rfl _ rfl _ hSw.2.1).trans ?_; with_reducible rfl) | (refine (Go.Proofs.Phase.exec_load _ _ rfl _ rfl _ hSw.2.2.1).trans ?_; with_reducible rfl))
      try simp only [Act.put, List.setIfInBounds_toArray, List.set_cons_zero, List.set_cons_succ]
      refine Go.Proofs.Phase.wpPh_before (i := 6) (by kernel_rfl) (by simp only [List.getElem?_toArray, List.getElem?_cons_succ, List.getElem?_cons_zero]; rfl) (fun K hK => ?_)
      go_simp
      ((first
          | (with_reducible refine step_buildSlice_one rfl 59 44 _ rfl 57 _ i0 Try.underlying59 hinf hz0 hz1 rfl c' rfl HR3.out.size (by decide) (by decide) ?_)
          | (with_reducible refine (pack40 _ d _ (HP.out.keep (Kn.of_below (Below.refl _ _).drew)) (HN.out.2.2.2.1 H.out.1)).mono ?_; rintro e w3 ⟨c', rfl, R3, B3⟩; have K3 := (Below.refl w2.heap.size w2).drew.trans (B3.mono (Nat.le_refl _)); have K4 := K3.alloc K3.size (.cells c' 44); have HR3 := Lib.hid R3; have HL3 := Lib.hid (show c'.toList.length = 1 * 57 by rw [Array.length_toList, R3.size]); have OWN := Lib.hid ((own_below H.out.2.2.1.row K3).alloc (.cells c' 44)); have hs3 := K3.size; clear R3)
          | (with_reducible refine step_append_lies _ rfl _ _ 59 rfl B 44 i0 _ 57 632 Try.underlying59 hinf hz0 hz1 hz2 rfl (by decide) (.slice A L.length cap) L.length (prow cs) rfl OWN.out ⟨w3.heap.size, 0, none⟩ 1 1 c'.toList rfl HL3.out (World.news_of_block (heap_alloc_new _ _)) HR3.out.one (by decide) (by unfold maxLen; omega) (by omega) (by have := HN.out.1.hB; simp at *; omega) _ rfl ?_; intro g' cap' w4 o1 o2 o3 o4; have K9 := HC.out.1 w4 ((o2.block _ (Nat.lt_of_lt_of_le hlw K4.size) (fun e => by have := (HN.out.2.2.2.2.2.1.vb _ e.symm).2; omega)).trans (K4.block _ hlw)) ((o2.block _ (Nat.lt_of_lt_of_le hlg K4.size) (fun e => FARF.out e.symm)).trans (K4.block _ hlg)); have f1 : w4.frozen? ⟨g, 1, none⟩ = false := frozen_of_row w4 g 1 _ _ (((o2.block _ (Nat.lt_of_lt_of_le hlg K4.size) (fun e => FARF.out e.symm)).trans (K4.block _ hlg)).trans H.out.2.2.1.blk))))
      go_wp2_with fail
      refine hK.out _ _ ?_ (fun hHeldN => ?_)
      · ((try dsimp only) <;> (first | exact HC.out.2 _ (Below.refl _ _).drew | exact HC.out.2 _ (by assumption) | exact HC.out.2 _ (below_drewN (Below.refl _ _) _) | assumption))
      clear hHeld
      have hHeld := hHeldN
      clear hHeldN
      clear hK K
      try simp only [Act.put, List.setIfInBounds_toArray, List.set_cons_zero, List.set_cons_succ]
      refine Go.Proofs.Phase.wpPh_before (i := 7) (by kernel_rfl) (by simp only [List.getElem?_toArray, List.getElem?_cons_succ, List.getElem?_cons_zero]; rfl) (fun K hK => ?_)
      ((first
          | (with_reducible refine step_buildSlice_one rfl 59 44 _ rfl 57 _ i0 Try.underlying59 hinf hz0 hz1 rfl c' rfl HR3.out.size (by decide) (by decide) ?_)
          | (with_reducible refine (pack40 _ d _ (HP.out.keep (Kn.of_below (Below.refl _ _).drew)) (HN.out.2.2.2.1 H.out.1)).mono ?_; rintro e w3 ⟨c', rfl, R3, B3⟩; have K3 := (Below.refl w2.heap.size w2).drew.trans (B3.mono (Nat.le_refl _)); have K4 := K3.alloc K3.size (.cells c' 44); have HR3 := Lib.hid R3; have HL3 := Lib.hid (show c'.toList.length = 1 * 57 by rw [Array.length_toList, R3.size]); have OWN := Lib.hid ((own_below H.out.2.2.1.row K3).alloc (.cells c' 44)); have hs3 := K3.size; clear R3)
          | (with_reducible refine step_append_lies _ rfl _ _ 59 rfl B 44 i0 _ 57 632 Try.underlying59 hinf hz0 hz1 hz2 rfl (by decide) (.slice A L.length cap) L.length (prow cs) rfl OWN.out ⟨w3.heap.size, 0, none⟩ 1 1 c'.toList rfl HL3.out (World.news_of_block (heap_alloc_new _ _)) HR3.out.one (by decide) (by unfold maxLen; omega) (by omega) (by have := HN.out.1.hB; simp at *; omega) _ rfl ?_; intro g' cap' w4 o1 o2 o3 o4; have K9 := HC.out.1 w4 ((o2.block _ (Nat.lt_of_lt_of_le hlw K4.size) (fun e => by have := (HN.out.2.2.2.2.2.1.vb _ e.symm).2; omega)).trans (K4.block _ hlw)) ((o2.block _ (Nat.lt_of_lt_of_le hlg K4.size) (fun e => FARF.out e.symm)).trans (K4.block _ hlg)); have f1 : w4.frozen? ⟨g, 1, none⟩ = false := frozen_of_row w4 g 1 _ _ (((o2.block _ (Nat.lt_of_lt_of_le hlg K4.size) (fun e => FARF.out e.symm)).trans (K4.block _ hlg)).trans H.out.2.2.1.blk))))
      refine hK.out _ _ ?_ (fun hHeldN => ?_)
      · ((try dsimp only) <;> (first | exact HC.out.2 _ (Below.refl _ _).drew | exact HC.out.2 _ (by assumption) | exact HC.out.2 _ (below_drewN (Below.refl _ _) _) | assumption))
      clear hHeld
      have hHeld := hHeldN
      clear hHeldN
      clear hK K
      try simp only [Act.put, List.setIfInBounds_toArray, List.set_cons_zero, List.set_cons_succ]
      refine Go.Proofs.Phase.wpPh_before (i := 8) (by kernel_rfl) (by simp only [List.getElem?_toArray, List.getElem?_cons_succ, List.getElem?_cons_zero]; rfl) (fun K hK => ?_)
      ((first
          | (with_reducible refine step_buildSlice_one rfl 59 44 _ rfl 57 _ i0 Try.underlying59 hinf hz0 hz1 rfl c' rfl HR3.out.size (by decide) (by decide) ?_)
          | (with_reducible refine (pack40 _ d _ (HP.out.keep (Kn.of_below (Below.refl _ _).drew)) (HN.out.2.2.2.1 H.out.1)).mono ?_; rintro e w3 ⟨c', rfl, R3, B3⟩; have K3 := (Below.refl w2.heap.size w2).drew.trans (B3.mono (Nat.le_refl _)); have K4 := K3.alloc K3.size (.cells c' 44); have HR3 := Lib.hid R3; have HL3 := Lib.hid (show c'.toList.length = 1 * 57 by rw [Array.length_toList, R3.size]); have OWN := Lib.hid ((own_below H.out.2.2.1.row K3).alloc (.cells c' 44)); have hs3 := K3.size; clear R3)
          | (with_reducible refine step_append_lies _ rfl _ _ 59 rfl B 44 i0 _ 57 632 Try.underlying59 hinf hz0 hz1 hz2 rfl (by decide) (.slice A L.length cap) L.length (prow cs) rfl OWN.out ⟨w3.heap.size, 0, none⟩ 1 1 c'.toList rfl HL3.out (World.news_of_block (heap_alloc_new _ _)) HR3.out.one (by decide) (by unfold maxLen; omega) (by omega) (by have := HN.out.1.hB; simp at *; omega) _ rfl ?_; intro g' cap' w4 o1 o2 o3 o4; have K9 := HC.out.1 w4 ((o2.block _ (Nat.lt_of_lt_of_le hlw K4.size) (fun e => by have := (HN.out.2.2.2.2.2.1.vb _ e.symm).2; omega)).trans (K4.block _ hlw)) ((o2.block _ (Nat.lt_of_lt_of_le hlg K4.size) (fun e => FARF.out e.symm)).trans (K4.block _ hlg)); have f1 : w4.frozen? ⟨g, 1, none⟩ = false := frozen_of_row w4 g 1 _ _ (((o2.block _ (Nat.lt_of_lt_of_le hlg K4.size) (fun e => FARF.out e.symm)).trans (K4.block _ hlg)).trans H.out.2.2.1.blk))))
      refine hK.out _ _ ?_ (fun hHeldN => ?_)
      · ((try dsimp only) <;> (first | exact HC.out.2 _ (Below.refl _ _).drew | exact HC.out.2 _ (by assumption) | exact HC.out.2 _ (below_drewN (Below.refl _ _) _) | assumption))
      clear hHeld
      have hHeld := hHeldN
      clear hHeldN
      clear hK K
      try simp only [Act.put, List.setIfInBounds_toArray, List.set_cons_zero, List.set_cons_succ]
      refine Go.Proofs.Phase.wpPh_before (i := 9) (by kernel_rfl) (by simp only [List.getElem?_toArray, List.getElem?_cons_succ, List.getElem?_cons_zero]; rfl) (fun K hK => ?_)
      go_simp
      refine hK.out _ _ ?_ (fun hHeldN => ?_)
      · ((try dsimp only) <;> (first | exact HC.out.2 _ (Below.refl _ _).drew | exact HC.out.2 _ (by assumption) | exact HC.out.2 _ (below_drewN (Below.refl _ _) _) | assumption))
      clear hHeld
      have hHeld := hHeldN
      clear hHeldN
      clear hK K
      try simp only [Act.put, List.setIfInBounds_toArray, List.set_cons_zero, List.set_cons_succ]
      refine Go.Proofs.Phase.wpPh_take' (i := 10) (by simp only [List.getElem?_toArray, List.getElem?_cons_succ, List.getElem?_cons_zero]; rfl) ?_
      refine ⟨?_, ⟨by kernel_rfl, by kernel_rfl, by kernel_rfl, by kernel_rfl⟩, fun _ _ _ h => h, Or.inl ⟨by rfl, ?_⟩, by assumption, ?_⟩
      rotate_left
      · (intro w hSw; (try dsimp only at hSw); go_simp; with_reducible rfl)
      try simp only [Act.put, List.setIfInBounds_toArray, List.set_cons_zero, List.set_cons_succ]
      refine Go.Proofs.Phase.wpPh_behind (i := 11) (by kernel_rfl) (by simp only [List.getElem?_toArray, List.getElem?_cons_succ, List.getElem?_cons_zero]; rfl) (by kernel_rfl) (fun K hK => ?_)
      go_simp
      refine hK.out _ _ ?_
      clear hK K
      try simp only [Act.put, List.setIfInBounds_toArray, List.set_cons_zero, List.set_cons_succ]
      refine Go.Proofs.Phase.wpPh_done (by kernel_rfl) ?_ _
      have hBw := HN.out.2.2.2.2.2.1.hB
      have F := NetI.sent (w := w) HN.out.2.2.2.2.2.1 H.out.2.1 H.out.2.2.1 K3 HR3.out o1 o2 o3 (H.out.2.1.mono hBw)
      have HF := Lib.hid F
      clear F o1 o2 o3 o4 K9 f1 K3 K4
      go_wp2_with fail
      go_ret
      exact ⟨.inr (.inr ⟨H.out.1, by omega, rfl, _, _, HF.out.1, HF.out.2.1, HF.out.2.2⟩)⟩
end Go.Proofs.Ythahadhdhpcndaa
