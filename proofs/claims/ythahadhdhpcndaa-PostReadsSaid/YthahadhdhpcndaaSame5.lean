/- Same lists of packets, of mails. -/
import Derived.Test.YthahadhdhpcndaaEachP
import Derived.Test.YthahadhdhpcndaaPhaseAll
namespace Go.Proofs.Ythahadhdhpcndaa
open Go Go.RowKit
set_option linter.unusedVariables false
set_option linter.unusedSimpArgs false

set_option maxHeartbeats 2000000 in
set_option maxRecDepth 100000 in
theorem same22 {ok ok' : Nat → Prop} (v v' : Value) (L : List PackD) (w : World) (h : elemP.RdL ok w v L) (h' : elemP.RdL ok' w v' L) (hl : L.length ≤ 1000000) (hx : ∀ d ∈ L, NumF d.d) (hs : ∀ d ∈ L, SzF d.d) :
    Calls Try.prog 22 #[v, v'] w fun e w' => e = .returned (.bool true) ∧ Below w.heap.size w w' := by
  obtain ⟨A, n, c, rfl, h1, h2, h3⟩ := h
  obtain ⟨A', n', c', rfl, g1, g2, g3⟩ := h'
  obtain rfl : n = n' := by omega
  have HH := Lib.hid (And.intro h1 (And.intro h3 (And.intro g3 (And.intro hx hs))))
  have t0 : ((n : Int) != (n : Int)) = false := by simp
  have b1 : n ≤ 1000000 := by rw [h1]; exact hl
  clear h1 h2 h3 g1 g2 g3 hx hs hl
  go_enter Try.func22, Try.ntmps22
  go_wp2_with fail
  go_loopw [13] (fun v13 wr => ∃ k : Nat, k ≤ n ∧ v13 = .int .i64 k ∧ Below w.heap.size w wr) (fun v13 _ => n - (intOf v13).toNat)
  case atStart => exact ⟨0, by omega, rfl, Below.refl _ _⟩
  case round =>
    obtain ⟨k, hk, rfl, hB⟩ := hrel
    by_cases hlt : k < n
    · obtain ⟨d, hd⟩ : ∃ d, L[k]? = some d := ⟨L[k]'(by have := HH.out.1; omega), List.getElem?_eq_getElem _⟩
      obtain ⟨b, o, cur, tt, fr, rfl, p1, p2, p3⟩ := HH.out.2.1 (by omega)
      obtain ⟨b', o', cur', tt', fr', rfl, q1, q2, q3⟩ := HH.out.2.2.1 (by omega)
      obtain ⟨p4, p5⟩ := p3 k d hd
      obtain ⟨q4, q5⟩ := q3 k d hd
      change o + k * 57 + 57 ≤ cur.size at p4
      change RdP ok w (cur.extract (o + k * 57) (o + k * 57 + 57)) d at p5
      change o' + k * 57 + 57 ≤ cur'.size at q4
      change RdP ok' w (cur'.extract (o' + k * 57) (o' + k * 57 + 57)) d at q5
      have hm := List.mem_of_getElem? hd
      have hld : ∀ w', Below wr.heap.size wr w' → (loadVar 44 ⟨b, o + k * 57, none⟩).run Try.prog w' = .ok (.agg (cur.extract (o + k * 57) (o + k * 57 + 57))) w' ∧ (loadVar 44 ⟨b', o' + k * 57, none⟩).run Try.prog w' = .ok (.agg (cur'.extract (o' + k * 57) (o' + k * 57 + 57))) w' ∧ Below wr.heap.size wr w' := fun w' hw => by
        have hb := hB.trans (hw.mono hB.size)
        exact ⟨run_loadVar_part w' b _ 57 tt 44 cur fr _ ((hb.block b (lt_of_some p2)).trans p2) Try.underlying44 rfl cells44 p4, run_loadVar_part w' b' _ 57 tt' 44 cur' fr' _ ((hb.block b' (lt_of_some q2)).trans q2) Try.underlying44 rfl cells44 q4, hw⟩
      generalize cur.extract (o + k * 57) (o + k * 57 + 57) = x1 at hld p5
      generalize cur'.extract (o' + k * 57) (o' + k * 57 + 57) = x2 at hld q5
      obtain ⟨l1, l2, _⟩ := hld _ (Below.refl _ _)
      have HC := Lib.hid hld
      have HK := Lib.hid (And.intro (RdP.keep p5 (Kn.of_below hB)) (And.intro (RdP.keep q5 (Kn.of_below hB)) (And.intro (HH.out.2.2.2.1 d hm) (And.intro (HH.out.2.2.2.2 d hm) hB))))
      have HL := Lib.hid hlt
      have i1 : (0 : Int) ≤ k := by omega
      have i2 : (k : Int) < n := by omega
      clear p3 q3 hd p1 q1 p2 q2 hld p4 p5 q4 q5 hm hB
      go_wp2_with fail
      refine Go.Proofs.Phase.wp_region_al (S := (fun w' => (loadVar 44 ⟨b, o + k * 57, none⟩).run Try.prog w' = .ok (.agg x1) w' ∧ (loadVar 44 ⟨b', o' + k * 57, none⟩).run Try.prog w' = .ok (.agg x2) w' ∧ Below wr.heap.size wr w')) (by kernel_rfl) ?_ (fun hHeld => ?_)
      · ((try dsimp only) <;> (first | exact HC.out _ (by assumption) | exact HC.out _ (below_drewN (Below.refl _ _) _) | exact HC.out _ (Below.refl _ _).drew))
      refine Go.Proofs.Phase.wpAl_take' (i := 0) (by simp only [List.getElem?_toArray, List.getElem?_cons_succ, List.getElem?_cons_zero]; rfl) ?_
      refine ⟨?_, ⟨by kernel_rfl, by kernel_rfl, by kernel_rfl⟩, fun _ _ _ h => h, Or.inl ⟨by rfl, ?_⟩, by assumption, ?_⟩
      rotate_left
      · (intro w hSw; (try dsimp only at hSw); go_simp; with_reducible rfl)
      try simp only [Act.put, List.setIfInBounds_toArray, List.set_cons_zero, List.set_cons_succ]
      refine Go.Proofs.Phase.wpAl_take' (i := 1) (by simp only [List.getElem?_toArray, List.getElem?_cons_succ, List.getElem?_cons_zero]; rfl) ?_
      refine ⟨?_, ⟨by kernel_rfl, by kernel_rfl, by kernel_rfl⟩, fun _ _ _ h => h, Or.inl ⟨by rfl, ?_⟩, by assumption, ?_⟩
      rotate_left
      · (intro w hSw; (try dsimp only at hSw); go_simp; with_reducible rfl)
      try simp only [Act.put, List.setIfInBounds_toArray, List.set_cons_zero, List.set_cons_succ]
      refine Go.Proofs.Phase.wpAl_take' (i := 2) (by simp only [List.getElem?_toArray, List.getElem?_cons_succ, List.getElem?_cons_zero]; rfl) ?_
      refine ⟨?_, ⟨by kernel_rfl, by kernel_rfl, by kernel_rfl⟩, fun _ _ _ h => h, Or.inl ⟨by rfl, ?_⟩, by assumption, ?_⟩
      rotate_left
      · (intro w hSw; (try dsimp only at hSw); go_simp; with_reducible rfl)
      try simp only [Act.put, List.setIfInBounds_toArray, List.set_cons_zero, List.set_cons_succ]
      refine Go.Proofs.Phase.wpAl_take' (i := 3) (by simp only [List.getElem?_toArray, List.getElem?_cons_succ, List.getElem?_cons_zero]; rfl) ?_
      refine ⟨?_, ⟨by kernel_rfl, by kernel_rfl, by kernel_rfl⟩, fun _ _ _ h => h, Or.inl ⟨by rfl, ?_⟩, by assumption, ?_⟩
      rotate_left
      · (intro w hSw; (try dsimp only at hSw); first | (refine (Go.Proofs.Phase.exec_load _ _ rfl _ rfl _ hSw.1).trans ?_; with_reducible rfl) | (refine (Go.Proofs.Phase.exec_load _ _ rfl _ rfl _ hSw.2.1).trans ?_; with_reducible rfl) | (refine (Go.Proofs.Phase.exec_load _ _ rfl _ rfl _ hSw.2.2.1).trans ?_; with_reducible rfl))
      try simp only [Act.put, List.setIfInBounds_toArray, List.set_cons_zero, List.set_cons_succ]
      refine Go.Proofs.Phase.wpAl_take' (i := 4) (by simp only [List.getElem?_toArray, List.getElem?_cons_succ, List.getElem?_cons_zero]; rfl) ?_
      refine ⟨?_, ⟨by kernel_rfl, by kernel_rfl, by kernel_rfl⟩, fun _ _ _ h => h, Or.inl ⟨by rfl, ?_⟩, by assumption, ?_⟩
      rotate_left
      · (intro w hSw; (try dsimp only at hSw); go_simp; with_reducible rfl)
      try simp only [Act.put, List.setIfInBounds_toArray, List.set_cons_zero, List.set_cons_succ]
      refine Go.Proofs.Phase.wpAl_take' (i := 5) (by simp only [List.getElem?_toArray, List.getElem?_cons_succ, List.getElem?_cons_zero]; rfl) ?_
      refine ⟨?_, ⟨by kernel_rfl, by kernel_rfl, by kernel_rfl⟩, fun _ _ _ h => h, Or.inl ⟨by rfl, ?_⟩, by assumption, ?_⟩
      rotate_left
      · (intro w hSw; (try dsimp only at hSw); go_simp; with_reducible rfl)
      try simp only [Act.put, List.setIfInBounds_toArray, List.set_cons_zero, List.set_cons_succ]
      refine Go.Proofs.Phase.wpAl_take' (i := 6) (by simp only [List.getElem?_toArray, List.getElem?_cons_succ, List.getElem?_cons_zero]; rfl) ?_
      refine ⟨?_, ⟨by kernel_rfl, by kernel_rfl, by kernel_rfl⟩, fun _ _ _ h => h, Or.inl ⟨by rfl, ?_⟩, by assumption, ?_⟩
      rotate_left
      · (intro w hSw; (try dsimp only at hSw); go_simp; with_reducible rfl)
      try simp only [Act.put, List.setIfInBounds_toArray, List.set_cons_zero, List.set_cons_succ]
      refine Go.Proofs.Phase.wpAl_take' (i := 7) (by simp only [List.getElem?_toArray, List.getElem?_cons_succ, List.getElem?_cons_zero]; rfl) ?_
      refine ⟨?_, ⟨by kernel_rfl, by kernel_rfl, by kernel_rfl⟩, fun _ _ _ h => h, Or.inl ⟨by rfl, ?_⟩, by assumption, ?_⟩
      rotate_left
      · (intro w hSw; (try dsimp only at hSw); first | (refine (Go.Proofs.Phase.exec_load _ _ rfl _ rfl _ hSw.1).trans ?_; with_reducible rfl) | (refine (Go.Proofs.Phase.exec_load _ _ rfl _ rfl _ hSw.2.1).trans ?_; with_reducible rfl) | (refine (Go.Proofs.Phase.exec_load _ _ rfl _ rfl _ hSw.2.2.1).trans ?_; with_reducible rfl))
      try simp only [Act.put, List.setIfInBounds_toArray, List.set_cons_zero, List.set_cons_succ]
      refine Go.Proofs.Phase.wpAl_before (i := 8) (by kernel_rfl) (by simp only [List.getElem?_toArray, List.getElem?_cons_succ, List.getElem?_cons_zero]; rfl) (fun K hK => ?_)
      go_simp
      ((obtain ⟨_, _, s2⟩ := (show _ ∧ _ ∧ Below wr.heap.size wr _ by assumption); with_reducible refine (same18 x1 x2 d _ (HK.out.1.keep (Kn.of_below s2)) (HK.out.2.1.keep (Kn.of_below s2)) HK.out.2.2.1 HK.out.2.2.2.1).mono ?_; rintro e w4 ⟨rfl, B2⟩; have K2 := s2.trans (B2.mono s2.size); clear s2 B2))
      go_wp2_with fail
      refine hK.out _ _ ?_ (fun hHeldN => ?_)
      · ((try dsimp only) <;> (first | exact HC.out _ (by assumption) | exact HC.out _ (below_drewN (Below.refl _ _) _) | exact HC.out _ (Below.refl _ _).drew))
      clear hHeld
      have hHeld := hHeldN
      clear hHeldN
      clear hK K
      try simp only [Act.put, List.setIfInBounds_toArray, List.set_cons_zero, List.set_cons_succ]
      refine Go.Proofs.Phase.wpAl_take' (i := 9) (by simp only [List.getElem?_toArray, List.getElem?_cons_succ, List.getElem?_cons_zero]; rfl) ?_
      refine ⟨?_, ⟨by kernel_rfl, by kernel_rfl, by kernel_rfl⟩, fun _ _ _ h => h, Or.inl ⟨by rfl, ?_⟩, by assumption, ?_⟩
      rotate_left
      · (intro w hSw; (try dsimp only at hSw); go_simp; with_reducible rfl)
      try simp only [Act.put, List.setIfInBounds_toArray, List.set_cons_zero, List.set_cons_succ]
      refine Go.Proofs.Phase.wpAl_done (by kernel_rfl) ?_ _
      have HK2 := Lib.hid (HK.out.2.2.2.2.trans (K2.mono HK.out.2.2.2.2.size))
      clear K2
      go_wp2_with fail
      go_roundw
      case rel => exact ⟨k + 1, by have := HL.out; omega, by simp, HK2.out⟩
      case measure =>
        have := HL.out
        simp [intOf]; omega
    · obtain rfl : k = n := by omega
      go_wp2
      go_ret
      exact ⟨rfl, hB⟩
set_option maxHeartbeats 2000000 in
set_option maxRecDepth 100000 in
theorem same35 {ok ok' : Nat → Prop} (v v' : Value) (L : List MailD) (w : World) (h : elemM.RdL ok w v L) (h' : elemM.RdL ok' w v' L) (hl : L.length ≤ 1000000) (hx : ∀ d ∈ L, NumM d) (hs : ∀ d ∈ L, SzM d) :
    Calls Try.prog 35 #[v, v'] w fun e w' => e = .returned (.bool true) ∧ Below w.heap.size w w' := by
  obtain ⟨A, n, c, rfl, h1, h2, h3⟩ := h
  obtain ⟨A', n', c', rfl, g1, g2, g3⟩ := h'
  obtain rfl : n = n' := by omega
  have HH := Lib.hid (And.intro h1 (And.intro h3 (And.intro g3 (And.intro hx hs))))
  have t0 : ((n : Int) != (n : Int)) = false := by simp
  have b1 : n ≤ 1000000 := by rw [h1]; exact hl
  clear h1 h2 h3 g1 g2 g3 hx hs hl
  go_enter Try.func35, Try.ntmps35
  go_wp2_with fail
  go_loopw [13] (fun v13 wr => ∃ k : Nat, k ≤ n ∧ v13 = .int .i64 k ∧ Below w.heap.size w wr) (fun v13 _ => n - (intOf v13).toNat)
  case atStart => exact ⟨0, by omega, rfl, Below.refl _ _⟩
  case round =>
    obtain ⟨k, hk, rfl, hB⟩ := hrel
    by_cases hlt : k < n
    · obtain ⟨d, hd⟩ : ∃ d, L[k]? = some d := ⟨L[k]'(by have := HH.out.1; omega), List.getElem?_eq_getElem _⟩
      obtain ⟨b, o, cur, tt, fr, rfl, p1, p2, p3⟩ := HH.out.2.1 (by omega)
      obtain ⟨b', o', cur', tt', fr', rfl, q1, q2, q3⟩ := HH.out.2.2.1 (by omega)
      obtain ⟨p4, p5⟩ := p3 k d hd
      obtain ⟨q4, q5⟩ := q3 k d hd
      change o + k * 30 + 30 ≤ cur.size at p4
      change RdM ok w (cur.extract (o + k * 30) (o + k * 30 + 30)) d at p5
      change o' + k * 30 + 30 ≤ cur'.size at q4
      change RdM ok' w (cur'.extract (o' + k * 30) (o' + k * 30 + 30)) d at q5
      have hm := List.mem_of_getElem? hd
      have hld : ∀ w', Below wr.heap.size wr w' → (loadVar 40 ⟨b, o + k * 30, none⟩).run Try.prog w' = .ok (.agg (cur.extract (o + k * 30) (o + k * 30 + 30))) w' ∧ (loadVar 40 ⟨b', o' + k * 30, none⟩).run Try.prog w' = .ok (.agg (cur'.extract (o' + k * 30) (o' + k * 30 + 30))) w' ∧ Below wr.heap.size wr w' := fun w' hw => by
        have hb := hB.trans (hw.mono hB.size)
        exact ⟨run_loadVar_part w' b _ 30 tt 40 cur fr _ ((hb.block b (lt_of_some p2)).trans p2) Try.underlying40 rfl cells40 p4, run_loadVar_part w' b' _ 30 tt' 40 cur' fr' _ ((hb.block b' (lt_of_some q2)).trans q2) Try.underlying40 rfl cells40 q4, hw⟩
      generalize cur.extract (o + k * 30) (o + k * 30 + 30) = x1 at hld p5
      generalize cur'.extract (o' + k * 30) (o' + k * 30 + 30) = x2 at hld q5
      obtain ⟨l1, l2, _⟩ := hld _ (Below.refl _ _)
      have HC := Lib.hid hld
      have HK := Lib.hid (And.intro (RdM.keep p5 (Kn.of_below hB)) (And.intro (RdM.keep q5 (Kn.of_below hB)) (And.intro (HH.out.2.2.2.1 d hm) (And.intro (HH.out.2.2.2.2 d hm) hB))))
      have HL := Lib.hid hlt
      have i1 : (0 : Int) ≤ k := by omega
      have i2 : (k : Int) < n := by omega
      clear p3 q3 hd p1 q1 p2 q2 hld p4 p5 q4 q5 hm hB
      go_wp2_with fail
      refine Go.Proofs.Phase.wp_region_al (S := (fun w' => (loadVar 40 ⟨b, o + k * 30, none⟩).run Try.prog w' = .ok (.agg x1) w' ∧ (loadVar 40 ⟨b', o' + k * 30, none⟩).run Try.prog w' = .ok (.agg x2) w' ∧ Below wr.heap.size wr w')) (by kernel_rfl) ?_ (fun hHeld => ?_)
      · ((try dsimp only) <;> (first | exact HC.out _ (by assumption) | exact HC.out _ (below_drewN (Below.refl _ _) _) | exact HC.out _ (Below.refl _ _).drew))
      refine Go.Proofs.Phase.wpAl_take' (i := 0) (by simp only [List.getElem?_toArray, List.getElem?_cons_succ, List.getElem?_cons_zero]; rfl) ?_
      refine ⟨?_, ⟨by kernel_rfl, by kernel_rfl, by kernel_rfl⟩, fun _ _ _ h => h, Or.inl ⟨by rfl, ?_⟩, by assumption, ?_⟩
      rotate_left
      · (intro w hSw; (try dsimp only at hSw); go_simp; with_reducible rfl)
      try simp only [Act.put, List.setIfInBounds_toArray, List.set_cons_zero, List.set_cons_succ]
      refine Go.Proofs.Phase.wpAl_take' (i := 1) (by simp only [List.getElem?_toArray, List.getElem?_cons_succ, List.getElem?_cons_zero]; rfl) ?_
      refine ⟨?_, ⟨by kernel_rfl, by kernel_rfl, by kernel_rfl⟩, fun _ _ _ h => h, Or.inl ⟨by rfl, ?_⟩, by assumption, ?_⟩
      rotate_left
      · (intro w hSw; (try dsimp only at hSw); go_simp; with_reducible rfl)
      try simp only [Act.put, List.setIfInBounds_toArray, List.set_cons_zero, List.set_cons_succ]
      refine Go.Proofs.Phase.wpAl_take' (i := 2) (by simp only [List.getElem?_toArray, List.getElem?_cons_succ, List.getElem?_cons_zero]; rfl) ?_
      refine ⟨?_, ⟨by kernel_rfl, by kernel_rfl, by kernel_rfl⟩, fun _ _ _ h => h, Or.inl ⟨by rfl, ?_⟩, by assumption, ?_⟩
      rotate_left
      · (intro w hSw; (try dsimp only at hSw); go_simp; with_reducible rfl)
      try simp only [Act.put, List.setIfInBounds_toArray, List.set_cons_zero, List.set_cons_succ]
      refine Go.Proofs.Phase.wpAl_take' (i := 3) (by simp only [List.getElem?_toArray, List.getElem?_cons_succ, List.getElem?_cons_zero]; rfl) ?_
      refine ⟨?_, ⟨by kernel_rfl, by kernel_rfl, by kernel_rfl⟩, fun _ _ _ h => h, Or.inl ⟨by rfl, ?_⟩, by assumption, ?_⟩
      rotate_left
      · (intro w hSw; (try dsimp only at hSw); first | (refine (Go.Proofs.Phase.exec_load _ _ rfl _ rfl _ hSw.1).trans ?_; with_reducible rfl) | (refine (Go.Proofs.Phase.exec_load _ _ rfl _ rfl _ hSw.2.1).trans ?_; with_reducible rfl) | (refine (Go.Proofs.Phase.exec_load _ _ rfl _ rfl _ hSw.2.2.1).trans ?_; with_reducible rfl))
      try simp only [Act.put, List.setIfInBounds_toArray, List.set_cons_zero, List.set_cons_succ]
      refine Go.Proofs.Phase.wpAl_take' (i := 4) (by simp only [List.getElem?_toArray, List.getElem?_cons_succ, List.getElem?_cons_zero]; rfl) ?_
      refine ⟨?_, ⟨by kernel_rfl, by kernel_rfl, by kernel_rfl⟩, fun _ _ _ h => h, Or.inl ⟨by rfl, ?_⟩, by assumption, ?_⟩
      rotate_left
      · (intro w hSw; (try dsimp only at hSw); go_simp; with_reducible rfl)
      try simp only [Act.put, List.setIfInBounds_toArray, List.set_cons_zero, List.set_cons_succ]
      refine Go.Proofs.Phase.wpAl_take' (i := 5) (by simp only [List.getElem?_toArray, List.getElem?_cons_succ, List.getElem?_cons_zero]; rfl) ?_
      refine ⟨?_, ⟨by kernel_rfl, by kernel_rfl, by kernel_rfl⟩, fun _ _ _ h => h, Or.inl ⟨by rfl, ?_⟩, by assumption, ?_⟩
      rotate_left
      · (intro w hSw; (try dsimp only at hSw); go_simp; with_reducible rfl)
      try simp only [Act.put, List.setIfInBounds_toArray, List.set_cons_zero, List.set_cons_succ]
      refine Go.Proofs.Phase.wpAl_take' (i := 6) (by simp only [List.getElem?_toArray, List.getElem?_cons_succ, List.getElem?_cons_zero]; rfl) ?_
      refine ⟨?_, ⟨by kernel_rfl, by kernel_rfl, by kernel_rfl⟩, fun _ _ _ h => h, Or.inl ⟨by rfl, ?_⟩, by assumption, ?_⟩
      rotate_left
      · (intro w hSw; (try dsimp only at hSw); go_simp; with_reducible rfl)
      try simp only [Act.put, List.setIfInBounds_toArray, List.set_cons_zero, List.set_cons_succ]
      refine Go.Proofs.Phase.wpAl_take' (i := 7) (by simp only [List.getElem?_toArray, List.getElem?_cons_succ, List.getElem?_cons_zero]; rfl) ?_
      refine ⟨?_, ⟨by kernel_rfl, by kernel_rfl, by kernel_rfl⟩, fun _ _ _ h => h, Or.inl ⟨by rfl, ?_⟩, by assumption, ?_⟩
      rotate_left
      · (intro w hSw; (try dsimp only at hSw); first | (refine (Go.Proofs.Phase.exec_load _ _ rfl _ rfl _ hSw.1).trans ?_; with_reducible rfl) | (refine (Go.Proofs.Phase.exec_load _ _ rfl _ rfl _ hSw.2.1).trans ?_; with_reducible rfl) | (refine (Go.Proofs.Phase.exec_load _ _ rfl _ rfl _ hSw.2.2.1).trans ?_; with_reducible rfl))
      try simp only [Act.put, List.setIfInBounds_toArray, List.set_cons_zero, List.set_cons_succ]
      refine Go.Proofs.Phase.wpAl_before (i := 8) (by kernel_rfl) (by simp only [List.getElem?_toArray, List.getElem?_cons_succ, List.getElem?_cons_zero]; rfl) (fun K hK => ?_)
      go_simp
      ((obtain ⟨_, _, s2⟩ := (show _ ∧ _ ∧ Below wr.heap.size wr _ by assumption); with_reducible refine (same57 x1 x2 d _ (HK.out.1.keep (Kn.of_below s2)) (HK.out.2.1.keep (Kn.of_below s2)) HK.out.2.2.1 HK.out.2.2.2.1).mono ?_; rintro e w4 ⟨rfl, B2⟩; have K2 := s2.trans (B2.mono s2.size); clear s2 B2))
      go_wp2_with fail
      refine hK.out _ _ ?_ (fun hHeldN => ?_)
      · ((try dsimp only) <;> (first | exact HC.out _ (by assumption) | exact HC.out _ (below_drewN (Below.refl _ _) _) | exact HC.out _ (Below.refl _ _).drew))
      clear hHeld
      have hHeld := hHeldN
      clear hHeldN
      clear hK K
      try simp only [Act.put, List.setIfInBounds_toArray, List.set_cons_zero, List.set_cons_succ]
      refine Go.Proofs.Phase.wpAl_take' (i := 9) (by simp only [List.getElem?_toArray, List.getElem?_cons_succ, List.getElem?_cons_zero]; rfl) ?_
      refine ⟨?_, ⟨by kernel_rfl, by kernel_rfl, by kernel_rfl⟩, fun _ _ _ h => h, Or.inl ⟨by rfl, ?_⟩, by assumption, ?_⟩
      rotate_left
      · (intro w hSw; (try dsimp only at hSw); go_simp; with_reducible rfl)
      try simp only [Act.put, List.setIfInBounds_toArray, List.set_cons_zero, List.set_cons_succ]
      refine Go.Proofs.Phase.wpAl_done (by kernel_rfl) ?_ _
      have HK2 := Lib.hid (HK.out.2.2.2.2.trans (K2.mono HK.out.2.2.2.2.size))
      clear K2
      go_wp2_with fail
      go_roundw
      case rel => exact ⟨k + 1, by have := HL.out; omega, by simp, HK2.out⟩
      case measure =>
        have := HL.out
        simp [intOf]; omega
    · obtain rfl : k = n := by omega
      go_wp2
      go_ret
      exact ⟨rfl, hB⟩
end Go.Proofs.Ythahadhdhpcndaa
