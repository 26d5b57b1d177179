/- What Make answers. -/
import Derived.Test.YtenaljhkdnhgpaaGreatDoorTApp
namespace Go.Proofs.YtenaljhkdnhgpaaGreatDoor.T
open Go.RowKit Go.Proofs.Phase
set_option linter.unusedVariables false
set_option linter.unusedSimpArgs false

def Tm.wf (t : Tm) : Prop := (Lit.int .u8 t.k).wf = true ∧ (Lit.int .i64 t.n).wf = true ∧ (Lit.int .i64 t.a).wf = true ∧ (Lit.int .i64 t.b).wf = true
def mk (L : List Tm) (t : Tm) : Int × Int × List Tm :=
  if mayB L.length t = false then (0, 1, L) else match num L t with
    | some x => (x, 0, L)
    | none => if 1048576 ≤ L.length then (0, 3, L) else ((L.length : Int) + 1, 0, L ++ [t])
/-- What is neither the store's block, nor its map, nor its list, stays. -/
def Kp (w w' : World) (g m : Nat) (v : Value) : Prop := ∀ k, k < w.heap.size → k ≠ g → k ≠ m → some k ≠ v.ownBlock → w'.heap[k]? = w.heap[k]?
theorem Kp.of_below {w w' : World} (g m : Nat) (v : Value) (h : Below w.heap.size w w') : Kp w w' g m v := fun k hk _ _ _ => h.block k hk
theorem Kp.grown {w w1 w2 : World} {g m : Nat} {v : Value} {row : Option Nat} (h : Kp w w1 g m v) (hs : w.heap.size ≤ w1.heap.size) (hg : w1.grownBy w2 row) (hr : ∀ k, k ≠ g → k ≠ m → some k ≠ v.ownBlock → some k ≠ row) : Kp w w2 g m v :=
  fun k hk h1 h2 h3 => (hg.block k (by omega) (hr k h1 h2 h3)).trans (h k hk h1 h2 h3)
theorem Kp.setCell {w w1 : World} {g m : Nat} {v : Value} (h : Kp w w1 g m v) (i : Nat) (u : Value) : Kp w (w1.setCell ⟨g, i, none⟩ u) g m v :=
  fun k hk h1 h2 h3 => (Below.heap_setCell _ _ _ _ h1).trans (h k hk h1 h2 h3)
/-- The list's block behind is the one that was, or a new one. -/
def NB (w : World) (v v' : Value) : Prop := ∀ k, k < w.heap.size → some k ≠ v.ownBlock → some k ≠ v'.ownBlock
theorem NB.refl (w : World) (v : Value) : NB w v v := fun _ _ h => h
def Fs (w w' : World) (g m : Nat) (v v' : Value) : Prop := Kp w w' g m v ∧ NB w v v'
theorem Fs.refl (w : World) (g m : Nat) (v : Value) : Fs w w g m v v := ⟨fun _ _ _ _ _ => rfl, NB.refl w v⟩
theorem Fs.trans {a b c : World} {g m : Nat} {v v1 v2 : Value} (h1 : Fs a b g m v v1) (h2 : Fs b c g m v1 v2) (hs : a.heap.size ≤ b.heap.size) : Fs a c g m v v2 :=
  ⟨fun k hk k1 k2 k3 => (h2.1 k (by omega) k1 k2 (h1.2 k hk k3)).trans (h1.1 k hk k1 k2 k3), fun k hk k3 => h2.2 k (by omega) (h1.2 k hk k3)⟩
theorem Fs.of_below {w w' : World} (g m : Nat) (v : Value) (h : Below w.heap.size w w') : Fs w w' g m v v := ⟨Kp.of_below g m v h, NB.refl w v⟩
set_option maxHeartbeats 1000000 in
set_option maxRecDepth 100000 in
theorem make (B g m : Nat) (L : List Tm) (v : Value) (k n a b : Int) (hwf : Tm.wf ⟨k, n, a, b⟩) (hlen : L.length ≤ 1048576) (w : World) (h : St w B g m L v) :
    Calls Tryz.prog 28 #[.pointer (some ⟨g, 0, none⟩), .agg #[.int .u8 k, .int .i64 n, .int .i64 a, .int .i64 b]] w fun e w' =>
      ∃ v', e = .returned (.tuple #[.int .i64 (mk L ⟨k, n, a, b⟩).1, .int .i64 (mk L ⟨k, n, a, b⟩).2.1]) ∧ St w' B g m (mk L ⟨k, n, a, b⟩).2.2 v' ∧ Below B w w' ∧ Fs w w' g m v v' := by
  obtain ⟨i30, hinf, hz0, hz1, hz2⟩ := info_parts info30
  obtain ⟨A, c, rfl⟩ := h.slice
  have hkey : ∃ kl, keyOf Tryz.prog 69 (Tm.v ⟨k, n, a, b⟩) = some kl := key_of ⟨k, n, a, b⟩ hwf.1 hwf.2.1 hwf.2.2.1 hwf.2.2.2
  have hbb : Below w.heap.size w (w.alloc (.cells #[.int .u8 k, .int .i64 n, .int .i64 a, .int .i64 b] 69)) := (Below.refl _ _).alloc (Nat.le_refl _) _
  have hS1 := h.below hbb
  have hbox : (w.alloc (.cells #[.int .u8 k, .int .i64 n, .int .i64 a, .int .i64 b] 69)).heap[w.heap.size]? = some (.cells #[.int .u8 k, .int .i64 n, .int .i64 a, .int .i64 b] 69 (0, 0)) := heap_alloc_new w _
  have hM := made_yes g m _ hS1.c1
  have hY := may g L.length c A k n a b _ hS1.c0
  have HH := Lib.hid h
  have HS1 := Lib.hid hS1
  have HB := Lib.hid hbb
  have HX := Lib.hid hbox
  have HK := Lib.hid hkey
  have HW := Lib.hid hwf
  obtain ⟨R, hR⟩ : ∃ R, R = mk L ⟨k, n, a, b⟩ := ⟨_, rfl⟩
  rw [← hR]
  have HR := Lib.hid hR
  clear h hkey hbb hS1 hbox hwf hR
  obtain ⟨y, hy⟩ : ∃ y, y = mayB L.length ⟨k, n, a, b⟩ := ⟨_, rfl⟩
  rw [← hy] at hY
  have HY := Lib.hid hy
  clear hy
  cases y with
  | false =>
    go_enter Tryz.func28, Tryz.ntmps28
    go_wp2_with (first | (go_at_call 30; with_reducible refine hM.mono ?_; rintro e w' ⟨rfl, rfl⟩) | (go_at_call 147; with_reducible refine hY.mono ?_; rintro e w2 ⟨rfl, hb2⟩))
    go_ret2
    have hB := HH.out.hB
    have e : R = (0, 1, L) := by rw [HR.out]; unfold mk; rw [if_pos HY.out.symm]
    rw [e]
    exact ⟨_, rfl, HS1.out.below hb2, (HB.out.mono hB).trans (hb2.mono (Nat.le_trans hB HB.out.size)), Fs.of_below _ _ _ (HB.out.trans (hb2.mono HB.out.size))⟩
  | true =>
    go_enter Tryz.func28, Tryz.ntmps28
    go_wp2_with (first | (go_at_call 30; with_reducible refine hM.mono ?_; rintro e w' ⟨rfl, rfl⟩) | (go_at_call 147; with_reducible refine hY.mono ?_; rintro e w2 ⟨rfl, hb2⟩))
    have hB := HH.out.hB
    have S2 := HS1.out.below hb2
    have bel2 : Below B w w2 := (HB.out.mono hB).trans (hb2.mono (Nat.le_trans hB HB.out.size))
    have box2 : w2.heap[w.heap.size]? = some (.cells #[.int .u8 k, .int .i64 n, .int .i64 a, .int .i64 b] 69 (0, 0)) := (hb2.block _ (lt_of_some HX.out)).trans HX.out
    have c0 := S2.c0
    have c1 := S2.c1
    have x0 : w2.cell? ⟨w.heap.size, 0, none⟩ = some (.int .u8 k) := by rw [cell_of_row w2 _ 0 _ _ _ box2]; rfl
    have x1 : w2.cell? ⟨w.heap.size, 1, none⟩ = some (.int .i64 n) := by rw [cell_of_row w2 _ 1 _ _ _ box2]; rfl
    have x2 : w2.cell? ⟨w.heap.size, 2, none⟩ = some (.int .i64 a) := by rw [cell_of_row w2 _ 2 _ _ _ box2]; rfl
    have x3 : w2.cell? ⟨w.heap.size, 3, none⟩ = some (.int .i64 b) := by rw [cell_of_row w2 _ 3 _ _ _ box2]; rfl
    obtain ⟨z, hz⟩ : ∃ z, z = num L ⟨k, n, a, b⟩ := ⟨_, rfl⟩
    have hL : ∀ j, (Instr.lookup 88 (.map (some m)) (.agg #[.int .u8 k, .int .i64 n, .int .i64 a, .int .i64 b]) true).run Tryz.prog (w2.drewN j) = .ok (.tuple #[.int .i64 (z.getD 0), .bool z.isSome]) (w2.drewN j) := fun j => by
      rw [hz]
      exact ((S2.drewN j).map.look ⟨k, n, a, b⟩ HK.out)
    have HZ := Lib.hid hz
    have HS2 := Lib.hid S2
    have HBX := Lib.hid box2
    have HB2 := Lib.hid bel2
    have HN2 := Lib.hid (HB.out.trans (hb2.mono HB.out.size))
    have hlt : w.heap.size < w2.heap.size := lt_of_some box2
    clear hz S2 box2 bel2 hb2 hY hM
    cases z with
    | some z =>
      simp only [Option.getD_some, Option.isSome_some] at hL
      go_wp2_with fail
      go_quiet (fail)
      go_wp2_with fail
      go_ret2
      have e : R = (z, 0, L) := by rw [HR.out]; unfold mk; rw [if_neg (by rw [← HY.out]; decide), ← HZ.out]
      rw [e]
      exact ⟨_, rfl, HS2.out.drewN _, below_drewN HB2.out _, Fs.of_below _ _ _ (below_drewN HN2.out _)⟩
    | none =>
      simp only [Option.getD_none, Option.isSome_none] at hL
      by_cases hbig : 1048576 ≤ L.length
      · have q1 : decide ((1048576 : Int) ≤ (L.length : Int)) = true := decide_eq_true (by omega)
        have q2 : decide (1048576 ≤ L.length) = true := decide_eq_true hbig
        have HBIG := Lib.hid hbig
        clear hbig hlen
        go_wp2_with fail
        go_quiet (fail)
        go_wp2_with fail
        go_ret2
        have e : R = (0, 3, L) := by rw [HR.out]; unfold mk; rw [if_neg (by rw [← HY.out]; decide), ← HZ.out]; simp only [if_pos HBIG.out]
        rw [e]
        exact ⟨_, rfl, HS2.out.drewN _, below_drewN HB2.out _, Fs.of_below _ _ _ (below_drewN HN2.out _)⟩
      · have q1 : decide ((1048576 : Int) ≤ (L.length : Int)) = false := decide_eq_false (by omega)
        have q2 : decide (1048576 ≤ L.length) = false := decide_eq_false hbig
        have hsm : L.length < 1048576 := by omega
        have HSM := Lib.hid hsm
        have HBIG := Lib.hid hbig
        clear hbig hlen hsm
        go_wp2_with fail
        go_quiet (fail)
        go_wp2_with fail
        have S3 := HS2.out.drewN nq
        have B3 := below_drewN HB2.out nq
        have N3 := below_drewN HN2.out nq
        have X3 : (w2.drewN nq).heap[w.heap.size]? = some (.cells #[.int .u8 k, .int .i64 n, .int .i64 a, .int .i64 b] 69 (0, 0)) := HBX.out
        have c0 : (w2.drewN nq).cell? ⟨g, 0, none⟩ = some (.slice A L.length c) := c0
        have c1 : (w2.drewN nq).cell? ⟨g, 1, none⟩ = some (.map (some m)) := c1
        have x0 : (w2.drewN nq).cell? ⟨w.heap.size, 0, none⟩ = some (.int .u8 k) := x0
        have x1 : (w2.drewN nq).cell? ⟨w.heap.size, 1, none⟩ = some (.int .i64 n) := x1
        have x2 : (w2.drewN nq).cell? ⟨w.heap.size, 2, none⟩ = some (.int .i64 a) := x2
        have x3 : (w2.drewN nq).cell? ⟨w.heap.size, 3, none⟩ = some (.int .i64 b) := x3
        clear hL HS2 HB2 HBX HN2
        generalize w2.drewN nq = w3 at *
        have lg : g < w3.heap.size := lt_of_some S3.blk
        have lx : w.heap.size < w3.heap.size := lt_of_some X3
        have far : some g ≠ (Value.slice A L.length c).ownBlock := S3.far
        have xfar : some w.heap.size ≠ (Value.slice A L.length c).ownBlock := fun e => by
          have := (HH.out.row.lt _ e.symm).2
          omega
        have HS3 := Lib.hid S3
        have HX3 := Lib.hid X3
        have HB3 := Lib.hid B3
        have HN3 := Lib.hid N3
        have LG := Lib.hid lg
        have LX := Lib.hid lx
        have FAR := Lib.hid far
        have XFAR := Lib.hid xfar
        clear S3 X3 B3 N3 far xfar
        refine Go.Proofs.Phase.wp_region_ph (S := (fun w' => w'.cell? ⟨g, 0, none⟩ = some (.slice A L.length c) ∧ w'.cell? ⟨w.heap.size, 0, none⟩ = some (.int .u8 k) ∧ w'.cell? ⟨w.heap.size, 1, none⟩ = some (.int .i64 n) ∧ w'.cell? ⟨w.heap.size, 2, none⟩ = some (.int .i64 a) ∧ w'.cell? ⟨w.heap.size, 3, none⟩ = some (.int .i64 b))) 10 (by kernel_rfl) ?_ (fun hHeld => ?_)
        · ((try dsimp only) <;> go_keep)
        refine Go.Proofs.Phase.wpPh_take' (i := 0) (by simp only [List.getElem?_toArray, List.getElem?_cons_succ, List.getElem?_cons_zero]; rfl) ?_
        refine ⟨?_, ⟨by kernel_rfl, by kernel_rfl, by kernel_rfl, by kernel_rfl⟩, fun _ _ _ h => h, Or.inl ⟨by rfl, ?_⟩, by assumption, ?_⟩
        rotate_left
        · (intro w hSw; (try dsimp only at hSw); go_simp; with_reducible rfl)
        try simp only [Act.put, List.setIfInBounds_toArray, List.set_cons_zero, List.set_cons_succ]
        refine Go.Proofs.Phase.wpPh_take' (i := 1) (by simp only [List.getElem?_toArray, List.getElem?_cons_succ, List.getElem?_cons_zero]; rfl) ?_
        refine ⟨?_, ⟨by kernel_rfl, by kernel_rfl, by kernel_rfl, by kernel_rfl⟩, fun _ _ _ h => h, Or.inl ⟨by rfl, ?_⟩, by assumption, ?_⟩
        rotate_left
        · (intro w hSw; (try dsimp only at hSw); go_simp; with_reducible rfl)
        try simp only [Act.put, List.setIfInBounds_toArray, List.set_cons_zero, List.set_cons_succ]
        refine Go.Proofs.Phase.wpPh_take' (i := 2) (by simp only [List.getElem?_toArray, List.getElem?_cons_succ, List.getElem?_cons_zero]; rfl) ?_
        refine ⟨?_, ⟨by kernel_rfl, by kernel_rfl, by kernel_rfl, by kernel_rfl⟩, fun _ _ _ h => h, Or.inl ⟨by rfl, ?_⟩, by assumption, ?_⟩
        rotate_left
        · (intro w hSw; (try dsimp only at hSw); go_simp; with_reducible rfl)
        try simp only [Act.put, List.setIfInBounds_toArray, List.set_cons_zero, List.set_cons_succ]
        refine Go.Proofs.Phase.wpPh_take' (i := 3) (by simp only [List.getElem?_toArray, List.getElem?_cons_succ, List.getElem?_cons_zero]; rfl) ?_
        refine ⟨?_, ⟨by kernel_rfl, by kernel_rfl, by kernel_rfl, by kernel_rfl⟩, fun _ _ _ h => h, Or.inl ⟨by rfl, ?_⟩, by assumption, ?_⟩
        rotate_left
        · (intro w hSw; (try dsimp only at hSw); go_simp; with_reducible rfl)
        try simp only [Act.put, List.setIfInBounds_toArray, List.set_cons_zero, List.set_cons_succ]
        refine Go.Proofs.Phase.wpPh_take' (i := 4) (by simp only [List.getElem?_toArray, List.getElem?_cons_succ, List.getElem?_cons_zero]; rfl) ?_
        refine ⟨?_, ⟨by kernel_rfl, by kernel_rfl, by kernel_rfl, by kernel_rfl⟩, fun _ _ _ h => h, Or.inl ⟨by rfl, ?_⟩, by assumption, ?_⟩
        rotate_left
        · (intro w hSw; (try dsimp only at hSw); go_simp; with_reducible rfl)
        try simp only [Act.put, List.setIfInBounds_toArray, List.set_cons_zero, List.set_cons_succ]
        refine Go.Proofs.Phase.wpPh_take' (i := 5) (by simp only [List.getElem?_toArray, List.getElem?_cons_succ, List.getElem?_cons_zero]; rfl) ?_
        refine ⟨?_, ⟨by kernel_rfl, by kernel_rfl, by kernel_rfl, by kernel_rfl⟩, fun _ _ _ h => h, Or.inl ⟨by rfl, ?_⟩, by assumption, ?_⟩
        rotate_left
        · (intro w hSw; (try dsimp only at hSw); go_simp; with_reducible rfl)
        try simp only [Act.put, List.setIfInBounds_toArray, List.set_cons_zero, List.set_cons_succ]
        refine Go.Proofs.Phase.wpPh_before (i := 6) (by kernel_rfl) (by simp only [List.getElem?_toArray, List.getElem?_cons_succ, List.getElem?_cons_zero]; rfl) (fun K hK => ?_)
        go_simp
        refine hK.out _ _ ?_ (fun hHeldN => ?_)
        · ((try dsimp only) <;> go_keep)
        clear hHeld
        have hHeld := hHeldN
        clear hHeldN
        clear hK K
        try simp only [Act.put, List.setIfInBounds_toArray, List.set_cons_zero, List.set_cons_succ]
        refine Go.Proofs.Phase.wpPh_before (i := 7) (by kernel_rfl) (by simp only [List.getElem?_toArray, List.getElem?_cons_succ, List.getElem?_cons_zero]; rfl) (fun K hK => ?_)
        ((
           refine step_append_lies _ rfl _ _ 22 rfl B 69 i30 _ 4 32 Tryz.underlying22 hinf hz0 hz1 hz2 rfl (by decide) _ L.length (rowOf L) rfl (HS3.out.row.drew.alloc _) ⟨w3.heap.size, 0, none⟩ 1 1 [.int .u8 k, .int .i64 n, .int .i64 a, .int .i64 b] rfl rfl (World.news_of_block (heap_alloc_new _ _)) (by simp [Value.oneCell']) (by decide) (by have := HSM.out; unfold maxLen; omega) (by have := HSM.out; omega) (by have := HS3.out.hB; simp; omega) _ rfl ?_
           intro g' cap w4 o1 o2 o3 o4
           have k0 : w4.cell? ⟨g, 0, none⟩ = some (.slice A L.length c) := (o2.cell_far ⟨g, 0, none⟩ (by simp; have := LG.out; omega) FAR.out).trans ((World.cell?_alloc_lt w3 _ _ LG.out).trans c0)
           have y0 : w4.cell? ⟨w.heap.size, 0, none⟩ = some (.int .u8 k) := (o2.cell_far ⟨w.heap.size, 0, none⟩ (by simp; have := LX.out; omega) XFAR.out).trans ((World.cell?_alloc_lt w3 _ _ LX.out).trans x0)
           have y1 : w4.cell? ⟨w.heap.size, 1, none⟩ = some (.int .i64 n) := (o2.cell_far ⟨w.heap.size, 1, none⟩ (by simp; have := LX.out; omega) XFAR.out).trans ((World.cell?_alloc_lt w3 _ _ LX.out).trans x1)
           have y2 : w4.cell? ⟨w.heap.size, 2, none⟩ = some (.int .i64 a) := (o2.cell_far ⟨w.heap.size, 2, none⟩ (by simp; have := LX.out; omega) XFAR.out).trans ((World.cell?_alloc_lt w3 _ _ LX.out).trans x2)
           have y3 : w4.cell? ⟨w.heap.size, 3, none⟩ = some (.int .i64 b) := (o2.cell_far ⟨w.heap.size, 3, none⟩ (by simp; have := LX.out; omega) XFAR.out).trans ((World.cell?_alloc_lt w3 _ _ LX.out).trans x3)
           have kf : w4.frozen? ⟨g, 0, none⟩ = false := (o2.frozen_far ⟨g, 0, none⟩ (by simp; have := LG.out; omega) FAR.out).trans (frozen_of_row _ g 0 _ _ ((HS3.out.below ((Below.refl _ w3).alloc (Nat.le_refl _) _)).blk))))
        refine hK.out _ _ ?_ (fun hHeldN => ?_)
        · ((try dsimp only) <;> go_keep)
        clear hHeld
        have hHeld := hHeldN
        clear hHeldN
        clear hK K
        try simp only [Act.put, List.setIfInBounds_toArray, List.set_cons_zero, List.set_cons_succ]
        refine Go.Proofs.Phase.wpPh_before (i := 8) (by kernel_rfl) (by simp only [List.getElem?_toArray, List.getElem?_cons_succ, List.getElem?_cons_zero]; rfl) (fun K hK => ?_)
        go_simp
        refine hK.out _ _ ?_ (fun hHeldN => ?_)
        · ((try dsimp only) <;> go_keep)
        clear hHeld
        have hHeld := hHeldN
        clear hHeldN
        clear hK K
        try simp only [Act.put, List.setIfInBounds_toArray, List.set_cons_zero, List.set_cons_succ]
        refine Go.Proofs.Phase.wpPh_take' (i := 9) (by simp only [List.getElem?_toArray, List.getElem?_cons_succ, List.getElem?_cons_zero]; rfl) ?_
        refine ⟨?_, ⟨by kernel_rfl, by kernel_rfl, by kernel_rfl, by kernel_rfl⟩, fun _ _ _ h => h, Or.inl ⟨by rfl, ?_⟩, by assumption, ?_⟩
        rotate_left
        · (intro w hSw; (try dsimp only at hSw); go_simp; with_reducible rfl)
        try simp only [Act.put, List.setIfInBounds_toArray, List.set_cons_zero, List.set_cons_succ]
        refine Go.Proofs.Phase.wpPh_behind (i := 10) (by kernel_rfl) (by simp only [List.getElem?_toArray, List.getElem?_cons_succ, List.getElem?_cons_zero]; rfl) (by kernel_rfl) (fun K hK => ?_)
        go_simp
        refine hK.out _ _ ?_
        clear hK K
        try simp only [Act.put, List.setIfInBounds_toArray, List.set_cons_zero, List.set_cons_succ]
        refine Go.Proofs.Phase.wpPh_done (by kernel_rfl) ?_ _
        have S5 := HS3.out.appended (t := ⟨k, n, a, b⟩) o1 o2 o3
        have b5 : Below B w (w4.setCell ⟨g, 0, none⟩ (.slice (some ⟨g', 0, none⟩) (L.length + 1) cap)) :=
          (((HB3.out.alloc HS3.out.hB _).drew).grown o2 (by have := HS3.out.hB; simp; omega) (fun k hk => (HS3.out.row.lt k hk).1)).setCell HS3.out.lo _
        have n5 : Kp w (w4.setCell ⟨g, 0, none⟩ (.slice (some ⟨g', 0, none⟩) (L.length + 1) cap)) g m (.slice A L.length c) :=
          ((Kp.of_below g m _ ((HN3.out.alloc HN3.out.size _).drew)).grown (by have := HN3.out.size; simp; omega) o2 (fun k _ _ h3 => h3)).setCell 0 _
        have nb : NB w (.slice A L.length c) (.slice (some ⟨g', 0, none⟩) (L.length + 1) cap) := fun k hk hne e => by
          have e : k = g' := by simpa [Value.ownBlock] using e
          subst e
          rcases o3 with o3 | o3
          · exact hne o3.symm
          · have := HN3.out.size; simp at o3; omega
        have NBH := Lib.hid nb
        clear nb
        have s5 : w.heap.size ≤ w4.heap.size := by have := HN3.out.size; have := o2.size; simp at this; omega
        have z0 : (w4.setCell ⟨g, 0, none⟩ (.slice (some ⟨g', 0, none⟩) (L.length + 1) cap)).cell? ⟨w.heap.size, 0, none⟩ = some (.int .u8 k) := (World.cell?_setCell_far _ _ _ _ (by have := lt_of_some HH.out.blk; simp; omega)).trans y0
        have z1 : (w4.setCell ⟨g, 0, none⟩ (.slice (some ⟨g', 0, none⟩) (L.length + 1) cap)).cell? ⟨w.heap.size, 1, none⟩ = some (.int .i64 n) := (World.cell?_setCell_far _ _ _ _ (by have := lt_of_some HH.out.blk; simp; omega)).trans y1
        have z2 : (w4.setCell ⟨g, 0, none⟩ (.slice (some ⟨g', 0, none⟩) (L.length + 1) cap)).cell? ⟨w.heap.size, 2, none⟩ = some (.int .i64 a) := (World.cell?_setCell_far _ _ _ _ (by have := lt_of_some HH.out.blk; simp; omega)).trans y2
        have z3 : (w4.setCell ⟨g, 0, none⟩ (.slice (some ⟨g', 0, none⟩) (L.length + 1) cap)).cell? ⟨w.heap.size, 3, none⟩ = some (.int .i64 b) := (World.cell?_setCell_far _ _ _ _ (by have := lt_of_some HH.out.blk; simp; omega)).trans y3
        clear o1 o2 o3 o4 k0 y0 y1 y2 y3 kf c0 c1 x0 x1 x2 x3
        have s5' : w.heap.size ≤ (w4.setCell ⟨g, 0, none⟩ (.slice (some ⟨g', 0, none⟩) (L.length + 1) cap)).heap.size := by simp; exact s5
        generalize w4.setCell ⟨g, 0, none⟩ (.slice (some ⟨g', 0, none⟩) (L.length + 1) cap) = w5 at *
        have c0 : w5.cell? ⟨g, 0, none⟩ = some (.slice (some ⟨g', 0, none⟩) (L.length + 1) cap) := by rw [cell_of_row w5 g 0 _ _ _ S5.blk]; rfl
        have c1 : w5.cell? ⟨g, 1, none⟩ = some (.map (some m)) := by rw [cell_of_row w5 g 1 _ _ _ S5.blk]; rfl
        have S5' : Sh w5.drew B g m L (L ++ [⟨k, n, a, b⟩]) (.slice (some ⟨g', 0, none⟩) (L.length + 1) cap) := ⟨S5.lo, S5.lm, S5.hB, S5.blk, S5.row, S5.map⟩
        obtain ⟨w6, r1, r2, S6⟩ := S5'.put HK.out HZ.out.symm HSM.out
        have r1 : (Instr.mapUpdate 88 (.map (some m)) (.agg #[.int .u8 k, .int .i64 n, .int .i64 a, .int .i64 b]) (.int .i64 ((L.length : Int) + 1))).run Tryz.prog w5.drew = .ok () w6 := r1
        have c6 := S6.c0
        have b6 : Below B w w6 := (b5.drew).grown r2 S5.hB (fun k hk => by injection hk with hk; have := S5.lm; omega)
        have n6 : Kp w w6 g m (.slice A L.length c) := Kp.grown (w1 := w5.drew) n5 s5' r2 (fun k _ h2 _ e => h2 (by injection e))
        have HN6 := Lib.hid n6
        have H6 := Lib.hid S6
        have HB6 := Lib.hid b6
        clear S5 S5' S6 b5 b6 r2 n5 n6 s5 s5'
        go_wp2_with fail
        refine Go.Proofs.Phase.wp_region_ph (S := (fun w' => w'.cell? ⟨g, 0, none⟩ = some (.slice (some ⟨g', 0, none⟩) (L.length + 1) cap) ∧ w'.cell? ⟨g, 1, none⟩ = some (.map (some m)) ∧ w'.cell? ⟨w.heap.size, 0, none⟩ = some (.int .u8 k) ∧ w'.cell? ⟨w.heap.size, 1, none⟩ = some (.int .i64 n) ∧ w'.cell? ⟨w.heap.size, 2, none⟩ = some (.int .i64 a) ∧ w'.cell? ⟨w.heap.size, 3, none⟩ = some (.int .i64 b))) 10 (by kernel_rfl) ?_ (fun hHeld => ?_)
        · ((try dsimp only) <;> go_keep)
        refine Go.Proofs.Phase.wpPh_take' (i := 0) (by simp only [List.getElem?_toArray, List.getElem?_cons_succ, List.getElem?_cons_zero]; rfl) ?_
        refine ⟨?_, ⟨by kernel_rfl, by kernel_rfl, by kernel_rfl, by kernel_rfl⟩, fun _ _ _ h => h, Or.inl ⟨by rfl, ?_⟩, by assumption, ?_⟩
        rotate_left
        · (intro w hSw; (try dsimp only at hSw); go_simp; with_reducible rfl)
        try simp only [Act.put, List.setIfInBounds_toArray, List.set_cons_zero, List.set_cons_succ]
        refine Go.Proofs.Phase.wpPh_take' (i := 1) (by simp only [List.getElem?_toArray, List.getElem?_cons_succ, List.getElem?_cons_zero]; rfl) ?_
        refine ⟨?_, ⟨by kernel_rfl, by kernel_rfl, by kernel_rfl, by kernel_rfl⟩, fun _ _ _ h => h, Or.inl ⟨by rfl, ?_⟩, by assumption, ?_⟩
        rotate_left
        · (intro w hSw; (try dsimp only at hSw); go_simp; with_reducible rfl)
        try simp only [Act.put, List.setIfInBounds_toArray, List.set_cons_zero, List.set_cons_succ]
        refine Go.Proofs.Phase.wpPh_take' (i := 2) (by simp only [List.getElem?_toArray, List.getElem?_cons_succ, List.getElem?_cons_zero]; rfl) ?_
        refine ⟨?_, ⟨by kernel_rfl, by kernel_rfl, by kernel_rfl, by kernel_rfl⟩, fun _ _ _ h => h, Or.inl ⟨by rfl, ?_⟩, by assumption, ?_⟩
        rotate_left
        · (intro w hSw; (try dsimp only at hSw); go_simp; with_reducible rfl)
        try simp only [Act.put, List.setIfInBounds_toArray, List.set_cons_zero, List.set_cons_succ]
        refine Go.Proofs.Phase.wpPh_take' (i := 3) (by simp only [List.getElem?_toArray, List.getElem?_cons_succ, List.getElem?_cons_zero]; rfl) ?_
        refine ⟨?_, ⟨by kernel_rfl, by kernel_rfl, by kernel_rfl, by kernel_rfl⟩, fun _ _ _ h => h, Or.inl ⟨by rfl, ?_⟩, by assumption, ?_⟩
        rotate_left
        · (intro w hSw; (try dsimp only at hSw); go_simp; with_reducible rfl)
        try simp only [Act.put, List.setIfInBounds_toArray, List.set_cons_zero, List.set_cons_succ]
        refine Go.Proofs.Phase.wpPh_take' (i := 4) (by simp only [List.getElem?_toArray, List.getElem?_cons_succ, List.getElem?_cons_zero]; rfl) ?_
        refine ⟨?_, ⟨by kernel_rfl, by kernel_rfl, by kernel_rfl, by kernel_rfl⟩, fun _ _ _ h => h, Or.inl ⟨by rfl, ?_⟩, by assumption, ?_⟩
        rotate_left
        · (intro w hSw; (try dsimp only at hSw); go_simp; with_reducible rfl)
        try simp only [Act.put, List.setIfInBounds_toArray, List.set_cons_zero, List.set_cons_succ]
        refine Go.Proofs.Phase.wpPh_take' (i := 5) (by simp only [List.getElem?_toArray, List.getElem?_cons_succ, List.getElem?_cons_zero]; rfl) ?_
        refine ⟨?_, ⟨by kernel_rfl, by kernel_rfl, by kernel_rfl, by kernel_rfl⟩, fun _ _ _ h => h, Or.inl ⟨by rfl, ?_⟩, by assumption, ?_⟩
        rotate_left
        · (intro w hSw; (try dsimp only at hSw); go_simp; with_reducible rfl)
        try simp only [Act.put, List.setIfInBounds_toArray, List.set_cons_zero, List.set_cons_succ]
        refine Go.Proofs.Phase.wpPh_take' (i := 6) (by simp only [List.getElem?_toArray, List.getElem?_cons_succ, List.getElem?_cons_zero]; rfl) ?_
        refine ⟨?_, ⟨by kernel_rfl, by kernel_rfl, by kernel_rfl, by kernel_rfl⟩, fun _ _ _ h => h, Or.inl ⟨by rfl, ?_⟩, by assumption, ?_⟩
        rotate_left
        · (intro w hSw; (try dsimp only at hSw); go_simp; with_reducible rfl)
        try simp only [Act.put, List.setIfInBounds_toArray, List.set_cons_zero, List.set_cons_succ]
        refine Go.Proofs.Phase.wpPh_take' (i := 7) (by simp only [List.getElem?_toArray, List.getElem?_cons_succ, List.getElem?_cons_zero]; rfl) ?_
        refine ⟨?_, ⟨by kernel_rfl, by kernel_rfl, by kernel_rfl, by kernel_rfl⟩, fun _ _ _ h => h, Or.inl ⟨by rfl, ?_⟩, by assumption, ?_⟩
        rotate_left
        · (intro w hSw; (try dsimp only at hSw); go_simp; with_reducible rfl)
        try simp only [Act.put, List.setIfInBounds_toArray, List.set_cons_zero, List.set_cons_succ]
        refine Go.Proofs.Phase.wpPh_take' (i := 8) (by simp only [List.getElem?_toArray, List.getElem?_cons_succ, List.getElem?_cons_zero]; rfl) ?_
        refine ⟨?_, ⟨by kernel_rfl, by kernel_rfl, by kernel_rfl, by kernel_rfl⟩, fun _ _ _ h => h, Or.inl ⟨by rfl, ?_⟩, by assumption, ?_⟩
        rotate_left
        · (intro w hSw; (try dsimp only at hSw); go_simp; with_reducible rfl)
        try simp only [Act.put, List.setIfInBounds_toArray, List.set_cons_zero, List.set_cons_succ]
        refine Go.Proofs.Phase.wpPh_take' (i := 9) (by simp only [List.getElem?_toArray, List.getElem?_cons_succ, List.getElem?_cons_zero]; rfl) ?_
        refine ⟨?_, ⟨by kernel_rfl, by kernel_rfl, by kernel_rfl, by kernel_rfl⟩, fun _ _ _ h => h, Or.inl ⟨by rfl, ?_⟩, by assumption, ?_⟩
        rotate_left
        · (intro w hSw; (try dsimp only at hSw); go_simp; with_reducible rfl)
        try simp only [Act.put, List.setIfInBounds_toArray, List.set_cons_zero, List.set_cons_succ]
        refine Go.Proofs.Phase.wpPh_behind (i := 10) (by kernel_rfl) (by simp only [List.getElem?_toArray, List.getElem?_cons_succ, List.getElem?_cons_zero]; rfl) (by kernel_rfl) (fun K hK => ?_)
        go_simp
        refine hK.out _ _ ?_
        clear hK K
        try simp only [Act.put, List.setIfInBounds_toArray, List.set_cons_zero, List.set_cons_succ]
        refine Go.Proofs.Phase.wpPh_done (by kernel_rfl) ?_ _
        go_wp2_with fail
        go_ret2
        have e : R = ((L.length : Int) + 1, 0, L ++ [⟨k, n, a, b⟩]) := by rw [HR.out]; unfold mk; rw [if_neg (by rw [← HY.out]; decide), ← HZ.out]; simp only [if_neg HBIG.out]
        rw [e]
        exact ⟨_, rfl, H6.out, HB6.out, HN6.out, NBH.out⟩
end Go.Proofs.YtenaljhkdnhgpaaGreatDoor.T
