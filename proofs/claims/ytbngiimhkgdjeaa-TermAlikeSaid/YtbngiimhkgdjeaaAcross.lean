/- Across: the numbers of a store's terms in another one. -/
import Derived.Test.YtbngiimhkgdjeaaTwo
import Derived.Test.YtbngiimhkgdjeaaPhase
namespace Go.Proofs.Ytbngiimhkgdjeaa
open Go.RowKit Go.Proofs.Phase

def tr (ms : List Int) (t : Tm) : Tm := ⟨t.k, t.n, ms.getD t.a.toNat 0, ms.getD t.b.toNat 0⟩
def acrN (L L2 : List Tm) : Nat → List Int × List Tm
  | 0 => ([0], L2)
  | i + 1 => match L[i]? with
    | none => acrN L L2 i
    | some t => ((acrN L L2 i).1 ++ [(mk (acrN L L2 i).2 (tr (acrN L L2 i).1 t)).1], (mk (acrN L L2 i).2 (tr (acrN L L2 i).1 t)).2.2)
theorem acrN_len (L L2 : List Tm) (i : Nat) (h : i ≤ L.length) : (acrN L L2 i).1.length = i + 1 := by
  induction i with
  | zero => rfl
  | succ i ih =>
    unfold acrN
    rw [List.getElem?_eq_getElem (by omega)]
    dsimp only
    rw [List.length_append, ih (by omega)]
    rfl
theorem acrN_succ (L L2 : List Tm) (i : Nat) (t : Tm) (h : L[i]? = some t) : acrN L L2 (i + 1) = ((acrN L L2 i).1 ++ [(mk (acrN L L2 i).2 (tr (acrN L L2 i).1 t)).1], (mk (acrN L L2 i).2 (tr (acrN L L2 i).1 t)).2.2) := by
  conv => lhs; unfold acrN
  rw [h]
/-- All goes well: each term can be made there. -/
def AcrOk (L L2 : List Tm) : Prop := ∀ i t, L[i]? = some t → (mk (acrN L L2 i).2 (tr (acrN L L2 i).1 t)).2.1 = 0 ∧ (acrN L L2 i).2.length ≤ 1048576 ∧ Tm.wf (tr (acrN L L2 i).1 t)
structure Ax (w : World) (B Bm g m gr gm : Nat) (L : List Tm) (v : Value) (L' : List Tm) (vr vm : Value) (ms : List Int) : Prop where
  two : Two w B g m gr L v L' vr
  lom : B ≤ gm
  mblk : w.heap[gm]? = some (.cells #[vm] 63 (0, 0))
  mrow : OI w Bm vm ms
variable {w w' : World} {B Bm g m gr gm : Nat} {L L' L1 : List Tm} {v v1 vr vm : Value} {ms : List Int}
theorem Ax.below (h : Ax w B Bm g m gr gm L v L' vr vm ms) (hb : Below w.heap.size w w') : Ax w' B Bm g m gr gm L v L' vr vm ms :=
  ⟨h.two.below hb, h.lom, (hb.block _ (lt_of_some h.mblk)).trans h.mblk, row_below h.mrow hb⟩
theorem Ax.r_step (h : Ax w B Bm g m gr gm L v L' vr vm ms) (hs : RSt w' B gr L1 v1) (hf : Fr w w' gr vr v1) (hz : w.heap.size ≤ w'.heap.size) : Ax w' B Bm g m gr gm L v L1 v1 vm ms := by
  refine ⟨h.two.r_step hs hf hz, h.lom, (hf.1 gm (lt_of_some h.mblk) (ne_typed h.mblk h.two.rst.blk (by intro e; injection e with _ e; cases e)) fun e => ?_).trans h.mblk, row_same h.mrow fun k hk => ?_⟩
  · obtain ⟨cur, hc⟩ := row_typed h.two.rst.row gm e.symm
    exact ne_typed h.mblk hc (by intro e; injection e with _ e; cases e) rfl
  · obtain ⟨cur, hc⟩ := row_typed h.mrow k hk
    refine hf.1 k (lt_of_some hc) (ne_typed hc h.two.rst.blk (by intro e; injection e with _ e; cases e)) fun e => ?_
    obtain ⟨cur', hc'⟩ := row_typed h.two.rst.row k e.symm
    exact ne_typed hc hc' (by intro e; injection e with _ e; cases e) rfl
theorem grownBy_set (w : World) (b i : Nat) (u : Value) : w.grownBy (w.setCell ⟨b, i, none⟩ u) (some b) :=
  ⟨rfl, rfl, rfl, by simp, fun k _ hne => Below.heap_setCell _ _ _ _ (fun e => hne (by rw [e]))⟩
theorem Ax.grows {u : Int} {vm' : Value} {o : Obj} (h : Ax w B Bm g m gr gm L v L' vr vm ms) (ho : OI w' Bm vm' (ms ++ [u])) (hg : (w.alloc o).grownBy w' vm.ownBlock) : Ax (w'.setCell ⟨gm, 0, none⟩ vm') B Bm g m gr gm L v L' vr vm' (ms ++ [u]) := by
  have hb : Below w.heap.size w (w.alloc o) := (Below.refl _ _).alloc (Nat.le_refl _) _
  have h1 := h.below hb
  have hS := h.two.st.pushed h.mrow hg
  have hR := h.two.rst.pushed h.mrow hg
  have hM : w'.heap[gm]? = some (.cells #[vm] 63 (0, 0)) := block_row h1.mblk (fun _ e => by injection e with _ e; cases e) h1.mrow hg
  have hG := grownBy_set w' gm 0 vm'
  obtain ⟨D, ⟨es, clock, hm, hm2⟩, hm3⟩ := hS.map
  have hz := hG.size
  have far : ∀ (k : Nat) (ob : Obj), w'.heap[k]? = some ob → (∀ cs fr, ob ≠ .cells cs 63 fr) → (w'.setCell ⟨gm, 0, none⟩ vm').heap[k]? = some ob := fun k ob hk hne =>
    (Below.heap_setCell _ _ _ _ (ne_typed hk hM (hne _ _))).trans hk
  refine ⟨⟨⟨hS.lo, hS.lm, Nat.le_trans hS.hB hz, far g _ hS.blk (fun _ _ e => by injection e with _ e; cases e), row_other hS.row hM (fun _ e => by injection e with _ e; cases e) hG, ⟨D, ⟨es, clock, far m _ hm (fun _ _ e => by cases e), hm2⟩, hm3⟩⟩, ⟨hR.lo, Nat.le_trans hR.hB hz, far gr _ hR.blk (fun _ _ e => by injection e with _ e; cases e), row_other hR.row hM (fun _ e => by injection e with _ e; cases e) hG⟩, h.two.dj⟩, h.lom, ?_, row_other ho hM (fun _ e => by injection e with _ e; cases e) hG⟩
  rw [heap_setCell_same w' gm 0 _ _ _ hM]
  rfl
set_option maxHeartbeats 4000000 in
set_option maxRecDepth 100000 in
theorem across (L2 : List Tm) (hg : Good L) (hok : AcrOk L L2) (hl : L.length ≤ 20000) (w : World) (h : Two w B g m gr L v L2 vr) :
    Calls Try.prog 21 #[.pointer (some ⟨g, 0, none⟩), .pointer (some ⟨gr, 0, none⟩)] w fun e w' => ∃ gm vm vr', e = .returned (.tuple #[.pointer (some ⟨gm, 0, none⟩), .bool true]) ∧ Ax w' B w.heap.size g m gr gm L v (acrN L L2 L.length).2 vr' vm (acrN L L2 L.length).1 ∧ Below B w w' ∧ Fr w w' gr vr vr' ∧ w.heap.size ≤ gm := by
  have hB0 := h.st.hB
  have b1 : Below w.heap.size w (w.alloc (.cells #[.int .i64 0] 3)) := (Below.refl _ _).alloc (Nat.le_refl _) _
  have b2 : Below w.heap.size w ((w.alloc (.cells #[.int .i64 0] 3)).alloc (.cells #[.slice (some ⟨w.heap.size, 0, none⟩) 1 1] 63)) := b1.alloc (by simp) _
  have hA0 : Ax ((w.alloc (.cells #[.int .i64 0] 3)).alloc (.cells #[.slice (some ⟨w.heap.size, 0, none⟩) 1 1] 63)) B w.heap.size g m gr (w.heap.size + 1) L v L2 vr (.slice (some ⟨w.heap.size, 0, none⟩) 1 1) [0] := by
    refine ⟨h.below b2, by omega, ?_, ⟨rfl, .inr ⟨w.heap.size, 1, #[.int .i64 0], rfl, Nat.le_refl _, ?_, by simp, by unfold maxLen; simp, rfl, rfl⟩⟩⟩
    · have := heap_alloc_new (w.alloc (.cells #[.int .i64 0] 3)) (.cells #[.slice (some ⟨w.heap.size, 0, none⟩) 1 1] 63)
      simpa using this
    · exact (Below.heap_alloc _ _ _ (by simp)).trans (heap_alloc_new w _)
  have R0 : Hid (∃ vm vr', Ax ((w.alloc (.cells #[.int .i64 0] 3)).alloc (.cells #[.slice (some ⟨w.heap.size, 0, none⟩) 1 1] 63)) B w.heap.size g m gr (w.heap.size + 1) L v (acrN L L2 0).2 vr' vm (acrN L L2 0).1 ∧ (Below B w ((w.alloc (.cells #[.int .i64 0] 3)).alloc (.cells #[.slice (some ⟨w.heap.size, 0, none⟩) 1 1] 63)) ∧ Fr w ((w.alloc (.cells #[.int .i64 0] 3)).alloc (.cells #[.slice (some ⟨w.heap.size, 0, none⟩) 1 1] 63)) gr vr vr')) := Lib.hid ⟨_, _, hA0, b2.mono hB0, Fr.of_below _ _ b2⟩
  have M0 := len B g m L v _ hA0.two.st
  have HB0 := Lib.hid hB0
  have HG := Lib.hid hg
  have HOK := Lib.hid hok
  have HL := Lib.hid hl
  have q0 : decide ((L.length : Int) > 20000) = false := decide_eq_false (by omega)
  have q0' : decide (20000 < L.length) = false := decide_eq_false (by omega)
  clear b1 b2 hA0 hg hok h
  go_enter Try.func21, Try.ntmps21
  go_wp2_with (go_at_call 25; with_reducible refine M0.mono ?_; rintro e w' ⟨rfl, rfl⟩)
  clear M0 q0 q0'
  go_loopw [7] (fun v7 wr => ∃ i : Nat, i ≤ L.length ∧ v7 = .int .i64 ((i : Int) + 1) ∧ Hid (∃ vm vr', Ax wr B w.heap.size g m gr (w.heap.size + 1) L v (acrN L L2 i).2 vr' vm (acrN L L2 i).1 ∧ (Below B w wr ∧ Fr w wr gr vr vr'))) (fun v7 _ => L.length + 1 - (intOf v7).toNat)
  case atStart => exact ⟨0, by omega, rfl, R0⟩
  case round =>
    clear R0
    obtain ⟨i, hi, rfl, HI⟩ := hrel
    obtain ⟨vm, vr', hA, hb, hf⟩ := HI.out
    have HF := Lib.hid hf
    clear hf
    have M1 := len B g m L v wr hA.two.st
    by_cases hlt : i < L.length
    · obtain ⟨t, ht⟩ : ∃ t, L[i]? = some t := ⟨L[i], List.getElem?_eq_getElem hlt⟩
      have hp := HG.out.2.2 i t ht
      have hk := HOK.out i t ht
      have hsucc := acrN_succ L L2 i t ht
      have hlen := acrN_len L L2 i (by omega)
      have hL1 := HL.out
      have G := get_in B g m L v i t ht wr hA.two.st
      unfold Tm.v at G
      obtain ⟨tk, tn, ta, tb⟩ := t
      obtain ⟨na, rfl⟩ : ∃ na : Nat, ta = na := ⟨ta.toNat, by dsimp only at hp; omega⟩
      obtain ⟨nb, rfl⟩ : ∃ nb : Nat, tb = nb := ⟨tb.toNat, by dsimp only at hp; omega⟩
      dsimp only at G hp
      generalize acrN L L2 i = st at *
      obtain ⟨ms, L1⟩ := st
      dsimp only at hlen hsucc hk hA
      obtain ⟨ma, hma⟩ : ∃ x, ms[na]? = some x := ⟨ms[na]'(by omega), List.getElem?_eq_getElem _⟩
      obtain ⟨mb, hmb⟩ : ∃ x, ms[nb]? = some x := ⟨ms[nb]'(by omega), List.getElem?_eq_getElem _⟩
      have htr : tr ms ⟨tk, tn, na, nb⟩ = ⟨tk, tn, ma, mb⟩ := by
        unfold tr
        simp only [Int.toNat_natCast, List.getD_eq_getElem?_getD, hma, hmb, Option.getD_some]
      rw [htr] at hk hsucc
      obtain ⟨A, cm, rfl, hA'⟩ := hA.mrow.slice
      obtain ⟨bm, rfl⟩ := hA' (by omega)
      have p1 : (na : Int) ≤ i := hp.2.1
      have p2 : (nb : Int) ≤ i := hp.2.2.2
      have p0 : (0 : Int) ≤ na := by omega
      have p0' : (0 : Int) ≤ nb := by omega
      have r1 : decide ((na : Int) ≥ (i : Int) + 1) = false := decide_eq_false (by omega)
      have r2 : decide ((nb : Int) ≥ (i : Int) + 1) = false := decide_eq_false (by omega)
      have q1 : decide ((i : Int) + 1 ≤ (L.length : Int)) = true := decide_eq_true (by omega)
      have i3 : (i : Int) ≤ 20000 := by omega
      have HK := Lib.hid hk
      have HSUC := Lib.hid hsucc
      have HLEN := Lib.hid hlen
      have HMA := Lib.hid hma
      have HMB := Lib.hid hmb
      have HA := Lib.hid hA
      have HB := Lib.hid hb
      rw [hlen] at hA
      have hgm := hA.two.st.hB
      clear hk hsucc hma hmb htr hb HI ht hp hA'
      go_wp2_with (go_at_call 25; with_reducible refine M1.mono ?_; rintro e w' ⟨rfl, rfl⟩)
      refine G.mono ?_
      rintro e w2 ⟨rfl, B2⟩
      have b3 : Below w2.heap.size w2 (w2.alloc (.cells #[.int .u8 tk, .int .i64 tn, .int .i64 na, .int .i64 nb] 30)) := (Below.refl _ _).alloc (Nat.le_refl _) _
      have hbx : (w2.alloc (.cells #[.int .u8 tk, .int .i64 tn, .int .i64 na, .int .i64 nb] 30)).heap[w2.heap.size]? = some (.cells #[.int .u8 tk, .int .i64 tn, .int .i64 na, .int .i64 nb] 30 (0, 0)) := heap_alloc_new w2 _
      have HA2 := Lib.hid (HA.out.below B2)
      have FB2 := Lib.hid B2
      have HB2 := Lib.hid (HB.out.trans (B2.mono HA.out.two.st.hB))
      have A3 := (HA.out.below B2).below b3
      have HB3 := Lib.hid ((HB.out.trans (B2.mono HA.out.two.st.hB)).trans (b3.mono (Nat.le_trans HA.out.two.st.hB B2.size)))
      have lx : w2.heap.size < (w2.alloc (.cells #[.int .u8 tk, .int .i64 tn, .int .i64 na, .int .i64 nb] 30)).heap.size := lt_of_some hbx
      have hnb : ∀ k, k < w2.heap.size → k ≠ w2.heap.size := fun k hk => by omega
      have lgm : w.heap.size + 1 < w2.heap.size := Nat.lt_of_lt_of_le (lt_of_some HA.out.mblk) B2.size
      have lbm : bm < w2.heap.size := Nat.lt_of_lt_of_le (World.ownsRow.lt HA.out.mrow bm rfl).2 B2.size
      have W2 := Lib.hid (show Below w2.heap.size w2 _ from b3)
      clear G M1 B2 b3 hA
      go_wp2_with fail
      generalize hwb : w2.alloc (.cells #[.int .u8 tk, .int .i64 tn, .int .i64 na, .int .i64 nb] 30) = wb at *
      have HWB := Lib.hid hwb
      clear hwb
      have z2 : wb.cell? ⟨w2.heap.size, 2, none⟩ = some (.int .i64 na) := by rw [cell_of_row wb _ 2 _ _ _ hbx]; rfl
      have z3 : wb.cell? ⟨w2.heap.size, 3, none⟩ = some (.int .i64 nb) := by rw [cell_of_row wb _ 3 _ _ _ hbx]; rfl
      have f2 : wb.frozen? ⟨w2.heap.size, 2, none⟩ = false := frozen_of_row wb _ 2 _ _ hbx
      have f3 : wb.frozen? ⟨w2.heap.size, 3, none⟩ = false := frozen_of_row wb _ 3 _ _ hbx
      have m0 : wb.cell? ⟨w.heap.size + 1, 0, none⟩ = some (.slice (some ⟨bm, 0, none⟩) (i + 1) cm) := by rw [cell_of_row wb _ 0 _ _ _ A3.mblk]; rw [HLEN.out]; rfl
      have ca : wb.cell? ⟨bm, na, none⟩ = some (.int .i64 ma) := A3.mrow.il.cell rfl na ma HMA.out
      have cb : wb.cell? ⟨bm, nb, none⟩ = some (.int .i64 mb) := A3.mrow.il.cell rfl nb mb HMB.out
      have HX := Lib.hid hbx
      have HA3 := Lib.hid A3
      clear hbx A3 hnb
      have bc : Hid (Below w2.heap.size w2 ((wb.setCell ⟨w2.heap.size, 2, none⟩ (.int .i64 ma)).drew)) := Lib.hid ((W2.out.setCell (Nat.le_refl _) _).drew)
      have bxc : Hid (((wb.setCell ⟨w2.heap.size, 2, none⟩ (.int .i64 ma)).drew).heap[w2.heap.size]? = some (.cells #[.int .u8 tk, .int .i64 tn, .int .i64 ma, .int .i64 nb] 30 (0, 0))) := Lib.hid (heap_setCell_same wb w2.heap.size 2 _ _ (.int .i64 ma) HX.out)
      refine Go.Proofs.Phase.wp_region_ph (S := (fun w' => w'.cell? ⟨w.heap.size + 1, 0, none⟩ = some (.slice (some ⟨bm, 0, none⟩) (i + 1) cm) ∧ w'.cell? ⟨bm, na, none⟩ = some (.int .i64 ma) ∧ w'.cell? ⟨w2.heap.size, 2, none⟩ = some (.int .i64 na))) 9 (by kernel_rfl) ?_ (fun hHeld => ?_)
      · ((try dsimp only) <;> (exact ⟨m0, ca, z2⟩))
      refine Go.Proofs.Phase.wpPh_take' (i := 0) (by simp only [List.getElem?_toArray, List.getElem?_cons_succ, List.getElem?_cons_zero]; rfl) ?_
      refine ⟨?_, ⟨by kernel_rfl, by kernel_rfl, by kernel_rfl, by kernel_rfl⟩, fun _ _ _ h => h, Or.inl ⟨by rfl, ?_⟩, by assumption, ?_⟩
      rotate_left
      · (intro w hSw; (try dsimp only at hSw); go_simp; with_reducible rfl)
      try simp only [Act.put, List.setIfInBounds_toArray, List.set_cons_zero, List.set_cons_succ]
      refine Go.Proofs.Phase.wpPh_take' (i := 1) (by simp only [List.getElem?_toArray, List.getElem?_cons_succ, List.getElem?_cons_zero]; rfl) ?_
      refine ⟨?_, ⟨by kernel_rfl, by kernel_rfl, by kernel_rfl, by kernel_rfl⟩, fun _ _ _ h => h, Or.inl ⟨by rfl, ?_⟩, by assumption, ?_⟩
      rotate_left
      · (intro w hSw; (try dsimp only at hSw); go_simp; with_reducible rfl)
      try simp only [Act.put, List.setIfInBounds_toArray, List.set_cons_zero, List.set_cons_succ]
      refine Go.Proofs.Phase.wpPh_take' (i := 2) (by simp only [List.getElem?_toArray, List.getElem?_cons_succ, List.getElem?_cons_zero]; rfl) ?_
      refine ⟨?_, ⟨by kernel_rfl, by kernel_rfl, by kernel_rfl, by kernel_rfl⟩, fun _ _ _ h => h, Or.inl ⟨by rfl, ?_⟩, by assumption, ?_⟩
      rotate_left
      · (intro w hSw; (try dsimp only at hSw); go_simp; with_reducible rfl)
      try simp only [Act.put, List.setIfInBounds_toArray, List.set_cons_zero, List.set_cons_succ]
      refine Go.Proofs.Phase.wpPh_take' (i := 3) (by simp only [List.getElem?_toArray, List.getElem?_cons_succ, List.getElem?_cons_zero]; rfl) ?_
      refine ⟨?_, ⟨by kernel_rfl, by kernel_rfl, by kernel_rfl, by kernel_rfl⟩, fun _ _ _ h => h, Or.inl ⟨by rfl, ?_⟩, by assumption, ?_⟩
      rotate_left
      · (intro w hSw; (try dsimp only at hSw); go_simp; with_reducible rfl)
      try simp only [Act.put, List.setIfInBounds_toArray, List.set_cons_zero, List.set_cons_succ]
      refine Go.Proofs.Phase.wpPh_take' (i := 4) (by simp only [List.getElem?_toArray, List.getElem?_cons_succ, List.getElem?_cons_zero]; rfl) ?_
      refine ⟨?_, ⟨by kernel_rfl, by kernel_rfl, by kernel_rfl, by kernel_rfl⟩, fun _ _ _ h => h, Or.inl ⟨by rfl, ?_⟩, by assumption, ?_⟩
      rotate_left
      · (intro w hSw; (try dsimp only at hSw); go_simp; with_reducible rfl)
      try simp only [Act.put, List.setIfInBounds_toArray, List.set_cons_zero, List.set_cons_succ]
      refine Go.Proofs.Phase.wpPh_take' (i := 5) (by simp only [List.getElem?_toArray, List.getElem?_cons_succ, List.getElem?_cons_zero]; rfl) ?_
      refine ⟨?_, ⟨by kernel_rfl, by kernel_rfl, by kernel_rfl, by kernel_rfl⟩, fun _ _ _ h => h, Or.inl ⟨by rfl, ?_⟩, by assumption, ?_⟩
      rotate_left
      · (intro w hSw; (try dsimp only at hSw); go_simp; with_reducible rfl)
      try simp only [Act.put, List.setIfInBounds_toArray, List.set_cons_zero, List.set_cons_succ]
      refine Go.Proofs.Phase.wpPh_before (i := 6) (by kernel_rfl) (by simp only [List.getElem?_toArray, List.getElem?_cons_succ, List.getElem?_cons_zero]; rfl) (fun K hK => ?_)
      go_simp
      go_wp2_with (fail)
      refine hK.out _ _ ?_ (fun hHeldN => ?_)
      · ((try dsimp only) <;> (exact ⟨m0, ca, z2⟩))
      clear hHeld
      have hHeld := hHeldN
      clear hHeldN
      clear hK K
      try simp only [Act.put, List.setIfInBounds_toArray, List.set_cons_zero, List.set_cons_succ]
      refine Go.Proofs.Phase.wpPh_take' (i := 7) (by simp only [List.getElem?_toArray, List.getElem?_cons_succ, List.getElem?_cons_zero]; rfl) ?_
      refine ⟨?_, ⟨by kernel_rfl, by kernel_rfl, by kernel_rfl, by kernel_rfl⟩, fun _ _ _ h => h, Or.inl ⟨by rfl, ?_⟩, by assumption, ?_⟩
      rotate_left
      · (intro w hSw; (try dsimp only at hSw); go_simp; with_reducible rfl)
      try simp only [Act.put, List.setIfInBounds_toArray, List.set_cons_zero, List.set_cons_succ]
      refine Go.Proofs.Phase.wpPh_take' (i := 8) (by simp only [List.getElem?_toArray, List.getElem?_cons_succ, List.getElem?_cons_zero]; rfl) ?_
      refine ⟨?_, ⟨by kernel_rfl, by kernel_rfl, by kernel_rfl, by kernel_rfl⟩, fun _ _ _ h => h, Or.inl ⟨by rfl, ?_⟩, by assumption, ?_⟩
      rotate_left
      · (intro w hSw; (try dsimp only at hSw); go_simp; with_reducible rfl)
      try simp only [Act.put, List.setIfInBounds_toArray, List.set_cons_zero, List.set_cons_succ]
      refine Go.Proofs.Phase.wpPh_behind (i := 9) (by kernel_rfl) (by simp only [List.getElem?_toArray, List.getElem?_cons_succ, List.getElem?_cons_zero]; rfl) (by kernel_rfl) (fun K hK => ?_)
      go_simp
      refine hK.out _ _ ?_
      clear hK K
      try simp only [Act.put, List.setIfInBounds_toArray, List.set_cons_zero, List.set_cons_succ]
      refine Go.Proofs.Phase.wpPh_done (by kernel_rfl) ?_ _
      clear z2 z3 f2 f3 m0 ca cb
      generalize hwc : (wb.setCell ⟨w2.heap.size, 2, none⟩ (.int .i64 ma)).drew = wc at *
      clear hwc
      have Ac := HA2.out.below bc.out
      have z3 : wc.cell? ⟨w2.heap.size, 3, none⟩ = some (.int .i64 nb) := by rw [cell_of_row wc _ 3 _ _ _ bxc.out]; rfl
      have f3 : wc.frozen? ⟨w2.heap.size, 3, none⟩ = false := frozen_of_row wc _ 3 _ _ bxc.out
      have m0 : wc.cell? ⟨w.heap.size + 1, 0, none⟩ = some (.slice (some ⟨bm, 0, none⟩) (i + 1) cm) := by rw [cell_of_row wc _ 0 _ _ _ Ac.mblk]; rw [HLEN.out]; rfl
      have cb : wc.cell? ⟨bm, nb, none⟩ = some (.int .i64 mb) := Ac.mrow.il.cell rfl nb mb HMB.out
      have bd : Hid (Below w2.heap.size w2 ((wc.setCell ⟨w2.heap.size, 3, none⟩ (.int .i64 mb)).drew)) := Lib.hid ((bc.out.setCell (Nat.le_refl _) _).drew)
      have bxd : Hid (((wc.setCell ⟨w2.heap.size, 3, none⟩ (.int .i64 mb)).drew).heap[w2.heap.size]? = some (.cells #[.int .u8 tk, .int .i64 tn, .int .i64 ma, .int .i64 mb] 30 (0, 0))) := Lib.hid (heap_setCell_same wc w2.heap.size 3 _ _ (.int .i64 mb) bxc.out)
      clear Ac
      go_wp2_with fail
      refine Go.Proofs.Phase.wp_region_ph (S := (fun w' => w'.cell? ⟨w.heap.size + 1, 0, none⟩ = some (.slice (some ⟨bm, 0, none⟩) (i + 1) cm) ∧ w'.cell? ⟨bm, nb, none⟩ = some (.int .i64 mb) ∧ w'.cell? ⟨w2.heap.size, 3, none⟩ = some (.int .i64 nb))) 9 (by kernel_rfl) ?_ (fun hHeld => ?_)
      · ((try dsimp only) <;> (exact ⟨m0, cb, z3⟩))
      refine Go.Proofs.Phase.wpPh_take' (i := 0) (by simp only [List.getElem?_toArray, List.getElem?_cons_succ, List.getElem?_cons_zero]; rfl) ?_
      refine ⟨?_, ⟨by kernel_rfl, by kernel_rfl, by kernel_rfl, by kernel_rfl⟩, fun _ _ _ h => h, Or.inl ⟨by rfl, ?_⟩, by assumption, ?_⟩
      rotate_left
      · (intro w hSw; (try dsimp only at hSw); go_simp; with_reducible rfl)
      try simp only [Act.put, List.setIfInBounds_toArray, List.set_cons_zero, List.set_cons_succ]
      refine Go.Proofs.Phase.wpPh_take' (i := 1) (by simp only [List.getElem?_toArray, List.getElem?_cons_succ, List.getElem?_cons_zero]; rfl) ?_
      refine ⟨?_, ⟨by kernel_rfl, by kernel_rfl, by kernel_rfl, by kernel_rfl⟩, fun _ _ _ h => h, Or.inl ⟨by rfl, ?_⟩, by assumption, ?_⟩
      rotate_left
      · (intro w hSw; (try dsimp only at hSw); go_simp; with_reducible rfl)
      try simp only [Act.put, List.setIfInBounds_toArray, List.set_cons_zero, List.set_cons_succ]
      refine Go.Proofs.Phase.wpPh_take' (i := 2) (by simp only [List.getElem?_toArray, List.getElem?_cons_succ, List.getElem?_cons_zero]; rfl) ?_
      refine ⟨?_, ⟨by kernel_rfl, by kernel_rfl, by kernel_rfl, by kernel_rfl⟩, fun _ _ _ h => h, Or.inl ⟨by rfl, ?_⟩, by assumption, ?_⟩
      rotate_left
      · (intro w hSw; (try dsimp only at hSw); go_simp; with_reducible rfl)
      try simp only [Act.put, List.setIfInBounds_toArray, List.set_cons_zero, List.set_cons_succ]
      refine Go.Proofs.Phase.wpPh_take' (i := 3) (by simp only [List.getElem?_toArray, List.getElem?_cons_succ, List.getElem?_cons_zero]; rfl) ?_
      refine ⟨?_, ⟨by kernel_rfl, by kernel_rfl, by kernel_rfl, by kernel_rfl⟩, fun _ _ _ h => h, Or.inl ⟨by rfl, ?_⟩, by assumption, ?_⟩
      rotate_left
      · (intro w hSw; (try dsimp only at hSw); go_simp; with_reducible rfl)
      try simp only [Act.put, List.setIfInBounds_toArray, List.set_cons_zero, List.set_cons_succ]
      refine Go.Proofs.Phase.wpPh_take' (i := 4) (by simp only [List.getElem?_toArray, List.getElem?_cons_succ, List.getElem?_cons_zero]; rfl) ?_
      refine ⟨?_, ⟨by kernel_rfl, by kernel_rfl, by kernel_rfl, by kernel_rfl⟩, fun _ _ _ h => h, Or.inl ⟨by rfl, ?_⟩, by assumption, ?_⟩
      rotate_left
      · (intro w hSw; (try dsimp only at hSw); go_simp; with_reducible rfl)
      try simp only [Act.put, List.setIfInBounds_toArray, List.set_cons_zero, List.set_cons_succ]
      refine Go.Proofs.Phase.wpPh_take' (i := 5) (by simp only [List.getElem?_toArray, List.getElem?_cons_succ, List.getElem?_cons_zero]; rfl) ?_
      refine ⟨?_, ⟨by kernel_rfl, by kernel_rfl, by kernel_rfl, by kernel_rfl⟩, fun _ _ _ h => h, Or.inl ⟨by rfl, ?_⟩, by assumption, ?_⟩
      rotate_left
      · (intro w hSw; (try dsimp only at hSw); go_simp; with_reducible rfl)
      try simp only [Act.put, List.setIfInBounds_toArray, List.set_cons_zero, List.set_cons_succ]
      refine Go.Proofs.Phase.wpPh_before (i := 6) (by kernel_rfl) (by simp only [List.getElem?_toArray, List.getElem?_cons_succ, List.getElem?_cons_zero]; rfl) (fun K hK => ?_)
      go_simp
      go_wp2_with (fail)
      refine hK.out _ _ ?_ (fun hHeldN => ?_)
      · ((try dsimp only) <;> (exact ⟨m0, cb, z3⟩))
      clear hHeld
      have hHeld := hHeldN
      clear hHeldN
      clear hK K
      try simp only [Act.put, List.setIfInBounds_toArray, List.set_cons_zero, List.set_cons_succ]
      refine Go.Proofs.Phase.wpPh_take' (i := 7) (by simp only [List.getElem?_toArray, List.getElem?_cons_succ, List.getElem?_cons_zero]; rfl) ?_
      refine ⟨?_, ⟨by kernel_rfl, by kernel_rfl, by kernel_rfl, by kernel_rfl⟩, fun _ _ _ h => h, Or.inl ⟨by rfl, ?_⟩, by assumption, ?_⟩
      rotate_left
      · (intro w hSw; (try dsimp only at hSw); go_simp; with_reducible rfl)
      try simp only [Act.put, List.setIfInBounds_toArray, List.set_cons_zero, List.set_cons_succ]
      refine Go.Proofs.Phase.wpPh_take' (i := 8) (by simp only [List.getElem?_toArray, List.getElem?_cons_succ, List.getElem?_cons_zero]; rfl) ?_
      refine ⟨?_, ⟨by kernel_rfl, by kernel_rfl, by kernel_rfl, by kernel_rfl⟩, fun _ _ _ h => h, Or.inl ⟨by rfl, ?_⟩, by assumption, ?_⟩
      rotate_left
      · (intro w hSw; (try dsimp only at hSw); go_simp; with_reducible rfl)
      try simp only [Act.put, List.setIfInBounds_toArray, List.set_cons_zero, List.set_cons_succ]
      refine Go.Proofs.Phase.wpPh_behind (i := 9) (by kernel_rfl) (by simp only [List.getElem?_toArray, List.getElem?_cons_succ, List.getElem?_cons_zero]; rfl) (by kernel_rfl) (fun K hK => ?_)
      go_simp
      refine hK.out _ _ ?_
      clear hK K
      try simp only [Act.put, List.setIfInBounds_toArray, List.set_cons_zero, List.set_cons_succ]
      refine Go.Proofs.Phase.wpPh_done (by kernel_rfl) ?_ _
      clear z3 f3 m0 cb
      generalize hwd : (wc.setCell ⟨w2.heap.size, 3, none⟩ (.int .i64 mb)).drew = wd at *
      clear hwd
      have Ad := HA2.out.below bd.out
      have x0 : wd.cell? ⟨w2.heap.size, 0, none⟩ = some (.int .u8 tk) := by rw [cell_of_row wd _ 0 _ _ _ bxd.out]; rfl
      have x1 : wd.cell? ⟨w2.heap.size, 1, none⟩ = some (.int .i64 tn) := by rw [cell_of_row wd _ 1 _ _ _ bxd.out]; rfl
      have x2 : wd.cell? ⟨w2.heap.size, 2, none⟩ = some (.int .i64 ma) := by rw [cell_of_row wd _ 2 _ _ _ bxd.out]; rfl
      have x3 : wd.cell? ⟨w2.heap.size, 3, none⟩ = some (.int .i64 mb) := by rw [cell_of_row wd _ 3 _ _ _ bxd.out]; rfl
      have M2 := rmake B gr L1 vr' tk tn ma mb HK.out.2.1 wd Ad.two.rst
      have hk1 := HK.out.1
      generalize hq : mk L1 ⟨tk, tn, ma, mb⟩ = q at *
      obtain ⟨q1, q2, q3⟩ := q
      dsimp only at M2 hk1
      subst hk1
      have HQ := Lib.hid hq
      have HAd := Lib.hid Ad
      have HBd := Lib.hid (HB2.out.trans (bd.out.mono HA2.out.two.st.hB))
      have HFd := Lib.hid ((HF.out.trans (Fr.of_below gr vr' FB2.out) HB.out.size).trans (Fr.of_below gr vr' bd.out) HB2.out.size)
      clear hq Ad
      go_wp2_with fail
      with_reducible refine M2.mono ?_
      rintro e we ⟨ve, rfl, Se, Be, _, Fe⟩
      have Ae := HAd.out.r_step Se Fe Be.size
      have HAe := Lib.hid Ae
      have HBe := Lib.hid (HBd.out.trans Be)
      have HFe := Lib.hid (HFd.out.trans Fe HBd.out.size)
      have m0 : we.cell? ⟨w.heap.size + 1, 0, none⟩ = some (.slice (some ⟨bm, 0, none⟩) (i + 1) cm) := by rw [cell_of_row we _ 0 _ _ _ Ae.mblk]; rw [HLEN.out]; rfl
      have mf : we.frozen? ⟨w.heap.size + 1, 0, none⟩ = false := frozen_of_row we _ 0 _ _ Ae.mblk
      have hBe := Ae.two.st.hB
      have lgm : w.heap.size + 1 < we.heap.size := lt_of_some Ae.mblk
      have hwe : w.heap.size ≤ we.heap.size := HBe.out.size
      have O2 : Hid (OI we w.heap.size (.slice (some ⟨bm, 0, none⟩) (i + 1) cm) ms) := Lib.hid (by rw [← HLEN.out]; exact Ae.mrow)
      clear M2 Se Be Fe Ae x0 x1 x2 x3
      go_wp2_with (at_builtin; refine push rfl _ _ rfl rfl rfl O2 hwe ?c1 ?_)
      case c1 => have := HLEN.out; omega
      intro vm' wf o1 o2
      have hne : some (w.heap.size + 1) ≠ (Value.slice (some ⟨bm, 0, none⟩) (i + 1) cm).ownBlock := fun e => by
        obtain ⟨cur, hc⟩ := row_typed O2.out (w.heap.size + 1) e.symm
        exact ne_typed HAe.out.mblk hc (by intro e; injection e with _ e; cases e) rfl
      have mf' : wf.frozen? ⟨w.heap.size + 1, 0, none⟩ = false := by
        have h1 : (we.alloc (.cells #[.int .i64 q1] 3)).heap[w.heap.size + 1]? = _ := (Below.heap_alloc we _ _ lgm).trans HAe.out.mblk
        have h2 := (o2.block (w.heap.size + 1) (lt_of_some h1) hne).trans h1
        exact frozen_of_row wf _ 0 _ _ h2
      have mc' : wf.cell? ⟨w.heap.size + 1, 0, none⟩ = some (.slice (some ⟨bm, 0, none⟩) (i + 1) cm) := by
        have h1 : (we.alloc (.cells #[.int .i64 q1] 3)).heap[w.heap.size + 1]? = _ := (Below.heap_alloc we _ _ lgm).trans HAe.out.mblk
        have h2 := (o2.block (w.heap.size + 1) (lt_of_some h1) hne).trans h1
        rw [cell_of_row wf _ 0 _ _ _ h2]; rw [HLEN.out]; rfl
      have Af := HAe.out.grows o1 (by rw [show (Value.slice (some ⟨bm, 0, none⟩) ms.length cm).ownBlock = (Value.slice (some ⟨bm, 0, none⟩) (i + 1) cm).ownBlock from rfl]; exact o2)
      have Bf : Below B w (wf.setCell ⟨w.heap.size + 1, 0, none⟩ vm') := ((HBe.out.alloc hBe _).grown o2 (by simp; omega) (fun k hk => Nat.le_trans HB0.out (World.ownsRow.lt O2.out k hk).1)).setCell HAe.out.lom _
      have Ff : Fr w (wf.setCell ⟨w.heap.size + 1, 0, none⟩ vm') gr vr ve := by
        have h1 := HFe.out.pushed O2.out o2 HBe.out.size
        exact ⟨fun k hk k1 k3 => (Below.heap_setCell _ _ _ _ (show k ≠ w.heap.size + 1 by omega)).trans (h1.1 k hk k1 k3), h1.2⟩
      have HFf := Lib.hid Ff
      obtain ⟨Am, cm', ev, _⟩ := o1.slice
      rw [show (ms ++ [q1]).length = i + 2 by rw [List.length_append, HLEN.out]; rfl] at ev
      subst ev
      have HAf := Lib.hid Af
      have HBf := Lib.hid Bf
      clear Af Bf Ff o1 o2 m0 mf hne
      go_wp2_with fail
      go_roundw
      case rel => exact ⟨i + 1, by omega, by go_num, Lib.hid ⟨_, ve, by rw [HSUC.out]; exact HAf.out, HBf.out, HFf.out⟩⟩
      case measure => simp [intOf]; omega
    · obtain rfl : i = L.length := by omega
      have HA := Lib.hid hA
      have HB := Lib.hid hb
      have q1 : decide ((L.length : Int) + 1 ≤ (L.length : Int)) = false := decide_eq_false (by omega)
      clear hA hb HI
      go_wp2_with (go_at_call 25; with_reducible refine M1.mono ?_; rintro e w' ⟨rfl, rfl⟩)
      go_ret2
      exact ⟨_, _, _, rfl, HA.out, HB.out, HF.out, by omega⟩
end Go.Proofs.Ytbngiimhkgdjeaa
