/- The walk of TermAlike. -/
import Derived.Test.YtbngiimhkgdjeaaRDag
import Derived.Test.YtbngiimhkgdjeaaLists
import Derived.Test.YtbngiimhkgdjeaaPhase
namespace Go.Proofs.Ytbngiimhkgdjeaa
open Go.RowKit Go.Proofs.Phase

theorem run_neq_ptr (w : World) (b : Addr) : (binOp .neq 23 (.pointer (some b)) (.pointer none)).run Try.prog w = .ok (.bool true) w := by kernel_rfl
/-- A store of the document's of any terms. -/
theorem mkall_full {L : List Tm} (h : Full L) {t : Tm} (ht : Tm.wf t) : Full (mk L t).2.2 ∧ (mk L t).2.2.length ≤ L.length + 1 := by
  refine ⟨mk_full h ht, ?_⟩
  rcases mk_ways L t with ⟨e, _⟩ | ⟨i, e, _⟩ | ⟨e, _⟩ | ⟨e, _⟩ <;> rw [e] <;> simp
set_option maxHeartbeats 8000000 in
set_option maxRecDepth 100000 in
theorem termAlike (l o : List Tm) (v vo : Value) (a b : Int) (w : World) (hat : AT w v l) (hwf : ∀ t ∈ l, Tm.wf t) (hao : AT w vo o) (hwo : ∀ t ∈ o, Tm.wf t) :
    Calls Try.prog 7 #[v, vo, .int .i64 a, .int .i64 b] w fun e w' => e = .returned (.bool true) ∧ Below w.heap.size w w' := by
  obtain ⟨A, n, c, rfl, hn⟩ : ∃ A n c, v = .slice A n c ∧ n = l.length := by
    rcases hat with ⟨h1, h2⟩ | ⟨a, c, h1, _⟩
    · exact ⟨_, _, _, h1, by rw [h2]; rfl⟩
    · exact ⟨_, _, _, h1, rfl⟩
  obtain ⟨Ao, no, co, rfl, hno⟩ : ∃ A n c, vo = .slice A n c ∧ n = o.length := by
    rcases hao with ⟨h1, h2⟩ | ⟨a, c, h1, _⟩
    · exact ⟨_, _, _, h1, by rw [h2]; rfl⟩
    · exact ⟨_, _, _, h1, rfl⟩
  by_cases hbig : 500 < n
  · have q1 : decide ((n : Int) > 500) = true := decide_eq_true (by omega)
    clear hn hno hat hao hwf hwo
    go_enter Try.func7, Try.ntmps7
    go_wp2
    go_ret
    exact ⟨rfl, Below.refl _ _⟩
  by_cases hbigo : 500 < no
  · have q1 : decide ((n : Int) > 500) = false := decide_eq_false (by omega)
    have q2 : decide ((no : Int) > 500) = true := decide_eq_true (by omega)
    clear hn hno hat hao hwf hwo
    go_enter Try.func7, Try.ntmps7
    go_wp2
    go_ret
    exact ⟨rfl, Below.refl _ _⟩
  have q1 : decide ((n : Int) > 500) = false := decide_eq_false (by omega)
  have q2 : decide ((no : Int) > 500) = false := decide_eq_false (by omega)
  have M1 := build l _ w hat hwf (by omega)
  have HAO := Lib.hid hao
  have HWO := Lib.hid hwo
  have hsm : (no : Int) ≤ 500 := by omega
  have HNN := Lib.hid (And.intro hn (And.intro hno (show n ≤ 500 ∧ no ≤ 500 by omega)))
  clear hn hno hat hao hwf hwo
  go_enter Try.func7, Try.ntmps7
  go_wp2_with (go_at_call 14; with_reducible refine M1.mono ?_; rintro e w1 ⟨g, m, gr1, L, v1, vr1, rfl, T1, F1, L1, B1⟩)
  have HS1 := Lib.hid T1.st
  have HF1 := Lib.hid (And.intro F1 L1)
  have HB1 := Lib.hid B1
  clear M1 T1 F1 L1 B1
  go_wp2_with (go_at_call 26; with_reducible refine (rnew _).mono ?_; rintro e w2 ⟨gr, vr, rfl, S2, B2⟩)
  have T0 : Two w2 w.heap.size g m gr L v1 [] vr := by
    have h1 := HS1.out.below B2
    refine ⟨h1, ⟨Nat.le_trans HB1.out.size S2.lo, Nat.le_trans HB1.out.size B2.size, S2.blk, ⟨S2.row.1, S2.row.2.imp id fun ⟨q, cap, cur, e1, e2, e3⟩ => ⟨q, cap, cur, e1, Nat.le_trans HB1.out.size e2, e3⟩⟩⟩, fun k hk e => ?_⟩
    have h2 := (World.ownsRow.lt S2.row k e).1
    have h3 := (World.ownsRow.lt HS1.out.row k hk).2
    omega
  have R0 : Hid (∃ L2 vr, Two w2 w.heap.size g m gr L v1 L2 vr ∧ Full L2 ∧ L2.length ≤ 0 ∧ Below w.heap.size w w2) := Lib.hid ⟨_, _, T0, full_nil, by simp, HB1.out.trans (B2.mono HB1.out.size)⟩
  clear T0 S2 B2 HS1 HB1
  go_loopw [13] (fun v13 wr => ∃ k : Nat, k ≤ no ∧ v13 = .int .i64 k ∧ Hid (∃ L2 vr, Two wr w.heap.size g m gr L v1 L2 vr ∧ Full L2 ∧ L2.length ≤ k ∧ Below w.heap.size w wr)) (fun v13 _ => no - (intOf v13).toNat)
  case atStart => exact ⟨0, by omega, rfl, R0⟩
  case round =>
    clear R0
    obtain ⟨k, hk, rfl, HI⟩ := hrel
    obtain ⟨L2, vr, T1, hg, hl, B1⟩ := HI.out
    by_cases hlt : k < no
    · obtain ⟨t, ht⟩ : ∃ t, o[k]? = some t := ⟨o[k]'(by have := HNN.out; omega), List.getElem?_eq_getElem _⟩
      have hwt := HWO.out t (List.mem_of_getElem? ht)
      have M2 := rmake w.heap.size gr L2 vr t.k t.n t.a t.b hg.1.1 wr T1.rst
      have hgq := mkall_full hg hwt
      obtain ⟨bo, oo, rfl, _, hF⟩ := HAO.out.form k t ht
      obtain ⟨c0, c1, c2, c3⟩ := hF wr B1 k t ht
      obtain ⟨tk, tn, ta, tb⟩ := t
      dsimp only at M2 c0 c1 c2 c3
      generalize mk L2 ⟨tk, tn, ta, tb⟩ = q at *
      obtain ⟨q1, q2, q3⟩ := q
      dsimp only at M2 hgq
      have i1 : (0 : Int) ≤ k := by omega
      have i2 : (k : Int) < no := by omega
      have HG := Lib.hid (And.intro hgq.1 (show q3.length ≤ k + 1 by have := hgq.2; omega))
      have HB1 := Lib.hid B1
      have HT1 := Lib.hid T1
      clear hgq hF B1 hwt ht HI T1 hg hl
      go_wp2_with fail
      with_reducible refine M2.mono ?_
      rintro e w3 ⟨v3, rfl, S3, B3, _, K3⟩
      have HT3 := Lib.hid (HT1.out.r_step S3 K3 B3.size)
      have HB3 := Lib.hid (HB1.out.trans B3)
      clear S3 B3 K3 M2
      go_wp2_with fail
      go_roundw
      case rel => exact ⟨k + 1, by omega, by go_num, Lib.hid ⟨q3, v3, HT3.out, HG.out.1, HG.out.2, HB3.out⟩⟩
      case measure => simp [intOf]; omega
    · obtain rfl : k = no := by omega
      have hFL := HF1.out.1
      have hnn := HNN.out
      have hLl := HF1.out.2
      have M3 := across (g := g) (m := m) (gr := gr) (L := L) (v := v1) (vr := vr) L2 hFL.1 (acr_ok2 hFL hg (by omega)) (by omega) wr T1
      have hHm := (acr_hm hFL hg (by omega) L.length (Nat.le_refl _)).1
      have HHM := Lib.hid hHm
      have HFL := Lib.hid hFL
      have HB1 := Lib.hid B1
      have hLb : L.length ≤ 500 := by omega
      generalize acrN L L2 L.length = q at *
      obtain ⟨ms, M⟩ := q
      dsimp only at M3 hHm
      clear HI T1 hg hl B1 hFL hnn hLl hHm
      go_wp2_with fail
      with_reducible refine M3.mono ?_
      rintro e w4 ⟨gm, vm, vr', rfl, A4, B4, _, _⟩
      have HA4 := Lib.hid A4
      have HB4 := Lib.hid (HB1.out.trans B4)
      have ML := len _ _ _ _ _ _ A4.two.st
      have hlo := HB4.out.size
      clear M3 A4 B4
      have D0 := dag_any _ _ _ _ _ 0 HFL.out.1 w4 HA4.out.two.st
      rw [show dagX L 0 = [] by unfold dagX; rw [if_neg (by simp [thereB])]] at D0
      by_cases ha1 : a < 1
      · have r1 : decide (a < 1) = true := decide_eq_true ha1
        clear HHM
        go_wp2_with (go_at_call 25; with_reducible refine ML.mono ?_; rintro e w' ⟨rfl, rfl⟩)
        refine D0.mono ?_
        rintro e w5 ⟨v5, rfl, O5, B5⟩
        obtain ⟨A5, c5, rfl, _⟩ := (RT.of_own O5 rfl).slice
        have HB5 := Lib.hid (HB4.out.trans (B5.mono hlo))
        clear O5 B5
        go_wp2_with (go_at_call 12; with_reducible refine (lives _).mono ?_; rintro e w6 ⟨rfl, B6⟩)
        go_ret
        exact ⟨rfl, HB5.out.trans (B6.mono HB5.out.size)⟩
      by_cases hb1 : b < 1
      · have r1 : decide (a < 1) = false := decide_eq_false ha1
        have r2 : decide (b < 1) = true := decide_eq_true hb1
        clear HHM
        go_wp2_with (go_at_call 25; with_reducible refine ML.mono ?_; rintro e w' ⟨rfl, rfl⟩)
        refine D0.mono ?_
        rintro e w5 ⟨v5, rfl, O5, B5⟩
        obtain ⟨A5, c5, rfl, _⟩ := (RT.of_own O5 rfl).slice
        have HB5 := Lib.hid (HB4.out.trans (B5.mono hlo))
        clear O5 B5
        go_wp2_with (go_at_call 12; with_reducible refine (lives _).mono ?_; rintro e w6 ⟨rfl, B6⟩)
        go_ret
        exact ⟨rfl, HB5.out.trans (B6.mono HB5.out.size)⟩
      by_cases ha2 : (L.length : Int) < a
      · have r1 : decide (a < 1) = false := decide_eq_false ha1
        have r2 : decide (b < 1) = false := decide_eq_false hb1
        have r3 : decide (a > (L.length : Int)) = true := decide_eq_true ha2
        clear HHM
        go_wp2_with (go_at_call 25; with_reducible refine ML.mono ?_; rintro e w' ⟨rfl, rfl⟩)
        refine D0.mono ?_
        rintro e w5 ⟨v5, rfl, O5, B5⟩
        obtain ⟨A5, c5, rfl, _⟩ := (RT.of_own O5 rfl).slice
        have HB5 := Lib.hid (HB4.out.trans (B5.mono hlo))
        clear O5 B5
        go_wp2_with (go_at_call 12; with_reducible refine (lives _).mono ?_; rintro e w6 ⟨rfl, B6⟩)
        go_ret
        exact ⟨rfl, HB5.out.trans (B6.mono HB5.out.size)⟩
      by_cases hb2 : (L.length : Int) < b
      · have r1 : decide (a < 1) = false := decide_eq_false ha1
        have r2 : decide (b < 1) = false := decide_eq_false hb1
        have r3 : decide (a > (L.length : Int)) = false := decide_eq_false ha2
        have r4 : decide (b > (L.length : Int)) = true := decide_eq_true hb2
        clear HHM
        go_wp2_with (go_at_call 25; with_reducible refine ML.mono ?_; rintro e w' ⟨rfl, rfl⟩)
        refine D0.mono ?_
        rintro e w5 ⟨v5, rfl, O5, B5⟩
        obtain ⟨A5, c5, rfl, _⟩ := (RT.of_own O5 rfl).slice
        have HB5 := Lib.hid (HB4.out.trans (B5.mono hlo))
        clear O5 B5
        go_wp2_with (go_at_call 12; with_reducible refine (lives _).mono ?_; rintro e w6 ⟨rfl, B6⟩)
        go_ret
        exact ⟨rfl, HB5.out.trans (B6.mono HB5.out.size)⟩
      have r1 : decide (a < 1) = false := decide_eq_false ha1
      have r2 : decide (b < 1) = false := decide_eq_false hb1
      have r3 : decide (a > (L.length : Int)) = false := decide_eq_false ha2
      have r4 : decide (b > (L.length : Int)) = false := decide_eq_false hb2
      clear D0
      go_wp2_with (go_at_call 25; with_reducible refine ML.mono ?_; rintro e w' ⟨rfl, rfl⟩)
      clear r1 r2 r3 r4 ML
      obtain ⟨na, rfl⟩ : ∃ k : Nat, a = k := ⟨a.toNat, by omega⟩
      obtain ⟨nb, rfl⟩ : ∃ k : Nat, b = k := ⟨b.toNat, by omega⟩
      have hna : 0 < na ∧ na ≤ L.length := by omega
      have hnb : 0 < nb ∧ nb ≤ L.length := by omega
      have hval := (HHM.out.val (Nat.le_refl _) (na : Int) (by omega) (by omega)).2 (by omega)
      rw [Int.toNat_natCast] at hval
      obtain ⟨mp, hmp⟩ : ∃ k : Nat, ms.getD na 0 = k := ⟨(ms.getD na 0).toNat, by omega⟩
      rw [hmp] at hval
      have hms : ms[na]? = some (mp : Int) := by
        have : na < ms.length := by rw [HHM.out.len]; omega
        rw [← hmp, List.getD_eq_getElem?_getD, List.getElem?_eq_getElem this]
        rfl
      have exa : dagX L (na : Int) = dagS L na := by unfold dagX; rw [if_pos (by unfold thereB; simp; omega)]
      have exb : dagX L (nb : Int) = dagS L nb := by unfold dagX; rw [if_pos (by unfold thereB; simp; omega)]
      have e1 : dagX L (na : Int) = dagS M (mp : Int) := by rw [exa, dagS_hm HFL.out HHM.out na (by omega) (by omega), Int.toNat_natCast, hmp]
      have e2 : decide (dagX L (na : Int) = dagX L (nb : Int)) = decide (na = nb) := by
        rw [exa, exb]
        by_cases e : na = nb
        · subst e; rw [decide_eq_true rfl, decide_eq_true rfl]
        · rw [decide_eq_false e, decide_eq_false]
          intro h
          have := dagS_inj HFL.out na nb (by omega) (by omega) (by omega) (by omega) h
          omega
      obtain ⟨Am, cm, rfl, hAm⟩ := HA4.out.mrow.slice
      obtain ⟨bm, rfl⟩ := hAm (by rw [HHM.out.len]; omega)
      have hml := HHM.out.len
      have m0 : w4.cell? ⟨gm, 0, none⟩ = some (.slice (some ⟨bm, 0, none⟩) (L.length + 1) cm) := by rw [cell_of_row w4 gm 0 _ _ _ HA4.out.mblk, hml]; rfl
      have ca : w4.cell? ⟨bm, na, none⟩ = some (.int .i64 mp) := HA4.out.mrow.il.cell rfl na _ hms
      have i1 : (0 : Int) ≤ (na : Int) := by omega
      have i2 : (na : Int) < (L.length : Int) + 1 := by omega
      have HE1 := Lib.hid e1
      have HE2 := Lib.hid e2
      have hdl := dagX_len HFL.out.1 (na : Int)
      have HV := Lib.hid (And.intro hval (And.intro hna (And.intro hnb hdl)))
      have lgm : gm < w4.heap.size := lt_of_some HA4.out.mblk
      have lbm : bm < w4.heap.size := (World.ownsRow.lt HA4.out.mrow bm rfl).2
      have Sk : ∀ (wx wy : World), (wx.cell? ⟨gm, 0, none⟩ = some (.slice (some ⟨bm, 0, none⟩) (L.length + 1) cm) ∧ wx.cell? ⟨bm, na, none⟩ = some (.int .i64 mp) ∧ Below w4.heap.size w4 wx) → Below wx.heap.size wx wy → (wy.cell? ⟨gm, 0, none⟩ = some (.slice (some ⟨bm, 0, none⟩) (L.length + 1) cm) ∧ wy.cell? ⟨bm, na, none⟩ = some (.int .i64 mp) ∧ Below w4.heap.size w4 wy) := fun _ _ h hb =>
        ⟨(hb.cell (p := ⟨gm, 0, none⟩) (World.block_lt_of_cell? _ _ h.1)).trans h.1, (hb.cell (p := ⟨bm, na, none⟩) (World.block_lt_of_cell? _ _ h.2.1)).trans h.2.1, h.2.2.trans (hb.mono h.2.2.size)⟩
      have HSK := Lib.hid Sk
      have hGL : Good L := HFL.out.1
      have hGM : Good M := HHM.out.full.1
      clear Sk hval hmp hms exa exb e1 e2 hAm hna hnb hdl hml
      by_cases hab : na = nb
      · subst hab
        have HE3 : Hid (dagX L (na : Int) = dagX L (na : Int)) := Lib.hid rfl
        have t5 : ((na : Int) == (na : Int)) = true := by simp
        clear HE2
        refine Go.Proofs.Phase.wp_region_ph (S := (fun w' => w'.cell? ⟨gm, 0, none⟩ = some (.slice (some ⟨bm, 0, none⟩) (L.length + 1) cm) ∧ w'.cell? ⟨bm, na, none⟩ = some (.int .i64 mp) ∧ Below w4.heap.size w4 w')) 29 (by kernel_rfl) ?_ (fun hHeld => ?_)
        · ((try dsimp only) <;> (first | exact ⟨m0, ca, (Below.refl _ _).drew⟩ | exact HSK.out _ _ (by assumption) (by assumption) | exact HSK.out _ _ (by assumption) (below_drewN (Below.refl _ _) _)))
        refine Go.Proofs.Phase.wpPh_take' (i := 0) (by simp only [List.getElem?_toArray, List.getElem?_cons_succ, List.getElem?_cons_zero]; rfl) ?_
        refine ⟨?_, ⟨by kernel_rfl, by kernel_rfl, by kernel_rfl, by kernel_rfl⟩, fun _ _ _ h => h, Or.inl ⟨by rfl, ?_⟩, by assumption, ?_⟩
        rotate_left
        · (intro w hSw; (try dsimp only at hSw); go_simp; with_reducible rfl)
        try simp only [Act.put, List.setIfInBounds_toArray, List.set_cons_zero, List.set_cons_succ]
        refine Go.Proofs.Phase.wpPh_take' (i := 1) (by simp only [List.getElem?_toArray, List.getElem?_cons_succ, List.getElem?_cons_zero]; rfl) ?_
        refine ⟨?_, ⟨by kernel_rfl, by kernel_rfl, by kernel_rfl, by kernel_rfl⟩, fun _ _ _ h => h, Or.inl ⟨by rfl, ?_⟩, by assumption, ?_⟩
        rotate_left
        · (intro w hSw; (try dsimp only at hSw); go_simp; with_reducible rfl)
        try simp only [Act.put, List.setIfInBounds_toArray, List.set_cons_zero, List.set_cons_succ]
        refine Go.Proofs.Phase.wpPh_take' (i := 3) (by simp only [List.getElem?_toArray, List.getElem?_cons_succ, List.getElem?_cons_zero]; rfl) ?_
        refine ⟨?_, ⟨by kernel_rfl, by kernel_rfl, by kernel_rfl, by kernel_rfl⟩, fun _ _ _ h => h, Or.inl ⟨by rfl, ?_⟩, by assumption, ?_⟩
        rotate_left
        · (intro w hSw; (try dsimp only at hSw); go_simp; with_reducible rfl)
        try simp only [Act.put, List.setIfInBounds_toArray, List.set_cons_zero, List.set_cons_succ]
        refine Go.Proofs.Phase.wpPh_take' (i := 4) (by simp only [List.getElem?_toArray, List.getElem?_cons_succ, List.getElem?_cons_zero]; rfl) ?_
        refine ⟨?_, ⟨by kernel_rfl, by kernel_rfl, by kernel_rfl, by kernel_rfl⟩, fun _ _ _ h => h, Or.inl ⟨by rfl, ?_⟩, by assumption, ?_⟩
        rotate_left
        · (intro w hSw; (try dsimp only at hSw); go_simp; with_reducible rfl)
        try simp only [Act.put, List.setIfInBounds_toArray, List.set_cons_zero, List.set_cons_succ]
        refine Go.Proofs.Phase.wpPh_take' (i := 5) (by simp only [List.getElem?_toArray, List.getElem?_cons_succ, List.getElem?_cons_zero]; rfl) ?_
        refine ⟨?_, ⟨by kernel_rfl, by kernel_rfl, by kernel_rfl, by kernel_rfl⟩, fun _ _ _ h => h, Or.inl ⟨by rfl, ?_⟩, by assumption, ?_⟩
        rotate_left
        · (intro w hSw; (try dsimp only at hSw); go_simp; with_reducible rfl)
        try simp only [Act.put, List.setIfInBounds_toArray, List.set_cons_zero, List.set_cons_succ]
        refine Go.Proofs.Phase.wpPh_take' (i := 6) (by simp only [List.getElem?_toArray, List.getElem?_cons_succ, List.getElem?_cons_zero]; rfl) ?_
        refine ⟨?_, ⟨by kernel_rfl, by kernel_rfl, by kernel_rfl, by kernel_rfl⟩, fun _ _ _ h => h, Or.inl ⟨by rfl, ?_⟩, by assumption, ?_⟩
        rotate_left
        · (intro w hSw; (try dsimp only at hSw); go_simp; with_reducible rfl)
        try simp only [Act.put, List.setIfInBounds_toArray, List.set_cons_zero, List.set_cons_succ]
        refine Go.Proofs.Phase.wpPh_take' (i := 7) (by simp only [List.getElem?_toArray, List.getElem?_cons_succ, List.getElem?_cons_zero]; rfl) ?_
        refine ⟨?_, ⟨by kernel_rfl, by kernel_rfl, by kernel_rfl, by kernel_rfl⟩, fun _ _ _ h => h, Or.inl ⟨by rfl, ?_⟩, by assumption, ?_⟩
        rotate_left
        · (intro w hSw; (try dsimp only at hSw); go_simp; with_reducible rfl)
        try simp only [Act.put, List.setIfInBounds_toArray, List.set_cons_zero, List.set_cons_succ]
        refine Go.Proofs.Phase.wpPh_take' (i := 8) (by simp only [List.getElem?_toArray, List.getElem?_cons_succ, List.getElem?_cons_zero]; rfl) ?_
        refine ⟨?_, ⟨by kernel_rfl, by kernel_rfl, by kernel_rfl, by kernel_rfl⟩, fun _ _ _ h => h, Or.inl ⟨by rfl, ?_⟩, by assumption, ?_⟩
        rotate_left
        · (intro w hSw; (try dsimp only at hSw); go_simp; with_reducible rfl)
        try simp only [Act.put, List.setIfInBounds_toArray, List.set_cons_zero, List.set_cons_succ]
        refine Go.Proofs.Phase.wpPh_take' (i := 9) (by simp only [List.getElem?_toArray, List.getElem?_cons_succ, List.getElem?_cons_zero]; rfl) ?_
        refine ⟨?_, ⟨by kernel_rfl, by kernel_rfl, by kernel_rfl, by kernel_rfl⟩, fun _ _ _ h => h, Or.inl ⟨by rfl, ?_⟩, by assumption, ?_⟩
        rotate_left
        · (intro w hSw; (try dsimp only at hSw); go_simp; with_reducible rfl)
        try simp only [Act.put, List.setIfInBounds_toArray, List.set_cons_zero, List.set_cons_succ]
        refine Go.Proofs.Phase.wpPh_take' (i := 10) (by simp only [List.getElem?_toArray, List.getElem?_cons_succ, List.getElem?_cons_zero]; rfl) ?_
        refine ⟨?_, ⟨by kernel_rfl, by kernel_rfl, by kernel_rfl, by kernel_rfl⟩, fun _ _ _ h => h, Or.inl ⟨by rfl, ?_⟩, by assumption, ?_⟩
        rotate_left
        · (intro w hSw; (try dsimp only at hSw); go_simp; with_reducible rfl)
        try simp only [Act.put, List.setIfInBounds_toArray, List.set_cons_zero, List.set_cons_succ]
        refine Go.Proofs.Phase.wpPh_before (i := 2) (by kernel_rfl) (by simp only [List.getElem?_toArray, List.getElem?_cons_succ, List.getElem?_cons_zero]; rfl) (fun K hK => ?_)
        go_simp
        ((first | (have tk := O9; with_reducible refine (lives _).mono ?_; rintro e w11 ⟨rfl, B11⟩) | (have S2 := same_dec (RT.below (RT.of_own O8 rfl) B9) (RT.of_own O9 rfl) (by have := HV.out.2.2.2; have := HFL.out.1.1; omega); rw [show decide (dagX L (na : Int) = dagX L (na : Int)) = true from decide_eq_true rfl] at S2; with_reducible refine S2.mono ?_; rintro e w10 ⟨rfl, j10, rfl⟩; clear S2) | (obtain ⟨_, _, s2⟩ := (show _ ∧ _ ∧ Below w4.heap.size w4 _ by assumption); have tk := O8; with_reducible refine (dag_any _ _ _ _ _ (na : Int) hGL _ (HA4.out.two.st.below s2)).mono ?_; rintro e w9 ⟨v9, rfl, O9, B9⟩; clear s2 tk) | (obtain ⟨_, _, s2⟩ := (show _ ∧ _ ∧ Below w4.heap.size w4 _ by assumption); have tk := tk7; with_reducible refine (dag_any _ _ _ _ _ (na : Int) hGL _ (HA4.out.two.st.below s2)).mono ?_; rintro e w8 ⟨v8, rfl, O8, B8⟩; clear s2 tk) | (have S1 := same_dec (RT.below (RT.of_own O5 rfl) B6) (RT.of_own O6 rfl) (by have := HV.out.2.2.2; have := HFL.out.1.1; omega); rw [decide_eq_true HE1.out] at S1; with_reducible refine S1.mono ?_; rintro e w7 ⟨rfl, j7, rfl⟩; clear S1; have tk7 : True := trivial) | (obtain ⟨_, _, s2⟩ := (show _ ∧ _ ∧ Below w4.heap.size w4 _ by assumption); have tk := O5; with_reducible refine (rdag hGM mp (by have := HV.out.1; omega) (by have := HV.out.1; omega) _ (HA4.out.two.rst.below s2)).mono ?_; rintro e w6 ⟨v6, rfl, O6, B6⟩; clear s2 tk) | (obtain ⟨_, _, s2⟩ := (show _ ∧ _ ∧ Below w4.heap.size w4 _ by assumption); with_reducible refine (dag_any _ _ _ _ _ (na : Int) hGL _ (HA4.out.two.st.below s2)).mono ?_; rintro e w5 ⟨v5, rfl, O5, B5⟩; clear s2)))
        go_wp2_with fail
        refine hK.out _ _ ?_ (fun hHeldN => ?_)
        · ((try dsimp only) <;> (first | exact ⟨m0, ca, (Below.refl _ _).drew⟩ | exact HSK.out _ _ (by assumption) (by assumption) | exact HSK.out _ _ (by assumption) (below_drewN (Below.refl _ _) _)))
        clear hHeld
        have hHeld := hHeldN
        clear hHeldN
        clear hK K
        try simp only [Act.put, List.setIfInBounds_toArray, List.set_cons_zero, List.set_cons_succ]
        refine Go.Proofs.Phase.wpPh_before (i := 11) (by kernel_rfl) (by simp only [List.getElem?_toArray, List.getElem?_cons_succ, List.getElem?_cons_zero]; rfl) (fun K hK => ?_)
        go_simp
        ((first | (have tk := O9; with_reducible refine (lives _).mono ?_; rintro e w11 ⟨rfl, B11⟩) | (have S2 := same_dec (RT.below (RT.of_own O8 rfl) B9) (RT.of_own O9 rfl) (by have := HV.out.2.2.2; have := HFL.out.1.1; omega); rw [show decide (dagX L (na : Int) = dagX L (na : Int)) = true from decide_eq_true rfl] at S2; with_reducible refine S2.mono ?_; rintro e w10 ⟨rfl, j10, rfl⟩; clear S2) | (obtain ⟨_, _, s2⟩ := (show _ ∧ _ ∧ Below w4.heap.size w4 _ by assumption); have tk := O8; with_reducible refine (dag_any _ _ _ _ _ (na : Int) hGL _ (HA4.out.two.st.below s2)).mono ?_; rintro e w9 ⟨v9, rfl, O9, B9⟩; clear s2 tk) | (obtain ⟨_, _, s2⟩ := (show _ ∧ _ ∧ Below w4.heap.size w4 _ by assumption); have tk := tk7; with_reducible refine (dag_any _ _ _ _ _ (na : Int) hGL _ (HA4.out.two.st.below s2)).mono ?_; rintro e w8 ⟨v8, rfl, O8, B8⟩; clear s2 tk) | (have S1 := same_dec (RT.below (RT.of_own O5 rfl) B6) (RT.of_own O6 rfl) (by have := HV.out.2.2.2; have := HFL.out.1.1; omega); rw [decide_eq_true HE1.out] at S1; with_reducible refine S1.mono ?_; rintro e w7 ⟨rfl, j7, rfl⟩; clear S1; have tk7 : True := trivial) | (obtain ⟨_, _, s2⟩ := (show _ ∧ _ ∧ Below w4.heap.size w4 _ by assumption); have tk := O5; with_reducible refine (rdag hGM mp (by have := HV.out.1; omega) (by have := HV.out.1; omega) _ (HA4.out.two.rst.below s2)).mono ?_; rintro e w6 ⟨v6, rfl, O6, B6⟩; clear s2 tk) | (obtain ⟨_, _, s2⟩ := (show _ ∧ _ ∧ Below w4.heap.size w4 _ by assumption); with_reducible refine (dag_any _ _ _ _ _ (na : Int) hGL _ (HA4.out.two.st.below s2)).mono ?_; rintro e w5 ⟨v5, rfl, O5, B5⟩; clear s2)))
        go_wp2_with fail
        refine hK.out _ _ ?_ (fun hHeldN => ?_)
        · ((try dsimp only) <;> (first | exact ⟨m0, ca, (Below.refl _ _).drew⟩ | exact HSK.out _ _ (by assumption) (by assumption) | exact HSK.out _ _ (by assumption) (below_drewN (Below.refl _ _) _)))
        clear hHeld
        have hHeld := hHeldN
        clear hHeldN
        clear hK K
        try simp only [Act.put, List.setIfInBounds_toArray, List.set_cons_zero, List.set_cons_succ]
        refine Go.Proofs.Phase.wpPh_before (i := 12) (by kernel_rfl) (by simp only [List.getElem?_toArray, List.getElem?_cons_succ, List.getElem?_cons_zero]; rfl) (fun K hK => ?_)
        go_simp
        ((first | (have tk := O9; with_reducible refine (lives _).mono ?_; rintro e w11 ⟨rfl, B11⟩) | (have S2 := same_dec (RT.below (RT.of_own O8 rfl) B9) (RT.of_own O9 rfl) (by have := HV.out.2.2.2; have := HFL.out.1.1; omega); rw [show decide (dagX L (na : Int) = dagX L (na : Int)) = true from decide_eq_true rfl] at S2; with_reducible refine S2.mono ?_; rintro e w10 ⟨rfl, j10, rfl⟩; clear S2) | (obtain ⟨_, _, s2⟩ := (show _ ∧ _ ∧ Below w4.heap.size w4 _ by assumption); have tk := O8; with_reducible refine (dag_any _ _ _ _ _ (na : Int) hGL _ (HA4.out.two.st.below s2)).mono ?_; rintro e w9 ⟨v9, rfl, O9, B9⟩; clear s2 tk) | (obtain ⟨_, _, s2⟩ := (show _ ∧ _ ∧ Below w4.heap.size w4 _ by assumption); have tk := tk7; with_reducible refine (dag_any _ _ _ _ _ (na : Int) hGL _ (HA4.out.two.st.below s2)).mono ?_; rintro e w8 ⟨v8, rfl, O8, B8⟩; clear s2 tk) | (have S1 := same_dec (RT.below (RT.of_own O5 rfl) B6) (RT.of_own O6 rfl) (by have := HV.out.2.2.2; have := HFL.out.1.1; omega); rw [decide_eq_true HE1.out] at S1; with_reducible refine S1.mono ?_; rintro e w7 ⟨rfl, j7, rfl⟩; clear S1; have tk7 : True := trivial) | (obtain ⟨_, _, s2⟩ := (show _ ∧ _ ∧ Below w4.heap.size w4 _ by assumption); have tk := O5; with_reducible refine (rdag hGM mp (by have := HV.out.1; omega) (by have := HV.out.1; omega) _ (HA4.out.two.rst.below s2)).mono ?_; rintro e w6 ⟨v6, rfl, O6, B6⟩; clear s2 tk) | (obtain ⟨_, _, s2⟩ := (show _ ∧ _ ∧ Below w4.heap.size w4 _ by assumption); with_reducible refine (dag_any _ _ _ _ _ (na : Int) hGL _ (HA4.out.two.st.below s2)).mono ?_; rintro e w5 ⟨v5, rfl, O5, B5⟩; clear s2)))
        go_wp2_with fail
        refine hK.out _ _ ?_ (fun hHeldN => ?_)
        · ((try dsimp only) <;> (first | exact ⟨m0, ca, (Below.refl _ _).drew⟩ | exact HSK.out _ _ (by assumption) (by assumption) | exact HSK.out _ _ (by assumption) (below_drewN (Below.refl _ _) _)))
        clear hHeld
        have hHeld := hHeldN
        clear hHeldN
        clear hK K
        try simp only [Act.put, List.setIfInBounds_toArray, List.set_cons_zero, List.set_cons_succ]
        refine Go.Proofs.Phase.wpPh_take' (i := 13) (by simp only [List.getElem?_toArray, List.getElem?_cons_succ, List.getElem?_cons_zero]; rfl) ?_
        refine ⟨?_, ⟨by kernel_rfl, by kernel_rfl, by kernel_rfl, by kernel_rfl⟩, fun _ _ _ h => h, Or.inl ⟨by rfl, ?_⟩, by assumption, ?_⟩
        rotate_left
        · (intro w hSw; (try dsimp only at hSw); go_simp; with_reducible rfl)
        try simp only [Act.put, List.setIfInBounds_toArray, List.set_cons_zero, List.set_cons_succ]
        refine Go.Proofs.Phase.wpPh_take' (i := 14) (by simp only [List.getElem?_toArray, List.getElem?_cons_succ, List.getElem?_cons_zero]; rfl) ?_
        refine ⟨?_, ⟨by kernel_rfl, by kernel_rfl, by kernel_rfl, by kernel_rfl⟩, fun _ _ _ h => h, Or.inl ⟨by rfl, ?_⟩, by assumption, ?_⟩
        rotate_left
        · (intro w hSw; (try dsimp only at hSw); go_simp; with_reducible rfl)
        try simp only [Act.put, List.setIfInBounds_toArray, List.set_cons_zero, List.set_cons_succ]
        refine Go.Proofs.Phase.wpPh_take' (i := 15) (by simp only [List.getElem?_toArray, List.getElem?_cons_succ, List.getElem?_cons_zero]; rfl) ?_
        refine ⟨?_, ⟨by kernel_rfl, by kernel_rfl, by kernel_rfl, by kernel_rfl⟩, fun _ _ _ h => h, Or.inl ⟨by rfl, ?_⟩, by assumption, ?_⟩
        rotate_left
        · (intro w hSw; (try dsimp only at hSw); go_simp; with_reducible rfl)
        try simp only [Act.put, List.setIfInBounds_toArray, List.set_cons_zero, List.set_cons_succ]
        refine Go.Proofs.Phase.wpPh_take' (i := 17) (by simp only [List.getElem?_toArray, List.getElem?_cons_succ, List.getElem?_cons_zero]; rfl) ?_
        refine ⟨?_, ⟨by kernel_rfl, by kernel_rfl, by kernel_rfl, by kernel_rfl⟩, fun _ _ _ h => h, Or.inl ⟨by rfl, ?_⟩, by assumption, ?_⟩
        rotate_left
        · (intro w hSw; (try dsimp only at hSw); go_simp; with_reducible rfl)
        try simp only [Act.put, List.setIfInBounds_toArray, List.set_cons_zero, List.set_cons_succ]
        refine Go.Proofs.Phase.wpPh_take' (i := 18) (by simp only [List.getElem?_toArray, List.getElem?_cons_succ, List.getElem?_cons_zero]; rfl) ?_
        refine ⟨?_, ⟨by kernel_rfl, by kernel_rfl, by kernel_rfl, by kernel_rfl⟩, fun _ _ _ h => h, Or.inl ⟨by rfl, ?_⟩, by assumption, ?_⟩
        rotate_left
        · (intro w hSw; (try dsimp only at hSw); go_simp; with_reducible rfl)
        try simp only [Act.put, List.setIfInBounds_toArray, List.set_cons_zero, List.set_cons_succ]
        refine Go.Proofs.Phase.wpPh_take' (i := 21) (by simp only [List.getElem?_toArray, List.getElem?_cons_succ, List.getElem?_cons_zero]; rfl) ?_
        refine ⟨?_, ⟨by kernel_rfl, by kernel_rfl, by kernel_rfl, by kernel_rfl⟩, fun _ _ _ h => h, Or.inl ⟨by rfl, ?_⟩, by assumption, ?_⟩
        rotate_left
        · (intro w hSw; (try dsimp only at hSw); go_simp; with_reducible rfl)
        try simp only [Act.put, List.setIfInBounds_toArray, List.set_cons_zero, List.set_cons_succ]
        refine Go.Proofs.Phase.wpPh_take' (i := 22) (by simp only [List.getElem?_toArray, List.getElem?_cons_succ, List.getElem?_cons_zero]; rfl) ?_
        refine ⟨?_, ⟨by kernel_rfl, by kernel_rfl, by kernel_rfl, by kernel_rfl⟩, fun _ _ _ h => h, Or.inl ⟨by rfl, ?_⟩, by assumption, ?_⟩
        rotate_left
        · (intro w hSw; (try dsimp only at hSw); go_simp; with_reducible rfl)
        try simp only [Act.put, List.setIfInBounds_toArray, List.set_cons_zero, List.set_cons_succ]
        refine Go.Proofs.Phase.wpPh_take' (i := 23) (by simp only [List.getElem?_toArray, List.getElem?_cons_succ, List.getElem?_cons_zero]; rfl) ?_
        refine ⟨?_, ⟨by kernel_rfl, by kernel_rfl, by kernel_rfl, by kernel_rfl⟩, fun _ _ _ h => h, Or.inl ⟨by rfl, ?_⟩, by assumption, ?_⟩
        rotate_left
        · (intro w hSw; (try dsimp only at hSw); go_simp; with_reducible rfl)
        try simp only [Act.put, List.setIfInBounds_toArray, List.set_cons_zero, List.set_cons_succ]
        refine Go.Proofs.Phase.wpPh_before (i := 16) (by kernel_rfl) (by simp only [List.getElem?_toArray, List.getElem?_cons_succ, List.getElem?_cons_zero]; rfl) (fun K hK => ?_)
        go_simp
        ((first | (have tk := O9; with_reducible refine (lives _).mono ?_; rintro e w11 ⟨rfl, B11⟩) | (have S2 := same_dec (RT.below (RT.of_own O8 rfl) B9) (RT.of_own O9 rfl) (by have := HV.out.2.2.2; have := HFL.out.1.1; omega); rw [show decide (dagX L (na : Int) = dagX L (na : Int)) = true from decide_eq_true rfl] at S2; with_reducible refine S2.mono ?_; rintro e w10 ⟨rfl, j10, rfl⟩; clear S2) | (obtain ⟨_, _, s2⟩ := (show _ ∧ _ ∧ Below w4.heap.size w4 _ by assumption); have tk := O8; with_reducible refine (dag_any _ _ _ _ _ (na : Int) hGL _ (HA4.out.two.st.below s2)).mono ?_; rintro e w9 ⟨v9, rfl, O9, B9⟩; clear s2 tk) | (obtain ⟨_, _, s2⟩ := (show _ ∧ _ ∧ Below w4.heap.size w4 _ by assumption); have tk := tk7; with_reducible refine (dag_any _ _ _ _ _ (na : Int) hGL _ (HA4.out.two.st.below s2)).mono ?_; rintro e w8 ⟨v8, rfl, O8, B8⟩; clear s2 tk) | (have S1 := same_dec (RT.below (RT.of_own O5 rfl) B6) (RT.of_own O6 rfl) (by have := HV.out.2.2.2; have := HFL.out.1.1; omega); rw [decide_eq_true HE1.out] at S1; with_reducible refine S1.mono ?_; rintro e w7 ⟨rfl, j7, rfl⟩; clear S1; have tk7 : True := trivial) | (obtain ⟨_, _, s2⟩ := (show _ ∧ _ ∧ Below w4.heap.size w4 _ by assumption); have tk := O5; with_reducible refine (rdag hGM mp (by have := HV.out.1; omega) (by have := HV.out.1; omega) _ (HA4.out.two.rst.below s2)).mono ?_; rintro e w6 ⟨v6, rfl, O6, B6⟩; clear s2 tk) | (obtain ⟨_, _, s2⟩ := (show _ ∧ _ ∧ Below w4.heap.size w4 _ by assumption); with_reducible refine (dag_any _ _ _ _ _ (na : Int) hGL _ (HA4.out.two.st.below s2)).mono ?_; rintro e w5 ⟨v5, rfl, O5, B5⟩; clear s2)))
        go_wp2_with fail
        refine hK.out _ _ ?_ (fun hHeldN => ?_)
        · ((try dsimp only) <;> (first | exact ⟨m0, ca, (Below.refl _ _).drew⟩ | exact HSK.out _ _ (by assumption) (by assumption) | exact HSK.out _ _ (by assumption) (below_drewN (Below.refl _ _) _)))
        clear hHeld
        have hHeld := hHeldN
        clear hHeldN
        clear hK K
        try simp only [Act.put, List.setIfInBounds_toArray, List.set_cons_zero, List.set_cons_succ]
        refine Go.Proofs.Phase.wpPh_before (i := 19) (by kernel_rfl) (by simp only [List.getElem?_toArray, List.getElem?_cons_succ, List.getElem?_cons_zero]; rfl) (fun K hK => ?_)
        go_simp
        ((first | (have tk := O9; with_reducible refine (lives _).mono ?_; rintro e w11 ⟨rfl, B11⟩) | (have S2 := same_dec (RT.below (RT.of_own O8 rfl) B9) (RT.of_own O9 rfl) (by have := HV.out.2.2.2; have := HFL.out.1.1; omega); rw [show decide (dagX L (na : Int) = dagX L (na : Int)) = true from decide_eq_true rfl] at S2; with_reducible refine S2.mono ?_; rintro e w10 ⟨rfl, j10, rfl⟩; clear S2) | (obtain ⟨_, _, s2⟩ := (show _ ∧ _ ∧ Below w4.heap.size w4 _ by assumption); have tk := O8; with_reducible refine (dag_any _ _ _ _ _ (na : Int) hGL _ (HA4.out.two.st.below s2)).mono ?_; rintro e w9 ⟨v9, rfl, O9, B9⟩; clear s2 tk) | (obtain ⟨_, _, s2⟩ := (show _ ∧ _ ∧ Below w4.heap.size w4 _ by assumption); have tk := tk7; with_reducible refine (dag_any _ _ _ _ _ (na : Int) hGL _ (HA4.out.two.st.below s2)).mono ?_; rintro e w8 ⟨v8, rfl, O8, B8⟩; clear s2 tk) | (have S1 := same_dec (RT.below (RT.of_own O5 rfl) B6) (RT.of_own O6 rfl) (by have := HV.out.2.2.2; have := HFL.out.1.1; omega); rw [decide_eq_true HE1.out] at S1; with_reducible refine S1.mono ?_; rintro e w7 ⟨rfl, j7, rfl⟩; clear S1; have tk7 : True := trivial) | (obtain ⟨_, _, s2⟩ := (show _ ∧ _ ∧ Below w4.heap.size w4 _ by assumption); have tk := O5; with_reducible refine (rdag hGM mp (by have := HV.out.1; omega) (by have := HV.out.1; omega) _ (HA4.out.two.rst.below s2)).mono ?_; rintro e w6 ⟨v6, rfl, O6, B6⟩; clear s2 tk) | (obtain ⟨_, _, s2⟩ := (show _ ∧ _ ∧ Below w4.heap.size w4 _ by assumption); with_reducible refine (dag_any _ _ _ _ _ (na : Int) hGL _ (HA4.out.two.st.below s2)).mono ?_; rintro e w5 ⟨v5, rfl, O5, B5⟩; clear s2)))
        go_wp2_with fail
        refine hK.out _ _ ?_ (fun hHeldN => ?_)
        · ((try dsimp only) <;> (first | exact ⟨m0, ca, (Below.refl _ _).drew⟩ | exact HSK.out _ _ (by assumption) (by assumption) | exact HSK.out _ _ (by assumption) (below_drewN (Below.refl _ _) _)))
        clear hHeld
        have hHeld := hHeldN
        clear hHeldN
        clear hK K
        try simp only [Act.put, List.setIfInBounds_toArray, List.set_cons_zero, List.set_cons_succ]
        refine Go.Proofs.Phase.wpPh_before (i := 20) (by kernel_rfl) (by simp only [List.getElem?_toArray, List.getElem?_cons_succ, List.getElem?_cons_zero]; rfl) (fun K hK => ?_)
        go_simp
        ((first | (have tk := O9; with_reducible refine (lives _).mono ?_; rintro e w11 ⟨rfl, B11⟩) | (have S2 := same_dec (RT.below (RT.of_own O8 rfl) B9) (RT.of_own O9 rfl) (by have := HV.out.2.2.2; have := HFL.out.1.1; omega); rw [show decide (dagX L (na : Int) = dagX L (na : Int)) = true from decide_eq_true rfl] at S2; with_reducible refine S2.mono ?_; rintro e w10 ⟨rfl, j10, rfl⟩; clear S2) | (obtain ⟨_, _, s2⟩ := (show _ ∧ _ ∧ Below w4.heap.size w4 _ by assumption); have tk := O8; with_reducible refine (dag_any _ _ _ _ _ (na : Int) hGL _ (HA4.out.two.st.below s2)).mono ?_; rintro e w9 ⟨v9, rfl, O9, B9⟩; clear s2 tk) | (obtain ⟨_, _, s2⟩ := (show _ ∧ _ ∧ Below w4.heap.size w4 _ by assumption); have tk := tk7; with_reducible refine (dag_any _ _ _ _ _ (na : Int) hGL _ (HA4.out.two.st.below s2)).mono ?_; rintro e w8 ⟨v8, rfl, O8, B8⟩; clear s2 tk) | (have S1 := same_dec (RT.below (RT.of_own O5 rfl) B6) (RT.of_own O6 rfl) (by have := HV.out.2.2.2; have := HFL.out.1.1; omega); rw [decide_eq_true HE1.out] at S1; with_reducible refine S1.mono ?_; rintro e w7 ⟨rfl, j7, rfl⟩; clear S1; have tk7 : True := trivial) | (obtain ⟨_, _, s2⟩ := (show _ ∧ _ ∧ Below w4.heap.size w4 _ by assumption); have tk := O5; with_reducible refine (rdag hGM mp (by have := HV.out.1; omega) (by have := HV.out.1; omega) _ (HA4.out.two.rst.below s2)).mono ?_; rintro e w6 ⟨v6, rfl, O6, B6⟩; clear s2 tk) | (obtain ⟨_, _, s2⟩ := (show _ ∧ _ ∧ Below w4.heap.size w4 _ by assumption); with_reducible refine (dag_any _ _ _ _ _ (na : Int) hGL _ (HA4.out.two.st.below s2)).mono ?_; rintro e w5 ⟨v5, rfl, O5, B5⟩; clear s2)))
        go_wp2_with fail
        refine hK.out _ _ ?_ (fun hHeldN => ?_)
        · ((try dsimp only) <;> (first | exact ⟨m0, ca, (Below.refl _ _).drew⟩ | exact HSK.out _ _ (by assumption) (by assumption) | exact HSK.out _ _ (by assumption) (below_drewN (Below.refl _ _) _)))
        clear hHeld
        have hHeld := hHeldN
        clear hHeldN
        clear hK K
        try simp only [Act.put, List.setIfInBounds_toArray, List.set_cons_zero, List.set_cons_succ]
        refine Go.Proofs.Phase.wpPh_take' (i := 24) (by simp only [List.getElem?_toArray, List.getElem?_cons_succ, List.getElem?_cons_zero]; rfl) ?_
        refine ⟨?_, ⟨by kernel_rfl, by kernel_rfl, by kernel_rfl, by kernel_rfl⟩, fun _ _ _ h => h, Or.inl ⟨by rfl, ?_⟩, by assumption, ?_⟩
        rotate_left
        · (intro w hSw; (try dsimp only at hSw); go_simp; with_reducible rfl)
        try simp only [Act.put, List.setIfInBounds_toArray, List.set_cons_zero, List.set_cons_succ]
        refine Go.Proofs.Phase.wpPh_take' (i := 25) (by simp only [List.getElem?_toArray, List.getElem?_cons_succ, List.getElem?_cons_zero]; rfl) ?_
        refine ⟨?_, ⟨by kernel_rfl, by kernel_rfl, by kernel_rfl, by kernel_rfl⟩, fun _ _ _ h => h, Or.inl ⟨by rfl, ?_⟩, by assumption, ?_⟩
        rotate_left
        · (intro w hSw; (try dsimp only at hSw); go_simp; with_reducible rfl)
        try simp only [Act.put, List.setIfInBounds_toArray, List.set_cons_zero, List.set_cons_succ]
        refine Go.Proofs.Phase.wpPh_take' (i := 26) (by simp only [List.getElem?_toArray, List.getElem?_cons_succ, List.getElem?_cons_zero]; rfl) ?_
        refine ⟨?_, ⟨by kernel_rfl, by kernel_rfl, by kernel_rfl, by kernel_rfl⟩, fun _ _ _ h => h, Or.inl ⟨by rfl, ?_⟩, by assumption, ?_⟩
        rotate_left
        · (intro w hSw; (try dsimp only at hSw); go_simp; with_reducible rfl)
        try simp only [Act.put, List.setIfInBounds_toArray, List.set_cons_zero, List.set_cons_succ]
        refine Go.Proofs.Phase.wpPh_before (i := 27) (by kernel_rfl) (by simp only [List.getElem?_toArray, List.getElem?_cons_succ, List.getElem?_cons_zero]; rfl) (fun K hK => ?_)
        go_simp
        ((first | (have tk := O9; with_reducible refine (lives _).mono ?_; rintro e w11 ⟨rfl, B11⟩) | (have S2 := same_dec (RT.below (RT.of_own O8 rfl) B9) (RT.of_own O9 rfl) (by have := HV.out.2.2.2; have := HFL.out.1.1; omega); rw [show decide (dagX L (na : Int) = dagX L (na : Int)) = true from decide_eq_true rfl] at S2; with_reducible refine S2.mono ?_; rintro e w10 ⟨rfl, j10, rfl⟩; clear S2) | (obtain ⟨_, _, s2⟩ := (show _ ∧ _ ∧ Below w4.heap.size w4 _ by assumption); have tk := O8; with_reducible refine (dag_any _ _ _ _ _ (na : Int) hGL _ (HA4.out.two.st.below s2)).mono ?_; rintro e w9 ⟨v9, rfl, O9, B9⟩; clear s2 tk) | (obtain ⟨_, _, s2⟩ := (show _ ∧ _ ∧ Below w4.heap.size w4 _ by assumption); have tk := tk7; with_reducible refine (dag_any _ _ _ _ _ (na : Int) hGL _ (HA4.out.two.st.below s2)).mono ?_; rintro e w8 ⟨v8, rfl, O8, B8⟩; clear s2 tk) | (have S1 := same_dec (RT.below (RT.of_own O5 rfl) B6) (RT.of_own O6 rfl) (by have := HV.out.2.2.2; have := HFL.out.1.1; omega); rw [decide_eq_true HE1.out] at S1; with_reducible refine S1.mono ?_; rintro e w7 ⟨rfl, j7, rfl⟩; clear S1; have tk7 : True := trivial) | (obtain ⟨_, _, s2⟩ := (show _ ∧ _ ∧ Below w4.heap.size w4 _ by assumption); have tk := O5; with_reducible refine (rdag hGM mp (by have := HV.out.1; omega) (by have := HV.out.1; omega) _ (HA4.out.two.rst.below s2)).mono ?_; rintro e w6 ⟨v6, rfl, O6, B6⟩; clear s2 tk) | (obtain ⟨_, _, s2⟩ := (show _ ∧ _ ∧ Below w4.heap.size w4 _ by assumption); with_reducible refine (dag_any _ _ _ _ _ (na : Int) hGL _ (HA4.out.two.st.below s2)).mono ?_; rintro e w5 ⟨v5, rfl, O5, B5⟩; clear s2)))
        go_wp2_with fail
        refine hK.out _ _ ?_ (fun hHeldN => ?_)
        · ((try dsimp only) <;> (first | exact ⟨m0, ca, (Below.refl _ _).drew⟩ | exact HSK.out _ _ (by assumption) (by assumption) | exact HSK.out _ _ (by assumption) (below_drewN (Below.refl _ _) _)))
        clear hHeld
        have hHeld := hHeldN
        clear hHeldN
        clear hK K
        try simp only [Act.put, List.setIfInBounds_toArray, List.set_cons_zero, List.set_cons_succ]
        refine Go.Proofs.Phase.wpPh_take' (i := 28) (by simp only [List.getElem?_toArray, List.getElem?_cons_succ, List.getElem?_cons_zero]; rfl) ?_
        refine ⟨?_, ⟨by kernel_rfl, by kernel_rfl, by kernel_rfl, by kernel_rfl⟩, fun _ _ _ h => h, Or.inl ⟨by rfl, ?_⟩, by assumption, ?_⟩
        rotate_left
        · (intro w hSw; (try dsimp only at hSw); go_simp; with_reducible rfl)
        try simp only [Act.put, List.setIfInBounds_toArray, List.set_cons_zero, List.set_cons_succ]
        refine Go.Proofs.Phase.wpPh_behind (i := 29) (by kernel_rfl) (by simp only [List.getElem?_toArray, List.getElem?_cons_succ, List.getElem?_cons_zero]; rfl) (by kernel_rfl) (fun K hK => ?_)
        go_simp
        refine hK.out _ _ ?_
        clear hK K
        try simp only [Act.put, List.setIfInBounds_toArray, List.set_cons_zero, List.set_cons_succ]
        refine Go.Proofs.Phase.wpPh_done (by kernel_rfl) ?_ _
        go_wp2_with fail
        go_ret
        have z5 := HB4.out.drew.trans (B5.mono hlo)
        have z6 := z5.trans (B6.mono z5.size)
        have z7 := below_drewN z6 j7
        have z8 := z7.trans (B8.mono z7.size)
        have z9 := z8.trans (B9.mono z8.size)
        have z10 := below_drewN z9 j10
        exact ⟨rfl, z10.trans (B11.mono z10.size)⟩
      · have HE3 : Hid (¬ dagX L (na : Int) = dagX L (nb : Int)) := Lib.hid (fun e => by have h := HE2.out; rw [decide_eq_true e, decide_eq_false hab] at h; cases h)
        have t5 : ((na : Int) == (nb : Int)) = false := by rw [beq_eq_false_iff_ne]; omega
        have t6 : (na == nb) = false := by rw [beq_eq_false_iff_ne]; omega
        clear HE2 hab
        refine Go.Proofs.Phase.wp_region_ph (S := (fun w' => w'.cell? ⟨gm, 0, none⟩ = some (.slice (some ⟨bm, 0, none⟩) (L.length + 1) cm) ∧ w'.cell? ⟨bm, na, none⟩ = some (.int .i64 mp) ∧ Below w4.heap.size w4 w')) 29 (by kernel_rfl) ?_ (fun hHeld => ?_)
        · ((try dsimp only) <;> (first | exact ⟨m0, ca, (Below.refl _ _).drew⟩ | exact HSK.out _ _ (by assumption) (by assumption) | exact HSK.out _ _ (by assumption) (below_drewN (Below.refl _ _) _)))
        refine Go.Proofs.Phase.wpPh_take' (i := 0) (by simp only [List.getElem?_toArray, List.getElem?_cons_succ, List.getElem?_cons_zero]; rfl) ?_
        refine ⟨?_, ⟨by kernel_rfl, by kernel_rfl, by kernel_rfl, by kernel_rfl⟩, fun _ _ _ h => h, Or.inl ⟨by rfl, ?_⟩, by assumption, ?_⟩
        rotate_left
        · (intro w hSw; (try dsimp only at hSw); go_simp; with_reducible rfl)
        try simp only [Act.put, List.setIfInBounds_toArray, List.set_cons_zero, List.set_cons_succ]
        refine Go.Proofs.Phase.wpPh_take' (i := 1) (by simp only [List.getElem?_toArray, List.getElem?_cons_succ, List.getElem?_cons_zero]; rfl) ?_
        refine ⟨?_, ⟨by kernel_rfl, by kernel_rfl, by kernel_rfl, by kernel_rfl⟩, fun _ _ _ h => h, Or.inl ⟨by rfl, ?_⟩, by assumption, ?_⟩
        rotate_left
        · (intro w hSw; (try dsimp only at hSw); go_simp; with_reducible rfl)
        try simp only [Act.put, List.setIfInBounds_toArray, List.set_cons_zero, List.set_cons_succ]
        refine Go.Proofs.Phase.wpPh_take' (i := 3) (by simp only [List.getElem?_toArray, List.getElem?_cons_succ, List.getElem?_cons_zero]; rfl) ?_
        refine ⟨?_, ⟨by kernel_rfl, by kernel_rfl, by kernel_rfl, by kernel_rfl⟩, fun _ _ _ h => h, Or.inl ⟨by rfl, ?_⟩, by assumption, ?_⟩
        rotate_left
        · (intro w hSw; (try dsimp only at hSw); go_simp; with_reducible rfl)
        try simp only [Act.put, List.setIfInBounds_toArray, List.set_cons_zero, List.set_cons_succ]
        refine Go.Proofs.Phase.wpPh_take' (i := 4) (by simp only [List.getElem?_toArray, List.getElem?_cons_succ, List.getElem?_cons_zero]; rfl) ?_
        refine ⟨?_, ⟨by kernel_rfl, by kernel_rfl, by kernel_rfl, by kernel_rfl⟩, fun _ _ _ h => h, Or.inl ⟨by rfl, ?_⟩, by assumption, ?_⟩
        rotate_left
        · (intro w hSw; (try dsimp only at hSw); go_simp; with_reducible rfl)
        try simp only [Act.put, List.setIfInBounds_toArray, List.set_cons_zero, List.set_cons_succ]
        refine Go.Proofs.Phase.wpPh_take' (i := 5) (by simp only [List.getElem?_toArray, List.getElem?_cons_succ, List.getElem?_cons_zero]; rfl) ?_
        refine ⟨?_, ⟨by kernel_rfl, by kernel_rfl, by kernel_rfl, by kernel_rfl⟩, fun _ _ _ h => h, Or.inl ⟨by rfl, ?_⟩, by assumption, ?_⟩
        rotate_left
        · (intro w hSw; (try dsimp only at hSw); go_simp; with_reducible rfl)
        try simp only [Act.put, List.setIfInBounds_toArray, List.set_cons_zero, List.set_cons_succ]
        refine Go.Proofs.Phase.wpPh_take' (i := 6) (by simp only [List.getElem?_toArray, List.getElem?_cons_succ, List.getElem?_cons_zero]; rfl) ?_
        refine ⟨?_, ⟨by kernel_rfl, by kernel_rfl, by kernel_rfl, by kernel_rfl⟩, fun _ _ _ h => h, Or.inl ⟨by rfl, ?_⟩, by assumption, ?_⟩
        rotate_left
        · (intro w hSw; (try dsimp only at hSw); go_simp; with_reducible rfl)
        try simp only [Act.put, List.setIfInBounds_toArray, List.set_cons_zero, List.set_cons_succ]
        refine Go.Proofs.Phase.wpPh_take' (i := 7) (by simp only [List.getElem?_toArray, List.getElem?_cons_succ, List.getElem?_cons_zero]; rfl) ?_
        refine ⟨?_, ⟨by kernel_rfl, by kernel_rfl, by kernel_rfl, by kernel_rfl⟩, fun _ _ _ h => h, Or.inl ⟨by rfl, ?_⟩, by assumption, ?_⟩
        rotate_left
        · (intro w hSw; (try dsimp only at hSw); go_simp; with_reducible rfl)
        try simp only [Act.put, List.setIfInBounds_toArray, List.set_cons_zero, List.set_cons_succ]
        refine Go.Proofs.Phase.wpPh_take' (i := 8) (by simp only [List.getElem?_toArray, List.getElem?_cons_succ, List.getElem?_cons_zero]; rfl) ?_
        refine ⟨?_, ⟨by kernel_rfl, by kernel_rfl, by kernel_rfl, by kernel_rfl⟩, fun _ _ _ h => h, Or.inl ⟨by rfl, ?_⟩, by assumption, ?_⟩
        rotate_left
        · (intro w hSw; (try dsimp only at hSw); go_simp; with_reducible rfl)
        try simp only [Act.put, List.setIfInBounds_toArray, List.set_cons_zero, List.set_cons_succ]
        refine Go.Proofs.Phase.wpPh_take' (i := 9) (by simp only [List.getElem?_toArray, List.getElem?_cons_succ, List.getElem?_cons_zero]; rfl) ?_
        refine ⟨?_, ⟨by kernel_rfl, by kernel_rfl, by kernel_rfl, by kernel_rfl⟩, fun _ _ _ h => h, Or.inl ⟨by rfl, ?_⟩, by assumption, ?_⟩
        rotate_left
        · (intro w hSw; (try dsimp only at hSw); go_simp; with_reducible rfl)
        try simp only [Act.put, List.setIfInBounds_toArray, List.set_cons_zero, List.set_cons_succ]
        refine Go.Proofs.Phase.wpPh_take' (i := 10) (by simp only [List.getElem?_toArray, List.getElem?_cons_succ, List.getElem?_cons_zero]; rfl) ?_
        refine ⟨?_, ⟨by kernel_rfl, by kernel_rfl, by kernel_rfl, by kernel_rfl⟩, fun _ _ _ h => h, Or.inl ⟨by rfl, ?_⟩, by assumption, ?_⟩
        rotate_left
        · (intro w hSw; (try dsimp only at hSw); go_simp; with_reducible rfl)
        try simp only [Act.put, List.setIfInBounds_toArray, List.set_cons_zero, List.set_cons_succ]
        refine Go.Proofs.Phase.wpPh_before (i := 2) (by kernel_rfl) (by simp only [List.getElem?_toArray, List.getElem?_cons_succ, List.getElem?_cons_zero]; rfl) (fun K hK => ?_)
        go_simp
        ((first | (have tk := O9; with_reducible refine (lives _).mono ?_; rintro e w11 ⟨rfl, B11⟩) | (have S2 := same_dec (RT.below (RT.of_own O8 rfl) B9) (RT.of_own O9 rfl) (by have := HV.out.2.2.2; have := HFL.out.1.1; omega); rw [decide_eq_false HE3.out] at S2; with_reducible refine S2.mono ?_; rintro e w10 ⟨rfl, j10, rfl⟩; clear S2) | (obtain ⟨_, _, s2⟩ := (show _ ∧ _ ∧ Below w4.heap.size w4 _ by assumption); have tk := O8; with_reducible refine (dag_any _ _ _ _ _ (nb : Int) hGL _ (HA4.out.two.st.below s2)).mono ?_; rintro e w9 ⟨v9, rfl, O9, B9⟩; clear s2 tk) | (obtain ⟨_, _, s2⟩ := (show _ ∧ _ ∧ Below w4.heap.size w4 _ by assumption); have tk := tk7; with_reducible refine (dag_any _ _ _ _ _ (na : Int) hGL _ (HA4.out.two.st.below s2)).mono ?_; rintro e w8 ⟨v8, rfl, O8, B8⟩; clear s2 tk) | (have S1 := same_dec (RT.below (RT.of_own O5 rfl) B6) (RT.of_own O6 rfl) (by have := HV.out.2.2.2; have := HFL.out.1.1; omega); rw [decide_eq_true HE1.out] at S1; with_reducible refine S1.mono ?_; rintro e w7 ⟨rfl, j7, rfl⟩; clear S1; have tk7 : True := trivial) | (obtain ⟨_, _, s2⟩ := (show _ ∧ _ ∧ Below w4.heap.size w4 _ by assumption); have tk := O5; with_reducible refine (rdag hGM mp (by have := HV.out.1; omega) (by have := HV.out.1; omega) _ (HA4.out.two.rst.below s2)).mono ?_; rintro e w6 ⟨v6, rfl, O6, B6⟩; clear s2 tk) | (obtain ⟨_, _, s2⟩ := (show _ ∧ _ ∧ Below w4.heap.size w4 _ by assumption); with_reducible refine (dag_any _ _ _ _ _ (na : Int) hGL _ (HA4.out.two.st.below s2)).mono ?_; rintro e w5 ⟨v5, rfl, O5, B5⟩; clear s2)))
        go_wp2_with fail
        refine hK.out _ _ ?_ (fun hHeldN => ?_)
        · ((try dsimp only) <;> (first | exact ⟨m0, ca, (Below.refl _ _).drew⟩ | exact HSK.out _ _ (by assumption) (by assumption) | exact HSK.out _ _ (by assumption) (below_drewN (Below.refl _ _) _)))
        clear hHeld
        have hHeld := hHeldN
        clear hHeldN
        clear hK K
        try simp only [Act.put, List.setIfInBounds_toArray, List.set_cons_zero, List.set_cons_succ]
        refine Go.Proofs.Phase.wpPh_before (i := 11) (by kernel_rfl) (by simp only [List.getElem?_toArray, List.getElem?_cons_succ, List.getElem?_cons_zero]; rfl) (fun K hK => ?_)
        go_simp
        ((first | (have tk := O9; with_reducible refine (lives _).mono ?_; rintro e w11 ⟨rfl, B11⟩) | (have S2 := same_dec (RT.below (RT.of_own O8 rfl) B9) (RT.of_own O9 rfl) (by have := HV.out.2.2.2; have := HFL.out.1.1; omega); rw [decide_eq_false HE3.out] at S2; with_reducible refine S2.mono ?_; rintro e w10 ⟨rfl, j10, rfl⟩; clear S2) | (obtain ⟨_, _, s2⟩ := (show _ ∧ _ ∧ Below w4.heap.size w4 _ by assumption); have tk := O8; with_reducible refine (dag_any _ _ _ _ _ (nb : Int) hGL _ (HA4.out.two.st.below s2)).mono ?_; rintro e w9 ⟨v9, rfl, O9, B9⟩; clear s2 tk) | (obtain ⟨_, _, s2⟩ := (show _ ∧ _ ∧ Below w4.heap.size w4 _ by assumption); have tk := tk7; with_reducible refine (dag_any _ _ _ _ _ (na : Int) hGL _ (HA4.out.two.st.below s2)).mono ?_; rintro e w8 ⟨v8, rfl, O8, B8⟩; clear s2 tk) | (have S1 := same_dec (RT.below (RT.of_own O5 rfl) B6) (RT.of_own O6 rfl) (by have := HV.out.2.2.2; have := HFL.out.1.1; omega); rw [decide_eq_true HE1.out] at S1; with_reducible refine S1.mono ?_; rintro e w7 ⟨rfl, j7, rfl⟩; clear S1; have tk7 : True := trivial) | (obtain ⟨_, _, s2⟩ := (show _ ∧ _ ∧ Below w4.heap.size w4 _ by assumption); have tk := O5; with_reducible refine (rdag hGM mp (by have := HV.out.1; omega) (by have := HV.out.1; omega) _ (HA4.out.two.rst.below s2)).mono ?_; rintro e w6 ⟨v6, rfl, O6, B6⟩; clear s2 tk) | (obtain ⟨_, _, s2⟩ := (show _ ∧ _ ∧ Below w4.heap.size w4 _ by assumption); with_reducible refine (dag_any _ _ _ _ _ (na : Int) hGL _ (HA4.out.two.st.below s2)).mono ?_; rintro e w5 ⟨v5, rfl, O5, B5⟩; clear s2)))
        go_wp2_with fail
        refine hK.out _ _ ?_ (fun hHeldN => ?_)
        · ((try dsimp only) <;> (first | exact ⟨m0, ca, (Below.refl _ _).drew⟩ | exact HSK.out _ _ (by assumption) (by assumption) | exact HSK.out _ _ (by assumption) (below_drewN (Below.refl _ _) _)))
        clear hHeld
        have hHeld := hHeldN
        clear hHeldN
        clear hK K
        try simp only [Act.put, List.setIfInBounds_toArray, List.set_cons_zero, List.set_cons_succ]
        refine Go.Proofs.Phase.wpPh_before (i := 12) (by kernel_rfl) (by simp only [List.getElem?_toArray, List.getElem?_cons_succ, List.getElem?_cons_zero]; rfl) (fun K hK => ?_)
        go_simp
        ((first | (have tk := O9; with_reducible refine (lives _).mono ?_; rintro e w11 ⟨rfl, B11⟩) | (have S2 := same_dec (RT.below (RT.of_own O8 rfl) B9) (RT.of_own O9 rfl) (by have := HV.out.2.2.2; have := HFL.out.1.1; omega); rw [decide_eq_false HE3.out] at S2; with_reducible refine S2.mono ?_; rintro e w10 ⟨rfl, j10, rfl⟩; clear S2) | (obtain ⟨_, _, s2⟩ := (show _ ∧ _ ∧ Below w4.heap.size w4 _ by assumption); have tk := O8; with_reducible refine (dag_any _ _ _ _ _ (nb : Int) hGL _ (HA4.out.two.st.below s2)).mono ?_; rintro e w9 ⟨v9, rfl, O9, B9⟩; clear s2 tk) | (obtain ⟨_, _, s2⟩ := (show _ ∧ _ ∧ Below w4.heap.size w4 _ by assumption); have tk := tk7; with_reducible refine (dag_any _ _ _ _ _ (na : Int) hGL _ (HA4.out.two.st.below s2)).mono ?_; rintro e w8 ⟨v8, rfl, O8, B8⟩; clear s2 tk) | (have S1 := same_dec (RT.below (RT.of_own O5 rfl) B6) (RT.of_own O6 rfl) (by have := HV.out.2.2.2; have := HFL.out.1.1; omega); rw [decide_eq_true HE1.out] at S1; with_reducible refine S1.mono ?_; rintro e w7 ⟨rfl, j7, rfl⟩; clear S1; have tk7 : True := trivial) | (obtain ⟨_, _, s2⟩ := (show _ ∧ _ ∧ Below w4.heap.size w4 _ by assumption); have tk := O5; with_reducible refine (rdag hGM mp (by have := HV.out.1; omega) (by have := HV.out.1; omega) _ (HA4.out.two.rst.below s2)).mono ?_; rintro e w6 ⟨v6, rfl, O6, B6⟩; clear s2 tk) | (obtain ⟨_, _, s2⟩ := (show _ ∧ _ ∧ Below w4.heap.size w4 _ by assumption); with_reducible refine (dag_any _ _ _ _ _ (na : Int) hGL _ (HA4.out.two.st.below s2)).mono ?_; rintro e w5 ⟨v5, rfl, O5, B5⟩; clear s2)))
        go_wp2_with fail
        refine hK.out _ _ ?_ (fun hHeldN => ?_)
        · ((try dsimp only) <;> (first | exact ⟨m0, ca, (Below.refl _ _).drew⟩ | exact HSK.out _ _ (by assumption) (by assumption) | exact HSK.out _ _ (by assumption) (below_drewN (Below.refl _ _) _)))
        clear hHeld
        have hHeld := hHeldN
        clear hHeldN
        clear hK K
        try simp only [Act.put, List.setIfInBounds_toArray, List.set_cons_zero, List.set_cons_succ]
        refine Go.Proofs.Phase.wpPh_take' (i := 13) (by simp only [List.getElem?_toArray, List.getElem?_cons_succ, List.getElem?_cons_zero]; rfl) ?_
        refine ⟨?_, ⟨by kernel_rfl, by kernel_rfl, by kernel_rfl, by kernel_rfl⟩, fun _ _ _ h => h, Or.inl ⟨by rfl, ?_⟩, by assumption, ?_⟩
        rotate_left
        · (intro w hSw; (try dsimp only at hSw); go_simp; with_reducible rfl)
        try simp only [Act.put, List.setIfInBounds_toArray, List.set_cons_zero, List.set_cons_succ]
        refine Go.Proofs.Phase.wpPh_take' (i := 14) (by simp only [List.getElem?_toArray, List.getElem?_cons_succ, List.getElem?_cons_zero]; rfl) ?_
        refine ⟨?_, ⟨by kernel_rfl, by kernel_rfl, by kernel_rfl, by kernel_rfl⟩, fun _ _ _ h => h, Or.inl ⟨by rfl, ?_⟩, by assumption, ?_⟩
        rotate_left
        · (intro w hSw; (try dsimp only at hSw); go_simp; with_reducible rfl)
        try simp only [Act.put, List.setIfInBounds_toArray, List.set_cons_zero, List.set_cons_succ]
        refine Go.Proofs.Phase.wpPh_take' (i := 15) (by simp only [List.getElem?_toArray, List.getElem?_cons_succ, List.getElem?_cons_zero]; rfl) ?_
        refine ⟨?_, ⟨by kernel_rfl, by kernel_rfl, by kernel_rfl, by kernel_rfl⟩, fun _ _ _ h => h, Or.inl ⟨by rfl, ?_⟩, by assumption, ?_⟩
        rotate_left
        · (intro w hSw; (try dsimp only at hSw); go_simp; with_reducible rfl)
        try simp only [Act.put, List.setIfInBounds_toArray, List.set_cons_zero, List.set_cons_succ]
        refine Go.Proofs.Phase.wpPh_take' (i := 17) (by simp only [List.getElem?_toArray, List.getElem?_cons_succ, List.getElem?_cons_zero]; rfl) ?_
        refine ⟨?_, ⟨by kernel_rfl, by kernel_rfl, by kernel_rfl, by kernel_rfl⟩, fun _ _ _ h => h, Or.inl ⟨by rfl, ?_⟩, by assumption, ?_⟩
        rotate_left
        · (intro w hSw; (try dsimp only at hSw); go_simp; with_reducible rfl)
        try simp only [Act.put, List.setIfInBounds_toArray, List.set_cons_zero, List.set_cons_succ]
        refine Go.Proofs.Phase.wpPh_take' (i := 18) (by simp only [List.getElem?_toArray, List.getElem?_cons_succ, List.getElem?_cons_zero]; rfl) ?_
        refine ⟨?_, ⟨by kernel_rfl, by kernel_rfl, by kernel_rfl, by kernel_rfl⟩, fun _ _ _ h => h, Or.inl ⟨by rfl, ?_⟩, by assumption, ?_⟩
        rotate_left
        · (intro w hSw; (try dsimp only at hSw); go_simp; with_reducible rfl)
        try simp only [Act.put, List.setIfInBounds_toArray, List.set_cons_zero, List.set_cons_succ]
        refine Go.Proofs.Phase.wpPh_take' (i := 21) (by simp only [List.getElem?_toArray, List.getElem?_cons_succ, List.getElem?_cons_zero]; rfl) ?_
        refine ⟨?_, ⟨by kernel_rfl, by kernel_rfl, by kernel_rfl, by kernel_rfl⟩, fun _ _ _ h => h, Or.inl ⟨by rfl, ?_⟩, by assumption, ?_⟩
        rotate_left
        · (intro w hSw; (try dsimp only at hSw); go_simp; with_reducible rfl)
        try simp only [Act.put, List.setIfInBounds_toArray, List.set_cons_zero, List.set_cons_succ]
        refine Go.Proofs.Phase.wpPh_take' (i := 22) (by simp only [List.getElem?_toArray, List.getElem?_cons_succ, List.getElem?_cons_zero]; rfl) ?_
        refine ⟨?_, ⟨by kernel_rfl, by kernel_rfl, by kernel_rfl, by kernel_rfl⟩, fun _ _ _ h => h, Or.inl ⟨by rfl, ?_⟩, by assumption, ?_⟩
        rotate_left
        · (intro w hSw; (try dsimp only at hSw); go_simp; with_reducible rfl)
        try simp only [Act.put, List.setIfInBounds_toArray, List.set_cons_zero, List.set_cons_succ]
        refine Go.Proofs.Phase.wpPh_take' (i := 23) (by simp only [List.getElem?_toArray, List.getElem?_cons_succ, List.getElem?_cons_zero]; rfl) ?_
        refine ⟨?_, ⟨by kernel_rfl, by kernel_rfl, by kernel_rfl, by kernel_rfl⟩, fun _ _ _ h => h, Or.inl ⟨by rfl, ?_⟩, by assumption, ?_⟩
        rotate_left
        · (intro w hSw; (try dsimp only at hSw); go_simp; with_reducible rfl)
        try simp only [Act.put, List.setIfInBounds_toArray, List.set_cons_zero, List.set_cons_succ]
        refine Go.Proofs.Phase.wpPh_before (i := 16) (by kernel_rfl) (by simp only [List.getElem?_toArray, List.getElem?_cons_succ, List.getElem?_cons_zero]; rfl) (fun K hK => ?_)
        go_simp
        ((first | (have tk := O9; with_reducible refine (lives _).mono ?_; rintro e w11 ⟨rfl, B11⟩) | (have S2 := same_dec (RT.below (RT.of_own O8 rfl) B9) (RT.of_own O9 rfl) (by have := HV.out.2.2.2; have := HFL.out.1.1; omega); rw [decide_eq_false HE3.out] at S2; with_reducible refine S2.mono ?_; rintro e w10 ⟨rfl, j10, rfl⟩; clear S2) | (obtain ⟨_, _, s2⟩ := (show _ ∧ _ ∧ Below w4.heap.size w4 _ by assumption); have tk := O8; with_reducible refine (dag_any _ _ _ _ _ (nb : Int) hGL _ (HA4.out.two.st.below s2)).mono ?_; rintro e w9 ⟨v9, rfl, O9, B9⟩; clear s2 tk) | (obtain ⟨_, _, s2⟩ := (show _ ∧ _ ∧ Below w4.heap.size w4 _ by assumption); have tk := tk7; with_reducible refine (dag_any _ _ _ _ _ (na : Int) hGL _ (HA4.out.two.st.below s2)).mono ?_; rintro e w8 ⟨v8, rfl, O8, B8⟩; clear s2 tk) | (have S1 := same_dec (RT.below (RT.of_own O5 rfl) B6) (RT.of_own O6 rfl) (by have := HV.out.2.2.2; have := HFL.out.1.1; omega); rw [decide_eq_true HE1.out] at S1; with_reducible refine S1.mono ?_; rintro e w7 ⟨rfl, j7, rfl⟩; clear S1; have tk7 : True := trivial) | (obtain ⟨_, _, s2⟩ := (show _ ∧ _ ∧ Below w4.heap.size w4 _ by assumption); have tk := O5; with_reducible refine (rdag hGM mp (by have := HV.out.1; omega) (by have := HV.out.1; omega) _ (HA4.out.two.rst.below s2)).mono ?_; rintro e w6 ⟨v6, rfl, O6, B6⟩; clear s2 tk) | (obtain ⟨_, _, s2⟩ := (show _ ∧ _ ∧ Below w4.heap.size w4 _ by assumption); with_reducible refine (dag_any _ _ _ _ _ (na : Int) hGL _ (HA4.out.two.st.below s2)).mono ?_; rintro e w5 ⟨v5, rfl, O5, B5⟩; clear s2)))
        go_wp2_with fail
        refine hK.out _ _ ?_ (fun hHeldN => ?_)
        · ((try dsimp only) <;> (first | exact ⟨m0, ca, (Below.refl _ _).drew⟩ | exact HSK.out _ _ (by assumption) (by assumption) | exact HSK.out _ _ (by assumption) (below_drewN (Below.refl _ _) _)))
        clear hHeld
        have hHeld := hHeldN
        clear hHeldN
        clear hK K
        try simp only [Act.put, List.setIfInBounds_toArray, List.set_cons_zero, List.set_cons_succ]
        refine Go.Proofs.Phase.wpPh_before (i := 19) (by kernel_rfl) (by simp only [List.getElem?_toArray, List.getElem?_cons_succ, List.getElem?_cons_zero]; rfl) (fun K hK => ?_)
        go_simp
        ((first | (have tk := O9; with_reducible refine (lives _).mono ?_; rintro e w11 ⟨rfl, B11⟩) | (have S2 := same_dec (RT.below (RT.of_own O8 rfl) B9) (RT.of_own O9 rfl) (by have := HV.out.2.2.2; have := HFL.out.1.1; omega); rw [decide_eq_false HE3.out] at S2; with_reducible refine S2.mono ?_; rintro e w10 ⟨rfl, j10, rfl⟩; clear S2) | (obtain ⟨_, _, s2⟩ := (show _ ∧ _ ∧ Below w4.heap.size w4 _ by assumption); have tk := O8; with_reducible refine (dag_any _ _ _ _ _ (nb : Int) hGL _ (HA4.out.two.st.below s2)).mono ?_; rintro e w9 ⟨v9, rfl, O9, B9⟩; clear s2 tk) | (obtain ⟨_, _, s2⟩ := (show _ ∧ _ ∧ Below w4.heap.size w4 _ by assumption); have tk := tk7; with_reducible refine (dag_any _ _ _ _ _ (na : Int) hGL _ (HA4.out.two.st.below s2)).mono ?_; rintro e w8 ⟨v8, rfl, O8, B8⟩; clear s2 tk) | (have S1 := same_dec (RT.below (RT.of_own O5 rfl) B6) (RT.of_own O6 rfl) (by have := HV.out.2.2.2; have := HFL.out.1.1; omega); rw [decide_eq_true HE1.out] at S1; with_reducible refine S1.mono ?_; rintro e w7 ⟨rfl, j7, rfl⟩; clear S1; have tk7 : True := trivial) | (obtain ⟨_, _, s2⟩ := (show _ ∧ _ ∧ Below w4.heap.size w4 _ by assumption); have tk := O5; with_reducible refine (rdag hGM mp (by have := HV.out.1; omega) (by have := HV.out.1; omega) _ (HA4.out.two.rst.below s2)).mono ?_; rintro e w6 ⟨v6, rfl, O6, B6⟩; clear s2 tk) | (obtain ⟨_, _, s2⟩ := (show _ ∧ _ ∧ Below w4.heap.size w4 _ by assumption); with_reducible refine (dag_any _ _ _ _ _ (na : Int) hGL _ (HA4.out.two.st.below s2)).mono ?_; rintro e w5 ⟨v5, rfl, O5, B5⟩; clear s2)))
        go_wp2_with fail
        refine hK.out _ _ ?_ (fun hHeldN => ?_)
        · ((try dsimp only) <;> (first | exact ⟨m0, ca, (Below.refl _ _).drew⟩ | exact HSK.out _ _ (by assumption) (by assumption) | exact HSK.out _ _ (by assumption) (below_drewN (Below.refl _ _) _)))
        clear hHeld
        have hHeld := hHeldN
        clear hHeldN
        clear hK K
        try simp only [Act.put, List.setIfInBounds_toArray, List.set_cons_zero, List.set_cons_succ]
        refine Go.Proofs.Phase.wpPh_before (i := 20) (by kernel_rfl) (by simp only [List.getElem?_toArray, List.getElem?_cons_succ, List.getElem?_cons_zero]; rfl) (fun K hK => ?_)
        go_simp
        ((first | (have tk := O9; with_reducible refine (lives _).mono ?_; rintro e w11 ⟨rfl, B11⟩) | (have S2 := same_dec (RT.below (RT.of_own O8 rfl) B9) (RT.of_own O9 rfl) (by have := HV.out.2.2.2; have := HFL.out.1.1; omega); rw [decide_eq_false HE3.out] at S2; with_reducible refine S2.mono ?_; rintro e w10 ⟨rfl, j10, rfl⟩; clear S2) | (obtain ⟨_, _, s2⟩ := (show _ ∧ _ ∧ Below w4.heap.size w4 _ by assumption); have tk := O8; with_reducible refine (dag_any _ _ _ _ _ (nb : Int) hGL _ (HA4.out.two.st.below s2)).mono ?_; rintro e w9 ⟨v9, rfl, O9, B9⟩; clear s2 tk) | (obtain ⟨_, _, s2⟩ := (show _ ∧ _ ∧ Below w4.heap.size w4 _ by assumption); have tk := tk7; with_reducible refine (dag_any _ _ _ _ _ (na : Int) hGL _ (HA4.out.two.st.below s2)).mono ?_; rintro e w8 ⟨v8, rfl, O8, B8⟩; clear s2 tk) | (have S1 := same_dec (RT.below (RT.of_own O5 rfl) B6) (RT.of_own O6 rfl) (by have := HV.out.2.2.2; have := HFL.out.1.1; omega); rw [decide_eq_true HE1.out] at S1; with_reducible refine S1.mono ?_; rintro e w7 ⟨rfl, j7, rfl⟩; clear S1; have tk7 : True := trivial) | (obtain ⟨_, _, s2⟩ := (show _ ∧ _ ∧ Below w4.heap.size w4 _ by assumption); have tk := O5; with_reducible refine (rdag hGM mp (by have := HV.out.1; omega) (by have := HV.out.1; omega) _ (HA4.out.two.rst.below s2)).mono ?_; rintro e w6 ⟨v6, rfl, O6, B6⟩; clear s2 tk) | (obtain ⟨_, _, s2⟩ := (show _ ∧ _ ∧ Below w4.heap.size w4 _ by assumption); with_reducible refine (dag_any _ _ _ _ _ (na : Int) hGL _ (HA4.out.two.st.below s2)).mono ?_; rintro e w5 ⟨v5, rfl, O5, B5⟩; clear s2)))
        go_wp2_with fail
        refine hK.out _ _ ?_ (fun hHeldN => ?_)
        · ((try dsimp only) <;> (first | exact ⟨m0, ca, (Below.refl _ _).drew⟩ | exact HSK.out _ _ (by assumption) (by assumption) | exact HSK.out _ _ (by assumption) (below_drewN (Below.refl _ _) _)))
        clear hHeld
        have hHeld := hHeldN
        clear hHeldN
        clear hK K
        try simp only [Act.put, List.setIfInBounds_toArray, List.set_cons_zero, List.set_cons_succ]
        refine Go.Proofs.Phase.wpPh_take' (i := 24) (by simp only [List.getElem?_toArray, List.getElem?_cons_succ, List.getElem?_cons_zero]; rfl) ?_
        refine ⟨?_, ⟨by kernel_rfl, by kernel_rfl, by kernel_rfl, by kernel_rfl⟩, fun _ _ _ h => h, Or.inl ⟨by rfl, ?_⟩, by assumption, ?_⟩
        rotate_left
        · (intro w hSw; (try dsimp only at hSw); go_simp; with_reducible rfl)
        try simp only [Act.put, List.setIfInBounds_toArray, List.set_cons_zero, List.set_cons_succ]
        refine Go.Proofs.Phase.wpPh_take' (i := 25) (by simp only [List.getElem?_toArray, List.getElem?_cons_succ, List.getElem?_cons_zero]; rfl) ?_
        refine ⟨?_, ⟨by kernel_rfl, by kernel_rfl, by kernel_rfl, by kernel_rfl⟩, fun _ _ _ h => h, Or.inl ⟨by rfl, ?_⟩, by assumption, ?_⟩
        rotate_left
        · (intro w hSw; (try dsimp only at hSw); go_simp; with_reducible rfl)
        try simp only [Act.put, List.setIfInBounds_toArray, List.set_cons_zero, List.set_cons_succ]
        refine Go.Proofs.Phase.wpPh_take' (i := 26) (by simp only [List.getElem?_toArray, List.getElem?_cons_succ, List.getElem?_cons_zero]; rfl) ?_
        refine ⟨?_, ⟨by kernel_rfl, by kernel_rfl, by kernel_rfl, by kernel_rfl⟩, fun _ _ _ h => h, Or.inl ⟨by rfl, ?_⟩, by assumption, ?_⟩
        rotate_left
        · (intro w hSw; (try dsimp only at hSw); go_simp; with_reducible rfl)
        try simp only [Act.put, List.setIfInBounds_toArray, List.set_cons_zero, List.set_cons_succ]
        refine Go.Proofs.Phase.wpPh_before (i := 27) (by kernel_rfl) (by simp only [List.getElem?_toArray, List.getElem?_cons_succ, List.getElem?_cons_zero]; rfl) (fun K hK => ?_)
        go_simp
        ((first | (have tk := O9; with_reducible refine (lives _).mono ?_; rintro e w11 ⟨rfl, B11⟩) | (have S2 := same_dec (RT.below (RT.of_own O8 rfl) B9) (RT.of_own O9 rfl) (by have := HV.out.2.2.2; have := HFL.out.1.1; omega); rw [decide_eq_false HE3.out] at S2; with_reducible refine S2.mono ?_; rintro e w10 ⟨rfl, j10, rfl⟩; clear S2) | (obtain ⟨_, _, s2⟩ := (show _ ∧ _ ∧ Below w4.heap.size w4 _ by assumption); have tk := O8; with_reducible refine (dag_any _ _ _ _ _ (nb : Int) hGL _ (HA4.out.two.st.below s2)).mono ?_; rintro e w9 ⟨v9, rfl, O9, B9⟩; clear s2 tk) | (obtain ⟨_, _, s2⟩ := (show _ ∧ _ ∧ Below w4.heap.size w4 _ by assumption); have tk := tk7; with_reducible refine (dag_any _ _ _ _ _ (na : Int) hGL _ (HA4.out.two.st.below s2)).mono ?_; rintro e w8 ⟨v8, rfl, O8, B8⟩; clear s2 tk) | (have S1 := same_dec (RT.below (RT.of_own O5 rfl) B6) (RT.of_own O6 rfl) (by have := HV.out.2.2.2; have := HFL.out.1.1; omega); rw [decide_eq_true HE1.out] at S1; with_reducible refine S1.mono ?_; rintro e w7 ⟨rfl, j7, rfl⟩; clear S1; have tk7 : True := trivial) | (obtain ⟨_, _, s2⟩ := (show _ ∧ _ ∧ Below w4.heap.size w4 _ by assumption); have tk := O5; with_reducible refine (rdag hGM mp (by have := HV.out.1; omega) (by have := HV.out.1; omega) _ (HA4.out.two.rst.below s2)).mono ?_; rintro e w6 ⟨v6, rfl, O6, B6⟩; clear s2 tk) | (obtain ⟨_, _, s2⟩ := (show _ ∧ _ ∧ Below w4.heap.size w4 _ by assumption); with_reducible refine (dag_any _ _ _ _ _ (na : Int) hGL _ (HA4.out.two.st.below s2)).mono ?_; rintro e w5 ⟨v5, rfl, O5, B5⟩; clear s2)))
        go_wp2_with fail
        refine hK.out _ _ ?_ (fun hHeldN => ?_)
        · ((try dsimp only) <;> (first | exact ⟨m0, ca, (Below.refl _ _).drew⟩ | exact HSK.out _ _ (by assumption) (by assumption) | exact HSK.out _ _ (by assumption) (below_drewN (Below.refl _ _) _)))
        clear hHeld
        have hHeld := hHeldN
        clear hHeldN
        clear hK K
        try simp only [Act.put, List.setIfInBounds_toArray, List.set_cons_zero, List.set_cons_succ]
        refine Go.Proofs.Phase.wpPh_take' (i := 28) (by simp only [List.getElem?_toArray, List.getElem?_cons_succ, List.getElem?_cons_zero]; rfl) ?_
        refine ⟨?_, ⟨by kernel_rfl, by kernel_rfl, by kernel_rfl, by kernel_rfl⟩, fun _ _ _ h => h, Or.inl ⟨by rfl, ?_⟩, by assumption, ?_⟩
        rotate_left
        · (intro w hSw; (try dsimp only at hSw); go_simp; with_reducible rfl)
        try simp only [Act.put, List.setIfInBounds_toArray, List.set_cons_zero, List.set_cons_succ]
        refine Go.Proofs.Phase.wpPh_behind (i := 29) (by kernel_rfl) (by simp only [List.getElem?_toArray, List.getElem?_cons_succ, List.getElem?_cons_zero]; rfl) (by kernel_rfl) (fun K hK => ?_)
        go_simp
        refine hK.out _ _ ?_
        clear hK K
        try simp only [Act.put, List.setIfInBounds_toArray, List.set_cons_zero, List.set_cons_succ]
        refine Go.Proofs.Phase.wpPh_done (by kernel_rfl) ?_ _
        go_wp2_with fail
        go_ret
        have z5 := HB4.out.drew.trans (B5.mono hlo)
        have z6 := z5.trans (B6.mono z5.size)
        have z7 := below_drewN z6 j7
        have z8 := z7.trans (B8.mono z7.size)
        have z9 := z8.trans (B9.mono z8.size)
        have z10 := below_drewN z9 j10
        exact ⟨rfl, z10.trans (B11.mono z10.size)⟩
end Go.Proofs.Ytbngiimhkgdjeaa
