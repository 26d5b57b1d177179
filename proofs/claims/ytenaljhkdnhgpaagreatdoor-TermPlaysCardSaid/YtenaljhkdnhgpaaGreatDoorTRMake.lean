/- What the document's Make answers: the same as the program's. -/
import Derived.Test.YtenaljhkdnhgpaaGreatDoorTRef
import Derived.Test.YtenaljhkdnhgpaaGreatDoorPhase
namespace Go.Proofs.YtenaljhkdnhgpaaGreatDoor.T
open Go.RowKit Go.Proofs.Phase
set_option linter.unusedVariables false
set_option linter.unusedSimpArgs false

theorem num_none {L : List Tm} {t : Tm} (h : ∀ u ∈ L, u ≠ t) : num L t = none := by
  unfold num
  rw [Option.map_eq_none_iff, List.findIdx?_eq_none_iff]
  intro x hx
  simpa using h x hx
theorem num_first {L : List Tm} {t : Tm} {i : Nat} (hi : L[i]? = some t) (h : ∀ j, j < i → ∀ u, L[j]? = some u → u ≠ t) : num L t = some ((i : Int) + 1) := by
  unfold num
  obtain ⟨h1, h2⟩ := List.getElem?_eq_some_iff.1 hi
  have : List.findIdx? (· == t) L = some i := by
    rw [List.findIdx?_eq_some_iff_getElem]
    refine ⟨h1, by simp [h2], fun j hj => ?_⟩
    have := h j hj L[j] (List.getElem?_eq_getElem (by omega))
    simpa using this
  rw [this]
  rfl
theorem RSt.appended {w w4 : World} {B g g' cap : Nat} {L : List Tm} {v : Value} {o : Obj} {t : Tm} (h : RSt w B g L v)
    (o1 : w4.ownsRow B 69 4 (.slice (some ⟨g', 0, none⟩) (L.length + 1) cap) (L.length + 1) (rowOf L ++ t.cs)) (o2 : ((w.alloc o).drew).grownBy w4 v.ownBlock)
    (o3 : v.ownBlock = some g' ∨ g' = ((w.alloc o).drew).heap.size) : RSt (w4.setCell ⟨g, 0, none⟩ (.slice (some ⟨g', 0, none⟩) (L.length + 1) cap)) B g (L ++ [t]) (.slice (some ⟨g', 0, none⟩) (L.length + 1) cap) := by
  have hb : Below w.heap.size w ((w.alloc o).drew) := ((Below.refl _ _).alloc (Nat.le_refl _) _).drew
  have h' := h.below hb
  have hg4 : w4.heap[g]? = some (.cells #[v] 30 (0, 0)) := (o2.block g (lt_of_some h'.blk) h'.far).trans h'.blk
  have hne : g' ≠ g := by
    intro e
    rcases o3 with o3 | o3
    · exact h'.far (by rw [o3, e])
    · have := lt_of_some h'.blk
      omega
  have hs := o2.size
  refine ⟨h.lo, ?_, ?_, ?_⟩
  · have := h'.hB
    simp
    omega
  · rw [heap_setCell_same w4 g 0 _ _ _ hg4]
    rfl
  · rw [List.length_append, rowOf_append]
    have e : rowOf [t] = t.cs := by simp [rowOf]
    rw [e]
    refine ⟨o1.1, ?_⟩
    rcases o1.2 with ⟨h1, h2⟩ | ⟨gg, cap', cur, h1, h2, h3, h4⟩
    · exact .inl ⟨h1, h2⟩
    · refine .inr ⟨gg, cap', cur, h1, h2, ?_, h4⟩
      obtain rfl : gg = g' := by
        injection h1 with h1
        injection h1 with h1
        injection h1 with h1
        exact h1.symm
      rw [Below.heap_setCell _ _ _ _ hne]
      exact h3
/-- All rows but those of terms, and all stores of the document's, stay. -/
def KR (w w' : World) : Prop := ∀ (k : Nat) (cs : Array Value) (T : TypeId) (fr : Nat × Nat), w.heap[k]? = some (Obj.cells cs T fr) → T ≠ 69 → T ≠ 30 → w'.heap[k]? = some (Obj.cells cs T fr)
theorem KR.of_below {w w' : World} (h : Below w.heap.size w w') : KR w w' := fun k cs T fr hk _ _ => (h.block k (lt_of_some hk)).trans hk
theorem KR.trans {a b c : World} (h1 : KR a b) (h2 : KR b c) : KR a c := fun k cs T fr hk t1 t2 => h2 k cs T fr (h1 k cs T fr hk t1 t2) t1 t2
theorem KR.refl (w : World) : KR w w := fun _ _ _ _ hk _ _ => hk
theorem KR.grown {w w' : World} {B n : Nat} {v : Value} {xs : List Value} (h : w.ownsRow B 69 4 v n xs) (hg : w.grownBy w' v.ownBlock) : KR w w' := fun k cs T fr hk t1 t2 => by
  refine (hg.block k (lt_of_some hk) fun e => ?_).trans hk
  obtain ⟨cur, hc⟩ := row_typed h k e.symm
  rw [hk] at hc
  injection hc with hc
  injection hc with _ hc
  exact t1 hc
theorem KR.setCell {w : World} {g i : Nat} {cs : Array Value} {fr : Nat × Nat} (u : Value) (h : w.heap[g]? = some (.cells cs 30 fr)) : KR w (w.setCell ⟨g, i, none⟩ u) := fun k cs' T fr' hk t1 t2 => by
  have hne : k ≠ g := fun e => by
    rw [e, h] at hk
    injection hk with hk
    injection hk with _ hk
    exact t2 hk.symm
  rw [Below.heap_setCell _ _ _ _ hne]
  exact hk
/-- What is neither the store's block nor its list stays; its list's block behind is the one that was, or a new one. -/
def Fr (w w' : World) (g : Nat) (v v' : Value) : Prop := (∀ k, k < w.heap.size → k ≠ g → some k ≠ v.ownBlock → w'.heap[k]? = w.heap[k]?) ∧ NB w v v'
theorem Fr.refl (w : World) (g : Nat) (v : Value) : Fr w w g v v := ⟨fun _ _ _ _ => rfl, NB.refl w v⟩
theorem Fr.trans {a b c : World} {g : Nat} {v v1 v2 : Value} (h1 : Fr a b g v v1) (h2 : Fr b c g v1 v2) (hs : a.heap.size ≤ b.heap.size) : Fr a c g v v2 :=
  ⟨fun k hk k1 k3 => (h2.1 k (by omega) k1 (h1.2 k hk k3)).trans (h1.1 k hk k1 k3), fun k hk k3 => h2.2 k (by omega) (h1.2 k hk k3)⟩
theorem Fr.of_below {w w' : World} (g : Nat) (v : Value) (h : Below w.heap.size w w') : Fr w w' g v v := ⟨fun k hk _ _ => h.block k hk, NB.refl w v⟩
theorem Fr.pushed {w w2 w3 : World} {g : Nat} {v v1 s : Value} {l : List Int} {o : Obj} (h : Fr w w2 g v v1) (ho : OI w2 w.heap.size s l) (hg : (w2.alloc o).grownBy w3 s.ownBlock) (hs : w.heap.size ≤ w2.heap.size) : Fr w w3 g v v1 := by
  refine ⟨fun k hk k1 k3 => ?_, h.2⟩
  refine (hg.block k (by simp; omega) fun e => ?_).trans ((Below.heap_alloc w2 o k (by omega)).trans (h.1 k hk k1 k3))
  have := (World.ownsRow.lt ho k e.symm).1
  omega
theorem Tm.eq_dec (u t : Tm) : (decide (u.k = t.k) && decide (u.n = t.n) && decide (u.a = t.a) && decide (u.b = t.b)) = decide (u = t) := by
  obtain ⟨a, b, c, d⟩ := u
  obtain ⟨a', b', c', d'⟩ := t
  rw [Bool.eq_iff_iff]
  simp [and_assoc]
set_option maxHeartbeats 2000000 in
set_option maxRecDepth 100000 in
theorem rmake (B g : Nat) (L : List Tm) (v : Value) (k n a b : Int) (hlen : L.length ≤ 1048576) (w : World) (h : RSt w B g L v) :
    Calls Tryz.prog 29 #[.pointer (some ⟨g, 0, none⟩), .agg #[.int .u8 k, .int .i64 n, .int .i64 a, .int .i64 b]] w fun e w' =>
      ∃ v', e = .returned (.tuple #[.int .i64 (mk L ⟨k, n, a, b⟩).1, .int .i64 (mk L ⟨k, n, a, b⟩).2.1]) ∧ RSt w' B g (mk L ⟨k, n, a, b⟩).2.2 v' ∧ Below B w w' ∧ KR w w' ∧ Fr w w' g v v' := by
  obtain ⟨i30, hinf, hz0, hz1, hz2⟩ := info_parts info30
  obtain ⟨A, c, rfl⟩ := h.slice
  have hbb : Below w.heap.size w (w.alloc (.cells #[.int .u8 k, .int .i64 n, .int .i64 a, .int .i64 b] 69)) := (Below.refl _ _).alloc (Nat.le_refl _) _
  have hS1 := h.below hbb
  have hbox : (w.alloc (.cells #[.int .u8 k, .int .i64 n, .int .i64 a, .int .i64 b] 69)).heap[w.heap.size]? = some (.cells #[.int .u8 k, .int .i64 n, .int .i64 a, .int .i64 b] 69 (0, 0)) := heap_alloc_new w _
  have hY := rmay g L.length c A k n a b _ hS1.c0
  have HH := Lib.hid h
  have HS1 := Lib.hid hS1
  have HB := Lib.hid hbb
  have HX := Lib.hid hbox
  obtain ⟨R, hR⟩ : ∃ R, R = mk L ⟨k, n, a, b⟩ := ⟨_, rfl⟩
  rw [← hR]
  have HR := Lib.hid hR
  have hlow := h.hB
  clear h hbb hS1 hbox hR
  obtain ⟨y, hy⟩ : ∃ y, y = mayB L.length ⟨k, n, a, b⟩ := ⟨_, rfl⟩
  rw [← hy] at hY
  have HY := Lib.hid hy
  clear hy
  cases y with
  | false =>
    go_enter Tryz.func29, Tryz.ntmps29
    go_wp2_with (go_at_call 148; with_reducible refine hY.mono ?_; rintro e w2 ⟨rfl, hb2⟩)
    go_ret2
    have e : R = (0, 1, L) := by rw [HR.out]; unfold mk; rw [if_pos HY.out.symm]
    rw [e]
    exact ⟨_, rfl, HS1.out.below hb2, (HB.out.mono hlow).trans (hb2.mono (Nat.le_trans hlow HB.out.size)), KR.of_below (HB.out.trans (hb2.mono HB.out.size)), Fr.of_below _ _ (HB.out.trans (hb2.mono HB.out.size))⟩
  | true =>
    go_enter Tryz.func29, Tryz.ntmps29
    go_wp2_with (go_at_call 148; with_reducible refine hY.mono ?_; rintro e w2 ⟨rfl, hb2⟩)
    have HS2 := Lib.hid (HS1.out.below hb2)
    have HB2 := Lib.hid (HB.out.trans (hb2.mono HB.out.size))
    have HX2 := Lib.hid ((hb2.block _ (lt_of_some HX.out)).trans HX.out)
    clear hb2 hY
    go_loopw [6] (fun v6 wr => ∃ i : Nat, i ≤ L.length ∧ v6 = .int .i64 i ∧ Hid (∀ j, j < i → ∀ u, L[j]? = some u → u ≠ ⟨k, n, a, b⟩) ∧ ∃ j, wr = w2.drewN j) (fun v6 _ => L.length - (intOf v6).toNat)
    case atStart => exact ⟨0, by omega, rfl, Lib.hid (fun j hj => by omega), 0, rfl⟩
    case round =>
      obtain ⟨i, hi, rfl, HN, jd, rfl⟩ := hrel
      have hS3 := HS2.out
      have c0 := hS3.c0
      have hbox := HX2.out
      have x0 : w2.cell? ⟨w.heap.size, 0, none⟩ = some (.int .u8 k) := by rw [cell_of_row w2 _ 0 _ _ _ hbox]; rfl
      have x1 : w2.cell? ⟨w.heap.size, 1, none⟩ = some (.int .i64 n) := by rw [cell_of_row w2 _ 1 _ _ _ hbox]; rfl
      have x2 : w2.cell? ⟨w.heap.size, 2, none⟩ = some (.int .i64 a) := by rw [cell_of_row w2 _ 2 _ _ _ hbox]; rfl
      have x3 : w2.cell? ⟨w.heap.size, 3, none⟩ = some (.int .i64 b) := by rw [cell_of_row w2 _ 3 _ _ _ hbox]; rfl
      have hlL := hS3.len_le
      by_cases hlt : i < L.length
      · obtain ⟨u, hu⟩ : ∃ u, L[i]? = some u := ⟨L[i], List.getElem?_eq_getElem hlt⟩
        obtain ⟨bl, cl, hsl, _, _⟩ := hS3.row.form (by omega)
        injection hsl with e1 e2 e3
        subst e1 e3
        obtain ⟨d0, d1, d2, d3⟩ := RT.cell (w := w2) (RT.of_own' hS3.row) rfl i u hu
        have HU := Lib.hid hu
        have i1 : (0 : Int) ≤ (i : Int) := by omega
        have i2 : (i : Int) < (L.length : Int) := by omega
        have HS3 := Lib.hid hS3
        obtain ⟨uk, un, ua, ub⟩ := u
        dsimp only at d0 d1 d2 d3
        clear hu hS3 hbox
        have hne : ∀ (t1 t2 : Tm), (¬ t1.k = t2.k ∨ ¬ t1.n = t2.n ∨ ¬ t1.a = t2.a ∨ ¬ t1.b = t2.b) → t1 ≠ t2 := fun t1 t2 h1 h2 => by subst h2; simp at h1
        have hx : (¬ uk = k) ∨ (uk = k ∧ ¬ un = n) ∨ (uk = k ∧ un = n ∧ ¬ ua = a) ∨ (uk = k ∧ un = n ∧ ua = a ∧ ¬ ub = b) ∨ (uk = k ∧ un = n ∧ ua = a ∧ ub = b) := by
          by_cases e1 : uk = k
          · by_cases e2 : un = n
            · by_cases e3 : ua = a
              · by_cases e4 : ub = b
                · exact .inr (.inr (.inr (.inr ⟨e1, e2, e3, e4⟩)))
                · exact .inr (.inr (.inr (.inl ⟨e1, e2, e3, e4⟩)))
              · exact .inr (.inr (.inl ⟨e1, e2, e3⟩))
            · exact .inr (.inl ⟨e1, e2⟩)
          · exact .inl e1
        rcases hx with hx | hx | hx | hx | ⟨rfl, rfl, rfl, rfl⟩
        · have HNE := Lib.hid (hne ⟨uk, un, ua, ub⟩ ⟨k, n, a, b⟩ (by first | exact .inl hx | exact .inr (.inl hx.2) | exact .inr (.inr (.inl hx.2.2)) | exact .inr (.inr (.inr hx.2.2.2))))
          clear hne
          go_wp2_with fail
          go_quiet (fail)
          go_wp2_with fail
          go_roundw
          case rel => exact ⟨i + 1, by omega, by go_num, Lib.hid (fun j hj u hu => by
            by_cases e : j = i
            · subst e
              rw [HU.out] at hu
              injection hu with hu
              subst hu
              exact HNE.out
            · exact HN.out j (by omega) u hu), _, rfl⟩
          case measure => simp [intOf]; omega
        · have HNE := Lib.hid (hne ⟨uk, un, ua, ub⟩ ⟨k, n, a, b⟩ (by first | exact .inl hx | exact .inr (.inl hx.2) | exact .inr (.inr (.inl hx.2.2)) | exact .inr (.inr (.inr hx.2.2.2))))
          clear hne
          go_wp2_with fail
          go_quiet (fail)
          go_wp2_with fail
          go_roundw
          case rel => exact ⟨i + 1, by omega, by go_num, Lib.hid (fun j hj u hu => by
            by_cases e : j = i
            · subst e
              rw [HU.out] at hu
              injection hu with hu
              subst hu
              exact HNE.out
            · exact HN.out j (by omega) u hu), _, rfl⟩
          case measure => simp [intOf]; omega
        · have HNE := Lib.hid (hne ⟨uk, un, ua, ub⟩ ⟨k, n, a, b⟩ (by first | exact .inl hx | exact .inr (.inl hx.2) | exact .inr (.inr (.inl hx.2.2)) | exact .inr (.inr (.inr hx.2.2.2))))
          clear hne
          go_wp2_with fail
          go_quiet (fail)
          go_wp2_with fail
          go_roundw
          case rel => exact ⟨i + 1, by omega, by go_num, Lib.hid (fun j hj u hu => by
            by_cases e : j = i
            · subst e
              rw [HU.out] at hu
              injection hu with hu
              subst hu
              exact HNE.out
            · exact HN.out j (by omega) u hu), _, rfl⟩
          case measure => simp [intOf]; omega
        · have HNE := Lib.hid (hne ⟨uk, un, ua, ub⟩ ⟨k, n, a, b⟩ (by first | exact .inl hx | exact .inr (.inl hx.2) | exact .inr (.inr (.inl hx.2.2)) | exact .inr (.inr (.inr hx.2.2.2))))
          clear hne
          go_wp2_with fail
          go_quiet (fail)
          go_wp2_with fail
          go_roundw
          case rel => exact ⟨i + 1, by omega, by go_num, Lib.hid (fun j hj u hu => by
            by_cases e : j = i
            · subst e
              rw [HU.out] at hu
              injection hu with hu
              subst hu
              exact HNE.out
            · exact HN.out j (by omega) u hu), _, rfl⟩
          case measure => simp [intOf]; omega
        · clear hne
          go_wp2_with fail
          go_quiet (fail)
          go_wp2_with fail
          go_ret2
          have e : R = ((i : Int) + 1, 0, L) := by
            rw [HR.out]; unfold mk; rw [if_neg (by rw [← HY.out]; decide), num_first HU.out HN.out]
          rw [e]
          exact ⟨_, rfl, HS3.out.drewN _, below_drewN (HB2.out.mono hlow) _, KR.of_below (below_drewN HB2.out _), Fr.of_below _ _ (below_drewN HB2.out _)⟩
      · obtain rfl : i = L.length := by omega
        have hnn : num L ⟨k, n, a, b⟩ = none := num_none fun u hu => by
          obtain ⟨j, hj⟩ := List.getElem?_of_mem hu
          exact HN.out j (List.getElem?_eq_some_iff.1 hj).1 u hj
        have HNN := Lib.hid hnn
        have HS3 := Lib.hid hS3
        by_cases hbig : 1048576 ≤ L.length
        · have q1 : decide ((1048576 : Int) ≤ (L.length : Int)) = true := decide_eq_true (by omega)
          have q2 : decide (1048576 ≤ L.length) = true := decide_eq_true hbig
          have HBIG := Lib.hid hbig
          clear hbig hlen hnn hS3 hbox
          go_wp2_with fail
          go_ret2
          have e : R = (0, 3, L) := by rw [HR.out]; unfold mk; rw [if_neg (by rw [← HY.out]; decide), HNN.out]; simp only [if_pos HBIG.out]
          rw [e]
          exact ⟨_, rfl, HS3.out.drewN _, below_drewN (HB2.out.mono hlow) _, KR.of_below (below_drewN HB2.out _), Fr.of_below _ _ (below_drewN HB2.out _)⟩
        · have q1 : decide ((1048576 : Int) ≤ (L.length : Int)) = false := decide_eq_false (by omega)
          have q2 : decide (1048576 ≤ L.length) = false := decide_eq_false hbig
          have hsm : L.length < 1048576 := by omega
          have HSM := Lib.hid hsm
          have HBIG := Lib.hid hbig
          have S3 := HS2.out.drewN jd
          have B3 := below_drewN HB2.out jd
          have X3 : (w2.drewN jd).heap[w.heap.size]? = some (.cells #[.int .u8 k, .int .i64 n, .int .i64 a, .int .i64 b] 69 (0, 0)) := HX2.out
          have xfar : some w.heap.size ≠ (Value.slice A L.length c).ownBlock := fun e => by
            have := (HH.out.row.lt _ e.symm).2
            omega
          clear hbig hlen hsm hnn hS3 hbox c0 x0 x1 x2 x3 HS2 HB2 HX2 HS3 hi hlt
          generalize w2.drewN jd = w3 at *
          have lg : g < w3.heap.size := lt_of_some S3.blk
          have lx : w.heap.size < w3.heap.size := lt_of_some X3
          have far : some g ≠ (Value.slice A L.length c).ownBlock := S3.far
          have c0 := S3.c0
          have x0 : w3.cell? ⟨w.heap.size, 0, none⟩ = some (.int .u8 k) := by rw [cell_of_row w3 _ 0 _ _ _ X3]; rfl
          have x1 : w3.cell? ⟨w.heap.size, 1, none⟩ = some (.int .i64 n) := by rw [cell_of_row w3 _ 1 _ _ _ X3]; rfl
          have x2 : w3.cell? ⟨w.heap.size, 2, none⟩ = some (.int .i64 a) := by rw [cell_of_row w3 _ 2 _ _ _ X3]; rfl
          have x3 : w3.cell? ⟨w.heap.size, 3, none⟩ = some (.int .i64 b) := by rw [cell_of_row w3 _ 3 _ _ _ X3]; rfl
          have HS3 := Lib.hid S3
          have HX3 := Lib.hid X3
          have HB3 := Lib.hid B3
          have LG := Lib.hid lg
          have LX := Lib.hid lx
          have FAR := Lib.hid far
          have XFAR := Lib.hid xfar
          clear S3 X3 B3 far xfar
          go_wp2_with fail
          refine Go.Proofs.Phase.wp_region_ph (S := (fun w' => w'.cell? ⟨g, 0, none⟩ = some (.slice A L.length c) ∧ w'.cell? ⟨w.heap.size, 0, none⟩ = some (.int .u8 k) ∧ w'.cell? ⟨w.heap.size, 1, none⟩ = some (.int .i64 n) ∧ w'.cell? ⟨w.heap.size, 2, none⟩ = some (.int .i64 a) ∧ w'.cell? ⟨w.heap.size, 3, none⟩ = some (.int .i64 b))) 10 (by kernel_rfl) ?_ (fun hHeld => ?_)
          · ((try dsimp only) <;> go_keep)
          refine Go.Proofs.Phase.wpPh_take' (i := 0) (by simp only [List.getElem?_toArray, List.getElem?_cons_succ, List.getElem?_cons_zero]; rfl) ?_
          refine ⟨?_, ⟨by kernel_rfl, by kernel_rfl, by kernel_rfl, by kernel_rfl⟩, fun _ _ _ h => h, Or.inl ⟨by rfl, ?_⟩, by assumption, ?_⟩
          rotate_left
          · (intro w hSw; (try dsimp only at hSw); go_simp; with_reducible rfl)
          try simp only [Act.put, List.setIfInBounds_toArray, List.set_cons_zero, List.set_cons_succ]
          refine Go.Proofs.Phase.wpPh_take' (i := 1) (by simp only [List.getElem?_toArray, List.getElem?_cons_succ, List.getElem?_cons_zero]; rfl) ?_
          refine ⟨?_, ⟨by kernel_rfl, by kernel_rfl, by kernel_rfl, by kernel_rfl⟩, fun _ _ _ h => h, Or.inl ⟨by rfl, ?_⟩, by assumption, ?_⟩
          rotate_left
          · (intro w hSw; (try dsimp only at hSw); go_simp; with_reducible rfl)
          try simp only [Act.put, List.setIfInBounds_toArray, List.set_cons_zero, List.set_cons_succ]
          refine Go.Proofs.Phase.wpPh_take' (i := 2) (by simp only [List.getElem?_toArray, List.getElem?_cons_succ, List.getElem?_cons_zero]; rfl) ?_
          refine ⟨?_, ⟨by kernel_rfl, by kernel_rfl, by kernel_rfl, by kernel_rfl⟩, fun _ _ _ h => h, Or.inl ⟨by rfl, ?_⟩, by assumption, ?_⟩
          rotate_left
          · (intro w hSw; (try dsimp only at hSw); go_simp; with_reducible rfl)
          try simp only [Act.put, List.setIfInBounds_toArray, List.set_cons_zero, List.set_cons_succ]
          refine Go.Proofs.Phase.wpPh_take' (i := 3) (by simp only [List.getElem?_toArray, List.getElem?_cons_succ, List.getElem?_cons_zero]; rfl) ?_
          refine ⟨?_, ⟨by kernel_rfl, by kernel_rfl, by kernel_rfl, by kernel_rfl⟩, fun _ _ _ h => h, Or.inl ⟨by rfl, ?_⟩, by assumption, ?_⟩
          rotate_left
          · (intro w hSw; (try dsimp only at hSw); go_simp; with_reducible rfl)
          try simp only [Act.put, List.setIfInBounds_toArray, List.set_cons_zero, List.set_cons_succ]
          refine Go.Proofs.Phase.wpPh_take' (i := 4) (by simp only [List.getElem?_toArray, List.getElem?_cons_succ, List.getElem?_cons_zero]; rfl) ?_
          refine ⟨?_, ⟨by kernel_rfl, by kernel_rfl, by kernel_rfl, by kernel_rfl⟩, fun _ _ _ h => h, Or.inl ⟨by rfl, ?_⟩, by assumption, ?_⟩
          rotate_left
          · (intro w hSw; (try dsimp only at hSw); go_simp; with_reducible rfl)
          try simp only [Act.put, List.setIfInBounds_toArray, List.set_cons_zero, List.set_cons_succ]
          refine Go.Proofs.Phase.wpPh_take' (i := 5) (by simp only [List.getElem?_toArray, List.getElem?_cons_succ, List.getElem?_cons_zero]; rfl) ?_
          refine ⟨?_, ⟨by kernel_rfl, by kernel_rfl, by kernel_rfl, by kernel_rfl⟩, fun _ _ _ h => h, Or.inl ⟨by rfl, ?_⟩, by assumption, ?_⟩
          rotate_left
          · (intro w hSw; (try dsimp only at hSw); go_simp; with_reducible rfl)
          try simp only [Act.put, List.setIfInBounds_toArray, List.set_cons_zero, List.set_cons_succ]
          refine Go.Proofs.Phase.wpPh_before (i := 6) (by kernel_rfl) (by simp only [List.getElem?_toArray, List.getElem?_cons_succ, List.getElem?_cons_zero]; rfl) (fun K hK => ?_)
          go_simp
          refine hK.out _ _ ?_ (fun hHeldN => ?_)
          · ((try dsimp only) <;> go_keep)
          clear hHeld
          have hHeld := hHeldN
          clear hHeldN
          clear hK K
          try simp only [Act.put, List.setIfInBounds_toArray, List.set_cons_zero, List.set_cons_succ]
          refine Go.Proofs.Phase.wpPh_before (i := 7) (by kernel_rfl) (by simp only [List.getElem?_toArray, List.getElem?_cons_succ, List.getElem?_cons_zero]; rfl) (fun K hK => ?_)
          ((
             refine step_append_lies _ rfl _ _ 22 rfl B 69 i30 _ 4 32 Tryz.underlying22 hinf hz0 hz1 hz2 rfl (by decide) _ L.length (rowOf L) rfl (HS3.out.row.drew.alloc _) ⟨w3.heap.size, 0, none⟩ 1 1 [.int .u8 k, .int .i64 n, .int .i64 a, .int .i64 b] rfl rfl (World.news_of_block (heap_alloc_new _ _)) (by simp [Value.oneCell']) (by decide) (by have := HSM.out; unfold maxLen; omega) (by have := HSM.out; omega) (by have := HS3.out.hB; simp; omega) _ rfl ?_
             intro g' cap w4 o1 o2 o3 o4
             have k0 : w4.cell? ⟨g, 0, none⟩ = some (.slice A L.length c) := (o2.cell_far ⟨g, 0, none⟩ (by simp; have := LG.out; omega) FAR.out).trans ((World.cell?_alloc_lt w3 _ _ LG.out).trans c0)
             have y0 : w4.cell? ⟨w.heap.size, 0, none⟩ = some (.int .u8 k) := (o2.cell_far ⟨w.heap.size, 0, none⟩ (by simp; have := LX.out; omega) XFAR.out).trans ((World.cell?_alloc_lt w3 _ _ LX.out).trans x0)
             have y1 : w4.cell? ⟨w.heap.size, 1, none⟩ = some (.int .i64 n) := (o2.cell_far ⟨w.heap.size, 1, none⟩ (by simp; have := LX.out; omega) XFAR.out).trans ((World.cell?_alloc_lt w3 _ _ LX.out).trans x1)
             have y2 : w4.cell? ⟨w.heap.size, 2, none⟩ = some (.int .i64 a) := (o2.cell_far ⟨w.heap.size, 2, none⟩ (by simp; have := LX.out; omega) XFAR.out).trans ((World.cell?_alloc_lt w3 _ _ LX.out).trans x2)
             have y3 : w4.cell? ⟨w.heap.size, 3, none⟩ = some (.int .i64 b) := (o2.cell_far ⟨w.heap.size, 3, none⟩ (by simp; have := LX.out; omega) XFAR.out).trans ((World.cell?_alloc_lt w3 _ _ LX.out).trans x3)
             have kf : w4.frozen? ⟨g, 0, none⟩ = false := (o2.frozen_far ⟨g, 0, none⟩ (by simp; have := LG.out; omega) FAR.out).trans (frozen_of_row _ g 0 _ _ ((HS3.out.below ((Below.refl _ w3).alloc (Nat.le_refl _) _)).blk))))
          refine hK.out _ _ ?_ (fun hHeldN => ?_)
          · ((try dsimp only) <;> go_keep)
          clear hHeld
          have hHeld := hHeldN
          clear hHeldN
          clear hK K
          try simp only [Act.put, List.setIfInBounds_toArray, List.set_cons_zero, List.set_cons_succ]
          refine Go.Proofs.Phase.wpPh_before (i := 8) (by kernel_rfl) (by simp only [List.getElem?_toArray, List.getElem?_cons_succ, List.getElem?_cons_zero]; rfl) (fun K hK => ?_)
          go_simp
          refine hK.out _ _ ?_ (fun hHeldN => ?_)
          · ((try dsimp only) <;> go_keep)
          clear hHeld
          have hHeld := hHeldN
          clear hHeldN
          clear hK K
          try simp only [Act.put, List.setIfInBounds_toArray, List.set_cons_zero, List.set_cons_succ]
          refine Go.Proofs.Phase.wpPh_take' (i := 9) (by simp only [List.getElem?_toArray, List.getElem?_cons_succ, List.getElem?_cons_zero]; rfl) ?_
          refine ⟨?_, ⟨by kernel_rfl, by kernel_rfl, by kernel_rfl, by kernel_rfl⟩, fun _ _ _ h => h, Or.inl ⟨by rfl, ?_⟩, by assumption, ?_⟩
          rotate_left
          · (intro w hSw; (try dsimp only at hSw); go_simp; with_reducible rfl)
          try simp only [Act.put, List.setIfInBounds_toArray, List.set_cons_zero, List.set_cons_succ]
          refine Go.Proofs.Phase.wpPh_behind (i := 10) (by kernel_rfl) (by simp only [List.getElem?_toArray, List.getElem?_cons_succ, List.getElem?_cons_zero]; rfl) (by kernel_rfl) (fun K hK => ?_)
          go_simp
          refine hK.out _ _ ?_
          clear hK K
          try simp only [Act.put, List.setIfInBounds_toArray, List.set_cons_zero, List.set_cons_succ]
          refine Go.Proofs.Phase.wpPh_done (by kernel_rfl) ?_ _
          have S5 := HS3.out.appended (t := ⟨k, n, a, b⟩) o1 o2 o3
          have b5 : Below B w (w4.setCell ⟨g, 0, none⟩ (.slice (some ⟨g', 0, none⟩) (L.length + 1) cap)) :=
            ((((HB3.out.mono hlow).alloc HS3.out.hB _).drew).grown o2 (by have := HS3.out.hB; simp; omega) (fun k hk => (HS3.out.row.lt k hk).1)).setCell HS3.out.lo _
          have k5 : KR w (w4.setCell ⟨g, 0, none⟩ (.slice (some ⟨g', 0, none⟩) (L.length + 1) cap)) := by
            have h1 : KR w ((w3.alloc (.cells #[.int .u8 k, .int .i64 n, .int .i64 a, .int .i64 b] 69)).drew) := KR.of_below ((HB3.out.alloc HB3.out.size _).drew)
            have hb' : Below w3.heap.size w3 ((w3.alloc (.cells #[.int .u8 k, .int .i64 n, .int .i64 a, .int .i64 b] 69)).drew) := ((Below.refl _ _).alloc (Nat.le_refl _) _).drew
            have h2 := KR.grown (HS3.out.below hb').row o2
            have h3 : w4.heap[g]? = some (.cells #[.slice A L.length c] 30 (0, 0)) := (o2.block g (lt_of_some (HS3.out.below hb').blk) FAR.out).trans (HS3.out.below hb').blk
            exact (h1.trans h2).trans (KR.setCell _ h3)
          have f5 : Fr w (w4.setCell ⟨g, 0, none⟩ (.slice (some ⟨g', 0, none⟩) (L.length + 1) cap)) g (.slice A L.length c) (.slice (some ⟨g', 0, none⟩) (L.length + 1) cap) := by
            have hn3 := HB3.out.size
            refine ⟨fun k hk k1 k3 => ?_, fun k hk hne e => ?_⟩
            · rw [Below.heap_setCell _ _ _ _ k1]
              refine (o2.block k (by simp; omega) k3).trans ?_
              exact (Below.heap_alloc w3 _ k (by omega)).trans (HB3.out.block k hk)
            · have e : k = g' := by simpa [Value.ownBlock] using e
              subst e
              rcases o3 with o3 | o3
              · exact hne o3.symm
              · simp at o3; omega
          have HF5 := Lib.hid f5
          have HK5 := Lib.hid k5
          have HS5 := Lib.hid S5
          have HB5 := Lib.hid b5
          have c5 := S5.c0
          clear S5 b5 k5 f5 o1 o2 o3 o4 k0 y0 y1 y2 y3 c0 x0 x1 x2 x3
          go_wp2_with fail
          go_ret2
          have e : R = ((L.length : Int) + 1, 0, L ++ [⟨k, n, a, b⟩]) := by rw [HR.out]; unfold mk; rw [if_neg (by rw [← HY.out]; decide), HNN.out]; simp only [if_neg HBIG.out]
          rw [e]
          exact ⟨_, rfl, by first | exact HS5.out | exact HS5.out.drewN _, by first | exact HB5.out | exact below_drewN HB5.out _, by first | exact HK5.out | exact HK5.out.trans (KR.of_below (below_drewN (Below.refl _ _) _)), by exact HF5.out⟩
end Go.Proofs.YtenaljhkdnhgpaaGreatDoor.T
