/- The walk of TermLists. -/
import Derived.Test.YtbngiimhkgdjeaaListsP
import Derived.OpenShut
namespace Go.Proofs.Ytbngiimhkgdjeaa
open Go.RowKit

theorem IRd.below' {w w' : World} {v : Value} {l : List Int} {B : Nat} (h : IRd w v l) (hB : B = w.heap.size) (hb : Below B w w') : IRd w' v l := by
  subst hB
  obtain ⟨A, c, rfl, h1, h2⟩ := h
  refine ⟨A, c, rfl, h1, fun hne => ?_⟩
  obtain ⟨b, o, rfl, h3⟩ := h2 hne
  exact ⟨b, o, rfl, fun i x hi => (hb.cell (p := ⟨b, o + i, none⟩) (World.block_lt_of_cell? w _ (h3 i x hi))).trans (h3 i x hi)⟩
theorem Fs.typed {w w' : World} {B g m : Nat} {L : List Tm} {v v1 : Value} (hS : St w B g m L v) (h : Fs w w' g m v v1) {k : Nat} {cs : Array Value} {T : TypeId} {fr : Nat × Nat} (hk : w.heap[k]? = some (.cells cs T fr)) (h1 : T ≠ 57) (h2 : T ≠ 30) : w'.heap[k]? = some (.cells cs T fr) := by
  obtain ⟨D, ⟨es, clock, hm, _⟩, _⟩ := hS.map
  refine (h.1 k (lt_of_some hk) (ne_typed hk hS.blk (by intro e; injection e with _ e; exact h1 e)) (ne_typed hk hm (by intro e; cases e)) fun e => ?_).trans hk
  obtain ⟨cur, hc⟩ := row_typed hS.row k e.symm
  exact ne_typed hk hc (by intro e; injection e with _ e; exact h2 e) rfl
theorem Fr.typed {w w' : World} {B g : Nat} {L : List Tm} {v v1 : Value} (hS : RSt w B g L v) (h : Fr w w' g v v1) {k : Nat} {cs : Array Value} {T : TypeId} {fr : Nat × Nat} (hk : w.heap[k]? = some (.cells cs T fr)) (h1 : T ≠ 73) (h2 : T ≠ 30) : w'.heap[k]? = some (.cells cs T fr) := by
  refine (h.1 k (lt_of_some hk) (ne_typed hk hS.blk (by intro e; injection e with _ e; exact h1 e)) fun e => ?_).trans hk
  obtain ⟨cur, hc⟩ := row_typed hS.row k e.symm
  exact ne_typed hk hc (by intro e; injection e with _ e; exact h2 e) rfl
theorem TwinAt.below {w w' : World} {T b : Nat} {l : List Int} (h : TwinAt w T b l) (hb : Below w.heap.size w w') : TwinAt w' T b l := (hb.block b (lt_of_some h)).trans h
theorem TwinAt.own {w : World} {T b : Nat} {l : List Int} (h : TwinAt w T b l) (hs : l.length ≤ 4096) : w.ownsRow 0 T 1 (.slice (some ⟨b, 0, none⟩) l.length (l.length + 2)) l.length (l.map (Value.int .i64)) :=
  ⟨by simp, .inr ⟨b, _, _, rfl, Nat.zero_le _, h, by omega, by unfold maxLen; omega, by simp [want_length], by simp [want]⟩⟩
theorem same (gm na : Nat) (b : Int) (vm : Value) (ms : List Int) (Bm : Nat) (w : World) (hb : w.heap[gm]? = some (.cells #[vm] 63 (0, 0))) (hm : OI w Bm vm ms) (ha : ms[na]? = some b) :
    Calls Try.prog 22 #[.pointer (some ⟨gm, 0, none⟩), .int .i64 na, .int .i64 b] w fun e w' => e = .returned (.bool true) ∧ w = w' := by
  have hlt := (List.getElem?_eq_some_iff.1 ha).1
  obtain ⟨A, c, rfl, hA⟩ := hm.slice
  obtain ⟨bm, rfl⟩ := hA (by omega)
  have m0 : w.cell? ⟨gm, 0, none⟩ = some (.slice (some ⟨bm, 0, none⟩) ms.length c) := by rw [cell_of_row w gm 0 _ _ _ hb]; rfl
  have c1 := hm.il.cell rfl na b ha
  have i1 : (0 : Int) ≤ (na : Int) := by omega
  have i2 : (na : Int) < (ms.length : Int) := by omega
  have t1 : decide ((na : Int) < 0) = false := decide_eq_false (by omega)
  have t2 : decide ((na : Int) < (ms.length : Int)) = true := decide_eq_true i2
  have t3 : decide (na < ms.length) = true := decide_eq_true hlt
  clear ha hm hb hA
  go_enter Try.func22, Try.ntmps22
  go_wp2
  go_ret
  exact ⟨rfl, rfl⟩
set_option maxHeartbeats 4000000 in
set_option maxRecDepth 100000 in
theorem termLists (l : List Tm) (la lb : List Int) (v va vb : Value) (w : World) (hat : AT w v l) (hwf : ∀ t ∈ l, Tm.wf t) (hia : IRd w va la) (hib : IRd w vb lb) (hwb : ∀ x ∈ lb, (Lit.int .i64 x).wf = true) :
    Calls Try.prog 4 #[v, va, vb] w fun e w' => e = .returned (.bool true) ∧ Below w.heap.size w w' := by
  obtain ⟨A, n, c, rfl, hn⟩ : ∃ A n c, v = .slice A n c ∧ n = l.length := by
    rcases hat with ⟨h1, h2⟩ | ⟨a, c, h1, _⟩
    · exact ⟨_, _, _, h1, by rw [h2]; rfl⟩
    · exact ⟨_, _, _, h1, rfl⟩
  obtain ⟨Aa, na, ca, rfl, hna⟩ : ∃ A n c, va = .slice A n c ∧ n = la.length := by obtain ⟨A, c, h, _⟩ := hia; exact ⟨_, _, _, h, rfl⟩
  obtain ⟨Ab, nb, cb, rfl, hnb⟩ : ∃ A n c, vb = .slice A n c ∧ n = lb.length := by obtain ⟨A, c, h, _⟩ := hib; exact ⟨_, _, _, h, rfl⟩
  by_cases hbig : 2000 < n
  · have q1 : decide ((n : Int) > 2000) = true := decide_eq_true (by omega)
    clear hn hna hnb hat hia hib hwf hwb
    go_enter Try.func4, Try.ntmps4
    go_wp2
    go_ret
    exact ⟨rfl, Below.refl _ _⟩
  by_cases hbiga : 200 < na
  · have q1 : decide ((n : Int) > 2000) = false := decide_eq_false (by omega)
    have q2 : decide ((na : Int) > 200) = true := decide_eq_true (by omega)
    clear hn hna hnb hat hia hib hwf hwb
    go_enter Try.func4, Try.ntmps4
    go_wp2
    go_ret
    exact ⟨rfl, Below.refl _ _⟩
  by_cases hbigb : 200 < nb
  · have q1 : decide ((n : Int) > 2000) = false := decide_eq_false (by omega)
    have q2 : decide ((na : Int) > 200) = false := decide_eq_false (by omega)
    have q3 : decide ((nb : Int) > 200) = true := decide_eq_true (by omega)
    clear hn hna hnb hat hia hib hwf hwb
    go_enter Try.func4, Try.ntmps4
    go_wp2
    go_ret
    exact ⟨rfl, Below.refl _ _⟩
  have q1 : decide ((n : Int) > 2000) = false := decide_eq_false (by omega)
  have q2 : decide ((na : Int) > 200) = false := decide_eq_false (by omega)
  have q3 : decide ((nb : Int) > 200) = false := decide_eq_false (by omega)
  have M1 := build l _ w hat hwf (by omega)
  have HIA := Lib.hid hia
  have HIB := Lib.hid hib
  have HWB := Lib.hid hwb
  have HNN := Lib.hid (And.intro hn (And.intro hna (And.intro hnb (show n ≤ 2000 ∧ na ≤ 200 ∧ nb ≤ 200 by omega))))
  clear hn hna hnb hat hia hib hwf hwb
  go_enter Try.func4, Try.ntmps4
  go_wp2_with (go_at_call 14; with_reducible refine M1.mono ?_; rintro e w1 ⟨g, m, gr, L, v1, vr, rfl, T1, F1, L1, B1⟩)
  have HT1 := Lib.hid T1
  have HF1 := Lib.hid F1
  have HL1 := Lib.hid L1
  have HB1 := Lib.hid B1
  have hz1 := B1.size
  have M2 := twin _ la (by have := HNN.out; omega) w1 (HIA.out.below' rfl B1)
  clear M1 T1 F1 L1 B1
  go_wp2_with fail
  with_reducible refine M2.mono ?_
  rintro e w2 ⟨ba, rfl, A2, hba, B2⟩
  have HT2 := Lib.hid (HT1.out.below B2)
  have HB2 := Lib.hid (HB1.out.trans (B2.mono hz1))
  have HA2 := Lib.hid A2
  have M3 := twinW _ lb (by have := HNN.out; omega) w2 (HIB.out.below' rfl HB2.out)
  clear M2 A2 B2
  go_wp2_with fail
  with_reducible refine M3.mono ?_
  rintro e w3 ⟨bb, rfl, A3, hbb, B3⟩
  have hz2 := HB2.out.size
  have HT3 := Lib.hid (HT2.out.below B3)
  have HB3 := Lib.hid (HB2.out.trans (B3.mono hz2))
  have HA3 := Lib.hid (HA2.out.below B3)
  have HC3 := Lib.hid A3
  have M4 := list_any w.heap.size g m L v1 _ la 0 (by have := HNN.out; omega) HF1.out.1.1 w3 HT3.out.st (HA3.out.own (by have := HNN.out; omega))
  have R4 := listS_rg HF1.out la
  have HR4 := Lib.hid R4
  clear M3 A3 B3 R4
  generalize hq4 : listS L la = q4 at *
  obtain ⟨x4, e4, L4⟩ := q4
  have HQ4 := Lib.hid hq4
  clear hq4
  dsimp only at M4
  go_wp2_with fail
  with_reducible refine M4.mono ?_
  rintro e w4 ⟨v4, rfl, S4, B4, _, K4⟩
  have hz3 := HB3.out.size
  have HT4 := Lib.hid (HT3.out.s_step S4 K4 B4.size)
  have HA4 := Lib.hid (show TwinAt w4 3 ba la from K4.typed HT3.out.st HA3.out (by decide) (by decide))
  have HC4 := Lib.hid (show TwinAt w4 2 bb lb from K4.typed HT3.out.st HC3.out (by decide) (by decide))
  have HB4 := Lib.hid (HB3.out.trans B4)
  have M5 := rlist w.heap.size gr L vr _ la (by have := HNN.out; omega) HF1.out.1.1 w4 HT4.out.rst (HIA.out.below' rfl HB4.out) (fun w' h1 _ => HIA.out.below' rfl (HB4.out.trans h1))
  rw [HQ4.out] at M5
  dsimp only at M5
  clear M4 S4 B4 K4
  go_wp2_with fail
  with_reducible refine M5.mono ?_
  rintro e w5 ⟨v5, rfl, S5, B5, _, K5⟩
  have HT5 := Lib.hid (HT4.out.r_step S5 K5 B5.size)
  have HA5 := Lib.hid (show TwinAt w5 3 ba la from K5.typed HT4.out.rst HA4.out (by decide) (by decide))
  have HC5 := Lib.hid (show TwinAt w5 2 bb lb from K5.typed HT4.out.rst HC4.out (by decide) (by decide))
  have HB5 := Lib.hid (HB4.out.trans B5)
  have M6 := data_any w.heap.size g m L4 v4 bb (lb.length + 2) lb.length lb rfl (by have := HNN.out; omega) HWB.out HR4.out.full.1.1 w5 HT5.out.st (HC5.out.own (by have := HNN.out; omega))
  have R6 := dataS_rg lb L4 [] HR4.out.full HWB.out
  have HR6 := Lib.hid R6
  clear M5 S5 B5 K5 R6
  generalize hq6 : dataS L4 [] lb = q6 at *
  obtain ⟨x6, e6, L6⟩ := q6
  have HQ6 := Lib.hid hq6
  dsimp only at M6
  clear hq6
  go_wp2_with fail
  with_reducible refine M6.mono ?_
  rintro e w6 ⟨v6, rfl, S6, B6, K6⟩
  have HT6 := Lib.hid (HT5.out.s_step S6 K6 B6.size)
  have HA6 := Lib.hid (show TwinAt w6 3 ba la from K6.typed HT5.out.st HA5.out (by decide) (by decide))
  have HC6 := Lib.hid (show TwinAt w6 2 bb lb from K6.typed HT5.out.st HC5.out (by decide) (by decide))
  have HB6 := Lib.hid (HB5.out.trans B6)
  have M7 := rdata w.heap.size gr L4 v5 _ lb (by have := HNN.out; omega) HR4.out.full.1.1 w6 HT6.out.rst (fun w' h1 => HIB.out.below' rfl (HB6.out.trans h1))
  rw [HQ6.out] at M7
  dsimp only at M7
  clear M6 S6 B6 K6
  go_wp2_with fail
  with_reducible refine M7.mono ?_
  rintro e w7 ⟨v7, rfl, S7, B7, K7⟩
  have HT7 := Lib.hid (HT6.out.r_step S7 K7 B7.size)
  have HA7 := Lib.hid (show TwinAt w7 3 ba la from K7.typed HT6.out.rst HA6.out (by decide) (by decide))
  have HC7 := Lib.hid (show TwinAt w7 2 bb lb from K7.typed HT6.out.rst HC6.out (by decide) (by decide))
  have HB7 := Lib.hid (HB6.out.trans B7)
  have hbd : L6.length ≤ 20000 := by
    have h1 := HR4.out.bd
    have h2 := HR6.out.bd
    have h3 := HL1.out
    have h4 := HNN.out
    simp only [List.length_nil] at h2
    dsimp only at h1 h2
    omega
  have M8 := across L6 HR6.out.full.1 (acr_ok HR6.out.full) hbd w7 HT7.out
  rw [acr_id HR6.out.full L6.length (Nat.le_refl _)] at M8
  dsimp only at M8
  clear M7 S7 B7 K7 hbd
  go_wp2_with fail
  with_reducible refine M8.mono ?_
  rintro e w8 ⟨gm, vm, vr8, rfl, A8, B8, K8, hgm⟩
  have HA8 := Lib.hid (show TwinAt w8 3 ba la from K8.typed HT7.out.rst HA7.out (by decide) (by decide))
  have HC8 := Lib.hid (show TwinAt w8 2 bb lb from K8.typed HT7.out.rst HC7.out (by decide) (by decide))
  have HB8 := Lib.hid (HB7.out.trans B8)
  obtain ⟨n4, hn4⟩ : ∃ k : Nat, x4 = k := ⟨x4.toNat, by have := HR4.out.lo; dsimp only at this; omega⟩
  obtain ⟨n6, hn6⟩ : ∃ k : Nat, x6 = k := ⟨x6.toNat, by have := HR6.out.lo; dsimp only at this; omega⟩
  have M9 := same gm n4 n4 vm (ident L6.length) w7.heap.size w8 A8.mblk A8.mrow (ident_get _ _ (by have h1 := HR4.out.hi; have h2 := HR6.out.mono; dsimp only at h1 h2; omega))
  have M10 := same gm n6 n6 vm (ident L6.length) w7.heap.size w8 A8.mblk A8.mrow (ident_get _ _ (by have h1 := HR6.out.hi; dsimp only at h1; omega))
  have M11 := leftNumbers _ ba la (by have := HNN.out; omega) w8 HA8.out (HIA.out.below' rfl HB8.out)
  have M12 := fun j => leftWides _ bb lb (by have := HNN.out; omega) (w8.drewN j) (HC8.out.below (below_drewN (Below.refl _ _) j)) (HIB.out.below' rfl (below_drewN HB8.out j))
  rw [← hn4] at M9
  rw [← hn6] at M10
  have hz8 := HB8.out.size
  clear M8 A8 B8 K8 hn4 hn6
  go_wp2_with fail
  with_reducible refine M9.mono ?_
  rintro e w' ⟨rfl, rfl⟩
  go_wp2_with fail
  with_reducible refine M10.mono ?_
  rintro e w' ⟨rfl, rfl⟩
  go_wp2_with fail
  with_reducible refine M11.mono ?_
  rintro e w' ⟨rfl, j, rfl⟩
  go_wp2_with fail
  with_reducible refine (M12 j).mono ?_
  rintro e w' ⟨rfl, j2, rfl⟩
  clear M9 M10 M11 M12
  go_wp2_with fail
  with_reducible refine (lives _).mono ?_
  rintro e w9 ⟨rfl, B9⟩
  go_wp2_with fail
  go_ret
  exact ⟨rfl, (below_drewN HB8.out (j + j2)).trans (B9.mono hz8)⟩
open Go.ChangeShapes Go.WideShapes Go.ChangeAt in
theorem open_ird {H : Type} {enc : TypeId × Value → H} {w : World} {v : Value} {d : DataW H} {p : List MemPlace} {base t e : Nat} {r : Reach} (ht : Try.prog.underlying t = some (.slice e)) (he : Try.prog.underlying e = some (.int .i64)) (hc : Try.prog.cellsOf e = 1) (hv : Value.okWide Try.prog w r base t v) (h : DataW.Trod enc Try.prog w 0 (fun _ => true) true t v d p) :
    ∃ l, IRd w v l ∧ ∀ x ∈ l, (Lit.int .i64 x).wf = true := by
  obtain ⟨A, len, cap, rfl⟩ := okWide_slice ht hv
  obtain ⟨fuel, hf⟩ := h
  rcases open_ints ht he hc hf with ⟨hcs, _⟩ | ⟨x, l, c, zs, hcs, _, hl, hm, hz, _, hcell, hwz⟩
  · simp [Value.cells] at hcs
    obtain ⟨rfl, rfl, rfl⟩ := hcs
    exact ⟨[], ⟨none, 0, rfl, by simp, fun h => absurd rfl h⟩, fun x hx => by cases hx⟩
  · simp [Value.cells] at hcs
    obtain ⟨rfl, rfl, rfl⟩ := hcs
    have hz' : zs.length = cap := by simpa using hz
    have hll : (zs.take len).length = len := by rw [List.length_take]; omega
    refine ⟨zs.take len, ⟨some x, cap, by rw [hll], by rw [hll]; unfold maxLen at hm; omega, fun hne => ?_⟩, fun y hy => hwz y (List.mem_of_mem_take hy)⟩
    have hp : 0 < len := by
      rcases Nat.eq_zero_or_pos len with h0 | h0
      · subst h0; simp at hne
      · exact h0
    have hs := World.cell?_spot (hcell 0 (by omega))
    obtain ⟨b, o, q⟩ := x
    have hs : q = none := by simpa [Addr.add] using hs
    subst hs
    refine ⟨b, o, rfl, fun i y hi => ?_⟩
    have hi1 : i < len := by have := (List.getElem?_eq_some_iff.1 hi).1; omega
    have h2 := hcell i (by omega)
    rw [add_off] at h2
    rw [h2]
    rw [List.getElem?_take_of_lt hi1] at hi
    simp [List.getD_eq_getElem?_getD, hi]
end Go.Proofs.Ytbngiimhkgdjeaa
