/- TreeSets: the walk. -/
import Derived.Test.YtnahhclflnjmcaaGreatDoorXP
import Derived.Test.YtnahhclflnjmcaaGreatDoorXW
namespace Go.Proofs.YtnahhclflnjmcaaGreatDoor
open Go Go.RowKit Go.Proofs.YtnahhclflnjmcaaGreatDoor.Bk
set_option linter.unusedVariables false
set_option linter.unusedSimpArgs false
set_option maxRecDepth 100000

theorem _root_.Go.World.rowIs.under {w w' : World} {b t n : Nat} {f : Nat → Value} (h : w.rowIs b t n f) (hb : Below w.heap.size w w') : w'.rowIs b t n f := h.of_block (hb.block b h.lt)
theorem heldc_alloc {wr w' : World} {p : Addr} {x : Value} {o : Obj} (h : w'.cell? p = some x ∧ Below wr.heap.size wr w') : (w'.alloc o).cell? p = some x ∧ Below wr.heap.size wr (w'.alloc o) := heldc_call h ((Below.refl _ _).alloc (Nat.le_refl _) _)
theorem heldc_set {wr w' : World} {p : Addr} {x z : Value} {g : Nat} (h : w'.cell? p = some x ∧ Below wr.heap.size wr w') (hp : p.block < wr.heap.size) (hg : wr.heap.size ≤ g) : (w'.setCell ⟨g, 0, none⟩ z).cell? p = some x ∧ Below wr.heap.size wr (w'.setCell ⟨g, 0, none⟩ z) := by
  have hb := h.2.setCell (p := ⟨g, 0, none⟩) hg z
  exact ⟨by rw [hb.cell hp, ← h.2.cell hp]; exact h.1, hb⟩
theorem twinI {v : Value} {l : List Int} {w : World} (h : Ints w v l) (hs : l.length ≤ 1000000) :
    Calls Tryz.prog 31 #[v] w fun e w' => ∃ v', e = .returned v' ∧ Ints w' v' l ∧ Below w.heap.size w w' :=
  (twinNums v l w h hs).mono fun e w' h => ⟨_, h.out, row_ints h.row rfl (by unfold maxLen; omega), h.bel⟩
theorem box_first2 {w w' : World} {t : TypeId} {z : Value} (h : Below (w.alloc (.cells #[z] t)).drew.heap.size (w.alloc (.cells #[z] t)).drew w') : w'.cell? ⟨w.heap.size, 0, none⟩ = some z ∧ w'.frozen? ⟨w.heap.size, 0, none⟩ = false ∧ w.heap.size < w'.heap.size := by
  have hs := h.size
  simp at hs
  refine ⟨?_, ?_, by omega⟩
  · rw [h.cell (by simp)]
    exact cell_one_new w z t 0 z rfl
  · rw [h.frozen (by simp)]
    exact frozen_of_row _ _ _ _ _ (heap_alloc_new w _)
/-- What the two calls answer. -/
theorem sets_say (n : Nat) (F : Nat → Node) (i ep pub : Int) (ps : List Int) (hn : n ≤ 262144) (hun : ∀ y, y < n → (F y).un.length ≤ 1000000) (hi : (Lit.int .i64 i).wf = true) :
    ∃ (nX : Nat) (FX : Nat → Node) (z : Int), (nX ≤ 15 ∧ ∀ y, y < nX → (FX y).un.length ≤ 8) ∧
      (∀ W v vp, Tab W → TrR W v n F → Ints W vp ps → Calls Tryz.prog 32 #[.agg #[v], .int .i64 i, .int .i64 ep, .int .i64 pub, vp] W fun e w' => ∃ v', e = .returned (.tuple #[.agg #[v'], .int .i64 z]) ∧ TrY w' W.heap.size v' nX FX ∧ Below W.heap.size W w') ∧
      (∀ W v vp, 0 < W.heap.size → TrR W v n F → Ints W vp ps → Calls Tryz.prog 33 #[.agg #[v], .int .i64 i, .int .i64 ep, .int .i64 pub, vp] W fun e w' => ∃ v' uv, e = .returned (.tuple #[.agg #[v'], .int .i64 z]) ∧ RwT w' W.heap.size v' nX FX uv ∧ Below W.heap.size W w') :=
  ⟨setRn n F i ep pub ps, setRF n F i ep pub ps, setE n F i ep pub ps, setR_len n F i ep pub ps, fun W v vp hT hR hP => set_q v n F i ep pub vp ps W hT hR hn hP, fun W v vp hp hR hP => rset_q v n F i ep pub vp ps W hp hR hun hi hP⟩
set_option maxHeartbeats 16000000 in
theorem sets_nil (v : Value) (n : Nat) (F : Nat → Node) (i ep : Int) (vp : Value) (w : World) (hT : Tab w) (hR : TrR w v n F) (hub : ∀ y, y < n → (F y).un.length ≤ 17592186044416) (hi : (Lit.int .i64 i).wf = true) (hP : Ints w vp []) (hpl : True) :
    Calls Tryz.prog 5 #[.agg #[v], .int .i64 i, .int .i64 ep, vp] w fun e w' => e = .returned (.bool true) ∧ Below w.heap.size w w' := by
  have hpos := hT.pos
  have HT := Lib.hid hT
  have HUB := Lib.hid hub
  have HI := Lib.hid hi
  have HWF := Lib.hid hR.wf
  obtain ⟨A, c, rfl, -, -, -⟩ := id hR
  obtain ⟨Ap, cp, rfl, -, -, -⟩ := id hP
  rw [show ([] : List Int).length = 0 from rfl] at hP ⊢
  obtain ⟨W0, hW0⟩ : ∃ W0, W0 = w.alloc (.cells #[.slice A n c] 24) := ⟨_, rfl⟩
  have hb0 : Below w.heap.size w W0 := by rw [hW0]; exact (Below.refl _ _).alloc (Nat.le_refl _) _
  have hx0 : W0.cell? ⟨w.heap.size, 0, none⟩ = some (.slice A n c) := by rw [hW0]; exact cell_one_new w _ 24 0 _ rfl
  have C0 : Hid (Cl W0 [(⟨w.heap.size, 0, none⟩, .slice A n c)]) := Lib.hid fun x hx => by
    obtain rfl := List.mem_singleton.1 hx
    exact hx0
  have R0 := Lib.hid (hR.below hb0)
  have PI0 := Lib.hid (hP.below hb0)
  have B0 := Lib.hid hb0
  have M0 := size9u (.slice A n c) n F W0 R0.out HUB.out
  have l0 := World.block_lt_of_cell? _ _ hx0
  clear hR hub hi hP hb0
  go_enter Tryz.func5, Tryz.ntmps5
  go_wp2_with fail
  rw [← hW0]
  clear hW0
  refine M0.mono ?_
  rintro e' w1 ⟨s, rfl, hs, hb1⟩
  have HS := Lib.hid hs
  have C1 := Lib.hid (C0.out.below hb1)
  have R1 := Lib.hid (R0.out.below hb1)
  have PI1 := Lib.hid (PI0.out.below hb1)
  have B1 := Lib.hid (B0.out.trans (hb1.mono B0.out.size))
  clear hs hb1 HUB M0 C0 R0 B0 PI0 hx0 l0
  obtain ⟨W2, hW2⟩ : ∃ W2, W2 = w1.alloc (.cells #[.int .i64 s, .int .i64 (0 : Nat)] 3) := ⟨_, rfl⟩
  have hz : Below w1.heap.size w1 W2 := by rw [hW2]; exact (Below.refl _ _).alloc (Nat.le_refl _) _
  have hBI : Ints W2 (.slice (some ⟨w1.heap.size, 0, none⟩) 2 2) [s, ((0 : Nat) : Int)] := by
    refine ⟨_, _, rfl, by simp, by unfold maxLen; omega, fun _ => ⟨w1.heap.size, 0, rfl, fun j y hj => ?_⟩⟩
    rw [hW2, cell_of_row _ _ _ _ _ _ (heap_alloc_new w1 _)]
    have hj2 : j = 0 ∨ j = 1 := by have := (List.getElem?_eq_some_iff.1 hj).1; simp at this; omega
    rcases hj2 with rfl | rfl
    · simpa using hj
    · simpa using hj
  have MB := beyond _ _ W2 hBI (by simp)
  go_wp2_with fail
  rw [show (w1.alloc (.cells #[.int .i64 s, .int .i64 (0)] 3)) = W2 from hW2.symm]
  refine MB.mono ?_
  rintro e' w2 ⟨rfl, rfl⟩
  have C2 := Lib.hid (C1.out.below hz)
  have R2 := Lib.hid (R1.out.below hz)
  have PI2 := Lib.hid (PI1.out.below hz)
  have B2 := Lib.hid (B1.out.trans (hz.mono B1.out.size))
  clear hW2 hz C1 R1 B1 PI1 hBI MB
  cases hbd : bey 0 [s, ((0 : Nat) : Int)] with
  | true =>
    clear HS hbd
    go_wp2_with fail
    go_ret
    exact ⟨rfl, B2.out⟩
  | false =>
    have hs1 := (bey_no hbd s (.head _)).2
    have hs2 := (bey_no hbd _ (.tail _ (.head _))).2
    obtain ⟨hn, hu⟩ := HS.out hs1
    have HU := Lib.hid (fun y hy => Nat.le_trans (hu y hy) (by decide : 262144 ≤ 1000000))
    obtain ⟨nX, FX, z, hbnd, kA, kR⟩ := sets_say n F i ep 1 [] hn HU.out HI.out
    have KA := Lib.hid kA
    have KR := Lib.hid kR
    have HBND := Lib.hid hbnd
    have hn2 : n ≤ 262144 := hn
    have hs3 : 0 ≤ 262144 := by omega
    have x0 : W2.cell? ⟨w.heap.size, 0, none⟩ = some (.slice A n c) := C2.out _ (.head _)
    have l0 := World.block_lt_of_cell? _ _ x0
    clear HS hbd hu kA kR hbnd hs1 hs2
    go_wp2_with fail
    refine (twinTree (.slice A n c) n F W2 R2.out hn2 HU.out).mono ?_
    rintro e' w3a ⟨rfl, hit, hb⟩
    obtain ⟨ub, hTw⟩ := hit
    obtain ⟨b, hbb⟩ : ∃ b, b = W2.heap.size + 2 := ⟨_, rfl⟩
    rw [← hbb] at hTw ⊢
    have hwb : w.heap.size ≤ b := by have := B2.out.size; omega
    have TB2 := Lib.hid (hTw.trB (t := w3a.heap.size) (L := 1000000) (Nat.le_refl _) hn2 HU.out (Nat.le_refl _))
    have TI2 := Lib.hid hTw
    have TR2 := Lib.hid (hTw.trR hn2 HU.out HWF.out)
    have O2 : Hid (w.heap.size ≤ b ∧ b ≤ w3a.heap.size) := Lib.hid ⟨hwb, by have := hTw.row.lt; omega⟩
    have C2a := Lib.hid (C2.out.below hb)
    have R2a := Lib.hid (R2.out.below hb)
    have PI2a := Lib.hid (PI2.out.below hb)
    have B2a := Lib.hid (B2.out.trans (hb.mono B2.out.size))
    clear x0 l0 hbb hwb hTw hb C2 R2 PI2 B2
    go_wp2_with fail
    have MT := twinNums _ [] w3a PI2a.out (by decide)
    refine MT.mono ?_
    rintro e' w3b ⟨hte, hrow, hb⟩
    rw [show ([] : List Int).length = 0 from rfl] at hte hrow
    obtain ⟨nb, hnb⟩ : ∃ nb, nb = w3a.heap.size := ⟨_, rfl⟩
    rw [← hnb] at hte hrow
    subst hte
    have hNI : Ints w3b (.slice (some ⟨nb, 0, none⟩) 0 2) [] := by
      have := row_ints (c := 2) (l := []) (b := nb) (w := w3b) (by rw [show ([] : List Int).length = 0 from rfl]; exact hrow) (by rfl) (by rw [show ([] : List Int).length = 0 from rfl]; unfold maxLen; omega)
      rw [show ([] : List Int).length = 0 from rfl] at this
      exact this
    clear MT hnb
    go_upto_region 4 with fail
    obtain ⟨W3, hW⟩ : ∃ W, W = w3b.alloc (.cells #[.slice (some ⟨b, 0, none⟩) n (n + 2)] 24) := ⟨_, rfl⟩
    have hq : Below w3b.heap.size w3b W3 := by rw [hW]; exact (Below.refl _ _).alloc (Nat.le_refl _) _
    have hz : Below w3a.heap.size w3a W3 := hb.trans (hq.mono hb.size)
    have hC := (C2a.out.below hb).box (.slice (some ⟨b, 0, none⟩) n (n + 2)) 24
    rw [← hW] at hC ⊢
    have TB3 := Lib.hid (TB2.out.under hz)
    have TI3 := Lib.hid (TI2.out.below hz)
    have TR3 := Lib.hid (TR2.out.below hz)
    have NR3 := Lib.hid (hrow.under hq)
    have NI3 := Lib.hid (hNI.below hq)
    have R3 := Lib.hid (R2a.out.below hz)
    have PI3 := Lib.hid (PI2a.out.below hz)
    have B3 := Lib.hid (B2a.out.trans (hz.mono B2a.out.size))
    obtain ⟨s3, hs⟩ : ∃ s, s = w3b.heap.size := ⟨_, rfl⟩
    have O3 : Hid (w3a.heap.size ≤ s3 ∧ s3 < W3.heap.size) := Lib.hid ⟨by rw [hs]; exact hb.size, by rw [hs, hW]; simp⟩
    rw [← hs] at hC ⊢
    have C3 := Lib.hid hC
    obtain ⟨S2, hS2⟩ : ∃ S, S = w3a.heap.size := ⟨_, rfl⟩
    rw [← hS2] at O3 O2 TB3
    clear hW hs hq hz hC hb hrow hNI C2a B2a R2a PI2a TB2 TI2 TR2 hS2
    have VI3 : Hid (Ints W3 (.slice none 0 0) ([] : List Int)) := Lib.hid ⟨none, 0, rfl, by simp, by decide, by simp⟩
    clear NI3
    have O4 : Hid (W3.heap.size ≤ W3.heap.size) := Lib.hid (Nat.le_refl _)
    have x0 : W3.cell? ⟨s3, 0, none⟩ = some (.slice (some ⟨b, 0, none⟩) n (n + 2)) := C3.out _ ((.head _))
    have l0 := World.block_lt_of_cell? _ _ x0
    go_wp2_with fail
    refine (KA.out W3 _ _ (HT.out.below hpos B3.out) TR3.out VI3.out).mono ?_
    rintro e' w5x ⟨v', rfl, hY, hb⟩
    obtain ⟨A5, c5, rfl⟩ := hY.slice
    clear x0 l0
    go_upto_region 9 with fail
    obtain ⟨W5, hW⟩ : ∃ W, W = w5x.alloc (.cells #[.slice A5 nX c5] 24) := ⟨_, rfl⟩
    have hq : Below w5x.heap.size w5x W5 := by rw [hW]; exact (Below.refl _ _).alloc (Nat.le_refl _) _
    have hz : Below W3.heap.size W3 W5 := hb.trans (hq.mono hb.size)
    have hC := (C3.out.below hb).box (.slice A5 nX c5) 24
    rw [← hW] at hC ⊢
    have XR5 := Lib.hid (hY.trR.below hq)
    have XB5 := Lib.hid ((hY.trB (t := w5x.heap.size) (L := 1000000) (Nat.le_refl _) (fun y hy => Nat.le_trans (HBND.out.2 y hy) (by decide))).under hq)
    obtain ⟨s5, hs⟩ : ∃ s, s = w5x.heap.size := ⟨_, rfl⟩
    have O5 : Hid (W3.heap.size ≤ s5 ∧ s5 < W5.heap.size) := Lib.hid ⟨by rw [hs]; exact hb.size, by rw [hs, hW]; simp⟩
    rw [← hs] at hC XB5 ⊢
    clear C3
    have R5 := Lib.hid (R3.out.below hz)
    have TI5 := Lib.hid (TI3.out.below hz)
    have TR5 := Lib.hid (TR3.out.below hz)
    have TB5 := Lib.hid (TB3.out.under hz)
    have NR5 := Lib.hid (NR3.out.under hz)
    have PI5 := Lib.hid (PI3.out.below hz)
    have VI5 := Lib.hid (VI3.out.below hz)
    have B5 := Lib.hid (B3.out.trans (hz.mono B3.out.size))
    clear R3 TI3 TR3 TB3 NR3 PI3 VI3 B3
    have C5 := Lib.hid hC
    clear hW hs hq hz hC hb hY
    have x0 : W5.cell? ⟨w.heap.size, 0, none⟩ = some (.slice A n c) := C5.out _ ((.tail _ (.tail _ (.head _))))
    have l0 := World.block_lt_of_cell? _ _ x0
    have hp5 : 0 < W5.heap.size := by omega
    have hHeld : W5.cell? ⟨w.heap.size, 0, none⟩ = some (.slice A n c) ∧ Below W5.heap.size W5 W5 := ⟨x0, Below.refl _ _⟩
    have hrl : ([] : List Int).length ≤ 1000000 := by decide
    have HRL := Lib.hid hrl
    clear x0 hrl
    go_wp2_with fail
    go_region_held3 (fun w' => w'.cell? ⟨w.heap.size, 0, none⟩ = some (.slice A n c) ∧ Below W5.heap.size W5 w') (first | assumption | exact heldb_drew (by assumption) | exact heldc_call (by assumption) (by assumption) | exact heldc_alloc (by assumption) | exact heldc_set (by assumption) l0 (Nat.le_refl _) | exact heldc_set (by assumption) l0 hsa) (first
      | (go_at_call 31; with_reducible refine (twinI (VI5.out.below (heldc_mid (by assumption))) HRL.out).mono ?_; rintro e' wa ⟨va, rfl, hva, hba⟩; have hsa : W5.heap.size ≤ wa.heap.size := by { have := hba.size; simp at this; omega }; have hBa : wa.cell? ⟨w.heap.size, 0, none⟩ = some (.slice A n c) ∧ Below W5.heap.size W5 wa := heldc_call (by assumption) hba; (first | have xa := box_first2 hba | have xa := box_first hba | have xa := True.intro))
      | (go_at_call 33; with_reducible refine (KR.out _ _ _ (Nat.lt_of_lt_of_le hp5 (heldc_mid (by assumption)).size) (R5.out.below (heldc_mid (by assumption))) (by first | exact hva | exact hva.below ((Below.refl _ _).alloc (Nat.le_refl _) _))).mono ?_; rintro e' wb ⟨vb, uvb, rfl, hRb, hbb⟩; obtain ⟨Ab, cb, rfl, -, -⟩ := hRb.slice; have hBb : wb.cell? ⟨w.heap.size, 0, none⟩ = some (.slice A n c) ∧ Below W5.heap.size W5 wb := heldc_call (by assumption) hbb; (first | have xb := box_next hbb xa.1 xa.2.1 xa.2.2 | have xb := box_first' hbb | have xb := True.intro)))

    all_goals (
      first
      | (
        obtain ⟨W6, hW⟩ : ∃ W, W = wb.alloc (.cells #[.slice Ab nX cb] 24) := ⟨_, rfl⟩
        rw [← hW]
        obtain ⟨g, hg⟩ : ∃ g, g = wb.heap.size := ⟨_, rfl⟩
        rw [← hg]
        have hc : W6.cell? ⟨g, 0, none⟩ = some (.slice Ab nX cb) := by rw [hW, hg]; exact cell_one_new wb _ 24 0 _ rfl
        have hz : Below W5.heap.size W5 W6 := by rw [hW]; exact hBb.2.alloc hBb.2.size _
        have hx : TrR W6 (.slice Ab nX cb) nX FX := by rw [hW]; exact hRb.trR.below ((Below.refl _ _).alloc (Nat.le_refl _) _)
        have HZ := Lib.hid (And.intro hc (And.intro hz hx))
        clear hW hg hc hz hx)
      | (
        obtain ⟨W6, hW⟩ : ∃ W, W = wb.setCell ⟨wa.heap.size, 0, none⟩ (.slice Ab nX cb) := ⟨_, rfl⟩
        rw [← hW]
        obtain ⟨g, hg⟩ : ∃ g, g = wa.heap.size := ⟨_, rfl⟩
        rw [← hg]
        have hc : W6.cell? ⟨g, 0, none⟩ = some (.slice Ab nX cb) := by rw [hW, hg]; exact World.cell?_setCell_same _ _ _ xb.1
        have hz : Below W5.heap.size W5 W6 := by rw [hW]; exact hBb.2.setCell (p := ⟨wa.heap.size, 0, none⟩) hsa _
        have hx : TrR W6 (.slice Ab nX cb) nX FX := by rw [hW]; exact (hRb.far fun k hk => heap_setCell_other wb ⟨wa.heap.size, 0, none⟩ k _ (fun e => by simp at hk; simp at e; omega)).trR
        have HZ := Lib.hid (And.intro hc (And.intro hz hx))
        clear hW hg hc hz hx)
      | (
        obtain ⟨W6, hW⟩ : ∃ W, W = wb.setCell ⟨W5.heap.size, 0, none⟩ (.slice Ab nX cb) := ⟨_, rfl⟩
        rw [← hW]
        obtain ⟨g, hg⟩ : ∃ g, g = W5.heap.size := ⟨_, rfl⟩
        rw [← hg]
        have hc : W6.cell? ⟨g, 0, none⟩ = some (.slice Ab nX cb) := by rw [hW, hg]; exact World.cell?_setCell_same _ _ _ xb.1
        have hz : Below W5.heap.size W5 W6 := by rw [hW]; exact hBb.2.setCell (p := ⟨W5.heap.size, 0, none⟩) (Nat.le_refl _) _
        have hx : TrR W6 (.slice Ab nX cb) nX FX := by rw [hW]; exact (hRb.far fun k hk => heap_setCell_other wb ⟨W5.heap.size, 0, none⟩ k _ (fun e => by have := xa.2.2; simp at e; omega)).trR
        have HZ := Lib.hid (And.intro hc (And.intro hz hx))
        clear hW hg hc hz hx)
      clear hva hba hbb hRb hBa hBb hsa xa xb l0 hp5
      obtain ⟨hc, hz, hx⟩ := HZ.out
      have C6 : Hid (Cl W6 ((⟨g, 0, none⟩, .slice Ab nX cb) :: [(⟨s5, 0, none⟩, .slice A5 nX c5), (⟨s3, 0, none⟩, .slice (some ⟨b, 0, none⟩) n (n + 2)), (⟨w.heap.size, 0, none⟩, .slice A n c)])) := Lib.hid fun x hx => by
        rcases List.mem_cons.1 hx with rfl | hx
        · exact hc
        · exact (C5.out.below hz) x hx
      have XQ6 := Lib.hid hx
      have O6 : Hid (W5.heap.size ≤ W6.heap.size) := Lib.hid hz.size
      clear C5 VI5 TR5 hc hx HZ
      have R6 := Lib.hid (R5.out.below hz)
      have TI6 := Lib.hid (TI5.out.below hz)
      have TB6 := Lib.hid (TB5.out.under hz)
      have NR6 := Lib.hid (NR5.out.under hz)
      have PI6 := Lib.hid (PI5.out.below hz)
      have XR6 := Lib.hid (XR5.out.below hz)
      have XB6 := Lib.hid (XB5.out.under hz)
      have B6 := Lib.hid (B5.out.trans (hz.mono B5.out.size))
      clear R5 TI5 TB5 NR5 PI5 XR5 XB5 B5
      clear hz
      have x0 : W6.cell? ⟨s5, 0, none⟩ = some (.slice A5 nX c5) := C6.out _ ((.tail _ (.head _)))
      have x1 : W6.cell? ⟨g, 0, none⟩ = some (.slice Ab nX cb) := C6.out _ ((.head _))
      have l0 := World.block_lt_of_cell? _ _ x0
      have l1 := World.block_lt_of_cell? _ _ x1
      go_wp2_with fail
      refine (sameTree nX _ _ FX W6 XR6.out XQ6.out (by have := HBND.out.1; omega)).mono ?_
      rintro e' W7 ⟨rfl, hz⟩
      have O7 : Hid (W6.heap.size ≤ W7.heap.size) := Lib.hid hz.size
      have R7 := Lib.hid (R6.out.below hz)
      have TI7 := Lib.hid (TI6.out.below hz)
      have TB7 := Lib.hid (TB6.out.under hz)
      have NR7 := Lib.hid (NR6.out.under hz)
      have PI7 := Lib.hid (PI6.out.below hz)
      have XR7 := Lib.hid (XR6.out.below hz)
      have XB7 := Lib.hid (XB6.out.under hz)
      have C7 := Lib.hid (C6.out.below hz)
      have XQ7 := Lib.hid (XQ6.out.below hz)
      have B7 := Lib.hid (B6.out.trans (hz.mono B6.out.size))
      clear R6 TI6 TB6 NR6 PI6 XR6 XB6 C6 XQ6 B6
      clear hz x0 l0 x1 l1
      have x0 : W7.cell? ⟨s3, 0, none⟩ = some (.slice (some ⟨b, 0, none⟩) n (n + 2)) := C7.out _ ((.tail _ (.tail _ (.head _))))
      have x1 : W7.cell? ⟨w.heap.size, 0, none⟩ = some (.slice A n c) := C7.out _ ((.tail _ (.tail _ (.tail _ (.head _)))))
      have l0 := World.block_lt_of_cell? _ _ x0
      have l1 := World.block_lt_of_cell? _ _ x1
      go_wp2_with fail
      refine (leftTree _ b n c A F ub W7 TI7.out R7.out hn2 HU.out).mono ?_
      rintro e' W8 ⟨rfl, hz⟩
      have O8 : Hid (W7.heap.size ≤ W8.heap.size) := Lib.hid hz.size
      have R8 := Lib.hid (R7.out.below hz)
      have TI8 := Lib.hid (TI7.out.below hz)
      have TB8 := Lib.hid (TB7.out.under hz)
      have NR8 := Lib.hid (NR7.out.under hz)
      have PI8 := Lib.hid (PI7.out.below hz)
      have XR8 := Lib.hid (XR7.out.below hz)
      have XB8 := Lib.hid (XB7.out.under hz)
      have C8 := Lib.hid (C7.out.below hz)
      have XQ8 := Lib.hid (XQ7.out.below hz)
      have B8 := Lib.hid (B7.out.trans (hz.mono B7.out.size))
      clear R7 TI7 TB7 NR7 PI7 XR7 XB7 C7 XQ7 B7
      clear hz x0 l0 x1 l1
      have ML := leftNums nb cp Ap [] W8 (by rw [show ([] : List Int).length = 0 from rfl]; exact NR8.out) (by rw [show ([] : List Int).length = 0 from rfl]; exact PI8.out) (by rw [show ([] : List Int).length = 0 from rfl]; omega)
      rw [show ([] : List Int).length = 0 from rfl] at ML
      go_wp2_with fail
      refine (ML).mono ?_
      rintro e' W9 ⟨rfl, nd, hnd⟩
      have hz : Below W8.heap.size W8 W9 := by rw [hnd]; exact ⟨rfl, rfl, rfl, Nat.le_refl _, fun _ _ => rfl⟩
      clear hnd
      have O9 : Hid (W8.heap.size ≤ W9.heap.size) := Lib.hid hz.size
      have R9 := Lib.hid (R8.out.below hz)
      have TI9 := Lib.hid (TI8.out.below hz)
      have TB9 := Lib.hid (TB8.out.under hz)
      have NR9 := Lib.hid (NR8.out.under hz)
      have PI9 := Lib.hid (PI8.out.below hz)
      have XR9 := Lib.hid (XR8.out.below hz)
      have XB9 := Lib.hid (XB8.out.under hz)
      have C9 := Lib.hid (C8.out.below hz)
      have XQ9 := Lib.hid (XQ8.out.below hz)
      have B9 := Lib.hid (B8.out.trans (hz.mono B8.out.size))
      clear R8 TI8 TB8 NR8 PI8 XR8 XB8 C8 XQ8 B8
      clear hz 
      clear ML
      obtain ⟨zz, hz⟩ : ∃ z : Array Value, z = #[.int .i64 0, .slice none 0 0, .slice none 0 0, .slice none 0 0, .slice none 0 0, .slice none 0 0, .slice none 0 0, .slice none 0 0, .slice none 0 0, .slice none 0 0, .slice none 0 0, .slice none 0 0, .slice none 0 0, .slice none 0 0, .slice none 0 0, .slice none 0 0, .slice none 0 0, .slice none 0 0, .slice none 0 0, .slice none 0 0, .slice none 0 0, .slice none 0 0, .slice none 0 0, .slice none 0 0, .slice none 0 0, .slice none 0 0, .slice none 0 0, .slice none 0 0, .slice none 0 0, .slice none 0 0, .slice none 0 0, .slice none 0 0, .slice none 0 0, .slice none 0 0, .slice none 0 0] := ⟨_, rfl⟩
      have hbu := build70 W9
      rw [← hz] at hbu
      have HBU := Lib.hid hbu
      clear hbu
      obtain ⟨WB, hWB⟩ : ∃ W, W = (W9.alloc (.cells zz 70)).setRow W9.heap.size (over zz 0 zz) := ⟨_, rfl⟩
      have hx0 : (W9.alloc (.cells zz 70)).heap[W9.heap.size]? = some (.cells zz 70 (0, 0)) := heap_alloc_new W9 _
      have hzs : zz.size = 35 := by rw [hz]; rfl
      have hzo : ∀ u ∈ zz.toList, u.oneCell' = true := by rw [hz]; simp [Value.oneCell']
      have hfit : 0 + 35 ≤ zz.size := by omega
      have HW := Lib.hid (And.intro hz (And.intro hWB (And.intro hx0 (And.intro hzs (And.intro hzo hfit)))))
      clear hz hWB hx0 hzs hzo hfit
      go_upto_region 13 with (first | (with_reducible refine wpList_build_eq rfl 70 rfl _ HBU.out ?_) | (rw [← HW.out.1]; with_reducible refine wpList_store_part rfl 70 _ _ rfl rfl W9.heap.size 0 35 rfl 70 _ _ rfl HW.out.2.2.1 cells70 HW.out.2.2.2.1 HW.out.2.2.2.2.2 HW.out.2.2.2.2.1 ?_))
      rw [← HW.out.2.1]
      have hbW : Below W9.heap.size W9 WB := by
        rw [HW.out.2.1]
        exact Bk.below_setRow ((Below.refl _ _).alloc (Nat.le_refl _) _) (Nat.le_refl _)
      have hxW : WB.heap[W9.heap.size]? = some (.cells zz 70 (0, 0)) := by
        rw [HW.out.2.1]
        exact (setRow_same HW.out.2.2.1).trans (congrArg (fun y => some (Obj.cells y 70 (0, 0))) (over_full rfl))
      have hnil : ∀ j, 1 ≤ j → j < 35 → zz[j]? = some (.slice none 0 0) := fun j h1 h2 => by
        obtain ⟨k, rfl⟩ : ∃ k, j = k + 1 := ⟨j - 1, by omega⟩
        rw [HW.out.1]
        simp only [List.getElem?_toArray, List.getElem?_cons_succ]
        show (List.replicate 34 (Value.slice none 0 0))[k]? = _
        rw [List.getElem?_replicate, if_pos (by omega)]
      obtain ⟨bb, hbb⟩ : ∃ bb, bb = W9.heap.size := ⟨_, rfl⟩
      rw [← hbb] at hxW ⊢
      have hOrd : w.heap.size ≤ b ∧ b ≤ S2 ∧ S2 ≤ s3 ∧ s3 < W3.heap.size ∧ W3.heap.size ≤ W3.heap.size ∧ W3.heap.size ≤ s5 ∧ s5 < bb := by
        have h2 := O2.out
        have h3 := O3.out
        have h4 := O4.out
        have h5 := O5.out
        have h6 := O6.out
        have h7 := O7.out
        have h8 := O8.out
        have h9 := O9.out
        rw [hbb]
        omega
      have HO := Lib.hid hOrd
      have hSt : StM ksOf2 70 w WB w.heap.size bb (fun _ => 1000000) (fun _ => 0) 0 (fun x => x < b ∨ bb ≤ x) :=
        startM2 hxW HW.out.2.2.2.1 (by rw [HW.out.1]; rfl) hnil (by omega) (Nat.le_refl _) (B9.out.trans (hbW.mono B9.out.size))
      have HC := Lib.hid (C9.out.below hbW)
      have HTB := Lib.hid (TB9.out.under hbW)
      have HXB := Lib.hid (XB9.out.under hbW)
      have M := keepT hSt (Nat.le_refl _) (by omega) (by omega) (by omega) (by omega) HTB.out (by omega)
      have x0 : WB.cell? ⟨s3, 0, none⟩ = some (.slice (some ⟨b, 0, none⟩) n (n + 2)) := HC.out _ ((.tail _ (.tail _ (.head _))))
      have l0 := World.block_lt_of_cell? _ _ x0
      have hq8 : WB.cell? ⟨s5, 0, none⟩ = some (.slice A5 nX c5) := HC.out _ (.tail _ (.head _))
      have HQ := Lib.hid hq8
      clear hSt hnil hxW hbW hbb hOrd hq8 HBU HW
      go_wp2_with fail
      refine M.mono ?_
      rintro e' u1 ⟨rfl, hP⟩
      obtain ⟨o1, o2, o3, o4, o5, o6, o7⟩ := HO.out
      have g1 := HBND.out.1
      have x8 := hP.box (by omega) (by omega) HQ.out
      have XB1 := Lib.hid (hP.tree (by omega) (by omega) HXB.out)
      have M := keepT hP.st (by omega) (by omega) (by omega) (by omega) (by omega) XB1.out (by omega)
      have l8 := World.block_lt_of_cell? _ _ x8
      clear hP x0 l0 HQ HXB HTB HC o1 o2 o3 o4 o5 o6 o7
      go_wp2_with fail
      refine M.mono ?_
      rintro e' u4 ⟨rfl, hP⟩
      have M := apartM2 hP.st (by omega) (by decide)
      clear hP x8 l8
      go_wp2_with fail
      refine M.mono ?_
      rintro e' u5 ⟨rfl, hb5⟩
      have MA := alive11 u5 (HT.out.below hpos hb5)
      have HU5 := Lib.hid hb5
      clear M hb5
      go_wp2_with fail
      refine MA.mono ?_
      rintro e' u6 ⟨rfl, hb6⟩
      have HU6 := Lib.hid (HU5.out.trans (hb6.mono HU5.out.size))
      clear MA hb6
      go_wp2_with fail
      go_ret
      exact ⟨rfl, HU6.out⟩)
set_option maxHeartbeats 16000000 in
theorem sets_cons (v : Value) (n : Nat) (F : Nat → Node) (i ep : Int) (vp : Value) (x : Int) (r : List Int) (w : World) (hT : Tab w) (hR : TrR w v n F) (hub : ∀ y, y < n → (F y).un.length ≤ 17592186044416) (hi : (Lit.int .i64 i).wf = true) (hP : Ints w vp (x :: r)) (hpl : r.length ≤ 17592186044416) :
    Calls Tryz.prog 5 #[.agg #[v], .int .i64 i, .int .i64 ep, vp] w fun e w' => e = .returned (.bool true) ∧ Below w.heap.size w w' := by
  have hpos := hT.pos
  have HT := Lib.hid hT
  have HUB := Lib.hid hub
  have HI := Lib.hid hi
  have HWF := Lib.hid hR.wf
  obtain ⟨A, c, rfl, -, -, -⟩ := id hR
  obtain ⟨Ap, cp, rfl, -, -, -⟩ := id hP
  obtain ⟨m, hm⟩ : ∃ m, m = r.length := ⟨_, rfl⟩
  have hml : (x :: r).length = m + 1 := by rw [hm]; rfl
  rw [hml] at hP ⊢
  rw [← hm] at hpl
  have HM := Lib.hid (And.intro hm hml)
  clear hm hml
  obtain ⟨W0, hW0⟩ : ∃ W0, W0 = w.alloc (.cells #[.slice A n c] 24) := ⟨_, rfl⟩
  have hb0 : Below w.heap.size w W0 := by rw [hW0]; exact (Below.refl _ _).alloc (Nat.le_refl _) _
  have hx0 : W0.cell? ⟨w.heap.size, 0, none⟩ = some (.slice A n c) := by rw [hW0]; exact cell_one_new w _ 24 0 _ rfl
  have C0 : Hid (Cl W0 [(⟨w.heap.size, 0, none⟩, .slice A n c)]) := Lib.hid fun x hx => by
    obtain rfl := List.mem_singleton.1 hx
    exact hx0
  have R0 := Lib.hid (hR.below hb0)
  have PI0 := Lib.hid (hP.below hb0)
  have B0 := Lib.hid hb0
  have M0 := size9u (.slice A n c) n F W0 R0.out HUB.out
  have l0 := World.block_lt_of_cell? _ _ hx0
  clear hR hub hi hP hb0
  go_enter Tryz.func5, Tryz.ntmps5
  go_wp2_with fail
  rw [← hW0]
  clear hW0
  refine M0.mono ?_
  rintro e' w1 ⟨s, rfl, hs, hb1⟩
  have HS := Lib.hid hs
  have C1 := Lib.hid (C0.out.below hb1)
  have R1 := Lib.hid (R0.out.below hb1)
  have PI1 := Lib.hid (PI0.out.below hb1)
  have B1 := Lib.hid (B0.out.trans (hb1.mono B0.out.size))
  clear hs hb1 HUB M0 C0 R0 B0 PI0 hx0 l0
  obtain ⟨W2, hW2⟩ : ∃ W2, W2 = w1.alloc (.cells #[.int .i64 s, .int .i64 ((m + 1) : Nat)] 3) := ⟨_, rfl⟩
  have hz : Below w1.heap.size w1 W2 := by rw [hW2]; exact (Below.refl _ _).alloc (Nat.le_refl _) _
  have hBI : Ints W2 (.slice (some ⟨w1.heap.size, 0, none⟩) 2 2) [s, (((m + 1) : Nat) : Int)] := by
    refine ⟨_, _, rfl, by simp, by unfold maxLen; omega, fun _ => ⟨w1.heap.size, 0, rfl, fun j y hj => ?_⟩⟩
    rw [hW2, cell_of_row _ _ _ _ _ _ (heap_alloc_new w1 _)]
    have hj2 : j = 0 ∨ j = 1 := by have := (List.getElem?_eq_some_iff.1 hj).1; simp at this; omega
    rcases hj2 with rfl | rfl
    · simpa using hj
    · simpa using hj
  have MB := beyond _ _ W2 hBI (by simp)
  go_wp2_with fail
  rw [show (w1.alloc (.cells #[.int .i64 s, .int .i64 ((m : Int) + 1)] 3)) = W2 from hW2.symm]
  refine MB.mono ?_
  rintro e' w2 ⟨rfl, rfl⟩
  have C2 := Lib.hid (C1.out.below hz)
  have R2 := Lib.hid (R1.out.below hz)
  have PI2 := Lib.hid (PI1.out.below hz)
  have B2 := Lib.hid (B1.out.trans (hz.mono B1.out.size))
  clear hW2 hz C1 R1 B1 PI1 hBI MB
  cases hbd : bey 0 [s, (((m + 1) : Nat) : Int)] with
  | true =>
    clear HS hbd
    go_wp2_with fail
    go_ret
    exact ⟨rfl, B2.out⟩
  | false =>
    have hs1 := (bey_no hbd s (.head _)).2
    have hs2 := (bey_no hbd _ (.tail _ (.head _))).2
    obtain ⟨hn, hu⟩ := HS.out hs1
    have HU := Lib.hid (fun y hy => Nat.le_trans (hu y hy) (by decide : 262144 ≤ 1000000))
    obtain ⟨nX, FX, z, hbnd, kA, kR⟩ := sets_say n F i ep x r hn HU.out HI.out
    have KA := Lib.hid kA
    have KR := Lib.hid kR
    have HBND := Lib.hid hbnd
    have hn2 : n ≤ 262144 := hn
    have hs3 : (m + 1) ≤ 262144 := by omega
    have x0 : W2.cell? ⟨w.heap.size, 0, none⟩ = some (.slice A n c) := C2.out _ (.head _)
    have l0 := World.block_lt_of_cell? _ _ x0
    clear HS hbd hu kA kR hbnd hs1 hs2
    go_wp2_with fail
    refine (twinTree (.slice A n c) n F W2 R2.out hn2 HU.out).mono ?_
    rintro e' w3a ⟨rfl, hit, hb⟩
    obtain ⟨ub, hTw⟩ := hit
    obtain ⟨b, hbb⟩ : ∃ b, b = W2.heap.size + 2 := ⟨_, rfl⟩
    rw [← hbb] at hTw ⊢
    have hwb : w.heap.size ≤ b := by have := B2.out.size; omega
    have TB2 := Lib.hid (hTw.trB (t := w3a.heap.size) (L := 1000000) (Nat.le_refl _) hn2 HU.out (Nat.le_refl _))
    have TI2 := Lib.hid hTw
    have TR2 := Lib.hid (hTw.trR hn2 HU.out HWF.out)
    have O2 : Hid (w.heap.size ≤ b ∧ b ≤ w3a.heap.size) := Lib.hid ⟨hwb, by have := hTw.row.lt; omega⟩
    have C2a := Lib.hid (C2.out.below hb)
    have R2a := Lib.hid (R2.out.below hb)
    have PI2a := Lib.hid (PI2.out.below hb)
    have B2a := Lib.hid (B2.out.trans (hb.mono B2.out.size))
    clear x0 l0 hbb hwb hTw hb C2 R2 PI2 B2
    go_wp2_with fail
    have MT := twinNums _ (x :: r) w3a PI2a.out (by rw [HM.out.2]; omega)
    refine MT.mono ?_
    rintro e' w3b ⟨hte, hrow, hb⟩
    rw [HM.out.2] at hte hrow
    obtain ⟨nb, hnb⟩ : ∃ nb, nb = w3a.heap.size := ⟨_, rfl⟩
    rw [← hnb] at hte hrow
    subst hte
    have hNI : Ints w3b (.slice (some ⟨nb, 0, none⟩) (m + 1) (m + 3)) (x :: r) := by
      have := row_ints (c := (m + 3)) (l := (x :: r)) (b := nb) (w := w3b) (by rw [HM.out.2]; exact hrow) (by rw [HM.out.2]) (by rw [HM.out.2]; unfold maxLen; omega)
      rw [HM.out.2] at this
      exact this
    clear MT hnb
    go_upto_region 4 with fail
    obtain ⟨W3, hW⟩ : ∃ W, W = w3b.alloc (.cells #[.slice (some ⟨b, 0, none⟩) n (n + 2)] 24) := ⟨_, rfl⟩
    have hq : Below w3b.heap.size w3b W3 := by rw [hW]; exact (Below.refl _ _).alloc (Nat.le_refl _) _
    have hz : Below w3a.heap.size w3a W3 := hb.trans (hq.mono hb.size)
    have hC := (C2a.out.below hb).box (.slice (some ⟨b, 0, none⟩) n (n + 2)) 24
    rw [← hW] at hC ⊢
    have TB3 := Lib.hid (TB2.out.under hz)
    have TI3 := Lib.hid (TI2.out.below hz)
    have TR3 := Lib.hid (TR2.out.below hz)
    have NR3 := Lib.hid (hrow.under hq)
    have NI3 := Lib.hid (hNI.below hq)
    have R3 := Lib.hid (R2a.out.below hz)
    have PI3 := Lib.hid (PI2a.out.below hz)
    have B3 := Lib.hid (B2a.out.trans (hz.mono B2a.out.size))
    obtain ⟨s3, hs⟩ : ∃ s, s = w3b.heap.size := ⟨_, rfl⟩
    have O3 : Hid (w3a.heap.size ≤ s3 ∧ s3 < W3.heap.size) := Lib.hid ⟨by rw [hs]; exact hb.size, by rw [hs, hW]; simp⟩
    rw [← hs] at hC ⊢
    have C3 := Lib.hid hC
    obtain ⟨S2, hS2⟩ : ∃ S, S = w3a.heap.size := ⟨_, rfl⟩
    rw [← hS2] at O3 O2 TB3
    clear hW hs hq hz hC hb hrow hNI C2a B2a R2a PI2a TB2 TI2 TR2 hS2
    have VI3 : Hid (Ints W3 (.slice (some ⟨nb, 1, none⟩) m (m + 2)) r) := Lib.hid (by
      obtain ⟨A9, c9, e9, -, -, h9⟩ := NI3.out
      obtain ⟨b9, o9, e8, h8⟩ := h9 (by simp)
      rw [e8] at e9
      injection e9 with e9 _ _
      injection e9 with e9
      injection e9 with e7 e6
      subst e7 e6
      have hm := HM.out.1
      refine ⟨_, _, by rw [← hm], by omega, by unfold maxLen; omega, fun _ => ⟨nb, 1, rfl, fun j y hj => ?_⟩⟩
      have := h8 (j + 1) y (by simpa using hj)
      rw [show 0 + (j + 1) = 1 + j by omega] at this
      exact this)
    have c0 : W3.cell? ⟨nb, 0, none⟩ = some (.int .i64 x) := by
      have := NR3.out.cell (i := 0) (by omega)
      rw [twV_at (x := x) rfl] at this
      exact this
    have ln := World.block_lt_of_cell? _ _ c0
    have hHeld : W3.cell? ⟨nb, 0, none⟩ = some (.int .i64 x) ∧ Below W3.heap.size W3 W3 := ⟨c0, Below.refl _ _⟩
    have k1 : (1 : Int) ≤ (m : Int) + 1 := by omega
    have k2 : (0 : Int) < (m : Int) + 1 := by omega
    have k3 : (m : Int) + 1 ≤ (m : Int) + 3 := by omega
    clear NI3
    go_wp2_with fail
    go_region_held3 (fun w' => w'.cell? ⟨nb, 0, none⟩ = some (.int .i64 x) ∧ Below W3.heap.size W3 w') (first | assumption | exact heldb_drew (by assumption)) (fail)
    have hz := (Below.refl W3.heap.size W3).drew
    generalize hW3 : W3.drew = W3d at *
    clear hHeld c0
    have R4 := Lib.hid (R3.out.below hz)
    have TI4 := Lib.hid (TI3.out.below hz)
    have TR4 := Lib.hid (TR3.out.below hz)
    have TB4 := Lib.hid (TB3.out.under hz)
    have NR4 := Lib.hid (NR3.out.under hz)
    have PI4 := Lib.hid (PI3.out.below hz)
    have VI4 := Lib.hid (VI3.out.below hz)
    have C4 := Lib.hid (C3.out.below hz)
    have B4 := Lib.hid (B3.out.trans (hz.mono B3.out.size))
    clear R3 TI3 TR3 TB3 NR3 PI3 VI3 C3 B3
    have O4 : Hid (W3.heap.size ≤ W3d.heap.size) := Lib.hid hz.size
    clear hz hW3
    have x0 : W3d.cell? ⟨s3, 0, none⟩ = some (.slice (some ⟨b, 0, none⟩) n (n + 2)) := C4.out _ ((.head _))
    have l0 := World.block_lt_of_cell? _ _ x0
    go_wp2_with fail
    refine (KA.out W3d _ _ (HT.out.below hpos B4.out) TR4.out VI4.out).mono ?_
    rintro e' w5x ⟨v', rfl, hY, hb⟩
    obtain ⟨A5, c5, rfl⟩ := hY.slice
    clear x0 l0
    go_upto_region 9 with fail
    obtain ⟨W5, hW⟩ : ∃ W, W = w5x.alloc (.cells #[.slice A5 nX c5] 24) := ⟨_, rfl⟩
    have hq : Below w5x.heap.size w5x W5 := by rw [hW]; exact (Below.refl _ _).alloc (Nat.le_refl _) _
    have hz : Below W3d.heap.size W3d W5 := hb.trans (hq.mono hb.size)
    have hC := (C4.out.below hb).box (.slice A5 nX c5) 24
    rw [← hW] at hC ⊢
    have XR5 := Lib.hid (hY.trR.below hq)
    have XB5 := Lib.hid ((hY.trB (t := w5x.heap.size) (L := 1000000) (Nat.le_refl _) (fun y hy => Nat.le_trans (HBND.out.2 y hy) (by decide))).under hq)
    obtain ⟨s5, hs⟩ : ∃ s, s = w5x.heap.size := ⟨_, rfl⟩
    have O5 : Hid (W3d.heap.size ≤ s5 ∧ s5 < W5.heap.size) := Lib.hid ⟨by rw [hs]; exact hb.size, by rw [hs, hW]; simp⟩
    rw [← hs] at hC XB5 ⊢
    clear C4
    have R5 := Lib.hid (R4.out.below hz)
    have TI5 := Lib.hid (TI4.out.below hz)
    have TR5 := Lib.hid (TR4.out.below hz)
    have TB5 := Lib.hid (TB4.out.under hz)
    have NR5 := Lib.hid (NR4.out.under hz)
    have PI5 := Lib.hid (PI4.out.below hz)
    have VI5 := Lib.hid (VI4.out.below hz)
    have B5 := Lib.hid (B4.out.trans (hz.mono B4.out.size))
    clear R4 TI4 TR4 TB4 NR4 PI4 VI4 B4
    have C5 := Lib.hid hC
    clear hW hs hq hz hC hb hY
    have x0 : W5.cell? ⟨w.heap.size, 0, none⟩ = some (.slice A n c) := C5.out _ ((.tail _ (.tail _ (.head _))))
    have l0 := World.block_lt_of_cell? _ _ x0
    have hp5 : 0 < W5.heap.size := by omega
    have hHeld : W5.cell? ⟨w.heap.size, 0, none⟩ = some (.slice A n c) ∧ Below W5.heap.size W5 W5 := ⟨x0, Below.refl _ _⟩
    have hrl : (r : List Int).length ≤ 1000000 := by have := HM.out.1; omega
    have HRL := Lib.hid hrl
    clear x0 hrl
    go_wp2_with fail
    go_region_held3 (fun w' => w'.cell? ⟨w.heap.size, 0, none⟩ = some (.slice A n c) ∧ Below W5.heap.size W5 w') (first | assumption | exact heldb_drew (by assumption) | exact heldc_call (by assumption) (by assumption) | exact heldc_alloc (by assumption) | exact heldc_set (by assumption) l0 (Nat.le_refl _) | exact heldc_set (by assumption) l0 hsa) (first
      | (go_at_call 31; with_reducible refine (twinI (VI5.out.below (heldc_mid (by assumption))) HRL.out).mono ?_; rintro e' wa ⟨va, rfl, hva, hba⟩; have hsa : W5.heap.size ≤ wa.heap.size := by { have := hba.size; simp at this; omega }; have hBa : wa.cell? ⟨w.heap.size, 0, none⟩ = some (.slice A n c) ∧ Below W5.heap.size W5 wa := heldc_call (by assumption) hba; (first | have xa := box_first2 hba | have xa := box_first hba | have xa := True.intro))
      | (go_at_call 33; with_reducible refine (KR.out _ _ _ (Nat.lt_of_lt_of_le hp5 (heldc_mid (by assumption)).size) (R5.out.below (heldc_mid (by assumption))) (by first | exact hva | exact hva.below ((Below.refl _ _).alloc (Nat.le_refl _) _))).mono ?_; rintro e' wb ⟨vb, uvb, rfl, hRb, hbb⟩; obtain ⟨Ab, cb, rfl, -, -⟩ := hRb.slice; have hBb : wb.cell? ⟨w.heap.size, 0, none⟩ = some (.slice A n c) ∧ Below W5.heap.size W5 wb := heldc_call (by assumption) hbb; (first | have xb := box_next hbb xa.1 xa.2.1 xa.2.2 | have xb := box_first' hbb | have xb := True.intro)))

    all_goals (
      first
      | (
        obtain ⟨W6, hW⟩ : ∃ W, W = wb.alloc (.cells #[.slice Ab nX cb] 24) := ⟨_, rfl⟩
        rw [← hW]
        obtain ⟨g, hg⟩ : ∃ g, g = wb.heap.size := ⟨_, rfl⟩
        rw [← hg]
        have hc : W6.cell? ⟨g, 0, none⟩ = some (.slice Ab nX cb) := by rw [hW, hg]; exact cell_one_new wb _ 24 0 _ rfl
        have hz : Below W5.heap.size W5 W6 := by rw [hW]; exact hBb.2.alloc hBb.2.size _
        have hx : TrR W6 (.slice Ab nX cb) nX FX := by rw [hW]; exact hRb.trR.below ((Below.refl _ _).alloc (Nat.le_refl _) _)
        have HZ := Lib.hid (And.intro hc (And.intro hz hx))
        clear hW hg hc hz hx)
      | (
        obtain ⟨W6, hW⟩ : ∃ W, W = wb.setCell ⟨wa.heap.size, 0, none⟩ (.slice Ab nX cb) := ⟨_, rfl⟩
        rw [← hW]
        obtain ⟨g, hg⟩ : ∃ g, g = wa.heap.size := ⟨_, rfl⟩
        rw [← hg]
        have hc : W6.cell? ⟨g, 0, none⟩ = some (.slice Ab nX cb) := by rw [hW, hg]; exact World.cell?_setCell_same _ _ _ xb.1
        have hz : Below W5.heap.size W5 W6 := by rw [hW]; exact hBb.2.setCell (p := ⟨wa.heap.size, 0, none⟩) hsa _
        have hx : TrR W6 (.slice Ab nX cb) nX FX := by rw [hW]; exact (hRb.far fun k hk => heap_setCell_other wb ⟨wa.heap.size, 0, none⟩ k _ (fun e => by simp at hk; simp at e; omega)).trR
        have HZ := Lib.hid (And.intro hc (And.intro hz hx))
        clear hW hg hc hz hx)
      | (
        obtain ⟨W6, hW⟩ : ∃ W, W = wb.setCell ⟨W5.heap.size, 0, none⟩ (.slice Ab nX cb) := ⟨_, rfl⟩
        rw [← hW]
        obtain ⟨g, hg⟩ : ∃ g, g = W5.heap.size := ⟨_, rfl⟩
        rw [← hg]
        have hc : W6.cell? ⟨g, 0, none⟩ = some (.slice Ab nX cb) := by rw [hW, hg]; exact World.cell?_setCell_same _ _ _ xb.1
        have hz : Below W5.heap.size W5 W6 := by rw [hW]; exact hBb.2.setCell (p := ⟨W5.heap.size, 0, none⟩) (Nat.le_refl _) _
        have hx : TrR W6 (.slice Ab nX cb) nX FX := by rw [hW]; exact (hRb.far fun k hk => heap_setCell_other wb ⟨W5.heap.size, 0, none⟩ k _ (fun e => by have := xa.2.2; simp at e; omega)).trR
        have HZ := Lib.hid (And.intro hc (And.intro hz hx))
        clear hW hg hc hz hx)
      clear hva hba hbb hRb hBa hBb hsa xa xb l0 hp5
      obtain ⟨hc, hz, hx⟩ := HZ.out
      have C6 : Hid (Cl W6 ((⟨g, 0, none⟩, .slice Ab nX cb) :: [(⟨s5, 0, none⟩, .slice A5 nX c5), (⟨s3, 0, none⟩, .slice (some ⟨b, 0, none⟩) n (n + 2)), (⟨w.heap.size, 0, none⟩, .slice A n c)])) := Lib.hid fun x hx => by
        rcases List.mem_cons.1 hx with rfl | hx
        · exact hc
        · exact (C5.out.below hz) x hx
      have XQ6 := Lib.hid hx
      have O6 : Hid (W5.heap.size ≤ W6.heap.size) := Lib.hid hz.size
      clear C5 VI5 TR5 hc hx HZ
      have R6 := Lib.hid (R5.out.below hz)
      have TI6 := Lib.hid (TI5.out.below hz)
      have TB6 := Lib.hid (TB5.out.under hz)
      have NR6 := Lib.hid (NR5.out.under hz)
      have PI6 := Lib.hid (PI5.out.below hz)
      have XR6 := Lib.hid (XR5.out.below hz)
      have XB6 := Lib.hid (XB5.out.under hz)
      have B6 := Lib.hid (B5.out.trans (hz.mono B5.out.size))
      clear R5 TI5 TB5 NR5 PI5 XR5 XB5 B5
      clear hz
      have x0 : W6.cell? ⟨s5, 0, none⟩ = some (.slice A5 nX c5) := C6.out _ ((.tail _ (.head _)))
      have x1 : W6.cell? ⟨g, 0, none⟩ = some (.slice Ab nX cb) := C6.out _ ((.head _))
      have l0 := World.block_lt_of_cell? _ _ x0
      have l1 := World.block_lt_of_cell? _ _ x1
      go_wp2_with fail
      refine (sameTree nX _ _ FX W6 XR6.out XQ6.out (by have := HBND.out.1; omega)).mono ?_
      rintro e' W7 ⟨rfl, hz⟩
      have O7 : Hid (W6.heap.size ≤ W7.heap.size) := Lib.hid hz.size
      have R7 := Lib.hid (R6.out.below hz)
      have TI7 := Lib.hid (TI6.out.below hz)
      have TB7 := Lib.hid (TB6.out.under hz)
      have NR7 := Lib.hid (NR6.out.under hz)
      have PI7 := Lib.hid (PI6.out.below hz)
      have XR7 := Lib.hid (XR6.out.below hz)
      have XB7 := Lib.hid (XB6.out.under hz)
      have C7 := Lib.hid (C6.out.below hz)
      have XQ7 := Lib.hid (XQ6.out.below hz)
      have B7 := Lib.hid (B6.out.trans (hz.mono B6.out.size))
      clear R6 TI6 TB6 NR6 PI6 XR6 XB6 C6 XQ6 B6
      clear hz x0 l0 x1 l1
      have x0 : W7.cell? ⟨s3, 0, none⟩ = some (.slice (some ⟨b, 0, none⟩) n (n + 2)) := C7.out _ ((.tail _ (.tail _ (.head _))))
      have x1 : W7.cell? ⟨w.heap.size, 0, none⟩ = some (.slice A n c) := C7.out _ ((.tail _ (.tail _ (.tail _ (.head _)))))
      have l0 := World.block_lt_of_cell? _ _ x0
      have l1 := World.block_lt_of_cell? _ _ x1
      go_wp2_with fail
      refine (leftTree _ b n c A F ub W7 TI7.out R7.out hn2 HU.out).mono ?_
      rintro e' W8 ⟨rfl, hz⟩
      have O8 : Hid (W7.heap.size ≤ W8.heap.size) := Lib.hid hz.size
      have R8 := Lib.hid (R7.out.below hz)
      have TI8 := Lib.hid (TI7.out.below hz)
      have TB8 := Lib.hid (TB7.out.under hz)
      have NR8 := Lib.hid (NR7.out.under hz)
      have PI8 := Lib.hid (PI7.out.below hz)
      have XR8 := Lib.hid (XR7.out.below hz)
      have XB8 := Lib.hid (XB7.out.under hz)
      have C8 := Lib.hid (C7.out.below hz)
      have XQ8 := Lib.hid (XQ7.out.below hz)
      have B8 := Lib.hid (B7.out.trans (hz.mono B7.out.size))
      clear R7 TI7 TB7 NR7 PI7 XR7 XB7 C7 XQ7 B7
      clear hz x0 l0 x1 l1
      have ML := leftNums nb cp Ap (x :: r) W8 (by rw [HM.out.2]; exact NR8.out) (by rw [HM.out.2]; exact PI8.out) (by rw [HM.out.2]; omega)
      rw [HM.out.2] at ML
      go_wp2_with fail
      refine (ML).mono ?_
      rintro e' W9 ⟨rfl, nd, hnd⟩
      have hz : Below W8.heap.size W8 W9 := by rw [hnd]; exact ⟨rfl, rfl, rfl, Nat.le_refl _, fun _ _ => rfl⟩
      clear hnd
      have O9 : Hid (W8.heap.size ≤ W9.heap.size) := Lib.hid hz.size
      have R9 := Lib.hid (R8.out.below hz)
      have TI9 := Lib.hid (TI8.out.below hz)
      have TB9 := Lib.hid (TB8.out.under hz)
      have NR9 := Lib.hid (NR8.out.under hz)
      have PI9 := Lib.hid (PI8.out.below hz)
      have XR9 := Lib.hid (XR8.out.below hz)
      have XB9 := Lib.hid (XB8.out.under hz)
      have C9 := Lib.hid (C8.out.below hz)
      have XQ9 := Lib.hid (XQ8.out.below hz)
      have B9 := Lib.hid (B8.out.trans (hz.mono B8.out.size))
      clear R8 TI8 TB8 NR8 PI8 XR8 XB8 C8 XQ8 B8
      clear hz 
      clear ML
      obtain ⟨zz, hz⟩ : ∃ z : Array Value, z = #[.int .i64 0, .slice none 0 0, .slice none 0 0, .slice none 0 0, .slice none 0 0, .slice none 0 0, .slice none 0 0, .slice none 0 0, .slice none 0 0, .slice none 0 0, .slice none 0 0, .slice none 0 0, .slice none 0 0, .slice none 0 0, .slice none 0 0, .slice none 0 0, .slice none 0 0, .slice none 0 0, .slice none 0 0, .slice none 0 0, .slice none 0 0, .slice none 0 0, .slice none 0 0, .slice none 0 0, .slice none 0 0, .slice none 0 0, .slice none 0 0, .slice none 0 0, .slice none 0 0, .slice none 0 0, .slice none 0 0, .slice none 0 0, .slice none 0 0, .slice none 0 0, .slice none 0 0] := ⟨_, rfl⟩
      have hbu := build70 W9
      rw [← hz] at hbu
      have HBU := Lib.hid hbu
      clear hbu
      obtain ⟨WB, hWB⟩ : ∃ W, W = (W9.alloc (.cells zz 70)).setRow W9.heap.size (over zz 0 zz) := ⟨_, rfl⟩
      have hx0 : (W9.alloc (.cells zz 70)).heap[W9.heap.size]? = some (.cells zz 70 (0, 0)) := heap_alloc_new W9 _
      have hzs : zz.size = 35 := by rw [hz]; rfl
      have hzo : ∀ u ∈ zz.toList, u.oneCell' = true := by rw [hz]; simp [Value.oneCell']
      have hfit : 0 + 35 ≤ zz.size := by omega
      have HW := Lib.hid (And.intro hz (And.intro hWB (And.intro hx0 (And.intro hzs (And.intro hzo hfit)))))
      clear hz hWB hx0 hzs hzo hfit
      go_upto_region 13 with (first | (with_reducible refine wpList_build_eq rfl 70 rfl _ HBU.out ?_) | (rw [← HW.out.1]; with_reducible refine wpList_store_part rfl 70 _ _ rfl rfl W9.heap.size 0 35 rfl 70 _ _ rfl HW.out.2.2.1 cells70 HW.out.2.2.2.1 HW.out.2.2.2.2.2 HW.out.2.2.2.2.1 ?_))
      rw [← HW.out.2.1]
      have hbW : Below W9.heap.size W9 WB := by
        rw [HW.out.2.1]
        exact Bk.below_setRow ((Below.refl _ _).alloc (Nat.le_refl _) _) (Nat.le_refl _)
      have hxW : WB.heap[W9.heap.size]? = some (.cells zz 70 (0, 0)) := by
        rw [HW.out.2.1]
        exact (setRow_same HW.out.2.2.1).trans (congrArg (fun y => some (Obj.cells y 70 (0, 0))) (over_full rfl))
      have hnil : ∀ j, 1 ≤ j → j < 35 → zz[j]? = some (.slice none 0 0) := fun j h1 h2 => by
        obtain ⟨k, rfl⟩ : ∃ k, j = k + 1 := ⟨j - 1, by omega⟩
        rw [HW.out.1]
        simp only [List.getElem?_toArray, List.getElem?_cons_succ]
        show (List.replicate 34 (Value.slice none 0 0))[k]? = _
        rw [List.getElem?_replicate, if_pos (by omega)]
      obtain ⟨bb, hbb⟩ : ∃ bb, bb = W9.heap.size := ⟨_, rfl⟩
      rw [← hbb] at hxW ⊢
      have hOrd : w.heap.size ≤ b ∧ b ≤ S2 ∧ S2 ≤ s3 ∧ s3 < W3.heap.size ∧ W3.heap.size ≤ W3d.heap.size ∧ W3d.heap.size ≤ s5 ∧ s5 < bb := by
        have h2 := O2.out
        have h3 := O3.out
        have h4 := O4.out
        have h5 := O5.out
        have h6 := O6.out
        have h7 := O7.out
        have h8 := O8.out
        have h9 := O9.out
        rw [hbb]
        omega
      have HO := Lib.hid hOrd
      have hSt : StM ksOf2 70 w WB w.heap.size bb (fun _ => 1000000) (fun _ => 0) 0 (fun x => x < b ∨ bb ≤ x) :=
        startM2 hxW HW.out.2.2.2.1 (by rw [HW.out.1]; rfl) hnil (by omega) (Nat.le_refl _) (B9.out.trans (hbW.mono B9.out.size))
      have HC := Lib.hid (C9.out.below hbW)
      have HTB := Lib.hid (TB9.out.under hbW)
      have HXB := Lib.hid (XB9.out.under hbW)
      have M := keepT hSt (Nat.le_refl _) (by omega) (by omega) (by omega) (by omega) HTB.out (by omega)
      have x0 : WB.cell? ⟨s3, 0, none⟩ = some (.slice (some ⟨b, 0, none⟩) n (n + 2)) := HC.out _ ((.tail _ (.tail _ (.head _))))
      have l0 := World.block_lt_of_cell? _ _ x0
      have hq8 : WB.cell? ⟨s5, 0, none⟩ = some (.slice A5 nX c5) := HC.out _ (.tail _ (.head _))
      have HQ := Lib.hid hq8
      clear hSt hnil hxW hbW hbb hOrd hq8 HBU HW
      go_wp2_with fail
      refine M.mono ?_
      rintro e' u1 ⟨rfl, hP⟩
      obtain ⟨o1, o2, o3, o4, o5, o6, o7⟩ := HO.out
      have g1 := HBND.out.1
      have x8 := hP.box (by omega) (by omega) HQ.out
      have XB1 := Lib.hid (hP.tree (by omega) (by omega) HXB.out)
      have M := keepT hP.st (by omega) (by omega) (by omega) (by omega) (by omega) XB1.out (by omega)
      have l8 := World.block_lt_of_cell? _ _ x8
      clear hP x0 l0 HQ HXB HTB HC o1 o2 o3 o4 o5 o6 o7
      go_wp2_with fail
      refine M.mono ?_
      rintro e' u4 ⟨rfl, hP⟩
      have M := apartM2 hP.st (by omega) (by decide)
      clear hP x8 l8
      go_wp2_with fail
      refine M.mono ?_
      rintro e' u5 ⟨rfl, hb5⟩
      have MA := alive11 u5 (HT.out.below hpos hb5)
      have HU5 := Lib.hid hb5
      clear M hb5
      go_wp2_with fail
      refine MA.mono ?_
      rintro e' u6 ⟨rfl, hb6⟩
      have HU6 := Lib.hid (HU5.out.trans (hb6.mono HU5.out.size))
      clear MA hb6
      go_wp2_with fail
      go_ret
      exact ⟨rfl, HU6.out⟩)
theorem sets (v : Value) (n : Nat) (F : Nat → Node) (i ep : Int) (vp : Value) (l : List Int) (w : World) (hT : Tab w) (hR : TrR w v n F) (hub : ∀ y, y < n → (F y).un.length ≤ 17592186044416) (hi : (Lit.int .i64 i).wf = true) (_ : (Lit.int .i64 ep).wf = true) (hP : Ints w vp l) (hpl : l.length ≤ 17592186044416) :
    Calls Tryz.prog 5 #[.agg #[v], .int .i64 i, .int .i64 ep, vp] w fun e w' => e = .returned (.bool true) ∧ Below w.heap.size w w' := by
  cases l with
  | nil => exact sets_nil v n F i ep vp w hT hR hub hi hP trivial
  | cons x r => exact sets_cons v n F i ep vp x r w hT hR hub hi hP (by simp at hpl; omega)
end Go.Proofs.YtnahhclflnjmcaaGreatDoor
