/- twin: a tree of the call's own like another one. -/
import Derived.Test.YtopkanokpfhmmaaDoorTO
namespace Go.Proofs.YtopkanokpfhmmaaDoor
open Go Go.RowKit
set_option linter.unusedVariables false
set_option linter.unusedSimpArgs false

theorem Below.up {B : Nat} {a b c : World} (h : Below B a b) (k : Below b.heap.size b c) (hB : B ≤ b.heap.size) : Below B a c := h.trans (k.mono hB)
theorem OwnK.elsewhere {w0 w : World} {B b n i : Nat} {F : Nat → Node} {uv : Nat → Value} (h : OwnK w0 w B b n i F uv) {a : Addr} (ha : a.block < B) (u : Value) : OwnK w0 (w.setCell a u) B b n i F uv :=
  ⟨h.hb, h.row.setOther (by have := h.hb; omega) u, fun y h1 h2 => (h.un y h1 h2).setOther (fun e => by have := (World.ownsRow.lt (h.un y h1 h2) _ e).1; omega) u, h.far, h.nb, h.ap, h.wf⟩
theorem OwnK.lower {w0 w : World} {B B' b n i : Nat} {F : Nat → Node} {uv : Nat → Value} (h : OwnK w0 w B b n i F uv) (hB : B' ≤ B) : OwnK w0 w B' b n i F uv :=
  ⟨Nat.le_trans hB h.hb, h.row, fun y h1 h2 => own_lower hB (h.un y h1 h2), h.far, h.nb, h.ap, h.wf⟩
set_option maxHeartbeats 2000000 in
set_option maxRecDepth 100000 in
theorem twin30 (v : Value) (n l : Nat) (F : Nat → Node) (w : World) (hR : TrR w v n F) (hn : n ≤ 2 * l - 1) (hl : 1 ≤ l) (hl8 : l ≤ 8) (hun : ∀ y, y < n → (F y).un.length < 4294967296) :
    Calls Tryd.prog 30 #[.agg #[v], .int .i64 l] w fun e w' => ∃ b uv, e = .returned (.agg #[.slice (some ⟨b, 0, none⟩) (2 * l - 1) (2 * l - 1)]) ∧ OwnK w w' w.heap.size b (2 * l - 1) (2 * l - 1) (pad n F) uv ∧ Below w.heap.size w w' := by
  have hb0 : Below w.heap.size w ((w.alloc (.cells #[v] 24)).alloc (.cells #[.slice none 0 0] 24)) := ((Below.refl _ _).alloc (Nat.le_refl _) _).alloc (by simp) _
  have hs0 : ((w.alloc (.cells #[v] 24)).alloc (.cells #[.slice none 0 0] 24)).heap.size = w.heap.size + 2 := by simp
  obtain ⟨w2, r, uv0, hmk, hcp, hb2, hK⟩ := twin_start v n (2 * l - 1) F w _ hb0 hR hn (by omega)
  rw [hs0] at hmk hcp hb2 hK
  have e1 : (((2 * l - 1 : Nat)) : Int) = 2 * (l : Int) - 1 := by omega
  rw [e1] at hmk
  obtain ⟨A, c, rfl, -, -, -⟩ := hR
  have HK := Lib.hid hK
  have HUN := Lib.hid (show ∀ y, (pad n F y).un.length < 4294967296 by
    intro y
    unfold pad
    split
    · exact hun y (by assumption)
    · decide)
  have HN := Lib.hid (And.intro hn e1)
  generalize pad n F = G at *
  clear hK hn e1 hun
  generalize hN : 2 * l - 1 = N at *
  have hN15 : N ≤ 15 := by omega
  have HB0 := Lib.hid hb0
  obtain ⟨wA, hwA⟩ : ∃ wA, wA = ((w.alloc (.cells #[.slice A n c] 24)).alloc (.cells #[.slice none 0 0] 24)) := ⟨_, rfl⟩
  have hrA : wA.cell? ⟨w.heap.size + 1, 0, none⟩ = some (.slice none 0 0) ∧ wA.frozen? ⟨w.heap.size + 1, 0, none⟩ = false := by
    have := heap_alloc_new (w.alloc (.cells #[.slice A n c] 24)) (.cells #[.slice none 0 0] 24)
    rw [show (w.alloc (.cells #[.slice A n c] 24)).heap.size = w.heap.size + 1 by simp] at this
    rw [hwA]
    exact ⟨by rw [cell_of_row _ _ _ _ _ _ this]; rfl, frozen_of_row _ _ _ _ _ this⟩
  have HRA := Lib.hid hrA
  have hbA : Below w.heap.size w wA := by rw [hwA]; exact hb0
  have hbA2 : Below (w.heap.size + 2) wA w2 := by rw [hwA]; exact hb2
  have HW := Lib.hid (And.intro hbA hbA2)
  clear hb0 hb2 hs0 hrA hbA hbA2
  go_enter Tryd.func30, Tryd.ntmps30
  go_wp2_with fail
  clear hcp hmk hwA
  go_loopg [17] (N + 1) (fun g v17 wr => ∃ (i : Nat) (uv : Nat → Value), i ≤ N ∧ i + g = N + 1 ∧ v17 = .int .i64 i ∧ OwnK w wr (w.heap.size + 2) (w.heap.size + 2) N i G uv ∧ Below (w.heap.size + 2) wA wr)
  case atStart => exact ⟨0, uv0, by omega, by omega, rfl, HK.out, HW.out.2⟩
  case round =>
    obtain ⟨i, uv, hi, hg, rfl, hK, hbel⟩ := hrel
    have HG := Lib.hid hg
    have hblt := hK.blt
    have hbelw : Below w.heap.size w wr := HW.out.1.trans (hbel.mono (by omega))
    clear hg
    by_cases hlt : i < N
    · obtain ⟨x0, x1, x2, x3⟩ := hK.cells hlt
      have xf : wr.frozen? ⟨w.heap.size + 2, i * 4 + 3, none⟩ = false := hK.row.frozen _
      have hI := (hK.far i hlt (Nat.le_refl _)).below hbelw
      have hC := clone44 (uv i) (G i).un wr hI (HUN.out i)
      obtain ⟨A', c', e, -⟩ := hI
      rw [e] at x3 hC
      have q1 : (0 : Int) ≤ (i : Int) := by omega
      have q2 : (i : Int) < N := by omega
      have HK2 := Lib.hid hK
      clear x0 x1 x2 hK e
      generalize (G i).un.length = k at *
      go_wp2_with (go_at_call 44; refine hC.mono ?_; rintro e w3 ⟨v', rfl, ho, hb3⟩; obtain ⟨A2, c2, rfl⟩ := ho.slice; obtain ⟨y3, yf, hlt3⟩ : w3.cell? ⟨w.heap.size + 2, i * 4 + 3, none⟩ = some (.slice A' k c') ∧ w3.frozen? ⟨w.heap.size + 2, i * 4 + 3, none⟩ = false ∧ w.heap.size + 2 < w3.heap.size := ⟨(hb3.cell hblt).trans x3, (hb3.frozen hblt).trans xf, Nat.lt_of_lt_of_le hblt hb3.size⟩)
      go_roundg (gk - 1)
      case rel =>
        have hK3 := HK2.out.below hb3
        have hlo := World.ownsRow.lt ho
        have hsz := hb3.size
        have hK4 := hK3.setUn hlt (u := .slice A2 (G i).un.length c2) (own_lower (by omega) ho) (fun e => by have := (hlo _ e).1; omega)
          (fun z h1 h2 h3 k hk hk2 => by have h4 := (hlo _ hk).1; have h5 := (World.ownsRow.lt (HK2.out.un z h1 h2) _ hk2).2; omega) (.inr rfl) G (fun z => by
            by_cases e : z = i
            · rw [if_pos e, e]
            · rw [if_neg e])
        rw [if_pos rfl] at hK4
        exact ⟨i + 1, _, by omega, by have := HG.out; omega, by go_num, hK4, (hbel.trans (hb3.mono (by omega))).setCell (Nat.le_refl _) _⟩
      case measure => have := HG.out; omega
    · obtain rfl : i = N := by omega
      obtain ⟨r0, r1⟩ := HRA.out
      have r2 : wr.cell? ⟨w.heap.size + 1, 0, none⟩ = some (.slice none 0 0) := (hbel.cell (by show w.heap.size + 1 < _; omega)).trans r0
      have r3 : wr.frozen? ⟨w.heap.size + 1, 0, none⟩ = false := (hbel.frozen (by show w.heap.size + 1 < _; omega)).trans r1
      have r4 : w.heap.size + 1 < wr.heap.size := by omega
      have HK2 := Lib.hid hK
      clear hK
      go_wp2
      have r5 : ∀ u, (wr.setCell ⟨w.heap.size + 1, 0, none⟩ u).cell? ⟨w.heap.size + 1, 0, none⟩ = some u := fun u => by apply World.cell?_setCell_same; exact r2
      refine bodyPost_ret (by simp [results, Tryd.results30, go_sem, r5]; rfl) rfl ?_
      refine ⟨_, uv, rfl, ?_, ?_⟩
      · exact (HK2.out.elsewhere (a := ⟨w.heap.size + 1, 0, none⟩) (by show w.heap.size + 1 < _; omega) _).lower (by omega)
      · exact hbelw.setCell (by show w.heap.size ≤ w.heap.size + 1; omega) _
end Go.Proofs.YtopkanokpfhmmaaDoor
