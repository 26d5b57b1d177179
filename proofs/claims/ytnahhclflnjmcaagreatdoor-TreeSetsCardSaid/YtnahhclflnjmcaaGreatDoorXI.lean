/- Chapter 08's own Add, Remove, New, whatever they answer. -/
import Derived.Test.YtnahhclflnjmcaaGreatDoorXH
import Derived.Test.YtnahhclflnjmcaaGreatDoorXK
namespace Go.Proofs.YtnahhclflnjmcaaGreatDoor
open Go Go.RowKit
set_option linter.unusedVariables false
set_option linter.unusedSimpArgs false
set_option maxRecDepth 100000

structure RAddQ (w : World) (n : Nat) (F : Nat → Node) (a : Addx) (e : Ending) (w' : World) : Prop where
  out : ∃ v', e = .returned (.tuple #[.agg #[v'], .int .i64 (addRat n F a), .int .i64 (addE n F a)]) ∧ TrR w' v' (addRn n F a) (addRF n F a)
  bel : Below w.heap.size w w'
theorem radd_q (v : Value) (n : Nat) (F : Nat → Node) (a : Addx) (w : World) (hR : TrR w v n F) (hn : n ≤ 262144) (hun : ∀ y, y < n → (F y).un.length ≤ 1000000) (hwf : (Lit.int .i64 a.mem).wf = true) :
    Calls Tryz.prog 26 #[.agg #[v], a.v] w fun e w' => RAddQ w n F a e w' := by
  by_cases h0 : addE n F a = 0
  · obtain ⟨h1, h2, h3, h4, h5, h6⟩ := chk_false_add h0
    have key : Calls Tryz.prog 26 #[.agg #[v], a.v] w fun e w' => RAddYes w n F a e w' := by
      by_cases hf : fb F (lvs n) = lvs n
      · exact radd_grow v n F a w hR h1 h2 h3 h4 hwf h5 hf (fun e => h6 ⟨hf, e⟩)
      · exact radd_room v n F a w hR h1 h2 h3 h4 hwf h5 (by have := fb_le F (lvs n); omega)
    refine key.mono fun e w' h => ?_
    obtain ⟨⟨v', g1, g2⟩, g3⟩ := h
    refine ⟨⟨v', ?_, ?_⟩, g3⟩
    · rw [g1, h0, show addRat n F a = (fb F (lvs n) : Nat) from if_pos h0]
    · rw [show addRn n F a = 2 * addN n F - 1 from if_pos h0, show addRF n F a = addF n F (lg (addN n F)) (fb F (lvs n)) a from if_pos h0]
      exact g2
  · have key : Calls Tryz.prog 26 #[.agg #[v], a.v] w fun e w' => AddNo w (addE n F a) e w' := by
      by_cases h1 : chk n F = false ∨ a.mem < 0 ∨ a.ep < 0 ∨ a.pub < 1
      · rw [show addE n F a = 1 from if_pos h1]
        exact radd_arg v n F a w hun hR hn h1
      · have hc : chk n F = true := by
          cases hc : chk n F with
          | true => rfl
          | false => exact absurd (.inl hc) h1
        by_cases h2 : 0 ≤ findM F a.mem (sizeM n F)
        · rw [show addE n F a = 13 by unfold addE; rw [if_neg h1, if_pos h2]]
          exact radd_twice v n F a w hun hR hn hc (by omega) (by omega) (by omega) h2
        · by_cases h3 : fb F (lvs n) = lvs n ∧ lvs n = 8
          · rw [show addE n F a = 3 by unfold addE; rw [if_neg h1, if_neg h2, if_pos h3]]
            exact radd_limit v n F a w hR hc (by omega) (by omega) (by omega) hwf (by omega) h3.1 h3.2
          · exact absurd (by unfold addE; rw [if_neg h1, if_neg h2, if_neg h3]) h0
    refine key.mono fun e w' h => ?_
    exact ⟨⟨.slice none 0 0, by rw [h.out, show addRat n F a = 0 from if_neg h0], by rw [show addRn n F a = 0 from if_neg h0]; exact TrR.nil _ _⟩, h.bel⟩
structure RRemQ (w : World) (n : Nat) (F : Nat → Node) (m : Int) (e : Ending) (w' : World) : Prop where
  out : ∃ v', e = .returned (.tuple #[.agg #[v'], .int .i64 (remE n F m)]) ∧ TrR w' v' (remRn n F m) (remRF n F m)
  bel : Below w.heap.size w w'
theorem rrem_q (v : Value) (n : Nat) (F : Nat → Node) (m : Int) (w : World) (hR : TrR w v n F) (hun : ∀ y, y < n → (F y).un.length ≤ 1000000) :
    Calls Tryz.prog 27 #[.agg #[v], .int .i64 m] w fun e w' => RRemQ w n F m e w' := by
  by_cases h0 : remE n F m = 0
  · obtain ⟨d, i, hO, hfi, hid, hip, him, hml, hoth⟩ := rem_facts h0
    refine (rrem_yes v n d i F m w hR hO hfi hid hml).mono fun e w' h => ?_
    obtain ⟨⟨v', h1, h2⟩, h3⟩ := h
    obtain ⟨e1, e2⟩ := remR_eq h0 hO hfi
    exact ⟨⟨v', by rw [h1, h0], by rw [e1, e2]; exact h2⟩, h3⟩
  · refine (rrem_no v n F m w hR hun h0).mono fun e w' h => ?_
    exact ⟨⟨.slice none 0 0, h.out, by rw [show remRn n F m = 0 from if_neg h0]; exact TrR.nil _ _⟩, h.bel⟩
structure RNewQ (w : World) (a : Addx) (e : Ending) (w' : World) : Prop where
  out : ∃ v', e = .returned (.tuple #[.agg #[v'], .int .i64 (addE 0 F0 a)]) ∧ TrR w' v' (addRn 0 F0 a) (addRF 0 F0 a)
  bel : Below w.heap.size w w'
set_option maxHeartbeats 2000000 in
theorem rnew_q (a : Addx) (w : World) (hwf : (Lit.int .i64 a.mem).wf = true) :
    Calls Tryz.prog 28 #[a.v] w fun e w' => RNewQ w a e w' := by
  obtain ⟨WA, hWA⟩ : ∃ WA, WA = ((w.alloc (.cells #[.int .i64 a.mem, .int .i64 a.ep, .int .i64 a.pub] 75)).alloc (.cells #[.slice none 0 0] 24)) := ⟨_, rfl⟩
  have hbA : Below w.heap.size w WA := by rw [hWA]; exact ((Below.refl _ _).alloc (Nat.le_refl _) _).alloc (by simp) _
  have hsA : WA.heap.size = w.heap.size + 2 := by rw [hWA]; simp
  have hadd := radd_q (.slice none 0 0) 0 F0 a WA (TrR.nil _ _) (by decide) (fun y h => by omega) hwf
  have hr0 : WA.cell? ⟨w.heap.size + 1, 0, none⟩ = some (.slice none 0 0) ∧ WA.frozen? ⟨w.heap.size + 1, 0, none⟩ = false ∧ w.heap.size + 1 < WA.heap.size := by
    have := heap_alloc_new (w.alloc (.cells #[.int .i64 a.mem, .int .i64 a.ep, .int .i64 a.pub] 75)) (.cells #[.slice none 0 0] 24)
    rw [show (w.alloc (.cells #[.int .i64 a.mem, .int .i64 a.ep, .int .i64 a.pub] 75)).heap.size = w.heap.size + 1 by simp, ← hWA] at this
    exact ⟨by rw [cell_of_row _ _ _ _ _ _ this]; rfl, frozen_of_row _ _ _ _ _ this, (Array.getElem?_eq_some_iff.1 this).1⟩
  have HA := Lib.hid (And.intro hbA (And.intro hr0 hsA))
  have HYES : Hid (∀ (e : Ending) (w' : World) (v' : Value), e = .returned (.tuple #[.agg #[v'], .int .i64 (addE 0 F0 a)]) → TrR w' v' (addRn 0 F0 a) (addRF 0 F0 a) → Below w.heap.size w w' → RNewQ w a e w') := Lib.hid fun e w' v' h1 h2 h3 => ⟨⟨v', h1, h2⟩, h3⟩
  obtain ⟨er, her⟩ : ∃ er, er = addE 0 F0 a := ⟨_, rfl⟩
  rw [← her] at HYES
  have hadd2 : Calls Tryz.prog 26 #[.agg #[.slice none 0 0], a.v] WA fun e w' => ∃ v' at', e = .returned (.tuple #[.agg #[v'], .int .i64 at', .int .i64 er]) ∧ Hid (TrR w' v' (addRn 0 F0 a) (addRF 0 F0 a)) ∧ Below WA.heap.size WA w' := hadd.mono fun e w' h => by
    obtain ⟨⟨v', h1, h2⟩, h3⟩ := h
    exact ⟨v', addRat 0 F0 a, by rw [h1, her], Lib.hid h2, h3⟩
  clear hadd her
  generalize addRn 0 F0 a = rn at *
  generalize addRF 0 F0 a = rF at *
  obtain ⟨m, e, p⟩ := a
  unfold Addx.v at hadd2 ⊢
  simp only at hWA hadd2 ⊢
  clear hbA hr0 hsA hwf
  go_enter Tryz.func28, Tryz.ntmps28
  go_wp2_with fail
  rw [← hWA]
  refine hadd2.mono ?_
  rintro e' w1 ⟨v', at', rfl, hTR, hb1⟩
  obtain ⟨A', c', hv', -, -, -⟩ := id hTR.out
  obtain ⟨hbA, ⟨r0, rf, rlt⟩, hsA⟩ := HA.out
  have s0 := (hb1.cell (p := ⟨w.heap.size + 1, 0, none⟩) rlt).trans r0
  have sf := (hb1.frozen (p := ⟨w.heap.size + 1, 0, none⟩) rlt).trans rf
  have sl : w.heap.size + 1 < w1.heap.size := World.block_lt_of_cell? _ _ s0
  have HB1 := Lib.hid (hbA.trans (hb1.mono hbA.size))
  have HS0 := Lib.hid s0
  subst hv'
  clear hb1 hbA r0 rf rlt hWA HA hadd2
  have q9 : ∀ o u, ((w1.setCell ⟨w.heap.size + 1, 0, none⟩ u).alloc o).cell? ⟨w.heap.size + 1, 0, none⟩ = some u := fun o u => by
    rw [World.cell?_alloc_lt _ _ _ (by simp; exact sl)]
    apply World.cell?_setCell_same
    exact s0
  go_wp2_with fail
  refine bodyPost_ret (by simp [results, Tryz.results28, go_sem, q9]; rfl) rfl (HYES.out _ _ _ rfl ?_ ?_)
  · exact (hTR.out.setBox HS0.out).alloc _
  · exact (HB1.out.setCell (p := ⟨w.heap.size + 1, 0, none⟩) (by show w.heap.size ≤ w.heap.size + 1; omega) _).alloc (by simp; have := HB1.out.size; omega) _
/-- The lists of what is answered are short. -/
theorem addR_len (n : Nat) (F : Nat → Node) (a : Addx) : addRn n F a ≤ 15 ∧ ∀ y, y < addRn n F a → (addRF n F a y).un.length ≤ 8 := by
  by_cases h0 : addE n F a = 0
  · obtain ⟨d, h1, h2, hO⟩ := add_ok h0
    rw [show addRn n F a = 2 * addN n F - 1 from if_pos h0, show addRF n F a = addF n F (lg (addN n F)) (fb F (lvs n)) a from if_pos h0, h1]
    exact ⟨hO.n_le, fun y hy => hO.un_len hy⟩
  · rw [show addRn n F a = 0 from if_neg h0]
    exact ⟨by omega, fun y hy => by omega⟩
theorem remR_len (n : Nat) (F : Nat → Node) (m : Int) : remRn n F m ≤ 15 ∧ ∀ y, y < remRn n F m → (remRF n F m y).un.length ≤ 8 := by
  by_cases h0 : remE n F m = 0
  · obtain ⟨d, i, hO, hfi, hid, hip, him, hml, hoth⟩ := rem_facts h0
    obtain ⟨e1, e2⟩ := remR_eq h0 hO hfi
    have hO2 := rem_ok hO hid hoth
    rw [e1, e2]
    exact ⟨hO2.n_le, fun y hy => hO2.un_len hy⟩
  · rw [show remRn n F m = 0 from if_neg h0]
    exact ⟨by omega, fun y hy => by omega⟩
end Go.Proofs.YtnahhclflnjmcaaGreatDoor
