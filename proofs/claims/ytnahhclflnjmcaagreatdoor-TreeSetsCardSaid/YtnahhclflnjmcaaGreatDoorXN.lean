/- SetPath's refusals: the program's and the document's. -/
import Derived.Test.YtnahhclflnjmcaaGreatDoorXM
import Derived.Test.YtnahhclflnjmcaaGreatDoorTF
namespace Go.Proofs.YtnahhclflnjmcaaGreatDoor
open Go Go.RowKit
set_option linter.unusedVariables false
set_option linter.unusedSimpArgs false
set_option maxRecDepth 100000

/-- Whether a list of new keys has one that is none. -/
def setBad (ps : List Int) : Bool := ps.any fun x => decide (x < 1)
theorem setBad_iff {ps : List Int} : setBad ps = true ↔ ∃ x ∈ ps, x < 1 := by
  unfold setBad
  rw [List.any_eq_true]
  exact ⟨fun ⟨x, h1, h2⟩ => ⟨x, h1, of_decide_eq_true h2⟩, fun ⟨x, h1, h2⟩ => ⟨x, h1, decide_eq_true h2⟩⟩
/-- What SetPath answers. -/
def setE (n : Nat) (F : Nat → Node) (i ep pub : Int) (ps : List Int) : Int :=
  if chk n F = false ∨ ep < 0 ∨ pub < 1 then 1
  else if rowsE n F i ≠ 0 then rowsE n F i
  else if ps.length ≠ (pathL n F i).length ∨ setBad ps = true then 1 else 0
theorem natL_length (l : List Nat) : (natL l).length = l.length := by unfold natL; rw [List.length_map]
theorem setE_first {n : Nat} {F : Nat → Node} {i ep pub : Int} {ps : List Int} (h : chk n F = false ∨ ep < 0 ∨ pub < 1) : setE n F i ep pub ps = 1 := by unfold setE; rw [if_pos h]
theorem setE_next {n : Nat} {F : Nat → Node} {i ep pub : Int} {ps : List Int} (h1 : chk n F = true) (h2 : ¬ ep < 0) (h3 : ¬ pub < 1) : setE n F i ep pub ps = if rowsE n F i ≠ 0 then rowsE n F i else if ps.length ≠ (pathL n F i).length ∨ setBad ps = true then 1 else 0 := by
  unfold setE
  rw [if_neg]
  rintro (h | h | h)
  · rw [h1] at h; cases h
  · exact h2 h
  · exact h3 h
theorem setE_yes {n : Nat} {F : Nat → Node} {i ep pub : Int} {ps : List Int} (h : setE n F i ep pub ps = 0) : chk n F = true ∧ 0 ≤ ep ∧ 1 ≤ pub ∧ rowsE n F i = 0 ∧ ps.length = (pathL n F i).length ∧ ∀ x ∈ ps, 1 ≤ x := by
  by_cases h1 : chk n F = false ∨ ep < 0 ∨ pub < 1
  · rw [setE_first h1] at h; cases h
  · have hz : chk n F = true := by
      cases hz : chk n F with
      | true => rfl
      | false => exact absurd (.inl hz) h1
    have h2 : ¬ ep < 0 := fun h => h1 (.inr (.inl h))
    have h3 : ¬ pub < 1 := fun h => h1 (.inr (.inr h))
    rw [setE_next hz h2 h3] at h
    by_cases h4 : rowsE n F i = 0
    · rw [if_neg (by omega)] at h
      by_cases h5 : ps.length ≠ (pathL n F i).length ∨ setBad ps = true
      · rw [if_pos h5] at h; cases h
      · refine ⟨hz, by omega, by omega, h4, ?_, fun x hx => ?_⟩
        · by_cases h6 : ps.length = (pathL n F i).length
          · exact h6
          · exact absurd (.inl h6) h5
        · by_cases h6 : 1 ≤ x
          · exact h6
          · exact absurd (.inr (setBad_iff.2 ⟨x, hx, by omega⟩)) h5
    · rw [if_pos h4] at h
      exact absurd h h4
theorem pathL_length (n : Nat) (F : Nat → Node) (i : Int) : (pathL n F i).length ≤ 3 := by
  unfold pathL rowsL
  split
  · rw [List.length_map]
    refine Nat.le_trans (rowsK_length F i.toNat (lg (lvs n))) ?_
    unfold lg
    repeat' split
    all_goals omega
  · simp
theorem first_bad : ∀ {ps : List Int}, setBad ps = true → ∃ k, k < ps.length ∧ (∃ x, ps[k]? = some x ∧ x < 1) ∧ ∀ j x, j < k → ps[j]? = some x → ¬ x < 1
  | [], h => by cases h
  | y :: l, h => by
    by_cases hy : y < 1
    · exact ⟨0, by simp, ⟨y, rfl, hy⟩, fun j x hj => by omega⟩
    · have h2 : setBad l = true := by
        unfold setBad at h ⊢
        rw [List.any_cons, Bool.or_eq_true] at h
        rcases h with h | h
        · exact absurd (of_decide_eq_true h) hy
        · exact h
      obtain ⟨k, h3, h4, h5⟩ := first_bad h2
      refine ⟨k + 1, by simp; exact h3, by simpa using h4, fun j x hj hx => ?_⟩
      cases j with
      | zero => obtain rfl : y = x := by simpa using hx
                exact hy
      | succ j => exact h5 j x (by omega) (by simpa using hx)
set_option maxHeartbeats 4000000 in
theorem set_no (v : Value) (n : Nat) (F : Nat → Node) (i ep pub : Int) (vp : Value) (ps : List Int) (w : World) (hT : Tab w) (hR : TrR w v n F) (hn : n ≤ 262144) (hps : Ints w vp ps) (hq : setE n F i ep pub ps ≠ 0) :
    Calls Tryz.prog 32 #[.agg #[v], .int .i64 i, .int .i64 ep, .int .i64 pub, vp] w fun e w' => TwoNo w (setE n F i ep pub ps) e w' := by
  have hC : ∀ W, Below w.heap.size w W → Calls Tryz.prog 10 #[.agg #[v]] W fun e w' => e = .returned (.int .i64 (errB (chk n F))) ∧ Below W.heap.size W w' := fun W hW =>
    check10 v n F W (hT.below hT.pos hW) (hR.below hW) (by omega)
  have hP : ∀ W, Below w.heap.size w W → Calls Tryz.prog 36 #[.agg #[v], .int .i64 i] W fun e w' => ∃ v', e = .returned (.tuple #[v', .int .i64 (rowsE n F i)]) ∧ OwnI w' W.heap.size v' (natL (pathL n F i)) ∧ Below W.heap.size W w' := fun W hW =>
    (path17 v n F i W (hT.below hT.pos hW) (hR.below hW) hn).mono fun e w' h => by obtain ⟨⟨v', h1, h2⟩, h3⟩ := h; exact ⟨v', h1, h2, h3⟩
  have hM : 0 < ps.length → ps.length ≤ 1000 → ∀ W, Below w.heap.size w W → Calls Tryz.prog 166 #[vp] W fun e w' => ∃ m, e = .returned (.int .i64 m) ∧ (m < 1 ↔ ∃ x ∈ ps, x < 1) ∧ W = w' := fun h0 h1 W hW =>
    min36 vp ps W (hps.below hW) h0 h1
  obtain ⟨A, c, rfl, -, -, -⟩ := hR
  obtain ⟨Ap, cp, rfl, -, -, -⟩ := id hps
  have HB0 := Lib.hid (TwoB.start w (.slice A n c))
  have HPS := Lib.hid hps
  have hpl := pathL_length n F i
  clear hT hn hps
  by_cases h1 : chk n F = false ∨ ep < 0 ∨ pub < 1
  · rw [setE_first h1]
    clear hq hP
    cases hz : chk n F with
    | false =>
      rw [hz, errB_false] at hC
      clear h1 hz
      generalize ps.length = pn at *
      go_enter Tryz.func32, Tryz.ntmps32
      go_wp2_with (go_at_call 10; refine (hC _ HB0.out.bel).mono ?_; rintro e' w1 ⟨rfl, hb1⟩; obtain ⟨d0, d1, d2, d3, d4⟩ := HB0.out.under hb1; have HB1 := Lib.hid (HB0.out.under hb1); have d5 : w.heap.size < w1.heap.size := by omega)
      have d8 := HB1.out.stored
      refine bodyPost_ret (by simp [results, Tryz.results32, go_sem, d8]; rfl) rfl ?_
      exact ⟨rfl, d0.setCell (by show w.heap.size ≤ w.heap.size + 1; omega) _⟩
    | true =>
      rw [hz, errB_true] at hC
      by_cases h2 : ep < 0
      · have t1 : decide (ep < 0) = true := decide_eq_true h2
        clear h1 hz h2
        generalize ps.length = pn at *
        go_enter Tryz.func32, Tryz.ntmps32
        go_wp2_with (go_at_call 10; refine (hC _ HB0.out.bel).mono ?_; rintro e' w1 ⟨rfl, hb1⟩; obtain ⟨d0, d1, d2, d3, d4⟩ := HB0.out.under hb1; have HB1 := Lib.hid (HB0.out.under hb1); have d5 : w.heap.size < w1.heap.size := by omega)
        have d8 := HB1.out.stored
        refine bodyPost_ret (by simp [results, Tryz.results32, go_sem, d8]; rfl) rfl ?_
        exact ⟨rfl, d0.setCell (by show w.heap.size ≤ w.heap.size + 1; omega) _⟩
      · have t1 : decide (ep < 0) = false := decide_eq_false h2
        have t2 : decide (pub < 1) = true := decide_eq_true (by rcases h1 with h | h | h; rw [hz] at h; cases h; exact absurd h h2; exact h)
        clear h1 hz h2
        generalize ps.length = pn at *
        go_enter Tryz.func32, Tryz.ntmps32
        go_wp2_with (go_at_call 10; refine (hC _ HB0.out.bel).mono ?_; rintro e' w1 ⟨rfl, hb1⟩; obtain ⟨d0, d1, d2, d3, d4⟩ := HB0.out.under hb1; have HB1 := Lib.hid (HB0.out.under hb1); have d5 : w.heap.size < w1.heap.size := by omega)
        have d8 := HB1.out.stored
        refine bodyPost_ret (by simp [results, Tryz.results32, go_sem, d8]; rfl) rfl ?_
        exact ⟨rfl, d0.setCell (by show w.heap.size ≤ w.heap.size + 1; omega) _⟩
  · have hz : chk n F = true := by
      cases hz : chk n F with
      | true => rfl
      | false => exact absurd (.inl hz) h1
    have h2 : ¬ ep < 0 := fun h => h1 (.inr (.inl h))
    have h3 : ¬ pub < 1 := fun h => h1 (.inr (.inr h))
    rw [hz, errB_true] at hC
    rw [setE_next hz h2 h3] at hq ⊢
    have t1 : decide (ep < 0) = false := decide_eq_false h2
    have t2 : decide (pub < 1) = false := decide_eq_false h3
    clear h1 hz h2 h3
    by_cases h4 : rowsE n F i = 0
    · rw [h4] at hP
      rw [if_neg (show ¬ rowsE n F i ≠ 0 by omega)] at hq ⊢
      have h5 : ps.length ≠ (pathL n F i).length ∨ setBad ps = true := by
        by_cases h5 : ps.length ≠ (pathL n F i).length ∨ setBad ps = true
        · exact h5
        · rw [if_neg h5] at hq; exact absurd rfl hq
      rw [if_pos h5]
      generalize pathL n F i = pl at *
      clear hq h4
      have hnl := natL_length pl
      generalize natL pl = nl at *
      by_cases h6 : ps.length = pl.length
      · have hbad : setBad ps = true := by
          rcases h5 with h | h
          · exact absurd h6 h
          · exact h
        rw [← hnl] at h6 hpl
        have hp0 : 0 < ps.length := by
          cases ps with
          | nil => cases hbad
          | cons x l => simp
        have hM2 := hM hp0 (by omega)
        have hb9 := setBad_iff.1 hbad
        clear h5 hnl hM hbad
        generalize hnn : nl.length = pn at *
        have t3 : decide (0 < pn) = true := decide_eq_true (by omega)
        rw [h6] at hM2 ⊢
        clear hp0
        go_enter Tryz.func32, Tryz.ntmps32
        go_wp2_with (go_at_call 10; refine (hC _ HB0.out.bel).mono ?_; rintro e' w1 ⟨rfl, hb1⟩; obtain ⟨d0, d1, d2, d3, d4⟩ := HB0.out.under hb1; have HB1 := Lib.hid (HB0.out.under hb1); have d5 : w.heap.size < w1.heap.size := by omega)
        refine (hP _ HB1.out.bel).mono ?_
        rintro e' w2 ⟨v2, rfl, ho2, hb2⟩
        obtain ⟨A2, c2, rfl⟩ := ho2.slice
        obtain ⟨f0, f1, f2, f3, f4⟩ := HB1.out.under hb2
        have HB2 := Lib.hid (HB1.out.under hb2)
        have f5 : w.heap.size < w2.heap.size := by omega
        rw [hnn]
        clear ho2 hb1 hb2 d0 d1 d2 d3 d4 d5
        go_wp2_with fail
        refine (hM2 _ HB2.out.bel).mono ?_
        rintro e' w3 ⟨m, rfl, hm, rfl⟩
        have t4 : decide (m < 1) = true := decide_eq_true (hm.2 hb9)
        clear hm
        go_wp2_with fail
        have d8 := HB2.out.stored
        refine bodyPost_ret (by simp [results, Tryz.results32, go_sem, d8]; rfl) rfl ?_
        exact ⟨rfl, f0.setCell (by show w.heap.size ≤ w.heap.size + 1; omega) _⟩
      · have t3 : ((ps.length : Int) != (nl.length : Int)) = true := by rw [bne_iff_ne]; omega
        clear h5 h6 hpl hnl
        generalize ps.length = pn at *
        generalize hnn : nl.length = nn at *
        go_enter Tryz.func32, Tryz.ntmps32
        go_wp2_with (go_at_call 10; refine (hC _ HB0.out.bel).mono ?_; rintro e' w1 ⟨rfl, hb1⟩; obtain ⟨d0, d1, d2, d3, d4⟩ := HB0.out.under hb1; have HB1 := Lib.hid (HB0.out.under hb1); have d5 : w.heap.size < w1.heap.size := by omega)
        refine (hP _ HB1.out.bel).mono ?_
        rintro e' w2 ⟨v2, rfl, ho2, hb2⟩
        obtain ⟨A2, c2, rfl⟩ := ho2.slice
        obtain ⟨f0, f1, f2, f3, f4⟩ := HB1.out.under hb2
        have HB2 := Lib.hid (HB1.out.under hb2)
        have f5 : w.heap.size < w2.heap.size := by omega
        rw [hnn]
        clear ho2 hb1 hb2 d0 d1 d2 d3 d4 d5
        go_wp2_with fail
        have d8 := HB2.out.stored
        refine bodyPost_ret (by simp [results, Tryz.results32, go_sem, d8]; rfl) rfl ?_
        exact ⟨rfl, f0.setCell (by show w.heap.size ≤ w.heap.size + 1; omega) _⟩
    · rw [if_pos h4]
      generalize rowsE n F i = z at *
      have t3 : (z != 0) = true := by rw [bne_iff_ne]; exact h4
      clear hq h4
      generalize ps.length = pn at *
      generalize natL (pathL n F i) = nl at *
      go_enter Tryz.func32, Tryz.ntmps32
      go_wp2_with (go_at_call 10; refine (hC _ HB0.out.bel).mono ?_; rintro e' w1 ⟨rfl, hb1⟩; obtain ⟨d0, d1, d2, d3, d4⟩ := HB0.out.under hb1; have HB1 := Lib.hid (HB0.out.under hb1); have d5 : w.heap.size < w1.heap.size := by omega)
      refine (hP _ HB1.out.bel).mono ?_
      rintro e' w2 ⟨v2, rfl, ho2, hb2⟩
      obtain ⟨A2, c2, rfl⟩ := ho2.slice
      obtain ⟨f0, f1, f2, f3, f4⟩ := HB1.out.under hb2
      have HB2 := Lib.hid (HB1.out.under hb2)
      have f5 : w.heap.size < w2.heap.size := by omega
      clear ho2 hb1 hb2 d0 d1 d2 d3 d4 d5
      go_wp2_with fail
      have d8 := HB2.out.stored
      refine bodyPost_ret (by simp [results, Tryz.results32, go_sem, d8]; rfl) rfl ?_
      exact ⟨rfl, f0.setCell (by show w.heap.size ≤ w.heap.size + 1; omega) _⟩
set_option maxHeartbeats 4000000 in
theorem rset_no (v : Value) (n : Nat) (F : Nat → Node) (i ep pub : Int) (vp : Value) (ps : List Int) (w : World) (hpos : 0 < w.heap.size) (hR : TrR w v n F) (hun : ∀ y, y < n → (F y).un.length ≤ 1000000) (hi : (Lit.int .i64 i).wf = true) (hps : Ints w vp ps) (hq : setE n F i ep pub ps ≠ 0) :
    Calls Tryz.prog 33 #[.agg #[v], .int .i64 i, .int .i64 ep, .int .i64 pub, vp] w fun e w' => TwoNo w (setE n F i ep pub ps) e w' := by
  have hC : ∀ W, Below w.heap.size w W → Calls Tryz.prog 15 #[.agg #[v]] W fun e w' => e = .returned (.int .i64 (errB (chk n F))) ∧ Below W.heap.size W w' := fun W hW =>
    rcheck v n F W (hR.below hW) hun
  have hP : ∀ W, Below w.heap.size w W → Calls Tryz.prog 39 #[.agg #[v], .int .i64 i] W fun e w' => ∃ v', e = .returned (.tuple #[v', .int .i64 (rowsE n F i)]) ∧ OwnI w' W.heap.size v' (natL (pathL n F i)) ∧ Below W.heap.size W w' := fun W hW =>
    (rpath v n F i W (Nat.lt_of_lt_of_le hpos hW.size) (hR.below hW) hun hi).mono fun e w' h => by obtain ⟨⟨v', h1, h2⟩, h3⟩ := h; exact ⟨v', h1, h2, h3⟩
  obtain ⟨A, c, rfl, -, -, -⟩ := hR
  obtain ⟨Ap, cp, rfl, -, -, -⟩ := id hps
  have HB0 := Lib.hid (TwoB.start w (.slice A n c))
  have HPS := Lib.hid hps
  have hpl := pathL_length n F i
  clear hun hi hpos hps
  by_cases h1 : chk n F = false ∨ ep < 0 ∨ pub < 1
  · rw [setE_first h1]
    clear hq hP
    cases hz : chk n F with
    | false =>
      rw [hz, errB_false] at hC
      clear h1 hz
      generalize ps.length = pn at *
      go_enter Tryz.func33, Tryz.ntmps33
      go_wp2_with (go_at_call 15; refine (hC _ HB0.out.bel).mono ?_; rintro e' w1 ⟨rfl, hb1⟩; obtain ⟨d0, d1, d2, d3, d4⟩ := HB0.out.under hb1; have HB1 := Lib.hid (HB0.out.under hb1); have d5 : w.heap.size < w1.heap.size := by omega)
      have d8 := HB1.out.stored
      refine bodyPost_ret (by simp [results, Tryz.results33, go_sem, d8]; rfl) rfl ?_
      exact ⟨rfl, d0.setCell (by show w.heap.size ≤ w.heap.size + 1; omega) _⟩
    | true =>
      rw [hz, errB_true] at hC
      by_cases h2 : ep < 0
      · have t1 : decide (ep < 0) = true := decide_eq_true h2
        clear h1 hz h2
        generalize ps.length = pn at *
        go_enter Tryz.func33, Tryz.ntmps33
        go_wp2_with (go_at_call 15; refine (hC _ HB0.out.bel).mono ?_; rintro e' w1 ⟨rfl, hb1⟩; obtain ⟨d0, d1, d2, d3, d4⟩ := HB0.out.under hb1; have HB1 := Lib.hid (HB0.out.under hb1); have d5 : w.heap.size < w1.heap.size := by omega)
        have d8 := HB1.out.stored
        refine bodyPost_ret (by simp [results, Tryz.results33, go_sem, d8]; rfl) rfl ?_
        exact ⟨rfl, d0.setCell (by show w.heap.size ≤ w.heap.size + 1; omega) _⟩
      · have t1 : decide (ep < 0) = false := decide_eq_false h2
        have t2 : decide (pub < 1) = true := decide_eq_true (by rcases h1 with h | h | h; rw [hz] at h; cases h; exact absurd h h2; exact h)
        clear h1 hz h2
        generalize ps.length = pn at *
        go_enter Tryz.func33, Tryz.ntmps33
        go_wp2_with (go_at_call 15; refine (hC _ HB0.out.bel).mono ?_; rintro e' w1 ⟨rfl, hb1⟩; obtain ⟨d0, d1, d2, d3, d4⟩ := HB0.out.under hb1; have HB1 := Lib.hid (HB0.out.under hb1); have d5 : w.heap.size < w1.heap.size := by omega)
        have d8 := HB1.out.stored
        refine bodyPost_ret (by simp [results, Tryz.results33, go_sem, d8]; rfl) rfl ?_
        exact ⟨rfl, d0.setCell (by show w.heap.size ≤ w.heap.size + 1; omega) _⟩
  · have hz : chk n F = true := by
      cases hz : chk n F with
      | true => rfl
      | false => exact absurd (.inl hz) h1
    have h2 : ¬ ep < 0 := fun h => h1 (.inr (.inl h))
    have h3 : ¬ pub < 1 := fun h => h1 (.inr (.inr h))
    rw [hz, errB_true] at hC
    rw [setE_next hz h2 h3] at hq ⊢
    have t1 : decide (ep < 0) = false := decide_eq_false h2
    have t2 : decide (pub < 1) = false := decide_eq_false h3
    clear h1 hz h2 h3
    by_cases h4 : rowsE n F i = 0
    · rw [h4] at hP
      rw [if_neg (show ¬ rowsE n F i ≠ 0 by omega)] at hq ⊢
      have h5 : ps.length ≠ (pathL n F i).length ∨ setBad ps = true := by
        by_cases h5 : ps.length ≠ (pathL n F i).length ∨ setBad ps = true
        · exact h5
        · rw [if_neg h5] at hq; exact absurd rfl hq
      rw [if_pos h5]
      generalize pathL n F i = pl at *
      clear hq h4
      have hnl := natL_length pl
      generalize natL pl = nl at *
      by_cases h6 : ps.length = pl.length
      · have hbad : setBad ps = true := by
          rcases h5 with h | h
          · exact absurd h6 h
          · exact h
        rw [← hnl] at h6 hpl
        clear h5 hnl
        obtain ⟨k, hk, hbk, hgd⟩ : ∃ k, k < ps.length ∧ (∃ x, ps[k]? = some x ∧ x < 1) ∧ ∀ j x, j < k → ps[j]? = some x → ¬ x < 1 := first_bad hbad
        generalize hnn : nl.length = pn at *
        clear hbad
        rw [h6] at hk ⊢
        have HK := Lib.hid (And.intro hbk (And.intro hgd h6))
        clear hbk hgd
        go_enter Tryz.func33, Tryz.ntmps33
        go_wp2_with (go_at_call 15; refine (hC _ HB0.out.bel).mono ?_; rintro e' w1 ⟨rfl, hb1⟩; obtain ⟨d0, d1, d2, d3, d4⟩ := HB0.out.under hb1; have HB1 := Lib.hid (HB0.out.under hb1); have d5 : w.heap.size < w1.heap.size := by omega)
        refine (hP _ HB1.out.bel).mono ?_
        rintro e' w2 ⟨v2, rfl, ho2, hb2⟩
        obtain ⟨A2, c2, rfl⟩ := ho2.slice
        obtain ⟨f0, f1, f2, f3, f4⟩ := HB1.out.under hb2
        have HB2 := Lib.hid (HB1.out.under hb2)
        have f5 : w.heap.size < w2.heap.size := by omega
        rw [hnn]
        clear ho2 hb1 hb2 d0 d1 d2 d3 d4 d5
        go_wp2_with fail
        go_loopg [14] (k + 1) (fun g v14 wr => ∃ j : Nat, j ≤ k ∧ j + g = k + 1 ∧ v14 = .int .i64 (j : Int) ∧ wr = w2)
        case atStart => exact ⟨0, by omega, by omega, rfl, rfl⟩
        case round =>
          obtain ⟨j, hj, hg, rfl, rfl⟩ := hrel
          have HG := Lib.hid hg
          clear hg
          have j1 : (0 : Int) ≤ (j : Int) := by omega
          have j2 : (j : Int) < (pn : Int) := by omega
          obtain ⟨x, hx⟩ : ∃ x, ps[j]? = some x := ⟨ps[j]'(by have := HK.out.2.2; omega), List.getElem?_eq_getElem _⟩
          obtain ⟨bp, op, e1, cp0⟩ := (HPS.out.below HB2.out.bel).at hx
          subst e1
          have hbp := World.block_lt_of_cell? _ _ cp0
          have HX := Lib.hid hx
          clear hx
          by_cases hlt : j < k
          · have t3 : decide (x < 1) = false := decide_eq_false (fun h => by have := HK.out.2.1 j x hlt HX.out; omega)
            go_wp2_with fail
            go_roundg (gk - 1)
            case rel => exact ⟨j + 1, by omega, by have := HG.out; omega, by go_num, rfl⟩
            case measure => have := HG.out; omega
          · obtain rfl : j = k := by omega
            have t3 : decide (x < 1) = true := decide_eq_true (by
              obtain ⟨y, h1, h2⟩ := HK.out.1
              rw [HX.out] at h1
              obtain rfl := Option.some.inj h1
              exact h2)
            go_wp2_with fail
            have d8 := HB2.out.stored
            refine bodyPost_ret (by simp [results, Tryz.results33, go_sem, d8]; rfl) rfl ?_
            exact ⟨rfl, f0.setCell (by show w.heap.size ≤ w.heap.size + 1; omega) _⟩
      · have t3 : ((ps.length : Int) != (nl.length : Int)) = true := by rw [bne_iff_ne]; omega
        clear h5 h6 hpl hnl
        generalize ps.length = pn at *
        generalize hnn : nl.length = nn at *
        go_enter Tryz.func33, Tryz.ntmps33
        go_wp2_with (go_at_call 15; refine (hC _ HB0.out.bel).mono ?_; rintro e' w1 ⟨rfl, hb1⟩; obtain ⟨d0, d1, d2, d3, d4⟩ := HB0.out.under hb1; have HB1 := Lib.hid (HB0.out.under hb1); have d5 : w.heap.size < w1.heap.size := by omega)
        refine (hP _ HB1.out.bel).mono ?_
        rintro e' w2 ⟨v2, rfl, ho2, hb2⟩
        obtain ⟨A2, c2, rfl⟩ := ho2.slice
        obtain ⟨f0, f1, f2, f3, f4⟩ := HB1.out.under hb2
        have HB2 := Lib.hid (HB1.out.under hb2)
        have f5 : w.heap.size < w2.heap.size := by omega
        rw [hnn]
        clear ho2 hb1 hb2 d0 d1 d2 d3 d4 d5
        go_wp2_with fail
        have d8 := HB2.out.stored
        refine bodyPost_ret (by simp [results, Tryz.results33, go_sem, d8]; rfl) rfl ?_
        exact ⟨rfl, f0.setCell (by show w.heap.size ≤ w.heap.size + 1; omega) _⟩
    · rw [if_pos h4]
      generalize rowsE n F i = z at *
      have t3 : (z != 0) = true := by rw [bne_iff_ne]; exact h4
      clear hq h4
      generalize ps.length = pn at *
      generalize natL (pathL n F i) = nl at *
      go_enter Tryz.func33, Tryz.ntmps33
      go_wp2_with (go_at_call 15; refine (hC _ HB0.out.bel).mono ?_; rintro e' w1 ⟨rfl, hb1⟩; obtain ⟨d0, d1, d2, d3, d4⟩ := HB0.out.under hb1; have HB1 := Lib.hid (HB0.out.under hb1); have d5 : w.heap.size < w1.heap.size := by omega)
      refine (hP _ HB1.out.bel).mono ?_
      rintro e' w2 ⟨v2, rfl, ho2, hb2⟩
      obtain ⟨A2, c2, rfl⟩ := ho2.slice
      obtain ⟨f0, f1, f2, f3, f4⟩ := HB1.out.under hb2
      have HB2 := Lib.hid (HB1.out.under hb2)
      have f5 : w.heap.size < w2.heap.size := by omega
      clear ho2 hb1 hb2 d0 d1 d2 d3 d4 d5
      go_wp2_with fail
      have d8 := HB2.out.stored
      refine bodyPost_ret (by simp [results, Tryz.results33, go_sem, d8]; rfl) rfl ?_
      exact ⟨rfl, f0.setCell (by show w.heap.size ≤ w.heap.size + 1; omega) _⟩
end Go.Proofs.YtnahhclflnjmcaaGreatDoor
