/- The document's Dag, and two rows held against one another. -/
import Derived.Test.YtenaljhkdnhgpaaGreatDoorTRPut
namespace Go.Proofs.YtenaljhkdnhgpaaGreatDoor.T
open Go.RowKit

theorem tOf0 (n : Nat) : tOf (List.replicate n 0) = told0 := by
  funext u
  unfold told0
  dsimp only [tOf, upd]
  by_cases e : u = 0
  · rw [if_pos e, if_pos e]
  · rw [if_neg e, if_neg e, if_neg]
    rintro ⟨_, h⟩
    rw [List.getD_eq_getElem?_getD, List.getElem?_replicate] at h
    split at h <;> simp at h
set_option maxHeartbeats 2000000 in
set_option maxRecDepth 100000 in
theorem rdag {B gr : Nat} {L : List Tm} {vr : Value} (hg : Good L) (m : Nat) (h0 : 0 < m) (hm : m ≤ L.length) (w : World) (h : RSt w B gr L vr) :
    Calls Tryz.prog 11 #[.pointer (some ⟨gr, 0, none⟩), .int .i64 m] w fun e w' => ∃ v, e = .returned v ∧ w'.ownsRow w.heap.size 69 4 v (dagS L m).length (rowOf (dagS L m)) ∧ Below w.heap.size w w' := by
  obtain ⟨A, c, hv⟩ := h.slice
  have hT := rthere gr L.length c A (m : Int) w (by rw [h.c0, hv])
  rw [show thereB L.length (m : Int) = true by unfold thereB; simp; omega] at hT
  obtain ⟨i0, hinf, hz0, hz1, hz2⟩ := info_parts info3
  have hlen := hg.1
  have hmk := run_make (P := Tryz.prog) w 23 3 i0 (.int .i64 0) Tryz.underlying23 hinf hz0 .i64 .i64 ((L.length : Int) + 1) ((L.length : Int) + 1) (by omega) (by omega) (by rw [hz2]; omega) (by omega)
  rw [show ((L.length : Int) + 1).toNat = L.length + 1 by omega, hz1, Nat.mul_one, show (Value.int IntKind.i64 0).cells = #[Value.int IntKind.i64 0] from rfl] at hmk
  have hb1 : Below w.heap.size w (w.alloc (.cells (madeCells #[Value.int IntKind.i64 0] (L.length + 1)) 3)) := (Below.refl _ _).alloc (Nat.le_refl _) _
  have hp : PSt w (w.alloc (.cells (madeCells #[Value.int IntKind.i64 0] (L.length + 1)) 3)) B gr L vr w.heap.size (.slice none 0 0) (List.replicate (L.length + 1) 0) [] := by
    refine ⟨h, hb1, Nat.le_refl _, ?_, World.ownsRow_nil _ _ _ _⟩
    rw [heap_alloc_new]
    have : madeCells #[Value.int IntKind.i64 0] (L.length + 1) = ((List.replicate (L.length + 1) (0 : Int)).map (Value.int .i64)).toArray := by
      apply Array.ext'
      show (madeCells #[Value.int .i64 0] (L.length + 1)).toList = _
      rw [toList_madeCells_one]
      simp
    rw [this]
  have M := rput hg m m (List.replicate (L.length + 1) 0) [] (.slice none 0 0) _ hm (Nat.le_refl _) (by simp) rfl (by rw [tOf0]; exact cl0 L) (by rw [tOf0]; exact len0 L) hp
  rw [tOf0] at M
  have ed : (putN L m (m : Int) (told0, [])).2 = dagS L m := by unfold dagS; rw [Int.toNat_natCast]
  rw [ed] at M
  have c0 := h.c0
  rw [hv] at c0
  have c0' : (w.alloc (.cells (madeCells #[Value.int IntKind.i64 0] (L.length + 1)) 3)).cell? ⟨gr, 0, none⟩ = some (.slice A L.length c) := by rw [World.cell?_alloc_lt _ _ _ (lt_of_some h.blk)]; exact c0
  have i5 : (L.length : Int) ≤ 1048576 := by omega
  clear hp hb1 ed hv h hlen
  go_enter Tryz.func11, Tryz.ntmps11
  go_wp2_with (go_at_call 32; with_reducible refine hT.mono ?_; rintro e w' ⟨rfl, rfl⟩)
  go_wp2_with fail
  with_reducible refine M.mono ?_
  rintro e w2 ⟨vo', T', rfl, P2, _, _, _, _, _⟩
  obtain ⟨A2, c2, rfl, _⟩ := (RT.of_own' (show w2.ownsRow w.heap.size 69 4 vo' (dagS L m).length (rowOf (dagS L m)) from P2.row)).slice
  have HP := Lib.hid P2
  clear P2 M
  go_wp2_with fail
  go_ret
  exact ⟨_, rfl, HP.out.row, HP.out.bel⟩
set_option maxHeartbeats 2000000 in
/-- Two rows of as many terms: told alike, or not. -/
theorem same_row (p q c d N : Nat) (l l' : List Tm) (hN : N = l.length) (hN' : N = l'.length) (w : World) (ha : RT w (.slice (some ⟨p, 0, none⟩) N c) l) (hb : RT w (.slice (some ⟨q, 0, none⟩) N d) l') (hsm : N ≤ 9223372036854775807) :
    Calls Tryz.prog 10 #[.slice (some ⟨p, 0, none⟩) N c, .slice (some ⟨q, 0, none⟩) N d] w fun e w' => e = .returned (.bool (decide (l = l'))) ∧ ∃ n, w' = w.drewN n := by
  have HA := Lib.hid ha
  have HB := Lib.hid hb
  have HN := Lib.hid (And.intro hN hN')
  have t0 : ((N : Int) != (N : Int)) = false := by simp
  obtain ⟨r, hr⟩ : ∃ r, r = decide (l = l') := ⟨_, rfl⟩
  rw [← hr]
  have HR := Lib.hid hr
  clear ha hb hN hN' hr
  go_enter Tryz.func10, Tryz.ntmps10
  go_wp2_with fail
  go_loopw [13] (fun v13 wr => ∃ k : Nat, k ≤ N ∧ v13 = .int .i64 k ∧ Hid (∀ i, i < k → l[i]? = l'[i]?) ∧ ∃ j, wr = w.drewN j) (fun v13 _ => N - (intOf v13).toNat)
  case atStart => exact ⟨0, by omega, rfl, Lib.hid (fun i hi => by omega), 0, rfl⟩
  case round =>
    obtain ⟨k, hk, rfl, HE, jd, rfl⟩ := hrel
    by_cases hlt : k < N
    · obtain ⟨x, hx⟩ : ∃ x, l[k]? = some x := ⟨l[k]'(by have := HN.out.1; omega), List.getElem?_eq_getElem _⟩
      obtain ⟨y, hy⟩ : ∃ y, l'[k]? = some y := ⟨l'[k]'(by have := HN.out.2; omega), List.getElem?_eq_getElem _⟩
      obtain ⟨c1, c2, c3, c4⟩ := HA.out.cell HN.out.1 k x hx
      obtain ⟨d1, d2, d3, d4⟩ := HB.out.cell HN.out.2 k y hy
      have i1 : (0 : Int) ≤ k := by omega
      have i2 : (k : Int) < N := by omega
      obtain ⟨xk, xn, xa, xb⟩ := x
      obtain ⟨yk, yn, ya, yb⟩ := y
      simp only at c1 c2 c3 c4 d1 d2 d3 d4
      have HX := Lib.hid (And.intro hx hy)
      clear hx hy
      have hcs : (¬ xk = yk) ∨ (xk = yk ∧ ¬ xn = yn) ∨ (xk = yk ∧ xn = yn ∧ ¬ xa = ya) ∨ (xk = yk ∧ xn = yn ∧ xa = ya ∧ ¬ xb = yb) ∨ (xk = yk ∧ xn = yn ∧ xa = ya ∧ xb = yb) := by
        by_cases e1 : xk = yk
        · by_cases e2 : xn = yn
          · by_cases e3 : xa = ya
            · by_cases e4 : xb = yb
              · exact .inr (.inr (.inr (.inr ⟨e1, e2, e3, e4⟩)))
              · exact .inr (.inr (.inr (.inl ⟨e1, e2, e3, e4⟩)))
            · exact .inr (.inr (.inl ⟨e1, e2, e3⟩))
          · exact .inr (.inl ⟨e1, e2⟩)
        · exact .inl e1
      have hno : ∀ (P : Prop), P → (¬ xk = yk ∨ ¬ xn = yn ∨ ¬ xa = ya ∨ ¬ xb = yb) → r = false := fun _ _ h => by
        rw [HR.out, decide_eq_false_iff_not]
        intro e
        have h1 := HX.out.1
        rw [e, HX.out.2] at h1
        injection h1 with h1
        injection h1 with e1 e2 e3 e4
        subst e1 e2 e3 e4
        simp at h
      rcases hcs with hx | hx | hx | hx | ⟨rfl, rfl, rfl, rfl⟩
      · have HF := Lib.hid (hno _ trivial (.inl hx))
        clear hno
        go_wp2_with fail
        go_quiet (fail)
        go_wp2
        go_ret
        rw [HF.out]
        exact ⟨rfl, jd + nq, by simp⟩
      · have HF := Lib.hid (hno _ trivial (.inr (.inl hx.2)))
        clear hno
        go_wp2_with fail
        go_quiet (fail)
        go_wp2
        go_ret
        rw [HF.out]
        exact ⟨rfl, jd + nq, by simp⟩
      · have HF := Lib.hid (hno _ trivial (.inr (.inr (.inl hx.2.2))))
        clear hno
        go_wp2_with fail
        go_quiet (fail)
        go_wp2
        go_ret
        rw [HF.out]
        exact ⟨rfl, jd + nq, by simp⟩
      · have HF := Lib.hid (hno _ trivial (.inr (.inr (.inr hx.2.2.2))))
        clear hno
        go_wp2_with fail
        go_quiet (fail)
        go_wp2
        go_ret
        rw [HF.out]
        exact ⟨rfl, jd + nq, by simp⟩
      · clear hno
        go_wp2_with fail
        go_quiet (fail)
        go_wp2
        go_roundw
        case rel => exact ⟨k + 1, by omega, by go_num, Lib.hid (fun i hi => by
          by_cases e : i = k
          · subst e; rw [HX.out.1, HX.out.2]
          · exact HE.out i (by omega)), _, rfl⟩
        case measure => simp [intOf]; omega
    · obtain rfl : k = N := by omega
      go_wp2
      go_ret
      have : l = l' := List.ext_getElem? fun i => by
        by_cases hi : i < k
        · exact HE.out i hi
        · rw [List.getElem?_eq_none (by have := HN.out.1; omega), List.getElem?_eq_none (by have := HN.out.2; omega)]
      rw [HR.out, decide_eq_true this]
      exact ⟨rfl, _, rfl⟩
theorem same_len (A A' : Option Addr) (n n' c c' : Nat) (hne : n ≠ n') (w : World) : Calls Tryz.prog 10 #[.slice A n c, .slice A' n' c'] w fun e w' => e = .returned (.bool false) ∧ ∃ n, w' = w.drewN n := by
  have t1 : ((n : Int) != (n' : Int)) = true := by rw [bne_iff_ne]; omega
  have t2 : (n != n') = true := by rw [bne_iff_ne]; omega
  go_enter Tryz.func10, Tryz.ntmps10
  go_wp2
  go_ret
  exact ⟨rfl, 0, rfl⟩
/-- SameTerms of any two rows. -/
theorem same_dec {w : World} {v v' : Value} {l l' : List Tm} (hv : RT w v l) (hv' : RT w v' l') (hsm : l.length ≤ 9223372036854775807) :
    Calls Tryz.prog 10 #[v, v'] w fun e w' => e = .returned (.bool (decide (l = l'))) ∧ ∃ n, w' = w.drewN n := by
  obtain ⟨A, c, rfl, hA⟩ := hv.slice
  obtain ⟨A', c', rfl, hA'⟩ := hv'.slice
  by_cases hl : l.length = l'.length
  · by_cases h0 : l.length = 0
    · obtain rfl : l = [] := List.length_eq_zero_iff.1 h0
      obtain rfl : l' = [] := List.length_eq_zero_iff.1 hl.symm
      rw [decide_eq_true rfl]
      exact same_nil _ _ _ _ w
    · obtain ⟨p, rfl⟩ := hA (by omega)
      obtain ⟨q, rfl⟩ := hA' (by omega)
      rw [← hl] at hv' ⊢
      exact same_row p q c c' l.length l l' rfl hl w hv hv' hsm
  · rw [decide_eq_false (fun e => hl (by rw [e]))]
    exact same_len _ _ _ _ _ _ hl w
end Go.Proofs.YtenaljhkdnhgpaaGreatDoor.T
