/- names: how often a leaf is named. -/
import Derived.Test.YtopkanokpfhmmaaDoorVC
import Derived.Test.YtopkanokpfhmmaaDoorVB
import Derived.BigQuiet
namespace Go.Proofs.YtopkanokpfhmmaaDoor
open Go Go.RowKit
set_option linter.unusedVariables false
set_option linter.unusedSimpArgs false

theorem nmL_take {F : Nat → Node} {i k : Nat} {l : List Int} {x : Int} (h : l[k]? = some x) : nmL F i (l.take (k + 1)) = nmL F i (l.take k) + nm1 F i x := by
  unfold nmL
  rw [List.take_add_one, h]
  simp
theorem nmL_le (F : Nat → Node) (i : Nat) : ∀ l : List Int, nmL F i l ≤ l.length := by
  have key : ∀ (l : List Int) (a : Nat), (l.map (nm1 F i)).foldl (· + ·) a ≤ a + l.length := by
    intro l
    induction l with
    | nil => intro a; exact Nat.le_refl _
    | cons x xs ih =>
      intro a
      have := ih (a + nm1 F i x)
      have h1 : nm1 F i x ≤ 1 := by unfold nm1; (repeat' split) <;> omega
      simp only [List.map_cons, List.foldl_cons, List.length_cons]
      omega
  intro l
  have := key l 0
  unfold nmL
  omega
theorem i64_two (i : Nat) (h : i < 1000000) : IntKind.i64.wrap (2 * (i : Int)) = 2 * (i : Int) := by
  have := i64_small (2 * i) (by omega)
  rw [show ((2 * i : Nat) : Int) = 2 * (i : Int) by omega] at this
  exact this
set_option maxHeartbeats 4000000 in
set_option maxRecDepth 100000 in
theorem names23 (v vl : Value) (n i : Nat) (F : Nat → Node) (l : List Int) (w : World) (hR : TrR w v n F) (hV : Ints w vl l) (hl : l.length ≤ 1000000) (hn : n ≤ 15) (hi : i < 8)
    (hz : ∀ z ∈ l, ∃ x : Nat, z = x ∧ x < n) (hu : ∀ x, x < n → (F x).un.length ≤ 1000000) :
    Calls Tryd.prog 23 #[.agg #[v], vl, .int .i64 i] w fun e w' => e = .returned (.int .i64 (nmL F i l : Nat)) ∧ Below w.heap.size w w' := by
  have HR := Lib.hid hR
  have HV := Lib.hid hV
  have HZ := Lib.hid hz
  have HU := Lib.hid hu
  obtain ⟨A, c, rfl, -, -, -⟩ := id hR
  obtain ⟨Al, cl, rfl, -, -, -⟩ := id hV
  clear hR hV hz hu
  go_enter Tryd.func23, Tryd.ntmps23
  go_wp2_with fail
  have hb0 : Below w.heap.size w (w.alloc (.cells #[.slice A n c] 24)) := (Below.refl _ _).alloc (Nat.le_refl _) _
  have hx0 : (w.alloc (.cells #[.slice A n c] 24)).cell? ⟨w.heap.size, 0, none⟩ = some (.slice A n c) := cell_one_new w _ 24 0 _ rfl
  obtain ⟨W, hW⟩ : ∃ W, W = w.alloc (.cells #[.slice A n c] 24) := ⟨_, rfl⟩
  rw [← hW] at hb0 hx0 ⊢
  have HRW := Lib.hid (HR.out.below hb0)
  have HVW := Lib.hid (HV.out.below hb0)
  have HB0 := Lib.hid hb0
  clear hW hb0
  generalize hln : l.length = n1 at *
  have HLN := Lib.hid hln
  clear hln
  go_loopg [7, 8] (n1 + 1) (fun g v7 v8 wr => ∃ k : Nat, k ≤ n1 ∧ k + g = n1 + 1 ∧ v8 = .int .i64 k ∧ v7 = .int .i64 (nmL F i (l.take k) : Nat) ∧ Below W.heap.size W wr)
  case atStart => exact ⟨0, by omega, by omega, rfl, rfl, Below.refl _ _⟩
  case round =>
    obtain ⟨k, hk, hg, rfl, rfl, hbel⟩ := hrel
    have HG := Lib.hid hg
    have HBEL := Lib.hid hbel
    have hx1 := (hbel.cell (p := ⟨w.heap.size, 0, none⟩) (World.block_lt_of_cell? _ _ hx0)).trans hx0
    clear hg
    by_cases hlt : k < n1
    · obtain ⟨u, hu⟩ : ∃ u, l[k]? = some u := ⟨l[k]'(by have := HLN.out; omega), List.getElem?_eq_getElem _⟩
      obtain ⟨x, hux, hxn⟩ := HZ.out u (List.mem_of_getElem? hu)
      subst hux
      obtain ⟨b, o, rfl, hc⟩ := (HVW.out.below hbel).at hu
      have HT := Lib.hid (nmL_take (F := F) (i := i) hu)
      have hle := nmL_le F i (l.take k)
      rw [List.length_take] at hle
      generalize nmL F i (l.take k) = q at *
      have hbl : b < wr.heap.size := World.block_lt_of_cell? _ _ hc
      have q1 : (0 : Int) ≤ (k : Int) := by omega
      have q2 : (k : Int) < n1 := by omega
      have q3 : (q : Int) < 2000000 := by omega
      have HX := Lib.hid hxn
      have iw := i64_two i (by omega)
      clear hbel hu hle
      by_cases h1 : (x : Int) = 2 * (i : Int)
      · have t1 : ((x : Int) == 2 * (i : Int)) = true := by rw [beq_iff_eq]; exact h1
        have HE := Lib.hid (show nm1 F i (x : Int) = 1 by unfold nm1; rw [if_pos h1])
        clear h1
        go_wp2_with fail
        go_roundg (gk - 1)
        case rel => exact ⟨k + 1, by omega, by have := HG.out; omega, by go_num, by rw [HT.out, HE.out]; go_num, HBEL.out⟩
        case measure => have := HG.out; omega
      · have t1 : ((x : Int) == 2 * (i : Int)) = false := by rw [beq_eq_false_iff_ne]; exact h1
        have hnm : nm1 F i (x : Int) = if x % 2 = 1 ∧ wi i x = true ∧ (F x).un.contains (i : Int) = false then 1 else 0 := by
          unfold nm1
          rw [if_neg h1, Int.toNat_natCast]
          have e : ((x : Int) % 2 = 1) ↔ x % 2 = 1 := by omega
          simp only [e]
        clear h1
        by_cases ho : x % 2 = 1
        · have t2 : ((x : Int).tmod 2 == 1) = true := by
            rw [beq_iff_eq, Int.tmod_eq_emod_of_nonneg (by omega)]; omega
          cases hw : wi i x with
          | false =>
            have hW := fun nq => wi_iff hi (show x < 31 by omega) (wr.drewN nq)
            rw [hw] at hW
            have HE := Lib.hid (show nm1 F i (x : Int) = 0 by rw [hnm, if_neg (by rw [hw]; rintro ⟨_, h, _⟩; cases h)])
            clear hnm hw ho
            generalize (x : Int) = z at *
            go_wp2_with fail
            go_quiet ((go_at_call 24; exact Calls.quiet_of_same ((hW _).mono (fun e w' h => ⟨h.1, h.2.symm⟩))))
            go_wp2_with fail
            go_roundg (gk - 1)
            case rel => exact ⟨k + 1, by omega, by have := HG.out; omega, by go_num, by rw [HT.out, HE.out]; rfl, Below.quiet HBEL.out _⟩
            case measure => have := HG.out; omega
          | true =>
            have hW := fun nq => wi_iff hi (show x < 31 by omega) (wr.drewN nq)
            rw [hw] at hW
            obtain ⟨bn, on, rfl, hN⟩ := (HRW.out.below HBEL.out).at' HX.out
            obtain ⟨An, cn, c3, hIn⟩ := hN.c3
            have hH : ∀ nq, Calls Tryd.prog 22 #[.slice An (F x).un.length cn, .int .i64 i] (wr.drewN nq) fun e w' => e = .returned (.bool ((F x).un.contains (i : Int))) ∧ wr.drewN nq = w' := fun nq =>
              has22 _ _ _ _ (hIn.below (Below.quiet (Below.refl _ _) nq)) (HU.out x HX.out)
            have hbn : bn < wr.heap.size := World.block_lt_of_cell? _ _ c3
            have x1 : (0 : Int) ≤ (x : Int) := by omega
            have x2 : (x : Int) < n := by have := HX.out; omega
            generalize (F x).un.length = ul at *
            have hcb : nm1 F i (x : Int) = if (F x).un.contains (i : Int) = false then 1 else 0 := by
              rw [hnm]
              simp only [ho, hw, true_and]
            clear hnm hw ho hIn hN
            obtain ⟨z, hzx⟩ : ∃ z : Int, z = (x : Int) := ⟨_, rfl⟩
            have hzt : x = z.toNat := by omega
            rw [hzt] at c3
            rw [← hzx] at t1 t2 hW x1 x2 hc hcb HT
            clear hzx hzt
            cases hc : (F x).un.contains (i : Int) with
            | false =>
              rw [hc] at hH hcb
              have HE := Lib.hid (show nm1 F i z = 1 from hcb)
              clear hcb hc
              go_wp2_with fail
              go_quiet ((first | (go_at_call 24; exact Calls.quiet_of_same ((hW _).mono (fun e w' h => ⟨h.1, h.2.symm⟩))) | (go_at_call 22; exact Calls.quiet_of_same ((hH _).mono (fun e w' h => ⟨h.1, h.2.symm⟩)))))
              go_wp2_with fail
              go_roundg (gk - 1)
              case rel => exact ⟨k + 1, by omega, by have := HG.out; omega, by go_num, by rw [HT.out, HE.out]; go_num, Below.quiet HBEL.out _⟩
              case measure => have := HG.out; omega
            | true =>
              rw [hc] at hH hcb
              have HE := Lib.hid (show nm1 F i z = 0 from hcb)
              clear hcb hc
              go_wp2_with fail
              go_quiet ((first | (go_at_call 24; exact Calls.quiet_of_same ((hW _).mono (fun e w' h => ⟨h.1, h.2.symm⟩))) | (go_at_call 22; exact Calls.quiet_of_same ((hH _).mono (fun e w' h => ⟨h.1, h.2.symm⟩)))))
              go_wp2_with fail
              go_roundg (gk - 1)
              case rel => exact ⟨k + 1, by omega, by have := HG.out; omega, by go_num, by rw [HT.out, HE.out]; rfl, Below.quiet HBEL.out _⟩
              case measure => have := HG.out; omega
        · have t2 : ((x : Int).tmod 2 == 1) = false := by
            rw [beq_eq_false_iff_ne, Int.tmod_eq_emod_of_nonneg (by omega)]; omega
          have HE := Lib.hid (show nm1 F i (x : Int) = 0 by rw [hnm, if_neg (fun h => ho h.1)])
          clear hnm ho
          generalize (x : Int) = z at *
          go_wp2_with fail
          go_quiet (fail)
          go_wp2_with fail
          go_roundg (gk - 1)
          case rel => exact ⟨k + 1, by omega, by have := HG.out; omega, by go_num, by rw [HT.out, HE.out]; rfl, Below.quiet HBEL.out _⟩
          case measure => have := HG.out; omega
    · obtain rfl : k = n1 := by omega
      clear hlt
      go_wp2_with fail
      go_ret
      rw [← HLN.out, List.take_length]
      exact ⟨rfl, HB0.out.trans (HBEL.out.mono HB0.out.size)⟩
end Go.Proofs.YtopkanokpfhmmaaDoor
