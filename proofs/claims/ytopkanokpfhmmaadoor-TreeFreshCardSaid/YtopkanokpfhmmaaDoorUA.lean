/- TreeSize, Beyond, New, has, SameNode. -/
import Derived.Test.YtopkanokpfhmmaaDoorTF
namespace Go.Proofs.YtopkanokpfhmmaaDoor
open Go Go.RowKit
set_option linter.unusedVariables false
set_option linter.unusedSimpArgs false

set_option maxHeartbeats 2000000 in
set_option maxRecDepth 100000 in
/-- TreeSize: where it is within the bound, there are no more nodes than that. -/
theorem size9 (v : Value) (n : Nat) (F : Nat → Node) (w : World) (hR : TrR w v n F) :
    Calls Tryd.prog 9 #[.agg #[v]] w fun e w' => ∃ s : Int, e = .returned (.int .i64 s) ∧ (s ≤ 262144 → n ≤ 262144) ∧ Below w.heap.size w w' := by
  have hn := hR.n_le
  obtain ⟨A, c, rfl, -, -, h3⟩ := hR
  have H3 := Lib.hid h3
  clear h3
  go_enter Tryd.func9, Tryd.ntmps9
  go_wp2_with fail
  go_loopg [3, 4] (n + 1) (fun g v3 v4 wr => ∃ (i : Nat) (s : Int), i ≤ n ∧ i + g = n + 1 ∧ v4 = .int .i64 i ∧ v3 = .int .i64 s ∧ (262144 < n → s = n) ∧ wr = w.alloc (.cells #[.slice A n c] 24))
  case atStart => exact ⟨0, n, by omega, by omega, rfl, rfl, fun _ => rfl, rfl⟩
  case round =>
    obtain ⟨i, s, hi, hg, rfl, rfl, hs, rfl⟩ := hrel
    have HG := Lib.hid (And.intro hg hs)
    clear hg
    by_cases hlt : i < n
    · by_cases hsm : s ≤ 262144
      · obtain ⟨b, o, rfl, hN⟩ := H3.out (by omega)
        obtain ⟨c0, c1, c2, ⟨A', cc, c3, hIn⟩, hr⟩ := hN i hlt
        have hb0 : b < w.heap.size := World.block_lt_of_cell? _ _ c0
        have hk : (F i).un.length ≤ 9223372036854775807 := by
          obtain ⟨A2, c2', e, h1, h2, _⟩ := hIn
          unfold maxLen at h2
          omega
        have t1 : decide (s ≤ 262144) = true := decide_eq_true hsm
        have q1 : (0 : Int) ≤ (i : Int) := by omega
        have q2 : (i : Int) < n := by omega
        clear hIn c0 c1 c2
        generalize (F i).un.length = k at *
        have HS := Lib.hid (show n ≤ 262144 by by_cases h : n ≤ 262144; exact h; have := hs (by omega); omega)
        clear hs
        go_wp2_with fail
        go_roundg (gk - 1)
        case rel => exact ⟨i + 1, _, by omega, by have := HG.out.1; omega, by go_num, rfl, fun h => by have := HS.out; omega, rfl⟩
        case measure => have := HG.out.1; omega
      · have t1 : decide (s ≤ 262144) = false := decide_eq_false hsm
        go_wp2_with fail
        go_ret
        exact ⟨s, rfl, fun h => (by by_cases h2 : n ≤ 262144; exact h2; have := HG.out.2 (by omega); omega), (Below.refl _ _).alloc (Nat.le_refl _) _⟩
    · have t0 : decide ((i : Int) < (n : Int)) = false := decide_eq_false (by omega)
      go_wp2_with fail
      go_ret
      exact ⟨s, rfl, fun h => (by by_cases h2 : n ≤ 262144; exact h2; have := HG.out.2 (by omega); omega), (Below.refl _ _).alloc (Nat.le_refl _) _⟩
set_option maxHeartbeats 2000000 in
set_option maxRecDepth 100000 in
/-- Beyond of one number. -/
theorem beyond8 (b o : Nat) (s : Int) (w : World) (hc : w.cell? ⟨b, o, none⟩ = some (.int .i64 s)) :
    Calls Tryd.prog 8 #[.slice (some ⟨b, o, none⟩) 1 1] w fun e w' => e = .returned (.bool (decide (s < 0) || decide (262144 < s))) ∧ w = w' := by
  have hb := World.block_lt_of_cell? _ _ hc
  by_cases h1 : s < 0
  · have t1 : decide (s < 0) = true := decide_eq_true h1
    go_enter Tryd.func8, Tryd.ntmps8
    go_wp2_with fail
    refine wp_loop_rounds 1 ?_
    rw [rounds_succ]
    go_wp2
    go_ret
    exact ⟨by simp [t1], rfl⟩
  · have t1 : decide (s < 0) = false := decide_eq_false h1
    by_cases h2 : 262144 < s
    · have t2 : decide (262144 < s) = true := decide_eq_true h2
      go_enter Tryd.func8, Tryd.ntmps8
      go_wp2_with fail
      refine wp_loop_rounds 1 ?_
      rw [rounds_succ]
      go_wp2
      go_ret
      exact ⟨by simp [t1, t2], rfl⟩
    · have t2 : decide (262144 < s) = false := decide_eq_false h2
      have e1 : wrap64 (0 + s) = s := by unfold wrap64; omega
      have e2 : wrap64 s = s := by unfold wrap64; omega
      go_enter Tryd.func8, Tryd.ntmps8
      go_wp2_with fail
      refine wp_loop_rounds 2 ?_
      rw [rounds_succ]
      go_wp2_with (first | simp only [e1] | simp only [e2])
      rw [rounds_succ]
      go_wp2
      go_ret
      exact ⟨by simp [t1, t2], rfl⟩
set_option maxHeartbeats 2000000 in
set_option maxRecDepth 100000 in
theorem has22 (v : Value) (l : List Int) (x : Int) (w : World) (h : Ints w v l) (hl : l.length ≤ 1000000) :
    Calls Tryd.prog 22 #[v, .int .i64 x] w fun e w' => e = .returned (.bool (l.contains x)) ∧ w = w' := by
  obtain ⟨A, c, rfl, h1, h2, h3⟩ := h
  have H3 := Lib.hid h3
  clear h3 h1 h2
  generalize hn : l.length = n at *
  have HN := Lib.hid hn
  clear hn
  have HC := Lib.hid (show ∀ b, (b = true ↔ x ∈ l) → l.contains x = b from fun b hb => by
    rw [Bool.eq_iff_iff, hb, List.contains_iff_mem])
  go_enter Tryd.func22, Tryd.ntmps22
  go_wp2_with fail
  go_loopg [5] (n + 1) (fun g v5 wr => ∃ i : Nat, i ≤ n ∧ i + g = n + 1 ∧ v5 = .int .i64 i ∧ (∀ j y, j < i → l[j]? = some y → y ≠ x) ∧ wr = w)
  case atStart => exact ⟨0, by omega, by omega, rfl, fun j y hj => by omega, rfl⟩
  case round =>
    obtain ⟨i, hi, hg, rfl, hall, rfl⟩ := hrel
    have HG := Lib.hid (And.intro hg hall)
    clear hg hall
    by_cases hlt : i < n
    · obtain ⟨u, hu⟩ : ∃ u, l[i]? = some u := ⟨l[i]'(by have := HN.out; omega), List.getElem?_eq_getElem _⟩
      obtain ⟨b, o, rfl, hc⟩ := H3.out (by omega)
      have cu := hc i u hu
      have HU := Lib.hid hu
      have q1 : (0 : Int) ≤ (i : Int) := by omega
      have q2 : (i : Int) < n := by omega
      clear hu hc
      by_cases hux : u = x
      · have t1 : (u == x) = true := by rw [beq_iff_eq]; exact hux
        have HR := Lib.hid (HC.out true ⟨fun _ => by rw [← hux]; exact List.mem_of_getElem? HU.out, fun _ => rfl⟩)
        clear hux
        go_wp2_with fail
        go_ret
        rw [HR.out]
        exact ⟨rfl, rfl⟩
      · have t1 : (u == x) = false := by rw [beq_eq_false_iff_ne]; exact hux
        have HX := Lib.hid hux
        clear hux
        go_wp2_with fail
        go_roundg (gk - 1)
        case rel => exact ⟨i + 1, by omega, by have := HG.out.1; omega, by go_num, fun j y hj hy => by
          by_cases e : j = i
          · subst e
            rw [HU.out] at hy
            rw [← Option.some.inj hy]
            exact HX.out
          · exact HG.out.2 j y (by omega) hy, rfl⟩
        case measure => have := HG.out.1; omega
    · obtain rfl : i = n := by omega
      have hnx : x ∉ l := fun h => by
        obtain ⟨j, hj⟩ := List.mem_iff_getElem?.1 h
        exact absurd rfl (HG.out.2 j x (by have := (List.getElem?_eq_some_iff.1 hj).1; have := HN.out; omega) hj)
      have HR := Lib.hid (HC.out false (by simp [hnx]))
      clear hnx
      go_wp2_with fail
      go_ret
      rw [HR.out]
      exact ⟨rfl, rfl⟩
end Go.Proofs.YtopkanokpfhmmaaDoor
