/- slices.BinarySearch in a row of numbers that rise; cmp.Less; Min, Index, Contains. -/
import Derived.Test.YtopkanokpfhmmaaDoorTI
namespace Go.Proofs.YtopkanokpfhmmaaDoor
open Go Go.RowKit
set_option linter.unusedVariables false
set_option linter.unusedSimpArgs false

theorem nan60 (x : Int) (w : World) : Calls Tryd.prog 60 #[.int .i64 x] w fun e w' => e = .returned (.bool false) ∧ w = w' := by
  have t1 : (x != x) = false := by simp
  go_enter Tryd.func60, Tryd.ntmps60
  go_wp2
  go_ret
  exact ⟨rfl, rfl⟩
theorem nan47 (x : Int) (w : World) : Calls Tryd.prog 47 #[.int .i64 x] w fun e w' => e = .returned (.bool false) ∧ w = w' := by
  have t1 : (x != x) = false := by simp
  go_enter Tryd.func47, Tryd.ntmps47
  go_wp2
  go_ret
  exact ⟨rfl, rfl⟩
theorem less46 (x y : Int) (w : World) : Calls Tryd.prog 46 #[.int .i64 x, .int .i64 y] w fun e w' => e = .returned (.bool (decide (x < y))) ∧ w = w' := by
  go_enter Tryd.func46, Tryd.ntmps46
  go_wp2_with (go_at_call 60; refine (nan60 _ _).mono ?_; rintro e w' ⟨rfl, rfl⟩)
  go_ret
  exact ⟨by simp, rfl⟩
theorem pw_lt {l : List Int} (h : l.Pairwise (· < ·)) {i j : Nat} {x y : Int} (hij : i < j) (hx : l[i]? = some x) (hy : l[j]? = some y) : x < y := by
  obtain ⟨h1, rfl⟩ := List.getElem?_eq_some_iff.1 hx
  obtain ⟨h2, rfl⟩ := List.getElem?_eq_some_iff.1 hy
  exact List.pairwise_iff_getElem.1 h i j h1 h2 hij
theorem ins_eq (t : Int) : ∀ (l : List Int) (k : Nat), k ≤ l.length → (∀ j x, j < k → l[j]? = some x → x < t) → (∀ j x, k ≤ j → l[j]? = some x → t ≤ x) → l.take k ++ t :: l.drop k = ins t l
  | [], k, hk, _, _ => by
    obtain rfl : k = 0 := by simpa using hk
    rfl
  | u :: us, 0, _, _, h2 => by
    have := h2 0 u (Nat.le_refl _) rfl
    unfold ins
    rw [if_neg (by omega)]
    rfl
  | u :: us, k + 1, hk, h1, h2 => by
    have := h1 0 u (by omega) rfl
    have ih := ins_eq t us k (by simpa using hk) (fun j x hj hx => h1 (j + 1) x (by omega) (by simpa using hx)) (fun j x hj hx => h2 (j + 1) x (by omega) (by simpa using hx))
    unfold ins
    rw [if_pos this, ← ih]
    rfl
set_option maxHeartbeats 2000000 in
set_option maxRecDepth 100000 in
theorem search32 (v : Value) (l : List Int) (t : Int) (w : World) (h : Ints w v l) (hl : l.length ≤ 100) (hs : l.Pairwise (· < ·)) :
    Calls Tryd.prog 32 #[v, .int .i64 t] w fun e w' => ∃ (k : Nat) (b : Bool), e = .returned (.tuple #[.int .i64 k, .bool b]) ∧ (k ≤ l.length ∧ l.take k ++ t :: l.drop k = ins t l) ∧ w = w' := by
  obtain ⟨A, c, rfl, h1, h2, h3⟩ := h
  have H := Lib.hid (And.intro h3 hs)
  have HINS := Lib.hid (ins_eq t l)
  clear h3 hs
  generalize hn : l.length = n at *
  have HN := Lib.hid hn
  clear hn
  go_enter Tryd.func32, Tryd.ntmps32
  go_wp2_with fail
  go_loopg [7, 8] (n + 1) (fun g v7 v8 wr => ∃ i j : Nat, i ≤ j ∧ j ≤ n ∧ j - i + 1 ≤ g ∧ v7 = .int .i64 i ∧ v8 = .int .i64 j ∧ ((∀ k x, k < i → l[k]? = some x → x < t) ∧ (∀ k x, j ≤ k → l[k]? = some x → t ≤ x)) ∧ wr = w)
  case atStart => exact ⟨0, n, by omega, by omega, by omega, rfl, rfl, ⟨fun k x hk => by omega, fun k x hk hx => by have := (List.getElem?_eq_some_iff.1 hx).1; have := HN.out; omega⟩, rfl⟩
  case round =>
    obtain ⟨i, j, hij, hj, hg, rfl, rfl, hinv, rfl⟩ := hrel
    have HI := Lib.hid hinv
    have HG := Lib.hid hg
    clear hinv hg
    by_cases hlt : i < j
    · obtain ⟨m, hm⟩ : ∃ m, m = (i + j) / 2 := ⟨_, rfl⟩
      have HM := Lib.hid hm
      have hm1 : i ≤ m := by omega
      have hm2 : m < j := by omega
      have e1 : ((i : Int) + (j : Int)) / 2 = (m : Int) := by omega
      obtain ⟨x, hx⟩ : ∃ x, l[m]? = some x := ⟨l[m]'(by have := HN.out; omega), List.getElem?_eq_getElem _⟩
      obtain ⟨b, o, rfl, hc⟩ := H.out.1 (by omega)
      have cx := hc m x hx
      have HX := Lib.hid hx
      have q1 : (0 : Int) ≤ (m : Int) := by omega
      have q2 : (m : Int) < n := by omega
      clear hm hx hc
      by_cases hxt : x < t
      · have hL : ∀ w, Calls Tryd.prog 46 #[.int .i64 x, .int .i64 t] w fun e w' => e = .returned (.bool true) ∧ w = w' := fun w => by
          have := less46 x t w
          rw [decide_eq_true hxt] at this
          exact this
        have HXT := Lib.hid hxt
        clear hxt
        go_wp2_with (first | (go_at_call 46; refine (hL _).mono ?_; rintro e w' ⟨rfl, rfl⟩) | (simp only [e1]))
        go_roundg (gk - 1)
        case rel => exact ⟨m + 1, j, by omega, by omega, by have := HG.out; omega, by go_num, rfl, ⟨fun k y hk hy => by
          by_cases e : k = m
          · subst e
            rw [HX.out] at hy
            have := Option.some.inj hy
            have := HXT.out
            omega
          · have := pw_lt H.out.2 (show k < m by omega) hy HX.out
            have := HXT.out
            omega, HI.out.2⟩, rfl⟩
        case measure => have := HG.out; omega
      · have hL : ∀ w, Calls Tryd.prog 46 #[.int .i64 x, .int .i64 t] w fun e w' => e = .returned (.bool false) ∧ w = w' := fun w => by
          have := less46 x t w
          rw [decide_eq_false hxt] at this
          exact this
        have HXT := Lib.hid hxt
        clear hxt
        go_wp2_with (first | (go_at_call 46; refine (hL _).mono ?_; rintro e w' ⟨rfl, rfl⟩) | (simp only [e1]))
        go_roundg (gk - 1)
        case rel => exact ⟨i, m, by omega, by omega, by have := HG.out; omega, rfl, rfl, ⟨HI.out.1, fun k y hk hy => by
          by_cases e : k = m
          · subst e
            rw [HX.out] at hy
            have := Option.some.inj hy
            have := HXT.out
            omega
          · have := pw_lt H.out.2 (show m < k by omega) HX.out hy
            have := HXT.out
            omega⟩, rfl⟩
        case measure => have := HG.out; omega
    · obtain rfl : i = j := by omega
      have HE := Lib.hid (HINS.out i (by have := HN.out; omega) HI.out.1 HI.out.2)
      by_cases hin : i < n
      · obtain ⟨x, hx⟩ : ∃ x, l[i]? = some x := ⟨l[i]'(by have := HN.out; omega), List.getElem?_eq_getElem _⟩
        obtain ⟨b, o, rfl, hc⟩ := H.out.1 (by omega)
        have cx := hc i x hx
        have q1 : (0 : Int) ≤ (i : Int) := by omega
        have q2 : (i : Int) < n := by omega
        clear hx hc
        cases hxt : (x == t) with
        | true =>
          go_wp2_with (go_at_call 47; refine (nan47 _ _).mono ?_; rintro e w' ⟨rfl, rfl⟩)
          go_ret2
          exact ⟨i, _, rfl, ⟨hj, HE.out⟩, rfl⟩
        | false =>
          go_wp2_with (go_at_call 47; refine (nan47 _ _).mono ?_; rintro e w' ⟨rfl, rfl⟩)
          go_ret2
          exact ⟨i, _, rfl, ⟨hj, HE.out⟩, rfl⟩
      · obtain rfl : i = n := by omega
        go_wp2
        go_ret2
        exact ⟨i, _, rfl, ⟨hj, HE.out⟩, rfl⟩
set_option maxHeartbeats 2000000 in
set_option maxRecDepth 100000 in
theorem min36 (v : Value) (l : List Int) (w : World) (h : Ints w v l) (h0 : 0 < l.length) (hl : l.length ≤ 1000) :
    Calls Tryd.prog 36 #[v] w fun e w' => ∃ m, e = .returned (.int .i64 m) ∧ (m < 1 ↔ ∃ x ∈ l, x < 1) ∧ w = w' := by
  obtain ⟨A, c, rfl, h1, h2, h3⟩ := h
  obtain ⟨b, o, rfl, hc⟩ := h3 h0
  have HC := Lib.hid hc
  clear h3
  generalize hn : l.length = n at *
  have HN := Lib.hid hn
  have hc0 := hc 0 (l[0]'(by omega)) (List.getElem?_eq_getElem _)
  rw [Nat.add_zero] at hc0
  have H0 := Lib.hid (show l[0]? = some (l[0]'(by omega)) from List.getElem?_eq_getElem _)
  generalize l[0] = x0 at hc0 H0
  have t0 : decide ((n : Int) < 1) = false := decide_eq_false (by omega)
  have q0 : (0 : Int) < (n : Int) := by omega
  clear hn hc
  go_enter Tryd.func36, Tryd.ntmps36
  go_wp2_with fail
  go_loopg [3, 4] (n + 1) (fun g v3 v4 wr => ∃ (i : Nat) (m : Int), 1 ≤ i ∧ i ≤ n ∧ i + g = n + 2 ∧ v4 = .int .i64 i ∧ v3 = .int .i64 m ∧ (m < 1 ↔ ∃ j x, j < i ∧ l[j]? = some x ∧ x < 1) ∧ wr = w)
  case atStart => exact ⟨1, x0, by omega, by omega, by omega, rfl, rfl, ⟨fun h => ⟨0, x0, by omega, H0.out, h⟩, fun ⟨j, x, hj, hx, hlt⟩ => by
    obtain rfl : j = 0 := by omega
    rw [H0.out] at hx
    have := Option.some.inj hx
    omega⟩, rfl⟩
  case round =>
    obtain ⟨i, m, hi1, hi, hg, rfl, rfl, hinv, rfl⟩ := hrel
    have HI := Lib.hid hinv
    have HG := Lib.hid hg
    clear hinv hg
    by_cases hlt : i < n
    · obtain ⟨x, hx⟩ : ∃ x, l[i]? = some x := ⟨l[i]'(by have := HN.out; omega), List.getElem?_eq_getElem _⟩
      have cx := HC.out i x hx
      have HX := Lib.hid hx
      have q1 : (0 : Int) ≤ (i : Int) := by omega
      have q2 : (i : Int) < n := by omega
      have hmin : ∀ w, (Builtin.min_ #[3, 3] 3 #[.int .i64 m, .int .i64 x]).run Tryd.prog w = .ok (.int .i64 (min m x)) w := fun w => by
        rw [run_min_int2]
        congr 2
        rw [Int.min_def]
        split <;> split <;> omega
      have HM := Lib.hid (show min m x < 1 ↔ m < 1 ∨ x < 1 by rw [Int.min_def]; split <;> omega)
      generalize min m x = z at *
      clear hx
      go_wp2
      go_roundg (gk - 1)
      case rel => exact ⟨i + 1, z, by omega, by omega, by have := HG.out; omega, by go_num, rfl, ⟨fun h => by
        rcases HM.out.1 h with h | h
        · obtain ⟨j, y, h1, h2, h3⟩ := HI.out.1 h
          exact ⟨j, y, by omega, h2, h3⟩
        · exact ⟨i, x, by omega, HX.out, h⟩, fun ⟨j, y, h1, h2, h3⟩ => by
        by_cases e : j = i
        · subst e
          rw [HX.out] at h2
          have := Option.some.inj h2
          exact HM.out.2 (.inr (by omega))
        · exact HM.out.2 (.inl (HI.out.2 ⟨j, y, by omega, h2, h3⟩))⟩, rfl⟩
      case measure => have := HG.out; omega
    · obtain rfl : i = n := by omega
      go_wp2
      go_ret
      refine ⟨m, rfl, ?_, rfl⟩
      rw [HI.out]
      constructor
      · rintro ⟨j, x, h1, h2, h3⟩
        exact ⟨x, List.mem_of_getElem? h2, h3⟩
      · rintro ⟨x, h1, h2⟩
        obtain ⟨j, hj⟩ := List.mem_iff_getElem?.1 h1
        exact ⟨j, x, by have := (List.getElem?_eq_some_iff.1 hj).1; have := HN.out; omega, hj, h2⟩
end Go.Proofs.YtopkanokpfhmmaaDoor
