/- slices.Index, Contains, IndexFunc, DeleteFunc of Targets. -/
import Derived.Test.YtopkanokpfhmmaaDoorVG
import Derived.Lib.SliceRun
namespace Go.Proofs.YtopkanokpfhmmaaDoor
open Go Go.RowKit
set_option linter.unusedVariables false
set_option linter.unusedSimpArgs false

set_option maxHeartbeats 2000000 in
set_option maxRecDepth 100000 in
theorem index55 (v : Value) (l : List Int) (x : Int) (w : World) (h : Ints w v l) (hl : l.length ≤ 1000000) :
    Calls Tryd.prog 55 #[v, .int .i64 x] w fun e w' => ∃ z : Int, e = .returned (.int .i64 z) ∧ decide (0 ≤ z) = l.contains x ∧ w = w' := by
  obtain ⟨A, c, rfl, h1, h2, h3⟩ := h
  have H3 := Lib.hid h3
  clear h3 h1 h2
  generalize hn : l.length = n at *
  have HN := Lib.hid hn
  clear hn
  have HC := Lib.hid (show ∀ b, (b = true ↔ x ∈ l) → l.contains x = b from fun b hb => by
    rw [Bool.eq_iff_iff, hb, List.contains_iff_mem])
  go_enter Tryd.func55, Tryd.ntmps55
  go_wp2_with fail
  go_loopg [8] (n + 1) (fun g v8 wr => ∃ i : Nat, i ≤ n ∧ i + g = n + 1 ∧ v8 = .int .i64 i ∧ (∀ j y, j < i → l[j]? = some y → y ≠ x) ∧ wr = w)
  case atStart => exact ⟨0, by omega, by omega, rfl, fun j y hj => by omega, rfl⟩
  case round =>
    obtain ⟨i, hi, hg, rfl, hall, rfl⟩ := hrel
    have HG := Lib.hid (And.intro hg hall)
    clear hg hall
    by_cases hlt : i < n
    · obtain ⟨u, hu⟩ : ∃ u, l[i]? = some u := ⟨l[i]'(by have := HN.out; omega), List.getElem?_eq_getElem _⟩
      obtain ⟨b, o, rfl, hc⟩ := H3.out (by omega)
      have cu := hc i u hu
      have HU := Lib.hid hu
      have q1 : (0 : Int) ≤ (i : Int) := by omega
      have q2 : (i : Int) < n := by omega
      clear hu hc
      by_cases hux : u = x
      · have t1 : (x == u) = true := by rw [beq_iff_eq]; exact hux.symm
        have HR := Lib.hid (HC.out true ⟨fun _ => by rw [← hux]; exact List.mem_of_getElem? HU.out, fun _ => rfl⟩)
        clear hux
        go_wp2_with fail
        go_ret
        rw [HR.out]
        exact ⟨_, rfl, decide_eq_true (by omega), rfl⟩
      · have t1 : (x == u) = false := by rw [beq_eq_false_iff_ne]; exact fun e => hux e.symm
        have HX := Lib.hid hux
        clear hux
        go_wp2_with fail
        go_roundg (gk - 1)
        case rel => exact ⟨i + 1, by omega, by have := HG.out.1; omega, by go_num, fun j y hj hy => by
          by_cases e : j = i
          · subst e
            rw [HU.out] at hy
            rw [← Option.some.inj hy]
            exact HX.out
          · exact HG.out.2 j y (by omega) hy, rfl⟩
        case measure => have := HG.out.1; omega
    · obtain rfl : i = n := by omega
      have hnx : x ∉ l := fun h => by
        obtain ⟨j, hj⟩ := List.mem_iff_getElem?.1 h
        exact absurd rfl (HG.out.2 j x (by have := (List.getElem?_eq_some_iff.1 hj).1; have := HN.out; omega) hj)
      have HR := Lib.hid (HC.out false (by simp [hnx]))
      clear hnx
      go_wp2_with fail
      go_ret
      rw [HR.out]
      exact ⟨_, rfl, by decide, rfl⟩
set_option maxHeartbeats 2000000 in
theorem contains41 (v : Value) (l : List Int) (x : Int) (w : World) (h : Ints w v l) (hl : l.length ≤ 1000000) :
    Calls Tryd.prog 41 #[v, .int .i64 x] w fun e w' => e = .returned (.bool (l.contains x)) ∧ w = w' := by
  have hI := index55 v l x w h hl
  obtain ⟨A, c, rfl, h1, h2, h3⟩ := h
  clear h3 h1 h2
  go_enter Tryd.func41, Tryd.ntmps41
  go_wp2_with fail
  refine hI.mono ?_
  rintro e w' ⟨z, rfl, hz, rfl⟩
  have HZ := Lib.hid hz
  clear hz
  go_wp2_with fail
  go_ret
  rw [← HZ.out]
  exact ⟨by simp, rfl⟩
set_option maxHeartbeats 2000000 in
theorem fresh40 (bx : Nat) (v : Value) (l : List Int) (x : Nat) (w : World) (hx : x < 1000) (hc : w.cell? ⟨bx, 0, none⟩ = some v) (h : Ints w v l) (hl : l.length ≤ 1000000) :
    Calls Tryd.prog 40 #[.int .i64 x, .pointer (some ⟨bx, 0, none⟩)] w fun e w' => e = .returned (.bool (freshB l x)) ∧ w = w' := by
  have hI := fun y => contains41 v l y w h hl
  obtain ⟨A, c, rfl, -, -, -⟩ := h
  have hbx := World.block_lt_of_cell? _ _ hc
  unfold freshB
  have e1 : (x : Int).tdiv 2 = ((x / 2 : Nat) : Int) := by rw [Int.tdiv_eq_ediv_of_nonneg (by omega)]; omega
  have e2 : (x : Int).tmod 2 = ((x % 2 : Nat) : Int) := by rw [Int.tmod_eq_emod_of_nonneg (by omega)]; omega
  have e3 : (x : Int) / 2 = ((x / 2 : Nat) : Int) := by omega
  have e4 : (x : Int) % 2 = ((x % 2 : Nat) : Int) := by omega
  have e5 := i64_small (x / 2) (by omega)
  have e6 : wrap64 ((x : Int).tdiv 2) = ((x / 2 : Nat) : Int) := by rw [e1]; unfold wrap64; omega
  rw [e1, e2]
  have HI := hI ((x / 2 : Nat) : Int)
  clear hI
  generalize l.contains (((x / 2 : Nat) : Int)) = cb at *
  have E2 := Lib.hid e2
  have E6 := Lib.hid e6
  by_cases ho : x % 2 = 0
  · have t1 : (((x % 2 : Nat) : Int) == 0) = true := by rw [beq_iff_eq]; omega
    rw [t1]
    generalize x / 2 = y at *
    generalize x % 2 = y2 at *
    clear ho e1 e2 e3 e4 e5 e6
    generalize (x : Int) = z at *
    have T1 : (z.tmod 2 == 0) = true := by rw [E2.out]; exact t1
    clear t1
    go_enter Tryd.func40, Tryd.ntmps40
    go_wp2_with (simp only [E6.out])
    refine HI.mono ?_
    rintro e w' ⟨rfl, rfl⟩
    go_wp2_with fail
    go_ret
    exact ⟨by simp, rfl⟩
  · have t1 : (((x % 2 : Nat) : Int) == 0) = false := by rw [beq_eq_false_iff_ne]; omega
    rw [t1]
    clear HI
    generalize x / 2 = y at *
    generalize x % 2 = y2 at *
    clear ho e1 e2 e3 e4 e5 e6
    generalize (x : Int) = z at *
    have T1 : (z.tmod 2 == 0) = false := by rw [E2.out]; exact t1
    clear t1
    go_enter Tryd.func40, Tryd.ntmps40
    go_wp2_with fail
    go_ret
    exact ⟨by simp, rfl⟩
end Go.Proofs.YtopkanokpfhmmaaDoor
