/- Beyond. -/
import Derived.Test.YthahadhdhpcndaaSizeF
namespace Go.Proofs.Ythahadhdhpcndaa
open Go Go.RowKit
set_option linter.unusedVariables false
set_option linter.unusedSimpArgs false

/-- Beyond's answer: where it is false, each is small. -/
def BeyP (l : List Int) (e : Ending) : Prop := ∃ b, e = .returned (.bool b) ∧ (b = false → ∀ x ∈ l, 0 ≤ x ∧ x ≤ 262144)
set_option maxHeartbeats 2000000 in
set_option maxRecDepth 100000 in
theorem beyond9 {ok : Nat → Prop} (v : Value) (l : List Int) (w : World) (h : Rw ok w 1 v (l.map (Value.int .i64))) (hl : l.length ≤ 1000000) :
    Calls Try.prog 9 #[v] w fun e w' => w' = w ∧ BeyP l e := by
  obtain ⟨A, n, c, rfl, h1, h2, h3, h4⟩ := h
  obtain rfl : n = l.length := by simpa using h1.symm
  have HS := Lib.hid h3
  clear h1 h2 h3 h4
  go_enter Try.func9, Try.ntmps9
  go_wp2
  go_loopg [3, 4] l.length (fun k v3 v4 wr => ∃ (i : Nat) (s : Int), v3 = .int .i64 s ∧ v4 = .int .i64 (i : Int) ∧ i + k = l.length ∧ 0 ≤ s ∧ s ≤ 262144 ∧ Hid (∀ j x, j < i → l[j]? = some x → 0 ≤ x ∧ x ≤ 262144) ∧ wr = w)
  case atStart => exact ⟨0, 0, rfl, rfl, by simp, by omega, by omega, Lib.hid (fun j x hj => absurd hj (by omega)), rfl⟩
  case round =>
    obtain ⟨i, s, rfl, rfl, hik, s1, s2, HT, rfl⟩ := hrel
    have i2 : (0 : Int) ≤ (i : Int) := by omega
    by_cases hi : i < l.length
    · have t1 : decide ((i : Int) < (l.length : Int)) = true := decide_eq_true (by omega)
      obtain ⟨x, hx⟩ : ∃ x, l[i]? = some x := ⟨l[i], List.getElem?_eq_getElem hi⟩
      obtain ⟨b, o, rfl, p1, p2, p3⟩ := HS.out (by omega)
      have cx : wr.cell? ⟨b, o + i, none⟩ = some (.int .i64 x) := p3 i _ (by rw [List.getElem?_map, hx]; rfl)
      have i3 : (i : Int) < (l.length : Int) := by omega
      have HX := Lib.hid hx
      clear p1 p2 p3 hx
      by_cases x0 : x < 0
      · have t2 : decide (x < 0) = true := decide_eq_true x0
        go_wp2
        go_ret
        exact ⟨rfl, _, rfl, fun h => by cases h⟩
      · have t2 : decide (x < 0) = false := decide_eq_false x0
        by_cases x1 : x > 262144
        · have t3 : decide (x > 262144) = true := decide_eq_true x1
          go_wp2
          go_ret
          exact ⟨rfl, _, rfl, fun h => by cases h⟩
        · have t3 : decide (x > 262144) = false := decide_eq_false x1
          by_cases x2 : s + x > 262144
          · have t4 : decide (s + x > 262144) = true := decide_eq_true x2
            go_wp2
            go_ret
            exact ⟨rfl, _, rfl, fun h => by cases h⟩
          · have t4 : decide (s + x > 262144) = false := decide_eq_false x2
            go_wp2
            go_roundg (l.length - (i + 1))
            case measure => omega
            case rel =>
              refine ⟨i + 1, s + x, rfl, by simp, by omega, by omega, by omega, Lib.hid (fun j y hj hy => ?_), rfl⟩
              by_cases hji : j < i
              · exact HT.out j y hji hy
              · obtain rfl : j = i := by omega
                have e := HX.out.symm.trans hy
                injection e with e
                omega
    · have t1 : decide ((i : Int) < (l.length : Int)) = false := decide_eq_false (by omega)
      go_wp2
      go_ret
      exact ⟨rfl, _, rfl, fun _ x hx => by
        obtain ⟨j, hj, e⟩ := List.getElem_of_mem hx
        exact HT.out j x (by omega) (by rw [List.getElem?_eq_getElem hj, e])⟩
end Go.Proofs.Ythahadhdhpcndaa
