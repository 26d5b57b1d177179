/- Arguments that are packets, or lists of packets. -/
import Derived.Test.YthahadhdhpcndaaOpens
import Derived.WalkKit
import Derived.ProofKit
import Derived.Carry
namespace Go.Proofs.Ythahadhdhpcndaa
open Go Go.RowKit
set_option linter.unusedVariables false
set_option linter.unusedSimpArgs false

theorem agg_of {v : Value} (h : v.cells.size ≠ 1) : ∃ c, v = .agg c := by
  cases v <;> first | exact ⟨_, rfl⟩ | exact absurd rfl h
theorem openPacket {H : Type} {enc : TypeId × Value → H} {w : World} {v : Value} (h : Opn enc Try.prog w 44 v.cells.toList) : ∃ c d, v = .agg c ∧ RdP (fun _ => True) w c d ∧ NumF d.d ∧ BdF d.d := by
  have hl : v.cells.toList.length = 57 := (h.field Try.underlying44).1.trans (by kernel_rfl)
  obtain ⟨d, h1, h2, h3⟩ := packet44 h hl
  obtain ⟨c, rfl⟩ := agg_of (v := v) (by rw [Array.length_toList] at hl; omega)
  exact ⟨c, d, rfl, by simpa [Value.cells] using h1, h2, h3⟩
theorem openPackets {H : Type} {enc : TypeId × Value → H} {w : World} {v : Value} {A : Option Addr} {n c : Nat} (hv : v = .slice A n c) (h : Opn enc Try.prog w 59 v.cells.toList) : ∃ L, elemP.RdL (fun _ => True) w v L ∧ (∀ d ∈ L, NumF d.d ∧ BdF d.d) ∧ L.length ≤ 17592186044416 := by
  obtain ⟨v', L, e, h1, h2, h3⟩ := packets59 h
  subst hv
  obtain rfl : Value.slice A n c = v' := by simpa [Value.cells] using e
  exact ⟨L, h1, h2, h3⟩
end Go.Proofs.Ythahadhdhpcndaa
