/- The document's List and Data: as the program's. -/
import Derived.Test.YtenaljhkdnhgpaaGreatDoorTRMake
namespace Go.Proofs.YtenaljhkdnhgpaaGreatDoor.T
open Go.RowKit

/-- A row of numbers that can be read. -/
def IRd (w : World) (v : Value) (l : List Int) : Prop := ∃ A c, v = .slice A l.length c ∧ l.length ≤ 9223372036854775807 ∧ (l ≠ [] → ∃ b o, A = some ⟨b, o, none⟩ ∧ ∀ i x, l[i]? = some x → w.cell? ⟨b, o + i, none⟩ = some (.int .i64 x))
theorem OI.rd {w : World} {B : Nat} {v : Value} {l : List Int} (h : OI w B v l) : IRd w v l := by
  obtain ⟨A, c, rfl, hA⟩ := h.slice
  refine ⟨A, c, rfl, ?_, fun h0 => ?_⟩
  · rcases h.2 with ⟨h1, h2⟩ | ⟨b, cap, cur, h1, h2, h3, h4, h5, _⟩
    · omega
    · unfold maxLen at h5; omega
  · obtain ⟨b, rfl⟩ := hA (List.length_pos_iff.2 h0)
    exact ⟨b, 0, rfl, fun i x hi => by rw [Nat.zero_add]; exact h.il.cell rfl i x hi⟩
theorem OI.kr {w w' : World} {B : Nat} {v : Value} {l : List Int} (h : OI w B v l) (hk : KR w w') : OI w' B v l := by
  refine ⟨h.1, ?_⟩
  rcases h.2 with h1 | ⟨b, cap, cur, h1, h2, h3, h4⟩
  · exact .inl h1
  · exact .inr ⟨b, cap, cur, h1, h2, hk b cur 3 _ h3 (by decide) (by decide), h4⟩
end Go.Proofs.YtenaljhkdnhgpaaGreatDoor.T
