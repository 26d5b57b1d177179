/- Trees as the book holds them. -/
import Derived.Test.YtnahhclflnjmcaaGreatDoorBkNum2
import Derived.Test.YtnahhclflnjmcaaGreatDoorB1
import Derived.Test.YtnahhclflnjmcaaGreatDoorXK
namespace Go.Proofs.YtnahhclflnjmcaaGreatDoor
open Go Go.RowKit Go.Proofs.YtnahhclflnjmcaaGreatDoor.Bk
set_option linter.unusedVariables false
set_option linter.unusedSimpArgs false
set_option maxRecDepth 100000

theorem OwnI.held2 {w : World} {B L : Nat} {v : Value} {l : List Int} (h : OwnI w B v l) (hl : l.length ≤ L) : ∀ m, OwnH kdNumber w B v m L 0 :=
  fun m => OwnH.of_row h hl fun j hj => by rw [Nat.zero_min] at hj; omega
theorem TrO.trB {w : World} {B n L t : Nat} {v : Value} {F : Nat → Node} (h : TrO w B v n F) (ht : w.heap.size ≤ t) (hL : ∀ y, y < n → (F y).un.length ≤ L) : TrB w B t v n L := by
  obtain ⟨b, uv, rfl, hn, hK⟩ := h
  obtain ⟨cur, h1, h2, h3⟩ := hK.row
  refine ⟨.inr ⟨b, n, cur, uv, rfl, hK.hb, Nat.lt_of_lt_of_le hK.blt ht, h1, Nat.le_refl _, hn, h2, fun y hy => ⟨_, _, _, (h3 _ (by omega)).trans (by rw [cellF0]), (h3 _ (by omega)).trans (by rw [cellF1]), (h3 _ (by omega)).trans (by rw [cellF2]), (h3 _ (by omega)).trans (by rw [cellF3])⟩,
    fun y hy => (hK.un y hy hy).held2 (hL y hy), fun y hy q hq => ⟨Nat.lt_of_lt_of_le (World.ownsRow.lt (hK.un y hy hy) q hq).2 ht, fun e => hK.nb y hy hy (by rw [hq, e])⟩, fun y z hy hz hne q hq => hK.ap y z hy hz hy hz hne q hq⟩⟩
theorem TrY.trB {w : World} {B n L t : Nat} {v : Value} {F : Nat → Node} (h : TrY w B v n F) (ht : w.heap.size ≤ t) (hL : ∀ y, y < n → (F y).un.length ≤ L) : TrB w B t v n L := by
  rcases h with ⟨rfl, rfl⟩ | h
  · exact ⟨.inl ⟨rfl, rfl⟩⟩
  · exact h.trB ht hL
theorem TwI.trB {w : World} {B b n L t : Nat} {F : Nat → Node} {ub : Nat → Nat} (h : TwI B b n n (n + 2) F ub w) (ht : w.heap.size ≤ t) (hn : n ≤ 262144) (hL : ∀ y, y < n → (F y).un.length ≤ L) (hL2 : L ≤ 1000000) : TrB w B t (.slice (some ⟨b, 0, none⟩) n (n + 2)) n L := by
  obtain ⟨cur, h1, h2, h3⟩ := h.row
  have hm : (maxLen : Nat) ≥ 2000000 := by unfold maxLen; omega
  refine ⟨.inr ⟨b, n + 2, cur, fun y => .slice (some ⟨ub y, 0, none⟩) (F y).un.length ((F y).un.length + 2), rfl, h.hb, Nat.lt_of_lt_of_le (lt_of_some h1) ht, h1, by omega, by omega, h2, fun y hy => ⟨(F y).pub, (F y).mem, (F y).ep, (h3 _ (by omega)).trans (by rw [cellF0, if_pos hy]), (h3 _ (by omega)).trans (by rw [cellF1, if_pos hy]), (h3 _ (by omega)).trans (by rw [cellF2, if_pos hy]), (h3 _ (by omega)).trans (by rw [cellF3, if_pos hy])⟩,
    fun y hy m => ?_, fun y hy q hq => ?_, fun y z hy hz hne q hq => ?_⟩⟩
  · obtain ⟨k1, k2⟩ := h.un y hy
    obtain ⟨cu, g1, g2, g3⟩ := k2
    have := hL y hy
    refine .inr ⟨ub y, 0, _, _, cu, rfl, ⟨g1, k1, by omega, by omega, ?_, .inl ⟨rfl, ?_⟩⟩, this, fun j hj => by rw [Nat.zero_min] at hj; omega⟩
    · show 0 + _ * 1 ≤ _
      omega
    · show _ = _ * 1
      omega
  · obtain rfl : ub y = q := by simpa [Value.ownBlock] using hq
    exact ⟨Nat.lt_of_lt_of_le (h.un y hy).2.lt ht, h.nb y hy⟩
  · obtain rfl : ub y = q := by simpa [Value.ownBlock] using hq
    intro e
    have e : ub z = ub y := by simpa [Value.ownBlock] using e
    exact h.ap y z hy hz hne e.symm
end Go.Proofs.YtnahhclflnjmcaaGreatDoor
