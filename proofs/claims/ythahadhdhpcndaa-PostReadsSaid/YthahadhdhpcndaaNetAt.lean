/- Net: the packet at a place. -/
import Derived.Test.YthahadhdhpcndaaNetSend
namespace Go.Proofs.Ythahadhdhpcndaa
open Go Go.RowKit
set_option linter.unusedVariables false
set_option linter.unusedSimpArgs false

theorem prow_get : ∀ (cs : List (Array Value)) (i : Nat) (c : Array Value), (∀ x ∈ cs, x.size = 57) → cs[i]? = some c → ((prow cs).drop (i * 57)).take 57 = c.toList
  | [], i, c, _, h => by simp at h
  | x :: cs, 0, c, hs, h => by
    obtain rfl : x = c := by simpa using h
    have h1 : x.toList.length = 57 := by rw [Array.length_toList]; exact hs x (by simp)
    have : prow (x :: cs) = x.toList ++ prow cs := by simp [prow]
    rw [this, Nat.zero_mul, List.drop_zero, List.take_left' h1]
  | x :: cs, i + 1, c, hs, h => by
    have h1 : x.toList.length = 57 := by rw [Array.length_toList]; exact hs x (by simp)
    have : prow (x :: cs) = x.toList ++ prow cs := by simp [prow]
    rw [this, show (i + 1) * 57 = 57 + i * 57 by omega, ← List.drop_drop, List.drop_left' h1]
    exact prow_get cs i c (fun y hy => hs y (by simp [hy])) (by simpa using h)
theorem NetI.sizes {w : World} {B g : Nat} {v : Value} {cs : List (Array Value)} {L : List PackD} (h : NetI w B g v cs L) : ∀ x ∈ cs, x.size = 57 := by
  intro x hx
  obtain ⟨j, hj, e⟩ := List.getElem_of_mem hx
  have hj2 : j < L.length := by rw [← h.len]; exact hj
  exact (h.sub j x L[j] (by rw [List.getElem?_eq_getElem hj, e]) (List.getElem?_eq_getElem hj2)).size
/-- The packet at a place lies in the row. -/
theorem NetI.at {w : World} {B g : Nat} {v : Value} {cs : List (Array Value)} {L : List PackD} (h : NetI w B g v cs L) {i : Nat} (hi : i < L.length) :
    ∃ (b cap : Nat) (cur c : Array Value), v = .slice (some ⟨b, 0, none⟩) L.length cap ∧ w.heap[b]? = some (.cells cur 44 (0, 0)) ∧ cs[i]? = some c ∧ i * 57 + 57 ≤ cur.size ∧ cur.extract (i * 57) (i * 57 + 57) = c := by
  rcases h.row.2 with ⟨h1, h2⟩ | ⟨b, cap, cur, h1, h2, h3, h4, h5, h6, h7⟩
  · omega
  · have hl := h.len
    have hc : cs[i]? = some cs[i] := List.getElem?_eq_getElem (by omega)
    have hp := prow_get cs i _ h.sizes hc
    have hsz := h.sizes cs[i] (List.getElem_mem _)
    rw [← h7, List.drop_take, List.take_take] at hp
    have hle : 57 ≤ L.length * 57 - i * 57 := by omega
    rw [Nat.min_eq_left hle] at hp
    have hlen := congrArg List.length hp
    simp at hlen
    refine ⟨b, cap, cur, cs[i], h1, h3, hc, by omega, ?_⟩
    apply Array.ext'
    rw [Array.toList_extract]
    simpa [List.extract] using hp
end Go.Proofs.Ythahadhdhpcndaa
