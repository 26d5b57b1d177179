/- Net: Copy. -/
import Derived.Test.YthahadhdhpcndaaNetAt
namespace Go.Proofs.Ythahadhdhpcndaa
open Go Go.RowKit
set_option linter.unusedVariables false
set_option linter.unusedSimpArgs false

set_option maxHeartbeats 2000000 in
set_option maxRecDepth 100000 in
/-- Copy of a place that there is: as a Send of that packet. -/
theorem copy15 {w : World} {B g : Nat} {v : Value} {cs : List (Array Value)} {L : List PackD} {d : PackD} (h : NetI w B g v cs L) (hL : L.length ≤ 4096) {i : Nat} (hd : L[i]? = some d) (hs : d.Ok → SzF d.d) :
    Calls Try.prog 15 #[.pointer (some ⟨g, 0, none⟩), .int .i64 (i : Int)] w fun e w' => SendP B g v cs L d w e w' := by
  have hi : i < L.length := (List.getElem?_eq_some_iff.1 hd).1
  have M0 := at41 h (i : Int)
  rw [if_pos (by omega)] at M0
  obtain ⟨b, cap, cur, c, rfl, hb, hc, hf, hx⟩ := h.at hi
  have M1 := send14 h hL (h.sub i c d hc hd) hs
  have c1 := h.c1
  have HX := Lib.hid (And.intro hb (And.intro hf hx))
  have i0 : (0 : Int) ≤ (i : Int) := by omega
  have i1 : (i : Int) < (L.length : Int) := by omega
  clear hb hf hx h hs hc hd
  go_enter Try.func15, Try.ntmps15
  go_wp2_with (first | (with_reducible refine M0.mono ?_; rintro e w' ⟨rfl, rfl⟩) | (with_reducible refine wpList_load_part' rfl 44 _ rfl b (i * 57) 57 rfl 44 cur (0, 0) _ HX.out.1 Try.underlying44 rfl cells44 HX.out.2.1 c HX.out.2.2 ?_))
  refine M1.mono ?_
  intro e w' hS
  rcases hS.out with ⟨k1, rfl, k2⟩ | ⟨k1, k2, rfl, k3⟩ | ⟨k1, k2, rfl, k3⟩
  · go_wp2_with fail
    go_ret
    exact ⟨.inl ⟨k1, rfl, k2⟩⟩
  · go_wp2_with fail
    go_ret
    exact ⟨.inr (.inl ⟨k1, k2, rfl, k3⟩)⟩
  · have HK := Lib.hid k3
    clear k3
    go_wp2_with fail
    go_ret
    exact ⟨.inr (.inr ⟨k1, k2, rfl, HK.out⟩)⟩
end Go.Proofs.Ythahadhdhpcndaa
