/- The walk of TermParts. -/
import Derived.Test.YtenaljhkdnhgpaaGreatDoorTPutn
import Derived.Test.YtenaljhkdnhgpaaGreatDoorTOnce
namespace Go.Proofs.YtenaljhkdnhgpaaGreatDoor.T
open Go.RowKit

def dagX (L : List Tm) (x : Int) : List Tm := if thereB L.length x = true then dagS L x else []
theorem dagX_len {L : List Tm} (hg : Good L) (x : Int) : (dagX L x).length ≤ L.length := by
  unfold dagX
  split
  · rename_i h
    unfold thereB at h
    simp at h
    exact dagS_len hg x (by omega) (by omega)
  · simp
/-- Dag of any number. -/
theorem dag_any (B g m : Nat) (L : List Tm) (v : Value) (x : Int) (hg : Good L) (w : World) (h : St w B g m L v) :
    Calls Tryz.prog 9 #[.pointer (some ⟨g, 0, none⟩), .int .i64 x] w fun e w' => ∃ v, e = .returned v ∧ w'.ownsRow w.heap.size 69 4 v (dagX L x).length (rowOf (dagX L x)) ∧ Below w.heap.size w w' := by
  by_cases hx : thereB L.length x = true
  · have h1 : 0 < x ∧ x ≤ L.length := by unfold thereB at hx; simp at hx; omega
    obtain ⟨F, hF, hR⟩ := run_dag hg x h1.1 h1.2
    have h2 : dagX L x = dagS L x := by unfold dagX; rw [if_pos hx]
    rw [h2]
    exact dag_loop B g m L v x hx hg.2.1 (dagS L x) F 4000000000 (by omega) (by omega) w h hR
  · have h2 : dagX L x = [] := by unfold dagX; rw [if_neg hx]
    rw [h2]
    have hM := made_yes g m w h.c1
    obtain ⟨AL, cL, hv⟩ := h.slice
    have hT := there g L.length cL AL x w (by rw [h.c0, hv])
    have hx' : thereB L.length x = false := by simpa using hx
    rw [show (decide (1 ≤ x) && decide (x ≤ L.length)) = false from hx'] at hT
    clear h hv hx hx' h2
    go_enter Tryz.func9, Tryz.ntmps9
    go_wp2_with (first | (go_at_call 30; with_reducible refine hM.mono ?_; rintro e w' ⟨rfl, rfl⟩) | (go_at_call 31; with_reducible refine hT.mono ?_; rintro e w' ⟨rfl, rfl⟩))
    go_ret
    exact ⟨_, rfl, World.ownsRow_nil _ _ _ _, Below.refl _ _⟩
theorem RT.of_own {w : World} {B n : Nat} {v : Value} {l : List Tm} (h : w.ownsRow B 69 4 v n (rowOf l)) (hn : n = l.length) : RT w v l := by
  subst hn
  exact ⟨h.1, h.2.imp id fun ⟨g, cap, cur, h1, h2, h3⟩ => ⟨g, cap, cur, h1, Nat.zero_le _, h3⟩⟩
theorem RT.below {w w' : World} {v : Value} {l : List Tm} (h : RT w v l) (hb : Below w.heap.size w w') : RT w' v l := row_below h hb
theorem RT.take {w : World} {b n c : Nat} {l : List Tm} (h : RT w (.slice (some ⟨b, 0, none⟩) n c) l) (hn : n = l.length) (k : Nat) (hk : k ≤ n) : RT w (.slice (some ⟨b, 0, none⟩) k c) (l.take k) ∧ k ≤ c := by
  subst hn
  rcases h.2 with ⟨h1, h2⟩ | ⟨b', cap, cur, h1, h2, h3, h4, h5, h6, h7⟩
  · cases h1
  · injection h1 with e1 e2 e3
    injection e1 with e1
    injection e1 with e1
    subst e1 e3
    have hl : (l.take k).length = k := by simp; omega
    refine ⟨?_, by omega⟩
    show w.ownsRow 0 69 4 _ (l.take k).length (rowOf (l.take k))
    rw [hl]
    have er : rowOf (l.take k) = (rowOf l).take (k * 4) := by
      have h8 := rowOf_append (l.take k) (l.drop k)
      rw [List.take_append_drop] at h8
      have h9 : (rowOf (l.take k)).length = k * 4 := by rw [rowOf_length, hl]
      rw [h8, ← h9, List.take_left]
    refine ⟨by rw [rowOf_length, hl], .inr ⟨b, c, cur, rfl, h2, h3, by omega, h5, h6, ?_⟩⟩
    rw [er, ← h7, List.take_take]
    congr 1
    omega
/-- SameTerms of two rows that read alike, whatever their values. -/
theorem same_any {w : World} {p c : Nat} {v : Value} {l : List Tm} (hp : RT w (.slice (some ⟨p, 0, none⟩) l.length c) l) (hv : RT w v l) (hsm : l.length ≤ 9223372036854775807) :
    Calls Tryz.prog 10 #[.slice (some ⟨p, 0, none⟩) l.length c, v] w fun e w' => e = .returned (.bool true) ∧ ∃ n, w' = w.drewN n := by
  obtain ⟨A, d, rfl, hA⟩ := hv.slice
  by_cases h0 : l.length = 0
  · rw [h0]
    exact same_nil _ _ _ _ w
  · obtain ⟨q, rfl⟩ := hA (by omega)
    exact same_yes p q c d l.length l rfl w hp hv hsm
end Go.Proofs.YtenaljhkdnhgpaaGreatDoor.T
