/- SameTerms on equal rows; Get of a number that is not there. -/
import Derived.Test.YtenaljhkdnhgpaaGreatDoorTDatas
namespace Go.Proofs.YtenaljhkdnhgpaaGreatDoor.T
open Go.RowKit

/-- A row of terms that can be read. -/
def RT (w : World) (s : Value) (l : List Tm) : Prop := w.ownsRow 0 69 4 s l.length (rowOf l)
theorem get_out (B g m : Nat) (L : List Tm) (v : Value) (x : Int) (hx : thereB L.length x = false) (w : World) (h : St w B g m L v) :
    Calls Tryz.prog 7 #[.pointer (some ⟨g, 0, none⟩), .int .i64 x] w fun e w' => e = .returned (.tuple #[.agg #[.int .u8 0, .int .i64 0, .int .i64 0, .int .i64 0], .bool false]) ∧ Below w.heap.size w w' := by
  obtain ⟨A, c, rfl⟩ := h.slice
  have hbb : Below w.heap.size w (w.alloc (.cells #[.int .u8 0, .int .i64 0, .int .i64 0, .int .i64 0] 69)) := (Below.refl _ _).alloc (Nat.le_refl _) _
  have h1 := h.below hbb
  have hM := made_yes g m _ h1.c1
  have hT := there g L.length c A x _ h1.c0
  rw [show (decide (1 ≤ x) && decide (x ≤ L.length)) = false from hx] at hT
  clear h h1 hx hbb
  go_enter Tryz.func7, Tryz.ntmps7
  go_wp2_with (first | (go_at_call 30; with_reducible refine hM.mono ?_; rintro e w' ⟨rfl, rfl⟩) | (go_at_call 31; with_reducible refine hT.mono ?_; rintro e w' ⟨rfl, rfl⟩))
  go_returns
  exact ⟨rfl, (Below.refl _ _).alloc (Nat.le_refl _) _⟩
theorem RT.slice {w : World} {s : Value} {l : List Tm} (h : RT w s l) : ∃ A c, s = .slice A l.length c ∧ (0 < l.length → ∃ b, A = some ⟨b, 0, none⟩) := by
  rcases h.2 with ⟨h1, h2⟩ | ⟨g', cap, cur, h1, _⟩
  · exact ⟨none, 0, by rw [h1, h2], fun h0 => by omega⟩
  · exact ⟨_, _, h1, fun _ => ⟨g', rfl⟩⟩
theorem RT.cell {w : World} {b n c : Nat} {l : List Tm} (h : RT w (.slice (some ⟨b, 0, none⟩) n c) l) (hn : n = l.length) (i : Nat) (t : Tm) (hi : l[i]? = some t) :
    w.cell? ⟨b, i * 4, none⟩ = some (.int .u8 t.k) ∧ w.cell? ⟨b, i * 4 + 1, none⟩ = some (.int .i64 t.n) ∧ w.cell? ⟨b, i * 4 + 2, none⟩ = some (.int .i64 t.a) ∧ w.cell? ⟨b, i * 4 + 3, none⟩ = some (.int .i64 t.b) := by
  subst hn
  have h : w.ownsRow 0 69 4 (.slice (some ⟨b, 0, none⟩) l.length c) l.length (rowOf l) := h
  exact ⟨row_cell h rfl i t hi 0 (by decide), row_cell h rfl i t hi 1 (by decide), row_cell h rfl i t hi 2 (by decide), row_cell h rfl i t hi 3 (by decide)⟩
theorem same_nil (A B : Option Addr) (c d : Nat) (w : World) : Calls Tryz.prog 10 #[.slice A 0 c, .slice B 0 d] w fun e w' => e = .returned (.bool true) ∧ ∃ n, w' = w.drewN n := by
  go_enter Tryz.func10, Tryz.ntmps10
  go_wp2
  refine wp_loop_rounds 1 ?_
  rw [rounds_succ]
  go_wp2
  go_ret
  exact ⟨rfl, 0, rfl⟩
set_option maxHeartbeats 1000000 in
theorem same_yes (p q c d N : Nat) (l : List Tm) (hN : N = l.length) (w : World) (ha : RT w (.slice (some ⟨p, 0, none⟩) N c) l) (hb : RT w (.slice (some ⟨q, 0, none⟩) N d) l) (hsm : N ≤ 9223372036854775807) :
    Calls Tryz.prog 10 #[.slice (some ⟨p, 0, none⟩) N c, .slice (some ⟨q, 0, none⟩) N d] w fun e w' => e = .returned (.bool true) ∧ ∃ n, w' = w.drewN n := by
  have HA := Lib.hid ha
  have HB := Lib.hid hb
  have HN := Lib.hid hN
  have t0 : ((N : Int) != (N : Int)) = false := by simp
  clear ha hb hN
  go_enter Tryz.func10, Tryz.ntmps10
  go_wp2_with fail
  go_loopw [13] (fun v13 wr => ∃ k : Nat, k ≤ N ∧ v13 = .int .i64 k ∧ ∃ j, wr = w.drewN j) (fun v13 _ => N - (intOf v13).toNat)
  case atStart => exact ⟨0, by omega, rfl, 0, rfl⟩
  case round =>
    obtain ⟨k, hk, rfl, jd, rfl⟩ := hrel
    by_cases hlt : k < N
    · obtain ⟨x, hx⟩ : ∃ x, l[k]? = some x := ⟨l[k]'(by have := HN.out; omega), List.getElem?_eq_getElem _⟩
      obtain ⟨c1, c2, c3, c4⟩ := HA.out.cell HN.out k x hx
      obtain ⟨d1, d2, d3, d4⟩ := HB.out.cell HN.out k x hx
      have i1 : (0 : Int) ≤ k := by omega
      have i2 : (k : Int) < N := by omega
      obtain ⟨xk, xn, xa, xb⟩ := x
      simp only at c1 c2 c3 c4 d1 d2 d3 d4
      clear hx
      go_wp2_with fail
      go_quiet (fail)
      go_wp2
      go_roundw
      case rel => exact ⟨k + 1, by omega, by go_num, _, rfl⟩
      case measure => simp [intOf]; omega
    · obtain rfl : k = N := by omega
      go_wp2
      go_ret
      exact ⟨rfl, _, rfl⟩
end Go.Proofs.YtenaljhkdnhgpaaGreatDoor.T
