/- Whether a term may be made. -/
import Derived.Test.YtenaljhkdnhgpaaGreatDoorTMap
import Derived.BigQuiet
namespace Go.Proofs.YtenaljhkdnhgpaaGreatDoor.T
open Go.RowKit

def thereB (n : Nat) (x : Int) : Bool := decide (1 ≤ x) && decide (x ≤ n)
def mayB (l : Nat) (t : Tm) : Bool :=
  if t.k = 1 then decide (0 ≤ t.n) && (t.a == 0 && t.b == 0)
  else if t.k = 2 then t.a == 0 && t.b == 0
  else if t.k = 3 ∨ t.k = 6 then t.n == 0 && (thereB l t.a && thereB l t.b)
  else if t.k = 4 then decide (0 ≤ t.n) && (thereB l t.a && (thereB l t.b || t.b == 0))
  else if t.k = 5 ∨ t.k = 7 then t.n == 0 && (thereB l t.a && t.b == 0)
  else false
set_option maxHeartbeats 2000000 in
theorem may (g n c : Nat) (A : Option Addr) (k m a b : Int) (w : World) (h0 : w.cell? ⟨g, 0, none⟩ = some (.slice A n c)) :
    Calls Tryz.prog 147 #[.pointer (some ⟨g, 0, none⟩), .agg #[.int .u8 k, .int .i64 m, .int .i64 a, .int .i64 b]] w fun e w' => e = .returned (.bool (mayB n ⟨k, m, a, b⟩)) ∧ Below w.heap.size w w' := by
  have hlt := World.block_lt_of_cell? w _ h0
  have hw1 : (w.alloc (.cells #[.int .u8 k, .int .i64 m, .int .i64 a, .int .i64 b] 69)).cell? ⟨g, 0, none⟩ = some (.slice A n c) := by rw [World.cell?_alloc_lt _ _ _ hlt]; exact h0
  have hT : ∀ x w1, w1.cell? ⟨g, 0, none⟩ = some (.slice A n c) → Calls Tryz.prog 31 #[.pointer (some ⟨g, 0, none⟩), .int .i64 x] w1 fun e w' => e = .returned (.bool (thereB n x)) ∧ w' = w1 := fun x w1 h => (there g n c A x w1 h).mono fun e w' h => ⟨h.1, h.2.symm⟩
  have M1 := fun j => hT a ((w.alloc (.cells #[.int .u8 k, .int .i64 m, .int .i64 a, .int .i64 b] 69)).drewN j) hw1
  have M2 := fun j => hT b ((w.alloc (.cells #[.int .u8 k, .int .i64 m, .int .i64 a, .int .i64 b] 69)).drewN j) hw1
  clear hT
  have hb : Below w.heap.size w (w.alloc (.cells #[.int .u8 k, .int .i64 m, .int .i64 a, .int .i64 b] 69)) := (Below.refl _ _).alloc (Nat.le_refl _) _
  have hr : ∃ r, r = mayB n ⟨k, m, a, b⟩ := ⟨_, rfl⟩
  obtain ⟨r, hr⟩ := hr
  rw [← hr]
  unfold mayB at hr
  simp only [] at hr
  generalize thereB n a = ta at *
  generalize thereB n b = tb at *
  have HR := Lib.hid hr
  clear hr
  go_enter Tryz.func147, Tryz.ntmps147
  go_wp2_with fail
  go_quiet ((go_at_call 31; (first | (with_reducible exact Calls.quiet_of_same (M1 _)) | (with_reducible exact Calls.quiet_of_same (M2 _)))))
  go_wp2_with fail
  all_goals go_ret
  all_goals refine ⟨?_, ?_⟩
  all_goals (try exact below_drewN ((Below.refl _ _).alloc (Nat.le_refl _) _) _)
  all_goals rw [HR.out]
  all_goals clear HR M1 M2 hb hw1
  all_goals (first | rfl | (simp_all; done) | (simp_all; omega))
end Go.Proofs.YtenaljhkdnhgpaaGreatDoor.T
