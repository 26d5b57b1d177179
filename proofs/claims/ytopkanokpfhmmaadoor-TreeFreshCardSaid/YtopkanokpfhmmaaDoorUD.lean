/- SameNode; names. -/
import Derived.Test.YtopkanokpfhmmaaDoorUA
namespace Go.Proofs.YtopkanokpfhmmaaDoor
open Go Go.RowKit
set_option linter.unusedVariables false
set_option linter.unusedSimpArgs false

def sameN (a b : Node) : Bool := a.pub == b.pub && (a.mem == b.mem && (a.ep == b.ep && sameB a.un b.un))
theorem sameN_self (a : Node) : sameN a a = true := by simp [sameN, sameB]
set_option maxHeartbeats 2000000 in
set_option maxRecDepth 100000 in
theorem same21 (a b : Node) (A B : Option Addr) (c c' : Nat) (w : World) (ha : Ints w (.slice A a.un.length c) a.un) (hb : Ints w (.slice B b.un.length c') b.un) :
    Calls Tryd.prog 21 #[.agg #[.int .i64 a.pub, .int .i64 a.mem, .int .i64 a.ep, .slice A a.un.length c], .agg #[.int .i64 b.pub, .int .i64 b.mem, .int .i64 b.ep, .slice B b.un.length c']] w
      fun e w' => e = .returned (.bool (sameN a b)) ∧ Below w.heap.size w w' := by
  have hbw : Below w.heap.size w ((w.alloc (.cells #[.int .i64 a.pub, .int .i64 a.mem, .int .i64 a.ep, .slice A a.un.length c] 45)).alloc (.cells #[.int .i64 b.pub, .int .i64 b.mem, .int .i64 b.ep, .slice B b.un.length c'] 45)) := ((Below.refl _ _).alloc (Nat.le_refl _) _).alloc (by simp) _
  have hs := same _ _ a.un b.un _ (ha.below hbw) (hb.below hbw)
  have HB := Lib.hid hbw
  unfold sameN
  cases e1 : (a.pub == b.pub) with
  | false =>
    go_enter Tryd.func21, Tryd.ntmps21
    go_wp2_with fail
    go_ret
    exact ⟨rfl, HB.out⟩
  | true =>
    cases e2 : (a.mem == b.mem) with
    | false =>
      go_enter Tryd.func21, Tryd.ntmps21
      go_wp2_with fail
      go_ret
      exact ⟨rfl, HB.out⟩
    | true =>
      cases e3 : (a.ep == b.ep) with
      | false =>
        go_enter Tryd.func21, Tryd.ntmps21
        go_wp2_with fail
        go_ret
        exact ⟨rfl, HB.out⟩
      | true =>
        generalize sameB a.un b.un = z at *
        go_enter Tryd.func21, Tryd.ntmps21
        go_wp2_with fail
        refine hs.mono ?_
        rintro e w' ⟨rfl, nd, rfl⟩
        go_wp2_with fail
        go_ret
        exact ⟨by simp, Below.quiet HB.out _⟩
/-- How often a node of a list names a leaf. -/
def nm1 (F : Nat → Node) (i : Nat) (x : Int) : Nat := if x = 2 * (i : Int) then 1 else if x % 2 = 1 ∧ wi i x.toNat = true ∧ (F x.toNat).un.contains (i : Int) = false then 1 else 0
def nmL (F : Nat → Node) (i : Nat) (l : List Int) : Nat := (l.map (nm1 F i)).foldl (· + ·) 0
theorem wi_iff {i x : Nat} (hi : i < 8) (hx : x < 31) (w : World) : Calls Tryd.prog 24 #[.int .i64 (2 * (i : Int)), .int .i64 x] w fun e w' => e = .returned (.bool (wi i x)) ∧ w = w' := by
  have hN : Nd (2 * i) 0 i := by unfold Nd; simp
  have hM := nd_lv hx
  have hk : lvN x ≤ 62 := by have := hM.level_lt (n := 5) (by omega); omega
  have := rwithin_yes (2 * i) 0 i x (lvN x) _ hN hM (by omega) (by omega) hk w
  rw [show ((2 * i : Nat) : Int) = 2 * (i : Int) by omega] at this
  have e : decide (0 ≤ lvN x ∧ anc (2 * i) (lvN x) = x) = wi i x := by
    unfold wi
    rw [Bool.eq_iff_iff, decide_eq_true_eq, beq_iff_eq]
    simp
  rw [e] at this
  exact this
end Go.Proofs.YtopkanokpfhmmaaDoor
