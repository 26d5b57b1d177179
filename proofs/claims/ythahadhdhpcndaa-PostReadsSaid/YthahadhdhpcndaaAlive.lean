/- Net: alive. -/
import Derived.Test.YthahadhdhpcndaaNetRest
namespace Go.Proofs.Ythahadhdhpcndaa
open Go Go.RowKit
set_option linter.unusedVariables false
set_option linter.unusedSimpArgs false

theorem Fr.at {B g X : Nat} {w w' : World} {v v' : Value} (h : Fr B w w' g v v') (h1 : X < w.heap.size) (h2 : X ≠ g) (h3 : v.ownBlock ≠ some X) : w'.heap[X]? = w.heap[X]? ∧ v'.ownBlock ≠ some X ∧ X < w'.heap.size :=
  ⟨h.same X h1 h2 h3, fun e => by rcases h.new X e with h4 | h4; exact h3 h4; omega, Nat.lt_of_lt_of_le h1 h.size⟩
def CommitD.zero : CommitD := ⟨0, 0, 0, 0, 0, false, [], [], [], [], 0, 0, [], 0, 0⟩
def MailD.zero : MailD := ⟨0, .zero, 0, 0, 0, 0, 0, 0, 0, [], 0, 0, 0, 0, 0, 0⟩
def FeedD.zero : FeedD := ⟨0, 0, 0, .zero, .zero, 0, 0, 0, 0, 0⟩
theorem Rw.nil (ok : Nat → Prop) (w : World) (sz : Nat) : Rw ok w sz (.slice none 0 0) [] := ⟨none, 0, 0, rfl, by simp, fun _ => ⟨rfl, rfl⟩, fun h => absurd h (by omega), by simp⟩
theorem RdN.nil (ok : Nat → Prop) (w : World) : RdN ok w (.slice none 0 0) [] := ⟨none, 0, 0, rfl, rfl, fun _ => ⟨rfl, rfl⟩, fun h => absurd h (by omega)⟩
theorem RdC.zero (ok : Nat → Prop) (w : World) : RdC ok w (CommitD.zero.cs (.slice none 0 0) (.slice none 0 0) (.slice none 0 0) (.slice none 0 0) (.slice none 0 0)) .zero := ⟨⟨_, _, _, _, _, rfl, Rw.nil _ _ _, Rw.nil _ _ _, Rw.nil _ _ _, Rw.nil _ _ _, RdN.nil _ _⟩⟩
theorem RdM.zero (ok : Nat → Prop) (w : World) : RdM ok w (MailD.zero.cs (CommitD.zero.cs (.slice none 0 0) (.slice none 0 0) (.slice none 0 0) (.slice none 0 0) (.slice none 0 0)) (.slice none 0 0)) .zero := ⟨⟨_, _, rfl, RdC.zero _ _, RdN.nil _ _⟩⟩
theorem RdF.zero (ok : Nat → Prop) (w : World) : RdF ok w (FeedD.zero.cs (CommitD.zero.cs (.slice none 0 0) (.slice none 0 0) (.slice none 0 0) (.slice none 0 0) (.slice none 0 0)) (MailD.zero.cs (CommitD.zero.cs (.slice none 0 0) (.slice none 0 0) (.slice none 0 0) (.slice none 0 0) (.slice none 0 0)) (.slice none 0 0))) .zero := ⟨⟨_, _, rfl, RdC.zero _ _, RdM.zero _ _⟩⟩
theorem SzC.zero : SzC .zero := ⟨by decide, by decide, by decide, by decide, ⟨by decide, fun d hd => by cases hd⟩⟩
theorem SzF.zero : SzF .zero := ⟨SzC.zero, ⟨SzC.zero, ⟨by decide, fun d hd => by cases hd⟩⟩⟩
def P1 : PackD := ⟨0, 1, true, 5, .zero⟩
def P2 : PackD := ⟨0, 2, true, 0, .zero⟩
set_option maxRecDepth 100000 in
theorem P1_rd (ok : Nat → Prop) (w : World) : RdP ok w #[.int .i64 0, .int .i64 1, .bool true, .int .i64 5, .int .u8 0, .int .i64 0, .int .i64 0, .int .i64 0, .int .i64 0, .int .i64 0, .int .i64 0, .int .i64 0, .bool false, .slice none 0 0, .slice none 0 0, .slice none 0 0, .slice none 0 0, .int .i64 0, .int .i64 0, .slice none 0 0, .int .i64 0, .int .i64 0, .int .u8 0, .int .i64 0, .int .i64 0, .int .i64 0, .int .i64 0, .int .i64 0, .bool false, .slice none 0 0, .slice none 0 0, .slice none 0 0, .slice none 0 0, .int .i64 0, .int .i64 0, .slice none 0 0, .int .i64 0, .int .i64 0, .int .i64 0, .int .i64 0, .int .i64 0, .int .i64 0, .int .i64 0, .int .i64 0, .int .i64 0, .slice none 0 0, .int .i64 0, .int .i64 0, .int .i64 0, .int .i64 0, .int .i64 0, .int .i64 0, .int .i64 0, .int .i64 0, .int .i64 0, .int .i64 0, .int .i64 0] P1 := ⟨⟨_, rfl, RdF.zero ok w⟩⟩
set_option maxRecDepth 100000 in
theorem P2_rd (ok : Nat → Prop) (w : World) : RdP ok w #[.int .i64 0, .int .i64 2, .bool true, .int .i64 0, .int .u8 0, .int .i64 0, .int .i64 0, .int .i64 0, .int .i64 0, .int .i64 0, .int .i64 0, .int .i64 0, .bool false, .slice none 0 0, .slice none 0 0, .slice none 0 0, .slice none 0 0, .int .i64 0, .int .i64 0, .slice none 0 0, .int .i64 0, .int .i64 0, .int .u8 0, .int .i64 0, .int .i64 0, .int .i64 0, .int .i64 0, .int .i64 0, .bool false, .slice none 0 0, .slice none 0 0, .slice none 0 0, .slice none 0 0, .int .i64 0, .int .i64 0, .slice none 0 0, .int .i64 0, .int .i64 0, .int .i64 0, .int .i64 0, .int .i64 0, .int .i64 0, .int .i64 0, .int .i64 0, .int .i64 0, .slice none 0 0, .int .i64 0, .int .i64 0, .int .i64 0, .int .i64 0, .int .i64 0, .int .i64 0, .int .i64 0, .int .i64 0, .int .i64 0, .int .i64 0, .int .i64 0] P2 := ⟨⟨_, rfl, RdF.zero ok w⟩⟩
theorem okP1 : P1.Ok := ⟨by decide, by decide, by decide, by decide, by decide, .inl ⟨rfl, by decide⟩⟩
theorem okP2 : P2.Ok := ⟨by decide, by decide, by decide, by decide, by decide, .inl ⟨rfl, by decide⟩⟩
/-- A Send that is taken. -/
theorem SendP.took {B g : Nat} {v : Value} {cs : List (Array Value)} {L : List PackD} {d : PackD} {w w' : World} {e : Ending} (h : SendP B g v cs L d w e w') (h1 : d.Ok) (h2 : L.length ≠ 4096) :
    e = .returned (.int .i64 0) ∧ ∃ v' c', NetI w' B g v' (cs ++ [c']) (L ++ [d]) ∧ Fr B w w' g v v' := by
  rcases h.out with h | h | h
  · exact absurd h1 h.1
  · exact absurd h.2.1 h2
  · obtain ⟨_, _, he, v', c', h3, h4, _⟩ := h
    exact ⟨he, v', c', h3, h4⟩
set_option maxHeartbeats 8000000 in
set_option maxRecDepth 100000 in
theorem alive12 (w : World) : Calls Try.prog 12 #[] w fun e w' => e = .returned (.bool true) ∧ Below w.heap.size w w' := by
  have M0 := new13 w
  obtain ⟨z44, hz44⟩ : ∃ z : Array Value, z = #[.int .i64 0, .int .i64 0, .bool false, .int .i64 0, .int .u8 0, .int .i64 0, .int .i64 0, .int .i64 0, .int .i64 0, .int .i64 0, .int .i64 0, .int .i64 0, .bool false, .slice none 0 0, .slice none 0 0, .slice none 0 0, .slice none 0 0, .int .i64 0, .int .i64 0, .slice none 0 0, .int .i64 0, .int .i64 0, .int .u8 0, .int .i64 0, .int .i64 0, .int .i64 0, .int .i64 0, .int .i64 0, .bool false, .slice none 0 0, .slice none 0 0, .slice none 0 0, .slice none 0 0, .int .i64 0, .int .i64 0, .slice none 0 0, .int .i64 0, .int .i64 0, .int .i64 0, .int .i64 0, .int .i64 0, .int .i64 0, .int .i64 0, .int .i64 0, .int .i64 0, .slice none 0 0, .int .i64 0, .int .i64 0, .int .i64 0, .int .i64 0, .int .i64 0, .int .i64 0, .int .i64 0, .int .i64 0, .int .i64 0, .int .i64 0, .int .i64 0] := ⟨_, rfl⟩
  obtain ⟨p1, hp1⟩ : ∃ z : Array Value, z = #[.int .i64 0, .int .i64 1, .bool true, .int .i64 5, .int .u8 0, .int .i64 0, .int .i64 0, .int .i64 0, .int .i64 0, .int .i64 0, .int .i64 0, .int .i64 0, .bool false, .slice none 0 0, .slice none 0 0, .slice none 0 0, .slice none 0 0, .int .i64 0, .int .i64 0, .slice none 0 0, .int .i64 0, .int .i64 0, .int .u8 0, .int .i64 0, .int .i64 0, .int .i64 0, .int .i64 0, .int .i64 0, .bool false, .slice none 0 0, .slice none 0 0, .slice none 0 0, .slice none 0 0, .int .i64 0, .int .i64 0, .slice none 0 0, .int .i64 0, .int .i64 0, .int .i64 0, .int .i64 0, .int .i64 0, .int .i64 0, .int .i64 0, .int .i64 0, .int .i64 0, .slice none 0 0, .int .i64 0, .int .i64 0, .int .i64 0, .int .i64 0, .int .i64 0, .int .i64 0, .int .i64 0, .int .i64 0, .int .i64 0, .int .i64 0, .int .i64 0] := ⟨_, rfl⟩
  obtain ⟨p2, hp2⟩ : ∃ z : Array Value, z = #[.int .i64 0, .int .i64 2, .bool true, .int .i64 0, .int .u8 0, .int .i64 0, .int .i64 0, .int .i64 0, .int .i64 0, .int .i64 0, .int .i64 0, .int .i64 0, .bool false, .slice none 0 0, .slice none 0 0, .slice none 0 0, .slice none 0 0, .int .i64 0, .int .i64 0, .slice none 0 0, .int .i64 0, .int .i64 0, .int .u8 0, .int .i64 0, .int .i64 0, .int .i64 0, .int .i64 0, .int .i64 0, .bool false, .slice none 0 0, .slice none 0 0, .slice none 0 0, .slice none 0 0, .int .i64 0, .int .i64 0, .slice none 0 0, .int .i64 0, .int .i64 0, .int .i64 0, .int .i64 0, .int .i64 0, .int .i64 0, .int .i64 0, .int .i64 0, .int .i64 0, .slice none 0 0, .int .i64 0, .int .i64 0, .int .i64 0, .int .i64 0, .int .i64 0, .int .i64 0, .int .i64 0, .int .i64 0, .int .i64 0, .int .i64 0, .int .i64 0] := ⟨_, rfl⟩
  have hzs : z44.size = 57 := by rw [hz44]; rfl
  have R1 : ∀ ok w, RdP ok w p1 P1 := fun ok w => by rw [hp1]; exact P1_rd ok w
  have R2 : ∀ ok w, RdP ok w p2 P2 := fun ok w => by rw [hp2]; exact P2_rd ok w
  have HZ := Lib.hid (And.intro hz44 (And.intro hp1 (And.intro hp2 (And.intro hzs (And.intro R1 R2)))))
  have HS := Lib.hid (And.intro ((R1 (fun _ => True) w).size) (And.intro ((R1 (fun _ => True) w).one) (And.intro ((R2 (fun _ => True) w).size) ((R2 (fun _ => True) w).one))))
  clear hz44 hp1 hp2 hzs R1 R2
  go_enter Try.func12, Try.ntmps12
  go_wp2_with fail
  refine M0.mono ?_
  rintro e w1 ⟨rfl, n1, b1⟩
  have hb2 : Below w1.heap.size w1 ((w1.alloc (.cells z44 44)).alloc (.cells z44 44)) := ((Below.refl _ _).alloc (Nat.le_refl _) _).alloc (by simp) _
  have x1 : ((w1.alloc (.cells z44 44)).alloc (.cells z44 44)).heap[w1.heap.size]? = some (.cells z44 44 (0, 0)) := heap_alloc2_old w1 _ _
  have x2 : ((w1.alloc (.cells z44 44)).alloc (.cells z44 44)).heap[w1.heap.size + 1]? = some (.cells z44 44 (0, 0)) := heap_alloc2_new w1 _ _
  obtain ⟨W2, hW2⟩ : ∃ W, W = ((w1.alloc (.cells z44 44)).alloc (.cells z44 44)).setRow w1.heap.size (over z44 0 p1) := ⟨_, rfl⟩
  have y1 : W2.heap[w1.heap.size]? = some (.cells p1 44 (0, 0)) := by
    rw [hW2]; exact (setRow_same x1).trans (congrArg (fun z => some (Obj.cells z 44 (0, 0))) (over_full (by rw [HZ.out.2.2.2.1, HS.out.1])))
  have y2 : W2.heap[w1.heap.size + 1]? = some (.cells z44 44 (0, 0)) := by rw [hW2]; exact (setRow_ne (by omega)).trans x2
  have hb3 : Below w1.heap.size w1 W2 := by rw [hW2]; exact below_setRow hb2 (Nat.le_refl _)
  obtain ⟨W3, hW3⟩ : ∃ W, W = W2.setRow (w1.heap.size + 1) (over z44 0 p2) := ⟨_, rfl⟩
  have u1 : W3.heap[w1.heap.size]? = some (.cells p1 44 (0, 0)) := by rw [hW3]; exact (setRow_ne (by omega)).trans y1
  have u2 : W3.heap[w1.heap.size + 1]? = some (.cells p2 44 (0, 0)) := by
    rw [hW3]; exact (setRow_same y2).trans (congrArg (fun z => some (Obj.cells z 44 (0, 0))) (over_full (by rw [HZ.out.2.2.2.1, HS.out.2.2.1])))
  have hb4 : Below w1.heap.size w1 W3 := by rw [hW3]; exact below_setRow hb3 (by omega)
  have H1 := Lib.hid (And.intro n1 (And.intro b1 (And.intro x1 (And.intro y2 (And.intro u1 (And.intro u2 hb4))))))
  have HW := Lib.hid (And.intro hW2 hW3)
  clear n1 b1 x1 x2 y1 y2 u1 u2 hb2 hb3 hb4 hW2 hW3 M0
  go_wp2_with (first | (rw [← HZ.out.1, ← HZ.out.2.1, ← HZ.out.2.2.1]; with_reducible refine wpList_store_part rfl 44 _ _ rfl rfl _ 0 57 rfl 44 _ _ rfl H1.out.2.2.1 cells44 HS.out.1 (by rw [HZ.out.2.2.2.1]; decide) HS.out.2.1 ?_; rw [← HW.out.1]) | (with_reducible refine wpList_store_part rfl 44 _ _ rfl rfl _ 0 57 rfl 44 _ _ rfl H1.out.2.2.2.1 cells44 HS.out.2.2.1 (by rw [HZ.out.2.2.2.1]; decide) HS.out.2.2.2 ?_; rw [← HW.out.2]) | (with_reducible refine wpList_load_row rfl 44 _ rfl _ rfl 44 _ _ _ H1.out.2.2.2.2.1 Try.underlying44 rfl (by rw [cells44, HS.out.1]) ?_))
  have hg1 := lt_of_some H1.out.1.blk
  have n3 := H1.out.1.below H1.out.2.2.2.2.2.2
  refine (send14 n3 (by decide) (HZ.out.2.2.2.2.1 (fun _ => True) W3) (fun _ => SzF.zero)).mono ?_
  intro e w4 hS
  obtain ⟨rfl, v4, c4, n4, f4⟩ := hS.took okP1 (by decide)
  obtain ⟨a1, a2, a3⟩ := f4.at (lt_of_some H1.out.2.2.2.2.1) (by omega) (by simp [Value.ownBlock])
  obtain ⟨a4, a5, a6⟩ := f4.at (lt_of_some H1.out.2.2.2.2.2.1) (by omega) (by simp [Value.ownBlock])
  have H4 := Lib.hid (And.intro n4 (And.intro f4 (And.intro (a1.trans H1.out.2.2.2.2.1) (And.intro (a4.trans H1.out.2.2.2.2.2.1) (And.intro a2 a5)))))
  clear hS n3 n4 f4 a1 a2 a3 a4 a5 a6
  go_wp2_with (with_reducible refine wpList_load_partg (by simp [Region.wanted, yielded]) 44 _ rfl (w1.heap.size + 1) 0 57 rfl 44 p2 (0, 0) _ H4.out.2.2.2.1 Try.underlying44 rfl cells44 (by rw [HS.out.2.2.1]; decide) p2 (by rw [show 0 + 57 = p2.size by rw [HS.out.2.2.1]]; exact Array.extract_size) ?_)
  refine (send14 H4.out.1 (by decide) (HZ.out.2.2.2.2.2 (fun _ => True) w4) (fun _ => SzF.zero)).mono ?_
  intro e w5 hS
  obtain ⟨rfl, v5, c5, n5, f5⟩ := hS.took okP2 (by decide)
  have H5 := Lib.hid (And.intro n5 f5)
  clear hS n5 f5
  go_wp2_with fail
  refine (copy15 (i := 0) H5.out.1 (by decide) (d := P1) rfl (fun _ => SzF.zero)).mono ?_
  intro e w6 hS
  obtain ⟨rfl, v6, c6, n6, f6⟩ := hS.took okP1 (by decide)
  have H6 := Lib.hid (And.intro n6 f6)
  clear hS n6 f6
  go_wp2_with fail
  refine (len16 H6.out.1).mono ?_
  rintro e w' ⟨rfl, rfl⟩
  go_wp2_with fail
  refine (deliver17 H6.out.1 (by decide) (i := 1) (by decide)).mono ?_
  intro e w7 hD
  obtain ⟨c, d, v7, hc, hd, rfl, n7, r7, f7⟩ := hD.out
  obtain rfl : P2 = d := by
    have e1 : [P1, P2, P1][1]? = some d := hd
    injection e1
  have X7 : (w7.alloc (.cells z44 44)).heap[w7.heap.size]? = some (.cells z44 44 (0, 0)) := heap_alloc_new w7 _
  obtain ⟨W8, hW8⟩ : ∃ W, W = (w7.alloc (.cells z44 44)).setRow w7.heap.size (over z44 0 c) := ⟨_, rfl⟩
  have b8 : Below w7.heap.size w7 W8 := by rw [hW8]; exact below_setRow ((Below.refl _ _).alloc (Nat.le_refl _) _) (Nat.le_refl _)
  have y8 : W8.heap[w7.heap.size]? = some (.cells c 44 (0, 0)) := by
    rw [hW8]; exact (setRow_same X7).trans (congrArg (fun z => some (Obj.cells z 44 (0, 0))) (over_full (by rw [HZ.out.2.2.2.1, r7.size])))
  have H7 := Lib.hid (And.intro n7 (And.intro f7 (And.intro X7 (And.intro r7.size (And.intro r7.one (And.intro r7.at0 (And.intro y8 b8)))))))
  have HW8 := Lib.hid hW8
  clear hD hc hd n7 r7 f7 X7 hW8 y8 b8
  go_wp2_with (first | (rw [← HZ.out.1]; with_reducible refine wpList_store_part rfl 44 _ _ rfl rfl _ 0 57 rfl 44 _ _ rfl H7.out.2.2.1 cells44 H7.out.2.2.2.1 (by rw [HZ.out.2.2.2.1]; decide) H7.out.2.2.2.2.1 ?_; rw [← HW8.out]))
  have n8 : NetI W8 w.heap.size w.heap.size v7 (([] ++ [c4] ++ [c5] ++ [c6]).eraseIdx 1) (([] ++ [P1] ++ [P2] ++ [P1]).eraseIdx 1) := H7.out.1.below H7.out.2.2.2.2.2.2.2
  refine (deliver17 n8 (by decide) (i := 1) (by decide)).mono ?_
  intro e w9 hD
  obtain ⟨c', d, v9, hc, hd, rfl, n9, r9, f9⟩ := hD.out
  obtain rfl : P1 = d := by
    have e1 : [P1, P1][1]? = some d := hd
    injection e1
  obtain ⟨a1, a2, a3⟩ := f9.at (lt_of_some H7.out.2.2.2.2.2.2.1) (by have := n8.lo; have := lt_of_some H7.out.1.blk; omega) (fun e => by have := (H7.out.1.vb _ e).2; omega)
  have X9 : (w9.alloc (.cells z44 44)).heap[w9.heap.size]? = some (.cells z44 44 (0, 0)) := heap_alloc_new w9 _
  obtain ⟨W10, hW10⟩ : ∃ W, W = (w9.alloc (.cells z44 44)).setRow w9.heap.size (over z44 0 c') := ⟨_, rfl⟩
  have b10 : Below w9.heap.size w9 W10 := by rw [hW10]; exact below_setRow ((Below.refl _ _).alloc (Nat.le_refl _) _) (Nat.le_refl _)
  have y10 : W10.heap[w9.heap.size]? = some (.cells c' 44 (0, 0)) := by
    rw [hW10]; exact (setRow_same X9).trans (congrArg (fun z => some (Obj.cells z 44 (0, 0))) (over_full (by rw [HZ.out.2.2.2.1, r9.size])))
  have k1 : W10.cell? ⟨w7.heap.size, 1, none⟩ = some (.int .i64 2) := (cell_of_row W10 _ 1 _ _ _ ((b10.block _ a3).trans (a1.trans H7.out.2.2.2.2.2.2.1))).trans H7.out.2.2.2.2.2.1.2.1
  have k2 : W10.cell? ⟨w9.heap.size, 3, none⟩ = some (.int .i64 5) := (cell_of_row W10 _ 3 _ _ _ y10).trans r9.at0.2.2.2.1
  have hfin : Below w.heap.size w W10 := H1.out.2.1.trans (by
    have s1 := H1.out.2.1.size
    have s3 := H1.out.2.2.2.2.2.2.size
    have s4 := H4.out.2.1.size
    have s5 := H5.out.2.size
    have s6 := H6.out.2.size
    have s7 := H7.out.2.1.size
    have s8 := H7.out.2.2.2.2.2.2.2.size
    have s9 := f9.size
    exact ((H1.out.2.2.2.2.2.2.mono s1).trans (H4.out.2.1.below.trans (H5.out.2.below.trans (H6.out.2.below.trans (H7.out.2.1.below.trans ((H7.out.2.2.2.2.2.2.2.mono (by omega)).trans (f9.below.trans (b10.mono (by omega)))))))))) 
  have n10 : NetI W10 w.heap.size w.heap.size v9 ([c4, c6].eraseIdx 1) ([P1, P1].eraseIdx 1) := n9.below b10
  have H9 := Lib.hid (And.intro n10 (And.intro X9 (And.intro r9.size (And.intro r9.one hfin))))
  have HW10 := Lib.hid hW10
  clear hD hc hd n9 r9 f9 X9 hW10 y10 b10 a1 a2 a3 n10 hfin n8
  go_wp2_with (first | (rw [← HZ.out.1]; with_reducible refine wpList_store_part rfl 44 _ _ rfl rfl _ 0 57 rfl 44 _ _ rfl H9.out.2.1 cells44 H9.out.2.2.1 (by rw [HZ.out.2.2.2.1]; decide) H9.out.2.2.2.1 ?_; rw [← HW10.out]))
  refine (drop20e W10 _ 1 7 (by decide) (fun w' hb => ?_)).mono ?_
  · have := at41 (H9.out.1.below hb) 1
    rwa [if_neg (by decide)] at this
  rintro e w11 ⟨rfl, B11⟩
  have H11 := Lib.hid (H9.out.2.2.2.2.trans (B11.mono H9.out.2.2.2.2.size))
  clear B11
  go_wp2_with fail
  go_ret
  exact ⟨rfl, H11.out⟩
end Go.Proofs.Ythahadhdhpcndaa
