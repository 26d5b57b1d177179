/- Packets that may be: May, sendable. -/
import Derived.Test.YthahadhdhpcndaaBeyond
namespace Go.Proofs.Ythahadhdhpcndaa
open Go Go.RowKit
set_option linter.unusedVariables false
set_option linter.unusedSimpArgs false

section
variable {P : Program}
/-- The same where the operation has a guard that holds. -/
theorem wpList_load_partg {ops : Array Oper} {rest : List Oper} {o : Oper} {a : Act} {w : World} {Q : Exit → Act → World → Prop} (hgd : Region.wanted o (yielded ops a.tmps) = true) (ty : TypeId) (x : Operand) (ho : o.op = .load ty x)
    (g off n : Nat) (hx : a.eval x = .pointer (some ⟨g, off, none⟩)) (t : TypeId) (cs : Array Value) (fr : Nat × Nat) (d : TypeDesc) (hg : w.heap[g]? = some (.cells cs t fr))
    (hu : P.underlying ty = some d) (hd : (match d with | .struct _ | .array _ _ => true | _ => false) = true) (hi : (P.info? ty).map (·.size) = some n) (hf : off + n ≤ cs.size)
    (m : Array Value) (hp : cs.extract off (off + n) = m)
    (h : wpList P ops Q rest (a.put o.dst (.agg m)) w) : wpList P ops Q (o :: rest) a w := by
  subst hp
  refine wpList_step fun K hK => ?_
  rw [if_pos hgd]
  exact wp_load_part ty x ho g off n hx t cs fr d hg hu hd hi hf (hK _ _ h)
end
structure PackD.Ok (d : PackD) : Prop where
  f0 : 0 ≤ d.f
  f1 : d.f < 4
  t0 : 0 ≤ d.t
  t1 : d.t < 4
  s0 : 0 ≤ d.s
  s1 : (d.a = true ∧ d.s ≤ 1099511627776) ∨ (d.a = false ∧ d.s < 1099511627776 ∧ 1 ≤ d.d.k ∧ d.d.k ≤ 6)
def MayP (d : PackD) (e : Ending) : Prop := ∃ b, e = .returned (.bool b) ∧ (b = true ↔ d.Ok)
theorem RdF.kind {ok : Nat → Prop} {w : World} {cs : Array Value} {d : FeedD} (h : RdF ok w cs d) : cs[0]? = some (.int .u8 d.k) := by
  obtain ⟨c, m, rfl, _⟩ := h.out
  simp [FeedD.cs, FeedD.m0, Array.getElem?_append]
theorem RdP.at0 {ok : Nat → Prop} {w : World} {cs : Array Value} {d : PackD} (h : RdP ok w cs d) : cs[0]? = some (.int .i64 d.f) ∧ cs[1]? = some (.int .i64 d.t) ∧ cs[2]? = some (.bool d.a) ∧ cs[3]? = some (.int .i64 d.s) ∧ cs[4]? = some (.int .u8 d.d.k) := by
  obtain ⟨m, rfl, h1⟩ := h.out
  have h2 := h1.kind
  refine ⟨?_, ?_, ?_, ?_, ?_⟩
  · simp [PackD.cs, PackD.m0, Array.getElem?_append]
  · simp [PackD.cs, PackD.m0, Array.getElem?_append]
  · simp [PackD.cs, PackD.m0, Array.getElem?_append]
  · simp [PackD.cs, PackD.m0, Array.getElem?_append]
  · rw [PackD.cs, Array.getElem?_append_right (by simp [PackD.m0])]
    exact h2
set_option maxHeartbeats 1000000 in
theorem feed37 {ok : Nat → Prop} (cs : Array Value) (d : FeedD) (w : World) (h : RdF ok w cs d) :
    Calls Try.prog 37 #[.agg cs] w fun e w' => e = .returned (.bool (decide (1 ≤ d.k ∧ d.k ≤ 6))) ∧ Below w.heap.size w w' := by
  have hb1 : Below w.heap.size w (w.alloc (.cells cs 42)) := (Below.refl _ _).alloc (Nat.le_refl _) _
  have l0 : (w.alloc (.cells cs 42)).cell? ⟨w.heap.size, 0, none⟩ = some (.int .u8 d.k) := by rw [cell_of_row _ _ 0 _ _ _ (heap_alloc_new w _)]; exact h.kind
  have HB := Lib.hid hb1
  clear h hb1
  by_cases t1 : d.k ≥ 1
  · have e1 : decide (d.k ≥ 1) = true := decide_eq_true t1
    by_cases t2 : d.k ≤ 6
    · have e2 : decide (d.k ≤ 6) = true := decide_eq_true t2
      have HE := Lib.hid (decide_eq_true (And.intro t1 t2))
      go_enter Try.func37, Try.ntmps37
      go_wp2
      go_ret
      exact ⟨by first | rfl | (rw [show decide (1 ≤ d.k ∧ d.k ≤ 6) = true from HE.out]; rfl), HB.out⟩
    · have e2 : decide (d.k ≤ 6) = false := decide_eq_false t2
      have HE := Lib.hid (decide_eq_false (fun h : 1 ≤ d.k ∧ d.k ≤ 6 => t2 h.2))
      go_enter Try.func37, Try.ntmps37
      go_wp2
      go_ret
      exact ⟨by first | rfl | (rw [show decide (1 ≤ d.k ∧ d.k ≤ 6) = false from HE.out]; rfl), HB.out⟩
  · have e1 : decide (d.k ≥ 1) = false := decide_eq_false t1
    have HE := Lib.hid (decide_eq_false (fun h : 1 ≤ d.k ∧ d.k ≤ 6 => t1 h.1))
    go_enter Try.func37, Try.ntmps37
    go_wp2
    go_ret
    exact ⟨by first | rfl | (rw [show decide (1 ≤ d.k ∧ d.k ≤ 6) = false from HE.out]; rfl), HB.out⟩
set_option maxHeartbeats 4000000 in
set_option maxRecDepth 100000 in
theorem may11 {ok : Nat → Prop} (cs : Array Value) (d : PackD) (w : World) (h : RdP ok w cs d) :
    Calls Try.prog 11 #[.agg cs] w fun e w' => MayP d e ∧ Below w.heap.size w w' := by
  have hb1 : Below w.heap.size w (w.alloc (.cells cs 44)) := (Below.refl _ _).alloc (Nat.le_refl _) _
  obtain ⟨a0, a1, a2, a3, _⟩ := h.at0
  have x1 : (w.alloc (.cells cs 44)).heap[w.heap.size]? = some (.cells cs 44 (0, 0)) := heap_alloc_new w _
  have l0 : (w.alloc (.cells cs 44)).cell? ⟨w.heap.size, 0, none⟩ = some (.int .i64 d.f) := by rw [cell_of_row _ _ 0 _ _ _ x1]; exact a0
  have l1 : (w.alloc (.cells cs 44)).cell? ⟨w.heap.size, 1, none⟩ = some (.int .i64 d.t) := by rw [cell_of_row _ _ 1 _ _ _ x1]; exact a1
  have l2 : (w.alloc (.cells cs 44)).cell? ⟨w.heap.size, 2, none⟩ = some (.bool d.a) := by rw [cell_of_row _ _ 2 _ _ _ x1]; exact a2
  have l3 : (w.alloc (.cells cs 44)).cell? ⟨w.heap.size, 3, none⟩ = some (.int .i64 d.s) := by rw [cell_of_row _ _ 3 _ _ _ x1]; exact a3
  obtain ⟨m, hrow, h1⟩ := h.out
  have hpart : cs.extract 4 (4 + 53) = m := by rw [hrow, d.partF m h1.size]
  have M := feed37 m d.d _ (h1.keep (Kn.of_below hb1))
  have HX := Lib.hid (And.intro x1 (And.intro hpart (And.intro h.size hb1)))
  clear h h1 hrow hpart x1 a0 a1 a2 a3 hb1
  obtain ⟨f, t, a, s, dd⟩ := d
  dsimp only at *
  by_cases f0 : f < 0
  · have e0 : decide (f < 0) = true := decide_eq_true f0
    go_enter Try.func11, Try.ntmps11
    go_wp2
    go_ret
    exact ⟨⟨_, rfl, by simp, fun h => absurd h.f0 (by simpa using f0)⟩, HX.out.2.2.2⟩
  have e0 : decide (f < 0) = false := decide_eq_false f0
  by_cases f1 : f ≥ 4
  · have e1 : decide (f ≥ 4) = true := decide_eq_true f1
    go_enter Try.func11, Try.ntmps11
    go_wp2
    go_ret
    exact ⟨⟨_, rfl, by simp, fun h => absurd h.f1 (by simpa using f1)⟩, HX.out.2.2.2⟩
  have e1 : decide (f ≥ 4) = false := decide_eq_false f1
  by_cases t0 : t < 0
  · have e2 : decide (t < 0) = true := decide_eq_true t0
    go_enter Try.func11, Try.ntmps11
    go_wp2
    go_ret
    exact ⟨⟨_, rfl, by simp, fun h => absurd h.t0 (by simpa using t0)⟩, HX.out.2.2.2⟩
  have e2 : decide (t < 0) = false := decide_eq_false t0
  by_cases t1 : t ≥ 4
  · have e3 : decide (t ≥ 4) = true := decide_eq_true t1
    go_enter Try.func11, Try.ntmps11
    go_wp2
    go_ret
    exact ⟨⟨_, rfl, by simp, fun h => absurd h.t1 (by simpa using t1)⟩, HX.out.2.2.2⟩
  have e3 : decide (t ≥ 4) = false := decide_eq_false t1
  by_cases s0 : s < 0
  · have e4 : decide (s < 0) = true := decide_eq_true s0
    go_enter Try.func11, Try.ntmps11
    go_wp2
    go_ret
    exact ⟨⟨_, rfl, by simp, fun h => absurd h.s0 (by simpa using s0)⟩, HX.out.2.2.2⟩
  have e4 : decide (s < 0) = false := decide_eq_false s0
  cases a with
  | true =>
    have HE := Lib.hid (And.intro (And.intro f0 f1) (And.intro (And.intro t0 t1) s0))
    go_enter Try.func11, Try.ntmps11
    go_wp2
    go_ret
    refine ⟨⟨_, rfl, ?_⟩, HX.out.2.2.2⟩
    obtain ⟨⟨g0, g1⟩, ⟨g2, g3⟩, g4⟩ := HE.out
    constructor
    · intro h
      exact ⟨by show 0 ≤ f; omega, by show f < 4; omega, by show 0 ≤ t; omega, by show t < 4; omega, by show 0 ≤ s; omega, .inl ⟨rfl, of_decide_eq_true h⟩⟩
    · intro h
      rcases h.s1 with ⟨_, h⟩ | ⟨h, _⟩
      · exact decide_eq_true h
      · cases h
  | false =>
    have HE := Lib.hid (And.intro (And.intro f0 f1) (And.intro (And.intro t0 t1) s0))
    by_cases s1 : s < 1099511627776
    · have e5 : decide (s < 1099511627776) = true := decide_eq_true s1
      have HS := Lib.hid s1
      go_enter Try.func11, Try.ntmps11
      go_wp2_with (((with_reducible refine wpList_load_partg ?hw 42 _ rfl w.heap.size 4 53 rfl 44 cs (0, 0) _ HX.out.1 Try.underlying42 rfl cells42 (by rw [HX.out.2.2.1]; decide) m HX.out.2.1 ?hk)); (case hw => (first | rfl | (simp [Region.wanted, yielded]; done) | kernel_rfl)))
      refine M.mono ?_
      rintro e w3 ⟨rfl, B1⟩
      have HB := Lib.hid B1
      clear B1 M
      go_wp2_with fail
      go_ret
      refine ⟨⟨_, rfl, ?_⟩, HX.out.2.2.2.trans (HB.out.mono HX.out.2.2.2.size)⟩
      obtain ⟨⟨g0, g1⟩, ⟨g2, g3⟩, g4⟩ := HE.out
      constructor
      · intro h
        have h : 1 ≤ dd.k ∧ dd.k ≤ 6 := by simpa using h
        exact ⟨by show 0 ≤ f; omega, by show f < 4; omega, by show 0 ≤ t; omega, by show t < 4; omega, by show 0 ≤ s; omega, .inr ⟨rfl, HS.out, h⟩⟩
      · intro h
        rcases h.s1 with ⟨h, _⟩ | ⟨_, _, h⟩
        · cases h
        · have h : 1 ≤ dd.k ∧ dd.k ≤ 6 := h
          simpa using h
    · have e5 : decide (s < 1099511627776) = false := decide_eq_false s1
      have HS := Lib.hid s1
      go_enter Try.func11, Try.ntmps11
      go_wp2
      go_ret
      refine ⟨⟨_, rfl, by simp, fun h => ?_⟩, HX.out.2.2.2⟩
      rcases h.s1 with ⟨h, _⟩ | ⟨_, h, _⟩
      · cases h
      · exact absurd h (Int.not_lt.2 HS.out)
end Go.Proofs.Ythahadhdhpcndaa
