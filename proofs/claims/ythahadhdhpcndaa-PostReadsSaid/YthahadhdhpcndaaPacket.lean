/- copies.Packet. -/
import Derived.Test.YthahadhdhpcndaaFeed
namespace Go.Proofs.Ythahadhdhpcndaa
open Go Go.RowKit
set_option linter.unusedVariables false
set_option linter.unusedSimpArgs false

section
variable {P : Program}
theorem wpList_load_part' {ops : Array Oper} {rest : List Oper} {o : Oper} {a : Act} {w : World} {Q : Exit → Act → World → Prop} (hgd : o.guard = none) (ty : TypeId) (x : Operand) (ho : o.op = .load ty x)
    (g off n : Nat) (hx : a.eval x = .pointer (some ⟨g, off, none⟩)) (t : TypeId) (cs : Array Value) (fr : Nat × Nat) (d : TypeDesc) (hg : w.heap[g]? = some (.cells cs t fr))
    (hu : P.underlying ty = some d) (hd : (match d with | .struct _ | .array _ _ => true | _ => false) = true) (hi : (P.info? ty).map (·.size) = some n) (hf : off + n ≤ cs.size)
    (m : Array Value) (hp : cs.extract off (off + n) = m)
    (h : wpList P ops Q rest (a.put o.dst (.agg m)) w) : wpList P ops Q (o :: rest) a w := by
  subst hp
  exact wpList_load_part hgd ty x ho g off n hx t cs fr d hg hu hd hi hf h
end
/-- A packet. -/
structure PackD where
  f : Int
  t : Int
  a : Bool
  s : Int
  d : FeedD
def PackD.m0 (d : PackD) : Array Value := #[.int .i64 d.f, .int .i64 d.t, .bool d.a, .int .i64 d.s]
def PackD.cs (d : PackD) (m : Array Value) : Array Value := d.m0 ++ m
structure RdP (ok : Nat → Prop) (w : World) (cs : Array Value) (d : PackD) : Prop where
  out : ∃ m, cs = d.cs m ∧ RdF ok w m d.d
theorem RdP.keep {ok : Nat → Prop} {w w' : World} {cs : Array Value} {d : PackD} (h : RdP ok w cs d) (hk : Kn ok w w') : RdP ok w' cs d := by
  obtain ⟨m, h0, h1⟩ := h.out
  exact ⟨m, h0, h1.keep hk⟩
theorem RdP.mono {ok ok' : Nat → Prop} {w : World} {cs : Array Value} {d : PackD} (h : RdP ok w cs d) (hk : ∀ b, b < w.heap.size → ok b → ok' b) : RdP ok' w cs d := by
  obtain ⟨m, h0, h1⟩ := h.out
  exact ⟨m, h0, h1.mono hk⟩
theorem PackD.size (d : PackD) (m : Array Value) (hm : m.size = 53) : (d.cs m).size = 57 := by simp [PackD.cs, PackD.m0, hm]
theorem RdP.size {ok : Nat → Prop} {w : World} {cs : Array Value} {d : PackD} (h : RdP ok w cs d) : cs.size = 57 := by
  obtain ⟨m, rfl, h1⟩ := h.out
  exact d.size m h1.size
theorem RdP.one {ok : Nat → Prop} {w : World} {cs : Array Value} {d : PackD} (h : RdP ok w cs d) : ∀ v ∈ cs.toList, v.oneCell' = true := by
  obtain ⟨m, rfl, h1⟩ := h.out
  intro v hv
  simp only [PackD.cs, PackD.m0, Array.toList_append, List.mem_append] at hv
  rcases hv with hv | hv
  · simp at hv; rcases hv with rfl | rfl | rfl | rfl <;> rfl
  · exact h1.one v hv
theorem PackD.partF (d : PackD) (m : Array Value) (hm : m.size = 53) : (d.cs m).extract 4 (4 + 53) = m := by
  apply Array.ext'
  simp [PackD.cs, PackD.m0, hm, List.take_append, List.drop_append, List.take_of_length_le, List.drop_of_length_le]
theorem PackD.overF (d : PackD) (m m' : Array Value) (hm : m.size = 53) (hm' : m'.size = 53) : over (d.cs m) 4 m' = d.cs m' := by
  apply Array.ext'
  simp [over, PackD.cs, PackD.m0, hm, hm', List.take_append, List.drop_append, List.take_of_length_le, List.drop_of_length_le]
set_option maxHeartbeats 4000000 in
set_option maxRecDepth 100000 in
theorem pack40 {ok : Nat → Prop} (cs : Array Value) (d : PackD) (w : World) (h : RdP ok w cs d) (hs : SzF d.d) :
    Calls Try.prog 40 #[.agg cs] w fun e w' => ∃ cs', e = .returned (.agg cs') ∧ RdP (w.heap.size ≤ ·) w' cs' d ∧ Below w.heap.size w w' := by
  obtain ⟨m, hrow, h1⟩ := h.out
  have hm := h1.size
  have hb1 : Below w.heap.size w (w.alloc (.cells cs 44)) := (Below.refl _ _).alloc (Nat.le_refl _) _
  have hb2 : Below w.heap.size w ((w.alloc (.cells cs 44)).alloc (.cells #[.int .i64 0, .int .i64 0, .bool false, .int .i64 0, .int .u8 0, .int .i64 0, .int .i64 0, .int .i64 0, .int .i64 0, .int .i64 0, .int .i64 0, .int .i64 0, .bool false, .slice none 0 0, .slice none 0 0, .slice none 0 0, .slice none 0 0, .int .i64 0, .int .i64 0, .slice none 0 0, .int .i64 0, .int .i64 0, .int .u8 0, .int .i64 0, .int .i64 0, .int .i64 0, .int .i64 0, .int .i64 0, .bool false, .slice none 0 0, .slice none 0 0, .slice none 0 0, .slice none 0 0, .int .i64 0, .int .i64 0, .slice none 0 0, .int .i64 0, .int .i64 0, .int .i64 0, .int .i64 0, .int .i64 0, .int .i64 0, .int .i64 0, .int .i64 0, .int .i64 0, .slice none 0 0, .int .i64 0, .int .i64 0, .int .i64 0, .int .i64 0, .int .i64 0, .int .i64 0, .int .i64 0, .int .i64 0, .int .i64 0, .int .i64 0, .int .i64 0] 44)) := hb1.alloc (by simp) _
  have x1 : ((w.alloc (.cells cs 44)).alloc (.cells #[.int .i64 0, .int .i64 0, .bool false, .int .i64 0, .int .u8 0, .int .i64 0, .int .i64 0, .int .i64 0, .int .i64 0, .int .i64 0, .int .i64 0, .int .i64 0, .bool false, .slice none 0 0, .slice none 0 0, .slice none 0 0, .slice none 0 0, .int .i64 0, .int .i64 0, .slice none 0 0, .int .i64 0, .int .i64 0, .int .u8 0, .int .i64 0, .int .i64 0, .int .i64 0, .int .i64 0, .int .i64 0, .bool false, .slice none 0 0, .slice none 0 0, .slice none 0 0, .slice none 0 0, .int .i64 0, .int .i64 0, .slice none 0 0, .int .i64 0, .int .i64 0, .int .i64 0, .int .i64 0, .int .i64 0, .int .i64 0, .int .i64 0, .int .i64 0, .int .i64 0, .slice none 0 0, .int .i64 0, .int .i64 0, .int .i64 0, .int .i64 0, .int .i64 0, .int .i64 0, .int .i64 0, .int .i64 0, .int .i64 0, .int .i64 0, .int .i64 0] 44)).heap[w.heap.size]? = some (.cells cs 44 (0, 0)) := heap_alloc2_old w _ _
  have x2 : ((w.alloc (.cells cs 44)).alloc (.cells #[.int .i64 0, .int .i64 0, .bool false, .int .i64 0, .int .u8 0, .int .i64 0, .int .i64 0, .int .i64 0, .int .i64 0, .int .i64 0, .int .i64 0, .int .i64 0, .bool false, .slice none 0 0, .slice none 0 0, .slice none 0 0, .slice none 0 0, .int .i64 0, .int .i64 0, .slice none 0 0, .int .i64 0, .int .i64 0, .int .u8 0, .int .i64 0, .int .i64 0, .int .i64 0, .int .i64 0, .int .i64 0, .bool false, .slice none 0 0, .slice none 0 0, .slice none 0 0, .slice none 0 0, .int .i64 0, .int .i64 0, .slice none 0 0, .int .i64 0, .int .i64 0, .int .i64 0, .int .i64 0, .int .i64 0, .int .i64 0, .int .i64 0, .int .i64 0, .int .i64 0, .slice none 0 0, .int .i64 0, .int .i64 0, .int .i64 0, .int .i64 0, .int .i64 0, .int .i64 0, .int .i64 0, .int .i64 0, .int .i64 0, .int .i64 0, .int .i64 0] 44)).heap[w.heap.size + 1]? = some (.cells #[.int .i64 0, .int .i64 0, .bool false, .int .i64 0, .int .u8 0, .int .i64 0, .int .i64 0, .int .i64 0, .int .i64 0, .int .i64 0, .int .i64 0, .int .i64 0, .bool false, .slice none 0 0, .slice none 0 0, .slice none 0 0, .slice none 0 0, .int .i64 0, .int .i64 0, .slice none 0 0, .int .i64 0, .int .i64 0, .int .u8 0, .int .i64 0, .int .i64 0, .int .i64 0, .int .i64 0, .int .i64 0, .bool false, .slice none 0 0, .slice none 0 0, .slice none 0 0, .slice none 0 0, .int .i64 0, .int .i64 0, .slice none 0 0, .int .i64 0, .int .i64 0, .int .i64 0, .int .i64 0, .int .i64 0, .int .i64 0, .int .i64 0, .int .i64 0, .int .i64 0, .slice none 0 0, .int .i64 0, .int .i64 0, .int .i64 0, .int .i64 0, .int .i64 0, .int .i64 0, .int .i64 0, .int .i64 0, .int .i64 0, .int .i64 0, .int .i64 0] 44 (0, 0)) := heap_alloc2_new w _ _
  have hsz : ((w.alloc (.cells cs 44)).alloc (.cells #[.int .i64 0, .int .i64 0, .bool false, .int .i64 0, .int .u8 0, .int .i64 0, .int .i64 0, .int .i64 0, .int .i64 0, .int .i64 0, .int .i64 0, .int .i64 0, .bool false, .slice none 0 0, .slice none 0 0, .slice none 0 0, .slice none 0 0, .int .i64 0, .int .i64 0, .slice none 0 0, .int .i64 0, .int .i64 0, .int .u8 0, .int .i64 0, .int .i64 0, .int .i64 0, .int .i64 0, .int .i64 0, .bool false, .slice none 0 0, .slice none 0 0, .slice none 0 0, .slice none 0 0, .int .i64 0, .int .i64 0, .slice none 0 0, .int .i64 0, .int .i64 0, .int .i64 0, .int .i64 0, .int .i64 0, .int .i64 0, .int .i64 0, .int .i64 0, .int .i64 0, .slice none 0 0, .int .i64 0, .int .i64 0, .int .i64 0, .int .i64 0, .int .i64 0, .int .i64 0, .int .i64 0, .int .i64 0, .int .i64 0, .int .i64 0, .int .i64 0] 44)).heap.size = w.heap.size + 2 := by simp
  have M := feed59 m d.d _ ((h1.mono (ok' := fun b => b < w.heap.size) fun b hb _ => hb).keep (Kn.of_below hb2)) hs
  have HX := Lib.hid (And.intro hb2 (And.intro x1 (And.intro x2 hsz)))
  have hs57 := h.size
  have hpart : cs.extract 4 (4 + 53) = m := by rw [hrow, d.partF m hm]
  have HP := Lib.hid (And.intro hpart hrow)
  clear hb1 hb2 x1 x2 hsz h1 h hs hrow hpart
  have HS57 := Lib.hid hs57
  clear hs57
  go_enter Try.func40, Try.ntmps40
  go_wp2_with (with_reducible refine wpList_load_part' rfl 42 _ rfl w.heap.size 4 53 rfl 44 cs (0, 0) _ HX.out.2.1 Try.underlying42 rfl cells42 (by rw [HS57.out]; decide) m HP.out.1 ?_)
  refine M.mono ?_
  rintro e w3 ⟨m', rfl, R1, B1⟩
  have hm' := R1.size
  have HM' := Lib.hid hm'
  have HM1 := Lib.hid R1.one
  have Y1 := Lib.hid ((B1.block _ (lt_of_some HX.out.2.1)).trans HX.out.2.1)
  have Y2 := Lib.hid (setRow_same (vs := over cs 4 m') Y1.out)
  have hY := Y2.out
  have hN : Kn (fun b => b ≠ w.heap.size) w3 (w3.setRow w.heap.size (over cs 4 m')) := Kn.setRow _ _ _ (by simp)
  have hBB : Below w.heap.size w (w3.setRow w.heap.size (over cs 4 m')) := below_setRow (HX.out.1.trans (B1.mono HX.out.1.size)) (Nat.le_refl _)
  have hZ0 := (B1.block _ (lt_of_some HX.out.2.2.1)).trans HX.out.2.2.1
  have hZ := (hN.2 _ (lt_of_some hZ0) (show w.heap.size + 1 ≠ w.heap.size by omega)).trans hZ0
  have hcs : over cs 4 m' = d.cs m' := by rw [HP.out.2, d.overF m m' hm hm']
  have hR := RdP.mk (d := d) (cs := d.cs m') (ok := fun b => ((w.alloc (.cells cs 44)).alloc (.cells #[.int .i64 0, .int .i64 0, .bool false, .int .i64 0, .int .u8 0, .int .i64 0, .int .i64 0, .int .i64 0, .int .i64 0, .int .i64 0, .int .i64 0, .int .i64 0, .bool false, .slice none 0 0, .slice none 0 0, .slice none 0 0, .slice none 0 0, .int .i64 0, .int .i64 0, .slice none 0 0, .int .i64 0, .int .i64 0, .int .u8 0, .int .i64 0, .int .i64 0, .int .i64 0, .int .i64 0, .int .i64 0, .bool false, .slice none 0 0, .slice none 0 0, .slice none 0 0, .slice none 0 0, .int .i64 0, .int .i64 0, .slice none 0 0, .int .i64 0, .int .i64 0, .int .i64 0, .int .i64 0, .int .i64 0, .int .i64 0, .int .i64 0, .int .i64 0, .int .i64 0, .slice none 0 0, .int .i64 0, .int .i64 0, .int .i64 0, .int .i64 0, .int .i64 0, .int .i64 0, .int .i64 0, .int .i64 0, .int .i64 0, .int .i64 0, .int .i64 0] 44)).heap.size ≤ b) (w := w3) ⟨_, rfl, R1⟩
  have hsz2 := HX.out.2.2.2
  have hR5 := (hR.mono (ok' := fun b => b ≠ w.heap.size ∧ w.heap.size + 2 ≤ b) (fun b _ hb => by have hb := Nat.le_trans (Nat.le_of_eq hsz2.symm) hb; omega)).keep (hN.mono' fun b hb => hb.1)
  clear R1 B1 M hm'
  have HRs := Lib.hid hR.size
  have HO := Lib.hid hR.one
  have hY5 : (w3.setRow w.heap.size (over cs 4 m')).heap[w.heap.size]? = some (.cells (d.cs m') 44 (0, 0)) := by rw [← hcs]; exact hY
  have H5 := Lib.hid (And.intro hY5 (And.intro hZ (And.intro hBB hR5)))
  clear hcs hY hY5 hN hBB hZ hZ0 hR hR5 Y2
  go_wp2_with (first | (with_reducible refine wpList_store_part rfl 42 _ _ rfl rfl _ 4 53 rfl 44 _ _ rfl Y1.out cells42 HM'.out (by rw [HS57.out]; decide) HM1.out ?_) | (with_reducible refine wpList_load_row rfl 44 _ rfl _ rfl 44 _ _ _ H5.out.1 Try.underlying44 rfl (by rw [cells44, HRs.out]) ?_) | (with_reducible refine wpList_store_part rfl 44 _ _ rfl rfl _ 0 57 rfl 44 _ _ rfl H5.out.2.1 cells44 HRs.out (by simp) HO.out ?_))
  have hfin : ((w3.setRow w.heap.size (over cs 4 m')).setRow (w.heap.size + 1) (over #[.int .i64 0, .int .i64 0, .bool false, .int .i64 0, .int .u8 0, .int .i64 0, .int .i64 0, .int .i64 0, .int .i64 0, .int .i64 0, .int .i64 0, .int .i64 0, .bool false, .slice none 0 0, .slice none 0 0, .slice none 0 0, .slice none 0 0, .int .i64 0, .int .i64 0, .slice none 0 0, .int .i64 0, .int .i64 0, .int .u8 0, .int .i64 0, .int .i64 0, .int .i64 0, .int .i64 0, .int .i64 0, .bool false, .slice none 0 0, .slice none 0 0, .slice none 0 0, .slice none 0 0, .int .i64 0, .int .i64 0, .slice none 0 0, .int .i64 0, .int .i64 0, .int .i64 0, .int .i64 0, .int .i64 0, .int .i64 0, .int .i64 0, .int .i64 0, .int .i64 0, .slice none 0 0, .int .i64 0, .int .i64 0, .int .i64 0, .int .i64 0, .int .i64 0, .int .i64 0, .int .i64 0, .int .i64 0, .int .i64 0, .int .i64 0, .int .i64 0] 0 (d.cs m'))).heap[w.heap.size + 1]? = some (.cells (d.cs m') 44 (0, 0)) := by
    exact (setRow_same H5.out.2.1).trans (congrArg (fun z => some (Obj.cells z 44 (0, 0))) (over_full (by rw [HRs.out]; rfl)))
  refine bodyPost_ret (v := .agg (d.cs m')) (results_cell_row Try.results40 _ _ _ _ _ _ _ rfl hfin Try.underlying44 rfl (by rw [cells44, HRs.out])) rfl ⟨_, rfl, ?_, ?_⟩
  · exact (H5.out.2.2.2.keep (Kn.setRow _ _ _ (by omega))).mono fun b _ hb => by omega
  · exact below_setRow H5.out.2.2.1 (by omega)
end Go.Proofs.Ythahadhdhpcndaa
