/- copies.Mail. -/
import Derived.Test.YthahadhdhpcndaaCommit
import Derived.Test.YthahadhdhpcndaaPhase
namespace Go.Proofs.Ythahadhdhpcndaa
open Go Go.RowKit
set_option linter.unusedVariables false
set_option linter.unusedSimpArgs false

section
variable {P : Program}
theorem step_store_part {ops : Array Oper} {o : Oper} {a : Act} {w : World} {K : Act → World → Prop} {Q : Exit → Act → World → Prop} {E : Prop} (hgd : o.guard = none) (ty : TypeId) (x y : Operand) (ho : o.op = .store ty x y) (hd : o.dst = none)
    (g off n : Nat) (hx : a.eval x = .pointer (some ⟨g, off, none⟩)) (t : TypeId) (cs vs : Array Value) (hy : a.eval y = .agg vs) (hg : w.heap[g]? = some (.cells cs t (0, 0)))
    (hi : (P.info? ty).map (·.size) = some n) (hn : vs.size = n) (hf : off + n ≤ cs.size) (h1 : ∀ v ∈ vs.toList, v.oneCell' = true)
    (h : K (a.put o.dst undef) (w.setRow g (over cs off vs))) : if Region.wanted o (yielded ops a.tmps) = true then Oper.wp P o a w K Q else E := by
  have hw : Region.wanted o (yielded ops a.tmps) = true := by simp [Region.wanted, hgd]
  rw [if_pos hw]
  exact wp_store_part ty x y ho hd g off n hx t cs vs hy hg hi hn hf h1 h
end
/-- A mail. -/
structure MailD where
  k : Int
  c : CommitD
  g : Int
  e : Int
  cu : Int
  ce : Int
  cp : Int
  fg : Int
  fe : Int
  ns : List NodeD
  fp : Int
  ng : Int
  ne : Int
  nb : Int
  nn : Int
  nt : Int
def MailD.m1 (d : MailD) : Array Value := #[.int .i64 d.g, .int .i64 d.e, .int .i64 d.cu, .int .i64 d.ce, .int .i64 d.cp, .int .i64 d.fg, .int .i64 d.fe]
def MailD.m2 (d : MailD) : Array Value := #[.int .i64 d.fp, .int .i64 d.ng, .int .i64 d.ne, .int .i64 d.nb, .int .i64 d.nn, .int .i64 d.nt]
def MailD.cs (d : MailD) (c : Array Value) (vt : Value) : Array Value := #[.int .u8 d.k] ++ c ++ d.m1 ++ #[vt] ++ d.m2
structure RdM (ok : Nat → Prop) (w : World) (cs : Array Value) (d : MailD) : Prop where
  out : ∃ c vt, cs = d.cs c vt ∧ RdC ok w c d.c ∧ RdN ok w vt d.ns
structure SzM (d : MailD) : Prop where
  c : SzC d.c
  ns : SzN d.ns
theorem RdM.keep {ok : Nat → Prop} {w w' : World} {cs : Array Value} {d : MailD} (h : RdM ok w cs d) (hk : Kn ok w w') : RdM ok w' cs d := by
  obtain ⟨c, vt, h0, h1, h2⟩ := h.out
  exact ⟨c, vt, h0, h1.keep hk, h2.keep hk⟩
theorem RdM.mono {ok ok' : Nat → Prop} {w : World} {cs : Array Value} {d : MailD} (h : RdM ok w cs d) (hk : ∀ b, b < w.heap.size → ok b → ok' b) : RdM ok' w cs d := by
  obtain ⟨c, vt, h0, h1, h2⟩ := h.out
  exact ⟨c, vt, h0, h1.mono hk, h2.mono hk⟩
theorem MailD.size (d : MailD) (c : Array Value) (vt : Value) (hc : c.size = 15) : (d.cs c vt).size = 30 := by simp [MailD.cs, MailD.m1, MailD.m2, hc]
theorem RdM.size {ok : Nat → Prop} {w : World} {cs : Array Value} {d : MailD} (h : RdM ok w cs d) : cs.size = 30 := by
  obtain ⟨c, vt, rfl, h1, h2⟩ := h.out
  exact d.size c vt h1.size
theorem RdM.one {ok : Nat → Prop} {w : World} {cs : Array Value} {d : MailD} (h : RdM ok w cs d) : ∀ v ∈ cs.toList, v.oneCell' = true := by
  obtain ⟨c, vt, rfl, h1, h2⟩ := h.out
  obtain ⟨_, _, _, rfl⟩ := h2.slice
  intro v hv
  simp only [MailD.cs, MailD.m1, MailD.m2, Array.toList_append, List.mem_append] at hv
  rcases hv with (((hv | hv) | hv) | hv) | hv
  · simp at hv; subst hv; rfl
  · exact h1.one v hv
  · simp at hv; rcases hv with rfl | rfl | rfl | rfl | rfl | rfl | rfl <;> rfl
  · simp at hv; subst hv; rfl
  · simp at hv; rcases hv with rfl | rfl | rfl | rfl | rfl | rfl <;> rfl
theorem MailD.partC (d : MailD) (c : Array Value) (vt : Value) (hc : c.size = 15) : (d.cs c vt).extract 1 (1 + 15) = c := by
  apply Array.ext'
  simp [MailD.cs, MailD.m1, MailD.m2, hc]
  exact List.take_of_length_le (by simp [hc])
theorem MailD.partT (d : MailD) (c : Array Value) (vt : Value) (hc : c.size = 15) : (d.cs c vt)[23]? = some vt := by
  simp [MailD.cs, MailD.m1, MailD.m2, hc, Array.getElem?_append]
theorem MailD.overC (d : MailD) (c c' : Array Value) (vt : Value) (hc : c.size = 15) (hc' : c'.size = 15) : over (d.cs c vt) 1 c' = d.cs c' vt := by
  apply Array.ext'
  simp [over, MailD.cs, MailD.m1, MailD.m2, hc, hc']
theorem MailD.overT (d : MailD) (c : Array Value) (vt vt' : Value) (hc : c.size = 15) : over (d.cs c vt) 23 #[vt'] = d.cs c vt' := by
  apply Array.ext'
  simp [over, MailD.cs, MailD.m1, MailD.m2, hc, List.take_append, List.drop_append, List.take_of_length_le, List.drop_of_length_le]
set_option maxHeartbeats 4000000 in
set_option maxRecDepth 100000 in
theorem mail48 {ok : Nat → Prop} (cs : Array Value) (d : MailD) (w : World) (h : RdM ok w cs d) (hs : SzM d) :
    Calls Try.prog 48 #[.agg cs] w fun e w' => ∃ cs', e = .returned (.agg cs') ∧ RdM (w.heap.size ≤ ·) w' cs' d ∧ Below w.heap.size w w' := by
  obtain ⟨c, vt, hrow, h1, h2⟩ := h.out
  obtain ⟨A1, n1, c1, rfl⟩ := h2.slice
  have hc := h1.size
  have hb1 : Below w.heap.size w (w.alloc (.cells cs 40)) := (Below.refl _ _).alloc (Nat.le_refl _) _
  have hb2 : Below w.heap.size w ((w.alloc (.cells cs 40)).alloc (.cells #[.int .u8 0, .int .i64 0, .int .i64 0, .int .i64 0, .int .i64 0, .int .i64 0, .bool false, .slice none 0 0, .slice none 0 0, .slice none 0 0, .slice none 0 0, .int .i64 0, .int .i64 0, .slice none 0 0, .int .i64 0, .int .i64 0, .int .i64 0, .int .i64 0, .int .i64 0, .int .i64 0, .int .i64 0, .int .i64 0, .int .i64 0, .slice none 0 0, .int .i64 0, .int .i64 0, .int .i64 0, .int .i64 0, .int .i64 0, .int .i64 0] 40)) := hb1.alloc (by simp) _
  have x1 : ((w.alloc (.cells cs 40)).alloc (.cells #[.int .u8 0, .int .i64 0, .int .i64 0, .int .i64 0, .int .i64 0, .int .i64 0, .bool false, .slice none 0 0, .slice none 0 0, .slice none 0 0, .slice none 0 0, .int .i64 0, .int .i64 0, .slice none 0 0, .int .i64 0, .int .i64 0, .int .i64 0, .int .i64 0, .int .i64 0, .int .i64 0, .int .i64 0, .int .i64 0, .int .i64 0, .slice none 0 0, .int .i64 0, .int .i64 0, .int .i64 0, .int .i64 0, .int .i64 0, .int .i64 0] 40)).heap[w.heap.size]? = some (.cells cs 40 (0, 0)) := heap_alloc2_old w _ _
  have x2 : ((w.alloc (.cells cs 40)).alloc (.cells #[.int .u8 0, .int .i64 0, .int .i64 0, .int .i64 0, .int .i64 0, .int .i64 0, .bool false, .slice none 0 0, .slice none 0 0, .slice none 0 0, .slice none 0 0, .int .i64 0, .int .i64 0, .slice none 0 0, .int .i64 0, .int .i64 0, .int .i64 0, .int .i64 0, .int .i64 0, .int .i64 0, .int .i64 0, .int .i64 0, .int .i64 0, .slice none 0 0, .int .i64 0, .int .i64 0, .int .i64 0, .int .i64 0, .int .i64 0, .int .i64 0] 40)).heap[w.heap.size + 1]? = some (.cells #[.int .u8 0, .int .i64 0, .int .i64 0, .int .i64 0, .int .i64 0, .int .i64 0, .bool false, .slice none 0 0, .slice none 0 0, .slice none 0 0, .slice none 0 0, .int .i64 0, .int .i64 0, .slice none 0 0, .int .i64 0, .int .i64 0, .int .i64 0, .int .i64 0, .int .i64 0, .int .i64 0, .int .i64 0, .int .i64 0, .int .i64 0, .slice none 0 0, .int .i64 0, .int .i64 0, .int .i64 0, .int .i64 0, .int .i64 0, .int .i64 0] 40 (0, 0)) := heap_alloc2_new w _ _
  have hsz : ((w.alloc (.cells cs 40)).alloc (.cells #[.int .u8 0, .int .i64 0, .int .i64 0, .int .i64 0, .int .i64 0, .int .i64 0, .bool false, .slice none 0 0, .slice none 0 0, .slice none 0 0, .slice none 0 0, .int .i64 0, .int .i64 0, .slice none 0 0, .int .i64 0, .int .i64 0, .int .i64 0, .int .i64 0, .int .i64 0, .int .i64 0, .int .i64 0, .int .i64 0, .int .i64 0, .slice none 0 0, .int .i64 0, .int .i64 0, .int .i64 0, .int .i64 0, .int .i64 0, .int .i64 0] 40)).heap.size = w.heap.size + 2 := by simp
  have HX := Lib.hid (And.intro hb2 (And.intro x1 (And.intro x2 hsz)))
  have HK := Lib.hid (And.intro ((h1.mono (ok' := fun b => b < w.heap.size) fun b hb _ => hb).keep (Kn.of_below hb2)) ((h2.mono (ok' := fun b => b < w.heap.size) fun b hb _ => hb).keep (Kn.of_below hb2)))
  have hcc : ∀ w', Below ((w.alloc (.cells cs 40)).alloc (.cells #[.int .u8 0, .int .i64 0, .int .i64 0, .int .i64 0, .int .i64 0, .int .i64 0, .bool false, .slice none 0 0, .slice none 0 0, .slice none 0 0, .slice none 0 0, .int .i64 0, .int .i64 0, .slice none 0 0, .int .i64 0, .int .i64 0, .int .i64 0, .int .i64 0, .int .i64 0, .int .i64 0, .int .i64 0, .int .i64 0, .int .i64 0, .slice none 0 0, .int .i64 0, .int .i64 0, .int .i64 0, .int .i64 0, .int .i64 0, .int .i64 0] 40)).heap.size ((w.alloc (.cells cs 40)).alloc (.cells #[.int .u8 0, .int .i64 0, .int .i64 0, .int .i64 0, .int .i64 0, .int .i64 0, .bool false, .slice none 0 0, .slice none 0 0, .slice none 0 0, .slice none 0 0, .int .i64 0, .int .i64 0, .slice none 0 0, .int .i64 0, .int .i64 0, .int .i64 0, .int .i64 0, .int .i64 0, .int .i64 0, .int .i64 0, .int .i64 0, .int .i64 0, .slice none 0 0, .int .i64 0, .int .i64 0, .int .i64 0, .int .i64 0, .int .i64 0, .int .i64 0] 40)) w' → (loadVar 31 ⟨w.heap.size, 1, none⟩).run Try.prog w' = .ok (.agg c) w' ∧ w'.cell? ⟨w.heap.size, 23, none⟩ = some (.slice A1 n1 c1) ∧ Below ((w.alloc (.cells cs 40)).alloc (.cells #[.int .u8 0, .int .i64 0, .int .i64 0, .int .i64 0, .int .i64 0, .int .i64 0, .bool false, .slice none 0 0, .slice none 0 0, .slice none 0 0, .slice none 0 0, .int .i64 0, .int .i64 0, .slice none 0 0, .int .i64 0, .int .i64 0, .int .i64 0, .int .i64 0, .int .i64 0, .int .i64 0, .int .i64 0, .int .i64 0, .int .i64 0, .slice none 0 0, .int .i64 0, .int .i64 0, .int .i64 0, .int .i64 0, .int .i64 0, .int .i64 0] 40)).heap.size ((w.alloc (.cells cs 40)).alloc (.cells #[.int .u8 0, .int .i64 0, .int .i64 0, .int .i64 0, .int .i64 0, .int .i64 0, .bool false, .slice none 0 0, .slice none 0 0, .slice none 0 0, .slice none 0 0, .int .i64 0, .int .i64 0, .slice none 0 0, .int .i64 0, .int .i64 0, .int .i64 0, .int .i64 0, .int .i64 0, .int .i64 0, .int .i64 0, .int .i64 0, .int .i64 0, .slice none 0 0, .int .i64 0, .int .i64 0, .int .i64 0, .int .i64 0, .int .i64 0, .int .i64 0] 40)) w' := fun w' hw => by
    have y := (hw.block _ (lt_of_some x1)).trans x1
    refine ⟨?_, ?_, hw⟩
    · have := run_loadVar_part (P := Try.prog) w' w.heap.size 1 15 40 31 cs (0, 0) _ y Try.underlying31 rfl cells31 (by rw [h.size]; decide)
      rw [hrow, d.partC c _ hc] at this
      exact this
    · rw [cell_of_row w' _ 23 _ _ _ y, hrow, d.partT c _ hc]
  obtain ⟨l1, l2, _⟩ := hcc _ (Below.refl _ _)
  have HC := Lib.hid hcc
  have HH := Lib.hid (And.intro h (And.intro hs (And.intro hc hrow)))
  clear hcc hb1 hb2 x1 x2 hsz h1 h2 h hs hrow
  go_enter Try.func48, Try.ntmps48
  go_wp2_with fail
  generalize hwz : (w.alloc (.cells cs 40)).alloc (.cells #[.int .u8 0, .int .i64 0, .int .i64 0, .int .i64 0, .int .i64 0, .int .i64 0, .bool false, .slice none 0 0, .slice none 0 0, .slice none 0 0, .slice none 0 0, .int .i64 0, .int .i64 0, .slice none 0 0, .int .i64 0, .int .i64 0, .int .i64 0, .int .i64 0, .int .i64 0, .int .i64 0, .int .i64 0, .int .i64 0, .int .i64 0, .slice none 0 0, .int .i64 0, .int .i64 0, .int .i64 0, .int .i64 0, .int .i64 0, .int .i64 0] 40) = wz at *
  clear hwz
  refine Go.Proofs.Phase.wp_region_ph (S := (fun w' => (loadVar 31 ⟨w.heap.size, 1, none⟩).run Try.prog w' = .ok (.agg c) w' ∧ w'.cell? ⟨w.heap.size, 23, none⟩ = some (.slice A1 n1 c1) ∧ Below wz.heap.size wz w')) 8 (by kernel_rfl) ?_ (fun hHeld => ?_)
  · ((try dsimp only) <;> (first | exact HC.out _ (by assumption) | exact HC.out _ (below_drewN (Below.refl _ _) _) | exact HC.out _ (Below.refl _ _).drew))
  refine Go.Proofs.Phase.wpPh_take' (i := 0) (by simp only [List.getElem?_toArray, List.getElem?_cons_succ, List.getElem?_cons_zero]; rfl) ?_
  refine ⟨?_, ⟨by kernel_rfl, by kernel_rfl, by kernel_rfl, by kernel_rfl⟩, fun _ _ _ h => h, Or.inl ⟨by rfl, ?_⟩, by assumption, ?_⟩
  rotate_left
  · (intro w hSw; (try dsimp only at hSw); go_simp; with_reducible rfl)
  try simp only [Act.put, List.setIfInBounds_toArray, List.set_cons_zero, List.set_cons_succ]
  refine Go.Proofs.Phase.wpPh_take' (i := 1) (by simp only [List.getElem?_toArray, List.getElem?_cons_succ, List.getElem?_cons_zero]; rfl) ?_
  refine ⟨?_, ⟨by kernel_rfl, by kernel_rfl, by kernel_rfl, by kernel_rfl⟩, fun _ _ _ h => h, Or.inl ⟨by rfl, ?_⟩, by assumption, ?_⟩
  rotate_left
  · (intro w hSw; (try dsimp only at hSw); first | (refine (Go.Proofs.Phase.exec_load _ _ rfl _ rfl _ hSw.1).trans ?_; with_reducible rfl) | (refine (Go.Proofs.Phase.exec_load _ _ rfl _ rfl _ hSw.2.1).trans ?_; with_reducible rfl) | (refine (Go.Proofs.Phase.exec_load _ _ rfl _ rfl _ hSw.2.2.1).trans ?_; with_reducible rfl))
  try simp only [Act.put, List.setIfInBounds_toArray, List.set_cons_zero, List.set_cons_succ]
  refine Go.Proofs.Phase.wpPh_take' (i := 3) (by simp only [List.getElem?_toArray, List.getElem?_cons_succ, List.getElem?_cons_zero]; rfl) ?_
  refine ⟨?_, ⟨by kernel_rfl, by kernel_rfl, by kernel_rfl, by kernel_rfl⟩, fun _ _ _ h => h, Or.inl ⟨by rfl, ?_⟩, by assumption, ?_⟩
  rotate_left
  · (intro w hSw; (try dsimp only at hSw); go_simp; with_reducible rfl)
  try simp only [Act.put, List.setIfInBounds_toArray, List.set_cons_zero, List.set_cons_succ]
  refine Go.Proofs.Phase.wpPh_take' (i := 4) (by simp only [List.getElem?_toArray, List.getElem?_cons_succ, List.getElem?_cons_zero]; rfl) ?_
  refine ⟨?_, ⟨by kernel_rfl, by kernel_rfl, by kernel_rfl, by kernel_rfl⟩, fun _ _ _ h => h, Or.inl ⟨by rfl, ?_⟩, by assumption, ?_⟩
  rotate_left
  · (intro w hSw; (try dsimp only at hSw); go_simp; with_reducible rfl)
  try simp only [Act.put, List.setIfInBounds_toArray, List.set_cons_zero, List.set_cons_succ]
  refine Go.Proofs.Phase.wpPh_take' (i := 5) (by simp only [List.getElem?_toArray, List.getElem?_cons_succ, List.getElem?_cons_zero]; rfl) ?_
  refine ⟨?_, ⟨by kernel_rfl, by kernel_rfl, by kernel_rfl, by kernel_rfl⟩, fun _ _ _ h => h, Or.inl ⟨by rfl, ?_⟩, by assumption, ?_⟩
  rotate_left
  · (intro w hSw; (try dsimp only at hSw); go_simp; with_reducible rfl)
  try simp only [Act.put, List.setIfInBounds_toArray, List.set_cons_zero, List.set_cons_succ]
  refine Go.Proofs.Phase.wpPh_before (i := 2) (by kernel_rfl) (by simp only [List.getElem?_toArray, List.getElem?_cons_succ, List.getElem?_cons_zero]; rfl) (fun K hK => ?_)
  go_simp
  ((first
      | with_reducible refine step_store_part rfl 31 _ _ rfl rfl _ 1 15 rfl 40 _ _ rfl Y1.out cells31 R1.size (by rw [HH.out.1.size]; decide) R1.one ?_
      | with_reducible refine step_store_part rfl 29 _ _ rfl rfl _ 23 1 rfl 40 _ _ rfl Y2.out cells29 rfl (by rw [size_over (by rw [HH.out.1.size, R1.size]; decide), HH.out.1.size]; decide) (by simp [Value.oneCell']) ?_
      | (have tk := R1; obtain ⟨_, _, s2⟩ := (show _ ∧ _ ∧ Below wz.heap.size wz _ by assumption); with_reducible refine (tree64 _ d.ns _ (HK.out.2.keep (Kn.of_below s2)) HH.out.2.1.ns).mono ?_; rintro e w4 ⟨v2, rfl, R2, B2⟩; obtain ⟨A2, n2, c2, rfl⟩ := R2.slice; have K2 := s2.trans (B2.mono s2.size); have Y1 := Lib.hid ((K2.block _ (lt_of_some HX.out.2.1)).trans HX.out.2.1); have Y2 := Lib.hid (setRow_same (vs := over cs 1 c') Y1.out); clear s2)
      | (obtain ⟨_, _, s2⟩ := (show _ ∧ _ ∧ Below wz.heap.size wz _ by assumption); with_reducible refine (commit63 _ d.c _ (HK.out.1.keep (Kn.of_below s2)) HH.out.2.1.c).mono ?_; rintro e w3 ⟨c', rfl, R1, B1⟩; have K1 := s2.trans (B1.mono s2.size); clear s2)))
  go_wp2_with fail
  refine hK.out _ _ ?_ (fun hHeldN => ?_)
  · ((try dsimp only) <;> (first | exact HC.out _ (by assumption) | exact HC.out _ (below_drewN (Below.refl _ _) _) | exact HC.out _ (Below.refl _ _).drew))
  clear hHeld
  have hHeld := hHeldN
  clear hHeldN
  clear hK K
  try simp only [Act.put, List.setIfInBounds_toArray, List.set_cons_zero, List.set_cons_succ]
  refine Go.Proofs.Phase.wpPh_take' (i := 7) (by simp only [List.getElem?_toArray, List.getElem?_cons_succ, List.getElem?_cons_zero]; rfl) ?_
  refine ⟨?_, ⟨by kernel_rfl, by kernel_rfl, by kernel_rfl, by kernel_rfl⟩, fun _ _ _ h => h, Or.inl ⟨by rfl, ?_⟩, by assumption, ?_⟩
  rotate_left
  · (intro w hSw; (try dsimp only at hSw); go_simp; with_reducible rfl)
  try simp only [Act.put, List.setIfInBounds_toArray, List.set_cons_zero, List.set_cons_succ]
  refine Go.Proofs.Phase.wpPh_before (i := 6) (by kernel_rfl) (by simp only [List.getElem?_toArray, List.getElem?_cons_succ, List.getElem?_cons_zero]; rfl) (fun K hK => ?_)
  go_simp
  ((first
      | with_reducible refine step_store_part rfl 31 _ _ rfl rfl _ 1 15 rfl 40 _ _ rfl Y1.out cells31 R1.size (by rw [HH.out.1.size]; decide) R1.one ?_
      | with_reducible refine step_store_part rfl 29 _ _ rfl rfl _ 23 1 rfl 40 _ _ rfl Y2.out cells29 rfl (by rw [size_over (by rw [HH.out.1.size, R1.size]; decide), HH.out.1.size]; decide) (by simp [Value.oneCell']) ?_
      | (have tk := R1; obtain ⟨_, _, s2⟩ := (show _ ∧ _ ∧ Below wz.heap.size wz _ by assumption); with_reducible refine (tree64 _ d.ns _ (HK.out.2.keep (Kn.of_below s2)) HH.out.2.1.ns).mono ?_; rintro e w4 ⟨v2, rfl, R2, B2⟩; obtain ⟨A2, n2, c2, rfl⟩ := R2.slice; have K2 := s2.trans (B2.mono s2.size); have Y1 := Lib.hid ((K2.block _ (lt_of_some HX.out.2.1)).trans HX.out.2.1); have Y2 := Lib.hid (setRow_same (vs := over cs 1 c') Y1.out); clear s2)
      | (obtain ⟨_, _, s2⟩ := (show _ ∧ _ ∧ Below wz.heap.size wz _ by assumption); with_reducible refine (commit63 _ d.c _ (HK.out.1.keep (Kn.of_below s2)) HH.out.2.1.c).mono ?_; rintro e w3 ⟨c', rfl, R1, B1⟩; have K1 := s2.trans (B1.mono s2.size); clear s2)))
  go_wp2_with fail
  refine hK.out _ _ ?_ (fun hHeldN => ?_)
  · ((try dsimp only) <;> (first | exact HC.out _ (by assumption) | exact HC.out _ (below_drewN (Below.refl _ _) _) | exact HC.out _ (Below.refl _ _).drew))
  clear hHeld
  have hHeld := hHeldN
  clear hHeldN
  clear hK K
  try simp only [Act.put, List.setIfInBounds_toArray, List.set_cons_zero, List.set_cons_succ]
  refine Go.Proofs.Phase.wpPh_behind (i := 8) (by kernel_rfl) (by simp only [List.getElem?_toArray, List.getElem?_cons_succ, List.getElem?_cons_zero]; rfl) (by kernel_rfl) (fun K hK => ?_)
  ((first
      | with_reducible refine step_store_part rfl 31 _ _ rfl rfl _ 1 15 rfl 40 _ _ rfl Y1.out cells31 R1.size (by rw [HH.out.1.size]; decide) R1.one ?_
      | with_reducible refine step_store_part rfl 29 _ _ rfl rfl _ 23 1 rfl 40 _ _ rfl Y2.out cells29 rfl (by rw [size_over (by rw [HH.out.1.size, R1.size]; decide), HH.out.1.size]; decide) (by simp [Value.oneCell']) ?_
      | (have tk := R1; obtain ⟨_, _, s2⟩ := (show _ ∧ _ ∧ Below wz.heap.size wz _ by assumption); with_reducible refine (tree64 _ d.ns _ (HK.out.2.keep (Kn.of_below s2)) HH.out.2.1.ns).mono ?_; rintro e w4 ⟨v2, rfl, R2, B2⟩; obtain ⟨A2, n2, c2, rfl⟩ := R2.slice; have K2 := s2.trans (B2.mono s2.size); have Y1 := Lib.hid ((K2.block _ (lt_of_some HX.out.2.1)).trans HX.out.2.1); have Y2 := Lib.hid (setRow_same (vs := over cs 1 c') Y1.out); clear s2)
      | (obtain ⟨_, _, s2⟩ := (show _ ∧ _ ∧ Below wz.heap.size wz _ by assumption); with_reducible refine (commit63 _ d.c _ (HK.out.1.keep (Kn.of_below s2)) HH.out.2.1.c).mono ?_; rintro e w3 ⟨c', rfl, R1, B1⟩; have K1 := s2.trans (B1.mono s2.size); clear s2)))
  refine hK.out _ _ ?_
  clear hK K
  try simp only [Act.put, List.setIfInBounds_toArray, List.set_cons_zero, List.set_cons_succ]
  refine Go.Proofs.Phase.wpPh_behind (i := 9) (by kernel_rfl) (by simp only [List.getElem?_toArray, List.getElem?_cons_succ, List.getElem?_cons_zero]; rfl) (by kernel_rfl) (fun K hK => ?_)
  go_simp
  refine hK.out _ _ ?_
  clear hK K
  try simp only [Act.put, List.setIfInBounds_toArray, List.set_cons_zero, List.set_cons_succ]
  refine Go.Proofs.Phase.wpPh_behind (i := 10) (by kernel_rfl) (by simp only [List.getElem?_toArray, List.getElem?_cons_succ, List.getElem?_cons_zero]; rfl) (by kernel_rfl) (fun K hK => ?_)
  go_simp
  refine hK.out _ _ ?_
  clear hK K
  try simp only [Act.put, List.setIfInBounds_toArray, List.set_cons_zero, List.set_cons_succ]
  refine Go.Proofs.Phase.wpPh_behind (i := 11) (by kernel_rfl) (by simp only [List.getElem?_toArray, List.getElem?_cons_succ, List.getElem?_cons_zero]; rfl) (by kernel_rfl) (fun K hK => ?_)
  ((first
      | with_reducible refine step_store_part rfl 31 _ _ rfl rfl _ 1 15 rfl 40 _ _ rfl Y1.out cells31 R1.size (by rw [HH.out.1.size]; decide) R1.one ?_
      | with_reducible refine step_store_part rfl 29 _ _ rfl rfl _ 23 1 rfl 40 _ _ rfl Y2.out cells29 rfl (by rw [size_over (by rw [HH.out.1.size, R1.size]; decide), HH.out.1.size]; decide) (by simp [Value.oneCell']) ?_
      | (have tk := R1; obtain ⟨_, _, s2⟩ := (show _ ∧ _ ∧ Below wz.heap.size wz _ by assumption); with_reducible refine (tree64 _ d.ns _ (HK.out.2.keep (Kn.of_below s2)) HH.out.2.1.ns).mono ?_; rintro e w4 ⟨v2, rfl, R2, B2⟩; obtain ⟨A2, n2, c2, rfl⟩ := R2.slice; have K2 := s2.trans (B2.mono s2.size); have Y1 := Lib.hid ((K2.block _ (lt_of_some HX.out.2.1)).trans HX.out.2.1); have Y2 := Lib.hid (setRow_same (vs := over cs 1 c') Y1.out); clear s2)
      | (obtain ⟨_, _, s2⟩ := (show _ ∧ _ ∧ Below wz.heap.size wz _ by assumption); with_reducible refine (commit63 _ d.c _ (HK.out.1.keep (Kn.of_below s2)) HH.out.2.1.c).mono ?_; rintro e w3 ⟨c', rfl, R1, B1⟩; have K1 := s2.trans (B1.mono s2.size); clear s2)))
  refine hK.out _ _ ?_
  clear hK K
  try simp only [Act.put, List.setIfInBounds_toArray, List.set_cons_zero, List.set_cons_succ]
  refine Go.Proofs.Phase.wpPh_done (by kernel_rfl) ?_ _
  have R1' := (R1.keep (Kn.of_below B2)).mono (ok' := fun b => wz.heap.size ≤ b) fun b _ hb => hb
  have R2' := R2.mono (ok' := fun b => wz.heap.size ≤ b) fun b _ hb => Nat.le_trans K1.size hb
  have hcs : over (over cs 1 c') 23 #[.slice A2 n2 c2] = d.cs c' (.slice A2 n2 c2) := by rw [HH.out.2.2.2, d.overC c c' _ hc R1.size, d.overT c' _ _ R1.size]
  have hY := (setRow_same (vs := over (over cs 1 c') 23 #[.slice A2 n2 c2]) Y2.out)
  have hN : Kn (fun b => b ≠ w.heap.size) w4 ((w4.setRow w.heap.size (over cs 1 c')).setRow w.heap.size (over (over cs 1 c') 23 #[.slice A2 n2 c2])) :=
    (Kn.setRow _ _ _ (by simp)).trans (Kn.setRow _ _ _ (by simp))
  have hBB : Below w.heap.size w ((w4.setRow w.heap.size (over cs 1 c')).setRow w.heap.size (over (over cs 1 c') 23 #[.slice A2 n2 c2])) :=
    below_setRow (below_setRow (HX.out.1.trans (K2.mono HX.out.1.size)) (Nat.le_refl _)) (Nat.le_refl _)
  have hZ0 := (K2.block _ (lt_of_some HX.out.2.2.1)).trans HX.out.2.2.1
  have hZ := (hN.2 _ (lt_of_some hZ0) (show w.heap.size + 1 ≠ w.heap.size by omega)).trans hZ0
  have hs4 := K2.size
  generalize (w4.setRow w.heap.size (over cs 1 c')).setRow w.heap.size (over (over cs 1 c') 23 #[.slice A2 n2 c2]) = w5 at *
  rw [hcs] at hY
  have hR := RdM.mk (d := d) (cs := d.cs c' (.slice A2 n2 c2)) (ok := fun b => wz.heap.size ≤ b) (w := w4) ⟨_, _, rfl, R1', R2'⟩
  have hsz2 := HX.out.2.2.2
  generalize hrow' : d.cs c' (.slice A2 n2 c2) = cs' at *
  have hR5 := (hR.mono (ok' := fun b => b ≠ w.heap.size ∧ w.heap.size + 2 ≤ b) (fun b _ hb => by omega)).keep (hN.mono' fun b hb => hb.1)
  have H5 := Lib.hid (And.intro hY (And.intro hZ (And.intro hBB hR5)))
  have hsz30 := hR.size
  have hone := hR.one
  have HO := Lib.hid hone
  clear R1 R2 R1' R2' K1 K2 B1 B2 hcs hY hN hBB hZ hZ0 hR hR5 tk l1 l2 hone
  go_wp2_with (first | (with_reducible refine wpList_load_row rfl 40 _ rfl _ rfl 40 _ _ _ H5.out.1 Try.underlying40 rfl (by rw [cells40, hsz30]) ?_) | (with_reducible refine wpList_store_part rfl 40 _ _ rfl rfl _ 0 30 rfl 40 _ _ rfl H5.out.2.1 cells40 hsz30 (by simp) HO.out ?_))
  have hfin : (w5.setRow (w.heap.size + 1) (over #[.int .u8 0, .int .i64 0, .int .i64 0, .int .i64 0, .int .i64 0, .int .i64 0, .bool false, .slice none 0 0, .slice none 0 0, .slice none 0 0, .slice none 0 0, .int .i64 0, .int .i64 0, .slice none 0 0, .int .i64 0, .int .i64 0, .int .i64 0, .int .i64 0, .int .i64 0, .int .i64 0, .int .i64 0, .int .i64 0, .int .i64 0, .slice none 0 0, .int .i64 0, .int .i64 0, .int .i64 0, .int .i64 0, .int .i64 0, .int .i64 0] 0 cs')).heap[w.heap.size + 1]? = some (.cells cs' 40 (0, 0)) := by
    exact (setRow_same H5.out.2.1).trans (congrArg (fun z => some (Obj.cells z 40 (0, 0))) (over_full (by rw [hsz30]; rfl)))
  refine bodyPost_ret (v := .agg cs') (results_cell_row Try.results48 _ _ _ _ _ _ _ rfl hfin Try.underlying40 rfl (by rw [cells40, hsz30])) rfl ⟨_, rfl, ?_, ?_⟩
  · exact (H5.out.2.2.2.keep (Kn.setRow _ _ _ (by omega))).mono fun b _ hb => by omega
  · exact below_setRow H5.out.2.2.1 (by omega)
end Go.Proofs.Ythahadhdhpcndaa
