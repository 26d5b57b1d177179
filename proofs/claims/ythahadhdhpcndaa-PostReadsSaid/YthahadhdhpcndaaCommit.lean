/- copies.Tree, copies.Commit. -/
import Derived.Test.YthahadhdhpcndaaEach
import Derived.Test.YthahadhdhpcndaaPhase
namespace Go.Proofs.Ythahadhdhpcndaa
open Go Go.RowKit
set_option linter.unusedVariables false
set_option linter.unusedSimpArgs false

theorem Kn.mono' {ok ok' : Nat → Prop} {w w' : World} (h : Kn ok w w') (hk : ∀ b, ok' b → ok b) : Kn ok' w w' := ⟨h.1, fun b hb hp => h.2 b hb (hk b hp)⟩
theorem RdN.slice {ok : Nat → Prop} {w : World} {v : Value} {ns : List NodeD} (h : RdN ok w v ns) : ∃ A n c, v = .slice A n c := by obtain ⟨A, n, c, h, _⟩ := h; exact ⟨A, n, c, h⟩
theorem RdN.mono {ok ok' : Nat → Prop} {w : World} {v : Value} {ns : List NodeD} (h : RdN ok w v ns) (hk : ∀ b, b < w.heap.size → ok b → ok' b) : RdN ok' w v ns := by
  obtain ⟨A, n, c, rfl, h1, h2, h3⟩ := h
  refine ⟨A, n, c, rfl, h1, h2, fun hp => ?_⟩
  obtain ⟨b, o, rfl, p1, p2, p3⟩ := h3 hp
  refine ⟨b, o, rfl, hk b p2 p1, p2, fun i d hd => ?_⟩
  obtain ⟨q1, q2, q3, vu, q4, q5⟩ := p3 i d hd
  exact ⟨q1, q2, q3, vu, q4, q5.mono hk⟩
def SzN (ns : List NodeD) : Prop := ns.length ≤ 1000000 ∧ ∀ d ∈ ns, d.u.length ≤ 3000000
set_option maxHeartbeats 1000000 in
theorem tree64 {ok : Nat → Prop} (v : Value) (ns : List NodeD) (w : World) (h : RdN ok w v ns) (hs : SzN ns) :
    Calls Try.prog 64 #[.agg #[v]] w fun e w' => ∃ v', e = .returned (.agg #[v']) ∧ RdN (w.heap.size ≤ ·) w' v' ns ∧ Below w.heap.size w w' := by
  obtain ⟨A, n, c, rfl⟩ := h.slice
  have hb1 : Below w.heap.size w (w.alloc (.cells #[.slice A n c] 29)) := (Below.refl _ _).alloc (Nat.le_refl _) _
  have hb2 : Below w.heap.size w ((w.alloc (.cells #[.slice A n c] 29)).alloc (.cells #[.slice none 0 0] 29)) := hb1.alloc (by simp) _
  have M := each83 (.slice A n c) ns _ (h.keep (Kn.of_below hb2)) hs.1 hs.2
  have x2 : ((w.alloc (.cells #[.slice A n c] 29)).alloc (.cells #[.slice none 0 0] 29)).heap[w.heap.size + 1]? = some (.cells #[.slice none 0 0] 29 (0, 0)) := heap_alloc2_new w _ _
  have HB2 := Lib.hid hb2
  have HX := Lib.hid x2
  clear h hb1 hb2 x2 hs
  go_enter Try.func64, Try.ntmps64
  go_wp2_with fail
  refine M.mono ?_
  rintro e w2 ⟨v', rfl, R', B'⟩
  obtain ⟨A', n', c', rfl⟩ := R'.slice
  have y2 := (B'.block _ (lt_of_some HX.out)).trans HX.out
  have f2 : w2.frozen? ⟨w.heap.size + 1, 0, none⟩ = false := frozen_of_row w2 _ 0 _ _ y2
  have z2 := heap_setCell_same w2 (w.heap.size + 1) 0 _ _ (.slice A' n' c') y2
  have q2 : (w2.setCell ⟨w.heap.size + 1, 0, none⟩ (.slice A' n' c')).cell? ⟨w.heap.size + 1, 0, none⟩ = some (.slice A' n' c') := by rw [cell_of_row _ _ 0 _ _ _ z2]; rfl
  have q1 : w2.cell? ⟨w.heap.size + 1, 0, none⟩ = some (.slice none 0 0) := by rw [cell_of_row _ _ 0 _ _ _ y2]; rfl
  have HR := Lib.hid R'
  have HB' := Lib.hid (HB2.out.trans (B'.mono HB2.out.size))
  have HS2 := HB2.out.size
  have HZ := Lib.hid z2
  clear M R' B' y2 z2
  go_wp2_with fail
  refine bodyPost_ret (v := .agg #[.slice A' n' c']) (results_cell_row Try.results64 _ _ _ _ _ _ _ rfl HZ.out Try.underlying29 rfl (by kernel_rfl)) rfl ⟨_, rfl, ?_, HB'.out.setCell (by show _ ≤ w.heap.size + 1; omega) _⟩
  have h5 : RdN (w.heap.size + 2 ≤ ·) w2 (.slice A' n' c') ns := HR.out.mono fun b _ hb => by simpa using hb
  exact (h5.keep (Kn.setCell _ _ _ _ (by omega))).mono fun b _ hb => by omega
/-- A commit. -/
structure CommitD where
  g : Int
  e : Int
  b : Int
  m : Int
  k : Int
  x : Bool
  a : List Value
  r : List Value
  s : List Value
  j : List Value
  o : Int
  n : Int
  ns : List NodeD
  f : Int
  c : Int
def CommitD.cs (d : CommitD) (va vr vs vj vt : Value) : Array Value := #[.int .i64 d.g, .int .i64 d.e, .int .i64 d.b, .int .i64 d.m, .int .i64 d.k, .bool d.x, va, vr, vs, vj, .int .i64 d.o, .int .i64 d.n, vt, .int .i64 d.f, .int .i64 d.c]
structure RdC (ok : Nat → Prop) (w : World) (cs : Array Value) (d : CommitD) : Prop where
  out : ∃ va vr vs vj vt, cs = d.cs va vr vs vj vt ∧ Rw ok w 3 va d.a ∧ Rw ok w 1 vr d.r ∧ Rw ok w 3 vs d.s ∧ Rw ok w 2 vj d.j ∧ RdN ok w vt d.ns
structure SzC (d : CommitD) : Prop where
  a : d.a.length ≤ 3000000
  r : d.r.length ≤ 3000000
  s : d.s.length ≤ 3000000
  j : d.j.length ≤ 3000000
  ns : SzN d.ns
theorem RdC.keep {ok : Nat → Prop} {w w' : World} {cs : Array Value} {d : CommitD} (h : RdC ok w cs d) (hk : Kn ok w w') : RdC ok w' cs d := by
  obtain ⟨va, vr, vs, vj, vt, h0, h1, h2, h3, h4, h5⟩ := h.out
  exact ⟨va, vr, vs, vj, vt, h0, h1.keep hk, h2.keep hk, h3.keep hk, h4.keep hk, h5.keep hk⟩
theorem RdC.mono {ok ok' : Nat → Prop} {w : World} {cs : Array Value} {d : CommitD} (h : RdC ok w cs d) (hk : ∀ b, b < w.heap.size → ok b → ok' b) : RdC ok' w cs d := by
  obtain ⟨va, vr, vs, vj, vt, h0, h1, h2, h3, h4, h5⟩ := h.out
  exact ⟨va, vr, vs, vj, vt, h0, h1.mono hk, h2.mono hk, h3.mono hk, h4.mono hk, h5.mono hk⟩
theorem RdC.size {ok : Nat → Prop} {w : World} {cs : Array Value} {d : CommitD} (h : RdC ok w cs d) : cs.size = 15 := by
  obtain ⟨va, vr, vs, vj, vt, rfl, _⟩ := h.out
  rfl
theorem RdC.one {ok : Nat → Prop} {w : World} {cs : Array Value} {d : CommitD} (h : RdC ok w cs d) : ∀ v ∈ cs.toList, v.oneCell' = true := by
  obtain ⟨va, vr, vs, vj, vt, rfl, h1, h2, h3, h4, h5⟩ := h.out
  obtain ⟨_, _, _, rfl⟩ := h1.slice
  obtain ⟨_, _, _, rfl⟩ := h2.slice
  obtain ⟨_, _, _, rfl⟩ := h3.slice
  obtain ⟨_, _, _, rfl⟩ := h4.slice
  obtain ⟨_, _, _, rfl⟩ := h5.slice
  simp [CommitD.cs, Value.oneCell']
set_option maxHeartbeats 4000000 in
set_option maxRecDepth 100000 in
theorem commit63 {ok : Nat → Prop} (cs : Array Value) (d : CommitD) (w : World) (h : RdC ok w cs d) (hs : SzC d) :
    Calls Try.prog 63 #[.agg cs] w fun e w' => ∃ cs', e = .returned (.agg cs') ∧ RdC (w.heap.size ≤ ·) w' cs' d ∧ Below w.heap.size w w' := by
  obtain ⟨va, vr, vs, vj, vt, rfl, h1, h2, h3, h4, h5⟩ := h.out
  clear h
  obtain ⟨xg, xe, xb, xm, xk, xx, xa, xr, xs, xj, xo, xn, xns, xf, xc⟩ := d
  obtain ⟨z1, z2, z3, z4, z5⟩ := hs
  dsimp only [CommitD.cs] at *
  obtain ⟨A1, n1, c1, rfl⟩ := h1.slice
  obtain ⟨A2, n2, c2, rfl⟩ := h2.slice
  obtain ⟨A3, n3, c3, rfl⟩ := h3.slice
  obtain ⟨A4, n4, c4, rfl⟩ := h4.slice
  obtain ⟨A5, n5, c5, rfl⟩ := h5.slice
  have hb1 : Below w.heap.size w (w.alloc (.cells #[.int .i64 xg, .int .i64 xe, .int .i64 xb, .int .i64 xm, .int .i64 xk, .bool xx, .slice A1 n1 c1, .slice A2 n2 c2, .slice A3 n3 c3, .slice A4 n4 c4, .int .i64 xo, .int .i64 xn, .slice A5 n5 c5, .int .i64 xf, .int .i64 xc] 31)) := (Below.refl _ _).alloc (Nat.le_refl _) _
  have hb2 : Below w.heap.size w ((w.alloc (.cells #[.int .i64 xg, .int .i64 xe, .int .i64 xb, .int .i64 xm, .int .i64 xk, .bool xx, .slice A1 n1 c1, .slice A2 n2 c2, .slice A3 n3 c3, .slice A4 n4 c4, .int .i64 xo, .int .i64 xn, .slice A5 n5 c5, .int .i64 xf, .int .i64 xc] 31)).alloc (.cells #[.int .i64 0, .int .i64 0, .int .i64 0, .int .i64 0, .int .i64 0, .bool false, .slice none 0 0, .slice none 0 0, .slice none 0 0, .slice none 0 0, .int .i64 0, .int .i64 0, .slice none 0 0, .int .i64 0, .int .i64 0] 31)) := hb1.alloc (by simp) _
  have x1 : ((w.alloc (.cells #[.int .i64 xg, .int .i64 xe, .int .i64 xb, .int .i64 xm, .int .i64 xk, .bool xx, .slice A1 n1 c1, .slice A2 n2 c2, .slice A3 n3 c3, .slice A4 n4 c4, .int .i64 xo, .int .i64 xn, .slice A5 n5 c5, .int .i64 xf, .int .i64 xc] 31)).alloc (.cells #[.int .i64 0, .int .i64 0, .int .i64 0, .int .i64 0, .int .i64 0, .bool false, .slice none 0 0, .slice none 0 0, .slice none 0 0, .slice none 0 0, .int .i64 0, .int .i64 0, .slice none 0 0, .int .i64 0, .int .i64 0] 31)).heap[w.heap.size]? = some (.cells #[.int .i64 xg, .int .i64 xe, .int .i64 xb, .int .i64 xm, .int .i64 xk, .bool xx, .slice A1 n1 c1, .slice A2 n2 c2, .slice A3 n3 c3, .slice A4 n4 c4, .int .i64 xo, .int .i64 xn, .slice A5 n5 c5, .int .i64 xf, .int .i64 xc] 31 (0, 0)) := heap_alloc2_old w _ _
  have x2 : ((w.alloc (.cells #[.int .i64 xg, .int .i64 xe, .int .i64 xb, .int .i64 xm, .int .i64 xk, .bool xx, .slice A1 n1 c1, .slice A2 n2 c2, .slice A3 n3 c3, .slice A4 n4 c4, .int .i64 xo, .int .i64 xn, .slice A5 n5 c5, .int .i64 xf, .int .i64 xc] 31)).alloc (.cells #[.int .i64 0, .int .i64 0, .int .i64 0, .int .i64 0, .int .i64 0, .bool false, .slice none 0 0, .slice none 0 0, .slice none 0 0, .slice none 0 0, .int .i64 0, .int .i64 0, .slice none 0 0, .int .i64 0, .int .i64 0] 31)).heap[w.heap.size + 1]? = some (.cells #[.int .i64 0, .int .i64 0, .int .i64 0, .int .i64 0, .int .i64 0, .bool false, .slice none 0 0, .slice none 0 0, .slice none 0 0, .slice none 0 0, .int .i64 0, .int .i64 0, .slice none 0 0, .int .i64 0, .int .i64 0] 31 (0, 0)) := heap_alloc2_new w _ _
  have hsz : ((w.alloc (.cells #[.int .i64 xg, .int .i64 xe, .int .i64 xb, .int .i64 xm, .int .i64 xk, .bool xx, .slice A1 n1 c1, .slice A2 n2 c2, .slice A3 n3 c3, .slice A4 n4 c4, .int .i64 xo, .int .i64 xn, .slice A5 n5 c5, .int .i64 xf, .int .i64 xc] 31)).alloc (.cells #[.int .i64 0, .int .i64 0, .int .i64 0, .int .i64 0, .int .i64 0, .bool false, .slice none 0 0, .slice none 0 0, .slice none 0 0, .slice none 0 0, .int .i64 0, .int .i64 0, .slice none 0 0, .int .i64 0, .int .i64 0] 31)).heap.size = w.heap.size + 2 := by simp
  have HX := Lib.hid (And.intro hb2 (And.intro x1 (And.intro x2 hsz)))
  have HK := Lib.hid (And.intro (h1.keep (Kn.of_below hb2)) (And.intro (h2.keep (Kn.of_below hb2)) (And.intro (h3.keep (Kn.of_below hb2)) (And.intro (h4.keep (Kn.of_below hb2)) ((h5.mono (ok' := fun b => b < w.heap.size) fun b hb _ => hb).keep (Kn.of_below hb2))))))
  have hc : ∀ w', Below ((w.alloc (.cells #[.int .i64 xg, .int .i64 xe, .int .i64 xb, .int .i64 xm, .int .i64 xk, .bool xx, .slice A1 n1 c1, .slice A2 n2 c2, .slice A3 n3 c3, .slice A4 n4 c4, .int .i64 xo, .int .i64 xn, .slice A5 n5 c5, .int .i64 xf, .int .i64 xc] 31)).alloc (.cells #[.int .i64 0, .int .i64 0, .int .i64 0, .int .i64 0, .int .i64 0, .bool false, .slice none 0 0, .slice none 0 0, .slice none 0 0, .slice none 0 0, .int .i64 0, .int .i64 0, .slice none 0 0, .int .i64 0, .int .i64 0] 31)).heap.size ((w.alloc (.cells #[.int .i64 xg, .int .i64 xe, .int .i64 xb, .int .i64 xm, .int .i64 xk, .bool xx, .slice A1 n1 c1, .slice A2 n2 c2, .slice A3 n3 c3, .slice A4 n4 c4, .int .i64 xo, .int .i64 xn, .slice A5 n5 c5, .int .i64 xf, .int .i64 xc] 31)).alloc (.cells #[.int .i64 0, .int .i64 0, .int .i64 0, .int .i64 0, .int .i64 0, .bool false, .slice none 0 0, .slice none 0 0, .slice none 0 0, .slice none 0 0, .int .i64 0, .int .i64 0, .slice none 0 0, .int .i64 0, .int .i64 0] 31)) w' → w'.cell? ⟨w.heap.size, 6, none⟩ = some (.slice A1 n1 c1) ∧ w'.cell? ⟨w.heap.size, 7, none⟩ = some (.slice A2 n2 c2) ∧ w'.cell? ⟨w.heap.size, 8, none⟩ = some (.slice A3 n3 c3) ∧ w'.cell? ⟨w.heap.size, 9, none⟩ = some (.slice A4 n4 c4) ∧ Below ((w.alloc (.cells #[.int .i64 xg, .int .i64 xe, .int .i64 xb, .int .i64 xm, .int .i64 xk, .bool xx, .slice A1 n1 c1, .slice A2 n2 c2, .slice A3 n3 c3, .slice A4 n4 c4, .int .i64 xo, .int .i64 xn, .slice A5 n5 c5, .int .i64 xf, .int .i64 xc] 31)).alloc (.cells #[.int .i64 0, .int .i64 0, .int .i64 0, .int .i64 0, .int .i64 0, .bool false, .slice none 0 0, .slice none 0 0, .slice none 0 0, .slice none 0 0, .int .i64 0, .int .i64 0, .slice none 0 0, .int .i64 0, .int .i64 0] 31)).heap.size ((w.alloc (.cells #[.int .i64 xg, .int .i64 xe, .int .i64 xb, .int .i64 xm, .int .i64 xk, .bool xx, .slice A1 n1 c1, .slice A2 n2 c2, .slice A3 n3 c3, .slice A4 n4 c4, .int .i64 xo, .int .i64 xn, .slice A5 n5 c5, .int .i64 xf, .int .i64 xc] 31)).alloc (.cells #[.int .i64 0, .int .i64 0, .int .i64 0, .int .i64 0, .int .i64 0, .bool false, .slice none 0 0, .slice none 0 0, .slice none 0 0, .slice none 0 0, .int .i64 0, .int .i64 0, .slice none 0 0, .int .i64 0, .int .i64 0] 31)) w' := fun w' hw => by
    have y := (hw.block _ (lt_of_some x1)).trans x1
    refine ⟨?_, ?_, ?_, ?_, hw⟩
    · rw [cell_of_row w' _ 6 _ _ _ y]; rfl
    · rw [cell_of_row w' _ 7 _ _ _ y]; rfl
    · rw [cell_of_row w' _ 8 _ _ _ y]; rfl
    · rw [cell_of_row w' _ 9 _ _ _ y]; rfl
  obtain ⟨l6, l7, l8, l9, _⟩ := hc _ (Below.refl _ _)
  have HC := Lib.hid hc
  clear hc hb1 hb2 x1 x2 hsz h1 h2 h3 h4 h5
  go_enter Try.func63, Try.ntmps63
  go_wp2_with fail
  generalize hwz : (w.alloc (.cells #[.int .i64 xg, .int .i64 xe, .int .i64 xb, .int .i64 xm, .int .i64 xk, .bool xx, .slice A1 n1 c1, .slice A2 n2 c2, .slice A3 n3 c3, .slice A4 n4 c4, .int .i64 xo, .int .i64 xn, .slice A5 n5 c5, .int .i64 xf, .int .i64 xc] 31)).alloc (.cells #[.int .i64 0, .int .i64 0, .int .i64 0, .int .i64 0, .int .i64 0, .bool false, .slice none 0 0, .slice none 0 0, .slice none 0 0, .slice none 0 0, .int .i64 0, .int .i64 0, .slice none 0 0, .int .i64 0, .int .i64 0] 31) = wz at *
  clear hwz
  refine Go.Proofs.Phase.wp_region_ph (S := (fun w' => w'.cell? ⟨w.heap.size, 6, none⟩ = some (.slice A1 n1 c1) ∧ w'.cell? ⟨w.heap.size, 7, none⟩ = some (.slice A2 n2 c2) ∧ w'.cell? ⟨w.heap.size, 8, none⟩ = some (.slice A3 n3 c3) ∧ w'.cell? ⟨w.heap.size, 9, none⟩ = some (.slice A4 n4 c4) ∧ Below wz.heap.size wz w')) 13 (by kernel_rfl) ?_ (fun hHeld => ?_)
  · ((try dsimp only) <;> (first | exact HC.out _ (by assumption) | exact HC.out _ (below_drewN (Below.refl _ _) _) | exact HC.out _ (Below.refl _ _).drew))
  refine Go.Proofs.Phase.wpPh_take' (i := 0) (by simp only [List.getElem?_toArray, List.getElem?_cons_succ, List.getElem?_cons_zero]; rfl) ?_
  refine ⟨?_, ⟨by kernel_rfl, by kernel_rfl, by kernel_rfl, by kernel_rfl⟩, fun _ _ _ h => h, Or.inl ⟨by rfl, ?_⟩, by assumption, ?_⟩
  rotate_left
  · (intro w hSw; (try dsimp only at hSw); go_simp; with_reducible rfl)
  try simp only [Act.put, List.setIfInBounds_toArray, List.set_cons_zero, List.set_cons_succ]
  refine Go.Proofs.Phase.wpPh_take' (i := 1) (by simp only [List.getElem?_toArray, List.getElem?_cons_succ, List.getElem?_cons_zero]; rfl) ?_
  refine ⟨?_, ⟨by kernel_rfl, by kernel_rfl, by kernel_rfl, by kernel_rfl⟩, fun _ _ _ h => h, Or.inl ⟨by rfl, ?_⟩, by assumption, ?_⟩
  rotate_left
  · (intro w hSw; (try dsimp only at hSw); go_simp; with_reducible rfl)
  try simp only [Act.put, List.setIfInBounds_toArray, List.set_cons_zero, List.set_cons_succ]
  refine Go.Proofs.Phase.wpPh_take' (i := 3) (by simp only [List.getElem?_toArray, List.getElem?_cons_succ, List.getElem?_cons_zero]; rfl) ?_
  refine ⟨?_, ⟨by kernel_rfl, by kernel_rfl, by kernel_rfl, by kernel_rfl⟩, fun _ _ _ h => h, Or.inl ⟨by rfl, ?_⟩, by assumption, ?_⟩
  rotate_left
  · (intro w hSw; (try dsimp only at hSw); go_simp; with_reducible rfl)
  try simp only [Act.put, List.setIfInBounds_toArray, List.set_cons_zero, List.set_cons_succ]
  refine Go.Proofs.Phase.wpPh_take' (i := 4) (by simp only [List.getElem?_toArray, List.getElem?_cons_succ, List.getElem?_cons_zero]; rfl) ?_
  refine ⟨?_, ⟨by kernel_rfl, by kernel_rfl, by kernel_rfl, by kernel_rfl⟩, fun _ _ _ h => h, Or.inl ⟨by rfl, ?_⟩, by assumption, ?_⟩
  rotate_left
  · (intro w hSw; (try dsimp only at hSw); go_simp; with_reducible rfl)
  try simp only [Act.put, List.setIfInBounds_toArray, List.set_cons_zero, List.set_cons_succ]
  refine Go.Proofs.Phase.wpPh_take' (i := 6) (by simp only [List.getElem?_toArray, List.getElem?_cons_succ, List.getElem?_cons_zero]; rfl) ?_
  refine ⟨?_, ⟨by kernel_rfl, by kernel_rfl, by kernel_rfl, by kernel_rfl⟩, fun _ _ _ h => h, Or.inl ⟨by rfl, ?_⟩, by assumption, ?_⟩
  rotate_left
  · (intro w hSw; (try dsimp only at hSw); go_simp; with_reducible rfl)
  try simp only [Act.put, List.setIfInBounds_toArray, List.set_cons_zero, List.set_cons_succ]
  refine Go.Proofs.Phase.wpPh_take' (i := 7) (by simp only [List.getElem?_toArray, List.getElem?_cons_succ, List.getElem?_cons_zero]; rfl) ?_
  refine ⟨?_, ⟨by kernel_rfl, by kernel_rfl, by kernel_rfl, by kernel_rfl⟩, fun _ _ _ h => h, Or.inl ⟨by rfl, ?_⟩, by assumption, ?_⟩
  rotate_left
  · (intro w hSw; (try dsimp only at hSw); go_simp; with_reducible rfl)
  try simp only [Act.put, List.setIfInBounds_toArray, List.set_cons_zero, List.set_cons_succ]
  refine Go.Proofs.Phase.wpPh_take' (i := 9) (by simp only [List.getElem?_toArray, List.getElem?_cons_succ, List.getElem?_cons_zero]; rfl) ?_
  refine ⟨?_, ⟨by kernel_rfl, by kernel_rfl, by kernel_rfl, by kernel_rfl⟩, fun _ _ _ h => h, Or.inl ⟨by rfl, ?_⟩, by assumption, ?_⟩
  rotate_left
  · (intro w hSw; (try dsimp only at hSw); go_simp; with_reducible rfl)
  try simp only [Act.put, List.setIfInBounds_toArray, List.set_cons_zero, List.set_cons_succ]
  refine Go.Proofs.Phase.wpPh_take' (i := 10) (by simp only [List.getElem?_toArray, List.getElem?_cons_succ, List.getElem?_cons_zero]; rfl) ?_
  refine ⟨?_, ⟨by kernel_rfl, by kernel_rfl, by kernel_rfl, by kernel_rfl⟩, fun _ _ _ h => h, Or.inl ⟨by rfl, ?_⟩, by assumption, ?_⟩
  rotate_left
  · (intro w hSw; (try dsimp only at hSw); go_simp; with_reducible rfl)
  try simp only [Act.put, List.setIfInBounds_toArray, List.set_cons_zero, List.set_cons_succ]
  refine Go.Proofs.Phase.wpPh_before (i := 2) (by kernel_rfl) (by simp only [List.getElem?_toArray, List.getElem?_cons_succ, List.getElem?_cons_zero]; rfl) (fun K hK => ?_)
  go_simp
  ((first | (have tk := R3; obtain ⟨_, _, _, _, s2⟩ := (show _ ∧ _ ∧ _ ∧ _ ∧ Below wz.heap.size wz _ by assumption); with_reducible refine (clone82 _ xj _ (HK.out.2.2.2.1.keep (Kn.of_below s2)) z4).mono ?_; rintro e w6 ⟨v4, rfl, R4, B4⟩; obtain ⟨A9, n9, c9, rfl⟩ := R4.slice; have K4 := s2.trans (B4.mono s2.size); have y1 := (K4.block _ (lt_of_some HX.out.2.1)).trans HX.out.2.1; have f6 : w6.frozen? ⟨w.heap.size, 6, none⟩ = false := frozen_of_row w6 _ 6 _ _ y1; have f7 : w6.frozen? ⟨w.heap.size, 7, none⟩ = false := frozen_of_row w6 _ 7 _ _ y1; have f8 : w6.frozen? ⟨w.heap.size, 8, none⟩ = false := frozen_of_row w6 _ 8 _ _ y1; have f9 : w6.frozen? ⟨w.heap.size, 9, none⟩ = false := frozen_of_row w6 _ 9 _ _ y1; have Y1 := Lib.hid y1; clear y1; clear s2) | (have tk := R2; obtain ⟨_, _, _, _, s2⟩ := (show _ ∧ _ ∧ _ ∧ _ ∧ Below wz.heap.size wz _ by assumption); with_reducible refine (clone81 _ xs _ (HK.out.2.2.1.keep (Kn.of_below s2)) z3).mono ?_; rintro e w5 ⟨v3, rfl, R3, B3⟩; obtain ⟨A8, n8, c8, rfl⟩ := R3.slice; have K3 := s2.trans (B3.mono s2.size); clear s2) | (have tk := R1; obtain ⟨_, _, _, _, s2⟩ := (show _ ∧ _ ∧ _ ∧ _ ∧ Below wz.heap.size wz _ by assumption); with_reducible refine (clone80 _ xr _ (HK.out.2.1.keep (Kn.of_below s2)) z2).mono ?_; rintro e w4 ⟨v2, rfl, R2, B2⟩; obtain ⟨A7, n7, c7, rfl⟩ := R2.slice; have K2 := s2.trans (B2.mono s2.size); clear s2) | (obtain ⟨_, _, _, _, s2⟩ := (show _ ∧ _ ∧ _ ∧ _ ∧ Below wz.heap.size wz _ by assumption); with_reducible refine (clone79 _ xa _ (HK.out.1.keep (Kn.of_below s2)) z1).mono ?_; rintro e w3 ⟨v1, rfl, R1, B1⟩; obtain ⟨A6, n6, c6, rfl⟩ := R1.slice; have K1 := s2.trans (B1.mono s2.size); clear s2)))
  go_wp2_with fail
  refine hK.out _ _ ?_ (fun hHeldN => ?_)
  · ((try dsimp only) <;> (first | exact HC.out _ (by assumption) | exact HC.out _ (below_drewN (Below.refl _ _) _) | exact HC.out _ (Below.refl _ _).drew))
  clear hHeld
  have hHeld := hHeldN
  clear hHeldN
  clear hK K
  try simp only [Act.put, List.setIfInBounds_toArray, List.set_cons_zero, List.set_cons_succ]
  refine Go.Proofs.Phase.wpPh_take' (i := 12) (by simp only [List.getElem?_toArray, List.getElem?_cons_succ, List.getElem?_cons_zero]; rfl) ?_
  refine ⟨?_, ⟨by kernel_rfl, by kernel_rfl, by kernel_rfl, by kernel_rfl⟩, fun _ _ _ h => h, Or.inl ⟨by rfl, ?_⟩, by assumption, ?_⟩
  rotate_left
  · (intro w hSw; (try dsimp only at hSw); go_simp; with_reducible rfl)
  try simp only [Act.put, List.setIfInBounds_toArray, List.set_cons_zero, List.set_cons_succ]
  refine Go.Proofs.Phase.wpPh_before (i := 5) (by kernel_rfl) (by simp only [List.getElem?_toArray, List.getElem?_cons_succ, List.getElem?_cons_zero]; rfl) (fun K hK => ?_)
  go_simp
  ((first | (have tk := R3; obtain ⟨_, _, _, _, s2⟩ := (show _ ∧ _ ∧ _ ∧ _ ∧ Below wz.heap.size wz _ by assumption); with_reducible refine (clone82 _ xj _ (HK.out.2.2.2.1.keep (Kn.of_below s2)) z4).mono ?_; rintro e w6 ⟨v4, rfl, R4, B4⟩; obtain ⟨A9, n9, c9, rfl⟩ := R4.slice; have K4 := s2.trans (B4.mono s2.size); have y1 := (K4.block _ (lt_of_some HX.out.2.1)).trans HX.out.2.1; have f6 : w6.frozen? ⟨w.heap.size, 6, none⟩ = false := frozen_of_row w6 _ 6 _ _ y1; have f7 : w6.frozen? ⟨w.heap.size, 7, none⟩ = false := frozen_of_row w6 _ 7 _ _ y1; have f8 : w6.frozen? ⟨w.heap.size, 8, none⟩ = false := frozen_of_row w6 _ 8 _ _ y1; have f9 : w6.frozen? ⟨w.heap.size, 9, none⟩ = false := frozen_of_row w6 _ 9 _ _ y1; have Y1 := Lib.hid y1; clear y1; clear s2) | (have tk := R2; obtain ⟨_, _, _, _, s2⟩ := (show _ ∧ _ ∧ _ ∧ _ ∧ Below wz.heap.size wz _ by assumption); with_reducible refine (clone81 _ xs _ (HK.out.2.2.1.keep (Kn.of_below s2)) z3).mono ?_; rintro e w5 ⟨v3, rfl, R3, B3⟩; obtain ⟨A8, n8, c8, rfl⟩ := R3.slice; have K3 := s2.trans (B3.mono s2.size); clear s2) | (have tk := R1; obtain ⟨_, _, _, _, s2⟩ := (show _ ∧ _ ∧ _ ∧ _ ∧ Below wz.heap.size wz _ by assumption); with_reducible refine (clone80 _ xr _ (HK.out.2.1.keep (Kn.of_below s2)) z2).mono ?_; rintro e w4 ⟨v2, rfl, R2, B2⟩; obtain ⟨A7, n7, c7, rfl⟩ := R2.slice; have K2 := s2.trans (B2.mono s2.size); clear s2) | (obtain ⟨_, _, _, _, s2⟩ := (show _ ∧ _ ∧ _ ∧ _ ∧ Below wz.heap.size wz _ by assumption); with_reducible refine (clone79 _ xa _ (HK.out.1.keep (Kn.of_below s2)) z1).mono ?_; rintro e w3 ⟨v1, rfl, R1, B1⟩; obtain ⟨A6, n6, c6, rfl⟩ := R1.slice; have K1 := s2.trans (B1.mono s2.size); clear s2)))
  go_wp2_with fail
  refine hK.out _ _ ?_ (fun hHeldN => ?_)
  · ((try dsimp only) <;> (first | exact HC.out _ (by assumption) | exact HC.out _ (below_drewN (Below.refl _ _) _) | exact HC.out _ (Below.refl _ _).drew))
  clear hHeld
  have hHeld := hHeldN
  clear hHeldN
  clear hK K
  try simp only [Act.put, List.setIfInBounds_toArray, List.set_cons_zero, List.set_cons_succ]
  refine Go.Proofs.Phase.wpPh_before (i := 8) (by kernel_rfl) (by simp only [List.getElem?_toArray, List.getElem?_cons_succ, List.getElem?_cons_zero]; rfl) (fun K hK => ?_)
  go_simp
  ((first | (have tk := R3; obtain ⟨_, _, _, _, s2⟩ := (show _ ∧ _ ∧ _ ∧ _ ∧ Below wz.heap.size wz _ by assumption); with_reducible refine (clone82 _ xj _ (HK.out.2.2.2.1.keep (Kn.of_below s2)) z4).mono ?_; rintro e w6 ⟨v4, rfl, R4, B4⟩; obtain ⟨A9, n9, c9, rfl⟩ := R4.slice; have K4 := s2.trans (B4.mono s2.size); have y1 := (K4.block _ (lt_of_some HX.out.2.1)).trans HX.out.2.1; have f6 : w6.frozen? ⟨w.heap.size, 6, none⟩ = false := frozen_of_row w6 _ 6 _ _ y1; have f7 : w6.frozen? ⟨w.heap.size, 7, none⟩ = false := frozen_of_row w6 _ 7 _ _ y1; have f8 : w6.frozen? ⟨w.heap.size, 8, none⟩ = false := frozen_of_row w6 _ 8 _ _ y1; have f9 : w6.frozen? ⟨w.heap.size, 9, none⟩ = false := frozen_of_row w6 _ 9 _ _ y1; have Y1 := Lib.hid y1; clear y1; clear s2) | (have tk := R2; obtain ⟨_, _, _, _, s2⟩ := (show _ ∧ _ ∧ _ ∧ _ ∧ Below wz.heap.size wz _ by assumption); with_reducible refine (clone81 _ xs _ (HK.out.2.2.1.keep (Kn.of_below s2)) z3).mono ?_; rintro e w5 ⟨v3, rfl, R3, B3⟩; obtain ⟨A8, n8, c8, rfl⟩ := R3.slice; have K3 := s2.trans (B3.mono s2.size); clear s2) | (have tk := R1; obtain ⟨_, _, _, _, s2⟩ := (show _ ∧ _ ∧ _ ∧ _ ∧ Below wz.heap.size wz _ by assumption); with_reducible refine (clone80 _ xr _ (HK.out.2.1.keep (Kn.of_below s2)) z2).mono ?_; rintro e w4 ⟨v2, rfl, R2, B2⟩; obtain ⟨A7, n7, c7, rfl⟩ := R2.slice; have K2 := s2.trans (B2.mono s2.size); clear s2) | (obtain ⟨_, _, _, _, s2⟩ := (show _ ∧ _ ∧ _ ∧ _ ∧ Below wz.heap.size wz _ by assumption); with_reducible refine (clone79 _ xa _ (HK.out.1.keep (Kn.of_below s2)) z1).mono ?_; rintro e w3 ⟨v1, rfl, R1, B1⟩; obtain ⟨A6, n6, c6, rfl⟩ := R1.slice; have K1 := s2.trans (B1.mono s2.size); clear s2)))
  go_wp2_with fail
  refine hK.out _ _ ?_ (fun hHeldN => ?_)
  · ((try dsimp only) <;> (first | exact HC.out _ (by assumption) | exact HC.out _ (below_drewN (Below.refl _ _) _) | exact HC.out _ (Below.refl _ _).drew))
  clear hHeld
  have hHeld := hHeldN
  clear hHeldN
  clear hK K
  try simp only [Act.put, List.setIfInBounds_toArray, List.set_cons_zero, List.set_cons_succ]
  refine Go.Proofs.Phase.wpPh_before (i := 11) (by kernel_rfl) (by simp only [List.getElem?_toArray, List.getElem?_cons_succ, List.getElem?_cons_zero]; rfl) (fun K hK => ?_)
  go_simp
  ((first | (have tk := R3; obtain ⟨_, _, _, _, s2⟩ := (show _ ∧ _ ∧ _ ∧ _ ∧ Below wz.heap.size wz _ by assumption); with_reducible refine (clone82 _ xj _ (HK.out.2.2.2.1.keep (Kn.of_below s2)) z4).mono ?_; rintro e w6 ⟨v4, rfl, R4, B4⟩; obtain ⟨A9, n9, c9, rfl⟩ := R4.slice; have K4 := s2.trans (B4.mono s2.size); have y1 := (K4.block _ (lt_of_some HX.out.2.1)).trans HX.out.2.1; have f6 : w6.frozen? ⟨w.heap.size, 6, none⟩ = false := frozen_of_row w6 _ 6 _ _ y1; have f7 : w6.frozen? ⟨w.heap.size, 7, none⟩ = false := frozen_of_row w6 _ 7 _ _ y1; have f8 : w6.frozen? ⟨w.heap.size, 8, none⟩ = false := frozen_of_row w6 _ 8 _ _ y1; have f9 : w6.frozen? ⟨w.heap.size, 9, none⟩ = false := frozen_of_row w6 _ 9 _ _ y1; have Y1 := Lib.hid y1; clear y1; clear s2) | (have tk := R2; obtain ⟨_, _, _, _, s2⟩ := (show _ ∧ _ ∧ _ ∧ _ ∧ Below wz.heap.size wz _ by assumption); with_reducible refine (clone81 _ xs _ (HK.out.2.2.1.keep (Kn.of_below s2)) z3).mono ?_; rintro e w5 ⟨v3, rfl, R3, B3⟩; obtain ⟨A8, n8, c8, rfl⟩ := R3.slice; have K3 := s2.trans (B3.mono s2.size); clear s2) | (have tk := R1; obtain ⟨_, _, _, _, s2⟩ := (show _ ∧ _ ∧ _ ∧ _ ∧ Below wz.heap.size wz _ by assumption); with_reducible refine (clone80 _ xr _ (HK.out.2.1.keep (Kn.of_below s2)) z2).mono ?_; rintro e w4 ⟨v2, rfl, R2, B2⟩; obtain ⟨A7, n7, c7, rfl⟩ := R2.slice; have K2 := s2.trans (B2.mono s2.size); clear s2) | (obtain ⟨_, _, _, _, s2⟩ := (show _ ∧ _ ∧ _ ∧ _ ∧ Below wz.heap.size wz _ by assumption); with_reducible refine (clone79 _ xa _ (HK.out.1.keep (Kn.of_below s2)) z1).mono ?_; rintro e w3 ⟨v1, rfl, R1, B1⟩; obtain ⟨A6, n6, c6, rfl⟩ := R1.slice; have K1 := s2.trans (B1.mono s2.size); clear s2)))
  go_wp2_with fail
  refine hK.out _ _ ?_ (fun hHeldN => ?_)
  · ((try dsimp only) <;> (first | exact HC.out _ (by assumption) | exact HC.out _ (below_drewN (Below.refl _ _) _) | exact HC.out _ (Below.refl _ _).drew))
  clear hHeld
  have hHeld := hHeldN
  clear hHeldN
  clear hK K
  try simp only [Act.put, List.setIfInBounds_toArray, List.set_cons_zero, List.set_cons_succ]
  refine Go.Proofs.Phase.wpPh_behind (i := 13) (by kernel_rfl) (by simp only [List.getElem?_toArray, List.getElem?_cons_succ, List.getElem?_cons_zero]; rfl) (by kernel_rfl) (fun K hK => ?_)
  go_simp
  refine hK.out _ _ ?_
  clear hK K
  try simp only [Act.put, List.setIfInBounds_toArray, List.set_cons_zero, List.set_cons_succ]
  refine Go.Proofs.Phase.wpPh_behind (i := 14) (by kernel_rfl) (by simp only [List.getElem?_toArray, List.getElem?_cons_succ, List.getElem?_cons_zero]; rfl) (by kernel_rfl) (fun K hK => ?_)
  go_simp
  refine hK.out _ _ ?_
  clear hK K
  try simp only [Act.put, List.setIfInBounds_toArray, List.set_cons_zero, List.set_cons_succ]
  refine Go.Proofs.Phase.wpPh_behind (i := 15) (by kernel_rfl) (by simp only [List.getElem?_toArray, List.getElem?_cons_succ, List.getElem?_cons_zero]; rfl) (by kernel_rfl) (fun K hK => ?_)
  go_simp
  refine hK.out _ _ ?_
  clear hK K
  try simp only [Act.put, List.setIfInBounds_toArray, List.set_cons_zero, List.set_cons_succ]
  refine Go.Proofs.Phase.wpPh_behind (i := 16) (by kernel_rfl) (by simp only [List.getElem?_toArray, List.getElem?_cons_succ, List.getElem?_cons_zero]; rfl) (by kernel_rfl) (fun K hK => ?_)
  go_simp
  refine hK.out _ _ ?_
  clear hK K
  try simp only [Act.put, List.setIfInBounds_toArray, List.set_cons_zero, List.set_cons_succ]
  refine Go.Proofs.Phase.wpPh_behind (i := 17) (by kernel_rfl) (by simp only [List.getElem?_toArray, List.getElem?_cons_succ, List.getElem?_cons_zero]; rfl) (by kernel_rfl) (fun K hK => ?_)
  go_simp
  refine hK.out _ _ ?_
  clear hK K
  try simp only [Act.put, List.setIfInBounds_toArray, List.set_cons_zero, List.set_cons_succ]
  refine Go.Proofs.Phase.wpPh_behind (i := 18) (by kernel_rfl) (by simp only [List.getElem?_toArray, List.getElem?_cons_succ, List.getElem?_cons_zero]; rfl) (by kernel_rfl) (fun K hK => ?_)
  go_simp
  refine hK.out _ _ ?_
  clear hK K
  try simp only [Act.put, List.setIfInBounds_toArray, List.set_cons_zero, List.set_cons_succ]
  refine Go.Proofs.Phase.wpPh_behind (i := 19) (by kernel_rfl) (by simp only [List.getElem?_toArray, List.getElem?_cons_succ, List.getElem?_cons_zero]; rfl) (by kernel_rfl) (fun K hK => ?_)
  go_simp
  refine hK.out _ _ ?_
  clear hK K
  try simp only [Act.put, List.setIfInBounds_toArray, List.set_cons_zero, List.set_cons_succ]
  refine Go.Proofs.Phase.wpPh_done (by kernel_rfl) ?_ _
  have R1' := ((((R1.keep (Kn.of_below B2)).keep (Kn.of_below B3)).keep (Kn.of_below B4))).mono (ok' := fun b => wz.heap.size ≤ b) fun b _ hb => hb
  have R2' := ((R2.keep (Kn.of_below B3)).keep (Kn.of_below B4)).mono (ok' := fun b => wz.heap.size ≤ b) fun b _ hb => Nat.le_trans K1.size hb
  have R3' := (R3.keep (Kn.of_below B4)).mono (ok' := fun b => wz.heap.size ≤ b) fun b _ hb => Nat.le_trans K2.size hb
  have R4' := R4.mono (ok' := fun b => wz.heap.size ≤ b) fun b _ hb => Nat.le_trans K3.size hb
  have HR := Lib.hid (And.intro R1' (And.intro R2' (And.intro R3' R4')))
  clear R1' R2' R3' R4'
  have HK4 := Lib.hid K4
  clear R1 R2 R3 R4 K1 K2 K3 K4 B1 B2 B3 B4 f6 f7 f8 f9 l6 l7 l8 l9
  have hY := heap_setCell_same _ w.heap.size 9 _ _ (.slice A9 n9 c9) (heap_setCell_same _ w.heap.size 8 _ _ (.slice A8 n8 c8) (heap_setCell_same _ w.heap.size 7 _ _ (.slice A7 n7 c7) (heap_setCell_same w6 w.heap.size 6 _ _ (.slice A6 n6 c6) Y1.out)))
  have hN : Kn (fun b => b ≠ w.heap.size) w6 ((((w6.setCell ⟨w.heap.size, 6, none⟩ (.slice A6 n6 c6)).setCell ⟨w.heap.size, 7, none⟩ (.slice A7 n7 c7)).setCell ⟨w.heap.size, 8, none⟩ (.slice A8 n8 c8)).setCell ⟨w.heap.size, 9, none⟩ (.slice A9 n9 c9)) :=
    (((Kn.setCell _ _ _ _ (by simp)).trans (Kn.setCell _ _ _ _ (by simp))).trans (Kn.setCell _ _ _ _ (by simp))).trans (Kn.setCell _ _ _ _ (by simp))
  have hBB : Below w.heap.size w ((((w6.setCell ⟨w.heap.size, 6, none⟩ (.slice A6 n6 c6)).setCell ⟨w.heap.size, 7, none⟩ (.slice A7 n7 c7)).setCell ⟨w.heap.size, 8, none⟩ (.slice A8 n8 c8)).setCell ⟨w.heap.size, 9, none⟩ (.slice A9 n9 c9)) :=
    ((((HX.out.1.trans (HK4.out.mono HX.out.1.size)).setCell (Nat.le_refl _) _).setCell (Nat.le_refl _) _).setCell (Nat.le_refl _) _).setCell (Nat.le_refl _) _
  generalize ((((w6.setCell ⟨w.heap.size, 6, none⟩ (.slice A6 n6 c6)).setCell ⟨w.heap.size, 7, none⟩ (.slice A7 n7 c7)).setCell ⟨w.heap.size, 8, none⟩ (.slice A8 n8 c8)).setCell ⟨w.heap.size, 9, none⟩ (.slice A9 n9 c9)) = w7 at *
  have hY : w7.heap[w.heap.size]? = some (.cells #[.int .i64 xg, .int .i64 xe, .int .i64 xb, .int .i64 xm, .int .i64 xk, .bool xx, .slice A6 n6 c6, .slice A7 n7 c7, .slice A8 n8 c8, .slice A9 n9 c9, .int .i64 xo, .int .i64 xn, .slice A5 n5 c5, .int .i64 xf, .int .i64 xc] 31 (0, 0)) := hY
  have hsz2 := HX.out.2.2.2
  have hZ : w7.heap[w.heap.size + 1]? = some (.cells #[.int .i64 0, .int .i64 0, .int .i64 0, .int .i64 0, .int .i64 0, .bool false, .slice none 0 0, .slice none 0 0, .slice none 0 0, .slice none 0 0, .int .i64 0, .int .i64 0, .slice none 0 0, .int .i64 0, .int .i64 0] 31 (0, 0)) := (hN.2 _ (lt_of_some ((HK4.out.block _ (lt_of_some HX.out.2.2.1)).trans HX.out.2.2.1)) (by omega)).trans ((HK4.out.block _ (lt_of_some HX.out.2.2.1)).trans HX.out.2.2.1)
  have l12 : w7.cell? ⟨w.heap.size, 12, none⟩ = some (.slice A5 n5 c5) := by rw [cell_of_row w7 _ 12 _ _ _ hY]; rfl
  have T5 : RdN (fun b => b ≠ w.heap.size) w7 (.slice A5 n5 c5) xns := ((HK.out.2.2.2.2.keep (Kn.of_below HK4.out)).mono fun b _ hb => by omega).keep hN
  have M := tree64 _ _ _ T5 z5
  have H7 := Lib.hid (And.intro hY (And.intro hZ (And.intro hN hBB)))
  clear hY hZ hN hBB T5
  go_wp2_with fail
  refine M.mono ?_
  rintro e w8 ⟨v8, rfl, R8, B8⟩
  obtain ⟨A10, n10, c10, rfl⟩ := R8.slice
  have y1 := (B8.block _ (lt_of_some H7.out.1)).trans H7.out.1
  have y2 := (B8.block _ (lt_of_some H7.out.2.1)).trans H7.out.2.1
  have q3 : w8.cell? ⟨w.heap.size, 12, none⟩ = some (.slice A5 n5 c5) := by rw [cell_of_row w8 _ 12 _ _ _ y1]; rfl
  have f3 : w8.frozen? ⟨w.heap.size, 12, none⟩ = false := frozen_of_row w8 _ 12 _ _ y1
  have u1 : (w8.setCell ⟨w.heap.size, 12, none⟩ (.slice A10 n10 c10)).heap[w.heap.size]? = some (.cells #[.int .i64 xg, .int .i64 xe, .int .i64 xb, .int .i64 xm, .int .i64 xk, .bool xx, .slice A6 n6 c6, .slice A7 n7 c7, .slice A8 n8 c8, .slice A9 n9 c9, .int .i64 xo, .int .i64 xn, .slice A10 n10 c10, .int .i64 xf, .int .i64 xc] 31 (0, 0)) := heap_setCell_same w8 w.heap.size 12 _ _ (.slice A10 n10 c10) y1
  have u2 : (w8.setCell ⟨w.heap.size, 12, none⟩ (.slice A10 n10 c10)).heap[w.heap.size + 1]? = some (.cells #[.int .i64 0, .int .i64 0, .int .i64 0, .int .i64 0, .int .i64 0, .bool false, .slice none 0 0, .slice none 0 0, .slice none 0 0, .slice none 0 0, .int .i64 0, .int .i64 0, .slice none 0 0, .int .i64 0, .int .i64 0] 31 (0, 0)) := (heap_setCell_other w8 ⟨w.heap.size, 12, none⟩ (w.heap.size + 1) (.slice A10 n10 c10) (show w.heap.size + 1 ≠ w.heap.size by omega)).trans y2
  have H8 := Lib.hid (And.intro R8 B8)
  have HZ := Lib.hid (And.intro u1 u2)
  clear M R8 B8 y1 y2 u1 u2 l12
  go_wp2_with (first | (with_reducible refine wpList_load_row rfl 31 _ rfl _ rfl 31 _ _ _ HZ.out.1 Try.underlying31 rfl (by kernel_rfl) ?_) | (with_reducible refine wpList_store_part rfl 31 _ _ rfl rfl _ 0 15 rfl 31 _ _ rfl HZ.out.2 (by kernel_rfl) rfl (by simp) (by simp [Value.oneCell']) ?_))
  have hfin : ((w8.setCell ⟨w.heap.size, 12, none⟩ (.slice A10 n10 c10)).setRow (w.heap.size + 1) (over #[.int .i64 0, .int .i64 0, .int .i64 0, .int .i64 0, .int .i64 0, .bool false, .slice none 0 0, .slice none 0 0, .slice none 0 0, .slice none 0 0, .int .i64 0, .int .i64 0, .slice none 0 0, .int .i64 0, .int .i64 0] 0 #[.int .i64 xg, .int .i64 xe, .int .i64 xb, .int .i64 xm, .int .i64 xk, .bool xx, .slice A6 n6 c6, .slice A7 n7 c7, .slice A8 n8 c8, .slice A9 n9 c9, .int .i64 xo, .int .i64 xn, .slice A10 n10 c10, .int .i64 xf, .int .i64 xc])).heap[w.heap.size + 1]? = some (.cells #[.int .i64 xg, .int .i64 xe, .int .i64 xb, .int .i64 xm, .int .i64 xk, .bool xx, .slice A6 n6 c6, .slice A7 n7 c7, .slice A8 n8 c8, .slice A9 n9 c9, .int .i64 xo, .int .i64 xn, .slice A10 n10 c10, .int .i64 xf, .int .i64 xc] 31 (0, 0)) := by
    exact (setRow_same HZ.out.2).trans (congrArg (fun z => some (Obj.cells z 31 (0, 0))) (over_full (by rfl)))
  refine bodyPost_ret (v := .agg #[.int .i64 xg, .int .i64 xe, .int .i64 xb, .int .i64 xm, .int .i64 xk, .bool xx, .slice A6 n6 c6, .slice A7 n7 c7, .slice A8 n8 c8, .slice A9 n9 c9, .int .i64 xo, .int .i64 xn, .slice A10 n10 c10, .int .i64 xf, .int .i64 xc]) (results_cell_row Try.results63 _ _ _ _ _ _ _ rfl hfin Try.underlying31 rfl (by kernel_rfl)) rfl ⟨_, rfl, ?_, ?_⟩
  · have hs7 := lt_of_some H7.out.2.1
    have KF := ((H7.out.2.2.1.mono' (ok' := fun b => w.heap.size + 2 ≤ b) (fun b hb => by omega)).trans (Kn.of_below H8.out.2)).trans (Kn.setCell (ok := fun b => w.heap.size + 2 ≤ b) w8 w.heap.size 12 (.slice A10 n10 c10) (by omega))
    have KG := KF.trans (Kn.setRow (ok := fun b => w.heap.size + 2 ≤ b) _ (w.heap.size + 1) (over #[.int .i64 0, .int .i64 0, .int .i64 0, .int .i64 0, .int .i64 0, .bool false, .slice none 0 0, .slice none 0 0, .slice none 0 0, .slice none 0 0, .int .i64 0, .int .i64 0, .slice none 0 0, .int .i64 0, .int .i64 0] 0 #[.int .i64 xg, .int .i64 xe, .int .i64 xb, .int .i64 xm, .int .i64 xk, .bool xx, .slice A6 n6 c6, .slice A7 n7 c7, .slice A8 n8 c8, .slice A9 n9 c9, .int .i64 xo, .int .i64 xn, .slice A10 n10 c10, .int .i64 xf, .int .i64 xc]) (by omega))
    have KH := (Kn.setCell (ok := fun b => w.heap.size + 2 ≤ b) w8 w.heap.size 12 (.slice A10 n10 c10) (by omega)).trans (Kn.setRow (ok := fun b => w.heap.size + 2 ≤ b) _ (w.heap.size + 1) (over #[.int .i64 0, .int .i64 0, .int .i64 0, .int .i64 0, .int .i64 0, .bool false, .slice none 0 0, .slice none 0 0, .slice none 0 0, .slice none 0 0, .int .i64 0, .int .i64 0, .slice none 0 0, .int .i64 0, .int .i64 0] 0 #[.int .i64 xg, .int .i64 xe, .int .i64 xb, .int .i64 xm, .int .i64 xk, .bool xx, .slice A6 n6 c6, .slice A7 n7 c7, .slice A8 n8 c8, .slice A9 n9 c9, .int .i64 xo, .int .i64 xn, .slice A10 n10 c10, .int .i64 xf, .int .i64 xc]) (by omega))
    obtain ⟨r1, r2, r3, r4⟩ := HR.out
    refine ⟨⟨_, _, _, _, _, rfl, ?_, ?_, ?_, ?_, ?_⟩⟩
    · exact ((r1.mono fun b _ hb => by omega).keep KG).mono fun b _ hb => by omega
    · exact ((r2.mono fun b _ hb => by omega).keep KG).mono fun b _ hb => by omega
    · exact ((r3.mono fun b _ hb => by omega).keep KG).mono fun b _ hb => by omega
    · exact ((r4.mono fun b _ hb => by omega).keep KG).mono fun b _ hb => by omega
    · exact ((H8.out.1.mono fun b _ hb => by omega).keep KH).mono fun b _ hb => by omega
  · exact below_setRow (((H7.out.2.2.2.trans (H8.out.2.mono H7.out.2.2.2.size))).setCell (Nat.le_refl _) _) (by omega)
end Go.Proofs.Ythahadhdhpcndaa
