/- For TreeStays: Add and Remove, whatever they answer; a box that is stored over. -/
import Derived.Test.YtopkanokpfhmmaaDoorVF
import Derived.Test.YtopkanokpfhmmaaDoorVE
import Derived.Test.YtopkanokpfhmmaaDoorTW
namespace Go.Proofs.YtopkanokpfhmmaaDoor
open Go Go.RowKit
set_option linter.unusedVariables false
set_option linter.unusedSimpArgs false

/-- The tree behind an Add that is done. -/
structure AddR (n : Nat) (F : Nat → Node) (a : Addx) (n3 : Nat) (G : Nat → Node) (p : Int) : Prop where
  ok : chk n3 G = true
  fnd : findM G a.mem (sizeM n3 G) = p
  len : (memL G (sizeM n3 G)).length = (memL F (sizeM n F)).length + 1
  rem : remE n3 G a.mem ≠ 0 → (memL F (sizeM n F)).length = 0
  back : ∀ d j, Ok d n3 G → findM G a.mem (sizeM n3 G) = (j : Nat) → j < 2 ^ d → memL (blankF G d j) (2 ^ cut (blankF G d j) d) = memL F (sizeM n F)
  small : n3 ≤ 15
theorem add_any (v : Value) (n : Nat) (F : Nat → Node) (a : Addx) (w : World) (hT : Tab w) (hR : TrR w v n F) (hn : n ≤ 262144) (hwf : (Lit.int .i64 a.mem).wf = true) :
    Calls Tryd.prog 13 #[.agg #[v], a.v] w fun e w' => ∃ A3 n3 c3 p er G, e = .returned (.tuple #[.agg #[.slice A3 n3 c3], .int .i64 p, .int .i64 er]) ∧ TrR w' (.slice A3 n3 c3) n3 G ∧ Below w.heap.size w w' ∧ (er = 0 → AddR n F a n3 G p) := by
  refine (add13 v n F a w hT hR hn hwf).mono fun e w' h => ?_
  by_cases h0 : addE n F a = 0
  · obtain ⟨⟨v', h1, h2⟩, h3⟩ := h.yes h0
    obtain ⟨A, c, rfl, -, -, -⟩ := id h2
    have hs := staysA h0
    refine ⟨A, _, c, _, 0, _, h1, h2, h3, fun _ => ⟨hs.ok, hs.fnd, hs.len, hs.rem, hs.back, ?_⟩⟩
    obtain ⟨d, hd, hN, -⟩ := add_facts h0
    have := pow3 hd
    omega
  · obtain ⟨h1, h3⟩ := h.no h0
    exact ⟨none, 0, 0, 0, _, fun _ => zeroN, h1, TrR.nil _ _, h3, fun h => absurd h h0⟩
/-- The tree behind a Remove that is done. -/
structure RemR (n : Nat) (F : Nat → Node) (m : Int) (n3 : Nat) (G : Nat → Node) : Prop where
  st : StaysR n F m n3 G
  frm : ∃ d i : Nat, Ok d n F ∧ findM F m (sizeM n F) = i ∧ i < 2 ^ d ∧ memL G (sizeM n3 G) = memL (blankF F d i) (2 ^ cut (blankF F d i) d)
theorem rem_any (v : Value) (n : Nat) (F : Nat → Node) (m : Int) (w : World) (hT : Tab w) (hR : TrR w v n F) (hn : n ≤ 262144) :
    Calls Tryd.prog 14 #[.agg #[v], .int .i64 m] w fun e w' => ∃ A3 n3 c3 er G, e = .returned (.tuple #[.agg #[.slice A3 n3 c3], .int .i64 er]) ∧ TrR w' (.slice A3 n3 c3) n3 G ∧ Below w.heap.size w w' ∧ er = remE n F m ∧ n3 ≤ 15 ∧ (er = 0 → RemR n F m n3 G) := by
  by_cases h0 : remE n F m = 0
  · obtain ⟨d, i, hO, hfi, hid, hip, him, hml, hoth⟩ := rem_facts h0
    refine (rem_yes v n d i F m w hT hR hO hfi hid hml).mono fun e w' h => ?_
    obtain ⟨⟨v', h1, h2⟩, h3⟩ := h
    obtain ⟨A, c, rfl, -, -, -⟩ := id h2
    have hS := staysR hO hid hip him hoth
    exact ⟨A, _, c, 0, _, h1, h2, h3, h0.symm, hS.small, fun _ => ⟨hS, d, i, hO, hfi, hid, by rw [sizeM_ok (rem_ok hO hid hoth)]⟩⟩
  · refine (rem_no v n F m w hT hR hn h0).mono fun e w' h => ?_
    exact ⟨none, 0, 0, _, fun _ => zeroN, h.out, TrR.nil _ _, h.bel, rfl, by omega, fun h => absurd h h0⟩
/-- The boxes of TreeStays: the tree, who comes in, and the tree that is made. -/
structure SB (w : World) (v : Value) (m e p : Int) (T : Nat) (u : Value) (W : World) : Prop where
  fb : FB w v m e p W
  lt : w.heap.size + 1 < T
  row : W.heap[T]? = some (.cells #[u] 24 (0, 0))
theorem SB.cell {w : World} {v : Value} {m e p : Int} {T : Nat} {u : Value} {W : World} (h : SB w v m e p T u W) : W.cell? ⟨T, 0, none⟩ = some u := by rw [cell_of_row _ _ _ _ _ _ h.row]; rfl
theorem SB.frozen {w : World} {v : Value} {m e p : Int} {T : Nat} {u : Value} {W : World} (h : SB w v m e p T u W) : W.frozen? ⟨T, 0, none⟩ = false := frozen_of_row _ _ _ _ _ h.row
theorem SB.tlt {w : World} {v : Value} {m e p : Int} {T : Nat} {u : Value} {W : World} (h : SB w v m e p T u W) : T < W.heap.size := World.block_lt_of_cell? _ _ h.cell
theorem SB.under {w : World} {v : Value} {m e p : Int} {T : Nat} {u : Value} {W W' : World} (h : SB w v m e p T u W) (hb : Below W.heap.size W W') : SB w v m e p T u W' :=
  ⟨h.fb.under hb, h.lt, (hb.block T h.tlt).trans h.row⟩
theorem SB.start {w : World} {v : Value} {m e p : Int} {W : World} (h : FB w v m e p W) (u : Value) : SB w v m e p W.heap.size u (W.alloc (.cells #[u] 24)) :=
  ⟨h.under ((Below.refl _ _).alloc (Nat.le_refl _) _), h.lt, heap_alloc_new _ _⟩
theorem SB.set {w : World} {v : Value} {m e p : Int} {T : Nat} {u : Value} {W : World} (h : SB w v m e p T u W) (u' : Value) : SB w v m e p T u' (W.setCell ⟨T, 0, none⟩ u') := by
  have hl := h.lt
  have hb : Below (w.heap.size + 2) W (W.setCell ⟨T, 0, none⟩ u') := (Below.refl _ _).setCell (p := ⟨T, 0, none⟩) (by show w.heap.size + 2 ≤ T; omega) u'
  have hf := h.fb
  refine ⟨⟨hf.bel.trans (hb.mono (by omega)), ?_, ?_, ?_, ?_, by simp; exact hf.lt⟩, h.lt, ?_⟩
  · rw [hb.cell (by show w.heap.size < _; omega)]; exact hf.c0
  · rw [hb.cell (by show w.heap.size + 1 < _; omega)]; exact hf.a0
  · rw [hb.cell (by show w.heap.size + 1 < _; omega)]; exact hf.a1
  · rw [hb.cell (by show w.heap.size + 1 < _; omega)]; exact hf.a2
  · have := heap_setCell_same W T 0 #[u] 24 u' h.row
    simpa using this
theorem rowsL_is {n : Nat} {F : Nat → Node} {i : Int} (hz : chk n F = true) (h : rowsE n F i = 0) : ∃ d j : Nat, Ok d n F ∧ i = j ∧ j < 2 ^ d ∧ rowsL n F i = rowsM F d j := by
  rcases chk_iff.1 hz with rfl | ⟨d, hO⟩
  · exact absurd h rowsE_empty
  · obtain ⟨j, rfl, hj, hp⟩ := rowsE_ok hO h
    refine ⟨d, j, hO, rfl, hj, ?_⟩
    unfold rowsL
    rw [h, if_pos rfl, hO.lvs, lg_pow hO.hd, Int.toNat_natCast]
/-- The numbers that TreeStays gives to a path. -/
def pubsL (k : Nat) : List Int := (List.range k).map fun i : Nat => 100 + (i : Int)
theorem pubsL_succ (k : Nat) : pubsL (k + 1) = pubsL k ++ [100 + (k : Int)] := by unfold pubsL; rw [List.range_succ]; simp
theorem pubsL_length (k : Nat) : (pubsL k).length = k := by simp [pubsL]
theorem pubsL_pos (k : Nat) : ∀ x ∈ pubsL k, 1 ≤ x := fun x hx => by
  obtain ⟨i, _, rfl⟩ := List.mem_map.1 hx
  omega
/-- What SetPath leaves, whatever the path. -/
theorem set_any (v : Value) (n d i : Nat) (F : Nat → Node) (vp : Value) (k : Nat) (w : World) (hT : Tab w) (hR : TrR w v n F) (hO : Ok d n F) (hi : i < 2 ^ d) (hp : 1 ≤ (F (2 * i)).pub) (hps : Ints w vp (pubsL k)) (hk : k = ((rowsM F d i).map (·.1)).length) :
    Calls Tryd.prog 18 #[.agg #[v], .int .i64 i, .int .i64 9, .int .i64 99, vp] w fun e w' => ∃ A3 c3 G, e = .returned (.tuple #[.agg #[.slice A3 n c3], .int .i64 0]) ∧ TrR w' (.slice A3 n c3) n G ∧ Below w.heap.size w w' ∧ StaysS n F G ((rowsM F d i).map (·.1)) := by
  have hl : (pubsL k).length = (rowsM F d i).length := by rw [pubsL_length, hk, List.length_map]
  have hq : ∀ e w', SetYes w n (setF F d i 9 99 (((rowsM F d i).map (·.1)).zip (pubsL k))) e w' → ∃ A3 c3 G, e = .returned (.tuple #[.agg #[.slice A3 n c3], .int .i64 0]) ∧ TrR w' (.slice A3 n c3) n G ∧ Below w.heap.size w w' ∧ StaysS n F G ((rowsM F d i).map (·.1)) := fun e w' h => by
    obtain ⟨v', h1, h2⟩ := h.out
    obtain ⟨A, c, rfl, -, -, -⟩ := id h2
    refine ⟨A, c, _, h1, h2, h.bel, ?_⟩
    have hz : ((((rowsM F d i).map (·.1)).zip (pubsL k)).map (·.1)) = (rowsM F d i).map (·.1) := List.map_fst_zip (by rw [pubsL_length, hk]; exact Nat.le_refl _)
    have := staysS (ep := 9) (pub := 99) (ps := ((rowsM F d i).map (·.1)).zip (pubsL k)) hO hi hp (by decide) (by decide) (fun p hp => rowsM_mem (by rw [← hz]; exact List.mem_map.2 ⟨p, hp, rfl⟩)) (fun p hp => pubsL_pos k _ (List.of_mem_zip hp).2)
    rw [hz] at this
    exact this
  by_cases h0 : (pubsL k).length = 0
  · exact (set_none v n d i F 9 99 vp (pubsL k) w hT hR hO hi hp (by decide) (by decide) hps hl (pubsL_pos k) h0).mono hq
  · exact (set_some v n d i F 9 99 vp (pubsL k) w hT hR hO hi hp (by decide) (by decide) hps hl (pubsL_pos k) h0).mono hq
end Go.Proofs.YtopkanokpfhmmaaDoor
