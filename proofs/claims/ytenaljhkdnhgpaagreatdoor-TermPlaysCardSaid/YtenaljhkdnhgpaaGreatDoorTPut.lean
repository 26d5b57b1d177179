/- A term is made. -/
import Derived.Test.YtenaljhkdnhgpaaGreatDoorTMake
import Derived.Test.YtenaljhkdnhgpaaGreatDoorPhase
import Derived.Deep.AppendLies
namespace Go.Proofs.YtenaljhkdnhgpaaGreatDoor.T
open Go.RowKit Go.Proofs.Phase

theorem info30 : (Tryz.prog.info? 69).map (fun i => (i.zero, i.size, i.bytes)) = some (some (.agg #[.int .u8 0, .int .i64 0, .int .i64 0, .int .i64 0]), 4, 32) := by kernel_rfl
deriving instance DecidableEq for Tm
def Tm.cs (t : Tm) : List Value := [.int .u8 t.k, .int .i64 t.n, .int .i64 t.a, .int .i64 t.b]
def rowOf (L : List Tm) : List Value := L.flatMap Tm.cs
theorem rowOf_append (L M : List Tm) : rowOf (L ++ M) = rowOf L ++ rowOf M := by simp [rowOf]
/-- The number of a term, if it is there. -/
def num (L : List Tm) (t : Tm) : Option Int := Option.map (fun i : Nat => ((i : Int) + 1)) (L.findIdx? (· == t))
theorem num_nil (t : Tm) : num [] t = none := rfl
theorem num_self (L : List Tm) (t : Tm) (h : num L t = none) : num (L ++ [t]) t = some ((L.length : Int) + 1) := by
  unfold num at *
  rw [List.findIdx?_append]
  rw [Option.map_eq_none_iff] at h
  rw [h]
  simp [List.findIdx?_cons]
theorem num_other (L : List Tm) (t u : Tm) (h : u ≠ t) : num (L ++ [t]) u = num L u := by
  unfold num
  rw [List.findIdx?_append]
  have : (t == u) = false := by simp [beq_eq_false_iff_ne, Ne.symm h]
  cases List.findIdx? (· == u) L <;> simp [List.findIdx?_cons, this]

/-- A store: its own block g, its map m, its list; B: from where on blocks are its own. -/
structure St (w : World) (B g m : Nat) (L : List Tm) (v : Value) : Prop where
  lo : B ≤ g
  lm : B ≤ m
  hB : B ≤ w.heap.size
  blk : w.heap[g]? = some (.cells #[v, .map (some m)] 90 (0, 0))
  row : w.ownsRow B 69 4 v L.length (rowOf L)
  map : MapIs w m L.length (num L)
theorem St.c0 {w : World} {B g m : Nat} {L : List Tm} {v : Value} (h : St w B g m L v) : w.cell? ⟨g, 0, none⟩ = some v := by rw [cell_of_row w g 0 _ _ _ h.blk]; rfl
theorem St.c1 {w : World} {B g m : Nat} {L : List Tm} {v : Value} (h : St w B g m L v) : w.cell? ⟨g, 1, none⟩ = some (.map (some m)) := by rw [cell_of_row w g 1 _ _ _ h.blk]; rfl
theorem St.fr {w : World} {B g m : Nat} {L : List Tm} {v : Value} (h : St w B g m L v) (i : Nat) : w.frozen? ⟨g, i, none⟩ = false := frozen_of_row w g i _ _ h.blk
theorem St.slice {w : World} {B g m : Nat} {L : List Tm} {v : Value} (h : St w B g m L v) : ∃ A c, v = .slice A L.length c := by
  rcases h.row.2 with ⟨h1, h2⟩ | ⟨g', cap, cur, h1, _⟩
  · exact ⟨none, 0, by rw [h1, h2]⟩
  · exact ⟨_, _, h1⟩
theorem MapIs.below {w w' : World} {b n : Nat} {f : Tm → Option Int} (h : MapIs w b n f) (hb : w'.heap[b]? = w.heap[b]?) : MapIs w' b n f := by
  obtain ⟨D, ⟨es, clock, h1, h2⟩, h3⟩ := h
  exact ⟨D, ⟨es, clock, hb.trans h1, h2⟩, h3⟩
theorem own_below {w w' : World} {B n : Nat} {v : Value} {xs : List Value} (ho : w.ownsRow B 69 4 v n xs) (hb : Below w.heap.size w w') : w'.ownsRow B 69 4 v n xs := by
  have hlt := World.ownsRow.lt ho
  refine ⟨ho.1, ?_⟩
  rcases ho.2 with h1 | ⟨g, cap, cur, rfl, h2, h3, h4⟩
  · exact .inl h1
  · refine .inr ⟨g, cap, cur, rfl, h2, ?_, h4⟩
    rw [hb.block g (hlt g rfl).2]
    exact h3
theorem lt_of_some {w : World} {g : Nat} {o : Obj} (h : w.heap[g]? = some o) : g < w.heap.size := (Array.getElem?_eq_some_iff.1 h).1
theorem MapIs.lt {w : World} {b n : Nat} {f : Tm → Option Int} (h : MapIs w b n f) : b < w.heap.size := by
  obtain ⟨D, ⟨es, clock, h1, h2⟩, h3⟩ := h
  exact lt_of_some h1
theorem St.below {w w' : World} {B g m : Nat} {L : List Tm} {v : Value} (h : St w B g m L v) (hb : Below w.heap.size w w') : St w' B g m L v :=
  ⟨h.lo, h.lm, Nat.le_trans h.hB hb.size, (hb.block g (lt_of_some h.blk)).trans h.blk, own_below h.row hb, h.map.below (hb.block m h.map.lt)⟩
theorem St.drewN {w : World} {B g m : Nat} {L : List Tm} {v : Value} (h : St w B g m L v) (n : Nat) : St (w.drewN n) B g m L v := h.below (below_drewN (Below.refl _ _) n)
/-- The store's block is not its list's. -/
theorem St.far {w : World} {B g m : Nat} {L : List Tm} {v : Value} (h : St w B g m L v) : some g ≠ v.ownBlock := by
  intro e
  rcases h.row.2 with ⟨h1, h2⟩ | ⟨g', cap, cur, h1, _, h3, _⟩
  · rw [h1] at e
    cases e
  · rw [h1] at e
    obtain rfl : g = g' := by simpa [Value.ownBlock] using e
    rw [h.blk] at h3
    cases h3
theorem St.mfar {w : World} {B g m : Nat} {L : List Tm} {v : Value} (h : St w B g m L v) : some m ≠ v.ownBlock ∧ m ≠ g := by
  obtain ⟨D, ⟨es, clock, hm, _⟩, _⟩ := h.map
  refine ⟨fun e => ?_, fun e => ?_⟩
  · rcases h.row.2 with ⟨h1, h2⟩ | ⟨g', cap, cur, h1, _, h3, _⟩
    · rw [h1] at e
      cases e
    · rw [h1] at e
      obtain rfl : m = g' := by simpa [Value.ownBlock] using e
      rw [hm] at h3
      cases h3
  · rw [e, h.blk] at hm
    cases hm
end Go.Proofs.YtenaljhkdnhgpaaGreatDoor.T
