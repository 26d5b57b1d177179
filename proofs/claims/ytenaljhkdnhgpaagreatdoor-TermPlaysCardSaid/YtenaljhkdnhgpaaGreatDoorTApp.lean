/- The store behind an append, and behind the map's update. -/
import Derived.Test.YtenaljhkdnhgpaaGreatDoorTPut
namespace Go.Proofs.YtenaljhkdnhgpaaGreatDoor.T
open Go.RowKit

theorem wf_small (x : Int) (h0 : 0 ≤ x) (h1 : x ≤ 9223372036854775807) : (Lit.int .i64 x).wf = true := by
  have a : IntKind.i64.min = -9223372036854775808 := by decide
  have b : IntKind.i64.max = 9223372036854775807 := by decide
  unfold Lit.wf
  simp only [a, b, Bool.and_eq_true, decide_eq_true_eq]
  omega
/-- The list has M, the map still speaks of L. -/
structure Sh (w : World) (B g m : Nat) (L M : List Tm) (v : Value) : Prop where
  lo : B ≤ g
  lm : B ≤ m
  hB : B ≤ w.heap.size
  blk : w.heap[g]? = some (.cells #[v, .map (some m)] 90 (0, 0))
  row : w.ownsRow B 69 4 v M.length (rowOf M)
  map : MapIs w m L.length (num L)
theorem St.appended {w w4 : World} {B g m g' cap : Nat} {L : List Tm} {v : Value} {o : Obj} {t : Tm} (h : St w B g m L v)
    (o1 : w4.ownsRow B 69 4 (.slice (some ⟨g', 0, none⟩) (L.length + 1) cap) (L.length + 1) (rowOf L ++ t.cs)) (o2 : ((w.alloc o).drew).grownBy w4 v.ownBlock)
    (o3 : v.ownBlock = some g' ∨ g' = ((w.alloc o).drew).heap.size) : Sh (w4.setCell ⟨g, 0, none⟩ (.slice (some ⟨g', 0, none⟩) (L.length + 1) cap)) B g m L (L ++ [t]) (.slice (some ⟨g', 0, none⟩) (L.length + 1) cap) := by
  have hb : Below w.heap.size w ((w.alloc o).drew) := ((Below.refl _ _).alloc (Nat.le_refl _) _).drew
  have h' := h.below hb
  have hg4 : w4.heap[g]? = some (.cells #[v, .map (some m)] 90 (0, 0)) := (o2.block g (lt_of_some h'.blk) h'.far).trans h'.blk
  have hne : g' ≠ g := by
    intro e
    rcases o3 with o3 | o3
    · exact h'.far (by rw [o3, e])
    · have := lt_of_some h'.blk
      omega
  have hs := o2.size
  refine ⟨h.lo, h.lm, ?_, ?_, ?_, ?_⟩
  · have := h'.hB
    simp
    omega
  · rw [heap_setCell_same w4 g 0 _ _ _ hg4]
    rfl
  · rw [List.length_append, rowOf_append]
    have e : rowOf [t] = t.cs := by simp [rowOf]
    rw [e]
    refine ⟨o1.1, ?_⟩
    rcases o1.2 with ⟨h1, h2⟩ | ⟨gg, cap', cur, h1, h2, h3, h4⟩
    · exact .inl ⟨h1, h2⟩
    · refine .inr ⟨gg, cap', cur, h1, h2, ?_, h4⟩
      obtain rfl : gg = g' := by
        injection h1 with h1
        injection h1 with h1
        injection h1 with h1
        exact h1.symm
      rw [Below.heap_setCell _ _ _ _ hne]
      exact h3
  · refine h'.map.below ?_
    rw [Below.heap_setCell _ _ _ _ h'.mfar.2]
    exact o2.block m h'.map.lt h'.mfar.1
theorem Sh.put {w : World} {B g m : Nat} {L : List Tm} {v : Value} {t : Tm} (h : Sh w B g m L (L ++ [t]) v) (hk : ∃ kl, keyOf Tryz.prog 69 t.v = some kl) (hn : num L t = none) (hl : L.length < 1048576) :
    ∃ w', (Instr.mapUpdate 88 (.map (some m)) t.v (.int .i64 ((L.length : Int) + 1))).run Tryz.prog w = .ok () w' ∧ w.grownBy w' (some m) ∧ St w' B g m (L ++ [t]) v := by
  obtain ⟨w', h1, h2, h3⟩ := h.map.put (by unfold maxLen; omega) t ((L.length : Int) + 1) hk (wf_small _ (by omega) (by omega))
  obtain ⟨D, ⟨es, clock, hm, _⟩, _⟩ := h.map
  have hgm : some g ≠ some m := fun e => by
    obtain rfl : g = m := by simpa using e
    rw [h.blk] at hm
    cases hm
  have hvm : v.ownBlock ≠ some m := fun e => by
    rcases h.row.2 with ⟨z1, z2⟩ | ⟨g', cap, cur, z1, _, z3, _⟩
    · rw [z1] at e
      cases e
    · rw [z1] at e
      obtain rfl : g' = m := by simpa [Value.ownBlock] using e
      rw [hm] at z3
      cases z3
  refine ⟨w', h1, h2, h.lo, h.lm, Nat.le_trans h.hB h2.size, ?_, ?_, ?_⟩
  · exact (h2.block g (lt_of_some h.blk) hgm).trans h.blk
  · exact h.row.kept h2 (.inr hvm)
  · rw [List.length_append]
    exact h3 _ (num_self L t hn) (fun u hu => num_other L t u hu)
end Go.Proofs.YtenaljhkdnhgpaaGreatDoor.T
