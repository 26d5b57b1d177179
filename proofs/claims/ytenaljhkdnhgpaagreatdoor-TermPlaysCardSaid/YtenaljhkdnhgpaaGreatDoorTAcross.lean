/- Across: the numbers of a store's terms in another one. -/
import Derived.Test.YtenaljhkdnhgpaaGreatDoorTTwo
import Derived.Test.YtenaljhkdnhgpaaGreatDoorPhase
namespace Go.Proofs.YtenaljhkdnhgpaaGreatDoor.T
open Go.RowKit Go.Proofs.Phase

def tr (ms : List Int) (t : Tm) : Tm := ⟨t.k, t.n, ms.getD t.a.toNat 0, ms.getD t.b.toNat 0⟩
def acrN (L L2 : List Tm) : Nat → List Int × List Tm
  | 0 => ([0], L2)
  | i + 1 => match L[i]? with
    | none => acrN L L2 i
    | some t => ((acrN L L2 i).1 ++ [(mk (acrN L L2 i).2 (tr (acrN L L2 i).1 t)).1], (mk (acrN L L2 i).2 (tr (acrN L L2 i).1 t)).2.2)
theorem acrN_len (L L2 : List Tm) (i : Nat) (h : i ≤ L.length) : (acrN L L2 i).1.length = i + 1 := by
  induction i with
  | zero => rfl
  | succ i ih =>
    unfold acrN
    rw [List.getElem?_eq_getElem (by omega)]
    dsimp only
    rw [List.length_append, ih (by omega)]
    rfl
theorem acrN_succ (L L2 : List Tm) (i : Nat) (t : Tm) (h : L[i]? = some t) : acrN L L2 (i + 1) = ((acrN L L2 i).1 ++ [(mk (acrN L L2 i).2 (tr (acrN L L2 i).1 t)).1], (mk (acrN L L2 i).2 (tr (acrN L L2 i).1 t)).2.2) := by
  conv => lhs; unfold acrN
  rw [h]
/-- All goes well: each term can be made there. -/
def AcrOk (L L2 : List Tm) : Prop := ∀ i t, L[i]? = some t → (mk (acrN L L2 i).2 (tr (acrN L L2 i).1 t)).2.1 = 0 ∧ (acrN L L2 i).2.length ≤ 1048576 ∧ Tm.wf (tr (acrN L L2 i).1 t)
structure Ax (w : World) (B Bm g m gr gm : Nat) (L : List Tm) (v : Value) (L' : List Tm) (vr vm : Value) (ms : List Int) : Prop where
  two : Two w B g m gr L v L' vr
  lom : B ≤ gm
  mblk : w.heap[gm]? = some (.cells #[vm] 63 (0, 0))
  mrow : OI w Bm vm ms
variable {w w' : World} {B Bm g m gr gm : Nat} {L L' L1 : List Tm} {v v1 vr vm : Value} {ms : List Int}
theorem Ax.below (h : Ax w B Bm g m gr gm L v L' vr vm ms) (hb : Below w.heap.size w w') : Ax w' B Bm g m gr gm L v L' vr vm ms :=
  ⟨h.two.below hb, h.lom, (hb.block _ (lt_of_some h.mblk)).trans h.mblk, row_below h.mrow hb⟩
theorem Ax.r_step (h : Ax w B Bm g m gr gm L v L' vr vm ms) (hs : RSt w' B gr L1 v1) (hf : Fr w w' gr vr v1) (hz : w.heap.size ≤ w'.heap.size) : Ax w' B Bm g m gr gm L v L1 v1 vm ms := by
  refine ⟨h.two.r_step hs hf hz, h.lom, (hf.1 gm (lt_of_some h.mblk) (ne_typed h.mblk h.two.rst.blk (by intro e; injection e with _ e; cases e)) fun e => ?_).trans h.mblk, row_same h.mrow fun k hk => ?_⟩
  · obtain ⟨cur, hc⟩ := row_typed h.two.rst.row gm e.symm
    exact ne_typed h.mblk hc (by intro e; injection e with _ e; cases e) rfl
  · obtain ⟨cur, hc⟩ := row_typed h.mrow k hk
    refine hf.1 k (lt_of_some hc) (ne_typed hc h.two.rst.blk (by intro e; injection e with _ e; cases e)) fun e => ?_
    obtain ⟨cur', hc'⟩ := row_typed h.two.rst.row k e.symm
    exact ne_typed hc hc' (by intro e; injection e with _ e; cases e) rfl
theorem grownBy_set (w : World) (b i : Nat) (u : Value) : w.grownBy (w.setCell ⟨b, i, none⟩ u) (some b) :=
  ⟨rfl, rfl, rfl, by simp, fun k _ hne => Below.heap_setCell _ _ _ _ (fun e => hne (by rw [e]))⟩
theorem Ax.grows {u : Int} {vm' : Value} {o : Obj} (h : Ax w B Bm g m gr gm L v L' vr vm ms) (ho : OI w' Bm vm' (ms ++ [u])) (hg : (w.alloc o).grownBy w' vm.ownBlock) : Ax (w'.setCell ⟨gm, 0, none⟩ vm') B Bm g m gr gm L v L' vr vm' (ms ++ [u]) := by
  have hb : Below w.heap.size w (w.alloc o) := (Below.refl _ _).alloc (Nat.le_refl _) _
  have h1 := h.below hb
  have hS := h.two.st.pushed h.mrow hg
  have hR := h.two.rst.pushed h.mrow hg
  have hM : w'.heap[gm]? = some (.cells #[vm] 63 (0, 0)) := block_row h1.mblk (fun _ e => by injection e with _ e; cases e) h1.mrow hg
  have hG := grownBy_set w' gm 0 vm'
  obtain ⟨D, ⟨es, clock, hm, hm2⟩, hm3⟩ := hS.map
  have hz := hG.size
  have far : ∀ (k : Nat) (ob : Obj), w'.heap[k]? = some ob → (∀ cs fr, ob ≠ .cells cs 63 fr) → (w'.setCell ⟨gm, 0, none⟩ vm').heap[k]? = some ob := fun k ob hk hne =>
    (Below.heap_setCell _ _ _ _ (ne_typed hk hM (hne _ _))).trans hk
  refine ⟨⟨⟨hS.lo, hS.lm, Nat.le_trans hS.hB hz, far g _ hS.blk (fun _ _ e => by injection e with _ e; cases e), row_other hS.row hM (fun _ e => by injection e with _ e; cases e) hG, ⟨D, ⟨es, clock, far m _ hm (fun _ _ e => by cases e), hm2⟩, hm3⟩⟩, ⟨hR.lo, Nat.le_trans hR.hB hz, far gr _ hR.blk (fun _ _ e => by injection e with _ e; cases e), row_other hR.row hM (fun _ e => by injection e with _ e; cases e) hG⟩, h.two.dj⟩, h.lom, ?_, row_other ho hM (fun _ e => by injection e with _ e; cases e) hG⟩
  rw [heap_setCell_same w' gm 0 _ _ _ hM]
  rfl
end Go.Proofs.YtenaljhkdnhgpaaGreatDoor.T
