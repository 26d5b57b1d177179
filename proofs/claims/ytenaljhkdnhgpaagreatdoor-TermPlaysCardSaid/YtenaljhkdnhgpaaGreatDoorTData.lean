/- Data: numbers as terms, then their list. -/
import Derived.Test.YtenaljhkdnhgpaaGreatDoorTList
namespace Go.Proofs.YtenaljhkdnhgpaaGreatDoor.T
open Go.RowKit

theorem info3 : (Tryz.prog.info? 3).map (fun i => (i.zero, i.size, i.bytes)) = some (some (.int .i64 0), 1, 8) := by kernel_rfl
/-- A row of ints of the call's own. -/
def OI (w : World) (B : Nat) (s : Value) (l : List Int) : Prop := w.ownsRow B 3 1 s l.length (l.map (Value.int .i64))
theorem OI.il {w : World} {B : Nat} {s : Value} {l : List Int} (h : OI w B s l) : IL w s l := by
  refine ⟨h.1, ?_⟩
  rcases h.2 with h1 | ⟨g, cap, cur, h1, h2, h3⟩
  · exact .inl h1
  · exact .inr ⟨g, cap, cur, h1, Nat.zero_le _, h3⟩
theorem push {ops : Array Oper} {rest : List Oper} {o : Oper} {a : Act} {Q : Exit → Act → World → Prop} {w : World} {B : Nat} {v : Value} {l : List Int} {u : Int}
    (hgd : o.guard = none) (s x : Operand) (ho : o.op = .call { callee := .builtin .append, args := #[s, x], argTypes := #[23, 23] })
    (hs : a.eval s = v) (hx : a.eval x = .slice (some ⟨w.heap.size, 0, none⟩) 1 1) (hown : Hid (OI w B v l)) (hB : B ≤ w.heap.size) (hl : l.length < 4294967296)
    (h : ∀ v' w', OI w' B v' (l ++ [u]) → (w.alloc (.cells #[.int .i64 u] 3)).grownBy w' v.ownBlock → wpList Tryz.prog ops Q rest (a.put o.dst v') w') :
    wpList Tryz.prog ops Q (o :: rest) a (w.alloc (.cells #[.int .i64 u] 3)) := by
  obtain ⟨i0, hinf, hz0, hz1, hz2⟩ := info_parts info3
  have hown1 : w.ownsRow B 3 1 v l.length (l.map (Value.int .i64)) := hown.out
  refine wpList_append_own _ hgd s x 23 ho B 3 i0 (.int .i64 0) 1 8 Tryz.underlying23 hinf hz0 hz1 hz2 rfl (by decide) v l.length (l.map (Value.int .i64)) hs (hown1.alloc _) ⟨w.heap.size, 0, none⟩ 1 1 [.int .i64 u] hx rfl (cell_one_new _ _ _)
    (by simp [Value.oneCell']) (by unfold maxLen; omega) (by omega) (by simp; omega) (fun v' w' h1 h2 _ => h v' w' ?_ h2)
  show w'.ownsRow B 3 1 v' _ _
  rw [List.length_append, List.map_append]
  exact h1
theorem OI.typed {w : World} {B : Nat} {s : Value} {l : List Int} (h : OI w B s l) (k : Nat) (hk : s.ownBlock = some k) : ∃ cur, w.heap[k]? = some (.cells cur 3 (0, 0)) := by
  rcases h.2 with ⟨h1, h2⟩ | ⟨b, cap, cur, h1, h2, h3, h4⟩
  · rw [h1] at hk
    cases hk
  · rw [h1] at hk
    obtain rfl : b = k := by simpa [Value.ownBlock] using hk
    exact ⟨cur, h3⟩
/-- A store stays when a row of ints grows. -/
theorem St.pushed {w w' : World} {B B' g m : Nat} {L : List Tm} {v s : Value} {l : List Int} {o : Obj} (h : St w B g m L v) (ho : OI w B' s l) (hg : (w.alloc o).grownBy w' s.ownBlock) : St w' B g m L v := by
  have hb : Below w.heap.size w (w.alloc o) := (Below.refl _ _).alloc (Nat.le_refl _) _
  have h1 := h.below hb
  have ho1 : OI (w.alloc o) B' s l := World.ownsRow.alloc ho o
  have hs := hg.size
  refine ⟨h.lo, h.lm, Nat.le_trans h1.hB hs, ?_, ?_, ?_⟩
  · refine (hg.block g (lt_of_some h1.blk) fun e => ?_).trans h1.blk
    obtain ⟨cur, hc⟩ := ho1.typed g e.symm
    rw [h1.blk] at hc
    cases hc
  · refine h1.row.kept hg ?_
    by_cases e : v.ownBlock = none
    · exact .inl e
    · refine .inr fun e2 => ?_
      obtain ⟨k, hk⟩ := Option.ne_none_iff_exists'.1 e
      obtain ⟨cur, hc⟩ := ho1.typed k (by rw [← e2, hk])
      rcases h1.row.2 with ⟨z1, z2⟩ | ⟨b, cap, cur', z1, _, z3, _⟩
      · exact e (by rw [z1]; rfl)
      · rw [z1] at hk
        obtain rfl : b = k := by simpa [Value.ownBlock] using hk
        rw [hc] at z3
        cases z3
  · refine h1.map.below (hg.block m h1.map.lt fun e => ?_)
    obtain ⟨cur, hc⟩ := ho1.typed m e.symm
    obtain ⟨D, ⟨es, clock, hm, _⟩, _⟩ := h1.map
    rw [hm] at hc
    cases hc
/-- Data, from out on. -/
def dataS (L : List Tm) (out : List Int) : List Int → Int × Int × List Tm
  | [] => listS L out
  | x :: r => if (mk L ⟨2, x, 0, 0⟩).2.1 = 0 then dataS (mk L ⟨2, x, 0, 0⟩).2.2 (out ++ [(mk L ⟨2, x, 0, 0⟩).1]) r else (0, (mk L ⟨2, x, 0, 0⟩).2.1, (mk L ⟨2, x, 0, 0⟩).2.2)
end Go.Proofs.YtenaljhkdnhgpaaGreatDoor.T
