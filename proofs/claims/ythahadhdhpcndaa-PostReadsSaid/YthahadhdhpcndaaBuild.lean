/- A row of one large element. -/
import Derived.Test.YthahadhdhpcndaaNet
import Derived.MapKept
import Derived.ChangeKeysEq
namespace Go.Proofs.Ythahadhdhpcndaa
open Go Go.RowKit
set_option linter.unusedVariables false
set_option linter.unusedSimpArgs false

theorem fold_size (l : List Value) : ∀ (k : Nat) (cells : Array Value), ((l.zipIdx k).foldl (fun cs (x : Value × Nat) => cs.setIfInBounds (0 + x.2) x.1) cells).size = cells.size := by
  induction l with
  | nil => intro k cells; rfl
  | cons a l ih => intro k cells; simp only [List.zipIdx_cons, List.foldl_cons]; rw [ih]; simp
theorem fold_get (l : List Value) : ∀ (k : Nat) (cells : Array Value) (i : Nat), i < cells.size →
    ((l.zipIdx k).foldl (fun cs (x : Value × Nat) => cs.setIfInBounds (0 + x.2) x.1) cells)[i]? = if k ≤ i ∧ i < k + l.length then l[i - k]? else cells[i]? := by
  induction l with
  | nil => intro k cells i hi; simp; omega
  | cons a l ih =>
    intro k cells i hi
    simp only [List.zipIdx_cons, List.foldl_cons]
    rw [ih (k + 1) _ i (by simpa using hi)]
    by_cases h1 : k + 1 ≤ i ∧ i < k + 1 + l.length
    · rw [if_pos h1, if_pos ⟨by omega, by simp; omega⟩]
      obtain ⟨j, rfl⟩ : ∃ j, i = k + 1 + j := ⟨i - (k + 1), by omega⟩
      rw [show k + 1 + j - (k + 1) = j by omega, show k + 1 + j - k = j + 1 by omega]
      rfl
    · rw [if_neg h1]
      by_cases h2 : i = k
      · subst h2
        rw [if_pos ⟨Nat.le_refl _, by simp⟩]
        simp [hi]
      · rw [if_neg (by simp; omega)]
        rw [Array.getElem?_setIfInBounds_ne (by omega)]
theorem fold_all (c cells : Array Value) (h : c.size = cells.size) : (c.zipIdx.foldl (fun cs (x : Value × Nat) => cs.setIfInBounds (0 + x.2) x.1) cells) = c := by
  obtain ⟨l⟩ := c
  have e : (Array.mk l).zipIdx.foldl (fun cs (x : Value × Nat) => cs.setIfInBounds (0 + x.2) x.1) cells = (l.zipIdx 0).foldl (fun cs (x : Value × Nat) => cs.setIfInBounds (0 + x.2) x.1) cells := by simp
  rw [e]
  apply Array.ext_getElem?
  intro i
  by_cases hi : i < cells.size
  · rw [fold_get l 0 cells i hi, if_pos ⟨Nat.zero_le _, by simp at h; omega⟩]
    simp
  · rw [Array.getElem?_eq_none (by rw [fold_size]; omega), Array.getElem?_eq_none (by rw [h]; omega)]
theorem run_buildSlice_one {P : Program} (w : World) (t e : TypeId) (n : Nat) (z : Value) (i0 : TypeInfo) (hu : P.underlying t = some (.slice e)) (hi : P.info? e = some i0) (hz : i0.zero = some z) (hsz : i0.size = n) (hzs : z.cells.size = n) (c : Array Value) (hc : c.size = n) (hn : 0 < n) (hn2 : n ≤ 16777216) :
    (Instr.buildSlice t 1 #[(0, .agg c)]).run P w = .ok (.slice (some ⟨w.heap.size, 0, none⟩) 1 1) (w.alloc (.cells c e)) := by
  have h1 : (sizeOf e).run P w = .ok n w := by simp [sizeOf, typeInfo, hi, hsz, Sem.run_bind]
  have h2 : (zeroValue e).run P w = .ok z w := by simp [zeroValue, typeInfo, hi, hz, Sem.run_bind]
  have h3 : Instr.fill (fun i => some (i * n, n)) ((Array.range (1 * n)).map (z.cells[· % z.cells.size]!)) [(0, .agg c)] = some c := by
    simp only [Instr.fill, Value.cells, Nat.zero_mul]
    rw [if_neg (by simp [hc])]
    exact congrArg some (fold_all c _ (by simp [hc]))
  unfold Instr.buildSlice
  rw [Sem.run_bind, run_underlying hu w]
  simp only [Result.andThen_ok]
  rw [Sem.run_bind, h1]
  simp only [Result.andThen_ok]
  rw [if_neg (by omega)]
  have hne : ¬ (1 * n = 0) := by omega
  rw [if_neg hne]
  simp only [Sem.run_bind, h2, Result.andThen_ok, Sem.run_pure]
  rw [h3]
  simp [Sem.run_bind, newRow, newObj]
  rfl
section
variable {P : Program}
/-- In a region that draws: a row of one large element. -/
theorem step_buildSlice_one {ops : Array Oper} {o : Oper} {a : Act} {w : World} {K : Act → World → Prop} {Q : Exit → Act → World → Prop} {E : Prop} (hgd : o.guard = none) (t e : TypeId) (x : Operand) (ho : o.op = .buildSlice t 1 #[(0, x)])
    (n : Nat) (z : Value) (i0 : TypeInfo) (hu : P.underlying t = some (.slice e)) (hi : P.info? e = some i0) (hz : i0.zero = some z) (hsz : i0.size = n) (hzs : z.cells.size = n) (c : Array Value) (hx : a.eval x = .agg c) (hc : c.size = n) (hn : 0 < n) (hn2 : n ≤ 16777216)
    (h : K (a.put o.dst (.slice (some ⟨w.heap.size, 0, none⟩) 1 1)) (w.alloc (.cells c e))) : if Region.wanted o (yielded ops a.tmps) = true then Oper.wp P o a w K Q else E := by
  have hw : Region.wanted o (yielded ops a.tmps) = true := by simp [Region.wanted, hgd]
  rw [if_pos hw]
  unfold Oper.wp execOp
  simp only [ho, List.map_toArray, List.map_cons, List.map_nil, hx, Sem.run_bind, run_buildSlice_one w t e n z i0 hu hi hz hsz hzs c hc hn hn2, Result.andThen_ok, Sem.run_pure]
  exact h
end
end Go.Proofs.Ythahadhdhpcndaa
