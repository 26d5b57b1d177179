/- slices.Delete of one packet. -/
import Derived.Test.YthahadhdhpcndaaNetCopy
import Derived.Deep.RegionLaw
import Derived.Lib.SliceRun
namespace Go.Proofs.Ythahadhdhpcndaa
open Go Go.RowKit
set_option linter.unusedVariables false
set_option linter.unusedSimpArgs false

/-- One element of any size is cleared. -/
theorem run_clear_one {P : Program} (w : World) (t e ty : TypeId) (z : Value) (ht : P.underlying t = some (.slice e)) (hv : (zeroValue e).run P w = .ok z w) (h1 : ∀ v ∈ z.cells.toList, v.oneCell' = true) (b o c : Nat)
    (hc : ∀ j, j < z.cells.size → (w.cell? ⟨b, o + j, none⟩).isSome = true) (hf : ∀ j, j < z.cells.size → w.frozen? ⟨b, o + j, none⟩ = false) :
    (Builtin.clear_ #[t] ty #[.slice (some ⟨b, o, none⟩) 1 c]).run P w = .ok (.tuple #[]) (w.setCells b o z.cells.toList) := by
  have hzc : (Builtin.zeroCells z.cells 1).toList = z.cells.toList := by
    simp [Builtin.zeroCells]
    apply List.ext_getElem
    · simp
    · intro i h1 h2
      simp at h1
      simp [Nat.mod_eq_of_lt h1, h1]
  have hst := run_storeCells_cells (P := P) b o z.cells.toList 0 w (by simpa using hc) (by simpa using hf) h1
  simp only [Nat.add_zero] at hst
  simp [Builtin.clear_, Sem.run_bind, run_underlying ht w, hv, hzc, hst]

theorem over_toList (cs vs : Array Value) (off : Nat) : (over cs off vs).toList = cs.toList.take off ++ vs.toList ++ cs.toList.drop (off + vs.size) := by simp [over]
theorem heap_setCells_row {g : Nat} {t : TypeId} : ∀ (vs : List Value) (o : Nat) (w : World) (cur : Array Value), w.heap[g]? = some (.cells cur t (0, 0)) → o + vs.length ≤ cur.size →
    (w.setCells g o vs).heap[g]? = some (.cells (over cur o vs.toArray) t (0, 0))
  | [], o, w, cur, h, _ => by
    have : over cur o #[] = cur := by apply Array.ext'; simp [over]
    rw [show ([] : List Value).toArray = #[] from rfl, this]
    exact h
  | v :: r, o, w, cur, h, hl => by
    have h1 := heap_setCell_same w g o cur t v h
    have h2 := heap_setCells_row r (o + 1) (w.setCell ⟨g, o, none⟩ v) (cur.setIfInBounds o v) h1 (by simp at hl ⊢; omega)
    have e : over (cur.setIfInBounds o v) (o + 1) r.toArray = over cur o (v :: r).toArray := by
      apply Array.ext'
      have ho : o < cur.size := by simp at hl; omega
      simp only [over_toList, Array.toList_setIfInBounds, List.toList_toArray, List.size_toArray, List.length_cons]
      have ht : (cur.toList.set o v).take (o + 1) = cur.toList.take o ++ [v] := by
        rw [List.take_add_one, List.take_set_of_le (Nat.le_refl _)]
        simp [ho]
      have hd : (cur.toList.set o v).drop (o + 1 + r.length) = cur.toList.drop (o + (r.length + 1)) := by
        rw [List.drop_set_of_lt (by omega), show o + 1 + r.length = o + (r.length + 1) by omega]
      rw [ht, hd]
      simp
    rw [← e]
    exact h2
theorem setCells_other {g k : Nat} (h : k ≠ g) : ∀ (vs : List Value) (o : Nat) (w : World), (w.setCells g o vs).heap[k]? = w.heap[k]?
  | [], _, _ => rfl
  | v :: r, o, w => (setCells_other h r (o + 1) _).trans (heap_setCell_other w ⟨g, o, none⟩ k v h)
theorem setCells_size (g : Nat) : ∀ (vs : List Value) (o : Nat) (w : World), (w.setCells g o vs).heap.size = w.heap.size
  | [], _, _ => rfl
  | v :: r, o, w => (setCells_size g r (o + 1) _).trans (by simp)
theorem setCells_below {B g : Nat} {w0 : World} (hB : B ≤ g) : ∀ (vs : List Value) (o : Nat) (w : World), Below B w0 w → Below B w0 (w.setCells g o vs)
  | [], _, _, h => h
  | v :: r, o, w, h => setCells_below hB r (o + 1) _ (h.setCell (by exact hB) v)
/-- A row of n elements, the one at i taken out. -/
structure Del (g i n sz : Nat) (t : TypeId) (cur : Array Value) (w w' : World) : Prop where
  out : ∃ cur', w'.heap[g]? = some (.cells cur' t (0, 0)) ∧ cur'.size = cur.size ∧ cur'.toList.take ((n - 1) * sz) = cur.toList.take (i * sz) ++ (cur.toList.drop ((i + 1) * sz)).take ((n - 1 - i) * sz)
  size : w'.heap.size = w.heap.size
  same : ∀ k, k ≠ g → w'.heap[k]? = w.heap[k]?
  below : ∀ B w0, B ≤ g → Below B w0 w → Below B w0 w'
theorem Del.of {g i n sz : Nat} {t : TypeId} {cur : Array Value} {w : World} {zs : List Value} (h : w.heap[g]? = some (.cells cur t (0, 0))) (hi : i < n) (hn : n * sz ≤ cur.size) (hz : zs.length = sz) :
    Del g i n sz t cur w ((w.drew.setCells g (0 + i * sz) ((cur.toList.drop ((i + 1) * sz)).take ((n - (i + 1)) * sz))).setCells g (0 + (i + (n - (i + 1))) * sz) zs) := by
  have hm : (i + 1) * sz ≤ n * sz := Nat.mul_le_mul_right _ hi
  have e1 : (i + 1) * sz = i * sz + sz := by rw [Nat.add_mul, Nat.one_mul]
  have e2 : (n - (i + 1)) * sz = n * sz - (i + 1) * sz := Nat.sub_mul _ _ _
  have e3 : (n - 1) * sz = n * sz - sz := by rw [Nat.sub_mul, Nat.one_mul]
  have e4 : (i + (n - (i + 1))) * sz = (n - 1) * sz := by congr 1; omega
  have e5 : n - 1 - i = n - (i + 1) := by omega
  have hl : ((cur.toList.drop ((i + 1) * sz)).take ((n - (i + 1)) * sz)).length = (n - (i + 1)) * sz := by simp; omega
  have r1 := heap_setCells_row ((cur.toList.drop ((i + 1) * sz)).take ((n - (i + 1)) * sz)) (0 + i * sz) w.drew cur h (by rw [hl]; omega)
  have hs1 := size_over (cs := cur) (vs := ((cur.toList.drop ((i + 1) * sz)).take ((n - (i + 1)) * sz)).toArray) (off := 0 + i * sz) (by rw [List.size_toArray, hl]; omega)
  have r2 := heap_setCells_row zs (0 + (i + (n - (i + 1))) * sz) _ _ r1 (by rw [hs1]; omega)
  refine ⟨⟨_, r2, ?_, ?_⟩, ?_, ?_, ?_⟩
  · rw [size_over (by rw [List.size_toArray, hs1]; omega), hs1]
  · rw [over_toList, over_toList, e4, List.take_append_of_le_length, List.take_append_of_le_length]
    · rw [Nat.zero_add, Nat.zero_add, List.take_take, Nat.min_self, List.take_append_of_le_length]
      · rw [List.take_of_length_le, e5]
        simp; omega
      · simp; omega
    · simp; omega
    · simp; omega
  · rw [setCells_size, setCells_size]; rfl
  · intro k hk
    rw [setCells_other hk, setCells_other hk]; rfl
  · intro B w0 hB hb
    exact setCells_below hB _ _ _ (setCells_below hB _ _ _ hb.drew)
end Go.Proofs.Ythahadhdhpcndaa
