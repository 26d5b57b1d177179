/- slices.Delete of one packet: the walk. -/
import Derived.Test.YthahadhdhpcndaaDelete
namespace Go.Proofs.Ythahadhdhpcndaa
open Go Go.RowKit
set_option linter.unusedVariables false
set_option linter.unusedSimpArgs false

theorem run_zero {P : Program} {e : TypeId} {i : TypeInfo} {z : Value} (h1 : P.info? e = some i) (h2 : i.zero = some z) (w : World) : (zeroValue e).run P w = .ok z w := by
  simp [zeroValue, typeInfo, h1, h2, Sem.run_bind]
theorem zero44 : ∃ z, (∀ w, (zeroValue 44).run Try.prog w = .ok z w) ∧ z.cells.size = 57 ∧ ∀ v ∈ z.cells.toList, v.oneCell' = true := by
  obtain ⟨i0, h1, h2, h3, h4⟩ := info_parts info44
  refine ⟨_, fun w => run_zero h1 h2 w, by rfl, fun v hv => ?_⟩
  simp [Value.cells] at hv
  repeat (first | (rcases hv with rfl | hv; · rfl) | (subst hv; rfl))
set_option maxHeartbeats 2000000 in
set_option maxRecDepth 100000 in
theorem delete42 (g i j n cap : Nat) (cur : Array Value) (w : World) (hj : j = i + 1) (hb : w.heap[g]? = some (.cells cur 44 (0, 0))) (hi : i < n) (hc : n ≤ cap) (hm : cap ≤ maxLen) (hs : cur.size = cap * 57) (h1 : ∀ v ∈ cur.toList.take (n * 57), v.oneCell' = true) :
    Calls Try.prog 42 #[.slice (some ⟨g, 0, none⟩) n cap, .int .i64 (i : Int), .int .i64 (j : Int)] w fun e w' => e = .returned (.slice (some ⟨g, 0, none⟩) (n - 1) cap) ∧ Del g i n 57 44 cur w w' := by
  have q1 : ((i : Int) == (j : Int)) = false := by rw [beq_eq_false_iff_ne]; omega
  obtain ⟨i0, hinf, hz0, hz1, hz2⟩ := info_parts info44
  obtain ⟨z, z1, z2, z3⟩ := zero44
  obtain ⟨zs, hzs⟩ : ∃ zs, zs = z.cells.toList := ⟨_, rfl⟩
  obtain ⟨news, hnews⟩ : ∃ news, news = (cur.toList.drop (j * 57)).take ((n - j) * 57) := ⟨_, rfl⟩
  have hlen : news.length = (n - j) * 57 := by rw [hnews]; simp; omega
  obtain ⟨A, hA, hsrc⟩ : ∃ A : Addr, (if cap = j then some (⟨g, 0, none⟩ : Addr) else some ⟨g, j * 57, none⟩) = some A ∧ Hid (∀ t u, news[t]? = some u → w.drew.cell? (A.add t) = some u) := by
    by_cases h : cap = j
    · refine ⟨⟨g, 0, none⟩, by simp [h], Lib.hid fun t u hu => ?_⟩
      have h0 : news.length = 0 := by rw [hlen]; omega
      rw [List.length_eq_zero_iff.1 h0] at hu
      simp at hu
    · refine ⟨⟨g, j * 57, none⟩, by simp [h], Lib.hid fun t u hu => ?_⟩
      have ht := (List.getElem?_eq_some_iff.1 hu).1
      rw [hlen] at ht
      rw [hnews, List.getElem?_take_of_lt ht, List.getElem?_drop] at hu
      rw [add_off, cell_of_row w.drew g _ _ _ _ hb]
      simpa using hu
  have s1 := Lib.hid hlen
  have s2 : Hid (∀ u ∈ news, u.oneCell' = true) := Lib.hid fun u hu => by
    rw [hnews] at hu
    refine h1 u ?_
    have e : (n - j) * 57 = n * 57 - j * 57 := Nat.sub_mul _ _ _
    rw [e, ← List.drop_take] at hu
    exact List.mem_of_mem_drop hu
  have s3 : Hid (∀ t, t < news.length → (w.drew.cell? ⟨g, 0 + i * 57 + t, none⟩).isSome = true ∧ w.drew.frozen? ⟨g, 0 + i * 57 + t, none⟩ = false) := Lib.hid fun t ht => by
    rw [hlen] at ht
    refine ⟨?_, frozen_of_row w.drew g _ _ _ hb⟩
    rw [cell_of_row w.drew g _ _ _ _ hb, Array.getElem?_eq_getElem (by omega)]
    rfl
  obtain ⟨W1, hW1⟩ : ∃ W1, W1 = w.drew.setCells g (0 + i * 57) news := ⟨_, rfl⟩
  have hr1 := heap_setCells_row news (0 + i * 57) w.drew cur hb (by rw [hlen]; omega)
  rw [← hW1] at hr1
  have hs1 : (over cur (0 + i * 57) news.toArray).size = cur.size := size_over (by rw [List.size_toArray, hlen]; omega)
  have hone : n - (i + (n - j)) = 1 := by omega
  have hcl : ∀ ty, (Builtin.clear_ #[59] ty #[.slice (some ⟨g, (i + (n - j)) * 57, none⟩) 1 (cap - (i + (n - j)))]).run Try.prog W1 = .ok (.tuple #[]) (W1.setCells g ((i + (n - j)) * 57) zs) :=
    fun ty => by
    rw [hzs]
    exact run_clear_one W1 59 44 ty z Try.underlying59 (z1 W1) z3 g _ _ (fun t ht => by
      rw [z2] at ht
      rw [cell_of_row W1 g _ _ _ _ hr1, Array.getElem?_eq_getElem (by rw [hs1]; omega)]
      rfl) (fun t _ => frozen_of_row W1 g _ _ _ hr1)
  have HD := Lib.hid (Del.of (sz := 57) (zs := zs) hb hi (by rw [hs]; omega) (by rw [hzs]; simpa using z2))
  have hW := Lib.hid hW1
  have hN := Lib.hid hnews
  have HJ := Lib.hid hj
  have hic : i ≤ cap := by omega
  have hjc : j ≤ cap := by omega
  have hij : i ≤ j := by omega
  have hjn : j ≤ n := by omega
  have hle : i + (n - j) ≤ n := by omega
  clear hW1 hnews hlen hr1 hs1 hs hb h1 z1 z2 z3 hj hzs z
  go_enter Try.func42, Try.ntmps42
  go_wp2_with fail
  go_region_law (refine step_append_room rfl (.tmp 22) (.tmp 25) 59 rfl 44 i0 57 Try.underlying59 hinf hz1 g 0 i cap (by simp [Act.eval, Act.put]) A (n - j) (cap - j) news (by simp [Act.eval, Act.put]) s1.out hsrc.out s2.out (by omega) s3.out ?_; rw [← hW.out])
  go_wp2
  go_ret
  have e1 := HJ.out
  have e2 := hN.out
  have e3 := hW.out
  have e4 := HD.out
  subst e1
  refine ⟨by rw [show n - 1 = i + (n - (i + 1)) by omega]; rfl, ?_⟩
  rw [← e2, ← e3, Nat.zero_add] at e4
  exact e4
end Go.Proofs.Ythahadhdhpcndaa
