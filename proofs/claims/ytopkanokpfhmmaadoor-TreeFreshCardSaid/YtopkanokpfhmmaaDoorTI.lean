/- slices.Insert of one number into a row of the call's own; slices.BinarySearch. -/
import Derived.Test.YtopkanokpfhmmaaDoorTT
import Derived.Deep.QuietTactic
import Derived.Deep.RegionLaw
import Derived.Deep.AppendLies
import Derived.Lib.Overlaps
import Derived.Laws.Externs
import Derived.Lib.AppendZerosOnto
import Derived.Lib.AppendZeros
import Derived.Laws.NewBlocks
namespace Go.Proofs.YtopkanokpfhmmaaDoor
open Go Go.RowKit
set_option linter.unusedVariables false
set_option linter.unusedSimpArgs false

theorem wpList_copy_eq {P : Program} (w : World) {ops : Array Oper} {rest : List Oper} {o : Oper} {a : Act} {Q : Exit → Act → World → Prop} (hgd : o.guard = none) (d s : Operand) (t t' : TypeId)
    (ho : o.op = .call { callee := .builtin .copy, args := #[d, s], argTypes := #[t, t'] }) (v u : Value) (hd : a.eval d = v) (hs : a.eval s = u) {v' : Value} {w' : World}
    (hr : (Builtin.copy_ #[t, t'] o.type #[v, u]).run P w = .ok v' w') (h : wpList P ops Q rest (a.put o.dst v') w') : wpList P ops Q (o :: rest) a w := by
  refine wpList_plain hgd fun K hK => ?_
  unfold Oper.wp execOp
  simp only [ho, resolve, invoke, builtin, Sem.run_bind, Sem.run_pure, Result.andThen_ok, List.map_toArray, List.map_cons, List.map_nil, hd, hs, hr]
  exact hK _ _ h
theorem step_copy_eq {P : Program} {ops : Array Oper} {o : Oper} {a : Act} {w : World} {K : Act → World → Prop} {Q : Exit → Act → World → Prop} {E : Prop}
    (hg : o.guard = none) (d x : Operand) (dT sT : TypeId) (hop : o.op = Op.call { callee := Callee.builtin Builtin.copy, args := #[d, x], argTypes := #[dT, sT] })
    (v u : Value) (hd : a.eval d = v) (hx : a.eval x = u) {v' : Value} {w' : World} (hr : (Builtin.copy_ #[dT, sT] o.type #[v, u]).run P w = .ok v' w') (hK : K (a.put o.dst v') w') :
    if Region.wanted o (yielded ops a.tmps) = true then Oper.wp P o a w K Q else E := by
  have hw : Region.wanted o (yielded ops a.tmps) = true := by simp [Region.wanted, hg]
  rw [if_pos hw]
  unfold Oper.wp
  simp [execOp, hop, resolve, invoke, builtin, hd, hx, hr, Result.andThen]
  exact hK
/-- A row of numbers in its block. -/
theorem OwnI.row {w : World} {B : Nat} {v : Value} {l : List Int} (h : OwnI w B v l) (h0 : 0 < l.length) : ∃ b c f, v = .slice (some ⟨b, 0, none⟩) l.length c ∧ B ≤ b ∧ w.rowIs b 3 c f ∧ l.length ≤ c ∧ c ≤ maxLen ∧ ∀ j x, l[j]? = some x → f j = .int .i64 x := by
  rcases h.2 with ⟨_, h1⟩ | ⟨g, cap, cur, rfl, hb, hg, hn, hm, hs, ht⟩
  · omega
  · refine ⟨g, cap, fun j => cur.getD j (.int .i64 0), rfl, hb, ⟨cur, hg, by omega, fun i hi => by show cur[i]? = some (cur.getD i _); rw [Array.getD_eq_getD_getElem?, Array.getElem?_eq_getElem (by omega)]; rfl⟩, hn, hm, fun j x hj => ?_⟩
    have hlt := (List.getElem?_eq_some_iff.1 hj).1
    have : (l.map (Value.int .i64))[j]? = some (.int .i64 x) := by rw [List.getElem?_map, hj]; rfl
    rw [← ht, List.getElem?_take_of_lt (by omega), Array.getElem?_toList] at this
    simp [Array.getD_eq_getD_getElem?, this]
theorem OwnI.of_row {w : World} {B b c : Nat} {f : Nat → Value} {l : List Int} (hB : B ≤ b) (hr : w.rowIs b 3 c f) (hn : l.length ≤ c) (hm : c ≤ maxLen) (hf : ∀ j x, l[j]? = some x → f j = .int .i64 x) : OwnI w B (.slice (some ⟨b, 0, none⟩) l.length c) l := by
  obtain ⟨cur, hg, hs, hc⟩ := hr
  refine ⟨by simp, .inr ⟨b, c, cur, rfl, hB, hg, hn, hm, by omega, ?_⟩⟩
  apply List.ext_getElem?
  intro j
  rw [Nat.mul_one]
  by_cases hj : j < l.length
  · rw [List.getElem?_take_of_lt hj, Array.getElem?_toList, hc j (by omega), List.getElem?_map, List.getElem?_eq_getElem hj, hf j _ (List.getElem?_eq_getElem hj)]
    rfl
  · rw [List.getElem?_eq_none (by simp; omega), List.getElem?_eq_none (by simp; omega)]
/-- What Insert of one number leaves. -/
structure InsP (B : Nat) (u : Value) (l : List Int) (w : World) (e : Ending) (w' : World) : Prop where
  out : ∃ u', e = .returned u' ∧ OwnI w' B u' l ∧ (u'.ownBlock = u.ownBlock ∨ u'.ownBlock = some w.heap.size)
  grown : w.grownBy w' u.ownBlock
theorem size3 : (Tryd.prog.info? 3).map (·.size) = some 1 := by
  obtain ⟨i0, hi0, h0, h1, h2⟩ := info_parts info3
  rw [hi0]; simp [h1]
theorem run_size3 : ∀ w, (Go.sizeOf 3).run Tryd.prog w = .ok 1 w := fun w => by
  obtain ⟨i0, hi0, h0, h1, h2⟩ := info_parts info3
  simp [Go.sizeOf, typeInfo, hi0, h1, Sem.run_bind]
theorem grownBy_set (w : World) (b o : Nat) (v : Value) : w.grownBy (w.setCell ⟨b, o, none⟩ v) (some b) :=
  ⟨rfl, rfl, rfl, by simp, fun g hg hr => heap_setCell_other w _ _ _ (fun e => hr (by rw [e]))⟩
theorem grownBy_setCells {w : World} {b : Nat} : ∀ (vs : List Value) (o : Nat), w.grownBy (w.setCells b o vs) (some b)
  | [], o => World.grownBy.refl _ _
  | v :: vs, o => by
    show w.grownBy ((w.setCell ⟨b, o, none⟩ v).setCells b (o + 1) vs) (some b)
    exact (grownBy_set w b o v).trans (grownBy_setCells vs (o + 1))
set_option maxHeartbeats 2000000 in
set_option maxRecDepth 100000 in
theorem insert_end {w : World} {B vb : Nat} {u : Value} {l : List Int} {t : Int} (h : OwnI w B u l) (hB : B ≤ w.heap.size) (hl : l.length ≤ 100) (hv : w.heap[vb]? = some (.cells #[.int .i64 t] 3 (0, 0))) :
    Calls Tryd.prog 33 #[u, .int .i64 l.length, .slice (some ⟨vb, 0, none⟩) 1 1] w fun e w' => InsP B u (l ++ [t]) w e w' := by
  obtain ⟨i0, hinf, hz0, hz1, hz2⟩ := info_parts info3
  obtain ⟨g, cap, w', hr, ho, hg, hlies, hlt⟩ := run_append_lies (P := Tryd.prog) w 32 32 B 3 i0 (.int .i64 0) 1 8 Tryd.underlying32 hinf hz0 hz1 hz2 rfl (by decide) u l.length (l.map (Value.int .i64)) h ⟨vb, 0, none⟩ 1 1 [.int .i64 t] rfl
    (fun j u hj => by
      have : j = 0 := by have := (List.getElem?_eq_some_iff.1 hj).1; simp at this; omega
      subst this
      rw [Addr.add_lit, cell_of_row _ _ _ _ _ _ hv]
      exact hj)
    (by simp [Value.oneCell']) (by decide) (by unfold maxLen; omega) (by omega) hB w.heap.size rfl
  have HD : Hid (InsP B u (l ++ [t]) w (.returned (.slice (some ⟨g, 0, none⟩) (l.length + 1) cap)) w') := Lib.hid ⟨⟨_, rfl, by show w'.ownsRow _ _ _ _ _ _; rw [List.length_append, List.map_append]; exact ho, by
    rcases hlies with h1 | h1
    · exact .inl (by rw [h1]; rfl)
    · exact .inr (by rw [← h1]; rfl)⟩, hg⟩
  obtain ⟨A, c, rfl⟩ := h.slice
  have hc : l.length ≤ c := by obtain ⟨A', c', e, h1, _⟩ := h.ints; injection e with _ _ e; omega
  clear ho hg hlies hlt hinf hz0 hz1 hz2 hv h
  generalize l.length = n at *
  by_cases hcn : c = n
  · subst hcn
    go_enter Tryd.func33, Tryd.ntmps33
    go_wp2_with (at_builtin; refine Lib.wpList_append_run _ rfl _ _ 32 32 rfl _ _ rfl rfl _ _ hr ?_)
    go_ret
    exact HD.out
  · go_enter Tryd.func33, Tryd.ntmps33
    go_wp2_with (at_builtin; refine Lib.wpList_append_run _ rfl _ _ 32 32 rfl _ _ rfl rfl _ _ hr ?_)
    go_ret
    exact HD.out
set_option maxHeartbeats 4000000 in
set_option maxRecDepth 100000 in
theorem insert_room {w : World} {B b vb c n i : Nat} {f : Nat → Value} {l : List Int} {t : Int} (hB : B ≤ b) (hr : w.rowIs b 3 c f) (hn : l.length = n) (hf : ∀ j x, l[j]? = some x → f j = .int .i64 x) (hi : i < n) (hc : n + 1 ≤ c) (hm : c ≤ maxLen) (hn2 : n ≤ 100)
    (hv : w.heap[vb]? = some (.cells #[.int .i64 t] 3 (0, 0))) (hne : vb ≠ b) :
    Calls Tryd.prog 33 #[.slice (some ⟨b, 0, none⟩) n c, .int .i64 i, .slice (some ⟨vb, 0, none⟩) 1 1] w fun e w' => InsP B (.slice (some ⟨b, 0, none⟩) n c) (l.take i ++ t :: l.drop i) w e w' := by
  have hsa : w.shape? vb = some (3, 1) := by simp [World.shape?, hv]
  have hsb : w.shape? b = some (3, c) := by obtain ⟨cur, h1, h2, _⟩ := hr; simp [World.shape?, h1, h2]
  have hfv : ∀ j, w.frozen? ⟨vb, j, none⟩ = false := fun j => frozen_of_row w vb _ _ _ hv
  have hov : ∀ o lb cb, (callFunc 48 #[.slice (some ⟨vb, 0, none⟩) 1 1, .slice (some ⟨b, o, none⟩) lb cb]).run Tryd.prog w = .ok (.value (.bool false)) w := fun o lb cb => by
    rw [run_callFunc_extern Tryd.func48 (by kernel_rfl) (by kernel_rfl) (by kernel_rfl) (e := Extern.SlicesOverlaps.overlaps #[32, 32] #[4]) (by kernel_rfl),
      Lib.run_overlaps_apart w 32 4 3 Tryd.underlying32 1 run_size3 ⟨vb, 0, none⟩ ⟨b, o, none⟩ 1 1 lb cb hne 3 3 1 c hsa hsb (by omega) (hfv _) (hfv _)]
    rfl
  have hls : ∀ u ∈ (l.drop i).map (Value.int .i64), u.oneCell' = true := by
    intro u hu
    obtain ⟨z, _, rfl⟩ := List.mem_map.1 hu
    rfl
  have hlen : ((l.drop i).map (Value.int .i64)).length = n - i := by simp [hn]
  have hcp1 : ∀ ty dc sc, (Builtin.copy_ #[32, 32] ty #[.slice (some ⟨b, i + 1, none⟩) (n - i) dc, .slice (some ⟨b, i, none⟩) (n + 1 - i) sc]).run Tryd.prog w.drew = .ok (goInt (Nat.min (n + 1 - i) (n - i))) (w.drew.setCells b (i + 1) ((l.drop i).map (Value.int .i64))) := fun ty dc sc =>
    run_copy_part w.drew 32 32 ty 3 1 b (i + 1) (n - i) dc ⟨b, i, none⟩ (n + 1 - i) sc _ Tryd.underlying32 size3 (by rw [hlen]; show n - i = min (n + 1 - i) (n - i) * 1; omega)
      (fun j u hj => by
        have hj4 : j < n - i := by have := (List.getElem?_eq_some_iff.1 hj).1; omega
        rw [List.getElem?_map, List.getElem?_drop, Option.map_eq_some_iff] at hj
        obtain ⟨z, hz, rfl⟩ := hj
        rw [Addr.add_lit, hr.drew.cell (by omega), hf _ _ hz])
      (fun j hj => by rw [hr.drew.cell (by omega)]; rfl)
      (fun j hj => hr.drew.frozen _) hls
  have hr1 := rowIs_setCells ((l.drop i).map (Value.int .i64)) (i + 1) _ _ hr.drew
  have hgr1 := grownBy_setCells (w := w.drew) (b := b) ((l.drop i).map (Value.int .i64)) (i + 1)
  obtain ⟨W1, hW1⟩ : ∃ W1, W1 = w.drew.setCells b (i + 1) ((l.drop i).map (Value.int .i64)) := ⟨_, rfl⟩
  rw [← hW1] at hcp1 hr1 hgr1
  have hv1 : W1.heap[vb]? = some (.cells #[.int .i64 t] 3 (0, 0)) := by
    rw [hgr1.block vb (by exact (Array.getElem?_eq_some_iff.1 hv).1) (fun e => hne (Option.some.inj e))]
    exact hv
  have hcp2 : ∀ (W : World), W.heap = W1.heap → ∀ ty dc, (Builtin.copy_ #[32, 32] ty #[.slice (some ⟨b, i, none⟩) (n + 1 - i) dc, .slice (some ⟨vb, 0, none⟩) 1 1]).run Tryd.prog W = .ok (goInt (Nat.min 1 (n + 1 - i))) (W.setCells b i [.int .i64 t]) := fun W hW ty dc => by
    have hrW := hr1.of_block (w' := W) (by rw [hW])
    exact run_copy_part W 32 32 ty 3 1 b i (n + 1 - i) dc ⟨vb, 0, none⟩ 1 1 _ Tryd.underlying32 size3 (by show 1 = min 1 (n + 1 - i) * 1; omega)
      (fun j u hj => by
        have : j = 0 := by have := (List.getElem?_eq_some_iff.1 hj).1; simp at this; omega
        subst this
        rw [Addr.add_lit, cell_of_row _ _ _ _ _ _ (by rw [hW]; exact hv1)]
        exact hj)
      (fun j hj => by simp at hj; rw [hrW.cell (by omega)]; rfl)
      (fun j hj => hrW.frozen _) (by simp [Value.oneCell'])
  have HD : Hid (∀ W : World, W = W1.setCells b i [.int .i64 t] → InsP B (.slice (some ⟨b, 0, none⟩) n c) (l.take i ++ t :: l.drop i) w (.returned (.slice (some ⟨b, 0, none⟩) (n + 1) c)) W) := Lib.hid fun W hW => by
    have hr2 := rowIs_setCells [Value.int .i64 t] i _ _ hr1
    rw [← hW] at hr2
    have hl2 : (l.take i ++ t :: l.drop i).length = n + 1 := by simp [hn]; omega
    refine ⟨⟨_, rfl, ?_, .inl rfl⟩, ?_⟩
    · have := OwnI.of_row (l := l.take i ++ t :: l.drop i) hB hr2 (by omega) hm (fun j x hj => ?_)
      · rw [hl2] at this; exact this
      · by_cases h1 : j = i
        · subst h1
          rw [dif_pos (by simp)]
          have : x = t := by
            rw [List.getElem?_append_right (by simp; omega)] at hj
            simp [show j - min j l.length = 0 by omega] at hj
            exact hj.symm
          simp [this]
        · rw [dif_neg (by simp; omega)]
          by_cases h2 : i + 1 ≤ j
          · have hjl : j < n + 1 := by have := (List.getElem?_eq_some_iff.1 hj).1; omega
            rw [dif_pos (by rw [hlen]; omega)]
            rw [List.getElem?_append_right (by simp; omega)] at hj
            obtain ⟨k, rfl⟩ : ∃ k, j = i + 1 + k := ⟨j - (i + 1), by omega⟩
            rw [List.length_take, show i + 1 + k - min i l.length = k + 1 by omega, List.getElem?_cons_succ] at hj
            have e := (List.getElem?_eq_some_iff.1 hj)
            simp only [show i + 1 + k - (i + 1) = k by omega, List.getElem_map]
            rw [e.2]
          · rw [dif_neg (by omega)]
            rw [List.getElem?_append_left (by simp; omega), List.getElem?_take_of_lt (by omega)] at hj
            exact hf j x hj
    · rw [hW]
      exact (World.grownBy.trans (show w.grownBy w.drew (some b) from ⟨rfl, rfl, rfl, Nat.le_refl _, fun _ _ _ => rfl⟩) hgr1).trans (grownBy_setCells _ _)
  have q1 : ¬ ((n : Int) + 1 > (c : Int)) := by omega
  unfold maxLen at hm
  clear hr hf hsa hsb hfv hls hlen hr1 hgr1 hv1 hv hW1
  go_enter Tryd.func33, Tryd.ntmps33
  have k1 : IntKind.i64.wrap ((i : Int) + 1) = (i : Int) + 1 := by rw [IntKind.wrap_i64]; omega
  have k2 : ((i : Int) + 1).toNat = i + 1 := by omega
  have k3 : ¬ (c = i + 1) := by omega
  have k4 : ((i : Int) + 1 ≤ (n : Int) + 1) = True := eq_true (by omega)
  have k5 : ((0 : Int) ≤ (i : Int) + 1) = True := eq_true (by omega)
  have k6 : ¬ (c = i) := by omega
  have k7 : IntKind.i64.wrap (i : Int) = (i : Int) := by rw [IntKind.wrap_i64]; omega
  have k8 : ((i : Int) ≤ (n : Int) + 1) = True := eq_true (by omega)
  have k9 : n + 1 - (i + 1) = n - i := by omega
  go_wp2_with (simp only [hov])
  go_region_law (refine step_copy_eq rfl _ _ 32 32 rfl _ _ (by simp [Act.eval, Act.put]) (by simp [Act.eval, Act.put]) (hcp1 _ _ _) ?_)
  go_wp2_with (at_builtin; refine wpList_copy_eq _ rfl _ _ 32 32 rfl _ _ rfl rfl (hcp2 _ rfl _ _) ?_)
  go_ret
  exact HD.out _ rfl
/-- Of a list with one more: what stands where. -/
theorem ins_get {l : List Int} {i : Nat} {t : Int} (hi : i ≤ l.length) {j : Nat} {x : Int} (hj : (l.take i ++ t :: l.drop i)[j]? = some x) :
    (j = i ∧ x = t) ∨ (j < i ∧ l[j]? = some x) ∨ (i < j ∧ j < l.length + 1 ∧ l[j - 1]? = some x) := by
  by_cases h1 : j = i
  · subst h1
    rw [List.getElem?_append_right (by simp; omega), List.length_take, show j - min j l.length = 0 by omega, List.getElem?_cons_zero] at hj
    exact .inl ⟨rfl, (Option.some.inj hj).symm⟩
  · by_cases h2 : j < i
    · rw [List.getElem?_append_left (by simp; omega), List.getElem?_take_of_lt h2] at hj
      exact .inr (.inl ⟨h2, hj⟩)
    · rw [List.getElem?_append_right (by simp; omega), List.length_take, show j - min i l.length = (j - 1 - i) + 1 by omega, List.getElem?_cons_succ, List.getElem?_drop, show i + (j - 1 - i) = j - 1 by omega] at hj
      have := (List.getElem?_eq_some_iff.1 hj).1
      exact .inr (.inr ⟨by omega, by omega, hj⟩)
theorem setCells_heap (g : Nat) : ∀ (vs : List Value) (o : Nat) (w w' : World), w.heap = w'.heap → (w.setCells g o vs).heap = (w'.setCells g o vs).heap
  | [], _, _, _, h => h
  | v :: r, o, w, w', h => setCells_heap g r (o + 1) _ _ (by simp only [World.setCell, h])
theorem os_setCells (g : Nat) : ∀ (vs : List Value) (o : Nat) (w : World), (w.setCells g o vs).os = w.os ∧ (w.setCells g o vs).tape = w.tape ∧ (w.setCells g o vs).output = w.output
  | [], _, _ => ⟨rfl, rfl, rfl⟩
  | v :: r, o, w => os_setCells g r (o + 1) _
set_option maxHeartbeats 4000000 in
set_option maxRecDepth 100000 in
theorem insert_grow {w : World} {B b vb n i : Nat} {f : Nat → Value} {l : List Int} {t : Int} (hB : B ≤ w.heap.size) (hr : w.rowIs b 3 n f) (hn : l.length = n) (hf : ∀ j x, l[j]? = some x → f j = .int .i64 x) (hi : i < n) (hn2 : n ≤ 100)
    (hv : w.heap[vb]? = some (.cells #[.int .i64 t] 3 (0, 0))) :
    Calls Tryd.prog 33 #[.slice (some ⟨b, 0, none⟩) n n, .int .i64 i, .slice (some ⟨vb, 0, none⟩) 1 1] w fun e w' => InsP B (.slice (some ⟨b, 0, none⟩) n n) (l.take i ++ t :: l.drop i) w e w' := by
  obtain ⟨i0, hi0, hz0, hzs, hzb⟩ := info_parts info3
  have hbl := hr.lt
  have hvl := (Array.getElem?_eq_some_iff.1 hv).1
  have hold : (Builtin.firstCells i0.size i (.slice (some ⟨b, 0, none⟩) i n)).run Tryd.prog w.drew = .ok ((l.take i).map (Value.int .i64)).toArray w.drew := by
    rw [hzs]
    exact run_firstCells_some w.drew 1 i ⟨b, 0, none⟩ i n ((l.take i).map (Value.int .i64)) (by simp; omega) (fun j v hj => by
      rw [List.getElem?_map, Option.map_eq_some_iff] at hj
      obtain ⟨z, hz, rfl⟩ := hj
      have hji : j < i := by have := (List.getElem?_eq_some_iff.1 hz).1; simp at this; omega
      rw [List.getElem?_take_of_lt hji] at hz
      rw [Addr.add_lit, Nat.zero_add, hr.drew.cell (by omega), hf _ _ hz])
  obtain ⟨G, hG⟩ : ∃ G, G = grownCap w (i + (n + 1 - i)) n 3 := ⟨_, rfl⟩
  have hGn : n + 1 ≤ G := by have := grownCap_ge w (i + (n + 1 - i)) n 3; omega
  have hG63 : G ≤ maxLen := by
    have := grownCap_le_maxLen w (i + (n + 1 - i)) n 3 (by unfold maxLen; omega)
    rw [← hG] at this
    exact this
  have hrz : ∀ ty, (Builtin.append_ #[32, 3] ty #[.slice (some ⟨b, 0, none⟩) i n, .int .i64 ((n + 1 - i : Nat) : Int)]).run Tryd.prog w =
      .ok (.slice (some ⟨w.heap.size, 0, none⟩) (i + (n + 1 - i)) G) (w.drew.alloc (.cells (((l.take i).map (Value.int .i64)).toArray ++ Builtin.zeroCells #[.int .i64 0] (n + 1 - i) ++ Builtin.zeroCells #[.int .i64 0] (G - (i + (n + 1 - i)))) 3)) := fun ty => by
    have h := Lib.run_append_grow_zeros w 32 3 ty 3 i0 (.int .i64 0) .i64 .i64 Tryd.underlying32 Tryd.underlying3 hi0 hz0 (some ⟨b, 0, none⟩) i n ((l.take i).map (Value.int .i64)) hold (n + 1 - i) (by omega) (by rw [hzs]; omega) (by omega) (by omega) (by rw [hzb]; omega) (by rw [hzb]; exact growslice_fits (by omega) (by omega))
    rw [hG]
    exact h
  rw [show i + (n + 1 - i) = n + 1 by omega] at hrz
  obtain ⟨ROW, hROW⟩ : ∃ ROW : Array Value, ROW = ((l.take i).map (Value.int .i64)).toArray ++ Builtin.zeroCells #[.int .i64 0] (n + 1 - i) ++ Builtin.zeroCells #[.int .i64 0] (G - (n + 1)) := ⟨_, rfl⟩
  rw [← hROW] at hrz
  have hRl : ROW.size = G := by
    rw [hROW]
    simp [Builtin.zeroCells]
    omega
  obtain ⟨W1, hW1⟩ : ∃ W1, W1 = w.drew.alloc (.cells ROW 3) := ⟨_, rfl⟩
  rw [← hW1] at hrz
  have n1 : W1.rowIs w.heap.size 3 G (fun j => ROW.getD j (.int .i64 0)) := by
    rw [hW1, ← hRl]
    exact World.rowIs_alloc w.drew ROW 3 _ (fun j hj => by
      show ROW[j]? = some (ROW.getD j _)
      rw [Array.getD_eq_getD_getElem?, Array.getElem?_eq_getElem hj]
      rfl)
  have n0 : ∀ j x, j < i → l[j]? = some x → ROW.getD j (.int .i64 0) = .int .i64 x := fun j x hj hx => by
    have hlt := (List.getElem?_eq_some_iff.1 hx).1
    have hsz : ((l.take i).map (Value.int .i64)).length = i := by simp; omega
    rw [hROW, Array.append_assoc, Array.getD_eq_getD_getElem?, Array.getElem?_append_left (by simp; omega)]
    simp [hj, hx]
  have n2 : ∀ k, k < w.heap.size → W1.heap[k]? = w.heap[k]? := fun k hk => by rw [hW1]; exact Below.heap_alloc w.drew _ k hk
  have n3 : w.grownBy W1 (some b) := by rw [hW1]; exact World.grownBy.trans (show w.grownBy w.drew (some b) from ⟨rfl, rfl, rfl, Nat.le_refl _, fun _ _ _ => rfl⟩) (World.grownBy_alloc _ _ _)
  have hcpA : ∀ (W : World), W.heap = W1.heap → ∀ ty dc, (Builtin.copy_ #[32, 32] ty #[.slice (some ⟨w.heap.size, i, none⟩) (n + 1 - i) dc, .slice (some ⟨vb, 0, none⟩) 1 1]).run Tryd.prog W = .ok (goInt (Nat.min 1 (n + 1 - i))) (W.setCells w.heap.size i [.int .i64 t]) := fun W hW ty dc => by
    have hrW := n1.of_block (w' := W) (by rw [hW])
    exact run_copy_part W 32 32 ty 3 1 w.heap.size i (n + 1 - i) dc ⟨vb, 0, none⟩ 1 1 _ Tryd.underlying32 size3 (by show 1 = min 1 (n + 1 - i) * 1; omega)
      (fun j u hj => by
        have : j = 0 := by have := (List.getElem?_eq_some_iff.1 hj).1; simp at this; omega
        subst this
        rw [Addr.add_lit, cell_of_row _ _ _ _ _ _ (by rw [hW, n2 vb hvl]; exact hv)]
        exact hj)
      (fun j hj => by simp at hj; rw [hrW.cell (by omega)]; rfl)
      (fun j hj => hrW.frozen _) (by simp [Value.oneCell'])
  have hr1 := rowIs_setCells [Value.int .i64 t] i _ _ n1
  have hls : ∀ u ∈ (l.drop i).map (Value.int .i64), u.oneCell' = true := by
    intro u hu
    obtain ⟨z, _, rfl⟩ := List.mem_map.1 hu
    rfl
  have hlen : ((l.drop i).map (Value.int .i64)).length = n - i := by simp [hn]
  have hcpB : ∀ (W : World), W.heap = (W1.setCells w.heap.size i [.int .i64 t]).heap → ∀ ty dc sc, (Builtin.copy_ #[32, 32] ty #[.slice (some ⟨w.heap.size, i + 1, none⟩) (n - i) dc, .slice (some ⟨b, i, none⟩) (n - i) sc]).run Tryd.prog W = .ok (goInt (Nat.min (n - i) (n - i))) (W.setCells w.heap.size (i + 1) ((l.drop i).map (Value.int .i64))) := fun W hW ty dc sc => by
    have hrW := hr1.of_block (w' := W) (by rw [hW])
    have hrb : W.rowIs b 3 n f := hr.of_block (by
      rw [hW]
      have hg := grownBy_setCells (w := W1) (b := w.heap.size) [Value.int .i64 t] i
      rw [hg.block b (by have := n1.lt; omega) (fun e => by injection e with e; omega), n2 b hbl])
    exact run_copy_part W 32 32 ty 3 1 w.heap.size (i + 1) (n - i) dc ⟨b, i, none⟩ (n - i) sc _ Tryd.underlying32 size3 (by rw [hlen]; show n - i = min (n - i) (n - i) * 1; omega)
      (fun j u hj => by
        have hj4 : j < n - i := by have := (List.getElem?_eq_some_iff.1 hj).1; omega
        rw [List.getElem?_map, List.getElem?_drop, Option.map_eq_some_iff] at hj
        obtain ⟨z, hz, rfl⟩ := hj
        rw [Addr.add_lit, hrb.cell (by omega), hf _ _ hz])
      (fun j hj => by rw [hrW.cell (by omega)]; rfl)
      (fun j hj => hrW.frozen _) hls
  obtain ⟨ls, hls2⟩ : ∃ ls, ls = (l.drop i).map (Value.int .i64) := ⟨_, rfl⟩
  have hr2 := rowIs_setCells ((l.drop i).map (Value.int .i64)) (i + 1) _ _ hr1
  have HD : Hid (∀ W : World, W.os = w.os → W.tape = w.tape → W.output = w.output → W.heap = ((W1.setCells w.heap.size i [.int .i64 t]).setCells w.heap.size (i + 1) ls).heap → InsP B (.slice (some ⟨b, 0, none⟩) n n) (l.take i ++ t :: l.drop i) w (.returned (.slice (some ⟨w.heap.size, 0, none⟩) (n + 1) G)) W) := Lib.hid fun W e1 e2 e3 hW => by
    rw [hls2] at hW
    have hrW := hr2.of_block (w' := W) (by rw [hW])
    have hl2 : (l.take i ++ t :: l.drop i).length = n + 1 := by simp [hn]; omega
    refine ⟨⟨_, rfl, ?_, .inr rfl⟩, ?_⟩
    · have := OwnI.of_row (l := l.take i ++ t :: l.drop i) hB hrW (by omega) hG63 (fun j x hj => ?_)
      · rw [hl2] at this; exact this
      · rcases ins_get (by omega) hj with ⟨rfl, rfl⟩ | ⟨h1, h2⟩ | ⟨h1, h2, h3⟩
        · rw [dif_neg (by omega), dif_pos (by simp)]
          simp
        · rw [dif_neg (by omega), dif_neg (by simp; omega)]
          exact n0 j x h1 h2
        · rw [dif_pos (by rw [hlen]; omega)]
          simp only [List.getElem_map, List.getElem_drop]
          have e := (List.getElem?_eq_some_iff.1 h3)
          rw [← e.2]
          congr 2
          omega
    · refine ⟨e1, e2, e3, ?_, fun k hk hne => ?_⟩
      · rw [hW]
        have := n3.size
        have := (grownBy_setCells (w := W1) (b := w.heap.size) [Value.int .i64 t] i).size
        have := (grownBy_setCells (w := W1.setCells w.heap.size i [.int .i64 t]) (b := w.heap.size) ((l.drop i).map (Value.int .i64)) (i + 1)).size
        omega
      · rw [hW]
        have h1 := (grownBy_setCells (w := W1) (b := w.heap.size) [Value.int .i64 t] i)
        have h2 := (grownBy_setCells (w := W1.setCells w.heap.size i [.int .i64 t]) (b := w.heap.size) ((l.drop i).map (Value.int .i64)) (i + 1))
        have s1 := n3.size
        have s2 := h1.size
        rw [h2.block k (by omega) (fun e => by injection e with e; omega), h1.block k (by omega) (fun e => by injection e with e; omega), n2 k hk]
  have k1 : IntKind.i64.wrap ((i : Int) + 1) = (i : Int) + 1 := by rw [IntKind.wrap_i64]; omega
  have k2 : ((i : Int) + 1).toNat = i + 1 := by omega
  have k3 : ¬ (G = i + 1) := by omega
  have k4 : ((i : Int) + 1 ≤ (n : Int) + 1) = True := eq_true (by omega)
  have k5 : ((0 : Int) ≤ (i : Int) + 1) = True := eq_true (by omega)
  have k6 : ¬ (G = i) := by omega
  have k7 : IntKind.i64.wrap (i : Int) = (i : Int) := by rw [IntKind.wrap_i64]; omega
  have k8 : ((i : Int) ≤ (n : Int) + 1) = True := eq_true (by omega)
  have k9 : n + 1 - (i + 1) = n - i := by omega
  have k10 : ¬ (n = i) := by omega
  have k12 : (i ≤ n) = True := eq_true (by omega)
  have k11 : (n : Int) + 1 - (i : Int) = ((n + 1 - i : Nat) : Int) := by omega
  have HN3 := Lib.hid n3
  have HW1 := Lib.hid hW1
  rw [← hls2] at hcpB
  unfold maxLen at hG63
  clear hr hf hn hv n1 n0 n2 n3 hr1 hr2 hls hlen hls2 hROW hRl hold hG hi0 hz0 hzs hzb
  subst hW1
  have hE : ((w.alloc (.cells ROW 3)).drew).heap = (w.drew.alloc (.cells ROW 3)).heap := rfl
  have hF : (((w.alloc (.cells ROW 3)).drew.setCells w.heap.size i [.int .i64 t]).drew).heap = ((w.drew.alloc (.cells ROW 3)).setCells w.heap.size i [.int .i64 t]).heap :=
    setCells_heap w.heap.size _ i ((w.alloc (.cells ROW 3)).drew) (w.drew.alloc (.cells ROW 3)) rfl
  go_enter Tryd.func33, Tryd.ntmps33
  go_wp2_with (first
    | (at_builtin; refine Lib.wpList_append_run _ rfl _ _ _ _ rfl _ _ rfl rfl _ _ (hrz _) ?_)
    | (at_builtin; refine wpList_copy_eq _ rfl _ _ 32 32 rfl _ _ rfl rfl (hcpA _ hE _ _) ?_))
  go_region_law (refine step_copy_eq rfl _ _ 32 32 rfl (.slice (some ⟨w.heap.size, i + 1, none⟩) (n - i) (G - (i + 1))) (.slice (some ⟨b, i, none⟩) (n - i) (n - i)) (by simp [Act.eval, Act.put]) (by simp [Act.eval, Act.put]) (hcpB _ hF 3 (G - (i + 1)) (n - i)) ?_)
  go_wp2
  go_ret
  have hZ := setCells_heap w.heap.size ls (i + 1) _ _ hF
  have h8 := os_setCells w.heap.size ls (i + 1) (((w.alloc (.cells ROW 3)).drew.setCells w.heap.size i [.int .i64 t]).drew)
  have h9 := os_setCells w.heap.size [.int .i64 t] i ((w.alloc (.cells ROW 3)).drew)
  exact HD.out _ (h8.1.trans h9.1) (h8.2.1.trans h9.2.1) (h8.2.2.trans h9.2.2) hZ
/-- Insert of one number, wherever. -/
theorem insert33 {w : World} {B vb : Nat} {u : Value} {l : List Int} {i : Nat} {t : Int} (h : OwnI w B u l) (hB : B ≤ w.heap.size) (hi : i ≤ l.length) (hl : l.length ≤ 100) (hv : w.heap[vb]? = some (.cells #[.int .i64 t] 3 (0, 0))) (hne : u.ownBlock ≠ some vb) :
    Calls Tryd.prog 33 #[u, .int .i64 i, .slice (some ⟨vb, 0, none⟩) 1 1] w fun e w' => InsP B u (l.take i ++ t :: l.drop i) w e w' := by
  by_cases he : i = l.length
  · subst he
    have := insert_end h hB hl hv
    rw [List.take_length, List.drop_length]
    exact this
  · obtain ⟨b, c, f, rfl, hb, hr, hn, hm, hf⟩ := h.row (by omega)
    by_cases hc : l.length + 1 ≤ c
    · exact insert_room hb hr rfl hf (by omega) hc hm hl hv (fun e => hne (by rw [e]; rfl))
    · obtain rfl : c = l.length := by omega
      exact insert_grow hB hr rfl hf (by omega) hl hv
end Go.Proofs.YtopkanokpfhmmaaDoor
