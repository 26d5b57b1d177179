/- Net: Deliver. -/
import Derived.Test.YthahadhdhpcndaaDel
import Derived.Laws.ResultCell
namespace Go.Proofs.Ythahadhdhpcndaa
open Go Go.RowKit
set_option linter.unusedVariables false
set_option linter.unusedSimpArgs false

theorem prow_erase (cs : List (Array Value)) (i : Nat) (hs : ∀ x ∈ cs, x.size = 57) (hi : i < cs.length) : prow (cs.eraseIdx i) = (prow cs).take (i * 57) ++ ((prow cs).drop ((i + 1) * 57)).take ((cs.length - 1 - i) * 57) := by
  have hl : ∀ (l : List (Array Value)), (∀ x ∈ l, x.size = 57) → (prow l).length = l.length * 57 := by
    intro l
    induction l with
    | nil => intro _; rfl
    | cons x l ih =>
      intro h
      have h1 := ih fun y hy => h y (by simp [hy])
      have h2 := h x (by simp)
      simp [prow] at h1 ⊢
      rw [h1, h2]; omega
  have hap : ∀ l m : List (Array Value), prow (l ++ m) = prow l ++ prow m := fun l m => by simp [prow]
  have e1 : cs = cs.take i ++ cs.drop i := (List.take_append_drop i cs).symm
  have e2 : cs = cs.take (i + 1) ++ cs.drop (i + 1) := (List.take_append_drop (i + 1) cs).symm
  have l1 := hl (cs.take i) fun x hx => hs x (List.mem_of_mem_take hx)
  have l2 := hl (cs.take (i + 1)) fun x hx => hs x (List.mem_of_mem_take hx)
  have l3 := hl (cs.drop (i + 1)) fun x hx => hs x (List.mem_of_mem_drop hx)
  rw [List.length_take, Nat.min_eq_left (by omega)] at l1 l2
  rw [List.length_drop] at l3
  have t1 : (prow cs).take (i * 57) = prow (cs.take i) := by
    conv => lhs; rw [e1, hap]
    rw [← l1, List.take_left']
    rfl
  have t2 : (prow cs).drop ((i + 1) * 57) = prow (cs.drop (i + 1)) := by
    conv => lhs; rw [e2, hap]
    rw [← l2, List.drop_left']
    rfl
  have t3 : (prow (cs.drop (i + 1))).take ((cs.length - 1 - i) * 57) = prow (cs.drop (i + 1)) := List.take_of_length_le (by rw [l3]; exact Nat.mul_le_mul_right _ (by omega))
  rw [t1, t2, t3, ← hap, List.eraseIdx_eq_take_drop_succ]
theorem prow_len (cs : List (Array Value)) (hs : ∀ x ∈ cs, x.size = 57) : (prow cs).length = cs.length * 57 := by
  induction cs with
  | nil => rfl
  | cons x l ih =>
    have h1 := ih fun y hy => hs y (by simp [hy])
    have h2 := hs x (by simp)
    simp [prow] at h1 ⊢
    rw [h1, h2]; omega
theorem NetI.one {w : World} {B g : Nat} {v : Value} {cs : List (Array Value)} {L : List PackD} (h : NetI w B g v cs L) : ∀ u ∈ prow cs, u.oneCell' = true := by
  intro u hu
  simp only [prow, List.mem_flatten, List.mem_map] at hu
  obtain ⟨_, ⟨x, hx, rfl⟩, hu⟩ := hu
  obtain ⟨j, hj, e⟩ := List.getElem_of_mem hx
  have hj2 : j < L.length := by rw [← h.len]; exact hj
  exact (h.sub j x L[j] (by rw [List.getElem?_eq_getElem hj, e]) (List.getElem?_eq_getElem hj2)).one u hu
structure DelP (B g : Nat) (v : Value) (cs : List (Array Value)) (L : List PackD) (i : Nat) (w : World) (e : Ending) (w' : World) : Prop where
  out : ∃ c d v', cs[i]? = some c ∧ L[i]? = some d ∧ e = .returned (.tuple #[.agg c, .int .i64 0]) ∧ NetI w' B g v' (cs.eraseIdx i) (L.eraseIdx i) ∧ RdP (fun b => B ≤ b ∧ b ≠ g ∧ v'.ownBlock ≠ some b) w' c d ∧ Fr B w w' g v v'
/-- Behind Delete and the store of the new row. -/
theorem NetI.deleted {w w' : World} {B g b cap i : Nat} {cur cur' c : Array Value} {cs : List (Array Value)} {L : List PackD} {d : PackD} (h : NetI w B g (.slice (some ⟨b, 0, none⟩) L.length cap) cs L)
    (hi : i < L.length) (hb : w.heap[b]? = some (.cells cur 44 (0, 0))) (hg' : w'.heap[g]? = some (.cells #[.bool true, .slice (some ⟨b, 0, none⟩) (L.length - 1) cap] 63 (0, 0))) (q1 : w'.heap[b]? = some (.cells cur' 44 (0, 0))) (q2 : cur'.size = cur.size)
    (q3 : cur'.toList.take ((L.length - 1) * 57) = cur.toList.take (i * 57) ++ (cur.toList.drop ((i + 1) * 57)).take ((L.length - 1 - i) * 57)) (K : Kn (fun k => k ≠ g ∧ k ≠ b) w w') (hBel : Below B w w') (hc : cs[i]? = some c) (hd' : L[i]? = some d) :
    NetI w' B g (.slice (some ⟨b, 0, none⟩) (L.length - 1) cap) (cs.eraseIdx i) (L.eraseIdx i) ∧ RdP (fun k => B ≤ k ∧ k ≠ g ∧ (Value.slice (some ⟨b, 0, none⟩) (L.length - 1) cap).ownBlock ≠ some k) w' c d ∧
      Fr B w w' g (.slice (some ⟨b, 0, none⟩) L.length cap) (.slice (some ⟨b, 0, none⟩) (L.length - 1) cap) := by
  have hbg : b ≠ g := fun e => h.far (by simp [Value.ownBlock, e])
  have hlen := h.len
  rcases h.row.2 with ⟨e, _⟩ | ⟨b', cap', cur0, e1, e2, e3, e4, e5, e6, e7⟩
  · cases e
  have e8 : b = b' ∧ cap = cap' := by
    injection e1 with e1 _ e9
    injection e1 with e1
    injection e1 with e1
    exact ⟨e1, e9⟩
  obtain ⟨rfl, rfl⟩ := e8
  have e9 : cur0 = cur := by
    have := e3.symm.trans hb
    injection this with this
    injection this
  subst e9
  have hsub : ∀ (j : Nat) (x : Array Value) (y : PackD), cs[j]? = some x → L[j]? = some y → RdP (fun k => B ≤ k ∧ k ≠ g ∧ (Value.slice (some ⟨b, 0, none⟩) (L.length - 1) cap).ownBlock ≠ some k) w' x y := fun j x y hx hy =>
    (((h.sub j x y hx hy).mono (ok' := fun k => (k ≠ g ∧ k ≠ b) ∧ B ≤ k) fun k _ hk => ⟨⟨hk.2.1, fun e => hk.2.2 (by simp [Value.ownBlock, e])⟩, hk.1⟩).keep (K.mono' fun k hk => hk.1)).mono fun k _ hk => ⟨hk.2, hk.1.1, fun e => hk.1.2 (by simpa [Value.ownBlock] using e.symm)⟩
  refine ⟨⟨hg', h.lo, Nat.le_trans h.hB K.1, by rw [List.length_eraseIdx, List.length_eraseIdx, hlen], ?_, fun e => hbg (by simpa [Value.ownBlock] using e), ?_⟩, hsub i c d hc hd', ⟨K.1, ?_, ?_, hBel⟩⟩
  · have hLe : (L.eraseIdx i).length = L.length - 1 := by rw [List.length_eraseIdx, if_pos hi]
    rw [hLe]
    have hsz : ∀ x ∈ cs.eraseIdx i, x.size = 57 := fun x hx => h.sizes x (List.mem_of_mem_eraseIdx hx)
    refine ⟨by rw [prow_len _ hsz, List.length_eraseIdx, if_pos (by omega), hlen], .inr ⟨b, cap, cur', rfl, e2, q1, by omega, e5, by rw [q2, e6], ?_⟩⟩
    rw [q3, prow_erase cs i h.sizes (by omega), hlen, ← e7]
    have m1 : i * 57 ≤ L.length * 57 := Nat.mul_le_mul_right _ (Nat.le_of_lt hi)
    have m2 : (i + 1) * 57 ≤ L.length * 57 := Nat.mul_le_mul_right _ hi
    rw [List.take_take, Nat.min_eq_left m1, List.drop_take, List.take_take, Nat.min_eq_left]
    omega
  · intro j x y hx hy
    rw [List.getElem?_eraseIdx] at hx hy
    by_cases hj : j < i
    · rw [if_pos hj] at hx hy
      exact hsub j x y hx hy
    · rw [if_neg hj] at hx hy
      exact hsub _ x y hx hy
  · intro k hk hkg hkb
    exact K.2 k hk ⟨hkg, fun e => hkb (by simp [Value.ownBlock, e])⟩
  · intro k hk
    exact .inl (by simpa [Value.ownBlock] using hk)
theorem results_ct {P : Program} {fn : Func} {p u : Tmp} {ty : TypeId} (h : fn.results = #[.cell p ty, .tmp u]) (tmps : Array Value) (w : World) (g : Nat) (t : TypeId) (cs : Array Value) (fr : Nat × Nat) (d : TypeDesc)
    (hp : tmps.getD p undef = .pointer (some ⟨g, 0, none⟩)) (hg : w.heap[g]? = some (.cells cs t fr)) (hu : P.underlying ty = some d) (hd : (match d with | .struct _ | .array _ _ => true | _ => false) = true) (hi : (P.info? ty).map (·.size) = some cs.size) :
    (results fn tmps).run P w = .ok (.tuple #[.agg cs, tmps.getD u undef]) w := by
  have hp' : tmps[p]?.getD undef = .pointer (some ⟨g, 0, none⟩) := by simpa using hp
  simp [results, h, hp', asAddr, run_loadVar_row w g t ty cs fr d hg hu hd hi]
set_option maxHeartbeats 4000000 in
set_option maxRecDepth 100000 in
theorem deliver17 {w : World} {B g : Nat} {v : Value} {cs : List (Array Value)} {L : List PackD} (h : NetI w B g v cs L) (hL : L.length ≤ 4096) {i : Nat} (hi : i < L.length) :
    Calls Try.prog 17 #[.pointer (some ⟨g, 0, none⟩), .int .i64 (i : Int)] w fun e w' => DelP B g v cs L i w e w' := by
  obtain ⟨d, hd⟩ : ∃ d, L[i]? = some d := ⟨_, List.getElem?_eq_getElem hi⟩
  obtain ⟨z44, hz44⟩ : ∃ z : Array Value, z = #[.int .i64 0, .int .i64 0, .bool false, .int .i64 0, .int .u8 0, .int .i64 0, .int .i64 0, .int .i64 0, .int .i64 0, .int .i64 0, .int .i64 0, .int .i64 0, .bool false, .slice none 0 0, .slice none 0 0, .slice none 0 0, .slice none 0 0, .int .i64 0, .int .i64 0, .slice none 0 0, .int .i64 0, .int .i64 0, .int .u8 0, .int .i64 0, .int .i64 0, .int .i64 0, .int .i64 0, .int .i64 0, .bool false, .slice none 0 0, .slice none 0 0, .slice none 0 0, .slice none 0 0, .int .i64 0, .int .i64 0, .slice none 0 0, .int .i64 0, .int .i64 0, .int .i64 0, .int .i64 0, .int .i64 0, .int .i64 0, .int .i64 0, .int .i64 0, .int .i64 0, .slice none 0 0, .int .i64 0, .int .i64 0, .int .i64 0, .int .i64 0, .int .i64 0, .int .i64 0, .int .i64 0, .int .i64 0, .int .i64 0, .int .i64 0, .int .i64 0] := ⟨_, rfl⟩
  have hzs : z44.size = 57 := by rw [hz44]; rfl
  have hb1 : Below w.heap.size w (w.alloc (.cells z44 44)) := (Below.refl _ _).alloc (Nat.le_refl _) _
  have hn1 := h.below hb1
  have M0 := at41 hn1 (i : Int)
  rw [if_pos (by omega)] at M0
  have hb2 : Below w.heap.size w ((w.alloc (.cells z44 44)).alloc (.cells z44 44)) := hb1.alloc (by simp) _
  have hn2 := h.below hb2
  obtain ⟨b, cap, cur, c, rfl, hb, hc, hf, hx⟩ := h.at hi
  have x1 : ((w.alloc (.cells z44 44)).alloc (.cells z44 44)).heap[w.heap.size]? = some (.cells z44 44 (0, 0)) := heap_alloc2_old w _ _
  have x2 : ((w.alloc (.cells z44 44)).alloc (.cells z44 44)).heap[w.heap.size + 1]? = some (.cells z44 44 (0, 0)) := heap_alloc2_new w _ _
  have hbw1 := (hb1.block b (lt_of_some hb)).trans hb
  have c1 := hn1.c1
  obtain ⟨W3, hW3⟩ : ∃ W3, W3 = ((w.alloc (.cells z44 44)).alloc (.cells z44 44)).setRow (w.heap.size + 1) (over z44 0 c) := ⟨_, rfl⟩
  have hb3 : Below w.heap.size w W3 := by rw [hW3]; exact below_setRow hb2 (by omega)
  have hn3 := h.below hb3
  have c3 := hn3.c1
  have hbw3 := (hb3.block b (lt_of_some hb)).trans hb
  have y1 : W3.heap[w.heap.size]? = some (.cells z44 44 (0, 0)) := by rw [hW3]; exact (setRow_ne (by omega)).trans x1
  have y2 : W3.heap[w.heap.size + 1]? = some (.cells c 44 (0, 0)) := by
    rw [hW3]
    exact (setRow_same x2).trans (congrArg (fun z => some (Obj.cells z 44 (0, 0))) (over_full (by rw [hzs, (h.sub i c d hc hd).size])))
  have hrow := hn3.row
  have HW3 := Lib.hid hW3
  have M1 : Calls Try.prog 42 #[.slice (some ⟨b, 0, none⟩) L.length cap, .int .i64 (i : Int), .int .i64 ((i : Int) + 1)] W3 fun e w' => e = .returned (.slice (some ⟨b, 0, none⟩) (L.length - 1) cap) ∧ Del b i L.length 57 44 cur W3 w' := by
    rcases hrow.2 with ⟨e, _⟩ | ⟨b', cap', cur0, e1, e2, e3, e4, e5, e6, e7⟩
    · cases e
    injection e1 with e1 _ e9
    injection e1 with e1
    injection e1 with e1
    subst e1 e9
    have e8 : cur0 = cur := by
      have := e3.symm.trans hbw3
      injection this with this
      injection this
    subst e8
    have := delete42 b i (i + 1) L.length cap cur0 W3 rfl hbw3 hi e4 e5 e6 (by rw [e7]; exact hn3.one)
    rwa [show (((i + 1 : Nat) : Int)) = (i : Int) + 1 by omega] at this
  have H3 := Lib.hid (And.intro hb3 (And.intro hn3 (And.intro hbw3 (And.intro y1 y2))))
  have hcs := (h.sub i c d hc hd).size
  have hco := (h.sub i c d hc hd).one
  have HX := Lib.hid (And.intro hbw1 (And.intro x1 (And.intro x2 (And.intro hf (And.intro hx (And.intro hcs (And.intro hco hzs)))))))
  have HN := Lib.hid (And.intro h (And.intro hn2 (And.intro hb2 (And.intro hb (And.intro hc hd)))))
  have HZ := Lib.hid hz44
  have i0 : (0 : Int) ≤ (i : Int) := by omega
  have i1 : (i : Int) < (L.length : Int) := by omega
  clear hn3 hb3 hbw3 y1 y2 hrow hW3
  clear h hn1 hn2 hb1 hb2 hb hc hf hx x1 x2 hbw1 hcs hco hzs hd hz44
  go_enter Try.func17, Try.ntmps17
  go_wp2_with fail
  rw [← HZ.out]
  refine M0.mono ?_
  rintro e w' ⟨rfl, rfl⟩
  go_wp2_with (first | (with_reducible refine wpList_load_part' rfl 44 _ rfl b (i * 57) 57 rfl 44 cur (0, 0) _ HX.out.1 Try.underlying44 rfl cells44 HX.out.2.2.2.1 c HX.out.2.2.2.2.1 ?_) | (rw [← HZ.out]; with_reducible refine wpList_store_part rfl 44 _ _ rfl rfl _ 0 57 rfl 44 _ _ rfl HX.out.2.2.1 cells44 HX.out.2.2.2.2.2.1 (by rw [HX.out.2.2.2.2.2.2.2]; decide) HX.out.2.2.2.2.2.2.1 ?_; rw [← HW3.out]))
  refine M1.mono ?_
  rintro e w4 ⟨rfl, HD⟩
  have hbg : b ≠ g := fun e => HN.out.1.far (by simp [Value.ownBlock, e])
  have hgw := lt_of_some HN.out.1.blk
  have g4 := (HD.same g (fun e => hbg e.symm)).trans H3.out.2.1.blk
  have k4 : (w4.cell? ⟨g, 1, none⟩) = some (.slice (some ⟨b, 0, none⟩) L.length cap) := by rw [cell_of_row w4 g 1 _ _ _ g4]; rfl
  have f4 : w4.frozen? ⟨g, 1, none⟩ = false := frozen_of_row w4 g 1 _ _ g4
  have hbw := lt_of_some HN.out.2.2.2.1
  have y4 : (w4.setCell ⟨g, 1, none⟩ (.slice (some ⟨b, 0, none⟩) (L.length - 1) cap)).heap[w.heap.size]? = some (.cells z44 44 (0, 0)) := (heap_setCell_other w4 ⟨g, 1, none⟩ _ _ (show w.heap.size ≠ g by omega)).trans ((HD.same _ (by omega)).trans H3.out.2.2.2.1)
  have y5 : (w4.setCell ⟨g, 1, none⟩ (.slice (some ⟨b, 0, none⟩) (L.length - 1) cap)).heap[w.heap.size + 1]? = some (.cells c 44 (0, 0)) := (heap_setCell_other w4 ⟨g, 1, none⟩ _ _ (show w.heap.size + 1 ≠ g by omega)).trans ((HD.same _ (by omega)).trans H3.out.2.2.2.2)
  have H4 := Lib.hid (And.intro HD (And.intro y4 y5))
  clear M1 HD y4 y5 g4
  go_wp2_with (first | (with_reducible refine wpList_load_row rfl 44 _ rfl _ rfl 44 _ _ _ H4.out.2.2 Try.underlying44 rfl (by rw [cells44, HX.out.2.2.2.2.2.1]) ?_) | (with_reducible refine wpList_store_part rfl 44 _ _ rfl rfl _ 0 57 rfl 44 _ _ rfl H4.out.2.1 cells44 HX.out.2.2.2.2.2.1 (by rw [HX.out.2.2.2.2.2.2.2]; decide) HX.out.2.2.2.2.2.2.1 ?_))
  have hfin : ((w4.setCell ⟨g, 1, none⟩ (.slice (some ⟨b, 0, none⟩) (L.length - 1) cap)).setRow w.heap.size (over z44 0 c)).heap[w.heap.size]? = some (.cells c 44 (0, 0)) :=
    (setRow_same H4.out.2.1).trans (congrArg (fun z => some (Obj.cells z 44 (0, 0))) (over_full (by rw [HX.out.2.2.2.2.2.2.2, HX.out.2.2.2.2.2.1])))
  obtain ⟨cur', q1, q2, q3⟩ := H4.out.1.out
  have hlo := HN.out.1.lo
  have hBw := HN.out.1.hB
  have hgne : g ≠ w.heap.size := by omega
  have hbne : b ≠ w.heap.size := by omega
  have g5 : ((w4.setCell ⟨g, 1, none⟩ (.slice (some ⟨b, 0, none⟩) (L.length - 1) cap)).setRow w.heap.size (over z44 0 c)).heap[g]? = some (.cells #[.bool true, .slice (some ⟨b, 0, none⟩) (L.length - 1) cap] 63 (0, 0)) := by
    rw [setRow_ne hgne]
    exact heap_setCell_same w4 g 1 _ _ _ ((H4.out.1.same g (fun e => hbg e.symm)).trans H3.out.2.1.blk)
  have b5 : ((w4.setCell ⟨g, 1, none⟩ (.slice (some ⟨b, 0, none⟩) (L.length - 1) cap)).setRow w.heap.size (over z44 0 c)).heap[b]? = some (.cells cur' 44 (0, 0)) := by
    rw [setRow_ne hbne, heap_setCell_other w4 ⟨g, 1, none⟩ b _ hbg]
    exact q1
  have K5 : Kn (fun k => k ≠ g ∧ k ≠ b) w ((w4.setCell ⟨g, 1, none⟩ (.slice (some ⟨b, 0, none⟩) (L.length - 1) cap)).setRow w.heap.size (over z44 0 c)) := by
    refine ⟨?_, fun k hk hp => ?_⟩
    · have := H3.out.1.size
      have := H4.out.1.size
      simp; omega
    · rw [setRow_ne (by omega), heap_setCell_other w4 ⟨g, 1, none⟩ k _ hp.1, H4.out.1.same k hp.2]
      exact H3.out.1.block k hk
  have B5 : Below B w ((w4.setCell ⟨g, 1, none⟩ (.slice (some ⟨b, 0, none⟩) (L.length - 1) cap)).setRow w.heap.size (over z44 0 c)) := by
    have hbB : B ≤ b := (HN.out.1.vb b rfl).1
    exact below_setRow ((H4.out.1.below B w hbB (H3.out.1.mono hBw)).setCell hlo _) hBw
  obtain ⟨n1, n2, n3⟩ := NetI.deleted HN.out.1 hi HN.out.2.2.2.1 g5 b5 q2 q3 K5 B5 HN.out.2.2.2.2.1 HN.out.2.2.2.2.2
  exact bodyPost_ret (results_ct Try.results17 _ _ _ _ _ _ _ rfl hfin Try.underlying44 rfl (by rw [cells44, HX.out.2.2.2.2.2.1])) rfl ⟨c, d, _, HN.out.2.2.2.2.1, HN.out.2.2.2.2.2, rfl, n1, n2, n3⟩
end Go.Proofs.Ythahadhdhpcndaa
