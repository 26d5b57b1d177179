/- The book: one more list of terms is held. -/
import Derived.Test.YtenaljhkdnhgpaaGreatDoorLib
import Derived.Test.YtenaljhkdnhgpaaGreatDoorPhase
namespace Go.Proofs.YtenaljhkdnhgpaaGreatDoor.Bk
open Go Go.RowKit
set_option linter.unusedVariables false
set_option linter.unusedSimpArgs false

theorem info105 : (Tryz.prog.info? 105).map (fun i => (i.zero, i.size, i.bytes)) = some (some (.agg #[.slice none 0 0, .int .i64 0]), 2, 32) := by kernel_rfl
set_option maxHeartbeats 4000000 in
set_option maxRecDepth 100000 in
theorem keepTerm (K : KD) (hK : K.HT = 105) {w : World} {B : Nat} {F : Nat → Prop} {lv : Value} {hs : List (Value × Int)} {lim kf : Nat → Nat} (bb : Nat) (bc : Array Value) (v : Value) (m : Int) (h : HL K w B F lv hs lim kf) (hb : w.heap[bb]? = some (.cells bc 66 (0, 0))) (h0 : bc[0]? = some (.int .i64 m)) (hl : bc[5]? = some lv)
    (hFb : ¬ F bb) (hv : OwnH K w B v m (lim hs.length) (kf hs.length)) (hd : ∀ b, v.ownBlock = some b → ¬ F b ∧ b ≠ bb) (hn : hs.length ≤ 1000000) (hm : -9223372036854775808 ≤ m ∧ m ≤ 9223372036854775807) (hB : B ≤ w.heap.size) :
    Calls Tryz.prog 34 #[.pointer (some ⟨bb, 0, none⟩), v] w fun e w' => e = .returned (.tuple #[]) ∧ KeepP K w B F bb bc 5 66 v m hs lim kf w' := by
  obtain ⟨A, n, c, rfl⟩ : ∃ A n c, v = .slice A n c := by
    rcases hv with h1 | ⟨g, o, n, cap, cur, h1, _⟩
    · exact ⟨_, _, _, h1⟩
    · exact ⟨_, _, _, h1⟩
  obtain ⟨A0, c0, rfl⟩ := h.slice
  have hlb := lt_of_some hb
  have hcc : ∀ w' : World, w'.heap[bb]? = w.heap[bb]? → w'.cell? ⟨bb, 5, none⟩ = some (.slice A0 hs.length c0) ∧ w'.cell? ⟨bb, 0, none⟩ = some (.int .i64 m) := fun w' e =>
    ⟨(cell_of_row w' bb _ _ _ _ (e.trans hb)).trans hl, (cell_of_row w' bb _ _ _ _ (e.trans hb)).trans h0⟩
  have hne : (Value.slice A0 hs.length c0).ownBlock ≠ some bb := fun e => hFb (h.inF bb e)
  obtain ⟨l1, l2⟩ := hcc w rfl
  have HC := Lib.hid (And.intro hcc (And.intro hlb (And.intro h (And.intro hb (And.intro hv hd)))))
  have HNE : Hid ((Value.slice A0 hs.length c0).ownBlock = some bb → False) := Lib.hid hne
  have hrw := own_below h.row (Below.refl w.heap.size w).drew
  obtain ⟨i0, hinf, hz0, hz1, hz2⟩ := info_parts info105
  rw [hK] at hrw
  have HRW := Lib.hid (hrw.alloc (.cells #[.slice A n c, .int .i64 m] 105))
  have HSD : Hid (B ≤ (w.drew.alloc (.cells #[.slice A n c, .int .i64 m] 105)).heap.size) := Lib.hid (by simp; exact Nat.le_succ_of_le hB)
  have HK := Lib.hid hK
  have HFB : Hid (F bb → False) := Lib.hid hFb
  have HLT : Hid (bb < (w.drew.alloc (.cells #[.slice A n c, .int .i64 m] 105)).heap.size) := Lib.hid (by simp; exact Nat.lt_succ_of_lt hlb)
  have HNW : Hid (([.slice A n c, .int .i64 m] : List Value).length = 1 * 2 ∧ (∀ j u, ([.slice A n c, .int .i64 m] : List Value)[j]? = some u → (w.drew.alloc (.cells #[.slice A n c, .int .i64 m] 105)).cell? ((⟨w.drew.heap.size, 0, none⟩ : Addr).add j) = some u) ∧ ∀ u ∈ ([.slice A n c, .int .i64 m] : List Value), u.oneCell' = true) :=
    Lib.hid ⟨rfl, World.news_of_block (cs := #[.slice A n c, .int .i64 m]) (heap_alloc_new _ _), by simp [Value.oneCell']⟩
  clear hcc h hb h0 hl hFb hv hd hne hlb hK hrw
  go_enter Tryz.func34, Tryz.ntmps34
  go_wp2_with fail
  refine Go.Proofs.Phase.wp_region_ph (S := (fun w' => w'.cell? ⟨bb, 5, none⟩ = some (.slice A0 hs.length c0) ∧ w'.cell? ⟨bb, 0, none⟩ = some (.int .i64 m))) 15 (by kernel_rfl) ?_ (fun hHeld => ?_)
  · ((try dsimp only) <;> (first | exact HC.out.1 _ rfl | assumption | exact HC.out.1 _ (Below.heap_alloc _ _ _ HC.out.2.1)))
  refine Go.Proofs.Phase.wpPh_take' (i := 0) (by simp only [List.getElem?_toArray, List.getElem?_cons_succ, List.getElem?_cons_zero]; rfl) ?_
  refine ⟨?_, ⟨by kernel_rfl, by kernel_rfl, by kernel_rfl, by kernel_rfl⟩, fun _ _ _ h => h, Or.inl ⟨by rfl, ?_⟩, by assumption, ?_⟩
  rotate_left
  · (intro w hSw; (try dsimp only at hSw); go_simp; with_reducible rfl)
  try simp only [Act.put, List.setIfInBounds_toArray, List.set_cons_zero, List.set_cons_succ]
  refine Go.Proofs.Phase.wpPh_take' (i := 1) (by simp only [List.getElem?_toArray, List.getElem?_cons_succ, List.getElem?_cons_zero]; rfl) ?_
  refine ⟨?_, ⟨by kernel_rfl, by kernel_rfl, by kernel_rfl, by kernel_rfl⟩, fun _ _ _ h => h, Or.inl ⟨by rfl, ?_⟩, by assumption, ?_⟩
  rotate_left
  · (intro w hSw; (try dsimp only at hSw); go_simp; with_reducible rfl)
  try simp only [Act.put, List.setIfInBounds_toArray, List.set_cons_zero, List.set_cons_succ]
  refine Go.Proofs.Phase.wpPh_take' (i := 2) (by simp only [List.getElem?_toArray, List.getElem?_cons_succ, List.getElem?_cons_zero]; rfl) ?_
  refine ⟨?_, ⟨by kernel_rfl, by kernel_rfl, by kernel_rfl, by kernel_rfl⟩, fun _ _ _ h => h, Or.inl ⟨by rfl, ?_⟩, by assumption, ?_⟩
  rotate_left
  · (intro w hSw; (try dsimp only at hSw); go_simp; with_reducible rfl)
  try simp only [Act.put, List.setIfInBounds_toArray, List.set_cons_zero, List.set_cons_succ]
  refine Go.Proofs.Phase.wpPh_take' (i := 3) (by simp only [List.getElem?_toArray, List.getElem?_cons_succ, List.getElem?_cons_zero]; rfl) ?_
  refine ⟨?_, ⟨by kernel_rfl, by kernel_rfl, by kernel_rfl, by kernel_rfl⟩, fun _ _ _ h => h, Or.inl ⟨by rfl, ?_⟩, by assumption, ?_⟩
  rotate_left
  · (intro w hSw; (try dsimp only at hSw); go_simp; with_reducible rfl)
  try simp only [Act.put, List.setIfInBounds_toArray, List.set_cons_zero, List.set_cons_succ]
  refine Go.Proofs.Phase.wpPh_take' (i := 4) (by simp only [List.getElem?_toArray, List.getElem?_cons_succ, List.getElem?_cons_zero]; rfl) ?_
  refine ⟨?_, ⟨by kernel_rfl, by kernel_rfl, by kernel_rfl, by kernel_rfl⟩, fun _ _ _ h => h, Or.inl ⟨by rfl, ?_⟩, by assumption, ?_⟩
  rotate_left
  · (intro w hSw; (try dsimp only at hSw); go_simp; with_reducible rfl)
  try simp only [Act.put, List.setIfInBounds_toArray, List.set_cons_zero, List.set_cons_succ]
  refine Go.Proofs.Phase.wpPh_take' (i := 5) (by simp only [List.getElem?_toArray, List.getElem?_cons_succ, List.getElem?_cons_zero]; rfl) ?_
  refine ⟨?_, ⟨by kernel_rfl, by kernel_rfl, by kernel_rfl, by kernel_rfl⟩, fun _ _ _ h => h, Or.inl ⟨by rfl, ?_⟩, by assumption, ?_⟩
  rotate_left
  · (intro w hSw; (try dsimp only at hSw); go_simp; with_reducible rfl)
  try simp only [Act.put, List.setIfInBounds_toArray, List.set_cons_zero, List.set_cons_succ]
  refine Go.Proofs.Phase.wpPh_take' (i := 6) (by simp only [List.getElem?_toArray, List.getElem?_cons_succ, List.getElem?_cons_zero]; rfl) ?_
  refine ⟨?_, ⟨by kernel_rfl, by kernel_rfl, by kernel_rfl, by kernel_rfl⟩, fun _ _ _ h => h, Or.inl ⟨by rfl, ?_⟩, by assumption, ?_⟩
  rotate_left
  · (intro w hSw; (try dsimp only at hSw); go_simp; with_reducible rfl)
  try simp only [Act.put, List.setIfInBounds_toArray, List.set_cons_zero, List.set_cons_succ]
  refine Go.Proofs.Phase.wpPh_take' (i := 7) (by simp only [List.getElem?_toArray, List.getElem?_cons_succ, List.getElem?_cons_zero]; rfl) ?_
  refine ⟨?_, ⟨by kernel_rfl, by kernel_rfl, by kernel_rfl, by kernel_rfl⟩, fun _ _ _ h => h, Or.inl ⟨by rfl, ?_⟩, by assumption, ?_⟩
  rotate_left
  · (intro w hSw; (try dsimp only at hSw); go_simp; with_reducible rfl)
  try simp only [Act.put, List.setIfInBounds_toArray, List.set_cons_zero, List.set_cons_succ]
  refine Go.Proofs.Phase.wpPh_take' (i := 8) (by simp only [List.getElem?_toArray, List.getElem?_cons_succ, List.getElem?_cons_zero]; rfl) ?_
  refine ⟨?_, ⟨by kernel_rfl, by kernel_rfl, by kernel_rfl, by kernel_rfl⟩, fun _ _ _ h => h, Or.inl ⟨by rfl, ?_⟩, by assumption, ?_⟩
  rotate_left
  · (intro w hSw; (try dsimp only at hSw); go_simp; with_reducible rfl)
  try simp only [Act.put, List.setIfInBounds_toArray, List.set_cons_zero, List.set_cons_succ]
  refine Go.Proofs.Phase.wpPh_take' (i := 9) (by simp only [List.getElem?_toArray, List.getElem?_cons_succ, List.getElem?_cons_zero]; rfl) ?_
  refine ⟨?_, ⟨by kernel_rfl, by kernel_rfl, by kernel_rfl, by kernel_rfl⟩, fun _ _ _ h => h, Or.inl ⟨by rfl, ?_⟩, by assumption, ?_⟩
  rotate_left
  · (intro w hSw; (try dsimp only at hSw); go_simp; with_reducible rfl)
  try simp only [Act.put, List.setIfInBounds_toArray, List.set_cons_zero, List.set_cons_succ]
  refine Go.Proofs.Phase.wpPh_take' (i := 10) (by simp only [List.getElem?_toArray, List.getElem?_cons_succ, List.getElem?_cons_zero]; rfl) ?_
  refine ⟨?_, ⟨by kernel_rfl, by kernel_rfl, by kernel_rfl, by kernel_rfl⟩, fun _ _ _ h => h, Or.inl ⟨by rfl, ?_⟩, by assumption, ?_⟩
  rotate_left
  · (intro w hSw; (try dsimp only at hSw); go_simp; with_reducible rfl)
  try simp only [Act.put, List.setIfInBounds_toArray, List.set_cons_zero, List.set_cons_succ]
  refine Go.Proofs.Phase.wpPh_before (i := 11) (by kernel_rfl) (by simp only [List.getElem?_toArray, List.getElem?_cons_succ, List.getElem?_cons_zero]; rfl) (fun K hK => ?_)
  ((first
      | (with_reducible refine step_buildSlice_one rfl 35 105 _ rfl 2 _ i0 Tryz.underlying35 hinf hz0 hz1 rfl #[.slice A n c, .int .i64 m] rfl rfl (by decide) (by decide) ?_)
      | ((with_reducible refine step_append_lies _ rfl _ _ 35 rfl B 105 i0 _ 2 32 Tryz.underlying35 hinf hz0 hz1 hz2 rfl (by decide) (.slice A0 hs.length c0) hs.length (hrow hs) rfl HRW.out ⟨w.drew.heap.size, 0, none⟩ 1 1 [.slice A n c, .int .i64 m] rfl HNW.out.1 HNW.out.2.1 HNW.out.2.2 (by decide) (by unfold maxLen; omega) (by omega) HSD.out (w.drew.heap.size + 1) (by simp) ?_); intro g' cap' w4 o1 o2 o3 o4; have y4 := (o2.block bb HLT.out (fun e => HNE.out e.symm)).trans (Below.heap_alloc _ _ _ HC.out.2.1); have K9 := HC.out.1 w4 y4; have f1 : w4.frozen? ⟨bb, 5, none⟩ = false := frozen_of_row w4 bb _ _ _ (y4.trans HC.out.2.2.2.1))))
  refine hK.out _ _ ?_ (fun hHeldN => ?_)
  · ((try dsimp only) <;> (first | exact HC.out.1 _ rfl | assumption | exact HC.out.1 _ (Below.heap_alloc _ _ _ HC.out.2.1)))
  clear hHeld
  have hHeld := hHeldN
  clear hHeldN
  clear hK K
  try simp only [Act.put, List.setIfInBounds_toArray, List.set_cons_zero, List.set_cons_succ]
  refine Go.Proofs.Phase.wpPh_before (i := 12) (by kernel_rfl) (by simp only [List.getElem?_toArray, List.getElem?_cons_succ, List.getElem?_cons_zero]; rfl) (fun K hK => ?_)
  ((first
      | (with_reducible refine step_buildSlice_one rfl 35 105 _ rfl 2 _ i0 Tryz.underlying35 hinf hz0 hz1 rfl #[.slice A n c, .int .i64 m] rfl rfl (by decide) (by decide) ?_)
      | ((with_reducible refine step_append_lies _ rfl _ _ 35 rfl B 105 i0 _ 2 32 Tryz.underlying35 hinf hz0 hz1 hz2 rfl (by decide) (.slice A0 hs.length c0) hs.length (hrow hs) rfl HRW.out ⟨w.drew.heap.size, 0, none⟩ 1 1 [.slice A n c, .int .i64 m] rfl HNW.out.1 HNW.out.2.1 HNW.out.2.2 (by decide) (by unfold maxLen; omega) (by omega) HSD.out (w.drew.heap.size + 1) (by simp) ?_); intro g' cap' w4 o1 o2 o3 o4; have y4 := (o2.block bb HLT.out (fun e => HNE.out e.symm)).trans (Below.heap_alloc _ _ _ HC.out.2.1); have K9 := HC.out.1 w4 y4; have f1 : w4.frozen? ⟨bb, 5, none⟩ = false := frozen_of_row w4 bb _ _ _ (y4.trans HC.out.2.2.2.1))))
  refine hK.out _ _ ?_ (fun hHeldN => ?_)
  · ((try dsimp only) <;> (first | exact HC.out.1 _ rfl | assumption | exact HC.out.1 _ (Below.heap_alloc _ _ _ HC.out.2.1)))
  clear hHeld
  have hHeld := hHeldN
  clear hHeldN
  clear hK K
  try simp only [Act.put, List.setIfInBounds_toArray, List.set_cons_zero, List.set_cons_succ]
  refine Go.Proofs.Phase.wpPh_before (i := 13) (by kernel_rfl) (by simp only [List.getElem?_toArray, List.getElem?_cons_succ, List.getElem?_cons_zero]; rfl) (fun K hK => ?_)
  go_simp
  refine hK.out _ _ ?_ (fun hHeldN => ?_)
  · ((try dsimp only) <;> (first | exact HC.out.1 _ rfl | assumption | exact HC.out.1 _ (Below.heap_alloc _ _ _ HC.out.2.1)))
  clear hHeld
  have hHeld := hHeldN
  clear hHeldN
  clear hK K
  try simp only [Act.put, List.setIfInBounds_toArray, List.set_cons_zero, List.set_cons_succ]
  refine Go.Proofs.Phase.wpPh_take' (i := 14) (by simp only [List.getElem?_toArray, List.getElem?_cons_succ, List.getElem?_cons_zero]; rfl) ?_
  refine ⟨?_, ⟨by kernel_rfl, by kernel_rfl, by kernel_rfl, by kernel_rfl⟩, fun _ _ _ h => h, Or.inl ⟨by rfl, ?_⟩, by assumption, ?_⟩
  rotate_left
  · (intro w hSw; (try dsimp only at hSw); go_simp; with_reducible rfl)
  try simp only [Act.put, List.setIfInBounds_toArray, List.set_cons_zero, List.set_cons_succ]
  refine Go.Proofs.Phase.wpPh_behind (i := 15) (by kernel_rfl) (by simp only [List.getElem?_toArray, List.getElem?_cons_succ, List.getElem?_cons_zero]; rfl) (by kernel_rfl) (fun K hK => ?_)
  go_simp
  refine hK.out _ _ ?_
  clear hK K
  try simp only [Act.put, List.setIfInBounds_toArray, List.set_cons_zero, List.set_cons_succ]
  refine Go.Proofs.Phase.wpPh_done (by kernel_rfl) ?_ _
  obtain ⟨hcc, hlb, h, hb, hv, hd⟩ := HC.out
  have hB1 : Below w.heap.size w (w.drew.alloc (.cells #[.slice A n c, .int .i64 m] 105)) := (Below.refl _ _).drew.alloc (Nat.le_refl _) _
  have hs1 : (w.drew.alloc (.cells #[.slice A n c, .int .i64 m] 105)).heap.size = w.heap.size + 1 := by simp
  have z4 := heap_setCell_same w4 bb 5 _ _ (.slice (some ⟨g', 0, none⟩) (hs.length + 1) cap') (y4.trans hb)
  have hL1 := h.keep (X := fun _ => False) (Chg.of_below hB1) (fun _ _ h => h)
  have hP := hL1.push (F' := fun b => F b ∨ (Value.slice A n c).ownBlock = some b ∨ (w.heap.size ≤ b ∧ b < w4.heap.size)) (Nat.le_trans hB hB1.size) (hv.keep fun b hb' => hB1.block b (hv.lt hb').1) hm (fun b hb' => (hd b hb').1) (by rw [HK.out]; exact o1) o2 (by rw [hs1]; exact o3)
    (fun b hb' => .inl hb') (by
      rcases o3 with o3 | o3
      · exact .inl (h.inF g' o3)
      · exact .inr (.inr ⟨by have : w.drew.heap.size = w.heap.size := rfl; omega, o4⟩)) (fun b hb' => .inr (.inl hb'))
  have hc4 : Chg (fun b => F b ∨ b = bb) w w4 := (Chg.of_below hB1).trans (Chg.grown o2 fun k hk => .inl (h.inF k hk))
  have hc5 := hc4.trans (Chg.setCell (X := fun b => F b ∨ b = bb) w4 ⟨bb, 5, none⟩ (.slice (some ⟨g', 0, none⟩) (hs.length + 1) cap') (.inr rfl))
  have hnbb : ∀ b, (F b ∨ (Value.slice A n c).ownBlock = some b ∨ (w.heap.size ≤ b ∧ b < w4.heap.size)) → ¬ (b = bb) := fun b hb' e => by
    subst e
    rcases hb' with hb' | hb' | hb'
    · exact HFB.out hb'
    · exact (hd b hb').2 rfl
    · omega
  have hP5 := hP.keep (Chg.setCell (X := (· = bb)) w4 ⟨bb, 5, none⟩ (.slice (some ⟨g', 0, none⟩) (hs.length + 1) cap') rfl) hnbb
  have hsz : (w4.setCell ⟨bb, 5, none⟩ (.slice (some ⟨g', 0, none⟩) (hs.length + 1) cap')).heap.size = w4.heap.size := by simp
  obtain ⟨w5, hw5⟩ : ∃ w5, w5 = w4.setCell ⟨bb, 5, none⟩ (.slice (some ⟨g', 0, none⟩) (hs.length + 1) cap') := ⟨_, rfl⟩
  rw [← hw5] at hP5 hc5 z4 hsz
  have q0 : w5.cell? ⟨bb, 0, none⟩ = some (.int .i64 m) := by
    rw [cell_of_row w5 bb _ _ _ _ z4, Array.getElem?_setIfInBounds_ne (by decide)]
    exact (cell_of_row w bb _ _ _ _ hb).symm.trans (hcc w rfl).2
  have f0 : w5.frozen? ⟨bb, 0, none⟩ = false := frozen_of_row w5 bb _ _ _ z4
  have HF := Lib.hid (And.intro hP5 (And.intro hc5 (And.intro z4 (And.intro hnbb hsz))))
  have HW5 := Lib.hid hw5
  clear hP5 hc5 z4 hnbb hsz hP hL1 hc4 o1 o2 o3 o4 y4 K9 f1 hcc h hb hv hd hB1 hs1 hw5
  go_wp2_with (rw [← HW5.out])
  go_end0
  refine ⟨rfl, ⟨⟨_, (HF.out.1.keep (Chg.setCell (X := (· = bb)) w5 ⟨bb, 0, none⟩ _ rfl) HF.out.2.2.2.1).weak fun b hb' _ => ?_, heap_setCell_same w5 bb 0 _ _ _ HF.out.2.2.1⟩, HF.out.2.1.trans (Chg.setCell (X := fun b => F b ∨ b = bb) w5 ⟨bb, 0, none⟩ _ (.inr rfl))⟩⟩
  simp only [World.size_setCell]
  rw [HF.out.2.2.2.2]
  exact hb'
end Go.Proofs.YtenaljhkdnhgpaaGreatDoor.Bk
