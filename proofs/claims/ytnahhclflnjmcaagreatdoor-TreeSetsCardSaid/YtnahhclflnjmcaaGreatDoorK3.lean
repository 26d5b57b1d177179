import Derived.Test.YtnahhclflnjmcaaGreatDoorK0
import Derived.Test.YtnahhclflnjmcaaGreatDoorK1
/- The book: one more list of terms is held. -/
namespace Go.Proofs.YtnahhclflnjmcaaGreatDoor.Bk
open Go Go.RowKit
set_option linter.unusedVariables false
set_option linter.unusedSimpArgs false
set_option maxRecDepth 100000

theorem info247 : (Tryz.prog.info? 247).map (fun i => (i.zero, i.size, i.bytes)) = some (some (.agg #[.slice none 0 0, .int .i64 0]), 2, 32) := by kernel_rfl
set_option maxHeartbeats 4000000 in
set_option maxRecDepth 100000 in
theorem keepNode (K : KD) (hK : K.HT = 247) {w : World} {B : Nat} {F : Nat → Prop} {lv : Value} {hs : List (Value × Int)} {lim kf : Nat → Nat} (bb : Nat) (bc : Array Value) (v : Value) (m : Int) (h : HL K w B F lv hs lim kf) (hb : w.heap[bb]? = some (.cells bc 70 (0, 0))) (h0 : bc[0]? = some (.int .i64 m)) (hl : bc[19]? = some lv)
    (hFb : ¬ F bb) (hv : OwnH K w B v m (lim hs.length) (kf hs.length)) (hd : ∀ b, v.ownBlock = some b → ¬ F b ∧ b ≠ bb) (hn : hs.length ≤ 1000000) (hm : -9223372036854775808 ≤ m ∧ m ≤ 9223372036854775807) (hB : B ≤ w.heap.size) :
    Calls Tryz.prog 257 #[.pointer (some ⟨bb, 0, none⟩), v] w fun e w' => e = .returned (.tuple #[]) ∧ KeepP K w B F bb bc 19 70 v m hs lim kf w' := by
  obtain ⟨A, n, c, rfl⟩ : ∃ A n c, v = .slice A n c := by
    rcases hv with h1 | ⟨g, o, n, cap, cur, h1, _⟩
    · exact ⟨_, _, _, h1⟩
    · exact ⟨_, _, _, h1⟩
  obtain ⟨A0, c0, rfl⟩ := h.slice
  have hlb := lt_of_some hb
  have hcc : ∀ w' : World, w'.heap[bb]? = w.heap[bb]? → w'.cell? ⟨bb, 19, none⟩ = some (.slice A0 hs.length c0) ∧ w'.cell? ⟨bb, 0, none⟩ = some (.int .i64 m) := fun w' e =>
    ⟨(cell_of_row w' bb _ _ _ _ (e.trans hb)).trans hl, (cell_of_row w' bb _ _ _ _ (e.trans hb)).trans h0⟩
  have hne : (Value.slice A0 hs.length c0).ownBlock ≠ some bb := fun e => hFb (h.inF bb e)
  obtain ⟨l1, l2⟩ := hcc w rfl
  have HC := Lib.hid (And.intro hcc (And.intro hlb (And.intro h (And.intro hb (And.intro hv hd)))))
  have HNE : Hid ((Value.slice A0 hs.length c0).ownBlock = some bb → False) := Lib.hid hne
  have hrw := own_below h.row (Below.refl w.heap.size w).drew
  obtain ⟨i0, hinf, hz0, hz1, hz2⟩ := info_parts info247
  rw [hK] at hrw
  have HRW := Lib.hid (hrw.alloc (.cells #[.slice A n c, .int .i64 m] 247))
  have HSD : Hid (B ≤ (w.drew.alloc (.cells #[.slice A n c, .int .i64 m] 247)).heap.size) := Lib.hid (by simp; exact Nat.le_succ_of_le hB)
  have HK := Lib.hid hK
  have HFB : Hid (F bb → False) := Lib.hid hFb
  have HLT : Hid (bb < (w.drew.alloc (.cells #[.slice A n c, .int .i64 m] 247)).heap.size) := Lib.hid (by simp; exact Nat.lt_succ_of_lt hlb)
  have HNW : Hid (([.slice A n c, .int .i64 m] : List Value).length = 1 * 2 ∧ (∀ j u, ([.slice A n c, .int .i64 m] : List Value)[j]? = some u → (w.drew.alloc (.cells #[.slice A n c, .int .i64 m] 247)).cell? ((⟨w.drew.heap.size, 0, none⟩ : Addr).add j) = some u) ∧ ∀ u ∈ ([.slice A n c, .int .i64 m] : List Value), u.oneCell' = true) :=
    Lib.hid ⟨rfl, World.news_of_block (cs := #[.slice A n c, .int .i64 m]) (heap_alloc_new _ _), by simp [Value.oneCell']⟩
  clear hcc h hb h0 hl hFb hv hd hne hlb hK hrw
  go_enter Tryz.func257, Tryz.ntmps257
  go_wp2_with fail
  refine Go.Proofs.Phase.wp_region_ph (S := (fun w' => w'.cell? ⟨bb, 19, none⟩ = some (.slice A0 hs.length c0) ∧ w'.cell? ⟨bb, 0, none⟩ = some (.int .i64 m))) 15 (by kernel_rfl) ?_ (fun hHeld => ?_)
  · ((try dsimp only) <;> (first | exact HC.out.1 _ rfl | assumption | exact HC.out.1 _ (Below.heap_alloc _ _ _ HC.out.2.1)))
  refine Go.Proofs.Phase.wpPh_take' (i := 0) (by simp only [List.getElem?_toArray, List.getElem?_cons_succ, List.getElem?_cons_zero]; rfl) ?_
  refine ⟨?_, ⟨by kernel_rfl, by kernel_rfl, by kernel_rfl, by kernel_rfl⟩, fun _ _ _ h => h, Or.inl ⟨by rfl, ?_⟩, by assumption, ?_⟩
  rotate_left
  · (intro w hSw; (try dsimp only at hSw); go_simp; with_reducible rfl)
  try simp only [Act.put, List.setIfInBounds_toArray, List.set_cons_zero, List.set_cons_succ]
  refine Go.Proofs.Phase.wpPh_take' (i := 1) (by simp only [List.getElem?_toArray, List.getElem?_cons_succ, List.getElem?_cons_zero]; rfl) ?_
  refine ⟨?_, ⟨by kernel_rfl, by kernel_rfl, by kernel_rfl, by kernel_rfl⟩, fun _ _ _ h => h, Or.inl ⟨by rfl, ?_⟩, by assumption, ?_⟩
  rotate_left
  · (intro w hSw; (try dsimp only at hSw); go_simp; with_reducible rfl)
  try simp only [Act.put, List.setIfInBounds_toArray, List.set_cons_zero, List.set_cons_succ]
  refine Go.Proofs.Phase.wpPh_take' (i := 2) (by simp only [List.getElem?_toArray, List.getElem?_cons_succ, List.getElem?_cons_zero]; rfl) ?_
  refine ⟨?_, ⟨by kernel_rfl, by kernel_rfl, by kernel_rfl, by kernel_rfl⟩, fun _ _ _ h => h, Or.inl ⟨by rfl, ?_⟩, by assumption, ?_⟩
  rotate_left
  · (intro w hSw; (try dsimp only at hSw); go_simp; with_reducible rfl)
  try simp only [Act.put, List.setIfInBounds_toArray, List.set_cons_zero, List.set_cons_succ]
  refine Go.Proofs.Phase.wpPh_take' (i := 3) (by simp only [List.getElem?_toArray, List.getElem?_cons_succ, List.getElem?_cons_zero]; rfl) ?_
  refine ⟨?_, ⟨by kernel_rfl, by kernel_rfl, by kernel_rfl, by kernel_rfl⟩, fun _ _ _ h => h, Or.inl ⟨by rfl, ?_⟩, by assumption, ?_⟩
  rotate_left
  · (intro w hSw; (try dsimp only at hSw); go_simp; with_reducible rfl)
  try simp only [Act.put, List.setIfInBounds_toArray, List.set_cons_zero, List.set_cons_succ]
  refine Go.Proofs.Phase.wpPh_take' (i := 4) (by simp only [List.getElem?_toArray, List.getElem?_cons_succ, List.getElem?_cons_zero]; rfl) ?_
  refine ⟨?_, ⟨by kernel_rfl, by kernel_rfl, by kernel_rfl, by kernel_rfl⟩, fun _ _ _ h => h, Or.inl ⟨by rfl, ?_⟩, by assumption, ?_⟩
  rotate_left
  · (intro w hSw; (try dsimp only at hSw); go_simp; with_reducible rfl)
  try simp only [Act.put, List.setIfInBounds_toArray, List.set_cons_zero, List.set_cons_succ]
  refine Go.Proofs.Phase.wpPh_take' (i := 5) (by simp only [List.getElem?_toArray, List.getElem?_cons_succ, List.getElem?_cons_zero]; rfl) ?_
  refine ⟨?_, ⟨by kernel_rfl, by kernel_rfl, by kernel_rfl, by kernel_rfl⟩, fun _ _ _ h => h, Or.inl ⟨by rfl, ?_⟩, by assumption, ?_⟩
  rotate_left
  · (intro w hSw; (try dsimp only at hSw); go_simp; with_reducible rfl)
  try simp only [Act.put, List.setIfInBounds_toArray, List.set_cons_zero, List.set_cons_succ]
  refine Go.Proofs.Phase.wpPh_take' (i := 6) (by simp only [List.getElem?_toArray, List.getElem?_cons_succ, List.getElem?_cons_zero]; rfl) ?_
  refine ⟨?_, ⟨by kernel_rfl, by kernel_rfl, by kernel_rfl, by kernel_rfl⟩, fun _ _ _ h => h, Or.inl ⟨by rfl, ?_⟩, by assumption, ?_⟩
  rotate_left
  · (intro w hSw; (try dsimp only at hSw); go_simp; with_reducible rfl)
  try simp only [Act.put, List.setIfInBounds_toArray, List.set_cons_zero, List.set_cons_succ]
  refine Go.Proofs.Phase.wpPh_take' (i := 7) (by simp only [List.getElem?_toArray, List.getElem?_cons_succ, List.getElem?_cons_zero]; rfl) ?_
  refine ⟨?_, ⟨by kernel_rfl, by kernel_rfl, by kernel_rfl, by kernel_rfl⟩, fun _ _ _ h => h, Or.inl ⟨by rfl, ?_⟩, by assumption, ?_⟩
  rotate_left
  · (intro w hSw; (try dsimp only at hSw); go_simp; with_reducible rfl)
  try simp only [Act.put, List.setIfInBounds_toArray, List.set_cons_zero, List.set_cons_succ]
  refine Go.Proofs.Phase.wpPh_take' (i := 8) (by simp only [List.getElem?_toArray, List.getElem?_cons_succ, List.getElem?_cons_zero]; rfl) ?_
  refine ⟨?_, ⟨by kernel_rfl, by kernel_rfl, by kernel_rfl, by kernel_rfl⟩, fun _ _ _ h => h, Or.inl ⟨by rfl, ?_⟩, by assumption, ?_⟩
  rotate_left
  · (intro w hSw; (try dsimp only at hSw); go_simp; with_reducible rfl)
  try simp only [Act.put, List.setIfInBounds_toArray, List.set_cons_zero, List.set_cons_succ]
  refine Go.Proofs.Phase.wpPh_take' (i := 9) (by simp only [List.getElem?_toArray, List.getElem?_cons_succ, List.getElem?_cons_zero]; rfl) ?_
  refine ⟨?_, ⟨by kernel_rfl, by kernel_rfl, by kernel_rfl, by kernel_rfl⟩, fun _ _ _ h => h, Or.inl ⟨by rfl, ?_⟩, by assumption, ?_⟩
  rotate_left
  · (intro w hSw; (try dsimp only at hSw); go_simp; with_reducible rfl)
  try simp only [Act.put, List.setIfInBounds_toArray, List.set_cons_zero, List.set_cons_succ]
  refine Go.Proofs.Phase.wpPh_take' (i := 10) (by simp only [List.getElem?_toArray, List.getElem?_cons_succ, List.getElem?_cons_zero]; rfl) ?_
  refine ⟨?_, ⟨by kernel_rfl, by kernel_rfl, by kernel_rfl, by kernel_rfl⟩, fun _ _ _ h => h, Or.inl ⟨by rfl, ?_⟩, by assumption, ?_⟩
  rotate_left
  · (intro w hSw; (try dsimp only at hSw); go_simp; with_reducible rfl)
  try simp only [Act.put, List.setIfInBounds_toArray, List.set_cons_zero, List.set_cons_succ]
  refine Go.Proofs.Phase.wpPh_before (i := 11) (by kernel_rfl) (by simp only [List.getElem?_toArray, List.getElem?_cons_succ, List.getElem?_cons_zero]; rfl) (fun K hK => ?_)
  ((first
      | (with_reducible refine step_buildSlice_one rfl 53 247 _ rfl 2 _ i0 Tryz.underlying53 hinf hz0 hz1 rfl #[.slice A n c, .int .i64 m] rfl rfl (by decide) (by decide) ?_)
      | ((with_reducible refine step_append_lies _ rfl _ _ 53 rfl B 247 i0 _ 2 32 Tryz.underlying53 hinf hz0 hz1 hz2 rfl (by decide) (.slice A0 hs.length c0) hs.length (hrow hs) rfl HRW.out ⟨w.drew.heap.size, 0, none⟩ 1 1 [.slice A n c, .int .i64 m] rfl HNW.out.1 HNW.out.2.1 HNW.out.2.2 (by decide) (by unfold maxLen; omega) (by omega) HSD.out (w.drew.heap.size + 1) (by simp) ?_); intro g' cap' w4 o1 o2 o3 o4; have y4 := (o2.block bb HLT.out (fun e => HNE.out e.symm)).trans (Below.heap_alloc _ _ _ HC.out.2.1); have K9 := HC.out.1 w4 y4; have f1 : w4.frozen? ⟨bb, 19, none⟩ = false := frozen_of_row w4 bb _ _ _ (y4.trans HC.out.2.2.2.1))))
  refine hK.out _ _ ?_ (fun hHeldN => ?_)
  · ((try dsimp only) <;> (first | exact HC.out.1 _ rfl | assumption | exact HC.out.1 _ (Below.heap_alloc _ _ _ HC.out.2.1)))
  clear hHeld
  have hHeld := hHeldN
  clear hHeldN
  clear hK K
  try simp only [Act.put, List.setIfInBounds_toArray, List.set_cons_zero, List.set_cons_succ]
  refine Go.Proofs.Phase.wpPh_before (i := 12) (by kernel_rfl) (by simp only [List.getElem?_toArray, List.getElem?_cons_succ, List.getElem?_cons_zero]; rfl) (fun K hK => ?_)
  ((first
      | (with_reducible refine step_buildSlice_one rfl 53 247 _ rfl 2 _ i0 Tryz.underlying53 hinf hz0 hz1 rfl #[.slice A n c, .int .i64 m] rfl rfl (by decide) (by decide) ?_)
      | ((with_reducible refine step_append_lies _ rfl _ _ 53 rfl B 247 i0 _ 2 32 Tryz.underlying53 hinf hz0 hz1 hz2 rfl (by decide) (.slice A0 hs.length c0) hs.length (hrow hs) rfl HRW.out ⟨w.drew.heap.size, 0, none⟩ 1 1 [.slice A n c, .int .i64 m] rfl HNW.out.1 HNW.out.2.1 HNW.out.2.2 (by decide) (by unfold maxLen; omega) (by omega) HSD.out (w.drew.heap.size + 1) (by simp) ?_); intro g' cap' w4 o1 o2 o3 o4; have y4 := (o2.block bb HLT.out (fun e => HNE.out e.symm)).trans (Below.heap_alloc _ _ _ HC.out.2.1); have K9 := HC.out.1 w4 y4; have f1 : w4.frozen? ⟨bb, 19, none⟩ = false := frozen_of_row w4 bb _ _ _ (y4.trans HC.out.2.2.2.1))))
  refine hK.out _ _ ?_ (fun hHeldN => ?_)
  · ((try dsimp only) <;> (first | exact HC.out.1 _ rfl | assumption | exact HC.out.1 _ (Below.heap_alloc _ _ _ HC.out.2.1)))
  clear hHeld
  have hHeld := hHeldN
  clear hHeldN
  clear hK K
  try simp only [Act.put, List.setIfInBounds_toArray, List.set_cons_zero, List.set_cons_succ]
  refine Go.Proofs.Phase.wpPh_before (i := 13) (by kernel_rfl) (by simp only [List.getElem?_toArray, List.getElem?_cons_succ, List.getElem?_cons_zero]; rfl) (fun K hK => ?_)
  go_simp
  refine hK.out _ _ ?_ (fun hHeldN => ?_)
  · ((try dsimp only) <;> (first | exact HC.out.1 _ rfl | assumption | exact HC.out.1 _ (Below.heap_alloc _ _ _ HC.out.2.1)))
  clear hHeld
  have hHeld := hHeldN
  clear hHeldN
  clear hK K
  try simp only [Act.put, List.setIfInBounds_toArray, List.set_cons_zero, List.set_cons_succ]
  refine Go.Proofs.Phase.wpPh_take' (i := 14) (by simp only [List.getElem?_toArray, List.getElem?_cons_succ, List.getElem?_cons_zero]; rfl) ?_
  refine ⟨?_, ⟨by kernel_rfl, by kernel_rfl, by kernel_rfl, by kernel_rfl⟩, fun _ _ _ h => h, Or.inl ⟨by rfl, ?_⟩, by assumption, ?_⟩
  rotate_left
  · (intro w hSw; (try dsimp only at hSw); go_simp; with_reducible rfl)
  try simp only [Act.put, List.setIfInBounds_toArray, List.set_cons_zero, List.set_cons_succ]
  refine Go.Proofs.Phase.wpPh_behind (i := 15) (by kernel_rfl) (by simp only [List.getElem?_toArray, List.getElem?_cons_succ, List.getElem?_cons_zero]; rfl) (by kernel_rfl) (fun K hK => ?_)
  go_simp
  refine hK.out _ _ ?_
  clear hK K
  try simp only [Act.put, List.setIfInBounds_toArray, List.set_cons_zero, List.set_cons_succ]
  refine Go.Proofs.Phase.wpPh_done (by kernel_rfl) ?_ _
  obtain ⟨hcc, hlb, h, hb, hv, hd⟩ := HC.out
  have hB1 : Below w.heap.size w (w.drew.alloc (.cells #[.slice A n c, .int .i64 m] 247)) := (Below.refl _ _).drew.alloc (Nat.le_refl _) _
  have hs1 : (w.drew.alloc (.cells #[.slice A n c, .int .i64 m] 247)).heap.size = w.heap.size + 1 := by simp
  have z4 := heap_setCell_same w4 bb 19 _ _ (.slice (some ⟨g', 0, none⟩) (hs.length + 1) cap') (y4.trans hb)
  have hL1 := h.keep (X := fun _ => False) (Chg.of_below hB1) (fun _ _ h => h)
  have hP := hL1.push (F' := fun b => F b ∨ (Value.slice A n c).ownBlock = some b ∨ (w.heap.size ≤ b ∧ b < w4.heap.size)) (Nat.le_trans hB hB1.size) (hv.keep fun b hb' => hB1.block b (hv.lt hb').1) hm (fun b hb' => (hd b hb').1) (by rw [HK.out]; exact o1) o2 (by rw [hs1]; exact o3)
    (fun b hb' => .inl hb') (by
      rcases o3 with o3 | o3
      · exact .inl (h.inF g' o3)
      · exact .inr (.inr ⟨by have : w.drew.heap.size = w.heap.size := rfl; omega, o4⟩)) (fun b hb' => .inr (.inl hb'))
  have hc4 : Chg (fun b => F b ∨ b = bb) w w4 := (Chg.of_below hB1).trans (Chg.grown o2 fun k hk => .inl (h.inF k hk))
  have hc5 := hc4.trans (Chg.setCell (X := fun b => F b ∨ b = bb) w4 ⟨bb, 19, none⟩ (.slice (some ⟨g', 0, none⟩) (hs.length + 1) cap') (.inr rfl))
  have hnbb : ∀ b, (F b ∨ (Value.slice A n c).ownBlock = some b ∨ (w.heap.size ≤ b ∧ b < w4.heap.size)) → ¬ (b = bb) := fun b hb' e => by
    subst e
    rcases hb' with hb' | hb' | hb'
    · exact HFB.out hb'
    · exact (hd b hb').2 rfl
    · omega
  have hP5 := hP.keep (Chg.setCell (X := (· = bb)) w4 ⟨bb, 19, none⟩ (.slice (some ⟨g', 0, none⟩) (hs.length + 1) cap') rfl) hnbb
  have hsz : (w4.setCell ⟨bb, 19, none⟩ (.slice (some ⟨g', 0, none⟩) (hs.length + 1) cap')).heap.size = w4.heap.size := by simp
  obtain ⟨w5, hw5⟩ : ∃ w5, w5 = w4.setCell ⟨bb, 19, none⟩ (.slice (some ⟨g', 0, none⟩) (hs.length + 1) cap') := ⟨_, rfl⟩
  rw [← hw5] at hP5 hc5 z4 hsz
  have q0 : w5.cell? ⟨bb, 0, none⟩ = some (.int .i64 m) := by
    rw [cell_of_row w5 bb _ _ _ _ z4, Array.getElem?_setIfInBounds_ne (by decide)]
    exact (cell_of_row w bb _ _ _ _ hb).symm.trans (hcc w rfl).2
  have f0 : w5.frozen? ⟨bb, 0, none⟩ = false := frozen_of_row w5 bb _ _ _ z4
  have HF := Lib.hid (And.intro hP5 (And.intro hc5 (And.intro z4 (And.intro hnbb hsz))))
  have HW5 := Lib.hid hw5
  clear hP5 hc5 z4 hnbb hsz hP hL1 hc4 o1 o2 o3 o4 y4 K9 f1 hcc h hb hv hd hB1 hs1 hw5
  go_wp2_with (rw [← HW5.out])
  go_end0
  refine ⟨rfl, ⟨⟨_, (HF.out.1.keep (Chg.setCell (X := (· = bb)) w5 ⟨bb, 0, none⟩ _ rfl) HF.out.2.2.2.1).weak fun b hb' _ => ?_, heap_setCell_same w5 bb 0 _ _ _ HF.out.2.2.1⟩, HF.out.2.1.trans (Chg.setCell (X := fun b => F b ∨ b = bb) w5 ⟨bb, 0, none⟩ _ (.inr rfl))⟩⟩
  simp only [World.size_setCell]
  rw [HF.out.2.2.2.2]
  exact hb'
end Go.Proofs.YtnahhclflnjmcaaGreatDoor.Bk

/- The book: all lists of nodes are written over. -/
namespace Go.Proofs.YtnahhclflnjmcaaGreatDoor.Bk
open Go Go.RowKit
set_option linter.unusedVariables false
set_option linter.unusedSimpArgs false
set_option maxRecDepth 100000

def kdNode : KD := ⟨247, 95, 4, fun m => #[.int .i64 (wrap64 (-1000 - m)), .int .i64 0, .int .i64 0, .slice none 0 0], by decide, fun _ => rfl, fun m => by simp [Value.oneCell']⟩
theorem cells95 : (Tryz.prog.info? 95).map (·.size) = some 4 := by kernel_rfl
theorem markNode (n : Int) (w : World) : Calls Tryz.prog 179 #[.int .i64 n] w fun e w' => e = .returned (.agg (kdNode.mark n)) ∧ Below w.heap.size w w' := by
  go_enter Tryz.func179, Tryz.ntmps179
  go_wp2_with fail
  have h1 := heap_alloc_new w (.cells #[.int .i64 (wrap64 (-1000 - n)), .int .i64 0, .int .i64 0, .slice none 0 0] 95)
  have hb : Below w.heap.size w (w.alloc (.cells #[.int .i64 (wrap64 (-1000 - n)), .int .i64 0, .int .i64 0, .slice none 0 0] 95)) := (Below.refl _ _).alloc (Nat.le_refl _) _
  obtain ⟨WF, hWF⟩ : ∃ WF, WF = w.alloc (.cells #[.int .i64 (wrap64 (-1000 - n)), .int .i64 0, .int .i64 0, .slice none 0 0] 95) := ⟨_, rfl⟩
  rw [← hWF] at h1 hb ⊢
  have q0 : WF.cell? ⟨w.heap.size, 0, none⟩ = some (.int .i64 (wrap64 (-1000 - n))) := by rw [cell_of_row _ _ _ _ _ _ h1]; rfl
  have q1 : WF.cell? ⟨w.heap.size, 1, none⟩ = some (.int .i64 0) := by rw [cell_of_row _ _ _ _ _ _ h1]; rfl
  have q2 : WF.cell? ⟨w.heap.size, 2, none⟩ = some (.int .i64 0) := by rw [cell_of_row _ _ _ _ _ _ h1]; rfl
  have q3 : WF.cell? ⟨w.heap.size, 3, none⟩ = some (.slice none 0 0) := by rw [cell_of_row _ _ _ _ _ _ h1]; rfl
  clear hWF h1
  exact bodyPost_ret (by simp [results, Tryz.results179, go_sem, q0, q1, q2, q3]; rfl) rfl ⟨rfl, hb⟩
set_option maxHeartbeats 4000000 in
set_option maxRecDepth 100000 in
theorem fillNode {w : World} {B : Nat} {F : Nat → Prop} {lv : Value} {hs : List (Value × Int)} {lim kf : Nat → Nat} (bb : Nat) (bc : Array Value) (h : HL kdNode w B F lv hs lim kf) (hb : w.heap[bb]? = some (.cells bc 70 (0, 0))) (hl : bc[19]? = some lv) (hFb : ¬ F bb) (hn : hs.length ≤ 1000000) (hlim : ∀ i, lim i ≤ 2000000) (hF : ∀ b, F b → b < w.heap.size) :
    Calls Tryz.prog 71 #[.pointer (some ⟨bb, 0, none⟩)] w fun e w' => e = .returned (.tuple #[]) ∧ HL kdNode w' B F lv hs lim (fun _ => 4000000) ∧ Chg F w w' := by
  obtain ⟨A0, c0, rfl⟩ := h.slice
  have l1 : w.cell? ⟨bb, 19, none⟩ = some (.slice A0 hs.length c0) := (cell_of_row w bb _ _ _ _ hb).trans hl
  have H0 : Hid (HL kdNode w B F (.slice A0 hs.length c0) hs lim (fun j => if j < 0 then 4000000 else 0) ∧ Chg F w w) := Lib.hid ⟨h.less fun j _ => by simp, Chg.refl _ _⟩
  have HC := Lib.hid (And.intro hb (And.intro hl (And.intro hFb (And.intro hlim hF))))
  have hi0 : (0 : Int) ≤ (hs.length : Int) := by omega
  clear h hb hl hFb hlim hF
  go_enter Tryz.func71, Tryz.ntmps71
  go_wp2_with fail
  go_loopg [10] hs.length (fun k v10 wr => ∃ i : Nat, v10 = .int .i64 (i : Int) ∧ i + k = hs.length ∧ Hid (HL kdNode wr B F (.slice A0 hs.length c0) hs lim (fun j => if j < i then 4000000 else 0) ∧ Chg F w wr))
  case atStart => exact ⟨0, rfl, by simp, H0⟩
  case round =>
    clear H0 l1
    obtain ⟨i, rfl, hik, HT⟩ := hrel
    have l1 : wr.cell? ⟨bb, 19, none⟩ = some (.slice A0 hs.length c0) := (cell_of_row wr bb _ _ _ _ (HT.out.2.keep HC.out.1 HC.out.2.2.1)).trans HC.out.2.1
    by_cases hi : i < hs.length
    · obtain ⟨⟨v, m⟩, hvm⟩ : ∃ x, hs[i]? = some x := ⟨hs[i], List.getElem?_eq_getElem hi⟩
      obtain ⟨A, n, c, rfl, hnl⟩ := HT.out.1.sl hvm
      obtain ⟨gl, capl, curl, e, k1, k2, k3, k4, k5⟩ := HT.out.1.at hvm
      injection e with e1 _ e3
      subst e1 e3
      have l2 : wr.cell? ⟨gl, i * 2, none⟩ = some (.slice A n c) := (cell_of_row wr gl _ _ _ _ k1).trans k3
      have i1 : (0 : Int) ≤ (i : Int) := by omega
      have i2 : (i : Int) < (hs.length : Int) := by omega
      have i3 : (0 : Int) ≤ (n : Int) := by omega
      have HI := Lib.hid (And.intro hvm hi)
      have hnl2 : n ≤ 2000000 := Nat.le_trans hnl (HC.out.2.2.2.1 i)
      clear hvm k1 k2 k3 k4 k5 hnl hi
      go_wp2_with fail
      go_loopg [24] n (fun k v24 wr => ∃ q : Nat, v24 = .int .i64 (q : Int) ∧ q + k = n ∧ Hid (HL kdNode wr B F (.slice (some ⟨gl, 0, none⟩) hs.length c0) hs lim (fun j => if j < i then 4000000 else if j = i then q else 0) ∧ Chg F w wr))
      case atStart => exact ⟨0, rfl, by simp, Lib.hid ⟨HT.out.1.less fun j _ => by
        show (if j < i then 4000000 else if j = i then 0 else 0) ≤ if j < i then 4000000 else 0
        split
        · exact Nat.le_refl _
        · split <;> exact Nat.le_refl _, HT.out.2⟩⟩
      case round =>
        clear HT l1 l2
        obtain ⟨q, rfl, hqk, HQ⟩ := hrel
        by_cases hq : q < n
        · obtain ⟨g, o, cur, rfl, k1, k2, k3, k4, k5, k6⟩ := HQ.out.1.elem HI.out.1 (by omega)
          obtain ⟨gl', capl', curl, e, p1, p2, p3, p4, p5⟩ := HQ.out.1.at HI.out.1
          injection e with e1 _ e3
          injection e1 with e1
          injection e1 with e1
          subst e1 e3
          have hq4 : q * 4 + 4 ≤ n * 4 := by omega
          have hfit : (o + q * 4) + 4 ≤ cur.size := by have : o + n * 4 ≤ cur.size := k2; omega
          have hcc : ∀ w' : World, w'.heap[gl]? = wr.heap[gl]? → w'.cell? ⟨gl, i * 2, none⟩ = some (.slice (some ⟨g, o, none⟩) n c) ∧ w'.cell? ⟨gl, i * 2 + 1, none⟩ = some (.int .i64 m) := fun w' e1 =>
            ⟨(cell_of_row w' gl _ _ _ _ (e1.trans p1)).trans p3, (cell_of_row w' gl _ _ _ _ (e1.trans p1)).trans p4⟩
          obtain ⟨c1, c2⟩ := hcc wr rfl
          obtain ⟨y, hy⟩ : ∃ y, y = kdNode.mark m := ⟨_, rfl⟩
          have hys : y.size = 4 := by rw [hy]; exact kdNode.mks m
          have hyo : ∀ u ∈ y.toList, u.oneCell' = true := by rw [hy]; exact kdNode.mko m
          have hneg : gl ≠ g := fun e => k4 (by rw [e]; rfl)
          have HH := Lib.hid (And.intro hcc (And.intro k1 (And.intro hfit (And.intro k3 (And.intro hys (And.intro hyo (And.intro (lt_of_some p1) (And.intro (lt_of_some k1) (And.intro p1 hneg)))))))))
          have HY := Lib.hid hy
          have HQL := Lib.hid hq
          have i4 : (0 : Int) ≤ (q : Int) := by omega
          have i5 : (q : Int) < (n : Int) := by omega
          clear k1 k2 k3 k4 k5 k6 p1 p2 p3 p4 p5 hy hcc hys hyo hneg hfit hq4
          go_wp2_with fail
          refine Go.Proofs.Phase.wp_region_ph (S := (fun w' => w'.cell? ⟨gl, i * 2, none⟩ = some (.slice (some ⟨g, o, none⟩) n c) ∧ w'.cell? ⟨gl, i * 2 + 1, none⟩ = some (.int .i64 m))) 11 (by kernel_rfl) ?_ (fun hHeld => ?_)
          · ((try dsimp only) <;> (first | assumption | exact HH.out.1 _ rfl | exact KS))
          refine Go.Proofs.Phase.wpPh_take' (i := 0) (by simp only [List.getElem?_toArray, List.getElem?_cons_succ, List.getElem?_cons_zero]; rfl) ?_
          refine ⟨?_, ⟨by kernel_rfl, by kernel_rfl, by kernel_rfl, by kernel_rfl⟩, fun _ _ _ h => h, Or.inl ⟨by rfl, ?_⟩, by assumption, ?_⟩
          rotate_left
          · (intro w hSw; (try dsimp only at hSw); go_simp; with_reducible rfl)
          try simp only [Act.put, List.setIfInBounds_toArray, List.set_cons_zero, List.set_cons_succ]
          refine Go.Proofs.Phase.wpPh_take' (i := 1) (by simp only [List.getElem?_toArray, List.getElem?_cons_succ, List.getElem?_cons_zero]; rfl) ?_
          refine ⟨?_, ⟨by kernel_rfl, by kernel_rfl, by kernel_rfl, by kernel_rfl⟩, fun _ _ _ h => h, Or.inl ⟨by rfl, ?_⟩, by assumption, ?_⟩
          rotate_left
          · (intro w hSw; (try dsimp only at hSw); go_simp; with_reducible rfl)
          try simp only [Act.put, List.setIfInBounds_toArray, List.set_cons_zero, List.set_cons_succ]
          refine Go.Proofs.Phase.wpPh_take' (i := 2) (by simp only [List.getElem?_toArray, List.getElem?_cons_succ, List.getElem?_cons_zero]; rfl) ?_
          refine ⟨?_, ⟨by kernel_rfl, by kernel_rfl, by kernel_rfl, by kernel_rfl⟩, fun _ _ _ h => h, Or.inl ⟨by rfl, ?_⟩, by assumption, ?_⟩
          rotate_left
          · (intro w hSw; (try dsimp only at hSw); go_simp; with_reducible rfl)
          try simp only [Act.put, List.setIfInBounds_toArray, List.set_cons_zero, List.set_cons_succ]
          refine Go.Proofs.Phase.wpPh_take' (i := 3) (by simp only [List.getElem?_toArray, List.getElem?_cons_succ, List.getElem?_cons_zero]; rfl) ?_
          refine ⟨?_, ⟨by kernel_rfl, by kernel_rfl, by kernel_rfl, by kernel_rfl⟩, fun _ _ _ h => h, Or.inl ⟨by rfl, ?_⟩, by assumption, ?_⟩
          rotate_left
          · (intro w hSw; (try dsimp only at hSw); go_simp; with_reducible rfl)
          try simp only [Act.put, List.setIfInBounds_toArray, List.set_cons_zero, List.set_cons_succ]
          refine Go.Proofs.Phase.wpPh_take' (i := 4) (by simp only [List.getElem?_toArray, List.getElem?_cons_succ, List.getElem?_cons_zero]; rfl) ?_
          refine ⟨?_, ⟨by kernel_rfl, by kernel_rfl, by kernel_rfl, by kernel_rfl⟩, fun _ _ _ h => h, Or.inl ⟨by rfl, ?_⟩, by assumption, ?_⟩
          rotate_left
          · (intro w hSw; (try dsimp only at hSw); go_simp; with_reducible rfl)
          try simp only [Act.put, List.setIfInBounds_toArray, List.set_cons_zero, List.set_cons_succ]
          refine Go.Proofs.Phase.wpPh_take' (i := 5) (by simp only [List.getElem?_toArray, List.getElem?_cons_succ, List.getElem?_cons_zero]; rfl) ?_
          refine ⟨?_, ⟨by kernel_rfl, by kernel_rfl, by kernel_rfl, by kernel_rfl⟩, fun _ _ _ h => h, Or.inl ⟨by rfl, ?_⟩, by assumption, ?_⟩
          rotate_left
          · (intro w hSw; (try dsimp only at hSw); go_simp; with_reducible rfl)
          try simp only [Act.put, List.setIfInBounds_toArray, List.set_cons_zero, List.set_cons_succ]
          refine Go.Proofs.Phase.wpPh_take' (i := 6) (by simp only [List.getElem?_toArray, List.getElem?_cons_succ, List.getElem?_cons_zero]; rfl) ?_
          refine ⟨?_, ⟨by kernel_rfl, by kernel_rfl, by kernel_rfl, by kernel_rfl⟩, fun _ _ _ h => h, Or.inl ⟨by rfl, ?_⟩, by assumption, ?_⟩
          rotate_left
          · (intro w hSw; (try dsimp only at hSw); go_simp; with_reducible rfl)
          try simp only [Act.put, List.setIfInBounds_toArray, List.set_cons_zero, List.set_cons_succ]
          refine Go.Proofs.Phase.wpPh_take' (i := 7) (by simp only [List.getElem?_toArray, List.getElem?_cons_succ, List.getElem?_cons_zero]; rfl) ?_
          refine ⟨?_, ⟨by kernel_rfl, by kernel_rfl, by kernel_rfl, by kernel_rfl⟩, fun _ _ _ h => h, Or.inl ⟨by rfl, ?_⟩, by assumption, ?_⟩
          rotate_left
          · (intro w hSw; (try dsimp only at hSw); go_simp; with_reducible rfl)
          try simp only [Act.put, List.setIfInBounds_toArray, List.set_cons_zero, List.set_cons_succ]
          refine Go.Proofs.Phase.wpPh_take' (i := 8) (by simp only [List.getElem?_toArray, List.getElem?_cons_succ, List.getElem?_cons_zero]; rfl) ?_
          refine ⟨?_, ⟨by kernel_rfl, by kernel_rfl, by kernel_rfl, by kernel_rfl⟩, fun _ _ _ h => h, Or.inl ⟨by rfl, ?_⟩, by assumption, ?_⟩
          rotate_left
          · (intro w hSw; (try dsimp only at hSw); go_simp; with_reducible rfl)
          try simp only [Act.put, List.setIfInBounds_toArray, List.set_cons_zero, List.set_cons_succ]
          refine Go.Proofs.Phase.wpPh_before (i := 9) (by kernel_rfl) (by simp only [List.getElem?_toArray, List.getElem?_cons_succ, List.getElem?_cons_zero]; rfl) (fun K hK => ?_)
          go_simp
          ((first
              | ((with_reducible refine (markNode m _).mono ?_); rintro e w3 ⟨rfl, B3⟩; rw [← HY.out]; have K3 := (Below.refl wr.heap.size wr).drew.trans (B3.mono (Nat.le_refl _)); have KS := HH.out.1 w3 (K3.block _ HH.out.2.2.2.2.2.2.1); have KG : Hid (w3.heap[g]? = some (.cells cur 95 (0, 0))) := Lib.hid ((K3.block _ HH.out.2.2.2.2.2.2.2.1).trans HH.out.2.1); have HK3 := Lib.hid K3)
              | (with_reducible refine step_store_part rfl 95 _ _ rfl rfl g (o + q * 4) 4 rfl 95 cur y rfl KG.out cells95 HH.out.2.2.2.2.1 HH.out.2.2.1 HH.out.2.2.2.2.2.1 ?_)))
          go_wp2_with fail
          refine hK.out _ _ ?_ (fun hHeldN => ?_)
          · ((try dsimp only) <;> (first | assumption | exact HH.out.1 _ rfl | exact KS))
          clear hHeld
          have hHeld := hHeldN
          clear hHeldN
          clear hK K
          try simp only [Act.put, List.setIfInBounds_toArray, List.set_cons_zero, List.set_cons_succ]
          refine Go.Proofs.Phase.wpPh_take' (i := 10) (by simp only [List.getElem?_toArray, List.getElem?_cons_succ, List.getElem?_cons_zero]; rfl) ?_
          refine ⟨?_, ⟨by kernel_rfl, by kernel_rfl, by kernel_rfl, by kernel_rfl⟩, fun _ _ _ h => h, Or.inl ⟨by rfl, ?_⟩, by assumption, ?_⟩
          rotate_left
          · (intro w hSw; (try dsimp only at hSw); go_simp; with_reducible rfl)
          try simp only [Act.put, List.setIfInBounds_toArray, List.set_cons_zero, List.set_cons_succ]
          refine Go.Proofs.Phase.wpPh_behind (i := 11) (by kernel_rfl) (by simp only [List.getElem?_toArray, List.getElem?_cons_succ, List.getElem?_cons_zero]; rfl) (by kernel_rfl) (fun K hK => ?_)
          ((first
              | ((with_reducible refine (markNode m _).mono ?_); rintro e w3 ⟨rfl, B3⟩; rw [← HY.out]; have K3 := (Below.refl wr.heap.size wr).drew.trans (B3.mono (Nat.le_refl _)); have KS := HH.out.1 w3 (K3.block _ HH.out.2.2.2.2.2.2.1); have KG : Hid (w3.heap[g]? = some (.cells cur 95 (0, 0))) := Lib.hid ((K3.block _ HH.out.2.2.2.2.2.2.2.1).trans HH.out.2.1); have HK3 := Lib.hid K3)
              | (with_reducible refine step_store_part rfl 95 _ _ rfl rfl g (o + q * 4) 4 rfl 95 cur y rfl KG.out cells95 HH.out.2.2.2.2.1 HH.out.2.2.1 HH.out.2.2.2.2.2.1 ?_)))
          refine hK.out _ _ ?_
          clear hK K
          try simp only [Act.put, List.setIfInBounds_toArray, List.set_cons_zero, List.set_cons_succ]
          refine Go.Proofs.Phase.wpPh_done (by kernel_rfl) ?_ _
          have hN : HL kdNode (w3.setRow g (over cur (o + q * 4) y)) B F (.slice (some ⟨gl, 0, none⟩) hs.length c0) hs lim (fun j => if j < i then 4000000 else if j = i then q + 1 else 0) ∧ Chg F w (w3.setRow g (over cur (o + q * 4) y)) := by
            obtain ⟨hcc, k1, hfit, k3, hys, hyo, _, _, p1, hneg⟩ := HH.out
            have hz := setRow_same (vs := over cur (o + q * 4) y) KG.out
            have hq := HQL.out
            have hc1 : Chg (· = g) wr (w3.setRow g (over cur (o + q * 4) y)) := (Chg.of_below HK3.out).trans (Chg.setRow w3 g _ rfl)
            have hw := HQ.out.1.write (w' := w3.setRow g (over cur (o + q * 4) y)) (k := q) (cur' := over cur (o + q * 4) y) HI.out.1 k1 (by rw [if_neg (Nat.lt_irrefl i), if_pos rfl]; exact Nat.le_refl _) hq (size_over (by rw [hys]; exact hfit)) (by
              have h9 := over_extract_same (cs := cur) (vs := y) (off := o + q * 4) (by rw [hys]; exact hfit)
              rw [hys] at h9
              rw [← HY.out]
              exact h9) (fun j hj => by
              have h8 : j * 4 + 4 ≤ q * 4 := by omega
              exact over_extract_lt (cs := cur) (vs := y) (off := o + q * 4) (a := o + j * 4) (b := o + j * 4 + 4) (by rw [hys]; exact hfit) (by omega)) hz hc1
            refine ⟨hw.less fun j _ => ?_, HQ.out.2.trans (hc1.mono fun b _ hb => by rw [hb]; exact k3)⟩
            show (if j < i then 4000000 else if j = i then q + 1 else 0) ≤ if j = i then q + 1 else if j < i then 4000000 else if j = i then q else 0
            by_cases e : j = i
            · subst e; simp
            · rw [if_neg e, if_neg e, if_neg e]; exact Nat.le_refl _
          have HN := Lib.hid hN
          clear hN K3 KS B3
          go_wp2_with fail
          go_roundg (n - (q + 1))
          case measure => have := HQL.out; omega
          case rel => exact ⟨q + 1, by go_num, by have := HQL.out; omega, HN⟩
        · obtain rfl : q = n := by omega
          have HE : Hid (HL kdNode wr B F (.slice (some ⟨gl, 0, none⟩) hs.length c0) hs lim (fun j => if j < i + 1 then 4000000 else 0) ∧ Chg F w wr) := Lib.hid ⟨HQ.out.1.fin HI.out.1 (by rw [if_neg (Nat.lt_irrefl i), if_pos rfl]; exact Nat.le_refl _) fun j hj => by
            by_cases h1 : j < i
            · rw [if_pos h1, if_pos (by omega)]
            · rw [if_neg h1, if_neg hj, if_neg (by omega)], HQ.out.2⟩
          clear hq HQ
          go_wp2_with fail
          go_roundg (hs.length - (i + 1))
          case measure => have := HI.out.2; omega
          case rel => exact ⟨i + 1, by go_num, by have := HI.out.2; omega, HE⟩
    · obtain rfl : i = hs.length := by omega
      go_wp2_with fail
      go_end0
      exact ⟨rfl, HT.out.1.less fun j hj => by rw [if_pos hj]; exact Nat.le_refl _, HT.out.2⟩
end Go.Proofs.YtnahhclflnjmcaaGreatDoor.Bk

/- The book: all lists of nodes grow. -/
namespace Go.Proofs.YtnahhclflnjmcaaGreatDoor.Bk
open Go Go.RowKit
set_option linter.unusedVariables false
set_option linter.unusedSimpArgs false
set_option maxRecDepth 100000

theorem info95 : (Tryz.prog.info? 95).map (fun i => (i.zero, i.size, i.bytes)) = some (some (.agg #[.int .i64 0, .int .i64 0, .int .i64 0, .slice none 0 0]), 4, 48) := by kernel_rfl
set_option maxHeartbeats 4000000 in
set_option maxRecDepth 100000 in
theorem growNode {w : World} {B : Nat} {F : Nat → Prop} {lv : Value} {hs0 : List (Value × Int)} {L : Nat} (bb : Nat) (bc : Array Value) (h : HL kdNode w B F lv hs0 (fun _ => L) (fun _ => 4000000)) (hb : w.heap[bb]? = some (.cells bc 70 (0, 0))) (hl : bc[19]? = some lv) (hFb : ¬ F bb) (hn : hs0.length ≤ 1000000) (hlim : L ≤ 2000000) (hB : B ≤ w.heap.size) :
    Calls Tryz.prog 104 #[.pointer (some ⟨bb, 0, none⟩)] w fun e w' => e = .returned (.tuple #[]) ∧ ∃ hs', hs'.length = hs0.length ∧ HL kdNode w' B (fun b => F b ∨ (w.heap.size ≤ b ∧ b < w'.heap.size)) lv hs' (fun _ => L + 3) (fun _ => 4000000) ∧ Chg F w w' := by
  obtain ⟨N, hN⟩ : ∃ N, N = hs0.length := ⟨_, rfl⟩
  obtain ⟨A0, c0, e⟩ := h.slice
  rw [← hN] at e hn ⊢
  subst e
  have l1 : w.cell? ⟨bb, 19, none⟩ = some (.slice A0 N c0) := (cell_of_row w bb _ _ _ _ hb).trans hl
  have hlt := lt_of_some hb
  have H0 : Hid (GrowI kdNode w B F (.slice A0 N c0) N L 0 0 w) := Lib.hid ⟨⟨hs0, hN.symm, (h.weak fun b hb _ => .inl hb).lims fun j _ => by
    show L ≤ if j < 0 then L + 3 else if j = 0 then L + 0 else L
    rw [if_neg (Nat.not_lt_zero _)]; split <;> exact Nat.le_refl _⟩, Chg.refl _ _⟩
  have hFb2 : ¬ (F bb ∨ w.heap.size ≤ bb) := fun e => by
    rcases e with e | e
    · exact hFb e
    · omega
  have HC := Lib.hid (And.intro hb (And.intro hl (And.intro hFb2 hlim)))
  have hi0 : (0 : Int) ≤ (N : Int) := by omega
  have HNN := Lib.hid hN
  clear h hb hl hFb hFb2 hlim hN hlt
  go_enter Tryz.func104, Tryz.ntmps104
  go_wp2_with fail
  go_loopg [10] N (fun k v10 wr => ∃ i : Nat, v10 = .int .i64 (i : Int) ∧ i + k = N ∧ Hid (GrowI kdNode w B F (.slice A0 N c0) N L i 0 wr))
  case atStart => exact ⟨0, rfl, by simp, H0⟩
  case round =>
    clear H0 l1
    obtain ⟨i, rfl, hik, HT⟩ := hrel
    have l1 : wr.cell? ⟨bb, 19, none⟩ = some (.slice A0 N c0) := (cell_of_row wr bb _ _ _ _ (HT.out.chg.keep HC.out.1 HC.out.2.2.1)).trans HC.out.2.1
    by_cases hi : i < N
    · obtain ⟨hs, hsl, hHL⟩ := HT.out.out
      obtain ⟨⟨v, m⟩, hvm⟩ : ∃ x, hs[i]? = some x := ⟨hs[i]'(by omega), List.getElem?_eq_getElem _⟩
      obtain ⟨gl, capl, curl, e, k1, k2, k3, k4, k5⟩ := hHL.at hvm
      injection e with e1 e2 e3
      clear e2
      subst e1 e3
      have i1 : (0 : Int) ≤ (i : Int) := by omega
      have i2 : (i : Int) < (N : Int) := by omega
      have HI := Lib.hid hi
      clear hvm k1 k2 k3 k4 k5 hi hHL hsl
      go_wp2_with fail
      go_loopg [4] 3 (fun k v4 wr => ∃ q : Nat, v4 = .int .i64 (q : Int) ∧ q + k = 3 ∧ Hid (GrowI kdNode w B F (.slice (some ⟨gl, 0, none⟩) N c0) N L i q wr))
      case atStart => exact ⟨0, rfl, rfl, HT⟩
      case round =>
        clear HT l1
        obtain ⟨q, rfl, hqk, HQ⟩ := hrel
        by_cases hq : q < 3
        · obtain ⟨hs, hsl, hHL⟩ := HQ.out.out
          obtain ⟨⟨v, m⟩, hvm⟩ : ∃ x, hs[i]? = some x := ⟨hs[i]'(by have := HI.out; omega), List.getElem?_eq_getElem _⟩
          obtain ⟨n, xs, ⟨A, c, rfl⟩, hrow, hnl, hfull⟩ := (hHL.held i v m hvm).row
          obtain ⟨gl', capl', curl, e, p1, p2, p3, p4, p5⟩ := hHL.at hvm
          have hg0 := hHL.apart0 i _ m gl hvm
          injection e with e1 e2 e3
          clear e2
          injection e1 with e1
          injection e1 with e1
          subst e1 e3
          have hnl2 : n ≤ L + q := by
            rw [if_neg (Nat.lt_irrefl i), if_pos rfl] at hnl
            exact hnl
          have hgl := lt_of_some p1
          have hcc : ∀ w' : World, w'.heap[gl]? = wr.heap[gl]? → w'.cell? ⟨gl, i * 2, none⟩ = some (.slice A n c) ∧ w'.cell? ⟨gl, i * 2 + 1, none⟩ = some (.int .i64 m) := fun w' e1 =>
            ⟨(cell_of_row w' gl _ _ _ _ (e1.trans p1)).trans p3, (cell_of_row w' gl _ _ _ _ (e1.trans p1)).trans p4⟩
          obtain ⟨c1, c2⟩ := hcc wr rfl
          have hBr : B ≤ wr.heap.size := Nat.le_trans hB HQ.out.chg.size
          have hvgl : (Value.slice A n c).ownBlock ≠ some gl := fun e => hg0 e rfl
          have HH := Lib.hid (And.intro hcc (And.intro hgl (And.intro hvgl (And.intro p1 (And.intro hrow (And.intro hfull (And.intro hvm (And.intro hsl hHL))))))))
          obtain ⟨y, hy⟩ : ∃ y, y = kdNode.mark m := ⟨_, rfl⟩
          have hys : y.size = 4 := by rw [hy]; exact kdNode.mks m
          have hyo : ∀ u ∈ y.toList, u.oneCell' = true := by rw [hy]; exact kdNode.mko m
          have HYS := Lib.hid (And.intro hys (And.intro hyo (show y.toList.length = 1 * 4 by rw [Array.length_toList]; exact hys)))
          clear hys hyo
          have HY := Lib.hid hy
          have HQL := Lib.hid hq
          have hL := HC.out.2.2.2
          obtain ⟨i0, hinf, hz0, hz1, hz2⟩ := info_parts info95
          have i4 : (0 : Int) ≤ (q : Int) := by omega
          have i5 : (q : Int) < 3 := by omega
          clear hvm p1 p2 p3 p4 p5 hcc hrow hfull hg0 hHL hsl hnl hvgl hy hgl
          go_wp2_with fail
          refine Go.Proofs.Phase.wp_region_ph (S := (fun w' => w'.cell? ⟨gl, i * 2, none⟩ = some (.slice A n c) ∧ w'.cell? ⟨gl, i * 2 + 1, none⟩ = some (.int .i64 m))) 14 (by kernel_rfl) ?_ (fun hHeld => ?_)
          · ((try dsimp only) <;> (first | assumption | exact HH.out.1 _ rfl | exact KS | exact KS2))
          refine Go.Proofs.Phase.wpPh_take' (i := 0) (by simp only [List.getElem?_toArray, List.getElem?_cons_succ, List.getElem?_cons_zero]; rfl) ?_
          refine ⟨?_, ⟨by kernel_rfl, by kernel_rfl, by kernel_rfl, by kernel_rfl⟩, fun _ _ _ h => h, Or.inl ⟨by rfl, ?_⟩, by assumption, ?_⟩
          rotate_left
          · (intro w hSw; (try dsimp only at hSw); go_simp; with_reducible rfl)
          try simp only [Act.put, List.setIfInBounds_toArray, List.set_cons_zero, List.set_cons_succ]
          refine Go.Proofs.Phase.wpPh_take' (i := 1) (by simp only [List.getElem?_toArray, List.getElem?_cons_succ, List.getElem?_cons_zero]; rfl) ?_
          refine ⟨?_, ⟨by kernel_rfl, by kernel_rfl, by kernel_rfl, by kernel_rfl⟩, fun _ _ _ h => h, Or.inl ⟨by rfl, ?_⟩, by assumption, ?_⟩
          rotate_left
          · (intro w hSw; (try dsimp only at hSw); go_simp; with_reducible rfl)
          try simp only [Act.put, List.setIfInBounds_toArray, List.set_cons_zero, List.set_cons_succ]
          refine Go.Proofs.Phase.wpPh_take' (i := 2) (by simp only [List.getElem?_toArray, List.getElem?_cons_succ, List.getElem?_cons_zero]; rfl) ?_
          refine ⟨?_, ⟨by kernel_rfl, by kernel_rfl, by kernel_rfl, by kernel_rfl⟩, fun _ _ _ h => h, Or.inl ⟨by rfl, ?_⟩, by assumption, ?_⟩
          rotate_left
          · (intro w hSw; (try dsimp only at hSw); go_simp; with_reducible rfl)
          try simp only [Act.put, List.setIfInBounds_toArray, List.set_cons_zero, List.set_cons_succ]
          refine Go.Proofs.Phase.wpPh_take' (i := 3) (by simp only [List.getElem?_toArray, List.getElem?_cons_succ, List.getElem?_cons_zero]; rfl) ?_
          refine ⟨?_, ⟨by kernel_rfl, by kernel_rfl, by kernel_rfl, by kernel_rfl⟩, fun _ _ _ h => h, Or.inl ⟨by rfl, ?_⟩, by assumption, ?_⟩
          rotate_left
          · (intro w hSw; (try dsimp only at hSw); go_simp; with_reducible rfl)
          try simp only [Act.put, List.setIfInBounds_toArray, List.set_cons_zero, List.set_cons_succ]
          refine Go.Proofs.Phase.wpPh_take' (i := 4) (by simp only [List.getElem?_toArray, List.getElem?_cons_succ, List.getElem?_cons_zero]; rfl) ?_
          refine ⟨?_, ⟨by kernel_rfl, by kernel_rfl, by kernel_rfl, by kernel_rfl⟩, fun _ _ _ h => h, Or.inl ⟨by rfl, ?_⟩, by assumption, ?_⟩
          rotate_left
          · (intro w hSw; (try dsimp only at hSw); go_simp; with_reducible rfl)
          try simp only [Act.put, List.setIfInBounds_toArray, List.set_cons_zero, List.set_cons_succ]
          refine Go.Proofs.Phase.wpPh_take' (i := 5) (by simp only [List.getElem?_toArray, List.getElem?_cons_succ, List.getElem?_cons_zero]; rfl) ?_
          refine ⟨?_, ⟨by kernel_rfl, by kernel_rfl, by kernel_rfl, by kernel_rfl⟩, fun _ _ _ h => h, Or.inl ⟨by rfl, ?_⟩, by assumption, ?_⟩
          rotate_left
          · (intro w hSw; (try dsimp only at hSw); go_simp; with_reducible rfl)
          try simp only [Act.put, List.setIfInBounds_toArray, List.set_cons_zero, List.set_cons_succ]
          refine Go.Proofs.Phase.wpPh_take' (i := 6) (by simp only [List.getElem?_toArray, List.getElem?_cons_succ, List.getElem?_cons_zero]; rfl) ?_
          refine ⟨?_, ⟨by kernel_rfl, by kernel_rfl, by kernel_rfl, by kernel_rfl⟩, fun _ _ _ h => h, Or.inl ⟨by rfl, ?_⟩, by assumption, ?_⟩
          rotate_left
          · (intro w hSw; (try dsimp only at hSw); go_simp; with_reducible rfl)
          try simp only [Act.put, List.setIfInBounds_toArray, List.set_cons_zero, List.set_cons_succ]
          refine Go.Proofs.Phase.wpPh_take' (i := 7) (by simp only [List.getElem?_toArray, List.getElem?_cons_succ, List.getElem?_cons_zero]; rfl) ?_
          refine ⟨?_, ⟨by kernel_rfl, by kernel_rfl, by kernel_rfl, by kernel_rfl⟩, fun _ _ _ h => h, Or.inl ⟨by rfl, ?_⟩, by assumption, ?_⟩
          rotate_left
          · (intro w hSw; (try dsimp only at hSw); go_simp; with_reducible rfl)
          try simp only [Act.put, List.setIfInBounds_toArray, List.set_cons_zero, List.set_cons_succ]
          refine Go.Proofs.Phase.wpPh_take' (i := 8) (by simp only [List.getElem?_toArray, List.getElem?_cons_succ, List.getElem?_cons_zero]; rfl) ?_
          refine ⟨?_, ⟨by kernel_rfl, by kernel_rfl, by kernel_rfl, by kernel_rfl⟩, fun _ _ _ h => h, Or.inl ⟨by rfl, ?_⟩, by assumption, ?_⟩
          rotate_left
          · (intro w hSw; (try dsimp only at hSw); go_simp; with_reducible rfl)
          try simp only [Act.put, List.setIfInBounds_toArray, List.set_cons_zero, List.set_cons_succ]
          refine Go.Proofs.Phase.wpPh_before (i := 9) (by kernel_rfl) (by simp only [List.getElem?_toArray, List.getElem?_cons_succ, List.getElem?_cons_zero]; rfl) (fun K hK => ?_)
          go_simp
          ((first
              | ((with_reducible refine (markNode m _).mono ?_); rintro e w3 ⟨rfl, B3⟩; rw [← HY.out]; have K3 := (Below.refl wr.heap.size wr).drew.trans (B3.mono (Nat.le_refl _)); have KS := HH.out.1 w3 (K3.block _ HH.out.2.1); have K4 := K3.alloc K3.size (.cells y 95); have KS2 := HH.out.1 (w3.alloc (.cells y 95)) (K4.block _ HH.out.2.1); have HRW : Hid (HeldRow (w3.alloc (.cells y 95)) B 95 4 (.slice A n c) n xs) := Lib.hid (HH.out.2.2.2.2.1.keep K4); have HSD := Lib.hid (Nat.le_trans hBr K4.size); have HLT := Lib.hid (Nat.lt_of_lt_of_le HH.out.2.1 K4.size); have HNW := Lib.hid (World.news_of_block (w := w3.alloc (.cells y 95)) (heap_alloc_new w3 (.cells y 95))); have HK4 := Lib.hid (And.intro K4 (K4.block gl HH.out.2.1)))
              | (with_reducible refine step_buildSlice_one rfl 22 95 _ rfl 4 _ i0 Tryz.underlying22 hinf hz0 hz1 rfl y rfl HYS.out.1 (by decide) (by decide) ?_)
              | ((with_reducible refine step_append_held rfl _ _ 22 rfl B 95 i0 _ 4 48 Tryz.underlying22 hinf hz0 hz1 hz2 rfl (by decide) (.slice A n c) n xs rfl HRW.out ⟨w3.heap.size, 0, none⟩ 1 1 y.toList rfl HYS.out.2.2 HNW.out HYS.out.2.1 (by decide) (by unfold maxLen; omega) (by omega) HSD.out ?_); intro g' cap' w4 o1 o2 o3 o4; have y4 := (o2.block gl HLT.out (fun e => HH.out.2.2.1 e.symm)).trans HK4.out.2; have K9 := HH.out.1 w4 y4; have f1 : w4.frozen? ⟨gl, i * 2, none⟩ = false := frozen_of_row w4 gl _ _ _ (y4.trans HH.out.2.2.2.1))))
          go_wp2_with fail
          refine hK.out _ _ ?_ (fun hHeldN => ?_)
          · ((try dsimp only) <;> (first | assumption | exact HH.out.1 _ rfl | exact KS | exact KS2))
          clear hHeld
          have hHeld := hHeldN
          clear hHeldN
          clear hK K
          try simp only [Act.put, List.setIfInBounds_toArray, List.set_cons_zero, List.set_cons_succ]
          refine Go.Proofs.Phase.wpPh_before (i := 10) (by kernel_rfl) (by simp only [List.getElem?_toArray, List.getElem?_cons_succ, List.getElem?_cons_zero]; rfl) (fun K hK => ?_)
          ((first
              | ((with_reducible refine (markNode m _).mono ?_); rintro e w3 ⟨rfl, B3⟩; rw [← HY.out]; have K3 := (Below.refl wr.heap.size wr).drew.trans (B3.mono (Nat.le_refl _)); have KS := HH.out.1 w3 (K3.block _ HH.out.2.1); have K4 := K3.alloc K3.size (.cells y 95); have KS2 := HH.out.1 (w3.alloc (.cells y 95)) (K4.block _ HH.out.2.1); have HRW : Hid (HeldRow (w3.alloc (.cells y 95)) B 95 4 (.slice A n c) n xs) := Lib.hid (HH.out.2.2.2.2.1.keep K4); have HSD := Lib.hid (Nat.le_trans hBr K4.size); have HLT := Lib.hid (Nat.lt_of_lt_of_le HH.out.2.1 K4.size); have HNW := Lib.hid (World.news_of_block (w := w3.alloc (.cells y 95)) (heap_alloc_new w3 (.cells y 95))); have HK4 := Lib.hid (And.intro K4 (K4.block gl HH.out.2.1)))
              | (with_reducible refine step_buildSlice_one rfl 22 95 _ rfl 4 _ i0 Tryz.underlying22 hinf hz0 hz1 rfl y rfl HYS.out.1 (by decide) (by decide) ?_)
              | ((with_reducible refine step_append_held rfl _ _ 22 rfl B 95 i0 _ 4 48 Tryz.underlying22 hinf hz0 hz1 hz2 rfl (by decide) (.slice A n c) n xs rfl HRW.out ⟨w3.heap.size, 0, none⟩ 1 1 y.toList rfl HYS.out.2.2 HNW.out HYS.out.2.1 (by decide) (by unfold maxLen; omega) (by omega) HSD.out ?_); intro g' cap' w4 o1 o2 o3 o4; have y4 := (o2.block gl HLT.out (fun e => HH.out.2.2.1 e.symm)).trans HK4.out.2; have K9 := HH.out.1 w4 y4; have f1 : w4.frozen? ⟨gl, i * 2, none⟩ = false := frozen_of_row w4 gl _ _ _ (y4.trans HH.out.2.2.2.1))))
          refine hK.out _ _ ?_ (fun hHeldN => ?_)
          · ((try dsimp only) <;> (first | assumption | exact HH.out.1 _ rfl | exact KS | exact KS2))
          clear hHeld
          have hHeld := hHeldN
          clear hHeldN
          clear hK K
          try simp only [Act.put, List.setIfInBounds_toArray, List.set_cons_zero, List.set_cons_succ]
          refine Go.Proofs.Phase.wpPh_before (i := 11) (by kernel_rfl) (by simp only [List.getElem?_toArray, List.getElem?_cons_succ, List.getElem?_cons_zero]; rfl) (fun K hK => ?_)
          ((first
              | ((with_reducible refine (markNode m _).mono ?_); rintro e w3 ⟨rfl, B3⟩; rw [← HY.out]; have K3 := (Below.refl wr.heap.size wr).drew.trans (B3.mono (Nat.le_refl _)); have KS := HH.out.1 w3 (K3.block _ HH.out.2.1); have K4 := K3.alloc K3.size (.cells y 95); have KS2 := HH.out.1 (w3.alloc (.cells y 95)) (K4.block _ HH.out.2.1); have HRW : Hid (HeldRow (w3.alloc (.cells y 95)) B 95 4 (.slice A n c) n xs) := Lib.hid (HH.out.2.2.2.2.1.keep K4); have HSD := Lib.hid (Nat.le_trans hBr K4.size); have HLT := Lib.hid (Nat.lt_of_lt_of_le HH.out.2.1 K4.size); have HNW := Lib.hid (World.news_of_block (w := w3.alloc (.cells y 95)) (heap_alloc_new w3 (.cells y 95))); have HK4 := Lib.hid (And.intro K4 (K4.block gl HH.out.2.1)))
              | (with_reducible refine step_buildSlice_one rfl 22 95 _ rfl 4 _ i0 Tryz.underlying22 hinf hz0 hz1 rfl y rfl HYS.out.1 (by decide) (by decide) ?_)
              | ((with_reducible refine step_append_held rfl _ _ 22 rfl B 95 i0 _ 4 48 Tryz.underlying22 hinf hz0 hz1 hz2 rfl (by decide) (.slice A n c) n xs rfl HRW.out ⟨w3.heap.size, 0, none⟩ 1 1 y.toList rfl HYS.out.2.2 HNW.out HYS.out.2.1 (by decide) (by unfold maxLen; omega) (by omega) HSD.out ?_); intro g' cap' w4 o1 o2 o3 o4; have y4 := (o2.block gl HLT.out (fun e => HH.out.2.2.1 e.symm)).trans HK4.out.2; have K9 := HH.out.1 w4 y4; have f1 : w4.frozen? ⟨gl, i * 2, none⟩ = false := frozen_of_row w4 gl _ _ _ (y4.trans HH.out.2.2.2.1))))
          refine hK.out _ _ ?_ (fun hHeldN => ?_)
          · ((try dsimp only) <;> (first | assumption | exact HH.out.1 _ rfl | exact KS | exact KS2))
          clear hHeld
          have hHeld := hHeldN
          clear hHeldN
          clear hK K
          try simp only [Act.put, List.setIfInBounds_toArray, List.set_cons_zero, List.set_cons_succ]
          refine Go.Proofs.Phase.wpPh_before (i := 12) (by kernel_rfl) (by simp only [List.getElem?_toArray, List.getElem?_cons_succ, List.getElem?_cons_zero]; rfl) (fun K hK => ?_)
          go_simp
          refine hK.out _ _ ?_ (fun hHeldN => ?_)
          · ((try dsimp only) <;> (first | assumption | exact HH.out.1 _ rfl | exact KS | exact KS2))
          clear hHeld
          have hHeld := hHeldN
          clear hHeldN
          clear hK K
          try simp only [Act.put, List.setIfInBounds_toArray, List.set_cons_zero, List.set_cons_succ]
          refine Go.Proofs.Phase.wpPh_take' (i := 13) (by simp only [List.getElem?_toArray, List.getElem?_cons_succ, List.getElem?_cons_zero]; rfl) ?_
          refine ⟨?_, ⟨by kernel_rfl, by kernel_rfl, by kernel_rfl, by kernel_rfl⟩, fun _ _ _ h => h, Or.inl ⟨by rfl, ?_⟩, by assumption, ?_⟩
          rotate_left
          · (intro w hSw; (try dsimp only at hSw); go_simp; with_reducible rfl)
          try simp only [Act.put, List.setIfInBounds_toArray, List.set_cons_zero, List.set_cons_succ]
          refine Go.Proofs.Phase.wpPh_behind (i := 14) (by kernel_rfl) (by simp only [List.getElem?_toArray, List.getElem?_cons_succ, List.getElem?_cons_zero]; rfl) (by kernel_rfl) (fun K hK => ?_)
          go_simp
          refine hK.out _ _ ?_
          clear hK K
          try simp only [Act.put, List.setIfInBounds_toArray, List.set_cons_zero, List.set_cons_succ]
          refine Go.Proofs.Phase.wpPh_done (by kernel_rfl) ?_ _
          have HNEXT : Hid (GrowI kdNode w B F (.slice (some ⟨gl, 0, none⟩) N c0) N L i (q + 1) (w4.setCell ⟨gl, i * 2, none⟩ (.slice (some ⟨g', 0, none⟩) (n + 1) cap'))) := Lib.hid (by
            obtain ⟨hcc, hgl, hvgl, p1, hrow, hfull, hvm, hsl, hHL⟩ := HH.out
            have hB1 := HK4.out.1
            have hs1 : wr.heap.size ≤ (w3.alloc (.cells y 95)).heap.size := hB1.size
            have hws := HQ.out.chg.size
            have hL1 := hHL.keep (X := fun _ => False) (Chg.of_below hB1) (fun _ _ h => h)
            have hmin : min 4000000 n = n := Nat.min_eq_right (by have := HC.out.2.2.2; have := HQL.out; omega)
            have ho4 : g' < w4.heap.size := o4
            have hP := hL1.grow (F' := fun b => F b ∨ (w.heap.size ≤ b ∧ b < w4.heap.size)) (cap := c0) (n := n) (c := c) (A := A) (m := m) (v' := .slice (some ⟨g', 0, none⟩) (n + 1) cap') (i := i) (gl := gl) (xs := xs) (Nat.le_trans hBr hB1.size) hvm (by rw [hsl]) ((hB1.block gl hgl).trans p1) (fun j hj => hfull j (by rw [hmin]; exact hj)) hrow.len (by rw [if_neg (Nat.lt_irrefl i), if_pos rfl]; omega)
              (by
                have := o1
                rw [HY.out] at this
                exact this) o2 (fun b hb => by
                have hb : g' = b := by simpa [Value.ownBlock] using hb
                subst hb
                exact o3) rfl
              (fun b hb => by
                rcases hb with hb | hb
                · exact .inl hb
                · exact .inr ⟨hb.1, Nat.lt_of_lt_of_le hb.2 (Nat.le_trans hB1.size o2.size)⟩) (fun b hb hge => .inr ⟨by omega, by
                have e : g' = b := by simpa [Value.ownBlock] using hb
                rw [← e]; exact o4⟩)
            refine ⟨⟨hs.set i (.slice (some ⟨g', 0, none⟩) (n + 1) cap', m), by rw [List.length_set]; exact hsl, ?_⟩, ?_⟩
            · have hP2 := hP.fin (i := i) (A := some ⟨g', 0, none⟩) (n := n + 1) (c := cap') (m := m) (kf' := fun _ => 4000000) (by rw [List.getElem?_set_self (by have := HI.out; omega)]) (by rw [if_pos rfl]; exact Nat.le_refl _) (fun j hj => by rw [if_neg hj])
              refine (hP2.lims fun j _ => ?_).weak fun b hb _ => ?_
              · show (if j = i then (if i < i then L + 3 else if i = i then L + q else L) + 1 else if j < i then L + 3 else if j = i then L + q else L) ≤ if j < i then L + 3 else if j = i then L + (q + 1) else L
                by_cases e : j = i
                · subst e; simp; omega
                · rw [if_neg e, if_neg e, if_neg e]; exact Nat.le_refl _
              · rcases hb with hb | hb
                · exact .inl hb
                · exact .inr ⟨hb.1, by simpa using hb.2⟩
            · have hglF := hHL.inF gl (by rfl)
              refine ((HQ.out.chg.trans (Chg.of_below hB1)).trans (Chg.grown o2 fun k hk => ?_)).trans (Chg.setCell w4 ⟨gl, i * 2, none⟩ _ ?_)
              · rcases hHL.inF' i _ m k hvm hk with h1 | h1
                · exact .inl h1
                · exact .inr h1.1
              · rcases hglF with h1 | h1
                · exact .inl h1
                · exact .inr h1.1)
          clear o1 o2 o3 o4 y4 K9 f1 K3 K4 KS KS2 B3
          go_wp2_with fail
          go_roundg (3 - (q + 1))
          case measure => have := HQL.out; omega
          case rel => exact ⟨q + 1, by go_num, by have := HQL.out; omega, HNEXT⟩
        · obtain rfl : q = 3 := by omega
          have HE : Hid (GrowI kdNode w B F (.slice (some ⟨gl, 0, none⟩) N c0) N L (i + 1) 0 wr) := Lib.hid (by
            obtain ⟨hs, hsl, hHL⟩ := HQ.out.out
            refine ⟨⟨hs, hsl, hHL.lims fun j _ => ?_⟩, HQ.out.chg⟩
            show (if j < i then L + 3 else if j = i then L + 3 else L) ≤ if j < i + 1 then L + 3 else if j = i + 1 then L + 0 else L
            by_cases h1 : j < i + 1
            · rw [if_pos h1]; split
              · exact Nat.le_refl _
              · split <;> omega
            · rw [if_neg h1, if_neg (by omega), if_neg (by omega)]; split <;> exact Nat.le_refl _)
          clear hq HQ
          go_wp2_with fail
          go_roundg (N - (i + 1))
          case measure => have := HI.out; omega
          case rel => exact ⟨i + 1, by go_num, by have := HI.out; omega, HE⟩
    · obtain rfl : i = N := by omega
      go_wp2_with fail
      go_end0
      obtain ⟨hs, hsl, hHL⟩ := HT.out.out
      exact ⟨rfl, hs, hsl, hHL.lims fun j hj => by rw [if_pos (by omega)]; exact Nat.le_refl _, HT.out.chg.mono fun b hb hx => by
        rcases hx with hx | hx
        · exact hx
        · omega⟩
end Go.Proofs.YtnahhclflnjmcaaGreatDoor.Bk

/- The book: all lists of nodes hold their marks. -/
namespace Go.Proofs.YtnahhclflnjmcaaGreatDoor.Bk
open Go Go.RowKit
set_option linter.unusedVariables false
set_option linter.unusedSimpArgs false
set_option maxRecDepth 100000

theorem isNode (n : Int) (w : World) : Calls Tryz.prog 185 #[.agg (kdNode.mark n), .int .i64 n] w fun e w' => e = .returned (.bool true) ∧ Below w.heap.size w w' := by
  have hmk : kdNode.mark n = #[.int .i64 (wrap64 (-1000 - n)), .int .i64 0, .int .i64 0, .slice none 0 0] := rfl
  rw [hmk]
  clear hmk
  have hb : Below w.heap.size w (w.alloc (.cells #[.int .i64 (wrap64 (-1000 - n)), .int .i64 0, .int .i64 0, .slice none 0 0] 95)) := (Below.refl _ _).alloc (Nat.le_refl _) _
  have HB := Lib.hid hb
  clear hb
  go_enter Tryz.func185, Tryz.ntmps185
  go_wp2_with fail
  go_ret
  exact ⟨rfl, HB.out⟩
set_option maxHeartbeats 4000000 in
set_option maxRecDepth 100000 in
theorem lookNode {w : World} {B : Nat} {F : Nat → Prop} {lv : Value} {hs : List (Value × Int)} {L : Nat} (bb : Nat) (bc : Array Value) (h : HL kdNode w B F lv hs (fun _ => L) (fun _ => 4000000)) (hb : w.heap[bb]? = some (.cells bc 70 (0, 0))) (hl : bc[19]? = some lv) (hn : hs.length ≤ 1000000) (hlim : L ≤ 2000003) :
    Calls Tryz.prog 138 #[.pointer (some ⟨bb, 0, none⟩)] w fun e w' => e = .returned (.bool true) ∧ Below w.heap.size w w' := by
  obtain ⟨N, hN⟩ : ∃ N, N = hs.length := ⟨_, rfl⟩
  obtain ⟨A0, c0, e⟩ := h.slice
  rw [← hN] at e hn
  subst e
  have l1 : w.cell? ⟨bb, 19, none⟩ = some (.slice A0 N c0) := (cell_of_row w bb _ _ _ _ hb).trans hl
  have HC := Lib.hid (And.intro h (And.intro hN hlim))
  have hi0 : (0 : Int) ≤ (N : Int) := by omega
  clear h hb hl hlim hN
  go_enter Tryz.func138, Tryz.ntmps138
  go_wp2_with fail
  go_loopg [12] N (fun k v12 wr => ∃ i : Nat, v12 = .int .i64 (i : Int) ∧ i + k = N ∧ Hid (Below w.heap.size w wr))
  case atStart => exact ⟨0, rfl, by simp, Lib.hid (Below.refl _ _)⟩
  case round =>
    clear l1
    obtain ⟨i, rfl, hik, HT⟩ := hrel
    by_cases hi : i < N
    · obtain ⟨⟨v, m⟩, hvm⟩ : ∃ x, hs[i]? = some x := ⟨hs[i]'(by have := HC.out.2.1; omega), List.getElem?_eq_getElem _⟩
      obtain ⟨A, n, c, rfl, hnl⟩ := HC.out.1.sl hvm
      obtain ⟨gl, capl, curl, e, k1, k2, k3, k4, k5⟩ := HC.out.1.at hvm
      injection e with e1 e2 e3
      clear e2
      subst e1 e3
      have hgl := lt_of_some k1
      have c1 : wr.cell? ⟨gl, i * 2, none⟩ = some (.slice A n c) := (HT.out.cell (p := ⟨gl, i * 2, none⟩) hgl).trans ((cell_of_row w gl _ _ _ _ k1).trans k3)
      have c2 : wr.cell? ⟨gl, i * 2 + 1, none⟩ = some (.int .i64 m) := (HT.out.cell (p := ⟨gl, i * 2 + 1, none⟩) hgl).trans ((cell_of_row w gl _ _ _ _ k1).trans k4)
      have i1 : (0 : Int) ≤ (i : Int) := by omega
      have i2 : (i : Int) < (N : Int) := by omega
      have i3 : (0 : Int) ≤ (n : Int) := by omega
      have HI := Lib.hid (And.intro hvm hi)
      have hnl2 : n ≤ 2000003 := Nat.le_trans hnl HC.out.2.2
      have hx1 : (wr.alloc (.cells #[.slice none 0 0, .int .i64 0] 247)).heap[wr.heap.size]? = some (.cells #[.slice none 0 0, .int .i64 0] 247 (0, 0)) := heap_alloc_new wr _
      obtain ⟨w2, hw2⟩ : ∃ w2, w2 = (wr.alloc (.cells #[.slice none 0 0, .int .i64 0] 247)).setRow wr.heap.size (over #[.slice none 0 0, .int .i64 0] 0 #[.slice A n c, .int .i64 m]) := ⟨_, rfl⟩
      have hx2 : w2.heap[wr.heap.size]? = some (.cells #[.slice A n c, .int .i64 m] 247 (0, 0)) := by
        rw [hw2]
        exact (setRow_same hx1).trans (congrArg (fun z => some (Obj.cells z 247 (0, 0))) (over_full rfl))
      have hb2 : Below w.heap.size w w2 := by
        rw [hw2]
        exact below_setRow (HT.out.alloc HT.out.size _) HT.out.size
      have hszw : wr.heap.size < w2.heap.size := lt_of_some hx2
      have hcs : (Tryz.prog.info? 247).map (·.size) = some 2 := by kernel_rfl
      have hon : ∀ u ∈ (#[.slice A n c, .int .i64 m] : Array Value).toList, u.oneCell' = true := by simp [Value.oneCell']
      have HX := Lib.hid (And.intro hx1 (And.intro hw2 (And.intro hx2 (And.intro hb2 (And.intro hcs hon)))))
      have d1 : w2.cell? ⟨wr.heap.size, 0, none⟩ = some (.slice A n c) := (cell_of_row w2 _ _ _ _ _ hx2).trans rfl
      clear hvm k1 k2 k3 k4 k5 hnl hi hx1 hw2 hx2 hb2 hgl hszw hcs hon
      go_wp2_with (first | (rw [← HX.out.2.1]) | (with_reducible refine wpList_store_part rfl 247 _ _ rfl rfl wr.heap.size 0 2 rfl 247 _ _ rfl HX.out.1 HX.out.2.2.2.2.1 rfl (by simp) HX.out.2.2.2.2.2 ?_))
      go_loopg [19] n (fun k v19 wr => ∃ q : Nat, v19 = .int .i64 (q : Int) ∧ q + k = n ∧ Hid (Below w2.heap.size w2 wr))
      case atStart => exact ⟨0, rfl, by simp, Lib.hid (Below.refl _ _)⟩
      case round =>
        obtain ⟨q, rfl, hqk, HQ⟩ := hrel
        have HX2 := Lib.hid (And.intro HX.out.2.2.1 HX.out.2.2.2.1)
        clear HX c1 c2 d1
        by_cases hq : q < n
        · obtain ⟨g, o, cur, rfl, k1, k2, k3, k4, k5, k6⟩ := HC.out.1.elem HI.out.1 (by omega)
          have k6q := k6 q (by rw [Nat.min_eq_right (by omega)]; exact hq)
          have k2 : o + n * 4 ≤ cur.size := k2
          have hfit : (o + q * 4) + 4 ≤ cur.size := by omega
          obtain ⟨y, hy⟩ : ∃ y, y = kdNode.mark m := ⟨_, rfl⟩
          have hex : cur.extract (o + q * 4) (o + q * 4 + 4) = y := by rw [hy]; exact k6q
          have hgw := lt_of_some k1
          have hgr : wr.heap[g]? = some (.cells cur 95 (0, 0)) := ((HX2.out.2.trans (HQ.out.mono HX2.out.2.size)).block g hgw).trans k1
          have hys : y.size = 4 := by rw [hy]; exact kdNode.mks m
          have hyo : ∀ u ∈ y.toList, u.oneCell' = true := by rw [hy]; exact kdNode.mko m
          have x1 : (wr.alloc (.cells #[.int .i64 0, .int .i64 0, .int .i64 0, .slice none 0 0] 95)).heap[wr.heap.size]? = some (.cells #[.int .i64 0, .int .i64 0, .int .i64 0, .slice none 0 0] 95 (0, 0)) := heap_alloc_new wr _
          obtain ⟨w4, hw4⟩ : ∃ w4, w4 = (wr.alloc (.cells #[.int .i64 0, .int .i64 0, .int .i64 0, .slice none 0 0] 95)).setRow wr.heap.size (over #[.int .i64 0, .int .i64 0, .int .i64 0, .slice none 0 0] 0 y) := ⟨_, rfl⟩
          have x2 : w4.heap[wr.heap.size]? = some (.cells y 95 (0, 0)) := by
            rw [hw4]
            exact (setRow_same x1).trans (congrArg (fun z => some (Obj.cells z 95 (0, 0))) (over_full hys.symm))
          have hb4 : Below w2.heap.size w2 w4 := by
            rw [hw4]
            exact below_setRow (HQ.out.alloc HQ.out.size _) HQ.out.size
          have c5 : w4.cell? ⟨_, 1, none⟩ = some (.int .i64 m) := (cell_of_row w4 _ _ _ _ _ ((hb4.block _ (lt_of_some HX2.out.1)).trans HX2.out.1)).trans rfl
          have hxe : y.extract 0 (0 + 4) = y := by rw [Nat.zero_add, ← hys]; exact Array.extract_size
          have hsz : 0 + 4 ≤ y.size := by omega
          have M := isNode m w4
          rw [← hy] at M
          have i4 : (0 : Int) ≤ (q : Int) := by omega
          have i5 : (q : Int) < (n : Int) := by omega
          have HQL := Lib.hid hq
          have HH := Lib.hid (And.intro hgr (And.intro hfit (And.intro hex (And.intro x1 (And.intro hw4 (And.intro x2 (And.intro hys (And.intro hyo (And.intro hxe hsz)))))))))
          have HB4 := Lib.hid hb4
          clear k1 k2 k3 k4 k5 k6 k6q hy hgw hq hfit hex hgr hys hyo x1 hw4 x2 hxe hsz hb4
          go_wp2_with (first | (rw [← HH.out.2.2.2.2.1]) | (with_reducible refine wpList_load_part' rfl 95 _ rfl g (o + q * 4) 4 rfl 95 cur _ _ HH.out.1 Tryz.underlying95 rfl cells95 HH.out.2.1 y HH.out.2.2.1 ?_) | (with_reducible refine wpList_store_part rfl 95 _ _ rfl rfl wr.heap.size 0 4 rfl 95 _ y rfl HH.out.2.2.2.1 cells95 HH.out.2.2.2.2.2.2.1 (by simp) HH.out.2.2.2.2.2.2.2.1 ?_) | (with_reducible refine wpList_load_part' rfl 95 _ rfl wr.heap.size 0 4 rfl 95 y _ _ HH.out.2.2.2.2.2.1 Tryz.underlying95 rfl cells95 HH.out.2.2.2.2.2.2.2.2.2 y HH.out.2.2.2.2.2.2.2.2.1 ?_))
          refine M.mono ?_
          rintro e w5 ⟨rfl, hb5⟩
          have HB5 := Lib.hid (HB4.out.trans (hb5.mono HB4.out.size))
          clear hb5 M HB4 HH c5
          go_wp2_with fail
          go_roundg (n - (q + 1))
          case measure => have := HQL.out; omega
          case rel => exact ⟨q + 1, by go_num, by have := HQL.out; omega, HB5⟩
        · obtain rfl : q = n := by omega
          have HE := Lib.hid (HX2.out.2.trans (HQ.out.mono HX2.out.2.size))
          clear hq
          go_wp2_with fail
          go_roundg (N - (i + 1))
          case measure => have := HI.out.2; omega
          case rel => exact ⟨i + 1, by go_num, by have := HI.out.2; omega, HE⟩
    · obtain rfl : i = N := by omega
      go_wp2_with fail
      go_ret
      exact ⟨rfl, HT.out⟩
end Go.Proofs.YtnahhclflnjmcaaGreatDoor.Bk
