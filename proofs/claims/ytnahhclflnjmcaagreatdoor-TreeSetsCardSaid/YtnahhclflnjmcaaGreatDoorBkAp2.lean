/- The book: Apart, where lists of several kinds are held. -/
import Derived.Test.YtnahhclflnjmcaaGreatDoorK0
import Derived.Test.YtnahhclflnjmcaaGreatDoorBkE
import Derived.Test.YtnahhclflnjmcaaGreatDoorK1
import Derived.Test.YtnahhclflnjmcaaGreatDoorK3
import Derived.Deep.LoopGhost
namespace Go.Proofs.YtnahhclflnjmcaaGreatDoor.Bk
open Go Go.RowKit
set_option linter.unusedVariables false
set_option linter.unusedSimpArgs false

theorem up_id2 {f : Nat → Nat} {j x : Nat} (h : f j = x) : up f j x = f := by
  funext i
  unfold up
  by_cases e : i = j
  · rw [if_pos e, e, h]
  · rw [if_neg e]
def ksOf2 (j : Nat) : Option KD := if j = 2 then some kdNumber else if j = 19 then some kdNode else none
theorem ksNumber2 : ksOf2 2 = some kdNumber := by unfold ksOf2; rw [if_pos rfl]
theorem ksNode2 : ksOf2 19 = some kdNode := by unfold ksOf2; rw [if_neg (by decide)]; rw [if_pos rfl]
abbrev StT2 (w0 w : World) (B bb : Nat) (L kf : Nat → Nat) (N : Nat) : Prop := StM ksOf2 70 w0 w B bb L kf N (fun _ => True)
theorem StM.fillNumber2 {w0 w : World} {B bb N : Nat} {L kf : Nat → Nat} (h : StT2 w0 w B bb L kf N) (hN : N ≤ 1000000) (hL : L 2 ≤ 2000000) : Calls Tryz.prog 54 #[.pointer (some ⟨bb, 0, none⟩)] w fun e w' => e = .returned (.tuple #[]) ∧ StT2 w0 w' B bb L (up kf 2 4000000) N := by
  obtain ⟨bc, lv, hs, F, m, k1, k2, k4, k5, k6, k7, k8, k9, k10, k11, k12, -⟩ := h.at (j := 2) (by decide) (by decide) ksNumber2
  refine (Bk.fillNumber bb bc k6 k1 k2 k7 (by omega) (fun _ => hL) (fun b hb => (k8 b hb).1)).mono ?_
  rintro e w' ⟨rfl, h1, h2⟩
  have := k12 w' hs (L 2) 4000000 (h1.weak fun b hb _ => .inl hb) h2 k10
  rw [up_id2 (f := L) rfl] at this
  exact ⟨rfl, this.weak (Nat.le_refl _) fun _ _ _ => trivial⟩
theorem StM.growNumber2 {w0 w : World} {B bb N : Nat} {L kf : Nat → Nat} (h : StT2 w0 w B bb L kf N) (hN : N ≤ 1000000) (hL : L 2 ≤ 2000000) (hk : kf 2 = 4000000) : Calls Tryz.prog 87 #[.pointer (some ⟨bb, 0, none⟩)] w fun e w' => e = .returned (.tuple #[]) ∧ StT2 w0 w' B bb (up L 2 (L 2 + 3)) kf N := by
  obtain ⟨bc, lv, hs, F, m, k1, k2, k4, k5, k6, k7, k8, k9, k10, k11, k12, -⟩ := h.at (j := 2) (by decide) (by decide) ksNumber2
  rw [hk] at k6
  refine (Bk.growNumber bb bc k6 k1 k2 k7 (by omega) hL k11).mono ?_
  rintro e w' ⟨rfl, hs', hl', h1, h2⟩
  have := k12 w' hs' (L 2 + 3) 4000000 h1 h2 (by omega)
  rw [up_id2 (f := kf) hk] at this
  exact ⟨rfl, this.weak (Nat.le_refl _) fun _ _ _ => trivial⟩
theorem StM.lookNumber2 {w0 w : World} {B bb N : Nat} {L kf : Nat → Nat} (h : StT2 w0 w B bb L kf N) (hN : N ≤ 1000000) (hL : L 2 ≤ 2000003) (hk : kf 2 = 4000000) : Calls Tryz.prog 121 #[.pointer (some ⟨bb, 0, none⟩)] w fun e w' => e = .returned (.bool true) ∧ StT2 w0 w' B bb L kf N := by
  obtain ⟨bc, lv, hs, F, m, k1, k2, k4, k5, k6, k7, k8, k9, k10, k11, k12, -⟩ := h.at (j := 2) (by decide) (by decide) ksNumber2
  rw [hk] at k6
  refine (Bk.lookNumber bb bc k6 k1 k2 (by omega) hL).mono ?_
  rintro e w' ⟨rfl, h1⟩
  exact ⟨rfl, h.keep h1⟩
theorem StM.fillNode2 {w0 w : World} {B bb N : Nat} {L kf : Nat → Nat} (h : StT2 w0 w B bb L kf N) (hN : N ≤ 1000000) (hL : L 19 ≤ 2000000) : Calls Tryz.prog 71 #[.pointer (some ⟨bb, 0, none⟩)] w fun e w' => e = .returned (.tuple #[]) ∧ StT2 w0 w' B bb L (up kf 19 4000000) N := by
  obtain ⟨bc, lv, hs, F, m, k1, k2, k4, k5, k6, k7, k8, k9, k10, k11, k12, -⟩ := h.at (j := 19) (by decide) (by decide) ksNode2
  refine (Bk.fillNode bb bc k6 k1 k2 k7 (by omega) (fun _ => hL) (fun b hb => (k8 b hb).1)).mono ?_
  rintro e w' ⟨rfl, h1, h2⟩
  have := k12 w' hs (L 19) 4000000 (h1.weak fun b hb _ => .inl hb) h2 k10
  rw [up_id2 (f := L) rfl] at this
  exact ⟨rfl, this.weak (Nat.le_refl _) fun _ _ _ => trivial⟩
theorem StM.growNode2 {w0 w : World} {B bb N : Nat} {L kf : Nat → Nat} (h : StT2 w0 w B bb L kf N) (hN : N ≤ 1000000) (hL : L 19 ≤ 2000000) (hk : kf 19 = 4000000) : Calls Tryz.prog 104 #[.pointer (some ⟨bb, 0, none⟩)] w fun e w' => e = .returned (.tuple #[]) ∧ StT2 w0 w' B bb (up L 19 (L 19 + 3)) kf N := by
  obtain ⟨bc, lv, hs, F, m, k1, k2, k4, k5, k6, k7, k8, k9, k10, k11, k12, -⟩ := h.at (j := 19) (by decide) (by decide) ksNode2
  rw [hk] at k6
  refine (Bk.growNode bb bc k6 k1 k2 k7 (by omega) hL k11).mono ?_
  rintro e w' ⟨rfl, hs', hl', h1, h2⟩
  have := k12 w' hs' (L 19 + 3) 4000000 h1 h2 (by omega)
  rw [up_id2 (f := kf) hk] at this
  exact ⟨rfl, this.weak (Nat.le_refl _) fun _ _ _ => trivial⟩
theorem StM.lookNode2 {w0 w : World} {B bb N : Nat} {L kf : Nat → Nat} (h : StT2 w0 w B bb L kf N) (hN : N ≤ 1000000) (hL : L 19 ≤ 2000003) (hk : kf 19 = 4000000) : Calls Tryz.prog 138 #[.pointer (some ⟨bb, 0, none⟩)] w fun e w' => e = .returned (.bool true) ∧ StT2 w0 w' B bb L kf N := by
  obtain ⟨bc, lv, hs, F, m, k1, k2, k4, k5, k6, k7, k8, k9, k10, k11, k12, -⟩ := h.at (j := 19) (by decide) (by decide) ksNode2
  rw [hk] at k6
  refine (Bk.lookNode bb bc k6 k1 k2 (by omega) hL).mono ?_
  rintro e w' ⟨rfl, h1⟩
  exact ⟨rfl, h.keep h1⟩
def lG2 (L : Nat) : Nat → Nat := (up (up (fun _ => L) 2 (L + 3)) 19 (L + 3))
def kG2 : Nat → Nat := (up (up (fun _ => 0) 2 4000000) 19 4000000)
set_option maxHeartbeats 40000000 in
set_option maxRecDepth 1000000 in
theorem apartM2 {w0 w : World} {B bb L N : Nat} {FP : Nat → Prop} (h : StM ksOf2 70 w0 w B bb (fun _ => L) (fun _ => 0) N FP) (hN : N ≤ 1000000) (hL : L ≤ 2000000) : Calls Tryz.prog 21 #[.pointer (some ⟨bb, 0, none⟩)] w fun e w' => e = .returned (.bool true) ∧ Below B w0 w' := by
  have HS := Lib.hid (show StT2 w0 w B bb (fun _ => L) (fun _ => 0) N from h.weak (Nat.le_refl _) fun _ _ _ => trivial)
  clear h
  go_enter Tryz.func21, Tryz.ntmps21
  go_wp2_with fail
  refine (HS.out.fillNumber2 hN (by first | omega | (simp [up, lG2, kG2]; done) | (simp [up, lG2, kG2]; omega))).mono ?_
  rintro e wn ⟨rfl, h⟩
  clear HS
  have HS := Lib.hid h
  clear h
  go_wp2_with fail
  refine (fillWideE (HS.out.nil 3 (by decide) (by decide) (by simp [ksOf2]))).mono ?_
  rintro e wn ⟨rfl, rfl⟩
  go_wp2_with fail
  refine (fillTextE (HS.out.nil 4 (by decide) (by decide) (by simp [ksOf2]))).mono ?_
  rintro e wn ⟨rfl, rfl⟩
  go_wp2_with fail
  refine (fillTermE (HS.out.nil 5 (by decide) (by decide) (by simp [ksOf2]))).mono ?_
  rintro e wn ⟨rfl, rfl⟩
  go_wp2_with fail
  refine (fillSealE (HS.out.nil 6 (by decide) (by decide) (by simp [ksOf2]))).mono ?_
  rintro e wn ⟨rfl, rfl⟩
  go_wp2_with fail
  refine (fillKeyE (HS.out.nil 7 (by decide) (by decide) (by simp [ksOf2]))).mono ?_
  rintro e wn ⟨rfl, rfl⟩
  go_wp2_with fail
  refine (fillAddE (HS.out.nil 8 (by decide) (by decide) (by simp [ksOf2]))).mono ?_
  rintro e wn ⟨rfl, rfl⟩
  go_wp2_with fail
  refine (fillJoinE (HS.out.nil 9 (by decide) (by decide) (by simp [ksOf2]))).mono ?_
  rintro e wn ⟨rfl, rfl⟩
  go_wp2_with fail
  refine (fillPastE (HS.out.nil 10 (by decide) (by decide) (by simp [ksOf2]))).mono ?_
  rintro e wn ⟨rfl, rfl⟩
  go_wp2_with fail
  refine (fillCardE (HS.out.nil 11 (by decide) (by decide) (by simp [ksOf2]))).mono ?_
  rintro e wn ⟨rfl, rfl⟩
  go_wp2_with fail
  refine (fillGotE (HS.out.nil 12 (by decide) (by decide) (by simp [ksOf2]))).mono ?_
  rintro e wn ⟨rfl, rfl⟩
  go_wp2_with fail
  refine (fillNoteE (HS.out.nil 13 (by decide) (by decide) (by simp [ksOf2]))).mono ?_
  rintro e wn ⟨rfl, rfl⟩
  go_wp2_with fail
  refine (fillAnswerE (HS.out.nil 14 (by decide) (by decide) (by simp [ksOf2]))).mono ?_
  rintro e wn ⟨rfl, rfl⟩
  go_wp2_with fail
  refine (fillOutcomeE (HS.out.nil 15 (by decide) (by decide) (by simp [ksOf2]))).mono ?_
  rintro e wn ⟨rfl, rfl⟩
  go_wp2_with fail
  refine (fillFindingE (HS.out.nil 16 (by decide) (by decide) (by simp [ksOf2]))).mono ?_
  rintro e wn ⟨rfl, rfl⟩
  go_wp2_with fail
  refine (fillStepE (HS.out.nil 17 (by decide) (by decide) (by simp [ksOf2]))).mono ?_
  rintro e wn ⟨rfl, rfl⟩
  go_wp2_with fail
  refine (fillWriteE (HS.out.nil 18 (by decide) (by decide) (by simp [ksOf2]))).mono ?_
  rintro e wn ⟨rfl, rfl⟩
  go_wp2_with fail
  refine (HS.out.fillNode2 hN (by first | omega | (simp [up, lG2, kG2]; done) | (simp [up, lG2, kG2]; omega))).mono ?_
  rintro e wn ⟨rfl, h⟩
  clear HS
  have HS := Lib.hid h
  clear h
  go_wp2_with fail
  refine (fillTreeE (HS.out.nil 20 (by decide) (by decide) (by simp [ksOf2]))).mono ?_
  rintro e wn ⟨rfl, rfl⟩
  go_wp2_with fail
  refine (fillCommitE (HS.out.nil 21 (by decide) (by decide) (by simp [ksOf2]))).mono ?_
  rintro e wn ⟨rfl, rfl⟩
  go_wp2_with fail
  refine (fillStateE (HS.out.nil 22 (by decide) (by decide) (by simp [ksOf2]))).mono ?_
  rintro e wn ⟨rfl, rfl⟩
  go_wp2_with fail
  refine (fillFaceE (HS.out.nil 23 (by decide) (by decide) (by simp [ksOf2]))).mono ?_
  rintro e wn ⟨rfl, rfl⟩
  go_wp2_with fail
  refine (fillRequestE (HS.out.nil 24 (by decide) (by decide) (by simp [ksOf2]))).mono ?_
  rintro e wn ⟨rfl, rfl⟩
  go_wp2_with fail
  refine (fillMailE (HS.out.nil 25 (by decide) (by decide) (by simp [ksOf2]))).mono ?_
  rintro e wn ⟨rfl, rfl⟩
  go_wp2_with fail
  refine (fillPendingE (HS.out.nil 26 (by decide) (by decide) (by simp [ksOf2]))).mono ?_
  rintro e wn ⟨rfl, rfl⟩
  go_wp2_with fail
  refine (fillFeedE (HS.out.nil 27 (by decide) (by decide) (by simp [ksOf2]))).mono ?_
  rintro e wn ⟨rfl, rfl⟩
  go_wp2_with fail
  refine (fillLogE (HS.out.nil 28 (by decide) (by decide) (by simp [ksOf2]))).mono ?_
  rintro e wn ⟨rfl, rfl⟩
  go_wp2_with fail
  refine (fillBoxE (HS.out.nil 29 (by decide) (by decide) (by simp [ksOf2]))).mono ?_
  rintro e wn ⟨rfl, rfl⟩
  go_wp2_with fail
  refine (fillEarlyE (HS.out.nil 30 (by decide) (by decide) (by simp [ksOf2]))).mono ?_
  rintro e wn ⟨rfl, rfl⟩
  go_wp2_with fail
  refine (fillLinkE (HS.out.nil 31 (by decide) (by decide) (by simp [ksOf2]))).mono ?_
  rintro e wn ⟨rfl, rfl⟩
  go_wp2_with fail
  refine (fillPacketE (HS.out.nil 32 (by decide) (by decide) (by simp [ksOf2]))).mono ?_
  rintro e wn ⟨rfl, rfl⟩
  go_wp2_with fail
  refine (fillTermRowE (HS.out.nil 33 (by decide) (by decide) (by simp [ksOf2]))).mono ?_
  rintro e wn ⟨rfl, rfl⟩
  go_wp2_with fail
  refine (fillNumberRowE (HS.out.nil 34 (by decide) (by decide) (by simp [ksOf2]))).mono ?_
  rintro e wn ⟨rfl, rfl⟩
  go_wp2_with fail
  refine (HS.out.growNumber2 hN (by first | omega | (simp [up, lG2, kG2]; done) | (simp [up, lG2, kG2]; omega)) (by first | omega | (simp [up, lG2, kG2]; done) | (simp [up, lG2, kG2]; omega))).mono ?_
  rintro e wn ⟨rfl, h⟩
  clear HS
  have HS := Lib.hid h
  clear h
  go_wp2_with fail
  refine (growWideE (HS.out.nil 3 (by decide) (by decide) (by simp [ksOf2]))).mono ?_
  rintro e wn ⟨rfl, rfl⟩
  go_wp2_with fail
  refine (growTextE (HS.out.nil 4 (by decide) (by decide) (by simp [ksOf2]))).mono ?_
  rintro e wn ⟨rfl, rfl⟩
  go_wp2_with fail
  refine (growTermE (HS.out.nil 5 (by decide) (by decide) (by simp [ksOf2]))).mono ?_
  rintro e wn ⟨rfl, rfl⟩
  go_wp2_with fail
  refine (growSealE (HS.out.nil 6 (by decide) (by decide) (by simp [ksOf2]))).mono ?_
  rintro e wn ⟨rfl, rfl⟩
  go_wp2_with fail
  refine (growKeyE (HS.out.nil 7 (by decide) (by decide) (by simp [ksOf2]))).mono ?_
  rintro e wn ⟨rfl, rfl⟩
  go_wp2_with fail
  refine (growAddE (HS.out.nil 8 (by decide) (by decide) (by simp [ksOf2]))).mono ?_
  rintro e wn ⟨rfl, rfl⟩
  go_wp2_with fail
  refine (growJoinE (HS.out.nil 9 (by decide) (by decide) (by simp [ksOf2]))).mono ?_
  rintro e wn ⟨rfl, rfl⟩
  go_wp2_with fail
  refine (growPastE (HS.out.nil 10 (by decide) (by decide) (by simp [ksOf2]))).mono ?_
  rintro e wn ⟨rfl, rfl⟩
  go_wp2_with fail
  refine (growCardE (HS.out.nil 11 (by decide) (by decide) (by simp [ksOf2]))).mono ?_
  rintro e wn ⟨rfl, rfl⟩
  go_wp2_with fail
  refine (growGotE (HS.out.nil 12 (by decide) (by decide) (by simp [ksOf2]))).mono ?_
  rintro e wn ⟨rfl, rfl⟩
  go_wp2_with fail
  refine (growNoteE (HS.out.nil 13 (by decide) (by decide) (by simp [ksOf2]))).mono ?_
  rintro e wn ⟨rfl, rfl⟩
  go_wp2_with fail
  refine (growAnswerE (HS.out.nil 14 (by decide) (by decide) (by simp [ksOf2]))).mono ?_
  rintro e wn ⟨rfl, rfl⟩
  go_wp2_with fail
  refine (growOutcomeE (HS.out.nil 15 (by decide) (by decide) (by simp [ksOf2]))).mono ?_
  rintro e wn ⟨rfl, rfl⟩
  go_wp2_with fail
  refine (growFindingE (HS.out.nil 16 (by decide) (by decide) (by simp [ksOf2]))).mono ?_
  rintro e wn ⟨rfl, rfl⟩
  go_wp2_with fail
  refine (growStepE (HS.out.nil 17 (by decide) (by decide) (by simp [ksOf2]))).mono ?_
  rintro e wn ⟨rfl, rfl⟩
  go_wp2_with fail
  refine (growWriteE (HS.out.nil 18 (by decide) (by decide) (by simp [ksOf2]))).mono ?_
  rintro e wn ⟨rfl, rfl⟩
  go_wp2_with fail
  refine (HS.out.growNode2 hN (by first | omega | (simp [up, lG2, kG2]; done) | (simp [up, lG2, kG2]; omega)) (by first | omega | (simp [up, lG2, kG2]; done) | (simp [up, lG2, kG2]; omega))).mono ?_
  rintro e wn ⟨rfl, h⟩
  clear HS
  have HS := Lib.hid h
  clear h
  go_wp2_with fail
  refine (growTreeE (HS.out.nil 20 (by decide) (by decide) (by simp [ksOf2]))).mono ?_
  rintro e wn ⟨rfl, rfl⟩
  go_wp2_with fail
  refine (growCommitE (HS.out.nil 21 (by decide) (by decide) (by simp [ksOf2]))).mono ?_
  rintro e wn ⟨rfl, rfl⟩
  go_wp2_with fail
  refine (growStateE (HS.out.nil 22 (by decide) (by decide) (by simp [ksOf2]))).mono ?_
  rintro e wn ⟨rfl, rfl⟩
  go_wp2_with fail
  refine (growFaceE (HS.out.nil 23 (by decide) (by decide) (by simp [ksOf2]))).mono ?_
  rintro e wn ⟨rfl, rfl⟩
  go_wp2_with fail
  refine (growRequestE (HS.out.nil 24 (by decide) (by decide) (by simp [ksOf2]))).mono ?_
  rintro e wn ⟨rfl, rfl⟩
  go_wp2_with fail
  refine (growMailE (HS.out.nil 25 (by decide) (by decide) (by simp [ksOf2]))).mono ?_
  rintro e wn ⟨rfl, rfl⟩
  go_wp2_with fail
  refine (growPendingE (HS.out.nil 26 (by decide) (by decide) (by simp [ksOf2]))).mono ?_
  rintro e wn ⟨rfl, rfl⟩
  go_wp2_with fail
  refine (growFeedE (HS.out.nil 27 (by decide) (by decide) (by simp [ksOf2]))).mono ?_
  rintro e wn ⟨rfl, rfl⟩
  go_wp2_with fail
  refine (growLogE (HS.out.nil 28 (by decide) (by decide) (by simp [ksOf2]))).mono ?_
  rintro e wn ⟨rfl, rfl⟩
  go_wp2_with fail
  refine (growBoxE (HS.out.nil 29 (by decide) (by decide) (by simp [ksOf2]))).mono ?_
  rintro e wn ⟨rfl, rfl⟩
  go_wp2_with fail
  refine (growEarlyE (HS.out.nil 30 (by decide) (by decide) (by simp [ksOf2]))).mono ?_
  rintro e wn ⟨rfl, rfl⟩
  go_wp2_with fail
  refine (growLinkE (HS.out.nil 31 (by decide) (by decide) (by simp [ksOf2]))).mono ?_
  rintro e wn ⟨rfl, rfl⟩
  go_wp2_with fail
  refine (growPacketE (HS.out.nil 32 (by decide) (by decide) (by simp [ksOf2]))).mono ?_
  rintro e wn ⟨rfl, rfl⟩
  go_wp2_with fail
  refine (growTermRowE (HS.out.nil 33 (by decide) (by decide) (by simp [ksOf2]))).mono ?_
  rintro e wn ⟨rfl, rfl⟩
  go_wp2_with fail
  refine (growNumberRowE (HS.out.nil 34 (by decide) (by decide) (by simp [ksOf2]))).mono ?_
  rintro e wn ⟨rfl, rfl⟩
  go_wp2_with fail
  have HS' : Hid (StT2 w0 _ B bb (lG2 L) kG2 N) := Lib.hid (by
    have := HS.out
    simpa [up, lG2, kG2] using this)
  clear HS
  have HS := HS'
  clear HS'
  go_loopg [3] 8 (fun k v3 wr => ∃ i : Nat, v3 = .int .u64 (i : Int) ∧ i + k = 8 ∧ Hid (StT2 w0 wr B bb (lG2 L) kG2 N))
  case atStart => exact ⟨0, rfl, rfl, HS⟩
  case round =>
    clear HS
    obtain ⟨i, rfl, hik, HS⟩ := hrel
    by_cases hi : i < 8
    · have i1 : (0 : Int) ≤ (i : Int) := by omega
      have i2 : (i : Int) < 8 := by omega
      go_wp2_with fail
      refine (bitsE _ (HS.out.nil 1 (by decide) (by decide) (by simp [ksOf2]))).mono ?_
      rintro e wn ⟨rfl, rfl⟩
      have HI := Lib.hid hi
      clear hi
      go_wp2_with fail
      go_roundg (8 - (i + 1))
      case measure => have := HI.out; omega
      case rel => exact ⟨i + 1, by first | go_num | (congr 1; go_arith), by have := HI.out; omega, HS⟩
    · obtain rfl : i = 8 := by omega
      clear hi
      go_wp2_with fail
      refine (HS.out.lookNumber2 hN (by first | omega | (simp [up, lG2, kG2]; done) | (simp [up, lG2, kG2]; omega)) (by first | omega | (simp [up, lG2, kG2]; done) | (simp [up, lG2, kG2]; omega))).mono ?_
      rintro e wn ⟨rfl, h⟩
      clear HS
      have HS := Lib.hid h
      clear h
      go_wp2_with fail
      refine (lookWideE (HS.out.nil 3 (by decide) (by decide) (by simp [ksOf2]))).mono ?_
      rintro e wn ⟨rfl, rfl⟩
      go_wp2_with fail
      refine (lookTextE (HS.out.nil 4 (by decide) (by decide) (by simp [ksOf2]))).mono ?_
      rintro e wn ⟨rfl, rfl⟩
      go_wp2_with fail
      refine (lookTermE (HS.out.nil 5 (by decide) (by decide) (by simp [ksOf2]))).mono ?_
      rintro e wn ⟨rfl, rfl⟩
      go_wp2_with fail
      refine (lookSealE (HS.out.nil 6 (by decide) (by decide) (by simp [ksOf2]))).mono ?_
      rintro e wn ⟨rfl, rfl⟩
      go_wp2_with fail
      refine (lookKeyE (HS.out.nil 7 (by decide) (by decide) (by simp [ksOf2]))).mono ?_
      rintro e wn ⟨rfl, rfl⟩
      go_wp2_with fail
      refine (lookAddE (HS.out.nil 8 (by decide) (by decide) (by simp [ksOf2]))).mono ?_
      rintro e wn ⟨rfl, rfl⟩
      go_wp2_with fail
      refine (lookJoinE (HS.out.nil 9 (by decide) (by decide) (by simp [ksOf2]))).mono ?_
      rintro e wn ⟨rfl, rfl⟩
      go_wp2_with fail
      refine (lookPastE (HS.out.nil 10 (by decide) (by decide) (by simp [ksOf2]))).mono ?_
      rintro e wn ⟨rfl, rfl⟩
      go_wp2_with fail
      refine (lookCardE (HS.out.nil 11 (by decide) (by decide) (by simp [ksOf2]))).mono ?_
      rintro e wn ⟨rfl, rfl⟩
      go_wp2_with fail
      refine (lookGotE (HS.out.nil 12 (by decide) (by decide) (by simp [ksOf2]))).mono ?_
      rintro e wn ⟨rfl, rfl⟩
      go_wp2_with fail
      refine (lookNoteE (HS.out.nil 13 (by decide) (by decide) (by simp [ksOf2]))).mono ?_
      rintro e wn ⟨rfl, rfl⟩
      go_wp2_with fail
      refine (lookAnswerE (HS.out.nil 14 (by decide) (by decide) (by simp [ksOf2]))).mono ?_
      rintro e wn ⟨rfl, rfl⟩
      go_wp2_with fail
      refine (lookOutcomeE (HS.out.nil 15 (by decide) (by decide) (by simp [ksOf2]))).mono ?_
      rintro e wn ⟨rfl, rfl⟩
      go_wp2_with fail
      refine (lookFindingE (HS.out.nil 16 (by decide) (by decide) (by simp [ksOf2]))).mono ?_
      rintro e wn ⟨rfl, rfl⟩
      go_wp2_with fail
      refine (lookStepE (HS.out.nil 17 (by decide) (by decide) (by simp [ksOf2]))).mono ?_
      rintro e wn ⟨rfl, rfl⟩
      go_wp2_with fail
      refine (lookWriteE (HS.out.nil 18 (by decide) (by decide) (by simp [ksOf2]))).mono ?_
      rintro e wn ⟨rfl, rfl⟩
      go_wp2_with fail
      refine (HS.out.lookNode2 hN (by first | omega | (simp [up, lG2, kG2]; done) | (simp [up, lG2, kG2]; omega)) (by first | omega | (simp [up, lG2, kG2]; done) | (simp [up, lG2, kG2]; omega))).mono ?_
      rintro e wn ⟨rfl, h⟩
      clear HS
      have HS := Lib.hid h
      clear h
      go_wp2_with fail
      refine (lookTreeE (HS.out.nil 20 (by decide) (by decide) (by simp [ksOf2]))).mono ?_
      rintro e wn ⟨rfl, rfl⟩
      go_wp2_with fail
      refine (lookCommitE (HS.out.nil 21 (by decide) (by decide) (by simp [ksOf2]))).mono ?_
      rintro e wn ⟨rfl, rfl⟩
      go_wp2_with fail
      refine (lookStateE (HS.out.nil 22 (by decide) (by decide) (by simp [ksOf2]))).mono ?_
      rintro e wn ⟨rfl, rfl⟩
      go_wp2_with fail
      refine (lookFaceE (HS.out.nil 23 (by decide) (by decide) (by simp [ksOf2]))).mono ?_
      rintro e wn ⟨rfl, rfl⟩
      go_wp2_with fail
      refine (lookRequestE (HS.out.nil 24 (by decide) (by decide) (by simp [ksOf2]))).mono ?_
      rintro e wn ⟨rfl, rfl⟩
      go_wp2_with fail
      refine (lookMailE (HS.out.nil 25 (by decide) (by decide) (by simp [ksOf2]))).mono ?_
      rintro e wn ⟨rfl, rfl⟩
      go_wp2_with fail
      refine (lookPendingE (HS.out.nil 26 (by decide) (by decide) (by simp [ksOf2]))).mono ?_
      rintro e wn ⟨rfl, rfl⟩
      go_wp2_with fail
      refine (lookFeedE (HS.out.nil 27 (by decide) (by decide) (by simp [ksOf2]))).mono ?_
      rintro e wn ⟨rfl, rfl⟩
      go_wp2_with fail
      refine (lookLogE (HS.out.nil 28 (by decide) (by decide) (by simp [ksOf2]))).mono ?_
      rintro e wn ⟨rfl, rfl⟩
      go_wp2_with fail
      refine (lookBoxE (HS.out.nil 29 (by decide) (by decide) (by simp [ksOf2]))).mono ?_
      rintro e wn ⟨rfl, rfl⟩
      go_wp2_with fail
      refine (lookEarlyE (HS.out.nil 30 (by decide) (by decide) (by simp [ksOf2]))).mono ?_
      rintro e wn ⟨rfl, rfl⟩
      go_wp2_with fail
      refine (lookLinkE (HS.out.nil 31 (by decide) (by decide) (by simp [ksOf2]))).mono ?_
      rintro e wn ⟨rfl, rfl⟩
      go_wp2_with fail
      refine (lookPacketE (HS.out.nil 32 (by decide) (by decide) (by simp [ksOf2]))).mono ?_
      rintro e wn ⟨rfl, rfl⟩
      go_wp2_with fail
      refine (lookTermRowE (HS.out.nil 33 (by decide) (by decide) (by simp [ksOf2]))).mono ?_
      rintro e wn ⟨rfl, rfl⟩
      go_wp2_with fail
      refine (lookNumberRowE (HS.out.nil 34 (by decide) (by decide) (by simp [ksOf2]))).mono ?_
      rintro e wn ⟨rfl, rfl⟩
      go_wp2_with fail
      go_ret
      exact ⟨rfl, HS.out.below⟩
end Go.Proofs.YtnahhclflnjmcaaGreatDoor.Bk
