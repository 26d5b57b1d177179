import Derived.Test.YtnahhclflnjmcaaGreatDoorK0
import Derived.Test.YtnahhclflnjmcaaGreatDoorBkE
import Derived.Test.YtnahhclflnjmcaaGreatDoorK1
import Derived.Deep.LoopGhost
import Derived.Test.YtnahhclflnjmcaaGreatDoorA1
import Derived.Test.YtnahhclflnjmcaaGreatDoorA2
/- The book: Apart, where lists of several kinds are held. -/
namespace Go.Proofs.YtnahhclflnjmcaaGreatDoor.Bk
open Go Go.RowKit
set_option linter.unusedVariables false
set_option linter.unusedSimpArgs false

theorem up_id {f : Nat → Nat} {j x : Nat} (h : f j = x) : up f j x = f := by
  funext i
  unfold up
  by_cases e : i = j
  · rw [if_pos e, e, h]
  · rw [if_neg e]
def ksOf (j : Nat) : Option KD := if j = 2 then some kdNumber else none
theorem ksNumber : ksOf 2 = some kdNumber := by unfold ksOf; rw [if_pos rfl]
abbrev StT (w0 w : World) (B bb : Nat) (L kf : Nat → Nat) (N : Nat) : Prop := StM ksOf 70 w0 w B bb L kf N (fun _ => True)
theorem StM.fillNumber {w0 w : World} {B bb N : Nat} {L kf : Nat → Nat} (h : StT w0 w B bb L kf N) (hN : N ≤ 1000000) (hL : L 2 ≤ 2000000) : Calls Tryz.prog 54 #[.pointer (some ⟨bb, 0, none⟩)] w fun e w' => e = .returned (.tuple #[]) ∧ StT w0 w' B bb L (up kf 2 4000000) N := by
  obtain ⟨bc, lv, hs, F, m, k1, k2, k4, k5, k6, k7, k8, k9, k10, k11, k12, -⟩ := h.at (j := 2) (by decide) (by decide) ksNumber
  refine (Bk.fillNumber bb bc k6 k1 k2 k7 (by omega) (fun _ => hL) (fun b hb => (k8 b hb).1)).mono ?_
  rintro e w' ⟨rfl, h1, h2⟩
  have := k12 w' hs (L 2) 4000000 (h1.weak fun b hb _ => .inl hb) h2 k10
  rw [up_id (f := L) rfl] at this
  exact ⟨rfl, this.weak (Nat.le_refl _) fun _ _ _ => trivial⟩
theorem StM.growNumber {w0 w : World} {B bb N : Nat} {L kf : Nat → Nat} (h : StT w0 w B bb L kf N) (hN : N ≤ 1000000) (hL : L 2 ≤ 2000000) (hk : kf 2 = 4000000) : Calls Tryz.prog 87 #[.pointer (some ⟨bb, 0, none⟩)] w fun e w' => e = .returned (.tuple #[]) ∧ StT w0 w' B bb (up L 2 (L 2 + 3)) kf N := by
  obtain ⟨bc, lv, hs, F, m, k1, k2, k4, k5, k6, k7, k8, k9, k10, k11, k12, -⟩ := h.at (j := 2) (by decide) (by decide) ksNumber
  rw [hk] at k6
  refine (Bk.growNumber bb bc k6 k1 k2 k7 (by omega) hL k11).mono ?_
  rintro e w' ⟨rfl, hs', hl', h1, h2⟩
  have := k12 w' hs' (L 2 + 3) 4000000 h1 h2 (by omega)
  rw [up_id (f := kf) hk] at this
  exact ⟨rfl, this.weak (Nat.le_refl _) fun _ _ _ => trivial⟩
theorem StM.lookNumber {w0 w : World} {B bb N : Nat} {L kf : Nat → Nat} (h : StT w0 w B bb L kf N) (hN : N ≤ 1000000) (hL : L 2 ≤ 2000003) (hk : kf 2 = 4000000) : Calls Tryz.prog 121 #[.pointer (some ⟨bb, 0, none⟩)] w fun e w' => e = .returned (.bool true) ∧ StT w0 w' B bb L kf N := by
  obtain ⟨bc, lv, hs, F, m, k1, k2, k4, k5, k6, k7, k8, k9, k10, k11, k12, -⟩ := h.at (j := 2) (by decide) (by decide) ksNumber
  rw [hk] at k6
  refine (Bk.lookNumber bb bc k6 k1 k2 (by omega) hL).mono ?_
  rintro e w' ⟨rfl, h1⟩
  exact ⟨rfl, h.keep h1⟩
def lG (L : Nat) : Nat → Nat := (up (fun _ => L) 2 (L + 3))
def kG : Nat → Nat := (up (fun _ => 0) 2 4000000)
set_option maxHeartbeats 40000000 in
set_option maxRecDepth 1000000 in
theorem apartM {w0 w : World} {B bb L N : Nat} {FP : Nat → Prop} (h : StM ksOf 70 w0 w B bb (fun _ => L) (fun _ => 0) N FP) (hN : N ≤ 1000000) (hL : L ≤ 2000000) : Calls Tryz.prog 21 #[.pointer (some ⟨bb, 0, none⟩)] w fun e w' => e = .returned (.bool true) ∧ Below B w0 w' := by
  have HS := Lib.hid (show StT w0 w B bb (fun _ => L) (fun _ => 0) N from h.weak (Nat.le_refl _) fun _ _ _ => trivial)
  clear h
  go_enter Tryz.func21, Tryz.ntmps21
  go_wp2_with fail
  refine (HS.out.fillNumber hN (by first | omega | (simp [up, lG, kG]; done) | (simp [up, lG, kG]; omega))).mono ?_
  rintro e wn ⟨rfl, h⟩
  clear HS
  have HS := Lib.hid h
  clear h
  go_wp2_with fail
  refine (fillWideE (HS.out.nil 3 (by decide) (by decide) (by simp [ksOf]))).mono ?_
  rintro e wn ⟨rfl, rfl⟩
  go_wp2_with fail
  refine (fillTextE (HS.out.nil 4 (by decide) (by decide) (by simp [ksOf]))).mono ?_
  rintro e wn ⟨rfl, rfl⟩
  go_wp2_with fail
  refine (fillTermE (HS.out.nil 5 (by decide) (by decide) (by simp [ksOf]))).mono ?_
  rintro e wn ⟨rfl, rfl⟩
  go_wp2_with fail
  refine (fillSealE (HS.out.nil 6 (by decide) (by decide) (by simp [ksOf]))).mono ?_
  rintro e wn ⟨rfl, rfl⟩
  go_wp2_with fail
  refine (fillKeyE (HS.out.nil 7 (by decide) (by decide) (by simp [ksOf]))).mono ?_
  rintro e wn ⟨rfl, rfl⟩
  go_wp2_with fail
  refine (fillAddE (HS.out.nil 8 (by decide) (by decide) (by simp [ksOf]))).mono ?_
  rintro e wn ⟨rfl, rfl⟩
  go_wp2_with fail
  refine (fillJoinE (HS.out.nil 9 (by decide) (by decide) (by simp [ksOf]))).mono ?_
  rintro e wn ⟨rfl, rfl⟩
  go_wp2_with fail
  refine (fillPastE (HS.out.nil 10 (by decide) (by decide) (by simp [ksOf]))).mono ?_
  rintro e wn ⟨rfl, rfl⟩
  go_wp2_with fail
  refine (fillCardE (HS.out.nil 11 (by decide) (by decide) (by simp [ksOf]))).mono ?_
  rintro e wn ⟨rfl, rfl⟩
  go_wp2_with fail
  refine (fillGotE (HS.out.nil 12 (by decide) (by decide) (by simp [ksOf]))).mono ?_
  rintro e wn ⟨rfl, rfl⟩
  go_wp2_with fail
  refine (fillNoteE (HS.out.nil 13 (by decide) (by decide) (by simp [ksOf]))).mono ?_
  rintro e wn ⟨rfl, rfl⟩
  go_wp2_with fail
  refine (fillAnswerE (HS.out.nil 14 (by decide) (by decide) (by simp [ksOf]))).mono ?_
  rintro e wn ⟨rfl, rfl⟩
  go_wp2_with fail
  refine (fillOutcomeE (HS.out.nil 15 (by decide) (by decide) (by simp [ksOf]))).mono ?_
  rintro e wn ⟨rfl, rfl⟩
  go_wp2_with fail
  refine (fillFindingE (HS.out.nil 16 (by decide) (by decide) (by simp [ksOf]))).mono ?_
  rintro e wn ⟨rfl, rfl⟩
  go_wp2_with fail
  refine (fillStepE (HS.out.nil 17 (by decide) (by decide) (by simp [ksOf]))).mono ?_
  rintro e wn ⟨rfl, rfl⟩
  go_wp2_with fail
  refine (fillWriteE (HS.out.nil 18 (by decide) (by decide) (by simp [ksOf]))).mono ?_
  rintro e wn ⟨rfl, rfl⟩
  go_wp2_with fail
  refine (fillNodeE (HS.out.nil 19 (by decide) (by decide) (by simp [ksOf]))).mono ?_
  rintro e wn ⟨rfl, rfl⟩
  go_wp2_with fail
  refine (fillTreeE (HS.out.nil 20 (by decide) (by decide) (by simp [ksOf]))).mono ?_
  rintro e wn ⟨rfl, rfl⟩
  go_wp2_with fail
  refine (fillCommitE (HS.out.nil 21 (by decide) (by decide) (by simp [ksOf]))).mono ?_
  rintro e wn ⟨rfl, rfl⟩
  go_wp2_with fail
  refine (fillStateE (HS.out.nil 22 (by decide) (by decide) (by simp [ksOf]))).mono ?_
  rintro e wn ⟨rfl, rfl⟩
  go_wp2_with fail
  refine (fillFaceE (HS.out.nil 23 (by decide) (by decide) (by simp [ksOf]))).mono ?_
  rintro e wn ⟨rfl, rfl⟩
  go_wp2_with fail
  refine (fillRequestE (HS.out.nil 24 (by decide) (by decide) (by simp [ksOf]))).mono ?_
  rintro e wn ⟨rfl, rfl⟩
  go_wp2_with fail
  refine (fillMailE (HS.out.nil 25 (by decide) (by decide) (by simp [ksOf]))).mono ?_
  rintro e wn ⟨rfl, rfl⟩
  go_wp2_with fail
  refine (fillPendingE (HS.out.nil 26 (by decide) (by decide) (by simp [ksOf]))).mono ?_
  rintro e wn ⟨rfl, rfl⟩
  go_wp2_with fail
  refine (fillFeedE (HS.out.nil 27 (by decide) (by decide) (by simp [ksOf]))).mono ?_
  rintro e wn ⟨rfl, rfl⟩
  go_wp2_with fail
  refine (fillLogE (HS.out.nil 28 (by decide) (by decide) (by simp [ksOf]))).mono ?_
  rintro e wn ⟨rfl, rfl⟩
  go_wp2_with fail
  refine (fillBoxE (HS.out.nil 29 (by decide) (by decide) (by simp [ksOf]))).mono ?_
  rintro e wn ⟨rfl, rfl⟩
  go_wp2_with fail
  refine (fillEarlyE (HS.out.nil 30 (by decide) (by decide) (by simp [ksOf]))).mono ?_
  rintro e wn ⟨rfl, rfl⟩
  go_wp2_with fail
  refine (fillLinkE (HS.out.nil 31 (by decide) (by decide) (by simp [ksOf]))).mono ?_
  rintro e wn ⟨rfl, rfl⟩
  go_wp2_with fail
  refine (fillPacketE (HS.out.nil 32 (by decide) (by decide) (by simp [ksOf]))).mono ?_
  rintro e wn ⟨rfl, rfl⟩
  go_wp2_with fail
  refine (fillTermRowE (HS.out.nil 33 (by decide) (by decide) (by simp [ksOf]))).mono ?_
  rintro e wn ⟨rfl, rfl⟩
  go_wp2_with fail
  refine (fillNumberRowE (HS.out.nil 34 (by decide) (by decide) (by simp [ksOf]))).mono ?_
  rintro e wn ⟨rfl, rfl⟩
  go_wp2_with fail
  refine (HS.out.growNumber hN (by first | omega | (simp [up, lG, kG]; done) | (simp [up, lG, kG]; omega)) (by first | omega | (simp [up, lG, kG]; done) | (simp [up, lG, kG]; omega))).mono ?_
  rintro e wn ⟨rfl, h⟩
  clear HS
  have HS := Lib.hid h
  clear h
  go_wp2_with fail
  refine (growWideE (HS.out.nil 3 (by decide) (by decide) (by simp [ksOf]))).mono ?_
  rintro e wn ⟨rfl, rfl⟩
  go_wp2_with fail
  refine (growTextE (HS.out.nil 4 (by decide) (by decide) (by simp [ksOf]))).mono ?_
  rintro e wn ⟨rfl, rfl⟩
  go_wp2_with fail
  refine (growTermE (HS.out.nil 5 (by decide) (by decide) (by simp [ksOf]))).mono ?_
  rintro e wn ⟨rfl, rfl⟩
  go_wp2_with fail
  refine (growSealE (HS.out.nil 6 (by decide) (by decide) (by simp [ksOf]))).mono ?_
  rintro e wn ⟨rfl, rfl⟩
  go_wp2_with fail
  refine (growKeyE (HS.out.nil 7 (by decide) (by decide) (by simp [ksOf]))).mono ?_
  rintro e wn ⟨rfl, rfl⟩
  go_wp2_with fail
  refine (growAddE (HS.out.nil 8 (by decide) (by decide) (by simp [ksOf]))).mono ?_
  rintro e wn ⟨rfl, rfl⟩
  go_wp2_with fail
  refine (growJoinE (HS.out.nil 9 (by decide) (by decide) (by simp [ksOf]))).mono ?_
  rintro e wn ⟨rfl, rfl⟩
  go_wp2_with fail
  refine (growPastE (HS.out.nil 10 (by decide) (by decide) (by simp [ksOf]))).mono ?_
  rintro e wn ⟨rfl, rfl⟩
  go_wp2_with fail
  refine (growCardE (HS.out.nil 11 (by decide) (by decide) (by simp [ksOf]))).mono ?_
  rintro e wn ⟨rfl, rfl⟩
  go_wp2_with fail
  refine (growGotE (HS.out.nil 12 (by decide) (by decide) (by simp [ksOf]))).mono ?_
  rintro e wn ⟨rfl, rfl⟩
  go_wp2_with fail
  refine (growNoteE (HS.out.nil 13 (by decide) (by decide) (by simp [ksOf]))).mono ?_
  rintro e wn ⟨rfl, rfl⟩
  go_wp2_with fail
  refine (growAnswerE (HS.out.nil 14 (by decide) (by decide) (by simp [ksOf]))).mono ?_
  rintro e wn ⟨rfl, rfl⟩
  go_wp2_with fail
  refine (growOutcomeE (HS.out.nil 15 (by decide) (by decide) (by simp [ksOf]))).mono ?_
  rintro e wn ⟨rfl, rfl⟩
  go_wp2_with fail
  refine (growFindingE (HS.out.nil 16 (by decide) (by decide) (by simp [ksOf]))).mono ?_
  rintro e wn ⟨rfl, rfl⟩
  go_wp2_with fail
  refine (growStepE (HS.out.nil 17 (by decide) (by decide) (by simp [ksOf]))).mono ?_
  rintro e wn ⟨rfl, rfl⟩
  go_wp2_with fail
  refine (growWriteE (HS.out.nil 18 (by decide) (by decide) (by simp [ksOf]))).mono ?_
  rintro e wn ⟨rfl, rfl⟩
  go_wp2_with fail
  refine (growNodeE (HS.out.nil 19 (by decide) (by decide) (by simp [ksOf]))).mono ?_
  rintro e wn ⟨rfl, rfl⟩
  go_wp2_with fail
  refine (growTreeE (HS.out.nil 20 (by decide) (by decide) (by simp [ksOf]))).mono ?_
  rintro e wn ⟨rfl, rfl⟩
  go_wp2_with fail
  refine (growCommitE (HS.out.nil 21 (by decide) (by decide) (by simp [ksOf]))).mono ?_
  rintro e wn ⟨rfl, rfl⟩
  go_wp2_with fail
  refine (growStateE (HS.out.nil 22 (by decide) (by decide) (by simp [ksOf]))).mono ?_
  rintro e wn ⟨rfl, rfl⟩
  go_wp2_with fail
  refine (growFaceE (HS.out.nil 23 (by decide) (by decide) (by simp [ksOf]))).mono ?_
  rintro e wn ⟨rfl, rfl⟩
  go_wp2_with fail
  refine (growRequestE (HS.out.nil 24 (by decide) (by decide) (by simp [ksOf]))).mono ?_
  rintro e wn ⟨rfl, rfl⟩
  go_wp2_with fail
  refine (growMailE (HS.out.nil 25 (by decide) (by decide) (by simp [ksOf]))).mono ?_
  rintro e wn ⟨rfl, rfl⟩
  go_wp2_with fail
  refine (growPendingE (HS.out.nil 26 (by decide) (by decide) (by simp [ksOf]))).mono ?_
  rintro e wn ⟨rfl, rfl⟩
  go_wp2_with fail
  refine (growFeedE (HS.out.nil 27 (by decide) (by decide) (by simp [ksOf]))).mono ?_
  rintro e wn ⟨rfl, rfl⟩
  go_wp2_with fail
  refine (growLogE (HS.out.nil 28 (by decide) (by decide) (by simp [ksOf]))).mono ?_
  rintro e wn ⟨rfl, rfl⟩
  go_wp2_with fail
  refine (growBoxE (HS.out.nil 29 (by decide) (by decide) (by simp [ksOf]))).mono ?_
  rintro e wn ⟨rfl, rfl⟩
  go_wp2_with fail
  refine (growEarlyE (HS.out.nil 30 (by decide) (by decide) (by simp [ksOf]))).mono ?_
  rintro e wn ⟨rfl, rfl⟩
  go_wp2_with fail
  refine (growLinkE (HS.out.nil 31 (by decide) (by decide) (by simp [ksOf]))).mono ?_
  rintro e wn ⟨rfl, rfl⟩
  go_wp2_with fail
  refine (growPacketE (HS.out.nil 32 (by decide) (by decide) (by simp [ksOf]))).mono ?_
  rintro e wn ⟨rfl, rfl⟩
  go_wp2_with fail
  refine (growTermRowE (HS.out.nil 33 (by decide) (by decide) (by simp [ksOf]))).mono ?_
  rintro e wn ⟨rfl, rfl⟩
  go_wp2_with fail
  refine (growNumberRowE (HS.out.nil 34 (by decide) (by decide) (by simp [ksOf]))).mono ?_
  rintro e wn ⟨rfl, rfl⟩
  go_wp2_with fail
  have HS' : Hid (StT w0 _ B bb (lG L) kG N) := Lib.hid (by
    have := HS.out
    simpa [up, lG, kG] using this)
  clear HS
  have HS := HS'
  clear HS'
  go_loopg [3] 8 (fun k v3 wr => ∃ i : Nat, v3 = .int .u64 (i : Int) ∧ i + k = 8 ∧ Hid (StT w0 wr B bb (lG L) kG N))
  case atStart => exact ⟨0, rfl, rfl, HS⟩
  case round =>
    clear HS
    obtain ⟨i, rfl, hik, HS⟩ := hrel
    by_cases hi : i < 8
    · have i1 : (0 : Int) ≤ (i : Int) := by omega
      have i2 : (i : Int) < 8 := by omega
      go_wp2_with fail
      refine (bitsE _ (HS.out.nil 1 (by decide) (by decide) (by simp [ksOf]))).mono ?_
      rintro e wn ⟨rfl, rfl⟩
      have HI := Lib.hid hi
      clear hi
      go_wp2_with fail
      go_roundg (8 - (i + 1))
      case measure => have := HI.out; omega
      case rel => exact ⟨i + 1, by first | go_num | (congr 1; go_arith), by have := HI.out; omega, HS⟩
    · obtain rfl : i = 8 := by omega
      clear hi
      go_wp2_with fail
      refine (HS.out.lookNumber hN (by first | omega | (simp [up, lG, kG]; done) | (simp [up, lG, kG]; omega)) (by first | omega | (simp [up, lG, kG]; done) | (simp [up, lG, kG]; omega))).mono ?_
      rintro e wn ⟨rfl, h⟩
      clear HS
      have HS := Lib.hid h
      clear h
      go_wp2_with fail
      refine (lookWideE (HS.out.nil 3 (by decide) (by decide) (by simp [ksOf]))).mono ?_
      rintro e wn ⟨rfl, rfl⟩
      go_wp2_with fail
      refine (lookTextE (HS.out.nil 4 (by decide) (by decide) (by simp [ksOf]))).mono ?_
      rintro e wn ⟨rfl, rfl⟩
      go_wp2_with fail
      refine (lookTermE (HS.out.nil 5 (by decide) (by decide) (by simp [ksOf]))).mono ?_
      rintro e wn ⟨rfl, rfl⟩
      go_wp2_with fail
      refine (lookSealE (HS.out.nil 6 (by decide) (by decide) (by simp [ksOf]))).mono ?_
      rintro e wn ⟨rfl, rfl⟩
      go_wp2_with fail
      refine (lookKeyE (HS.out.nil 7 (by decide) (by decide) (by simp [ksOf]))).mono ?_
      rintro e wn ⟨rfl, rfl⟩
      go_wp2_with fail
      refine (lookAddE (HS.out.nil 8 (by decide) (by decide) (by simp [ksOf]))).mono ?_
      rintro e wn ⟨rfl, rfl⟩
      go_wp2_with fail
      refine (lookJoinE (HS.out.nil 9 (by decide) (by decide) (by simp [ksOf]))).mono ?_
      rintro e wn ⟨rfl, rfl⟩
      go_wp2_with fail
      refine (lookPastE (HS.out.nil 10 (by decide) (by decide) (by simp [ksOf]))).mono ?_
      rintro e wn ⟨rfl, rfl⟩
      go_wp2_with fail
      refine (lookCardE (HS.out.nil 11 (by decide) (by decide) (by simp [ksOf]))).mono ?_
      rintro e wn ⟨rfl, rfl⟩
      go_wp2_with fail
      refine (lookGotE (HS.out.nil 12 (by decide) (by decide) (by simp [ksOf]))).mono ?_
      rintro e wn ⟨rfl, rfl⟩
      go_wp2_with fail
      refine (lookNoteE (HS.out.nil 13 (by decide) (by decide) (by simp [ksOf]))).mono ?_
      rintro e wn ⟨rfl, rfl⟩
      go_wp2_with fail
      refine (lookAnswerE (HS.out.nil 14 (by decide) (by decide) (by simp [ksOf]))).mono ?_
      rintro e wn ⟨rfl, rfl⟩
      go_wp2_with fail
      refine (lookOutcomeE (HS.out.nil 15 (by decide) (by decide) (by simp [ksOf]))).mono ?_
      rintro e wn ⟨rfl, rfl⟩
      go_wp2_with fail
      refine (lookFindingE (HS.out.nil 16 (by decide) (by decide) (by simp [ksOf]))).mono ?_
      rintro e wn ⟨rfl, rfl⟩
      go_wp2_with fail
      refine (lookStepE (HS.out.nil 17 (by decide) (by decide) (by simp [ksOf]))).mono ?_
      rintro e wn ⟨rfl, rfl⟩
      go_wp2_with fail
      refine (lookWriteE (HS.out.nil 18 (by decide) (by decide) (by simp [ksOf]))).mono ?_
      rintro e wn ⟨rfl, rfl⟩
      go_wp2_with fail
      refine (lookNodeE (HS.out.nil 19 (by decide) (by decide) (by simp [ksOf]))).mono ?_
      rintro e wn ⟨rfl, rfl⟩
      go_wp2_with fail
      refine (lookTreeE (HS.out.nil 20 (by decide) (by decide) (by simp [ksOf]))).mono ?_
      rintro e wn ⟨rfl, rfl⟩
      go_wp2_with fail
      refine (lookCommitE (HS.out.nil 21 (by decide) (by decide) (by simp [ksOf]))).mono ?_
      rintro e wn ⟨rfl, rfl⟩
      go_wp2_with fail
      refine (lookStateE (HS.out.nil 22 (by decide) (by decide) (by simp [ksOf]))).mono ?_
      rintro e wn ⟨rfl, rfl⟩
      go_wp2_with fail
      refine (lookFaceE (HS.out.nil 23 (by decide) (by decide) (by simp [ksOf]))).mono ?_
      rintro e wn ⟨rfl, rfl⟩
      go_wp2_with fail
      refine (lookRequestE (HS.out.nil 24 (by decide) (by decide) (by simp [ksOf]))).mono ?_
      rintro e wn ⟨rfl, rfl⟩
      go_wp2_with fail
      refine (lookMailE (HS.out.nil 25 (by decide) (by decide) (by simp [ksOf]))).mono ?_
      rintro e wn ⟨rfl, rfl⟩
      go_wp2_with fail
      refine (lookPendingE (HS.out.nil 26 (by decide) (by decide) (by simp [ksOf]))).mono ?_
      rintro e wn ⟨rfl, rfl⟩
      go_wp2_with fail
      refine (lookFeedE (HS.out.nil 27 (by decide) (by decide) (by simp [ksOf]))).mono ?_
      rintro e wn ⟨rfl, rfl⟩
      go_wp2_with fail
      refine (lookLogE (HS.out.nil 28 (by decide) (by decide) (by simp [ksOf]))).mono ?_
      rintro e wn ⟨rfl, rfl⟩
      go_wp2_with fail
      refine (lookBoxE (HS.out.nil 29 (by decide) (by decide) (by simp [ksOf]))).mono ?_
      rintro e wn ⟨rfl, rfl⟩
      go_wp2_with fail
      refine (lookEarlyE (HS.out.nil 30 (by decide) (by decide) (by simp [ksOf]))).mono ?_
      rintro e wn ⟨rfl, rfl⟩
      go_wp2_with fail
      refine (lookLinkE (HS.out.nil 31 (by decide) (by decide) (by simp [ksOf]))).mono ?_
      rintro e wn ⟨rfl, rfl⟩
      go_wp2_with fail
      refine (lookPacketE (HS.out.nil 32 (by decide) (by decide) (by simp [ksOf]))).mono ?_
      rintro e wn ⟨rfl, rfl⟩
      go_wp2_with fail
      refine (lookTermRowE (HS.out.nil 33 (by decide) (by decide) (by simp [ksOf]))).mono ?_
      rintro e wn ⟨rfl, rfl⟩
      go_wp2_with fail
      refine (lookNumberRowE (HS.out.nil 34 (by decide) (by decide) (by simp [ksOf]))).mono ?_
      rintro e wn ⟨rfl, rfl⟩
      go_wp2_with fail
      go_ret
      exact ⟨rfl, HS.out.below⟩
end Go.Proofs.YtnahhclflnjmcaaGreatDoor.Bk

/- The book's Numbers, where lists of several kinds are held; a book's start. -/
namespace Go.Proofs.YtnahhclflnjmcaaGreatDoor.Bk
open Go Go.RowKit
set_option linter.unusedVariables false
set_option linter.unusedSimpArgs false
set_option maxRecDepth 100000

theorem numbersM {w0 w : World} {B bb L N : Nat} {FP : Nat → Prop} {v : Value} (h : StM ksOf 70 w0 w B bb (fun _ => L) (fun _ => 0) N FP) (hN : N ≤ 1000000) (hv : ∀ m, OwnH kdNumber w B v m L 0) (hd : ∀ b, v.ownBlock = some b → ¬ FP b ∧ b ≠ bb) :
    Calls Tryz.prog 20 #[.pointer (some ⟨bb, 0, none⟩), v] w fun e w' => e = .returned (.tuple #[]) ∧ StM ksOf 70 w0 w' B bb (fun _ => L) (fun _ => 0) (N + 1) (fun b => FP b ∨ v.ownBlock = some b ∨ w.heap.size ≤ b) ∧ Chg (fun b => FP b ∨ b = bb) w w' := by
  obtain ⟨A, n, c, hvs⟩ : ∃ A n c, v = .slice A n c := by
    rcases hv 0 with h1 | ⟨g, o, n, cap, cur, h1, _⟩
    · exact ⟨_, _, _, h1⟩
    · exact ⟨_, _, _, h1⟩
  obtain ⟨bc, lv, hs, F, m, k1, k2, k4, k5, k6, k7, k8, k9, k10, k11, -, k13⟩ := h.at (j := 2) (by decide) (by decide) ksNumber
  have M := Bk.keepNumber Bk.kdNumber rfl bb bc v m k6 k1 k4 k2 k7 (hv m) (fun b hb => ⟨fun e => (hd b hb).1 (k9 b e), (hd b hb).2⟩) (by omega) k5 k11
  have HK := Lib.hid (fun w' hP => k13 v w' (fun b hb => ⟨(hd b hb).1, (hd b hb).2, ((hv 0).lt hb).1, ((hv 0).lt hb).2⟩) hP)
  subst hvs
  clear h hv hd k1 k2 k4 k5 k6 k7 k8 k9 k10 k11 k13
  go_enter Tryz.func20, Tryz.ntmps20
  go_wp2_with fail
  refine M.mono ?_
  rintro e w' ⟨rfl, hP⟩
  have HP := Lib.hid (HK.out w' hP)
  clear M hP HK
  go_wp2_with fail
  go_end0
  exact ⟨rfl, HP.out⟩
theorem ownH_lower {K : KD} {w : World} {B B' : Nat} {v : Value} {m : Int} {l k : Nat} (h : OwnH K w B v m l k) (hB : B' ≤ B) : OwnH K w B' v m l k := by
  rcases h with h1 | ⟨g, o, n, cap, cur, e, h3, h4, h5⟩
  · exact .inl h1
  · exact .inr ⟨g, o, n, cap, cur, e, ⟨h3.blk, Nat.le_trans hB h3.hB, h3.le, h3.mx, h3.fit, h3.kind⟩, h4, h5⟩
theorem cells70 : (Tryz.prog.info? 70).map (·.size) = some 35 := by kernel_rfl
theorem built70 : Tryz.prog.built 70 [] = some #[.int .i64 0, .slice none 0 0, .slice none 0 0, .slice none 0 0, .slice none 0 0, .slice none 0 0, .slice none 0 0, .slice none 0 0, .slice none 0 0, .slice none 0 0, .slice none 0 0, .slice none 0 0, .slice none 0 0, .slice none 0 0, .slice none 0 0, .slice none 0 0, .slice none 0 0, .slice none 0 0, .slice none 0 0, .slice none 0 0, .slice none 0 0, .slice none 0 0, .slice none 0 0, .slice none 0 0, .slice none 0 0, .slice none 0 0, .slice none 0 0, .slice none 0 0, .slice none 0 0, .slice none 0 0, .slice none 0 0, .slice none 0 0, .slice none 0 0, .slice none 0 0, .slice none 0 0] := by kernel_rfl
theorem build70 (w : World) : (Instr.build 70 #[]).run Tryz.prog w = .ok (.agg #[.int .i64 0, .slice none 0 0, .slice none 0 0, .slice none 0 0, .slice none 0 0, .slice none 0 0, .slice none 0 0, .slice none 0 0, .slice none 0 0, .slice none 0 0, .slice none 0 0, .slice none 0 0, .slice none 0 0, .slice none 0 0, .slice none 0 0, .slice none 0 0, .slice none 0 0, .slice none 0 0, .slice none 0 0, .slice none 0 0, .slice none 0 0, .slice none 0 0, .slice none 0 0, .slice none 0 0, .slice none 0 0, .slice none 0 0, .slice none 0 0, .slice none 0 0, .slice none 0 0, .slice none 0 0, .slice none 0 0, .slice none 0 0, .slice none 0 0, .slice none 0 0, .slice none 0 0]) w := Go.run_build w 70 #[] _ built70
theorem wpList_build_eq {P : Program} {ops : Array Oper} {rest : List Oper} {o : Oper} {a : Act} {w : World} {Q : Exit → Act → World → Prop} (hgd : o.guard = none) (ty : TypeId) (ho : o.op = .build ty #[]) (v : Value) (hr : (Instr.build ty #[]).run P w = .ok v w)
    (h : wpList P ops Q rest (a.put o.dst v) w) : wpList P ops Q (o :: rest) a w := by
  refine wpList_plain hgd fun K hK => ?_
  unfold Oper.wp execOp
  simp only [ho, List.map_toArray, List.map_nil, Sem.run_bind, hr, Result.andThen_ok, Sem.run_pure]
  exact hK _ _ h
end Go.Proofs.YtnahhclflnjmcaaGreatDoor.Bk

/- The book of Numbers: a start, a list kept. -/
namespace Go.Proofs.YtnahhclflnjmcaaGreatDoor
open Go Go.RowKit Go.Proofs.YtnahhclflnjmcaaGreatDoor.Bk
set_option linter.unusedVariables false
set_option linter.unusedSimpArgs false
set_option maxRecDepth 100000

theorem OwnI.held {w : World} {B L : Nat} {v : Value} {l : List Int} (h : OwnI w B v l) (hl : l.length ≤ L) : ∀ m, OwnH kdNumber w B v m L 0 :=
  fun m => OwnH.of_row h hl fun j hj => by rw [Nat.zero_min] at hj; omega
theorem keepM {w0 w : World} {B bb L N s t : Nat} {v : Value} (h : StM ksOf 70 w0 w B bb (fun _ => L) (fun _ => 0) N (fun b => b < s ∨ bb ≤ b)) (hN : N ≤ 1000000) (hBs : B ≤ s) (hs : s ≤ t) (ht : t ≤ bb) (hv : ∀ m, OwnH kdNumber w s v m L 0) (hlt : ∀ b, v.ownBlock = some b → b < t) :
    Calls Tryz.prog 20 #[.pointer (some ⟨bb, 0, none⟩), v] w fun e w' => e = .returned (.tuple #[]) ∧ StM ksOf 70 w0 w' B bb (fun _ => L) (fun _ => 0) (N + 1) (fun b => b < t ∨ bb ≤ b) ∧ ∀ u, (∀ b, u.ownBlock = some b → t ≤ b ∧ b < bb) → (∀ m, OwnH kdNumber w t u m L 0) → ∀ m, OwnH kdNumber w' t u m L 0 := by
  have hbb : bb < w.heap.size := h.bbl
  refine (numbersM h hN (fun m => ownH_lower (hv m) hBs) fun b hb => ?_).mono ?_
  · have h1 := ((hv 0).lt hb).2
    have h2 := hlt b hb
    exact ⟨fun e => by rcases e with e | e <;> omega, by omega⟩
  · rintro e w' ⟨rfl, h1, h2⟩
    refine ⟨rfl, h1.weak (Nat.le_refl _) fun b hb _ => ?_, fun u hu ho m => (ho m).keep fun b hb => h2.block b ((ho m).lt hb).1 fun e => ?_⟩
    · rcases hb with (e | e) | e | e
      · exact .inl (by omega)
      · exact .inr e
      · exact .inl (hlt b e)
      · exact .inr (by omega)
    · have := hu b hb
      rcases e with (e | e) | e <;> omega
theorem startM {w W0 : World} {B bb L s : Nat} {z : Array Value} (hx : W0.heap[bb]? = some (.cells z 70 (0, 0))) (hz : z.size = 35) (h0 : z[0]? = some (.int .i64 0)) (hn : ∀ j, 1 ≤ j → j < 35 → z[j]? = some (.slice none 0 0)) (hB : B ≤ bb) (hlo : B ≤ w.heap.size) (hb : Below B w W0) :
    StM ksOf 70 w W0 B bb (fun _ => L) (fun _ => 0) 0 (fun b => b < s ∨ bb ≤ b) :=
  ⟨⟨z, 0, fun _ => .slice none 0 0, fun _ => [], fun _ _ => False, hx, h0, by omega, hz, hn, fun j _ => rfl, fun j K _ => Bk.HL.nil _ _ _ _ _ _, fun i j b _ h => h.elim, fun j h => h, fun j b h => h.elim, fun j b h => h.elim, fun j => Nat.le_refl _⟩, hB, hlo, hb⟩
end Go.Proofs.YtnahhclflnjmcaaGreatDoor
