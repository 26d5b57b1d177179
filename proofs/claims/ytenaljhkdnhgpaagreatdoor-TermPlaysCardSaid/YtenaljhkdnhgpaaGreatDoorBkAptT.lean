/- The book: Apart, where lists of one kind are held. -/
import Derived.Test.YtenaljhkdnhgpaaGreatDoorBkSt
import Derived.Test.YtenaljhkdnhgpaaGreatDoorBkE
import Derived.Test.YtenaljhkdnhgpaaGreatDoorBkFillT
import Derived.Test.YtenaljhkdnhgpaaGreatDoorBkGrowT
import Derived.Test.YtenaljhkdnhgpaaGreatDoorBkLookT
import Derived.Deep.LoopGhost
namespace Go.Proofs.YtenaljhkdnhgpaaGreatDoor.Bk
open Go Go.RowKit
set_option linter.unusedVariables false
set_option linter.unusedSimpArgs false

theorem St1.fillTerm {w0 w : World} {B bb L N : Nat} {FP : Nat → Prop} (h : St1 kdTerm 66 5 w0 w B bb L 0 N FP) (hN : N ≤ 1000000) (hL : L ≤ 2000000) : Calls Tryz.prog 38 #[.pointer (some ⟨bb, 0, none⟩)] w fun e w' => e = .returned (.tuple #[]) ∧ St1 kdTerm 66 5 w0 w' B bb L 4000000 N FP := by
  obtain ⟨bc, lv, hs, F, m, k1, k2, k3, k4, k5, k6, k7, k8, k9, k10⟩ := h.out
  refine (Bk.fillTerm bb bc k6 k1 k2 k7 (by omega) (fun _ => hL) (fun b hb => (k8 b hb).1)).mono ?_
  rintro e w' ⟨rfl, h1, h2⟩
  exact ⟨rfl, ⟨bc, lv, hs, F, m, h2.keep k1 k7, k2, k3, k4, k5, h1, k7, fun b hb => ⟨Nat.lt_of_lt_of_le (k8 b hb).1 h2.size, (k8 b hb).2⟩, k9, k10⟩, h.hB, h.lo, h.below.trans (h2.below (Nat.le_trans h.lo h.below.size) fun b _ hb => (k8 b hb).2)⟩
theorem St1.growTerm {w0 w : World} {B bb L N : Nat} {FP : Nat → Prop} (h : St1 kdTerm 66 5 w0 w B bb L 4000000 N FP) (hN : N ≤ 1000000) (hL : L ≤ 2000000) : Calls Tryz.prog 71 #[.pointer (some ⟨bb, 0, none⟩)] w fun e w' => e = .returned (.tuple #[]) ∧ St1 kdTerm 66 5 w0 w' B bb (L + 3) 4000000 N (fun _ => True) := by
  obtain ⟨bc, lv, hs, F, m, k1, k2, k3, k4, k5, k6, k7, k8, k9, k10⟩ := h.out
  have hbb := lt_of_some k1
  refine (Bk.growTerm bb bc k6 k1 k2 k7 (by omega) hL (Nat.le_trans h.lo h.below.size)).mono ?_
  rintro e w' ⟨rfl, hs', hl', h1, h2⟩
  exact ⟨rfl, ⟨bc, lv, hs', _, m, h2.keep k1 k7, k2, k3, k4, k5, h1, (fun e => by
    rcases e with e | e
    · exact k7 e
    · omega), (fun b hb => by
    rcases hb with hb | hb
    · exact ⟨Nat.lt_of_lt_of_le (k8 b hb).1 h2.size, (k8 b hb).2⟩
    · exact ⟨hb.2, Nat.le_trans (Nat.le_trans h.lo h.below.size) hb.1⟩), fun _ _ => trivial, by omega⟩, h.hB, h.lo, h.below.trans (h2.below (Nat.le_trans h.lo h.below.size) fun b _ hb => (k8 b hb).2)⟩
theorem St1.lookTerm {w0 w : World} {B bb L N : Nat} {FP : Nat → Prop} (h : St1 kdTerm 66 5 w0 w B bb L 4000000 N FP) (hN : N ≤ 1000000) (hL : L ≤ 2000003) : Calls Tryz.prog 105 #[.pointer (some ⟨bb, 0, none⟩)] w fun e w' => e = .returned (.bool true) ∧ St1 kdTerm 66 5 w0 w' B bb L 4000000 N FP := by
  obtain ⟨bc, lv, hs, F, m, k1, k2, k3, k4, k5, k6, k7, k8, k9, k10⟩ := h.out
  refine (Bk.lookTerm bb bc k6 k1 k2 (by omega) hL).mono ?_
  rintro e w' ⟨rfl, h1⟩
  exact ⟨rfl, h.keep h1⟩
set_option maxHeartbeats 40000000 in
set_option maxRecDepth 1000000 in
theorem apartTerm {w0 w : World} {B bb L N : Nat} {FP : Nat → Prop} (h : St1 kdTerm 66 5 w0 w B bb L 0 N FP) (hN : N ≤ 1000000) (hL : L ≤ 2000000) : Calls Tryz.prog 13 #[.pointer (some ⟨bb, 0, none⟩)] w fun e w' => e = .returned (.bool true) ∧ Below B w0 w' := by
  have HS := Lib.hid h
  clear h
  go_enter Tryz.func13, Tryz.ntmps13
  go_wp2_with fail
  refine (fillNumberE (HS.out.nil 2 (by decide) (by decide) (by decide))).mono ?_
  rintro e wn ⟨rfl, rfl⟩
  go_wp2_with fail
  refine (fillWideE (HS.out.nil 3 (by decide) (by decide) (by decide))).mono ?_
  rintro e wn ⟨rfl, rfl⟩
  go_wp2_with fail
  refine (fillTextE (HS.out.nil 4 (by decide) (by decide) (by decide))).mono ?_
  rintro e wn ⟨rfl, rfl⟩
  go_wp2_with fail
  refine (HS.out.fillTerm hN hL).mono ?_
  rintro e wn ⟨rfl, h⟩
  clear HS
  have HS := Lib.hid h
  clear h
  go_wp2_with fail
  refine (fillSealE (HS.out.nil 6 (by decide) (by decide) (by decide))).mono ?_
  rintro e wn ⟨rfl, rfl⟩
  go_wp2_with fail
  refine (fillKeyE (HS.out.nil 7 (by decide) (by decide) (by decide))).mono ?_
  rintro e wn ⟨rfl, rfl⟩
  go_wp2_with fail
  refine (fillAddE (HS.out.nil 8 (by decide) (by decide) (by decide))).mono ?_
  rintro e wn ⟨rfl, rfl⟩
  go_wp2_with fail
  refine (fillJoinE (HS.out.nil 9 (by decide) (by decide) (by decide))).mono ?_
  rintro e wn ⟨rfl, rfl⟩
  go_wp2_with fail
  refine (fillPastE (HS.out.nil 10 (by decide) (by decide) (by decide))).mono ?_
  rintro e wn ⟨rfl, rfl⟩
  go_wp2_with fail
  refine (fillCardE (HS.out.nil 11 (by decide) (by decide) (by decide))).mono ?_
  rintro e wn ⟨rfl, rfl⟩
  go_wp2_with fail
  refine (fillGotE (HS.out.nil 12 (by decide) (by decide) (by decide))).mono ?_
  rintro e wn ⟨rfl, rfl⟩
  go_wp2_with fail
  refine (fillNoteE (HS.out.nil 13 (by decide) (by decide) (by decide))).mono ?_
  rintro e wn ⟨rfl, rfl⟩
  go_wp2_with fail
  refine (fillAnswerE (HS.out.nil 14 (by decide) (by decide) (by decide))).mono ?_
  rintro e wn ⟨rfl, rfl⟩
  go_wp2_with fail
  refine (fillOutcomeE (HS.out.nil 15 (by decide) (by decide) (by decide))).mono ?_
  rintro e wn ⟨rfl, rfl⟩
  go_wp2_with fail
  refine (fillFindingE (HS.out.nil 16 (by decide) (by decide) (by decide))).mono ?_
  rintro e wn ⟨rfl, rfl⟩
  go_wp2_with fail
  refine (fillStepE (HS.out.nil 17 (by decide) (by decide) (by decide))).mono ?_
  rintro e wn ⟨rfl, rfl⟩
  go_wp2_with fail
  refine (fillWriteE (HS.out.nil 18 (by decide) (by decide) (by decide))).mono ?_
  rintro e wn ⟨rfl, rfl⟩
  go_wp2_with fail
  refine (fillNodeE (HS.out.nil 19 (by decide) (by decide) (by decide))).mono ?_
  rintro e wn ⟨rfl, rfl⟩
  go_wp2_with fail
  refine (fillTreeE (HS.out.nil 20 (by decide) (by decide) (by decide))).mono ?_
  rintro e wn ⟨rfl, rfl⟩
  go_wp2_with fail
  refine (fillCommitE (HS.out.nil 21 (by decide) (by decide) (by decide))).mono ?_
  rintro e wn ⟨rfl, rfl⟩
  go_wp2_with fail
  refine (fillStateE (HS.out.nil 22 (by decide) (by decide) (by decide))).mono ?_
  rintro e wn ⟨rfl, rfl⟩
  go_wp2_with fail
  refine (fillFaceE (HS.out.nil 23 (by decide) (by decide) (by decide))).mono ?_
  rintro e wn ⟨rfl, rfl⟩
  go_wp2_with fail
  refine (fillRequestE (HS.out.nil 24 (by decide) (by decide) (by decide))).mono ?_
  rintro e wn ⟨rfl, rfl⟩
  go_wp2_with fail
  refine (fillMailE (HS.out.nil 25 (by decide) (by decide) (by decide))).mono ?_
  rintro e wn ⟨rfl, rfl⟩
  go_wp2_with fail
  refine (fillPendingE (HS.out.nil 26 (by decide) (by decide) (by decide))).mono ?_
  rintro e wn ⟨rfl, rfl⟩
  go_wp2_with fail
  refine (fillFeedE (HS.out.nil 27 (by decide) (by decide) (by decide))).mono ?_
  rintro e wn ⟨rfl, rfl⟩
  go_wp2_with fail
  refine (fillLogE (HS.out.nil 28 (by decide) (by decide) (by decide))).mono ?_
  rintro e wn ⟨rfl, rfl⟩
  go_wp2_with fail
  refine (fillBoxE (HS.out.nil 29 (by decide) (by decide) (by decide))).mono ?_
  rintro e wn ⟨rfl, rfl⟩
  go_wp2_with fail
  refine (fillEarlyE (HS.out.nil 30 (by decide) (by decide) (by decide))).mono ?_
  rintro e wn ⟨rfl, rfl⟩
  go_wp2_with fail
  refine (fillLinkE (HS.out.nil 31 (by decide) (by decide) (by decide))).mono ?_
  rintro e wn ⟨rfl, rfl⟩
  go_wp2_with fail
  refine (fillPacketE (HS.out.nil 32 (by decide) (by decide) (by decide))).mono ?_
  rintro e wn ⟨rfl, rfl⟩
  go_wp2_with fail
  refine (fillTermRowE (HS.out.nil 33 (by decide) (by decide) (by decide))).mono ?_
  rintro e wn ⟨rfl, rfl⟩
  go_wp2_with fail
  refine (fillNumberRowE (HS.out.nil 34 (by decide) (by decide) (by decide))).mono ?_
  rintro e wn ⟨rfl, rfl⟩
  go_wp2_with fail
  refine (growNumberE (HS.out.nil 2 (by decide) (by decide) (by decide))).mono ?_
  rintro e wn ⟨rfl, rfl⟩
  go_wp2_with fail
  refine (growWideE (HS.out.nil 3 (by decide) (by decide) (by decide))).mono ?_
  rintro e wn ⟨rfl, rfl⟩
  go_wp2_with fail
  refine (growTextE (HS.out.nil 4 (by decide) (by decide) (by decide))).mono ?_
  rintro e wn ⟨rfl, rfl⟩
  go_wp2_with fail
  refine (HS.out.growTerm hN hL).mono ?_
  rintro e wn ⟨rfl, h⟩
  clear HS
  have HS := Lib.hid h
  clear h
  go_wp2_with fail
  refine (growSealE (HS.out.nil 6 (by decide) (by decide) (by decide))).mono ?_
  rintro e wn ⟨rfl, rfl⟩
  go_wp2_with fail
  refine (growKeyE (HS.out.nil 7 (by decide) (by decide) (by decide))).mono ?_
  rintro e wn ⟨rfl, rfl⟩
  go_wp2_with fail
  refine (growAddE (HS.out.nil 8 (by decide) (by decide) (by decide))).mono ?_
  rintro e wn ⟨rfl, rfl⟩
  go_wp2_with fail
  refine (growJoinE (HS.out.nil 9 (by decide) (by decide) (by decide))).mono ?_
  rintro e wn ⟨rfl, rfl⟩
  go_wp2_with fail
  refine (growPastE (HS.out.nil 10 (by decide) (by decide) (by decide))).mono ?_
  rintro e wn ⟨rfl, rfl⟩
  go_wp2_with fail
  refine (growCardE (HS.out.nil 11 (by decide) (by decide) (by decide))).mono ?_
  rintro e wn ⟨rfl, rfl⟩
  go_wp2_with fail
  refine (growGotE (HS.out.nil 12 (by decide) (by decide) (by decide))).mono ?_
  rintro e wn ⟨rfl, rfl⟩
  go_wp2_with fail
  refine (growNoteE (HS.out.nil 13 (by decide) (by decide) (by decide))).mono ?_
  rintro e wn ⟨rfl, rfl⟩
  go_wp2_with fail
  refine (growAnswerE (HS.out.nil 14 (by decide) (by decide) (by decide))).mono ?_
  rintro e wn ⟨rfl, rfl⟩
  go_wp2_with fail
  refine (growOutcomeE (HS.out.nil 15 (by decide) (by decide) (by decide))).mono ?_
  rintro e wn ⟨rfl, rfl⟩
  go_wp2_with fail
  refine (growFindingE (HS.out.nil 16 (by decide) (by decide) (by decide))).mono ?_
  rintro e wn ⟨rfl, rfl⟩
  go_wp2_with fail
  refine (growStepE (HS.out.nil 17 (by decide) (by decide) (by decide))).mono ?_
  rintro e wn ⟨rfl, rfl⟩
  go_wp2_with fail
  refine (growWriteE (HS.out.nil 18 (by decide) (by decide) (by decide))).mono ?_
  rintro e wn ⟨rfl, rfl⟩
  go_wp2_with fail
  refine (growNodeE (HS.out.nil 19 (by decide) (by decide) (by decide))).mono ?_
  rintro e wn ⟨rfl, rfl⟩
  go_wp2_with fail
  refine (growTreeE (HS.out.nil 20 (by decide) (by decide) (by decide))).mono ?_
  rintro e wn ⟨rfl, rfl⟩
  go_wp2_with fail
  refine (growCommitE (HS.out.nil 21 (by decide) (by decide) (by decide))).mono ?_
  rintro e wn ⟨rfl, rfl⟩
  go_wp2_with fail
  refine (growStateE (HS.out.nil 22 (by decide) (by decide) (by decide))).mono ?_
  rintro e wn ⟨rfl, rfl⟩
  go_wp2_with fail
  refine (growFaceE (HS.out.nil 23 (by decide) (by decide) (by decide))).mono ?_
  rintro e wn ⟨rfl, rfl⟩
  go_wp2_with fail
  refine (growRequestE (HS.out.nil 24 (by decide) (by decide) (by decide))).mono ?_
  rintro e wn ⟨rfl, rfl⟩
  go_wp2_with fail
  refine (growMailE (HS.out.nil 25 (by decide) (by decide) (by decide))).mono ?_
  rintro e wn ⟨rfl, rfl⟩
  go_wp2_with fail
  refine (growPendingE (HS.out.nil 26 (by decide) (by decide) (by decide))).mono ?_
  rintro e wn ⟨rfl, rfl⟩
  go_wp2_with fail
  refine (growFeedE (HS.out.nil 27 (by decide) (by decide) (by decide))).mono ?_
  rintro e wn ⟨rfl, rfl⟩
  go_wp2_with fail
  refine (growLogE (HS.out.nil 28 (by decide) (by decide) (by decide))).mono ?_
  rintro e wn ⟨rfl, rfl⟩
  go_wp2_with fail
  refine (growBoxE (HS.out.nil 29 (by decide) (by decide) (by decide))).mono ?_
  rintro e wn ⟨rfl, rfl⟩
  go_wp2_with fail
  refine (growEarlyE (HS.out.nil 30 (by decide) (by decide) (by decide))).mono ?_
  rintro e wn ⟨rfl, rfl⟩
  go_wp2_with fail
  refine (growLinkE (HS.out.nil 31 (by decide) (by decide) (by decide))).mono ?_
  rintro e wn ⟨rfl, rfl⟩
  go_wp2_with fail
  refine (growPacketE (HS.out.nil 32 (by decide) (by decide) (by decide))).mono ?_
  rintro e wn ⟨rfl, rfl⟩
  go_wp2_with fail
  refine (growTermRowE (HS.out.nil 33 (by decide) (by decide) (by decide))).mono ?_
  rintro e wn ⟨rfl, rfl⟩
  go_wp2_with fail
  refine (growNumberRowE (HS.out.nil 34 (by decide) (by decide) (by decide))).mono ?_
  rintro e wn ⟨rfl, rfl⟩
  go_wp2_with fail
  go_loopg [3] 8 (fun k v3 wr => ∃ i : Nat, v3 = .int .u64 (i : Int) ∧ i + k = 8 ∧ Hid (St1 kdTerm 66 5 w0 wr B bb (L + 3) 4000000 N (fun _ => True)))
  case atStart => exact ⟨0, rfl, rfl, HS⟩
  case round =>
    clear HS
    obtain ⟨i, rfl, hik, HS⟩ := hrel
    by_cases hi : i < 8
    · have i1 : (0 : Int) ≤ (i : Int) := by omega
      have i2 : (i : Int) < 8 := by omega
      go_wp2_with fail
      refine (bitsE _ (HS.out.nil 1 (by decide) (by decide) (by decide))).mono ?_
      rintro e wn ⟨rfl, rfl⟩
      have HI := Lib.hid hi
      clear hi
      go_wp2_with fail
      go_roundg (8 - (i + 1))
      case measure => have := HI.out; omega
      case rel => exact ⟨i + 1, by first | go_num | (congr 1; go_arith), by have := HI.out; omega, HS⟩
    · obtain rfl : i = 8 := by omega
      clear hi
      go_wp2_with fail
      refine (lookNumberE (HS.out.nil 2 (by decide) (by decide) (by decide))).mono ?_
      rintro e wn ⟨rfl, rfl⟩
      go_wp2_with fail
      refine (lookWideE (HS.out.nil 3 (by decide) (by decide) (by decide))).mono ?_
      rintro e wn ⟨rfl, rfl⟩
      go_wp2_with fail
      refine (lookTextE (HS.out.nil 4 (by decide) (by decide) (by decide))).mono ?_
      rintro e wn ⟨rfl, rfl⟩
      go_wp2_with fail
      refine (HS.out.lookTerm hN (by omega)).mono ?_
      rintro e wn ⟨rfl, h⟩
      clear HS
      have HS := Lib.hid h
      clear h
      go_wp2_with fail
      refine (lookSealE (HS.out.nil 6 (by decide) (by decide) (by decide))).mono ?_
      rintro e wn ⟨rfl, rfl⟩
      go_wp2_with fail
      refine (lookKeyE (HS.out.nil 7 (by decide) (by decide) (by decide))).mono ?_
      rintro e wn ⟨rfl, rfl⟩
      go_wp2_with fail
      refine (lookAddE (HS.out.nil 8 (by decide) (by decide) (by decide))).mono ?_
      rintro e wn ⟨rfl, rfl⟩
      go_wp2_with fail
      refine (lookJoinE (HS.out.nil 9 (by decide) (by decide) (by decide))).mono ?_
      rintro e wn ⟨rfl, rfl⟩
      go_wp2_with fail
      refine (lookPastE (HS.out.nil 10 (by decide) (by decide) (by decide))).mono ?_
      rintro e wn ⟨rfl, rfl⟩
      go_wp2_with fail
      refine (lookCardE (HS.out.nil 11 (by decide) (by decide) (by decide))).mono ?_
      rintro e wn ⟨rfl, rfl⟩
      go_wp2_with fail
      refine (lookGotE (HS.out.nil 12 (by decide) (by decide) (by decide))).mono ?_
      rintro e wn ⟨rfl, rfl⟩
      go_wp2_with fail
      refine (lookNoteE (HS.out.nil 13 (by decide) (by decide) (by decide))).mono ?_
      rintro e wn ⟨rfl, rfl⟩
      go_wp2_with fail
      refine (lookAnswerE (HS.out.nil 14 (by decide) (by decide) (by decide))).mono ?_
      rintro e wn ⟨rfl, rfl⟩
      go_wp2_with fail
      refine (lookOutcomeE (HS.out.nil 15 (by decide) (by decide) (by decide))).mono ?_
      rintro e wn ⟨rfl, rfl⟩
      go_wp2_with fail
      refine (lookFindingE (HS.out.nil 16 (by decide) (by decide) (by decide))).mono ?_
      rintro e wn ⟨rfl, rfl⟩
      go_wp2_with fail
      refine (lookStepE (HS.out.nil 17 (by decide) (by decide) (by decide))).mono ?_
      rintro e wn ⟨rfl, rfl⟩
      go_wp2_with fail
      refine (lookWriteE (HS.out.nil 18 (by decide) (by decide) (by decide))).mono ?_
      rintro e wn ⟨rfl, rfl⟩
      go_wp2_with fail
      refine (lookNodeE (HS.out.nil 19 (by decide) (by decide) (by decide))).mono ?_
      rintro e wn ⟨rfl, rfl⟩
      go_wp2_with fail
      refine (lookTreeE (HS.out.nil 20 (by decide) (by decide) (by decide))).mono ?_
      rintro e wn ⟨rfl, rfl⟩
      go_wp2_with fail
      refine (lookCommitE (HS.out.nil 21 (by decide) (by decide) (by decide))).mono ?_
      rintro e wn ⟨rfl, rfl⟩
      go_wp2_with fail
      refine (lookStateE (HS.out.nil 22 (by decide) (by decide) (by decide))).mono ?_
      rintro e wn ⟨rfl, rfl⟩
      go_wp2_with fail
      refine (lookFaceE (HS.out.nil 23 (by decide) (by decide) (by decide))).mono ?_
      rintro e wn ⟨rfl, rfl⟩
      go_wp2_with fail
      refine (lookRequestE (HS.out.nil 24 (by decide) (by decide) (by decide))).mono ?_
      rintro e wn ⟨rfl, rfl⟩
      go_wp2_with fail
      refine (lookMailE (HS.out.nil 25 (by decide) (by decide) (by decide))).mono ?_
      rintro e wn ⟨rfl, rfl⟩
      go_wp2_with fail
      refine (lookPendingE (HS.out.nil 26 (by decide) (by decide) (by decide))).mono ?_
      rintro e wn ⟨rfl, rfl⟩
      go_wp2_with fail
      refine (lookFeedE (HS.out.nil 27 (by decide) (by decide) (by decide))).mono ?_
      rintro e wn ⟨rfl, rfl⟩
      go_wp2_with fail
      refine (lookLogE (HS.out.nil 28 (by decide) (by decide) (by decide))).mono ?_
      rintro e wn ⟨rfl, rfl⟩
      go_wp2_with fail
      refine (lookBoxE (HS.out.nil 29 (by decide) (by decide) (by decide))).mono ?_
      rintro e wn ⟨rfl, rfl⟩
      go_wp2_with fail
      refine (lookEarlyE (HS.out.nil 30 (by decide) (by decide) (by decide))).mono ?_
      rintro e wn ⟨rfl, rfl⟩
      go_wp2_with fail
      refine (lookLinkE (HS.out.nil 31 (by decide) (by decide) (by decide))).mono ?_
      rintro e wn ⟨rfl, rfl⟩
      go_wp2_with fail
      refine (lookPacketE (HS.out.nil 32 (by decide) (by decide) (by decide))).mono ?_
      rintro e wn ⟨rfl, rfl⟩
      go_wp2_with fail
      refine (lookTermRowE (HS.out.nil 33 (by decide) (by decide) (by decide))).mono ?_
      rintro e wn ⟨rfl, rfl⟩
      go_wp2_with fail
      refine (lookNumberRowE (HS.out.nil 34 (by decide) (by decide) (by decide))).mono ?_
      rintro e wn ⟨rfl, rfl⟩
      go_wp2_with fail
      go_ret
      exact ⟨rfl, HS.out.below⟩
end Go.Proofs.YtenaljhkdnhgpaaGreatDoor.Bk
