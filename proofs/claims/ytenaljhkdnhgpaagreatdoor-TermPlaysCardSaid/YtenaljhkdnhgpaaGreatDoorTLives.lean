/- A pair of two is told from any store. -/
import Derived.Test.YtenaljhkdnhgpaaGreatDoorTDag
namespace Go.Proofs.YtenaljhkdnhgpaaGreatDoor.T
open Go.RowKit

def Lt1 : Tm := ⟨1, 7, 0, 0⟩
def Lt2 : Tm := ⟨2, 3, 0, 0⟩
def Lt3 : Tm := ⟨3, 0, 1, 2⟩
set_option maxHeartbeats 1000000 in
set_option maxRecDepth 100000 in
theorem lives (w : World) : Calls Tryz.prog 14 #[] w fun e w' => e = .returned (.bool true) ∧ Below w.heap.size w w' := by
  have e1 : mk [] ⟨1, 7, 0, 0⟩ = (1, 0, [Lt1]) := by rfl
  have e2 : dataS [Lt1] [] [3] = (2, 0, [Lt1, Lt2]) := by rfl
  have e3 : listS [Lt1, Lt2] [1, 2] = (3, 0, [Lt1, Lt2, Lt3]) := by rfl
  have e4 : dagRun [Lt1, Lt2, Lt3] 20 (upd (fun _ => none) 0 0) [3] [] = some [Lt1, Lt2, Lt3] := by rfl
  go_enter Tryz.func14, Tryz.ntmps14
  go_wp2_with (go_at_call 26; with_reducible refine (new _).mono ?_; rintro e w1 ⟨g, m, v, rfl, S1, B1⟩)
  have M1 := make w.heap.size g m [] v 1 7 0 0 (show Tm.wf ⟨1, 7, 0, 0⟩ from ⟨by decide, by decide, by decide, by decide⟩) (by decide) w1 S1
  rw [e1] at M1
  have HB1 := Lib.hid B1
  clear B1 S1 e1
  go_wp2_with fail
  with_reducible refine M1.mono ?_
  rintro e w2 ⟨v2, rfl, S2, B2, K2⟩
  clear M1 K2
  have hz2 := S2.hB
  have b3 : Below w2.heap.size w2 (w2.alloc (.cells #[.int .i64 3] 2)) := (Below.refl _ _).alloc (Nat.le_refl _) _
  have S3 := S2.below b3
  have I3 : I2 (w2.alloc (.cells #[.int .i64 3] 2)) (.slice (some ⟨w2.heap.size, 0, none⟩) 1 1) [3] := ⟨rfl, .inr ⟨w2.heap.size, 1, #[.int .i64 3], rfl, by omega, heap_alloc_new w2 _, by simp, by unfold maxLen; simp, rfl, rfl⟩⟩
  have D3 := data_any w.heap.size g m [Lt1] v2 w2.heap.size 1 1 [3] rfl (by decide) (by decide) (by decide) _ S3 I3
  rw [e2] at D3
  have HB2 := Lib.hid ((HB1.out.trans B2).trans (b3.mono hz2))
  clear b3 S3 I3 S2 B2 e2 HB1 hz2
  go_wp2_with (go_at_call 135; with_reducible refine D3.mono ?_; rintro e w3 ⟨v3, rfl, S4, B4, _⟩)
  clear D3
  have hz3 := S4.hB
  have b5 : Below w3.heap.size w3 (w3.alloc (.cells #[.int .i64 1, .int .i64 2] 3)) := (Below.refl _ _).alloc (Nat.le_refl _) _
  have S5 := S4.below b5
  have I5 : OI (w3.alloc (.cells #[.int .i64 1, .int .i64 2] 3)) 0 (.slice (some ⟨w3.heap.size, 0, none⟩) 2 2) [1, 2] := ⟨rfl, .inr ⟨w3.heap.size, 2, #[.int .i64 1, .int .i64 2], rfl, by omega, heap_alloc_new w3 _, by simp, by unfold maxLen; simp, rfl, rfl⟩⟩
  have D5 := list_any w.heap.size g m [Lt1, Lt2] v3 _ [1, 2] 0 (by decide) (by decide) _ S5 I5
  rw [e3] at D5
  have HB3 := Lib.hid ((HB2.out.trans B4).trans (b5.mono hz3))
  clear b5 S5 I5 S4 B4 e3 HB2 hz3
  go_wp2_with fail
  with_reducible refine D5.mono ?_
  rintro e w4 ⟨v4, rfl, S6, B6, _⟩
  clear D5
  have hwl : ∀ t ∈ [Lt1, Lt2, Lt3], Tm.wf t := by
    intro t ht
    rcases List.mem_cons.1 ht with rfl | ht
    · exact ⟨by decide, by decide, by decide, by decide⟩
    · rcases List.mem_cons.1 ht with rfl | ht
      · exact ⟨by decide, by decide, by decide, by decide⟩
      · obtain rfl := List.mem_singleton.1 ht
        exact ⟨by decide, by decide, by decide, by decide⟩
  have D7 := dag_loop w.heap.size g m [Lt1, Lt2, Lt3] v4 3 (by decide) hwl [Lt1, Lt2, Lt3] 20 1000 (by decide) (by decide) w4 S6 e4
  have hz4 := S6.hB
  have HB4 := Lib.hid (HB3.out.trans B6)
  clear B6 S6 e4 HB3 hwl
  go_wp2_with fail
  with_reducible refine D7.mono ?_
  rintro e w5 ⟨v5, rfl, O5, B5⟩
  clear D7
  obtain ⟨b5, c5, rfl, hb5, hb6⟩ := O5.form (by decide)
  have bb : Below w5.heap.size w5 (w5.alloc (.cells #[.int .u8 1, .int .i64 7, .int .i64 0, .int .i64 0, .int .u8 2, .int .i64 3, .int .i64 0, .int .i64 0, .int .u8 3, .int .i64 0, .int .i64 1, .int .i64 2] 69)) := (Below.refl _ _).alloc (Nat.le_refl _) _
  have T1 : RT (w5.alloc (.cells #[.int .u8 1, .int .i64 7, .int .i64 0, .int .i64 0, .int .u8 2, .int .i64 3, .int .i64 0, .int .i64 0, .int .u8 3, .int .i64 0, .int .i64 1, .int .i64 2] 69)) (.slice (some ⟨b5, 0, none⟩) 3 c5) [Lt1, Lt2, Lt3] := by
    have h := row_below O5 bb
    exact ⟨h.1, h.2.imp id fun ⟨g, cap, cur, h1, h2, h3⟩ => ⟨g, cap, cur, h1, Nat.zero_le _, h3⟩⟩
  have T2 : RT (w5.alloc (.cells #[.int .u8 1, .int .i64 7, .int .i64 0, .int .i64 0, .int .u8 2, .int .i64 3, .int .i64 0, .int .i64 0, .int .u8 3, .int .i64 0, .int .i64 1, .int .i64 2] 69)) (.slice (some ⟨w5.heap.size, 0, none⟩) 3 3) [Lt1, Lt2, Lt3] :=
    ⟨rfl, .inr ⟨w5.heap.size, 3, _, rfl, by omega, heap_alloc_new w5 _, by simp, by unfold maxLen; simp, rfl, rfl⟩⟩
  have D8 := same_yes b5 w5.heap.size c5 3 3 [Lt1, Lt2, Lt3] rfl _ T1 T2 (by decide)
  have HB5 := Lib.hid ((HB4.out.trans (B5.mono hz4)).trans (bb.mono (Nat.le_trans hz4 B5.size)))
  clear B5 O5 bb T1 T2 HB4 hb5 hb6
  go_wp2_with fail
  with_reducible refine D8.mono ?_
  rintro e w6 ⟨rfl, j, rfl⟩
  go_wp2_with fail
  go_ret
  exact ⟨rfl, below_drewN HB5.out _⟩
end Go.Proofs.YtenaljhkdnhgpaaGreatDoor.T
