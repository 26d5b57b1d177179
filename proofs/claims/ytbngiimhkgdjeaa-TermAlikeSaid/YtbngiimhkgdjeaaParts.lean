/- The walk of TermParts. -/
import Derived.Test.YtbngiimhkgdjeaaPutn
import Derived.Test.YtbngiimhkgdjeaaOnce
namespace Go.Proofs.Ytbngiimhkgdjeaa
open Go.RowKit

def dagX (L : List Tm) (x : Int) : List Tm := if thereB L.length x = true then dagS L x else []
theorem dagX_len {L : List Tm} (hg : Good L) (x : Int) : (dagX L x).length ≤ L.length := by
  unfold dagX
  split
  · rename_i h
    unfold thereB at h
    simp at h
    exact dagS_len hg x (by omega) (by omega)
  · simp
/-- Dag of any number. -/
theorem dag_any (B g m : Nat) (L : List Tm) (v : Value) (x : Int) (hg : Good L) (w : World) (h : St w B g m L v) :
    Calls Try.prog 11 #[.pointer (some ⟨g, 0, none⟩), .int .i64 x] w fun e w' => ∃ v, e = .returned v ∧ w'.ownsRow w.heap.size 30 4 v (dagX L x).length (rowOf (dagX L x)) ∧ Below w.heap.size w w' := by
  by_cases hx : thereB L.length x = true
  · have h1 : 0 < x ∧ x ≤ L.length := by unfold thereB at hx; simp at hx; omega
    obtain ⟨F, hF, hR⟩ := run_dag hg x h1.1 h1.2
    have h2 : dagX L x = dagS L x := by unfold dagX; rw [if_pos hx]
    rw [h2]
    exact dag_loop B g m L v x hx hg.2.1 (dagS L x) F 4000000000 (by omega) (by omega) w h hR
  · have h2 : dagX L x = [] := by unfold dagX; rw [if_neg hx]
    rw [h2]
    have hM := made_yes g m w h.c1
    obtain ⟨AL, cL, hv⟩ := h.slice
    have hT := there g L.length cL AL x w (by rw [h.c0, hv])
    have hx' : thereB L.length x = false := by simpa using hx
    rw [show (decide (1 ≤ x) && decide (x ≤ L.length)) = false from hx'] at hT
    clear h hv hx hx' h2
    go_enter Try.func11, Try.ntmps11
    go_wp2_with (first | (go_at_call 29; with_reducible refine hM.mono ?_; rintro e w' ⟨rfl, rfl⟩) | (go_at_call 31; with_reducible refine hT.mono ?_; rintro e w' ⟨rfl, rfl⟩))
    go_ret
    exact ⟨_, rfl, World.ownsRow_nil _ _ _ _, Below.refl _ _⟩
theorem RT.of_own {w : World} {B n : Nat} {v : Value} {l : List Tm} (h : w.ownsRow B 30 4 v n (rowOf l)) (hn : n = l.length) : RT w v l := by
  subst hn
  exact ⟨h.1, h.2.imp id fun ⟨g, cap, cur, h1, h2, h3⟩ => ⟨g, cap, cur, h1, Nat.zero_le _, h3⟩⟩
theorem RT.below {w w' : World} {v : Value} {l : List Tm} (h : RT w v l) (hb : Below w.heap.size w w') : RT w' v l := row_below h hb
theorem RT.take {w : World} {b n c : Nat} {l : List Tm} (h : RT w (.slice (some ⟨b, 0, none⟩) n c) l) (hn : n = l.length) (k : Nat) (hk : k ≤ n) : RT w (.slice (some ⟨b, 0, none⟩) k c) (l.take k) ∧ k ≤ c := by
  subst hn
  rcases h.2 with ⟨h1, h2⟩ | ⟨b', cap, cur, h1, h2, h3, h4, h5, h6, h7⟩
  · cases h1
  · injection h1 with e1 e2 e3
    injection e1 with e1
    injection e1 with e1
    subst e1 e3
    have hl : (l.take k).length = k := by simp; omega
    refine ⟨?_, by omega⟩
    show w.ownsRow 0 30 4 _ (l.take k).length (rowOf (l.take k))
    rw [hl]
    have er : rowOf (l.take k) = (rowOf l).take (k * 4) := by
      have h8 := rowOf_append (l.take k) (l.drop k)
      rw [List.take_append_drop] at h8
      have h9 : (rowOf (l.take k)).length = k * 4 := by rw [rowOf_length, hl]
      rw [h8, ← h9, List.take_left]
    refine ⟨by rw [rowOf_length, hl], .inr ⟨b, c, cur, rfl, h2, h3, by omega, h5, h6, ?_⟩⟩
    rw [er, ← h7, List.take_take]
    congr 1
    omega
/-- SameTerms of two rows that read alike, whatever their values. -/
theorem same_any {w : World} {p c : Nat} {v : Value} {l : List Tm} (hp : RT w (.slice (some ⟨p, 0, none⟩) l.length c) l) (hv : RT w v l) (hsm : l.length ≤ 9223372036854775807) :
    Calls Try.prog 13 #[.slice (some ⟨p, 0, none⟩) l.length c, v] w fun e w' => e = .returned (.bool true) ∧ ∃ n, w' = w.drewN n := by
  obtain ⟨A, d, rfl, hA⟩ := hv.slice
  by_cases h0 : l.length = 0
  · rw [h0]
    exact same_nil _ _ _ _ w
  · obtain ⟨q, rfl⟩ := hA (by omega)
    exact same_yes p q c d l.length l rfl w hp hv hsm
set_option maxHeartbeats 4000000 in
set_option maxRecDepth 100000 in
theorem termParts (l : List Tm) (v : Value) (x : Int) (w : World) (hat : AT w v l) (hwf : ∀ t ∈ l, Tm.wf t) : Calls Try.prog 3 #[v, .int .i64 x] w fun e w' => e = .returned (.bool true) ∧ Below w.heap.size w w' := by
  obtain ⟨A, n, c, rfl, hn⟩ : ∃ A n c, v = .slice A n c ∧ n = l.length := by
    rcases hat with ⟨h1, h2⟩ | ⟨a, c, h1, _⟩
    · exact ⟨_, _, _, h1, by rw [h2]; rfl⟩
    · exact ⟨_, _, _, h1, rfl⟩
  have HN := Lib.hid hn
  have HAT := Lib.hid hat
  have HWF := Lib.hid hwf
  clear hn hat hwf
  by_cases hbig : 500 < n
  · have q1 : decide ((n : Int) > 500) = true := decide_eq_true (by omega)
    go_enter Try.func3, Try.ntmps3
    go_wp2
    go_ret
    exact ⟨rfl, Below.refl _ _⟩
  · have q1 : decide ((n : Int) > 500) = false := decide_eq_false (by omega)
    have hsm : (n : Int) ≤ 500 := by omega
    go_enter Try.func3, Try.ntmps3
    go_wp2_with (go_at_call 8; with_reducible refine (new _).mono ?_; rintro e w1 ⟨g, m, v1, rfl, S1, B1⟩)
    have R0 : Hid (∃ L v, St w1 w.heap.size g m L v ∧ Good L ∧ Below w.heap.size w w1) := Lib.hid ⟨_, _, S1, good_nil, B1⟩
    clear S1 B1
    go_loopw [6] (fun v6 wr => ∃ k : Nat, k ≤ n ∧ v6 = .int .i64 k ∧ Hid (∃ L v, St wr w.heap.size g m L v ∧ Good L ∧ Below w.heap.size w wr)) (fun v6 _ => n - (intOf v6).toNat)
    case atStart => exact ⟨0, by omega, rfl, R0⟩
    case round =>
      clear R0
      obtain ⟨k, hk, rfl, HI⟩ := hrel
      by_cases hlt : k < n
      · obtain ⟨L, v, S1, hg, B1⟩ := HI.out
        obtain ⟨t, ht⟩ : ∃ t, l[k]? = some t := ⟨l[k]'(by have := HN.out; omega), List.getElem?_eq_getElem _⟩
        have hwt := HWF.out t (List.mem_of_getElem? ht)
        have M1 := make w.heap.size g m L v t.k t.n t.a t.b hwt hg.1 wr S1
        have hgq := mk_good hg hwt
        obtain ⟨b, o, rfl, _, hF⟩ := HAT.out.form k t ht
        obtain ⟨c0, c1, c2, c3⟩ := hF wr B1 k t ht
        obtain ⟨tk, tn, ta, tb⟩ := t
        dsimp only at M1 c0 c1 c2 c3
        have i1 : (0 : Int) ≤ k := by omega
        have i2 : (k : Int) < n := by omega
        have HG := Lib.hid hgq
        have HB1 := Lib.hid B1
        clear hgq hF B1 hwt ht HI S1 hg
        go_wp2_with fail
        with_reducible refine M1.mono ?_
        rintro e w2 ⟨v2, rfl, S2, B2, K2⟩
        have HS2 := Lib.hid S2
        have HB2 := Lib.hid (HB1.out.trans B2)
        clear S2 B2 K2 M1
        go_wp2_with fail
        go_roundw
        case rel => exact ⟨k + 1, by omega, by go_num, Lib.hid ⟨_, v2, HS2.out, HG.out, HB2.out⟩⟩
        case measure => simp [intOf]; omega
      · obtain rfl : k = n := by omega
        obtain ⟨L, v, S1, hg, B1⟩ := HI.out
        have HG := Lib.hid hg
        have HB1 := Lib.hid B1
        have HS1 := Lib.hid S1
        have hz1 := B1.size
        clear HI B1 hg
        by_cases hx : thereB L.length x = true
        · obtain ⟨i, t, hi, ht⟩ : ∃ (i : Nat) (t : Tm), x = (i : Int) + 1 ∧ L[i]? = some t := by
            have h1 : 0 < x ∧ x ≤ L.length := by unfold thereB at hx; simp at hx; omega
            exact ⟨(x - 1).toNat, L[(x - 1).toNat]'(by omega), by omega, List.getElem?_eq_getElem _⟩
          have hpl := parts_law HG.out x (by omega) t (by rw [hi, show ((i : Int) + 1 - 1).toNat = i by omega]; exact ht)
          have hpg := HG.out.2.2 i t ht
          have hltL := (List.getElem?_eq_some_iff.1 ht).1
          have ex : dagX L x = dagS L x := by unfold dagX; rw [if_pos hx]
          have e00 : dagS L 0 = [] := rfl
          have edg : ∀ y : Int, 0 ≤ y → y ≤ L.length → dagX L y = dagS L y := fun y h1 h2 => by
            unfold dagX
            by_cases hy : thereB L.length y = true
            · rw [if_pos hy]
            · rw [if_neg hy]
              unfold thereB at hy
              simp at hy
              obtain rfl : y = 0 := by omega
              exact e00.symm
          have ea := edg t.a hpg.1 (by omega)
          have eb := edg t.b hpg.2.2.1 (by omega)
          rw [← ex, ← ea, ← eb] at hpl
          have G := get_in w.heap.size g m L v i t ht wr S1
          have hlen := HG.out.1
          have hd1 := dagX_len HG.out x
          have hd2 := dagX_len HG.out t.a
          have hd3 := dagX_len HG.out t.b
          obtain ⟨tk, tn, ta, tb⟩ := t
          unfold Tm.v at G
          dsimp only at G hpl hd2 hd3
          rw [← hi] at G
          have HPL := Lib.hid hpl
          have HD := Lib.hid (And.intro hd1 (And.intro hd2 (And.intro hd3 hlen)))
          clear hi hx ht hpl hpg hltL ex edg ea eb e00 hd1 hd2 hd3 hlen S1
          go_wp2_with fail
          refine G.mono ?_
          rintro e w2 ⟨rfl, B2⟩
          have hx2 : (w2.alloc (.cells #[.int .u8 tk, .int .i64 tn, .int .i64 ta, .int .i64 tb] 30)).heap[w2.heap.size]? = some (.cells #[.int .u8 tk, .int .i64 tn, .int .i64 ta, .int .i64 tb] 30 (0, 0)) := heap_alloc_new w2 _
          have b3 : Below w2.heap.size w2 (w2.alloc (.cells #[.int .u8 tk, .int .i64 tn, .int .i64 ta, .int .i64 tb] 30)) := (Below.refl _ _).alloc (Nat.le_refl _) _
          have S3 := (HS1.out.below B2).below b3
          have HB3 := Lib.hid ((HB1.out.trans (B2.mono hz1)).trans (b3.mono (Nat.le_trans hz1 B2.size)))
          have D1 := dag_any _ _ _ _ _ x HG.out _ S3
          have HX2 := Lib.hid hx2
          have HS3 := Lib.hid S3
          clear G B2 b3 hx2 S3
          go_wp2_with fail
          refine D1.mono ?_
          rintro e w4 ⟨v4, rfl, O4, B4⟩
          have HS4 := Lib.hid (HS3.out.below B4)
          have HB4 := Lib.hid (HB3.out.trans (B4.mono HS3.out.hB))
          have hx4 := (B4.block _ (lt_of_some HX2.out)).trans HX2.out
          have z2 : w4.cell? ⟨w2.heap.size, 2, none⟩ = some (.int .i64 ta) := by rw [cell_of_row w4 _ 2 _ _ _ hx4]; rfl
          have D2 := dag_any _ _ _ _ _ ta HG.out _ HS4.out
          have HX4 := Lib.hid hx4
          have HO4 := Lib.hid (RT.of_own O4 rfl)
          clear D1 O4 B4 hx4
          go_wp2_with fail
          refine D2.mono ?_
          rintro e w5 ⟨v5, rfl, O5, B5⟩
          have HS5 := Lib.hid (HS4.out.below B5)
          have HB5 := Lib.hid (HB4.out.trans (B5.mono HS4.out.hB))
          have hx5 := (B5.block _ (lt_of_some HX4.out)).trans HX4.out
          have R4 := HO4.out.below B5
          have R5 := RT.of_own O5 rfl
          obtain ⟨q1', c5, h5, _⟩ := R5.slice
          obtain ⟨p1, c4, rfl, hp1⟩ := HO4.out.slice
          obtain ⟨p, rfl⟩ := hp1 (by have := HPL.out.1; omega)
          obtain ⟨T4, hc4⟩ := R4.take rfl (dagX L ta).length (by have := HPL.out.1; omega)
          rw [HPL.out.2.1] at T4
          have SM := same_any T4 R5 (by have := HD.out.2.1; have := HD.out.2.2.2; omega)
          subst h5
          have z3 : ∀ j, (w5.drewN j).cell? ⟨w2.heap.size, 3, none⟩ = some (.int .i64 tb) := fun j => by rw [cell_of_row (w5.drewN j) _ 3 _ _ _ (show (w5.drewN j).heap[w2.heap.size]? = _ from hx5)]; rfl
          have D3 := fun j => dag_any _ _ _ _ _ tb HG.out _ (HS5.out.drewN j)
          have hq1 := HPL.out.1
          have hq2 := HPL.out.2.2
          have hq3 : (dagX L x).length ≤ 1048576 := by have := HD.out.1; have := HD.out.2.2.2; omega
          have hq4 : (dagX L tb).length ≤ 1048576 := by have := HD.out.2.2.1; have := HD.out.2.2.2; omega
          have hB5 := HS5.out.hB
          clear D2 O5 B5 hx5 R4 R5 T4 HPL HD HO4 HX4 HX2 z2 hp1
          generalize (dagX L x).length = u1 at *
          generalize (dagX L ta).length = u2 at *
          have t1 : decide (u2 < u1) = true := decide_eq_true hq1
          have t1' : decide ((u2 : Int) < (u1 : Int)) = true := decide_eq_true (by omega)
          have i1 : (0 : Int) ≤ (u2 : Int) := by omega
          have i2 : (u2 : Int) ≤ (c4 : Int) := by omega
          go_wp2_with (go_at_call 13; with_reducible refine SM.mono ?_; rintro e w6 ⟨rfl, j, rfl⟩)
          refine (D3 j).mono ?_
          rintro e w7 ⟨v7, rfl, O7, B7⟩
          obtain ⟨A7, c7, rfl, _⟩ := (RT.of_own O7 rfl).slice
          have HB7 := Lib.hid ((below_drewN HB5.out j).trans (B7.mono hB5))
          clear O7 B7 D3 SM
          generalize (dagX L tb).length = u3 at *
          have hq5 : (u2 : Int) ≤ 1048576 := by omega
          have hq6 : (u3 : Int) ≤ 1048576 := by omega
          have hq7 : (0 : Int) ≤ (u3 : Int) := by omega
          have t2 : decide ((u1 : Int) ≤ (u2 : Int) + (u3 : Int) + 1) = true := decide_eq_true (by omega)
          go_wp2_with (go_at_call 12; with_reducible refine (lives _).mono ?_; rintro e w8 ⟨rfl, B8⟩)
          go_ret
          exact ⟨rfl, HB7.out.trans (B8.mono HB7.out.size)⟩
        · have hx' : thereB L.length x = false := by simpa using hx
          have G := get_out w.heap.size g m L v x hx' wr S1
          have ex : dagX L x = [] := by unfold dagX; rw [if_neg hx]
          clear hx hx' S1
          go_wp2_with fail
          refine G.mono ?_
          rintro e w2 ⟨rfl, B2⟩
          have b3 : Below w2.heap.size w2 (w2.alloc (.cells #[.int .u8 0, .int .i64 0, .int .i64 0, .int .i64 0] 30)) := (Below.refl _ _).alloc (Nat.le_refl _) _
          have S3 := (HS1.out.below B2).below b3
          have HB3 := Lib.hid ((HB1.out.trans (B2.mono hz1)).trans (b3.mono (Nat.le_trans hz1 B2.size)))
          have D1 := dag_any _ _ _ _ _ x HG.out _ S3
          rw [ex] at D1
          have hB3 := S3.hB
          clear G B2 b3 S3 ex
          go_wp2_with fail
          refine D1.mono ?_
          rintro e w4 ⟨v4, rfl, O4, B4⟩
          obtain ⟨A4, c4, rfl, _⟩ := (RT.of_own O4 rfl).slice
          have HB4 := Lib.hid (HB3.out.trans (B4.mono hB3))
          clear D1 O4 B4
          go_wp2_with (go_at_call 12; with_reducible refine (lives _).mono ?_; rintro e w5 ⟨rfl, B5⟩)
          go_ret
          exact ⟨rfl, HB4.out.trans (B5.mono HB4.out.size)⟩
end Go.Proofs.Ytbngiimhkgdjeaa
