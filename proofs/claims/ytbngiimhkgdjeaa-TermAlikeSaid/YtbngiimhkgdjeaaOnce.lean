/- The walk of TermOnce. -/
import Derived.Test.YtbngiimhkgdjeaaGood
namespace Go.Proofs.Ytbngiimhkgdjeaa
open Go.RowKit

theorem run_eql_ptr (w : World) (b : Addr) : (binOp .eql 23 (.pointer (some b)) (.pointer none)).run Try.prog w = .ok (.bool false) w := by kernel_rfl
set_option maxHeartbeats 4000000 in
set_option maxRecDepth 100000 in
theorem termOnce (l : List Tm) (v : Value) (w : World) (hat : AT w v l) (hwf : ∀ t ∈ l, Tm.wf t) : Calls Try.prog 6 #[v] w fun e w' => e = .returned (.bool true) ∧ Below w.heap.size w w' := by
  obtain ⟨A, n, c, rfl, hn⟩ : ∃ A n c, v = .slice A n c ∧ n = l.length := by
    rcases hat with ⟨h1, h2⟩ | ⟨a, c, h1, _⟩
    · exact ⟨_, _, _, h1, by rw [h2]; rfl⟩
    · exact ⟨_, _, _, h1, rfl⟩
  have HN := Lib.hid hn
  have HAT := Lib.hid hat
  have HWF := Lib.hid hwf
  clear hn hat hwf
  by_cases hbig : 2000 < n
  · have q1 : decide ((n : Int) > 2000) = true := decide_eq_true (by omega)
    go_enter Try.func6, Try.ntmps6
    go_wp2
    go_ret
    exact ⟨rfl, Below.refl _ _⟩
  · have q1 : decide ((n : Int) > 2000) = false := decide_eq_false (by omega)
    have hsm : (n : Int) ≤ 2000 := by omega
    go_enter Try.func6, Try.ntmps6
    go_wp2_with (go_at_call 8; with_reducible refine (new _).mono ?_; rintro e w1 ⟨g, m, v1, rfl, S1, B1⟩)
    have R0 : Hid (∃ L v, St w1 w.heap.size g m L v ∧ Good L ∧ Below w.heap.size w w1) := Lib.hid ⟨_, _, S1, good_nil, B1⟩
    clear S1 B1
    go_loopw [4] (fun v4 wr => ∃ k : Nat, k ≤ n ∧ v4 = .int .i64 k ∧ Hid (∃ L v, St wr w.heap.size g m L v ∧ Good L ∧ Below w.heap.size w wr)) (fun v4 _ => n - (intOf v4).toNat)
    case atStart => exact ⟨0, by omega, rfl, R0⟩
    case round =>
      clear R0
      obtain ⟨k, hk, rfl, HI⟩ := hrel
      by_cases hlt : k < n
      · obtain ⟨L, v, S1, hg, B1⟩ := HI.out
        obtain ⟨t, ht⟩ : ∃ t, l[k]? = some t := ⟨l[k]'(by have := HN.out; omega), List.getElem?_eq_getElem _⟩
        have hwt := HWF.out t (List.mem_of_getElem? ht)
        have M1 := make w.heap.size g m L v t.k t.n t.a t.b hwt hg.1 wr S1
        have hgq := mk_good hg hwt
        have htw := mk_twice L t
        have hans := mk_ans hg hwt
        obtain ⟨b, o, rfl, _, hF⟩ := HAT.out.form k t ht
        have hF := fun w' hw' => hF w' hw' k t ht
        obtain ⟨tk, tn, ta, tb⟩ := t
        dsimp only at M1
        have hM2 : ∀ w2 v2, St w2 w.heap.size g m (mk L ⟨tk, tn, ta, tb⟩).2.2 v2 → _ := fun w2 v2 S2 => make w.heap.size g m (mk L ⟨tk, tn, ta, tb⟩).2.2 v2 tk tn ta tb hwt hgq.1 w2 S2
        rw [htw] at hM2
        generalize mk L ⟨tk, tn, ta, tb⟩ = r at *
        obtain ⟨r1, r2, r3⟩ := r
        dsimp only at *
        obtain ⟨c0, c1, c2, c3⟩ := hF wr B1
        have i1 : (0 : Int) ≤ k := by omega
        have i2 : (k : Int) < n := by omega
        have HG := Lib.hid hgq
        have HANS := Lib.hid hans
        have HF := Lib.hid hF
        have HB1 := Lib.hid B1
        have HM2 := Lib.hid hM2
        clear hM2 hgq hans hF B1 htw hwt ht HI S1 hg
        have hsz1 := HB1.out.size
        go_wp2_with fail
        with_reducible refine M1.mono ?_
        rintro e w2 ⟨v2, rfl, S2, B2, K2⟩
        have hl1 := len _ _ _ _ _ _ S2
        have M2 := HM2.out _ _ S2
        have HB2 := Lib.hid (HB1.out.trans B2)
        obtain ⟨c0, c1, c2, c3⟩ := HF.out w2 HB2.out
        clear S2 B2 K2 M1
        go_wp2_with (go_at_call 25; with_reducible refine hl1.mono ?_; rintro e w' ⟨rfl, rfl⟩)
        with_reducible refine M2.mono ?_
        rintro e w3 ⟨v3, rfl, S3, B3, K3⟩
        have hl2 := len _ _ _ _ _ _ S3
        have HB3 := Lib.hid (HB2.out.trans B3)
        obtain ⟨c0, c1, c2, c3⟩ := HF.out w3 HB3.out
        have HS3 := Lib.hid S3
        clear B3 K3 M2 hl1 S3
        go_wp2_with (go_at_call 25; with_reducible refine hl2.mono ?_; rintro e w' ⟨rfl, rfl⟩)
        rcases HANS.out with ⟨he, i, hi, hget, ha, hb⟩ | ⟨he, hi⟩
        · subst he hi
          have G := get_in w.heap.size g m r3 v3 i ⟨tk, tn, ta, tb⟩ hget w3 HS3.out
          unfold Tm.v at G
          dsimp only at G
          clear HANS
          refine G.mono ?_
          rintro e w4 ⟨rfl, B4⟩
          have HB4 := Lib.hid (HB3.out.trans (B4.mono HS3.out.hB))
          have HS4 := Lib.hid (HS3.out.below B4)
          have hal := fun j => HF.out ((w4.alloc (.cells #[.int .u8 tk, .int .i64 tn, .int .i64 ta, .int .i64 tb] 30)).drewN j) (below_drewN ((HB4.out).alloc HB4.out.size _) j)
          have d0 := fun j => (hal j).1
          have d1 := fun j => (hal j).2.1
          have d2 := fun j => (hal j).2.2.1
          have d3 := fun j => (hal j).2.2.2
          have z1 : decide (ta ≥ (i : Int) + 1) = false := decide_eq_false (by omega)
          have z2 : decide (tb ≥ (i : Int) + 1) = false := decide_eq_false (by omega)
          have ha' := ha
          have hb' := hb
          clear hal B4 G hget
          go_wp2_with fail
          go_quiet (fail)
          go_wp2_with fail
          go_roundw
          case rel => exact ⟨k + 1, by omega, by go_num, Lib.hid ⟨r3, v3, (HS4.out.below ((Below.refl _ _).alloc (Nat.le_refl _) _)).drewN _, HG.out, below_drewN (HB4.out.alloc HB4.out.size _) _⟩⟩
          case measure => simp [intOf]; omega
        · subst hi
          have G := get_out w.heap.size g m r3 v3 0 (by simp [thereB]) w3 HS3.out
          have t1 : (r2 == 0) = false := by simpa using he
          clear HANS
          refine G.mono ?_
          rintro e w4 ⟨rfl, B4⟩
          have HB4 := Lib.hid (HB3.out.trans (B4.mono HS3.out.hB))
          have HS4 := Lib.hid (HS3.out.below B4)
          clear B4 G he
          go_wp2_with fail
          go_quiet (fail)
          go_wp2_with fail
          go_roundw
          case rel => exact ⟨k + 1, by omega, by go_num, Lib.hid ⟨r3, v3, (HS4.out.below ((Below.refl _ _).alloc (Nat.le_refl _) _)).drewN _, HG.out, below_drewN (HB4.out.alloc HB4.out.size _) _⟩⟩
          case measure => simp [intOf]; omega
      · obtain rfl : k = n := by omega
        go_wp2_with (go_at_call 12; with_reducible refine (lives _).mono ?_; rintro e w2 ⟨rfl, B2⟩)
        go_ret
        obtain ⟨L, v, S1, hg, B1⟩ := HI.out
        exact ⟨rfl, B1.trans (B2.mono B1.size)⟩
end Go.Proofs.Ytbngiimhkgdjeaa
