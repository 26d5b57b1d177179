/- Chapter 08's own free and rising. -/
import Derived.Test.YtnahhclflnjmcaaGreatDoorXC0
namespace Go.Proofs.YtnahhclflnjmcaaGreatDoor
open Go Go.RowKit
set_option linter.unusedVariables false
set_option linter.unusedSimpArgs false
set_option maxRecDepth 100000

set_option maxHeartbeats 4000000 in
theorem rfree (v : Value) (n : Nat) (F : Nat → Node) (w : World) (hR : TrR w v n F) (hz : chk n F = true) :
    Calls Tryz.prog 160 #[.agg #[v]] w fun e w' => e = .returned (.int .i64 (freeM (lvs n) F)) ∧ Below w.heap.size w w' := by
  have hb0 : Below w.heap.size w (w.alloc (.cells #[v] 24)) := (Below.refl _ _).alloc (Nat.le_refl _) _
  obtain ⟨A, c, rfl, -, -, -⟩ := id hR
  obtain ⟨W0, hW0⟩ : ∃ W0, W0 = w.alloc (.cells #[.slice A n c] 24) := ⟨_, rfl⟩
  have hx0 : W0.cell? ⟨w.heap.size, 0, none⟩ = some (.slice A n c) := by rw [hW0]; exact cell_one_new w _ 24 0 _ rfl
  have hxl := World.block_lt_of_cell? _ _ hx0
  have HB := Lib.hid (by have := hb0; rw [← hW0] at this; exact this)
  have HR := Lib.hid hR
  obtain ⟨f1, f2, f3, f4⟩ := size_cases hz
  rw [show sizeM n F = lvs n from if_pos hz] at f1 f2 f4
  obtain ⟨L, hL⟩ : ∃ L, L = lvs n := ⟨_, rfl⟩
  rw [← hL] at f1 f2 f4 ⊢
  have HF := Lib.hid (And.intro f1 f4)
  obtain ⟨z, hzz⟩ : ∃ z, z = freeM L F := ⟨_, rfl⟩
  rw [← hzz]
  have HZ := Lib.hid hzz
  clear hb0 hR hz f1 f4 hL hzz
  go_enter Tryz.func160, Tryz.ntmps160
  go_wp2_with fail
  rw [← hW0]
  clear hW0
  go_loopg [3] (L + 1) (fun g v3 wr => ∃ i : Nat, i ≤ L ∧ i + g = L + 1 ∧ v3 = .int .i64 (2 * (i : Int)) ∧ fb F i = i ∧ wr = W0)
  case atStart => exact ⟨0, by omega, by omega, rfl, rfl, rfl⟩
  case round =>
    obtain ⟨i, hi, hg, rfl, hfm, rfl⟩ := hrel
    have HG := Lib.hid (And.intro hg hfm)
    clear hg
    by_cases hlt : i < L
    · have hin : 2 * i < n := (HF.out.1 i).2 hlt
      have hpp := HF.out.2 i hlt
      obtain ⟨b, o, rfl, hN⟩ := (HR.out.below HB.out).at' hin
      obtain ⟨y0, -, -, -, -⟩ := hN
      have hbl := World.block_lt_of_cell? _ _ y0
      have j1 : (0 : Int) ≤ 2 * (i : Int) := by omega
      have j2 : 2 * (i : Int) < (n : Int) := by omega
      have jt : (2 * (i : Int)).toNat = 2 * i := by omega
      by_cases hp : 0 < (F (2 * i)).pub
      · have hst := fb_step hfm hp
        have t1 : ((F (2 * i)).pub == 0) = false := by rw [beq_eq_false_iff_ne]; omega
        have HS := Lib.hid hst
        clear hst hfm hpp
        generalize (F (2 * i)).pub = p at *
        clear hp
        go_wp2_with fail
        go_roundg (gk - 1)
        case rel => exact ⟨i + 1, by omega, by have := HG.out.1; omega, by go_num, HS.out, rfl⟩
        case measure => have := HG.out.1; omega
      · have hp0 : (F (2 * i)).pub = 0 := by
          by_cases e : (F (2 * i)).pub = 0
          · exact e
          · exact absurd (hpp.1 e) hp
        have hfb := fb_stop hfm hp hlt
        have hzi : z = (i : Int) := by
          rw [HZ.out]
          unfold freeM
          rw [hfb, if_neg (by omega)]
        have e6 : wrap64 ((2 * (i : Int)).tdiv 2) = (i : Int) := by rw [Int.tdiv_eq_ediv_of_nonneg (by omega)]; unfold wrap64; omega
        have E6 := Lib.hid e6
        have e8 : 2 * (i : Int) / 2 = (i : Int) := Int.mul_ediv_cancel_left _ (by decide)
        have E8 := Lib.hid e8
        have HZI := Lib.hid hzi
        rw [hp0] at y0
        clear hp hp0 hpp hfb hzi e6 e8 hin hfm
        generalize 2 * (i : Int) = y2 at *
        go_wp2_with (simp only [E6.out])
        go_ret
        rw [HZI.out]
        refine ⟨?_, HB.out⟩
        first | rfl | (show Ending.returned (Value.int IntKind.i64 (y2 / 2)) = _; rw [E8.out])
    · obtain rfl : i = L := by omega
      have hnn : ¬ 2 * i < n := fun h => by have := (HF.out.1 i).1 h; omega
      have t1 : decide (2 * (i : Int) < (n : Int)) = false := decide_eq_false (by omega)
      obtain rfl : z = -1 := by rw [HZ.out]; exact if_pos hfm
      clear hnn hlt hfm
      go_wp2_with fail
      go_ret
      exact ⟨rfl, HB.out⟩
set_option maxHeartbeats 4000000 in
theorem rising (v : Value) (l : List Int) (n : Int) (w : World) (hI : Ints w v l) (hs : l.Pairwise (· < ·)) (hn : n ∉ l) (hl : l.length ≤ 1000000) :
    Calls Tryz.prog 162 #[v, .int .i64 n] w fun e w' => ∃ v', e = .returned v' ∧ OwnI w' w.heap.size v' (ins n l) ∧ Below w.heap.size w w' := by
  obtain ⟨A, c, rfl, -, -, -⟩ := id hI
  have HI := Lib.hid hI
  obtain ⟨N, hN⟩ : ∃ N, N = l.length := ⟨_, rfl⟩
  have HF := Lib.hid (fun out => RisI.fin (out := out) hs hn)
  rw [← hN] at HF hl
  have HL : Hid (∀ i out d, RisI l n i out d → i ≤ N → out.length ≤ i + 1) := Lib.hid fun i out d h hi => h.len (by omega)
  have HGE : Hid (∀ i, i < N → ∃ x, l[i]? = some x) := Lib.hid fun i hi => ⟨l[i]'(by omega), List.getElem?_eq_getElem _⟩
  rw [← hN]
  clear hI hs hn hN
  go_enter Tryz.func162, Tryz.ntmps162
  go_wp2_with fail
  go_loopg [5, 6, 7] (N + 1) (fun g v5 v6 v7 wr => ∃ (i : Nat) (out : List Int) (d : Bool), i ≤ N ∧ i + g = N + 1 ∧ v6 = .bool d ∧ v7 = .int .i64 (i : Int) ∧ Hid (OwnI wr w.heap.size v5 out ∧ Below w.heap.size w wr ∧ RisI l n i out d))
  case atStart => exact ⟨0, [], false, by omega, by omega, rfl, rfl, Lib.hid ⟨World.ownsRow_nil _ _ _ _, Below.refl _ _, RisI.start l n⟩⟩
  case round =>
    obtain ⟨i, out, d, hi, hg, rfl, rfl, HT⟩ := hrel
    obtain ⟨how, hb, hris⟩ := HT.out
    have hB := hb.size
    have HO := Lib.hid how
    have hlen := HL.out i out d hris hi
    have HG := Lib.hid (And.intro hg hris)
    clear hg how hris
    by_cases hlt : i < N
    · obtain ⟨x, hx⟩ := HGE.out i hlt
      obtain ⟨b, o, rfl, c0⟩ := HI.out.at hx
      have hbl := World.block_lt_of_cell? _ _ c0
      have c1 := (hb.cell (p := ⟨b, o + i, none⟩) hbl).trans c0
      have hbl1 : b < wr.heap.size := World.block_lt_of_cell? _ _ c1
      have i1 : (0 : Int) ≤ (i : Int) := by omega
      have i2 : (i : Int) < (N : Int) := by omega
      have HX := Lib.hid (And.intro hx hlt)
      clear hx
      cases d with
      | true =>
        go_wp2_with (at_builtin; refine push rfl _ _ rfl rfl rfl HO hb hB ?c1 ?_)
        case c1 => omega
        intro v' w' h1 h2 h3
        have H1 := Lib.hid (And.intro h1 (And.intro h2 (HG.out.2.more HX.out.1)))
        clear h1 h2 HO
        go_wp2_with fail
        go_roundg (gk - 1)
        case rel => exact ⟨i + 1, _, true, by omega, by have := HG.out.1; omega, rfl, by go_num, H1⟩
        case measure => have := HG.out.1; omega
      | false =>
        by_cases hq : n < x
        · have t1 : decide (n < x) = true := decide_eq_true hq
          have HQ := Lib.hid hq
          clear hq
          go_wp2_with (at_builtin; refine push rfl _ _ rfl rfl rfl HO hb hB ?c1 ?_)
          case c1 => omega
          intro v' w' h1 h2 h3
          have H1 := Lib.hid h1
          have c2 := (h2.cell (p := ⟨b, o + i, none⟩) hbl).trans c0
          have hbl2 : b < w'.heap.size := World.block_lt_of_cell? _ _ c2
          clear h1 HO
          go_wp2_with (at_builtin; refine push rfl _ _ rfl rfl rfl H1 h2 h3 ?c1 ?_)
          case c1 => simp; omega
          intro v2 w2 g1 g2 g3
          have H2 := Lib.hid (And.intro g1 (And.intro g2 (by simpa using HG.out.2.put HX.out.1 HQ.out)))
          clear g1 g2 H1
          go_wp2_with fail
          go_roundg (gk - 1)
          case rel => exact ⟨i + 1, _, true, by omega, by have := HG.out.1; omega, rfl, by go_num, H2⟩
          case measure => have := HG.out.1; omega
        · have t1 : decide (n < x) = false := decide_eq_false hq
          have HQ := Lib.hid hq
          clear hq
          go_wp2_with (at_builtin; refine push rfl _ _ rfl rfl rfl HO hb hB ?c1 ?_)
          case c1 => omega
          intro v' w' h1 h2 h3
          have H1 := Lib.hid (And.intro h1 (And.intro h2 (HG.out.2.skip HX.out.1 (Int.not_lt.2 HQ.out))))
          clear h1 h2 HO
          go_wp2_with fail
          go_roundg (gk - 1)
          case rel => exact ⟨i + 1, _, false, by omega, by have := HG.out.1; omega, rfl, by go_num, H1⟩
          case measure => have := HG.out.1; omega
    · obtain rfl : i = N := by omega
      clear hlt
      cases d with
      | true =>
        have he := (HF.out _).1 HG.out.2
        have HE := Lib.hid he
        clear he
        go_wp2_with fail
        go_ret
        exact ⟨_, rfl, by rw [← HE.out]; exact HO.out, HT.out.2.1⟩
      | false =>
        have HE := Lib.hid ((HF.out _).2 HG.out.2)
        go_wp2_with (at_builtin; refine push rfl _ _ rfl rfl rfl HO hb hB ?c1 ?_)
        case c1 => omega
        intro v' w' h1 h2 h3
        have H1 := Lib.hid (And.intro h1 h2)
        clear h1 h2 HO
        go_wp2_with fail
        go_ret
        exact ⟨_, rfl, by rw [← HE.out]; exact H1.out.1, H1.out.2⟩
end Go.Proofs.YtnahhclflnjmcaaGreatDoor
