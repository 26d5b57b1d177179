/- Add, the other ways. -/
import Derived.Test.YtopkanokpfhmmaaDoorTA
namespace Go.Proofs.YtopkanokpfhmmaaDoor
open Go Go.RowKit
set_option linter.unusedVariables false
set_option linter.unusedSimpArgs false

theorem fb_step {F : Nat → Node} {i : Nat} (h : fb F i = i) (hp : 0 < (F (2 * i)).pub) : fb F (i + 1) = i + 1 := by
  rw [fb, if_neg (by omega), if_pos hp]
theorem fb_stop {F : Nat → Node} {i : Nat} (h : fb F i = i) (hp : ¬ 0 < (F (2 * i)).pub) : ∀ {s : Nat}, i < s → fb F s = i
  | 0, hs => by omega
  | s + 1, hs => by
    rw [fb]
    by_cases e : i = s
    · subst e
      rw [if_neg (by omega), if_neg hp]
    · rw [fb_stop h hp (by omega), if_pos (by omega)]
theorem fb_le (F : Nat → Node) : ∀ n, fb F n ≤ n
  | 0 => Nat.le_refl _
  | n + 1 => by
    have := fb_le F n
    rw [fb]
    split
    · omega
    · split <;> omega
theorem pw_length : ∀ (l : List Int) (lo hi : Int), (∀ u ∈ l, lo ≤ u ∧ u ≤ hi) → l.Pairwise (· < ·) → lo ≤ hi + 1 → (l.length : Int) ≤ hi - lo + 1
  | [], lo, hi, _, _, h => by simp; omega
  | u :: us, lo, hi, h1, h2, h => by
    have hu := h1 u (by simp)
    have h3 := List.pairwise_cons.1 h2
    have := pw_length us (u + 1) hi (fun z hz => ⟨by have := h3.1 z hz; omega, (h1 z (by simp [hz])).2⟩) h3.2 (by omega)
    simp
    omega
theorem Ok.n_le {d n : Nat} {F : Nat → Node} (h : Ok d n F) : n ≤ 15 := by
  have := h.hn
  have h4 : 2 ^ (d + 1) ≤ 2 ^ 4 := Nat.pow_le_pow_right (by decide) (by have := h.hd; omega)
  omega
theorem Ok.lvs_ne {d n : Nat} {F : Nat → Node} (h : Ok d n F) : YtopkanokpfhmmaaDoor.lvs n ≠ 0 := by
  rw [h.lvs]
  have := two_pos d
  omega
theorem Ok.un_len {d n : Nat} {F : Nat → Node} (h : Ok d n F) {y : Nat} (hy : y < n) : (F y).un.length ≤ 8 := by
  by_cases ho : y % 2 = 1
  · rcases h.par y hy ho with h1 | ⟨_, _, _, h1, h2⟩
    · rw [Node.blank_iff.1 h1]; decide
    · have h3 := hi2 h.lvs_ne hy
      have h4 := h.n_le
      have h5 : lo y ≤ hi y := by unfold hi; omega
      have := pw_length _ (lo y) (hi y) (fun u hu => ⟨(h1 u hu).1, (h1 u hu).2.1⟩) h2 (by omega)
      omega
  · obtain ⟨i, rfl⟩ : ∃ i, y = 2 * i := ⟨y / 2, by omega⟩
    have := h.hn
    have := two_succ d
    rcases h.leaf i (by omega) with h1 | ⟨_, _, _, h1⟩
    · rw [Node.blank_iff.1 h1]; decide
    · rw [h1]; decide
theorem Ok.sorted {d n : Nat} {F : Nat → Node} (h : Ok d n F) {y : Nat} (hy : y < n) : (F y).un.Pairwise (· < ·) := by
  by_cases ho : y % 2 = 1
  · rcases h.par y hy ho with h1 | ⟨_, _, _, h1, h2⟩
    · rw [Node.blank_iff.1 h1]; exact List.Pairwise.nil
    · exact h2
  · obtain ⟨i, rfl⟩ : ∃ i, y = 2 * i := ⟨y / 2, by omega⟩
    have := h.hn
    have := two_succ d
    rcases h.leaf i (by omega) with h1 | ⟨_, _, _, h1⟩
    · rw [Node.blank_iff.1 h1]; exact List.Pairwise.nil
    · rw [h1]; exact List.Pairwise.nil
theorem chk_len {n : Nat} {F : Nat → Node} (h : chk n F = true) : n ≤ 15 ∧ (∀ y, (pad n F y).un.length ≤ 8) ∧ (∀ y, (pad n F y).un.Pairwise (· < ·)) := by
  rcases chk_iff.1 h with rfl | ⟨d, hO⟩
  · refine ⟨by omega, fun y => ?_, fun y => ?_⟩ <;> unfold pad <;> rw [if_neg (by omega)]
    · decide
    · exact List.Pairwise.nil
  · refine ⟨hO.n_le, fun y => ?_, fun y => ?_⟩ <;> unfold pad
    · split
      · exact hO.un_len (by assumption)
      · decide
    · split
      · exact hO.sorted (by assumption)
      · exact List.Pairwise.nil
set_option maxHeartbeats 4000000 in
set_option maxRecDepth 100000 in
theorem add_limit (v : Value) (n : Nat) (F : Nat → Node) (a : Addx) (w : World) (hT : Tab w) (hR : TrR w v n F) (hz : chk n F = true) (hm : 0 ≤ a.mem) (he : 0 ≤ a.ep) (hp : 1 ≤ a.pub) (hq : findM F a.mem (sizeM n F) < 0)
    (hfull : fb F (lvs n) = lvs n) (h8 : lvs n = 8) :
    Calls Tryd.prog 13 #[.agg #[v], a.v] w fun e w' => AddNo w 3 e w' := by
  have hn15 := (chk_len hz).1
  have hC : ∀ W, Below w.heap.size w W → Calls Tryd.prog 10 #[.agg #[v]] W fun e w' => e = .returned (.int .i64 (errB (chk n F))) ∧ Below W.heap.size W w' := fun W hW =>
    check10 v n F W (hT.below hT.pos hW) (hR.below hW) (by omega)
  have hF : ∀ W, Below w.heap.size w W → Calls Tryd.prog 15 #[.agg #[v], .int .i64 a.mem] W fun e w' => e = .returned (.int .i64 (findM F a.mem (sizeM n F))) ∧ Below W.heap.size W w' := fun W hW =>
    find15 v n F a.mem W (hT.below hT.pos hW) (hR.below hW) (by omega)
  have HR := Lib.hid hR
  have HSZ := Lib.hid (fun i (h : i < lvs n) => lvs_lt h)
  obtain ⟨A, c, rfl, -, -, h3⟩ := hR
  have hL := fun w => leaves26 A n c w (by omega)
  obtain ⟨m, e, p⟩ := a
  unfold Addx.v
  simp only at hm he hp hq hF ⊢
  have HB0 := Lib.hid (AddB.start w (.slice A n c) m e p)
  rw [hz, errB_true] at hC
  rw [h8] at hL hfull HSZ
  have HFU := Lib.hid hfull
  have H3 := Lib.hid h3
  generalize findM F m (sizeM n F) = f at *
  have t1 : decide (m < 0) = false := decide_eq_false (by omega)
  have t2 : decide (e < 0) = false := decide_eq_false (by omega)
  have t3 : decide (p < 1) = false := decide_eq_false (by omega)
  have t4 : decide (0 ≤ f) = false := decide_eq_false (by omega)
  clear hz hm he hp hq hfull h8 h3
  go_enter Tryd.func13, Tryd.ntmps13
  go_wp2_with (first
    | (go_at_call 10; refine (hC _ HB0.out.bel).mono ?_; rintro e' w1 ⟨rfl, hb1⟩; obtain ⟨d0, d1, d2, d3, d4, d5, d6, d7⟩ := HB0.out.under hb1; have HB1 := Lib.hid (HB0.out.under hb1))
    | (go_at_call 15; refine (hF _ HB1.out.bel).mono ?_; rintro e' w2 ⟨rfl, hb2⟩; obtain ⟨f0, f1, f2, f3, f4, f5, f6, f7⟩ := HB1.out.under hb2; have HB2 := Lib.hid (HB1.out.under hb2))
    | (go_at_call 26; refine (hL _).mono ?_; rintro e' w3 ⟨rfl, hb3⟩; obtain ⟨g0, g1, g2, g3, g4, g5, g6, g7⟩ := HB2.out.under hb3; have HB3 := Lib.hid (HB2.out.under hb3)))
  clear hb1 hb2 hb3 d0 d1 d2 d3 d4 d5 d6 d7 f0 f1 f2 f3 f4 f5 f6 f7 hC hF hL
  have hs0 : w.heap.size < w3.heap.size := by omega
  go_loopg [8] 9 (fun g v8 wr => ∃ i : Nat, i ≤ 8 ∧ i + g = 9 ∧ v8 = .int .i64 i ∧ fb F i = i ∧ wr = w3)
  case atStart => exact ⟨0, by omega, by omega, rfl, rfl, rfl⟩
  case round =>
    obtain ⟨i, hi, hg, rfl, hfb, rfl⟩ := hrel
    have HG := Lib.hid (And.intro hg hfb)
    by_cases hlt : i < 8
    · obtain ⟨hin, hi8⟩ := HSZ.out i hlt
      obtain ⟨b, o, rfl, hN⟩ := H3.out (by omega)
      obtain ⟨c0, -, -, -, -⟩ := (hN (2 * i) hin).below g0
      have hb0 : b < wr.heap.size := World.block_lt_of_cell? _ _ c0
      have j1 : (0 : Int) ≤ 2 * (i : Int) := by omega
      have j2 : 2 * (i : Int) < n := by omega
      have j3 : (i : Int) < 8 := by omega
      have hpos : 0 < (F (2 * i)).pub := by
        by_cases h : 0 < (F (2 * i)).pub
        · exact h
        · have := fb_stop hfb h hlt
          have := HFU.out
          omega
      have t5 : decide (0 < (F (2 * i)).pub) = true := decide_eq_true hpos
      have HFB := Lib.hid (fb_step hfb hpos)
      clear hg hfb hpos
      generalize (F (2 * i)).pub = q at *
      go_wp2
      go_roundg (gk - 1)
      case rel => exact ⟨i + 1, by omega, by have := HG.out.1; omega, by go_num, HFB.out, rfl⟩
      case measure => have := HG.out.1; omega
    · obtain rfl : i = 8 := by omega
      clear hg hfb
      go_wp2
      have d8 := HB3.out.stored
      refine bodyPost_ret (by simp [results, Tryd.results13, go_sem, d8]; rfl) rfl ?_
      exact ⟨rfl, g0.setCell (by show w.heap.size ≤ w.heap.size + 2; omega) _⟩
end Go.Proofs.YtopkanokpfhmmaaDoor
