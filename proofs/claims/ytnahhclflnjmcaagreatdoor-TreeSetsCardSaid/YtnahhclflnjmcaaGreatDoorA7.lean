import Derived.Test.YtnahhclflnjmcaaGreatDoorTF
import Derived.Test.YtnahhclflnjmcaaGreatDoorTZ
import Derived.ChangeSame
import Derived.Deep.Slices
import Derived.OpenShut
import Derived.Deep.Fields
import Derived.WideShapes
/- TreeSize, Beyond, New, has, SameNode. -/
namespace Go.Proofs.YtnahhclflnjmcaaGreatDoor
open Go Go.RowKit
set_option linter.unusedVariables false
set_option linter.unusedSimpArgs false
set_option maxRecDepth 100000

set_option maxHeartbeats 2000000 in
set_option maxRecDepth 100000 in
/-- TreeSize: where it is within the bound, there are no more nodes than that. -/
theorem size9 (v : Value) (n : Nat) (F : Nat → Node) (w : World) (hR : TrR w v n F) :
    Calls Tryz.prog 8 #[.agg #[v]] w fun e w' => ∃ s : Int, e = .returned (.int .i64 s) ∧ (s ≤ 262144 → n ≤ 262144) ∧ Below w.heap.size w w' := by
  have hn := hR.n_le
  obtain ⟨A, c, rfl, -, -, h3⟩ := hR
  have H3 := Lib.hid h3
  clear h3
  go_enter Tryz.func8, Tryz.ntmps8
  go_wp2_with fail
  go_loopg [3, 4] (n + 1) (fun g v3 v4 wr => ∃ (i : Nat) (s : Int), i ≤ n ∧ i + g = n + 1 ∧ v4 = .int .i64 i ∧ v3 = .int .i64 s ∧ (262144 < n → s = n) ∧ wr = w.alloc (.cells #[.slice A n c] 24))
  case atStart => exact ⟨0, n, by omega, by omega, rfl, rfl, fun _ => rfl, rfl⟩
  case round =>
    obtain ⟨i, s, hi, hg, rfl, rfl, hs, rfl⟩ := hrel
    have HG := Lib.hid (And.intro hg hs)
    clear hg
    by_cases hlt : i < n
    · by_cases hsm : s ≤ 262144
      · obtain ⟨b, o, rfl, hN⟩ := H3.out (by omega)
        obtain ⟨c0, c1, c2, ⟨A', cc, c3, hIn⟩, hr⟩ := hN i hlt
        have hb0 : b < w.heap.size := World.block_lt_of_cell? _ _ c0
        have hk : (F i).un.length ≤ 9223372036854775807 := by
          obtain ⟨A2, c2', e, h1, h2, _⟩ := hIn
          unfold maxLen at h2
          omega
        have t1 : decide (s ≤ 262144) = true := decide_eq_true hsm
        have q1 : (0 : Int) ≤ (i : Int) := by omega
        have q2 : (i : Int) < n := by omega
        clear hIn c0 c1 c2
        generalize (F i).un.length = k at *
        have HS := Lib.hid (show n ≤ 262144 by by_cases h : n ≤ 262144; exact h; have := hs (by omega); omega)
        clear hs
        go_wp2_with fail
        go_roundg (gk - 1)
        case rel => exact ⟨i + 1, _, by omega, by have := HG.out.1; omega, by go_num, rfl, fun h => by have := HS.out; omega, rfl⟩
        case measure => have := HG.out.1; omega
      · have t1 : decide (s ≤ 262144) = false := decide_eq_false hsm
        go_wp2_with fail
        go_ret
        exact ⟨s, rfl, fun h => (by by_cases h2 : n ≤ 262144; exact h2; have := HG.out.2 (by omega); omega), (Below.refl _ _).alloc (Nat.le_refl _) _⟩
    · have t0 : decide ((i : Int) < (n : Int)) = false := decide_eq_false (by omega)
      go_wp2_with fail
      go_ret
      exact ⟨s, rfl, fun h => (by by_cases h2 : n ≤ 262144; exact h2; have := HG.out.2 (by omega); omega), (Below.refl _ _).alloc (Nat.le_refl _) _⟩
set_option maxHeartbeats 2000000 in
set_option maxRecDepth 100000 in
/-- Beyond of one number. -/
theorem beyond8 (b o : Nat) (s : Int) (w : World) (hc : w.cell? ⟨b, o, none⟩ = some (.int .i64 s)) :
    Calls Tryz.prog 7 #[.slice (some ⟨b, o, none⟩) 1 1] w fun e w' => e = .returned (.bool (decide (s < 0) || decide (262144 < s))) ∧ w = w' := by
  have hb := World.block_lt_of_cell? _ _ hc
  by_cases h1 : s < 0
  · have t1 : decide (s < 0) = true := decide_eq_true h1
    go_enter Tryz.func7, Tryz.ntmps7
    go_wp2_with fail
    refine wp_loop_rounds 1 ?_
    rw [rounds_succ]
    go_wp2
    go_ret
    exact ⟨by simp [t1], rfl⟩
  · have t1 : decide (s < 0) = false := decide_eq_false h1
    by_cases h2 : 262144 < s
    · have t2 : decide (262144 < s) = true := decide_eq_true h2
      go_enter Tryz.func7, Tryz.ntmps7
      go_wp2_with fail
      refine wp_loop_rounds 1 ?_
      rw [rounds_succ]
      go_wp2
      go_ret
      exact ⟨by simp [t1, t2], rfl⟩
    · have t2 : decide (262144 < s) = false := decide_eq_false h2
      have e1 : wrap64 (0 + s) = s := by unfold wrap64; omega
      have e2 : wrap64 s = s := by unfold wrap64; omega
      go_enter Tryz.func7, Tryz.ntmps7
      go_wp2_with fail
      refine wp_loop_rounds 2 ?_
      rw [rounds_succ]
      go_wp2_with (first | simp only [e1] | simp only [e2])
      rw [rounds_succ]
      go_wp2
      go_ret
      exact ⟨by simp [t1, t2], rfl⟩
end Go.Proofs.YtnahhclflnjmcaaGreatDoor

/- Add whole; New; SameNode. -/
namespace Go.Proofs.YtnahhclflnjmcaaGreatDoor
open Go Go.RowKit
set_option linter.unusedVariables false
set_option linter.unusedSimpArgs false
set_option maxRecDepth 100000

theorem chk_false_add {n : Nat} {F : Nat → Node} {a : Addx} (h : addE n F a = 0) : chk n F = true ∧ 0 ≤ a.mem ∧ 0 ≤ a.ep ∧ 1 ≤ a.pub ∧ findM F a.mem (sizeM n F) < 0 ∧ ¬ (fb F (lvs n) = lvs n ∧ lvs n = 8) := by
  unfold addE at h
  by_cases h1 : chk n F = false ∨ a.mem < 0 ∨ a.ep < 0 ∨ a.pub < 1
  · rw [if_pos h1] at h; cases h
  · rw [if_neg h1] at h
    by_cases h2 : 0 ≤ findM F a.mem (sizeM n F)
    · rw [if_pos h2] at h; cases h
    · rw [if_neg h2] at h
      by_cases h3 : fb F (lvs n) = lvs n ∧ lvs n = 8
      · rw [if_pos h3] at h; cases h
      · have hc : chk n F = true := by
          cases hc : chk n F with
          | true => rfl
          | false => exact absurd (.inl hc) h1
        exact ⟨hc, by omega, by omega, by omega, by omega, h3⟩
/-- What Add answers. -/
structure AddA (w : World) (n : Nat) (F : Nat → Node) (a : Addx) (e : Ending) (w' : World) : Prop where
  no : addE n F a ≠ 0 → AddNo w (addE n F a) e w'
  yes : addE n F a = 0 → AddYes w n F a e w'
theorem add13 (v : Value) (n : Nat) (F : Nat → Node) (a : Addx) (w : World) (hT : Tab w) (hR : TrR w v n F) (hn : n ≤ 262144) (hwf : (Lit.int .i64 a.mem).wf = true) :
    Calls Tryz.prog 23 #[.agg #[v], a.v] w fun e w' => AddA w n F a e w' := by
  by_cases h0 : addE n F a = 0
  · obtain ⟨h1, h2, h3, h4, h5, h6⟩ := chk_false_add h0
    exact (add_yes v n F a w hT hR h1 h2 h3 h4 hwf h5 h6).mono fun e w' h => ⟨fun h7 => absurd h0 h7, fun _ => h⟩
  · have key : Calls Tryz.prog 23 #[.agg #[v], a.v] w fun e w' => AddNo w (addE n F a) e w' := by
      by_cases h1 : chk n F = false ∨ a.mem < 0 ∨ a.ep < 0 ∨ a.pub < 1
      · rw [show addE n F a = 1 from if_pos h1]
        exact add_arg v n F a w hT hR hn h1
      · have hc : chk n F = true := by
          cases hc : chk n F with
          | true => rfl
          | false => exact absurd (.inl hc) h1
        by_cases h2 : 0 ≤ findM F a.mem (sizeM n F)
        · rw [show addE n F a = 13 by unfold addE; rw [if_neg h1, if_pos h2]]
          exact add_twice v n F a w hT hR hn hc (by omega) (by omega) (by omega) h2
        · by_cases h3 : fb F (lvs n) = lvs n ∧ lvs n = 8
          · rw [show addE n F a = 3 by unfold addE; rw [if_neg h1, if_neg h2, if_pos h3]]
            exact add_limit v n F a w hT hR hc (by omega) (by omega) (by omega) (by omega) h3.1 h3.2
          · exact absurd (by unfold addE; rw [if_neg h1, if_neg h2, if_neg h3]) h0
    exact key.mono fun e w' h => ⟨fun _ => h, fun h7 => absurd h7 h0⟩
theorem cell_box {w : World} {g : Nat} {A : Option Addr} {k c : Nat} {u : Value} (hc : w.cell? ⟨g, 0, none⟩ = some (.slice A k c)) {p : Addr} {x : Int} (h : w.cell? p = some (.int .i64 x)) : (w.setCell ⟨g, 0, none⟩ u).cell? p = some (.int .i64 x) := by
  rw [World.cell?_setCell_other _ _ _ _ (fun e => by rw [← e, hc] at h; cases h)]
  exact h
theorem Ints.setBox {w : World} {g : Nat} {A : Option Addr} {k c : Nat} {u v : Value} {l : List Int} (h : Ints w v l) (hc : w.cell? ⟨g, 0, none⟩ = some (.slice A k c)) : Ints (w.setCell ⟨g, 0, none⟩ u) v l := by
  obtain ⟨A', c', rfl, h1, h2, h3⟩ := h
  refine ⟨A', c', rfl, h1, h2, fun h0 => ?_⟩
  obtain ⟨b, off, rfl, h4⟩ := h3 h0
  exact ⟨b, off, rfl, fun i x hi => cell_box hc (h4 i x hi)⟩
/-- A tree stays where the box of another one is written. -/
theorem TrR.setBox {w : World} {g : Nat} {A : Option Addr} {k c : Nat} {u v : Value} {n : Nat} {F : Nat → Node} (h : TrR w v n F) (hc : w.cell? ⟨g, 0, none⟩ = some (.slice A k c)) : TrR (w.setCell ⟨g, 0, none⟩ u) v n F := by
  obtain ⟨A', c', rfl, h1, h2, h3⟩ := h
  refine ⟨A', c', rfl, h1, h2, fun h0 => ?_⟩
  obtain ⟨b, off, rfl, h4⟩ := h3 h0
  refine ⟨b, off, rfl, fun y hy => ?_⟩
  obtain ⟨x0, x1, x2, ⟨A2, c2, x3, hI⟩, hw⟩ := h4 y hy
  refine ⟨cell_box hc x0, cell_box hc x1, cell_box hc x2, ⟨A2, c2, ?_, hI.setBox hc⟩, hw⟩
  rw [World.cell?_setCell_other _ _ _ _ (fun e => by injection e with _ e _; omega)]
  exact x3
theorem TrO.elsewhere {w : World} {B : Nat} {v : Value} {n : Nat} {F : Nat → Node} (h : TrO w B v n F) {a : Addr} (ha : a.block < B) (u : Value) : TrO (w.setCell a u) B v n F := by
  obtain ⟨b, uv, rfl, h1, h2⟩ := h
  have h3 := h2.elsewhere ha u
  exact ⟨b, uv, rfl, h1, h3.hb, h3.row, h3.un, fun y h1 h2 => by omega, h3.nb, h3.ap, h3.wf⟩
/-- What New answers. -/
structure NewP (w : World) (a : Addx) (e : Ending) (w' : World) : Prop where
  out : ∃ v', e = .returned (.tuple #[.agg #[v'], .int .i64 0]) ∧ TrO w' w.heap.size v' 1 (addF 0 (fun _ => zeroN) 0 0 a)
  bel : Below w.heap.size w w'
set_option maxHeartbeats 2000000 in
set_option maxRecDepth 100000 in
theorem new29 (a : Addx) (w : World) (hT : Tab w) (h1 : 0 ≤ a.mem) (h2 : 0 ≤ a.ep) (h3 : 1 ≤ a.pub) (hwf : (Lit.int .i64 a.mem).wf = true) :
    Calls Tryz.prog 25 #[a.v] w fun e w' => NewP w a e w' := by
  obtain ⟨WA, hWA⟩ : ∃ WA, WA = ((w.alloc (.cells #[.int .i64 a.mem, .int .i64 a.ep, .int .i64 a.pub] 75)).alloc (.cells #[.slice none 0 0] 24)) := ⟨_, rfl⟩
  have hbA : Below w.heap.size w WA := by rw [hWA]; exact ((Below.refl _ _).alloc (Nat.le_refl _) _).alloc (by simp) _
  have hadd := add_yes (.slice none 0 0) 0 (fun _ => zeroN) a WA (hT.below hT.pos hbA) (TrR.nil _ _) rfl h1 h2 h3 hwf (by show (-1 : Int) < 0; decide) (by decide)
  have hr0 : WA.cell? ⟨w.heap.size + 1, 0, none⟩ = some (.slice none 0 0) ∧ WA.frozen? ⟨w.heap.size + 1, 0, none⟩ = false ∧ w.heap.size + 1 < WA.heap.size := by
    have := heap_alloc_new (w.alloc (.cells #[.int .i64 a.mem, .int .i64 a.ep, .int .i64 a.pub] 75)) (.cells #[.slice none 0 0] 24)
    rw [show (w.alloc (.cells #[.int .i64 a.mem, .int .i64 a.ep, .int .i64 a.pub] 75)).heap.size = w.heap.size + 1 by simp, ← hWA] at this
    exact ⟨by rw [cell_of_row _ _ _ _ _ _ this]; rfl, frozen_of_row _ _ _ _ _ this, (Array.getElem?_eq_some_iff.1 this).1⟩
  have HA := Lib.hid (And.intro hbA hr0)
  obtain ⟨m, e, p⟩ := a
  unfold Addx.v at hadd ⊢
  simp only at hWA hadd ⊢
  clear hbA hr0 h1 h2 h3 hwf
  go_enter Tryz.func25, Tryz.ntmps25
  go_wp2_with fail
  rw [← hWA]
  refine hadd.mono ?_
  rintro e' w1 ⟨⟨v', rfl, hTR⟩, hb1⟩
  rw [show 2 * addN 0 (fun _ => zeroN) - 1 = 1 from rfl, show lg (addN 0 (fun _ => zeroN)) = 0 from rfl, show fb (fun _ => zeroN) (lvs 0) = 0 from rfl] at hTR
  obtain ⟨A', c', hv', -, -, -⟩ := hTR.trR
  obtain ⟨hbA, r0, rf, rlt⟩ := HA.out
  have s0 := (hb1.cell (p := ⟨w.heap.size + 1, 0, none⟩) rlt).trans r0
  have sf := (hb1.frozen (p := ⟨w.heap.size + 1, 0, none⟩) rlt).trans rf
  have slt : w.heap.size + 1 < w1.heap.size := Nat.lt_of_lt_of_le rlt hb1.size
  have HTR := Lib.hid hTR
  have HB1 := Lib.hid (hbA.trans (hb1.mono hbA.size))
  subst hv'
  have HAL : Hid (w.heap.size + 1 < WA.heap.size) := Lib.hid rlt
  have HAS : Hid (w.heap.size ≤ WA.heap.size) := Lib.hid (by omega)
  clear hTR hb1 hbA r0 rf rlt hWA HA hadd
  have q9 : ∀ o u, ((w1.setCell ⟨w.heap.size + 1, 0, none⟩ u).alloc o).cell? ⟨w.heap.size + 1, 0, none⟩ = some u := fun o u => by
    rw [World.cell?_alloc_lt _ _ _ (by simp; exact slt)]
    apply World.cell?_setCell_same
    exact s0
  go_wp2_with fail
  refine bodyPost_ret (by simp [results, Tryz.results25, go_sem, q9]; rfl) rfl ?_
  refine ⟨⟨_, rfl, ((HTR.out.elsewhere (a := ⟨w.heap.size + 1, 0, none⟩) HAL.out _).lower HAS.out).below ((Below.refl _ _).alloc (Nat.le_refl _) _)⟩, ?_⟩
  exact (HB1.out.setCell (p := ⟨w.heap.size + 1, 0, none⟩) (by show w.heap.size ≤ w.heap.size + 1; omega) _).alloc (by simp; have := HB1.out.size; omega) _
end Go.Proofs.YtnahhclflnjmcaaGreatDoor

/- alive. -/
namespace Go.Proofs.YtnahhclflnjmcaaGreatDoor
open Go Go.RowKit
set_option linter.unusedVariables false
set_option linter.unusedSimpArgs false
set_option maxRecDepth 100000

theorem ok_of_chk {d n : Nat} {F : Nat → Node} (h : chk n F = true) (hn : n = 2 ^ (d + 1) - 1) (hd : d ≤ 3) : Ok d n F := by
  rcases chk_iff.1 h with h0 | ⟨d', hO⟩
  · have := two_succ d; have := two_pos d; omega
  · have h1 := hO.hn
    have h2 := two_succ d; have h3 := two_succ d'
    have e : 2 ^ d' = 2 ^ d := by have := two_pos d; have := two_pos d'; omega
    have key : ∀ a b : Fin 4, 2 ^ a.val = 2 ^ b.val → a.val = b.val := by decide
    have e2 : d' = d := key ⟨d', by have := hO.hd; omega⟩ ⟨d, by omega⟩ e
    rw [← e2]
    exact hO
def aF1 : Nat → Node := addF 0 (fun _ => zeroN) 0 0 ⟨5, 0, 1⟩
def aF2 : Nat → Node := addF 1 aF1 1 1 ⟨6, 0, 2⟩
def aF3 : Nat → Node := setF aF2 1 0 1 3 [(1, 4)]
def aF4 : Nat → Node := addF 3 aF3 2 2 ⟨7, 0, 5⟩
def aF5 : Nat → Node := blankF aF4 2 1
theorem a2_chk : chk 1 aF1 = true := by decide +kernel
theorem a2_find : findM aF1 6 (sizeM 1 aF1) < 0 := by decide +kernel
theorem a2_fb : fb aF1 (lvs 1) = 1 := by decide +kernel
theorem a2_n : addN 1 aF1 = 2 := by decide +kernel
theorem a3_chk : chk 3 aF2 = true := by decide +kernel
theorem a3_pub : 1 ≤ (aF2 (2 * 0)).pub := by decide +kernel
theorem a3_rows : (rowsM aF2 1 0).map (·.1) = [1] := by decide +kernel
theorem a4_chk : chk 3 aF3 = true := by decide +kernel
theorem a4_find : findM aF3 7 (sizeM 3 aF3) < 0 := by decide +kernel
theorem a4_fb : fb aF3 (lvs 3) = 2 := by decide +kernel
theorem a4_n : addN 3 aF3 = 4 := by decide +kernel
theorem a5_chk : chk 7 aF4 = true := by decide +kernel
theorem a5_res : resL 7 aF4 3 = [1, 4] := by decide +kernel
theorem a5_resE : resE 7 aF4 3 = 0 := by decide +kernel
theorem a5_find : findM aF4 6 (sizeM 7 aF4) = 1 := by decide +kernel
theorem a5_mem : (memL aF4 (sizeM 7 aF4)).length ≠ 1 := by decide +kernel
theorem a6_cut : cut aF5 2 = 2 := by decide +kernel
theorem a6_mem : memL aF5 (sizeM 7 aF5) = [5, 7] := by decide +kernel
theorem box3 {w w' : World} {t : TypeId} {z : Value} (h : Below (w.alloc (.cells #[z] t)).heap.size (w.alloc (.cells #[z] t)) w') : w'.cell? ⟨w.heap.size, 0, none⟩ = some z ∧ w'.frozen? ⟨w.heap.size, 0, none⟩ = false ∧ w.heap.size < w'.heap.size := box_first' h
theorem box4 {w w' : World} {g : Nat} {z : Value} (h : Below w.heap.size w w') (h1 : w.cell? ⟨g, 0, none⟩ = some z) (h2 : w.frozen? ⟨g, 0, none⟩ = false) (h3 : g < w.heap.size) : w'.cell? ⟨g, 0, none⟩ = some z ∧ w'.frozen? ⟨g, 0, none⟩ = false ∧ g < w'.heap.size := box_next h h1 h2 h3
theorem ints2 (w : World) (a b : Int) : Ints (w.alloc (.cells #[.int .i64 a, .int .i64 b] 3)) (.slice (some ⟨w.heap.size, 0, none⟩) 2 2) [a, b] :=
  ⟨_, _, rfl, Nat.le_refl 2, by decide, fun _ => ⟨w.heap.size, 0, rfl, fun i x hi => by
    rw [Nat.zero_add, cell_of_row _ _ _ _ _ _ (heap_alloc_new w _)]
    have hlt := (List.getElem?_eq_some_iff.1 hi).1
    have : i = 0 ∨ i = 1 := by simp at hlt; omega
    rcases this with rfl | rfl
    · obtain rfl : a = x := by simpa using hi
      rfl
    · obtain rfl : b = x := by simpa using hi
      rfl⟩⟩
set_option maxHeartbeats 8000000 in
set_option maxRecDepth 100000 in
theorem alive11 (w : World) (hT : Tab w) : Calls Tryz.prog 22 #[] w fun e w' => e = .returned (.bool true) ∧ Below w.heap.size w w' := by
  have hpos := hT.pos
  have HT := Lib.hid hT
  go_enter Tryz.func22, Tryz.ntmps22
  go_wp2_with fail
  refine (new29 ⟨5, 0, 1⟩ w hT (by decide) (by decide) (by decide) (by decide)).mono ?_
  rintro e w1 ⟨⟨v1, rfl, h1⟩, b1⟩
  replace h1 := h1.trR
  obtain ⟨A1, c1, rfl, -, -, -⟩ := id h1
  have H1 := Lib.hid (h1.alloc (.cells #[.slice A1 1 c1] 24))
  have hbA := Lib.hid (b1.alloc b1.size (.cells #[.slice A1 1 c1] 24))
  clear h1
  go_wp2_with fail
  refine (add_yes (.slice A1 1 c1) 1 aF1 ⟨6, 0, 2⟩ _ (hT.below hpos hbA.out) H1.out a2_chk (by decide) (by decide) (by decide) (by decide) a2_find (by rw [a2_fb]; decide)).mono ?_
  rintro e w2 ⟨⟨v2, rfl, h2⟩, b2⟩
  replace h2 := h2.trR
  rw [a2_fb, a2_n] at h2
  rw [a2_fb]
  obtain ⟨A2, c2, rfl, -, -, -⟩ := id h2
  obtain ⟨x0, xf, xl⟩ := box3 b2
  have s2 := (World.cell?_setCell_same w2 ⟨w1.heap.size, 0, none⟩ (.slice A2 3 c2) x0)
  have f2 : (w2.setCell ⟨w1.heap.size, 0, none⟩ (.slice A2 3 c2)).frozen? ⟨w1.heap.size, 0, none⟩ = false := by rw [World.frozen?_setCell]; exact xf
  have l2 : w1.heap.size < (w2.setCell ⟨w1.heap.size, 0, none⟩ (.slice A2 3 c2)).heap.size := by simp; exact xl
  have bw2 := Lib.hid ((hbA.out.trans (b2.mono hbA.out.size)).setCell (p := ⟨w1.heap.size, 0, none⟩) (by exact b1.size) (.slice A2 3 c2))
  have H2 := Lib.hid (h2.setBox x0 (u := .slice A2 3 c2))
  have HB1 := Lib.hid b1
  clear h2 b2 b1 H1 hbA
  go_wp2_with fail
  have bw2a := Lib.hid (bw2.out.alloc bw2.out.size (.cells #[.int .i64 4] 3))
  have hI4 : Ints ((w2.setCell ⟨w1.heap.size, 0, none⟩ (.slice A2 3 c2)).alloc (.cells #[.int .i64 4] 3)) (.slice (some ⟨w2.heap.size, 0, none⟩) ([4] : List Int).length 1) [4] :=
    ⟨_, _, rfl, by decide, by decide, fun _ => ⟨w2.heap.size, 0, rfl, fun i x hi => by
      have hi0 : i = 0 := by have := (List.getElem?_eq_some_iff.1 hi).1; simp at this; omega
      subst hi0
      have hx : x = 4 := by simpa using hi.symm
      have := cell_one_new (w2.setCell ⟨w1.heap.size, 0, none⟩ (.slice A2 3 c2)) (.int .i64 4) 3 0 _ rfl
      rw [show (w2.setCell ⟨w1.heap.size, 0, none⟩ (.slice A2 3 c2)).heap.size = w2.heap.size by simp] at this
      rw [hx]
      simpa [Addr.add] using this⟩⟩
  have hO3 : Ok 1 3 aF2 := ok_of_chk a3_chk (by decide) (by decide)
  have hset := set_some (.slice A2 3 c2) 3 1 0 aF2 1 3 _ [4] _ (hT.below hpos bw2a.out) (H2.out.alloc _) hO3 (by decide) a3_pub (by decide) (by decide) hI4 (by have := congrArg List.length a3_rows; rw [List.length_map] at this; rw [this]; rfl) (by decide) (by decide)
  rw [a3_rows] at hset
  refine hset.mono ?_
  rintro e w3 ⟨⟨v3, rfl, h3⟩, b3⟩
  replace h3 := h3.trR
  obtain ⟨A3, c3, rfl, -, -, -⟩ := id h3
  have s2a : ((w2.setCell ⟨w1.heap.size, 0, none⟩ (.slice A2 3 c2)).alloc (.cells #[.int .i64 4] 3)).cell? ⟨w1.heap.size, 0, none⟩ = some (.slice A2 3 c2) := by rw [World.cell?_alloc_lt _ _ _ l2]; exact s2
  have f2a : ((w2.setCell ⟨w1.heap.size, 0, none⟩ (.slice A2 3 c2)).alloc (.cells #[.int .i64 4] 3)).frozen? ⟨w1.heap.size, 0, none⟩ = false := by
    rw [World.frozen?_of_block (a := ⟨w1.heap.size, 0, none⟩) (Below.heap_alloc _ _ _ l2)]
    exact f2
  obtain ⟨y0, yf, yl⟩ := box4 b3 s2a f2a (by simp; omega)
  have s3 := (World.cell?_setCell_same w3 ⟨w1.heap.size, 0, none⟩ (.slice A3 3 c3) y0)
  have f3 : (w3.setCell ⟨w1.heap.size, 0, none⟩ (.slice A3 3 c3)).frozen? ⟨w1.heap.size, 0, none⟩ = false := by rw [World.frozen?_setCell]; exact yf
  have l3 : w1.heap.size < (w3.setCell ⟨w1.heap.size, 0, none⟩ (.slice A3 3 c3)).heap.size := by simp; exact yl
  have bw3 := Lib.hid ((bw2a.out.trans (b3.mono bw2a.out.size)).setCell (p := ⟨w1.heap.size, 0, none⟩) (by exact HB1.out.size) (.slice A3 3 c3))
  have H3 := Lib.hid (h3.setBox y0 (u := .slice A3 3 c3))
  clear h3 b3 hset hI4 hO3 s2a f2a s2 f2 l2 x0 xf xl H2 bw2 bw2a
  go_wp2_with fail
  refine (add_yes (.slice A3 3 c3) 3 aF3 ⟨7, 0, 5⟩ _ (hT.below hpos bw3.out) H3.out a4_chk (by decide) (by decide) (by decide) (by decide) a4_find (by rw [a4_fb]; decide)).mono ?_
  rintro e w4 ⟨⟨v4, rfl, h4⟩, b4⟩
  replace h4 := h4.trR
  rw [a4_fb, a4_n] at h4
  rw [a4_fb]
  obtain ⟨A4, c4, rfl, -, -, -⟩ := id h4
  obtain ⟨z0, zf, zl⟩ := box4 b4 s3 f3 l3
  have s4 := (World.cell?_setCell_same w4 ⟨w1.heap.size, 0, none⟩ (.slice A4 7 c4) z0)
  have f4 : (w4.setCell ⟨w1.heap.size, 0, none⟩ (.slice A4 7 c4)).frozen? ⟨w1.heap.size, 0, none⟩ = false := by rw [World.frozen?_setCell]; exact zf
  have l4 : w1.heap.size < (w4.setCell ⟨w1.heap.size, 0, none⟩ (.slice A4 7 c4)).heap.size := by simp; exact zl
  have bw4 := Lib.hid ((bw3.out.trans (b4.mono bw3.out.size)).setCell (p := ⟨w1.heap.size, 0, none⟩) (by exact HB1.out.size) (.slice A4 7 c4))
  have H4 := Lib.hid (h4.setBox z0 (u := .slice A4 7 c4))
  clear h4 b4 s3 f3 l3 y0 yf yl H3 bw3
  go_wp2_with fail
  have hres := res19 (.slice A4 7 c4) 7 aF4 3 _ (hT.below hpos bw4.out) H4.out (by decide)
  rw [a5_res, a5_resE] at hres
  refine hres.mono ?_
  rintro e w5 ⟨⟨v5, rfl, ho5⟩, b5⟩
  obtain ⟨A5, c5, rfl⟩ := ho5.slice
  obtain ⟨s5, f5, l5⟩ := box4 b5 s4 f4 l4
  have H5 := Lib.hid (H4.out.below b5)
  have bw5 := Lib.hid (bw4.out.trans (b5.mono bw4.out.size))
  have HO5 := Lib.hid ho5.ints
  clear hres ho5 s4 f4 l4 z0 zf zl b5 H4 bw4
  go_wp2_with fail
  have hO5 : Ok 2 7 aF4 := ok_of_chk a5_chk (by decide) (by decide)
  refine (rem_yes (.slice A4 7 c4) 7 2 1 aF4 6 w5 (hT.below hpos bw5.out) H5.out hO5 a5_find (by decide) a5_mem).mono ?_
  rintro e w6 ⟨⟨v6, rfl, h6⟩, b6⟩
  replace h6 := h6.trR
  rw [show blankF aF4 2 1 = aF5 from rfl, a6_cut] at h6
  obtain ⟨A6, c6, rfl, -, -, -⟩ := id h6
  have H6 := Lib.hid (h6.alloc (.cells #[.slice A6 7 c6] 24))
  have bw6 := Lib.hid ((bw5.out.trans (b6.mono bw5.out.size)).alloc (by have := (bw5.out.trans (b6.mono bw5.out.size)).size; exact this) (.cells #[.slice A6 7 c6] 24))
  have HO6 := Lib.hid ((HO5.out.below b6).below ((Below.refl _ _).alloc (Nat.le_refl _) (.cells #[.slice A6 7 c6] 24)))
  clear h6 b6 hO5 H5 bw5 HO5 s5 f5 l5
  go_wp2_with fail
  obtain ⟨W6, hW6⟩ : ∃ W6, W6 = w6.alloc (.cells #[.slice A6 7 c6] 24) := ⟨_, rfl⟩
  have hs6 : w6.heap.size + 1 = W6.heap.size := by rw [hW6]; simp
  have hx6 : W6.cell? ⟨w6.heap.size, 0, none⟩ = some (.slice A6 7 c6) := by rw [hW6]; exact cell_one_new w6 _ 24 0 _ rfl
  rw [← hW6] at H6 bw6 HO6 ⊢
  rw [hs6]
  have hl6 : w6.heap.size < W6.heap.size := by omega
  have hb6a : Below W6.heap.size W6 (W6.alloc (.cells #[.int .i64 1, .int .i64 4] 3)) := (Below.refl _ _).alloc (Nat.le_refl _) _
  refine (same _ _ [1, 4] [1, 4] _ (HO6.out.below hb6a) (ints2 W6 1 4)).mono ?_
  rintro e w7 ⟨rfl, nd, hw7⟩
  rw [show sameB [1, 4] [1, 4] = true from rfl]
  have hb7 : Below W6.heap.size W6 w7 := by rw [hw7]; exact Below.quiet hb6a nd
  have hx7 := (hb7.cell (p := ⟨w6.heap.size, 0, none⟩) hl6).trans hx6
  have hl7 : w6.heap.size < w7.heap.size := Nat.lt_of_lt_of_le hl6 hb7.size
  have H7 := Lib.hid (H6.out.below hb7)
  have bw7 := Lib.hid (bw6.out.trans (hb7.mono bw6.out.size))
  clear hw7 hb6a hW6 hs6 hx6 hl6 H6 HO6 bw6
  go_wp2_with fail
  refine (members12 (.slice A6 7 c6) 7 aF5 w7 (hT.below hpos bw7.out) H7.out (by decide)).mono ?_
  rintro e w8 ⟨vm, rfl, hom, hb8⟩
  rw [a6_mem] at hom
  obtain ⟨Am, cm, rfl⟩ := hom.slice
  have bw8 := Lib.hid (bw7.out.trans (hb8.mono bw7.out.size))
  have HOM := Lib.hid hom.ints
  clear hom hb8 H7 bw7
  go_wp2_with fail
  have hb8a : Below w8.heap.size w8 (w8.alloc (.cells #[.int .i64 5, .int .i64 7] 3)) := (Below.refl _ _).alloc (Nat.le_refl _) _
  refine (same _ _ [5, 7] [5, 7] _ (HOM.out.below hb8a) (ints2 w8 5 7)).mono ?_
  rintro e w9 ⟨rfl, nd2, hw9⟩
  rw [show sameB [5, 7] [5, 7] = true from rfl]
  have bw9 := Lib.hid (show Below w.heap.size w w9 by rw [hw9]; exact Below.quiet (bw8.out.trans (hb8a.mono bw8.out.size)) nd2)
  obtain ⟨i0, hinf, hz0, hz1, hz2⟩ := info_parts info45
  have hmk := run_make (P := Tryz.prog) (w := w9) 22 95 i0 _ Tryz.underlying22 hinf hz0 .i64 .i64 2 2 (by decide) (Int.le_refl _) (by rw [hz2]; decide) (by decide)
  obtain ⟨WM, hWM⟩ : ∃ WM, WM = w9.alloc (.cells (madeCells (Value.agg #[.int .i64 0, .int .i64 0, .int .i64 0, .slice none 0 0]).cells ((2 : Int).toNat * i0.size)) 95) := ⟨_, rfl⟩
  rw [← hWM] at hmk
  have hbM := Lib.hid (show Below w.heap.size w WM by rw [hWM]; exact bw9.out.alloc bw9.out.size _)
  have hCh := check_odd (some ⟨w9.heap.size, 0, none⟩) 2 2 WM (by decide) (by decide) rfl
  clear hw9 hb8a HOM bw8 hWM hinf hz0 hz1 hz2
  go_wp2_with fail
  refine hCh.mono ?_
  rintro e w10 ⟨rfl, hb10⟩
  go_wp2_with fail
  go_ret
  exact ⟨rfl, hbM.out.trans (hb10.mono hbM.out.size)⟩
end Go.Proofs.YtnahhclflnjmcaaGreatDoor

/- Trees and members as arguments. -/
namespace Go.Proofs.YtnahhclflnjmcaaGreatDoor
open Go Go.RowKit Go.WideShapes
set_option linter.unusedVariables false
set_option linter.unusedSimpArgs false
set_option maxRecDepth 100000

section
variable {H : Type} {enc : TypeId × Value → H} {P : Program} {w : World}
/-- These cells read as something of type t. -/
def Opz (enc : TypeId × Value → H) (P : Program) (w : World) (t : TypeId) (cs : List Value) : Prop := ∃ n x, DataW.trod enc P w 0 (fun _ => true) true n t cs = some x
theorem Opz.int {t : TypeId} {k : IntKind} {cs : List Value} (hu : P.underlying t = some (.int k)) (h : Opz enc P w t cs) : ∃ n : Int, cs = [.int k n] ∧ (Lit.int k n).wf = true := by
  obtain ⟨n, x, h⟩ := h
  obtain ⟨m, e, _, hw⟩ := DataW.trod_int hu h
  exact ⟨m, e, hw⟩
theorem Opz.field {t : TypeId} {fs : Array Field} {cs : List Value} (hu : P.underlying t = some (.struct fs)) (h : Opz enc P w t cs) :
    cs.length = P.cellsOf t ∧ ∀ (i : Nat) (f : Field), fs[i]? = some f → Opz enc P w f.type ((cs.drop f.offset).take (P.cellsOf f.type)) := by
  obtain ⟨n, x, h⟩ := h
  obtain ⟨xs, m, _, rfl, hl, hlen, hf⟩ := DataW.trod_struct hu h
  refine ⟨hl, fun i f hi => ?_⟩
  have hx := hf i f hi
  have hi2 : i < fs.size := (Array.getElem?_eq_some_iff.1 hi).1
  have hg : xs[i]? = some xs[i] := List.getElem?_eq_getElem (by omega)
  exact ⟨m, xs[i], hx.trans hg⟩
theorem Opz.slice {t e : TypeId} {cs : List Value} (hu : P.underlying t = some (.slice e)) (h : Opz enc P w t cs) :
    ∃ A n c, cs = [.slice A n c] ∧ (A = none → n = 0 ∧ c = 0) ∧ ∀ a, A = some a → n ≤ c ∧ c ≤ maxLen ∧
      ∀ i, i < n → ∃ cs', cs'.length = P.cellsOf e ∧ (∀ j u, cs'[j]? = some u → w.cell? (a.add (i * P.cellsOf e + j)) = some u) ∧ Opz enc P w e cs' := by
  obtain ⟨m, x, h⟩ := h
  rcases DataW.trod_slice hu h with ⟨rfl, rfl⟩ | ⟨a, len, cap, elems, rest, m', _, rfl, rfl, _, hl, hm, hlen, hel, hsp, _⟩
  · exact ⟨none, 0, 0, rfl, fun _ => ⟨rfl, rfl⟩, fun a h => by cases h⟩
  · refine ⟨some a, len, cap, rfl, (fun h => by cases h), fun a' ha => ?_⟩
    injection ha with ha
    subst ha
    refine ⟨hl, hm, fun i hi => ?_⟩
    have h1 := hel i hi
    rw [List.getElem?_eq_getElem (by omega)] at h1
    obtain ⟨cs', h2, h3⟩ := Option.bind_eq_some_iff.1 h1
    obtain ⟨_, h4, h5⟩ := World.cells?_some h2
    refine ⟨cs', h4, fun j u hj => ?_, ⟨m', _, h3⟩⟩
    have hj2 := (List.getElem?_eq_some_iff.1 hj).1
    rw [← Go.Deep.add_add, h5 j (by omega), hj]
end
theorem Opz.arg {H : Type} {enc : TypeId × Value → H} {P : Program} {w : World} {t : TypeId} {v : Value} {d : DataW H} {p : List MemPlace} (h : DataW.Trod enc P w 0 (fun _ => true) true t v d p) : Opz enc P w t v.cells.toList := by
  obtain ⟨n, hn⟩ := h
  exact ⟨n, _, hn⟩
theorem cof3 : Tryz.prog.cellsOf 3 = 1 := by kernel_rfl
theorem cof45 : Tryz.prog.cellsOf 95 = 4 := by kernel_rfl
theorem cof26 : Tryz.prog.cellsOf 75 = 3 := by kernel_rfl
theorem cof24 : Tryz.prog.cellsOf 24 = 1 := by kernel_rfl
theorem cof32 : Tryz.prog.cellsOf 31 = 1 := by kernel_rfl
theorem cof22 : Tryz.prog.cellsOf 22 = 1 := by kernel_rfl
theorem open_ints {H : Type} {enc : TypeId × Value → H} {w : World} {cs : List Value} (h : Opz enc Tryz.prog w 31 cs) : ∃ A c l, cs = [.slice A l.length c] ∧ Ints w (.slice A l.length c) l := by
  obtain ⟨A, n, c, rfl, h1, h2⟩ := h.slice Tryz.underlying31
  cases A with
  | none =>
    obtain ⟨rfl, rfl⟩ := h1 rfl
    exact ⟨none, 0, [], rfl, Ints.nil w⟩
  | some a =>
    obtain ⟨q1, q2, q3⟩ := h2 a rfl
    rw [cof3] at q3
    have key : ∀ i, ∃ x : Int, i < n → w.cell? (a.add i) = some (.int .i64 x) := fun i => by
      by_cases hi : i < n
      · obtain ⟨cs', h3, h4, h5⟩ := q3 i hi
        obtain ⟨x, rfl, _⟩ := h5.int Tryz.underlying3
        exact ⟨x, fun _ => by have := h4 0 _ rfl; rw [Nat.mul_one, Nat.add_zero] at this; exact this⟩
      · exact ⟨0, fun h => absurd h hi⟩
    obtain ⟨f, hf⟩ := Classical.axiomOfChoice key
    have hlen : ((List.range n).map f).length = n := by simp
    refine ⟨some a, c, (List.range n).map f, by rw [hlen], ⟨some a, c, rfl, by rw [hlen]; exact q1, q2, fun h0 => ?_⟩⟩
    rw [hlen] at h0
    have c0 := hf 0 h0
    have hs := World.cell?_spot c0
    obtain ⟨b, o, q⟩ := a
    have hs : q = none := by simpa [Addr.add] using hs
    subst hs
    refine ⟨b, o, rfl, fun i x hi => ?_⟩
    have hil : i < n := by have := (List.getElem?_eq_some_iff.1 hi).1; rw [hlen] at this; exact this
    rw [List.getElem?_map, List.getElem?_range hil] at hi
    have := hf i hil
    rw [Addr.add_lit] at this
    rw [this, ← Option.some.inj hi]
theorem open_node {H : Type} {enc : TypeId × Value → H} {w : World} {cs : List Value} (h : Opz enc Tryz.prog w 95 cs) : ∃ (a : Node) (A : Option Addr) (c : Nat), cs = [.int .i64 a.pub, .int .i64 a.mem, .int .i64 a.ep, .slice A a.un.length c] ∧ Ints w (.slice A a.un.length c) a.un ∧ (Lit.int .i64 a.mem).wf = true := by
  obtain ⟨h0, hf⟩ := h.field Tryz.underlying95
  rw [cof45] at h0
  obtain ⟨x0, x1, x2, x3, rfl⟩ : ∃ a b c d, cs = [a, b, c, d] := by
    match cs, h0 with
    | [a, b, c, d], _ => exact ⟨a, b, c, d, rfl⟩
  have f0 : Opz enc Tryz.prog w 3 [x0] := by have h := hf 0 _ rfl; exact h
  have f1 : Opz enc Tryz.prog w 3 [x1] := by have h := hf 1 _ rfl; exact h
  have f2 : Opz enc Tryz.prog w 3 [x2] := by have h := hf 2 _ rfl; exact h
  have f3 : Opz enc Tryz.prog w 31 [x3] := by have h := hf 3 _ rfl; exact h
  obtain ⟨p, e0, _⟩ := f0.int Tryz.underlying3
  obtain ⟨m, e1, w1⟩ := f1.int Tryz.underlying3
  obtain ⟨e, e2, _⟩ := f2.int Tryz.underlying3
  obtain ⟨A, c, l, e3, hI⟩ := open_ints f3
  refine ⟨⟨p, m, e, l⟩, A, c, ?_, hI, w1⟩
  simp at e0 e1 e2 e3
  rw [e0, e1, e2, e3]
theorem open_tree {H : Type} {enc : TypeId × Value → H} {w : World} {v : Value} {d : DataW H} {p : List MemPlace} {base : Nat} {r : Reach} (hv : Value.okWide Tryz.prog w r base 24 v) (h : DataW.Trod enc Tryz.prog w 0 (fun _ => true) true 24 v d p) : ∃ vs n F, v = .agg #[vs] ∧ TrR w vs n F := by
  obtain ⟨cs, rfl, hcs⟩ := okWide_struct Tryz.underlying24 hv
  have ho := Opz.arg h
  obtain ⟨h0, hf⟩ := ho.field Tryz.underlying24
  obtain ⟨x, rfl⟩ : ∃ x, cs = #[x] := by
    rw [cof24] at hcs
    match cs, hcs with
    | ⟨[x]⟩, _ => exact ⟨x, rfl⟩
  have f0 : Opz enc Tryz.prog w 22 [x] := by have h := hf 0 _ rfl; exact h
  refine ⟨x, ?_⟩
  obtain ⟨A, n, c, e, h1, h2⟩ := f0.slice Tryz.underlying22
  obtain rfl : x = .slice A n c := by simpa using e
  cases A with
  | none =>
    obtain ⟨rfl, rfl⟩ := h1 rfl
    exact ⟨0, fun _ => zeroN, rfl, TrR.nil _ _⟩
  | some a =>
    obtain ⟨q1, q2, q3⟩ := h2 a rfl
    rw [cof45] at q3
    have key : ∀ i, ∃ y : Node, i < n → ∃ (A : Option Addr) (c : Nat), w.cell? (a.add (i * 4)) = some (.int .i64 y.pub) ∧ w.cell? (a.add (i * 4 + 1)) = some (.int .i64 y.mem) ∧ w.cell? (a.add (i * 4 + 2)) = some (.int .i64 y.ep) ∧ w.cell? (a.add (i * 4 + 3)) = some (.slice A y.un.length c) ∧ Ints w (.slice A y.un.length c) y.un ∧ (Lit.int .i64 y.mem).wf = true := fun i => by
      by_cases hi : i < n
      · obtain ⟨cs', h3, h4, h5⟩ := q3 i hi
        obtain ⟨y, A, c, rfl, hI, hw⟩ := open_node h5
        exact ⟨y, fun _ => ⟨A, c, h4 0 _ rfl, h4 1 _ rfl, h4 2 _ rfl, h4 3 _ rfl, hI, hw⟩⟩
      · exact ⟨zeroN, fun h => absurd h hi⟩
    obtain ⟨F, hF⟩ := Classical.axiomOfChoice key
    refine ⟨n, F, rfl, some a, c, rfl, q1, q2, fun hn => ?_⟩
    obtain ⟨_, _, c0, _⟩ := hF 0 hn
    have hs := World.cell?_spot c0
    obtain ⟨b, o, q⟩ := a
    have hs : q = none := by simpa [Addr.add] using hs
    subst hs
    refine ⟨b, o, rfl, fun y hy => ?_⟩
    obtain ⟨A, c', d0, d1, d2, d3, hI, hw⟩ := hF y hy
    rw [Addr.add_lit] at d0 d1 d2 d3
    exact ⟨d0, by rw [Nat.add_assoc]; exact d1, by rw [Nat.add_assoc]; exact d2, ⟨A, c', by rw [Nat.add_assoc]; exact d3, hI⟩, hw⟩
theorem open_add {H : Type} {enc : TypeId × Value → H} {w : World} {v : Value} {d : DataW H} {p : List MemPlace} {base : Nat} {r : Reach} (hv : Value.okWide Tryz.prog w r base 75 v) (h : DataW.Trod enc Tryz.prog w 0 (fun _ => true) true 75 v d p) : ∃ a : Addx, v = a.v ∧ (Lit.int .i64 a.mem).wf = true := by
  obtain ⟨cs, rfl, hcs⟩ := okWide_struct Tryz.underlying75 hv
  have ho := Opz.arg h
  obtain ⟨h0, hf⟩ := ho.field Tryz.underlying75
  obtain ⟨x0, x1, x2, rfl⟩ : ∃ a b c, cs = #[a, b, c] := by
    rw [cof26] at hcs
    match cs, hcs with
    | ⟨[a, b, c]⟩, _ => exact ⟨a, b, c, rfl⟩
  have f0 : Opz enc Tryz.prog w 3 [x0] := by have h := hf 0 _ rfl; exact h
  have f1 : Opz enc Tryz.prog w 3 [x1] := by have h := hf 1 _ rfl; exact h
  have f2 : Opz enc Tryz.prog w 3 [x2] := by have h := hf 2 _ rfl; exact h
  obtain ⟨m, e0, w0⟩ := f0.int Tryz.underlying3
  obtain ⟨e, e1, _⟩ := f1.int Tryz.underlying3
  obtain ⟨q, e2, _⟩ := f2.int Tryz.underlying3
  obtain rfl : x0 = .int .i64 m := by simpa using e0
  obtain rfl : x1 = .int .i64 e := by simpa using e1
  obtain rfl : x2 = .int .i64 q := by simpa using e2
  exact ⟨⟨m, e, q⟩, rfl, w0⟩
end Go.Proofs.YtnahhclflnjmcaaGreatDoor
