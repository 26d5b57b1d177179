import Derived.Test.YtnahhclflnjmcaaGreatDoorA2
import Derived.Test.YtnahhclflnjmcaaGreatDoorA3
import Derived.Test.YtnahhclflnjmcaaGreatDoorB2
import Derived.BigQuiet
import Derived.Deep.RegionHeld3
/- TreeSize bounds the lists, too. -/
namespace Go.Proofs.YtnahhclflnjmcaaGreatDoor
open Go Go.RowKit
set_option linter.unusedVariables false
set_option linter.unusedSimpArgs false
set_option maxRecDepth 100000

set_option maxHeartbeats 2000000 in
set_option maxRecDepth 100000 in
/-- TreeSize: where it is within the bound, there are no more nodes than that, and no longer lists. -/
theorem size9u (v : Value) (n : Nat) (F : Nat → Node) (w : World) (hR : TrR w v n F) (hub : ∀ y, y < n → (F y).un.length ≤ 17592186044416) :
    Calls Tryz.prog 8 #[.agg #[v]] w fun e w' => ∃ s : Int, e = .returned (.int .i64 s) ∧ (s ≤ 262144 → n ≤ 262144 ∧ ∀ y, y < n → (F y).un.length ≤ 262144) ∧ Below w.heap.size w w' := by
  have hn := hR.n_le
  obtain ⟨A, c, rfl, -, -, h3⟩ := hR
  have H3 := Lib.hid h3
  have HUB := Lib.hid hub
  clear h3 hub
  go_enter Tryz.func8, Tryz.ntmps8
  go_wp2_with fail
  go_loopg [3, 4] (n + 1) (fun g v3 v4 wr => ∃ (i : Nat) (s : Int), i ≤ n ∧ i + g = n + 1 ∧ v4 = .int .i64 i ∧ v3 = .int .i64 s ∧ ((262144 < n → s = n) ∧ (n : Int) ≤ s ∧ (s ≤ 262144 → ∀ y, y < i → (F y).un.length ≤ 262144)) ∧ wr = w.alloc (.cells #[.slice A n c] 24))
  case atStart => exact ⟨0, n, by omega, by omega, rfl, rfl, ⟨fun _ => rfl, by omega, fun _ y hy => by omega⟩, rfl⟩
  case round =>
    obtain ⟨i, s, hi, hg, rfl, rfl, hs, rfl⟩ := hrel
    have HG := Lib.hid (And.intro hg hs)
    clear hg
    by_cases hlt : i < n
    · by_cases hsm : s ≤ 262144
      · obtain ⟨b, o, rfl, hN⟩ := H3.out (by omega)
        obtain ⟨c0, c1, c2, ⟨A', cc, c3, hIn⟩, hr⟩ := hN i hlt
        have hb0 : b < w.heap.size := World.block_lt_of_cell? _ _ c0
        have hk : (F i).un.length ≤ 17592186044416 := HUB.out i hlt
        have t1 : decide (s ≤ 262144) = true := decide_eq_true hsm
        have q1 : (0 : Int) ≤ (i : Int) := by omega
        have q2 : (i : Int) < n := by omega
        clear hIn c0 c1 c2
        have HK := Lib.hid (show ∀ k : Nat, (F i).un.length = k → k ≤ 262144 → ∀ y, y < i + 1 → (F y).un.length ≤ 262144 from fun k h1 h2 y hy => by
          by_cases e : y = i
          · rw [e, h1]; exact h2
          · exact hs.2.2 hsm y (by omega))
        have hs2 := hs.2.1
        have HS := Lib.hid (show n ≤ 262144 by by_cases h : n ≤ 262144; exact h; have := hs.1 (by omega); omega)
        clear hs
        generalize hkk : (F i).un.length = k at hk c3 ⊢
        have HKK := Lib.hid (HK.out k hkk)
        clear HK HUB
        have hw : wrap64 (s + (k : Int)) = s + k := by unfold wrap64; omega
        have HW := Lib.hid hw
        clear hkk hw
        go_wp2_with fail
        go_roundg (gk - 1)
        case rel => exact ⟨i + 1, _, by omega, by have := HG.out.1; omega, by go_num, rfl, ⟨fun h => by have := HS.out; omega, by first | omega | (rw [HW.out]; omega), fun h => HKK.out (by first | omega | (rw [HW.out] at h; omega))⟩, rfl⟩
        case measure => have := HG.out.1; omega
      · have t1 : decide (s ≤ 262144) = false := decide_eq_false hsm
        go_wp2_with fail
        go_ret
        exact ⟨s, rfl, fun h => by first | omega | exact ⟨by have := HG.out.2.2.1; omega, fun y hy => HG.out.2.2.2 h y (by omega)⟩, (Below.refl _ _).alloc (Nat.le_refl _) _⟩
    · have t0 : decide ((i : Int) < (n : Int)) = false := decide_eq_false (by omega)
      go_wp2_with fail
      go_ret
      exact ⟨s, rfl, fun h => by first | omega | exact ⟨by have := HG.out.2.2.1; omega, fun y hy => HG.out.2.2.2 h y (by omega)⟩, (Below.refl _ _).alloc (Nat.le_refl _) _⟩
end Go.Proofs.YtnahhclflnjmcaaGreatDoor

/- TwinNumbers. -/
namespace Go.Proofs.YtnahhclflnjmcaaGreatDoor
open Go Go.RowKit
set_option linter.unusedVariables false
set_option linter.unusedSimpArgs false
set_option maxRecDepth 100000

/-- What stands in a twin's row: the list, then marks. -/
def twV (l : List Int) (j : Nat) : Value := .int .i64 (if h : j < l.length then l[j] else -1000 - (j : Int))
theorem twV_at {l : List Int} {j : Nat} {x : Int} (h : l[j]? = some x) : twV l j = .int .i64 x := by
  obtain ⟨h1, h2⟩ := List.getElem?_eq_some_iff.1 h
  unfold twV
  rw [dif_pos h1, h2]
theorem twV_mark {l : List Int} {j : Nat} (h : l.length ≤ j) : twV l j = .int .i64 (-1000 - (j : Int)) := by
  unfold twV
  rw [dif_neg (by omega)]
theorem mark165 (n : Nat) (h : n ≤ 4000000) (w : World) : Calls Tryz.prog 165 #[.int .i64 n] w fun e w' => e = .returned (.int .i64 (-1000 - (n : Int))) ∧ w = w' := by
  go_enter Tryz.func165, Tryz.ntmps165
  go_wp2
  go_ret
  exact ⟨rfl, rfl⟩
/-- A twin of a list of numbers: a block of its own, two places behind. -/
structure TwN (w : World) (l : List Int) (e : Ending) (w' : World) : Prop where
  out : e = .returned (.slice (some ⟨w.heap.size, 0, none⟩) l.length (l.length + 2))
  row : w'.rowIs w.heap.size 3 (l.length + 2) (twV l)
  bel : Below w.heap.size w w'
theorem tw_copy {A : Option Addr} {N c : Nat} {l : List Int} {w W1 : World} {f : Nat → Value} (n1 : W1.rowIs w.heap.size 3 (N + 2) f) (hl : l.length = N) (h : Ints W1 (.slice A N c) l) :
    (Builtin.copy_ #[31, 31] 3 #[.slice (some ⟨w.heap.size, 0, none⟩) N (N + 2), .slice A N c]).run Tryz.prog W1 = .ok (goInt N) (W1.setCells w.heap.size 0 (l.map (Value.int .i64))) := by
  obtain ⟨A', c', e, -, -, h3⟩ := h
  obtain ⟨rfl, -, rfl⟩ : A = A' ∧ N = l.length ∧ c = c' := by simpa using e
  have hsz : (Tryz.prog.info? 3).map (·.size) = some 1 := by
    obtain ⟨i0, hi0, h0, h1, h2⟩ := info_parts info3
    rw [hi0]; simp [h1]
  by_cases h0 : N = 0
  · subst h0
    obtain rfl : l = [] := List.length_eq_zero_iff.1 hl
    exact run_copy_zero W1 31 31 3 3 w.heap.size 0 0 2 A c Tryz.underlying31 (by rw [hsz]; rfl)
  · obtain ⟨b, o, rfl, h4⟩ := h3 (by omega)
    have := run_copy_part (P := Tryz.prog) W1 31 31 3 3 1 w.heap.size 0 N (N + 2) ⟨b, o, none⟩ N c (l.map (Value.int .i64)) Tryz.underlying31 hsz (by rw [List.length_map, hl, Nat.mul_one]; exact (Nat.min_self N).symm) (fun j v hj => by
      rw [List.getElem?_map] at hj
      obtain ⟨x, hx, rfl⟩ := Option.map_eq_some_iff.1 hj
      rw [Addr.add_lit]
      exact h4 j x hx) (fun j hj => by rw [List.length_map] at hj; rw [Nat.zero_add, n1.cell (by omega)]; rfl) (fun j hj => n1.frozen _) (fun v hv => by obtain ⟨x, _, rfl⟩ := List.mem_map.1 hv; rfl)
    rwa [show Nat.min N N = N from Nat.min_self N] at this
set_option maxHeartbeats 4000000 in
theorem twinNums (v : Value) (l : List Int) (w : World) (h : Ints w v l) (hs : l.length ≤ 1000000) :
    Calls Tryz.prog 31 #[v] w fun e w' => TwN w l e w' := by
  obtain ⟨A, c, rfl, -, -, -⟩ := id h
  obtain ⟨N, hN⟩ : ∃ N, N = l.length := ⟨_, rfl⟩
  obtain ⟨i0, hinf, hz0, hz1, hz2⟩ := info_parts info3
  have hmk := run_make (P := Tryz.prog) w 31 3 i0 _ Tryz.underlying31 hinf hz0 .i64 .i64 (N : Int) ((N : Int) + 2) (by omega) (by omega) (by rw [hz2]; omega) (by omega)
  rw [show ((N : Int)).toNat = N by omega, show ((N : Int) + 2).toNat = N + 2 by omega, hz1, Nat.mul_one] at hmk
  obtain ⟨W1, hW1⟩ : ∃ W, W = w.alloc (.cells (madeCells #[.int .i64 0] (N + 2)) 3) := ⟨_, rfl⟩
  have n1 : W1.rowIs w.heap.size 3 (N + 2) (fun _ => .int .i64 0) := by rw [hW1]; exact World.rowIs_made w _ _ _
  have hbW : Below w.heap.size w W1 := by rw [hW1]; exact (Below.refl _ _).alloc (Nat.le_refl _) _
  have hcp := tw_copy (w := w) (A := A) (c := c) (l := l) n1 hN.symm (by rw [hN]; exact h.below hbW)
  have hrow := rowIs_setCells (l.map (Value.int .i64)) 0 _ _ n1
  have HT : Hid (∃ f, (W1.setCells w.heap.size 0 (l.map (Value.int .i64))).rowIs w.heap.size 3 (N + 2) f ∧ (∀ j, j < N → f j = twV l j) ∧ Below w.heap.size w (W1.setCells w.heap.size 0 (l.map (Value.int .i64)))) :=
    Lib.hid ⟨_, hrow, fun j hj => by
      rw [dif_pos (by simp; omega)]
      simp only [Nat.sub_zero, List.getElem_map]
      exact (twV_at (List.getElem?_eq_getElem (by omega))).symm, below_setCells (Nat.le_refl _) _ _ _ hbW⟩
  obtain ⟨W2, hW2⟩ : ∃ W, W = W1.setCells w.heap.size 0 (l.map (Value.int .i64)) := ⟨_, rfl⟩
  rw [← hW2] at HT hcp
  rw [hW1] at hcp
  rw [← hN]
  have HNN := Lib.hid hN
  have hs' : N ≤ 1000000 := by omega
  have hi1 : (0 : Int) ≤ (N : Int) := by omega
  have hw2 : IntKind.i64.wrap ((N : Int) + 2) = (N : Int) + 2 := by
    have := i64_small (N + 2) (by omega)
    rw [show ((N + 2 : Nat) : Int) = (N : Int) + 2 by omega] at this
    exact this
  clear h hs hinf hz0 hz1 hz2 n1 hbW hrow hW2 hW1 hN
  go_enter Tryz.func31, Tryz.ntmps31
  go_wp2_with fail
  go_loopg [5] 3 (fun k v5 wr => ∃ (i : Nat) (f : Nat → Value), v5 = .int .i64 (i : Int) ∧ i + k = N + 3 ∧ N ≤ i ∧ i ≤ N + 2 ∧ wr.rowIs w.heap.size 3 (N + 2) f ∧ (∀ j, j < i → f j = twV l j) ∧ Below w.heap.size w wr)
  case atStart =>
    obtain ⟨f, h1, h2, h3⟩ := HT.out
    exact ⟨N, f, rfl, rfl, Nat.le_refl _, by omega, h1, h2, h3⟩
  case round =>
    clear HT
    obtain ⟨i, f, rfl, hik, hNi, hiN, hr, hf, hB⟩ := hrel
    have HI := Lib.hid (And.intro hik (And.intro hr (And.intro hf hB)))
    by_cases hlt : i < N + 2
    · have c0 := hr.cell hlt
      have f1 := hr.frozen i
      have M := mark165 i (by omega)
      have i1 : (0 : Int) ≤ (i : Int) := by omega
      have i2 : (i : Int) < (N : Int) + 2 := by omega
      have HL := Lib.hid hlt
      clear hik hr hf hB hlt
      go_wp2_with (go_at_call 165; with_reducible refine (M _).mono ?_; rintro e w' ⟨rfl, rfl⟩)
      go_roundg (gk - 1)
      case measure => have := HI.out.1; omega
      case rel =>
        obtain ⟨h1, h2, h3, h4⟩ := HI.out
        refine ⟨i + 1, _, by go_num, by omega, by omega, by have := HL.out; omega, h2.set i _, fun j hj => ?_, h4.setCell (Nat.le_refl _) _⟩
        by_cases e : j = i
        · rw [if_pos e, e, twV_mark (by have := HNN.out; omega)]
        · rw [if_neg e]; exact h3 j (by omega)
    · obtain rfl : i = N + 2 := by omega
      clear hik hr hf hB hlt
      go_wp2_with fail
      go_ret
      obtain ⟨h1, h2, h3, h4⟩ := HI.out
      refine ⟨by rw [← HNN.out]; rfl, ?_, h4⟩
      rw [← HNN.out]
      exact h2.congr fun j hj => h3 j hj
end Go.Proofs.YtnahhclflnjmcaaGreatDoor

/- LeftNumbers. -/
namespace Go.Proofs.YtnahhclflnjmcaaGreatDoor
open Go Go.RowKit
set_option linter.unusedVariables false
set_option linter.unusedSimpArgs false
set_option maxRecDepth 100000

theorem is167 (n : Nat) (h : n ≤ 4000000) (w : World) : Calls Tryz.prog 167 #[.int .i64 (-1000 - (n : Int)), .int .i64 n] w fun e w' => e = .returned (.bool true) ∧ w = w' := by
  have M := fun w => mark165 n h w
  go_enter Tryz.func167, Tryz.ntmps167
  go_wp2_with (go_at_call 165; refine (M _).mono ?_; rintro e w' ⟨rfl, rfl⟩)
  go_ret
  exact ⟨by simp, rfl⟩
theorem sameB_self' (l : List Int) : sameB l l = true := by simp [sameB]
theorem row_ints {w : World} {b c : Nat} {l : List Int} (h : w.rowIs b 3 (l.length + 2) (twV l)) (hc : l.length + 2 = c) (hm : l.length + 2 ≤ maxLen) : Ints w (.slice (some ⟨b, 0, none⟩) l.length c) l :=
  ⟨_, _, rfl, by omega, by omega, fun h0 => ⟨b, 0, rfl, fun i x hi => by
    have hl := (List.getElem?_eq_some_iff.1 hi).1
    rw [Nat.zero_add, h.cell (by omega), twV_at hi]⟩⟩
set_option maxHeartbeats 4000000 in
theorem leftNums (b c : Nat) (A : Option Addr) (l : List Int) (w : World) (hr : w.rowIs b 3 (l.length + 2) (twV l)) (hx : Ints w (.slice A l.length c) l) (hs : l.length ≤ 1000000) :
    Calls Tryz.prog 34 #[.slice (some ⟨b, 0, none⟩) l.length (l.length + 2), .slice A l.length c] w fun e w' => e = .returned (.bool true) ∧ ∃ n, w' = w.drewN n := by
  have hS := same (.slice (some ⟨b, 0, none⟩) l.length (l.length + 2)) (.slice A l.length c) l l w (row_ints hr rfl (by unfold maxLen; omega)) hx
  rw [sameB_self'] at hS
  obtain ⟨N, hN⟩ : ∃ N, N = l.length := ⟨_, rfl⟩
  rw [← hN] at hS hr ⊢
  have HR := Lib.hid hr
  have HNN := Lib.hid hN
  have hs' : N ≤ 1000000 := by omega
  have hw2 : IntKind.i64.wrap ((N : Int) + 2) = (N : Int) + 2 := by
    have := i64_small (N + 2) (by omega)
    rw [show ((N + 2 : Nat) : Int) = (N : Int) + 2 by omega] at this
    exact this
  have hi1 : (0 : Int) ≤ (N : Int) := by omega
  clear hr hx hs hN
  go_enter Tryz.func34, Tryz.ntmps34
  go_wp2_with fail
  go_loopg [6] 3 (fun k v6 wr => ∃ i : Nat, v6 = .int .i64 (i : Int) ∧ i + k = N + 3 ∧ N ≤ i ∧ i ≤ N + 2 ∧ wr = w)
  case atStart => exact ⟨N, rfl, rfl, Nat.le_refl _, by omega, rfl⟩
  case round =>
    obtain ⟨i, rfl, hik, hNi, hiN, rfl⟩ := hrel
    have HI := Lib.hid hik
    clear hik
    by_cases hlt : i < N + 2
    · have c0 := HR.out.cell hlt
      rw [twV_mark (by have := HNN.out; omega)] at c0
      have hbl := World.block_lt_of_cell? _ _ c0
      have M := is167 i (by omega)
      have i1 : (0 : Int) ≤ (i : Int) := by omega
      have i2 : (i : Int) < (N : Int) + 2 := by omega
      have HL := Lib.hid hlt
      generalize -1000 - (i : Int) = mk at *
      go_wp2_with (go_at_call 167; with_reducible refine (M _).mono ?_; rintro e w' ⟨rfl, rfl⟩)
      go_roundg (gk - 1)
      case measure => have := HI.out; omega
      case rel => exact ⟨i + 1, by go_num, by have := HI.out; omega, by omega, by omega, rfl⟩
    · obtain rfl : i = N + 2 := by omega
      go_wp2_with fail
      refine hS.mono ?_
      rintro e w' ⟨rfl, nd, rfl⟩
      go_wp2_with fail
      go_ret
      exact ⟨rfl, nd, rfl⟩
end Go.Proofs.YtnahhclflnjmcaaGreatDoor

/- TwinNode, markNode, LeftNode, isNode. -/
namespace Go.Proofs.YtnahhclflnjmcaaGreatDoor
open Go Go.RowKit
set_option linter.unusedVariables false
set_option linter.unusedSimpArgs false
set_option maxRecDepth 100000

/-- A twin of a node: its list's row is the block behind two boxes. -/
structure TwNd (w : World) (a : Node) (e : Ending) (w' : World) : Prop where
  out : e = .returned (.agg #[.int .i64 a.pub, .int .i64 a.mem, .int .i64 a.ep, .slice (some ⟨w.heap.size + 2, 0, none⟩) a.un.length (a.un.length + 2)])
  row : w'.rowIs (w.heap.size + 2) 3 (a.un.length + 2) (twV a.un)
  bel : Below w.heap.size w w'
set_option maxHeartbeats 4000000 in
theorem twinNode (a : Node) (A : Option Addr) (c : Nat) (w : World) (h : Ints w (.slice A a.un.length c) a.un) (hs : a.un.length ≤ 1000000) :
    Calls Tryz.prog 178 #[.agg #[.int .i64 a.pub, .int .i64 a.mem, .int .i64 a.ep, .slice A a.un.length c]] w fun e w' => TwNd w a e w' := by
  obtain ⟨W0, hW0⟩ : ∃ W0, W0 = ((w.alloc (.cells #[.int .i64 a.pub, .int .i64 a.mem, .int .i64 a.ep, .slice A a.un.length c] 95)).alloc (.cells #[.int .i64 0, .int .i64 0, .int .i64 0, .slice none 0 0] 95)) := ⟨_, rfl⟩
  have h0 : W0.heap[w.heap.size]? = some (.cells #[.int .i64 a.pub, .int .i64 a.mem, .int .i64 a.ep, .slice A a.un.length c] 95 (0, 0)) := by
    rw [hW0, Below.heap_alloc _ _ _ (by simp)]
    exact heap_alloc_new _ _
  have h1 : W0.heap[w.heap.size + 1]? = some (.cells #[.int .i64 0, .int .i64 0, .int .i64 0, .slice none 0 0] 95 (0, 0)) := by
    rw [hW0]
    have := heap_alloc_new (w.alloc (.cells #[.int .i64 a.pub, .int .i64 a.mem, .int .i64 a.ep, .slice A a.un.length c] 95)) (.cells #[.int .i64 0, .int .i64 0, .int .i64 0, .slice none 0 0] 95)
    rw [show (w.alloc (.cells #[.int .i64 a.pub, .int .i64 a.mem, .int .i64 a.ep, .slice A a.un.length c] 95)).heap.size = w.heap.size + 1 by simp] at this
    exact this
  have hb0 : Below w.heap.size w W0 := by rw [hW0]; exact ((Below.refl _ _).alloc (Nat.le_refl _) _).alloc (by simp) _
  have hsz : W0.heap.size = w.heap.size + 2 := by rw [hW0]; simp
  have M := twinNums (.slice A a.un.length c) a.un W0 (h.below hb0) hs
  have HB := Lib.hid (And.intro hb0 hsz)
  have H0 := Lib.hid (And.intro h0 h1)
  clear h hb0 hsz h0 h1
  go_enter Tryz.func178, Tryz.ntmps178
  go_wp2_with fail
  rw [← hW0]
  clear hW0
  refine M.mono ?_
  rintro e w1 ⟨rfl, hrow, hb1⟩
  have hl : w.heap.size + 2 ≤ W0.heap.size := by rw [HB.out.2]; exact Nat.le_refl _
  have g0 := (hb1.block w.heap.size (by omega)).trans H0.out.1
  have g1 := (hb1.block (w.heap.size + 1) (by omega)).trans H0.out.2
  have c0 : w1.cell? ⟨w.heap.size, 0, none⟩ = some (.int .i64 a.pub) := by rw [cell_of_row _ _ _ _ _ _ g0]; rfl
  have c1 : w1.cell? ⟨w.heap.size, 1, none⟩ = some (.int .i64 a.mem) := by rw [cell_of_row _ _ _ _ _ _ g0]; rfl
  have c2 : w1.cell? ⟨w.heap.size, 2, none⟩ = some (.int .i64 a.ep) := by rw [cell_of_row _ _ _ _ _ _ g0]; rfl
  have c3 : w1.cell? ⟨w.heap.size, 3, none⟩ = some (.slice A a.un.length c) := by rw [cell_of_row _ _ _ _ _ _ g0]; rfl
  have cf : ∀ o, w1.frozen? ⟨w.heap.size, o, none⟩ = false := fun o => frozen_of_row _ _ _ _ _ g0
  have df : ∀ o, w1.frozen? ⟨w.heap.size + 1, o, none⟩ = false := fun o => frozen_of_row _ _ _ _ _ g1
  have d0 : w1.cell? ⟨w.heap.size + 1, 0, none⟩ = some (.int .i64 0) := by rw [cell_of_row _ _ _ _ _ _ g1]; rfl
  have d1 : w1.cell? ⟨w.heap.size + 1, 1, none⟩ = some (.int .i64 0) := by rw [cell_of_row _ _ _ _ _ _ g1]; rfl
  have d2 : w1.cell? ⟨w.heap.size + 1, 2, none⟩ = some (.int .i64 0) := by rw [cell_of_row _ _ _ _ _ _ g1]; rfl
  have d3 : w1.cell? ⟨w.heap.size + 1, 3, none⟩ = some (.slice none 0 0) := by rw [cell_of_row _ _ _ _ _ _ g1]; rfl
  have cf3 := cf 3
  have df0 := df 0
  have df1 := df 1
  have df2 := df 2
  have df3 := df 3
  have s0 : w.heap.size < w1.heap.size := World.block_lt_of_cell? _ _ c0
  have s1 : w.heap.size + 1 < w1.heap.size := World.block_lt_of_cell? _ _ d0
  have HRow := Lib.hid hrow
  have HB1 := Lib.hid (And.intro hb1 (And.intro g0 g1))
  clear hrow hb1 g0 g1 cf df M hl
  rw [HB.out.2]
  go_wp2_with fail
  obtain ⟨hb1, g0, g1⟩ := HB1.out
  generalize hu : Value.slice (some ⟨w.heap.size + 2, 0, none⟩) a.un.length (a.un.length + 2) = u at *
  have k0 : (w1.setCell ⟨w.heap.size, 3, none⟩ u).heap[w.heap.size + 1]? = some (.cells #[.int .i64 0, .int .i64 0, .int .i64 0, .slice none 0 0] 95 (0, 0)) := (heap_setCell_other w1 ⟨w.heap.size, 3, none⟩ (w.heap.size + 1) u (by show w.heap.size + 1 ≠ w.heap.size; omega)).trans g1
  have k1 := heap_setCell_same _ _ 0 _ _ (Value.int .i64 a.pub) k0
  have k2 := heap_setCell_same _ _ 1 _ _ (Value.int .i64 a.mem) k1
  have k3 := heap_setCell_same _ _ 2 _ _ (Value.int .i64 a.ep) k2
  have k4 := heap_setCell_same _ _ 3 _ _ u k3
  simp at k4
  obtain ⟨WF, hWF⟩ : ∃ WF, WF = (((((w1.setCell ⟨w.heap.size, 3, none⟩ u).setCell ⟨w.heap.size + 1, 0, none⟩ (.int .i64 a.pub)).setCell ⟨w.heap.size + 1, 1, none⟩ (.int .i64 a.mem)).setCell ⟨w.heap.size + 1, 2, none⟩ (.int .i64 a.ep)).setCell ⟨w.heap.size + 1, 3, none⟩ u) := ⟨_, rfl⟩
  rw [← hWF] at k4 ⊢
  have q0 : WF.cell? ⟨w.heap.size + 1, 0, none⟩ = some (.int .i64 a.pub) := by rw [cell_of_row _ _ _ _ _ _ k4]; rfl
  have q1 : WF.cell? ⟨w.heap.size + 1, 1, none⟩ = some (.int .i64 a.mem) := by rw [cell_of_row _ _ _ _ _ _ k4]; rfl
  have q2 : WF.cell? ⟨w.heap.size + 1, 2, none⟩ = some (.int .i64 a.ep) := by rw [cell_of_row _ _ _ _ _ _ k4]; rfl
  have q3 : WF.cell? ⟨w.heap.size + 1, 3, none⟩ = some u := by rw [cell_of_row _ _ _ _ _ _ k4]; rfl
  have hne : ∀ o : Nat, (⟨w.heap.size, o, none⟩ : Addr).block ≠ w.heap.size + 2 := fun o => by show w.heap.size ≠ w.heap.size + 2; omega
  have hrF : WF.rowIs (w.heap.size + 2) 3 (a.un.length + 2) (twV a.un) := by
    have := HRow.out
    rw [HB.out.2] at this
    rw [hWF]
    refine ((((this.setOther ?_ _).setOther ?_ _).setOther ?_ _).setOther ?_ _).setOther ?_ _
    · show w.heap.size + 2 ≠ w.heap.size; omega
    · show w.heap.size + 2 ≠ w.heap.size + 1; omega
    · show w.heap.size + 2 ≠ w.heap.size + 1; omega
    · show w.heap.size + 2 ≠ w.heap.size + 1; omega
    · show w.heap.size + 2 ≠ w.heap.size + 1; omega
  have hbF : Below w.heap.size w WF := by
    rw [hWF]
    have h1 : w.heap.size ≤ w.heap.size + 1 := by omega
    exact (((((HB.out.1.trans (hb1.mono (by have := HB.out.2; omega))).setCell (p := ⟨w.heap.size, 3, none⟩) (Nat.le_refl _) _).setCell (p := ⟨w.heap.size + 1, 0, none⟩) h1 _).setCell (p := ⟨w.heap.size + 1, 1, none⟩) h1 _).setCell (p := ⟨w.heap.size + 1, 2, none⟩) h1 _).setCell (p := ⟨w.heap.size + 1, 3, none⟩) h1 _
  clear hWF k0 k1 k2 k3 g0 g1 hb1 c0 c1 c2 c3 d0 d1 d2 d3 cf3 df0 df1 df2 df3
  refine bodyPost_ret (by simp [results, Tryz.results178, go_sem, q0, q1, q2, q3]; rfl) rfl ⟨?_, hrF, hbF⟩
  rw [hu]
end Go.Proofs.YtnahhclflnjmcaaGreatDoor

/- markNode, isNode, LeftNode. -/
namespace Go.Proofs.YtnahhclflnjmcaaGreatDoor
open Go Go.RowKit
set_option linter.unusedVariables false
set_option linter.unusedSimpArgs false
set_option maxRecDepth 100000

set_option maxHeartbeats 2000000 in
theorem mark179 (n : Nat) (h : n ≤ 4000000) (w : World) : Calls Tryz.prog 179 #[.int .i64 n] w fun e w' => e = .returned (.agg #[.int .i64 (-1000 - (n : Int)), .int .i64 0, .int .i64 0, .slice none 0 0]) ∧ Below w.heap.size w w' := by
  go_enter Tryz.func179, Tryz.ntmps179
  go_wp2_with fail
  have h1 := heap_alloc_new w (.cells #[.int .i64 (-1000 - (n : Int)), .int .i64 0, .int .i64 0, .slice none 0 0] 95)
  have hb : Below w.heap.size w (w.alloc (.cells #[.int .i64 (-1000 - (n : Int)), .int .i64 0, .int .i64 0, .slice none 0 0] 95)) := (Below.refl _ _).alloc (Nat.le_refl _) _
  obtain ⟨WF, hWF⟩ : ∃ WF, WF = w.alloc (.cells #[.int .i64 (-1000 - (n : Int)), .int .i64 0, .int .i64 0, .slice none 0 0] 95) := ⟨_, rfl⟩
  rw [← hWF] at h1 hb ⊢
  have q0 : WF.cell? ⟨w.heap.size, 0, none⟩ = some (.int .i64 (-1000 - (n : Int))) := by rw [cell_of_row _ _ _ _ _ _ h1]; rfl
  have q1 : WF.cell? ⟨w.heap.size, 1, none⟩ = some (.int .i64 0) := by rw [cell_of_row _ _ _ _ _ _ h1]; rfl
  have q2 : WF.cell? ⟨w.heap.size, 2, none⟩ = some (.int .i64 0) := by rw [cell_of_row _ _ _ _ _ _ h1]; rfl
  have q3 : WF.cell? ⟨w.heap.size, 3, none⟩ = some (.slice none 0 0) := by rw [cell_of_row _ _ _ _ _ _ h1]; rfl
  clear hWF h1
  exact bodyPost_ret (by simp [results, Tryz.results179, go_sem, q0, q1, q2, q3]) rfl ⟨rfl, hb⟩
set_option maxHeartbeats 2000000 in
theorem isNode185 (n : Nat) (h : n ≤ 4000000) (w : World) : Calls Tryz.prog 185 #[.agg #[.int .i64 (-1000 - (n : Int)), .int .i64 0, .int .i64 0, .slice none 0 0], .int .i64 n] w fun e w' => e = .returned (.bool true) ∧ Below w.heap.size w w' := by
  have hb : Below w.heap.size w (w.alloc (.cells #[.int .i64 (-1000 - (n : Int)), .int .i64 0, .int .i64 0, .slice none 0 0] 95)) := (Below.refl _ _).alloc (Nat.le_refl _) _
  have HB := Lib.hid hb
  clear hb
  go_enter Tryz.func185, Tryz.ntmps185
  go_wp2_with fail
  go_ret
  exact ⟨rfl, HB.out⟩
set_option maxHeartbeats 4000000 in
theorem leftNode (a : Node) (b c : Nat) (A : Option Addr) (w : World) (hr : w.rowIs b 3 (a.un.length + 2) (twV a.un)) (hx : Ints w (.slice A a.un.length c) a.un) (hs : a.un.length ≤ 1000000) :
    Calls Tryz.prog 184 #[.agg #[.int .i64 a.pub, .int .i64 a.mem, .int .i64 a.ep, .slice (some ⟨b, 0, none⟩) a.un.length (a.un.length + 2)], .agg #[.int .i64 a.pub, .int .i64 a.mem, .int .i64 a.ep, .slice A a.un.length c]] w
      fun e w' => e = .returned (.bool true) ∧ Below w.heap.size w w' := by
  have hbw : Below w.heap.size w ((w.alloc (.cells #[.int .i64 a.pub, .int .i64 a.mem, .int .i64 a.ep, .slice (some ⟨b, 0, none⟩) a.un.length (a.un.length + 2)] 95)).alloc (.cells #[.int .i64 a.pub, .int .i64 a.mem, .int .i64 a.ep, .slice A a.un.length c] 95)) := ((Below.refl _ _).alloc (Nat.le_refl _) _).alloc (by simp) _
  have M := leftNums b c A a.un _ (hr.of_block (hbw.block b hr.lt)) (hx.below hbw) hs
  have HB := Lib.hid hbw
  clear hbw hr hx
  generalize a.pub = p at *
  generalize a.mem = m at *
  generalize a.ep = ep at *
  generalize a.un.length = ul at *
  go_enter Tryz.func184, Tryz.ntmps184
  go_wp2_with fail
  refine M.mono ?_
  rintro e w' ⟨rfl, nd, rfl⟩
  go_wp2_with fail
  go_ret
  exact ⟨rfl, Below.quiet HB.out _⟩
end Go.Proofs.YtnahhclflnjmcaaGreatDoor

/- TwinNodes. -/
namespace Go.Proofs.YtnahhclflnjmcaaGreatDoor
open Go Go.RowKit
set_option linter.unusedVariables false
set_option linter.unusedSimpArgs false
set_option maxRecDepth 100000

/-- Four cells of a row of nodes are anew. -/
theorem row_put4 {W : World} {b N : Nat} {F : Nat → Node} {uv : Nat → Value} (h : W.rowIs b 95 N (cellF F uv)) (y : Nat) (a : Node) (u : Value) :
    ((((W.setCell ⟨b, y * 4, none⟩ (.int .i64 a.pub)).setCell ⟨b, y * 4 + 1, none⟩ (.int .i64 a.mem)).setCell ⟨b, y * 4 + 2, none⟩ (.int .i64 a.ep)).setCell ⟨b, y * 4 + 3, none⟩ u).rowIs b 95 N (cellF (fun z => if z = y then a else F z) (fun z => if z = y then u else uv z)) := by
  refine ((((h.set (y * 4) _).set (y * 4 + 1) _).set (y * 4 + 2) _).set (y * 4 + 3) _).congr fun j hj => ?_
  show _ = cellF _ _ j
  unfold cellF
  by_cases e2 : j / 4 = y
  · by_cases c0 : j % 4 = 0
    · rw [show j = y * 4 by omega]
      simp [show y * 4 / 4 = y by omega]
    by_cases c1 : j % 4 = 1
    · rw [show j = y * 4 + 1 by omega]
      simp [show (y * 4 + 1) / 4 = y by omega, show (y * 4 + 1) % 4 = 1 by omega]
    by_cases c2 : j % 4 = 2
    · rw [show j = y * 4 + 2 by omega]
      simp [show (y * 4 + 2) / 4 = y by omega, show (y * 4 + 2) % 4 = 2 by omega]
    · rw [show j = y * 4 + 3 by omega]
      simp [show (y * 4 + 3) / 4 = y by omega, show (y * 4 + 3) % 4 = 3 by omega]
  · have g0 : j ≠ y * 4 := by omega
    have g1 : j ≠ y * 4 + 1 := by omega
    have g2 : j ≠ y * 4 + 2 := by omega
    have g3 : j ≠ y * 4 + 3 := by omega
    simp [g0, g1, g2, g3, e2]
theorem put4_other {W : World} {b c y : Nat} {a : Node} {u : Value} {t N : Nat} {f : Nat → Value} (h : W.rowIs c t N f) (hne : c ≠ b) :
    ((((W.setCell ⟨b, y * 4, none⟩ (.int .i64 a.pub)).setCell ⟨b, y * 4 + 1, none⟩ (.int .i64 a.mem)).setCell ⟨b, y * 4 + 2, none⟩ (.int .i64 a.ep)).setCell ⟨b, y * 4 + 3, none⟩ u).rowIs c t N f :=
  (((h.setOther (a := ⟨b, y * 4, none⟩) hne _).setOther (a := ⟨b, y * 4 + 1, none⟩) hne _).setOther (a := ⟨b, y * 4 + 2, none⟩) hne _).setOther (a := ⟨b, y * 4 + 3, none⟩) hne _
theorem put4_below {W w : World} {B b y : Nat} {a : Node} {u : Value} (h : Below B w W) (hb : B ≤ b) :
    Below B w ((((W.setCell ⟨b, y * 4, none⟩ (.int .i64 a.pub)).setCell ⟨b, y * 4 + 1, none⟩ (.int .i64 a.mem)).setCell ⟨b, y * 4 + 2, none⟩ (.int .i64 a.ep)).setCell ⟨b, y * 4 + 3, none⟩ u) :=
  (((h.setCell (p := ⟨b, y * 4, none⟩) hb _).setCell (p := ⟨b, y * 4 + 1, none⟩) hb _).setCell (p := ⟨b, y * 4 + 2, none⟩) hb _).setCell (p := ⟨b, y * 4 + 3, none⟩) hb _
/-- A row of N + 2 nodes: of the first i those of F, each with a list's twin in a block of its own; N: how many F has; marks behind from N to m. -/
structure TwI (B b N i m : Nat) (F : Nat → Node) (ub : Nat → Nat) (W : World) : Prop where
  hb : B ≤ b
  row : W.rowIs b 95 ((N + 2) * 4) (cellF (fun z => if z < i then F z else if N ≤ z ∧ z < m then ⟨-1000 - (z : Int), 0, 0, []⟩ else zeroN) (fun z => if z < i then .slice (some ⟨ub z, 0, none⟩) (F z).un.length ((F z).un.length + 2) else .slice none 0 0))
  un : ∀ y, y < i → B ≤ ub y ∧ W.rowIs (ub y) 3 ((F y).un.length + 2) (twV (F y).un)
  nb : ∀ y, y < i → ub y ≠ b
  ap : ∀ y z, y < i → z < i → y ≠ z → ub y ≠ ub z
theorem TwI.below {B b N i m : Nat} {F : Nat → Node} {ub : Nat → Nat} {W W' : World} (h : TwI B b N i m F ub W) (hb : Below W.heap.size W W') : TwI B b N i m F ub W' :=
  ⟨h.hb, h.row.of_block (hb.block b h.row.lt), fun y hy => ⟨(h.un y hy).1, (h.un y hy).2.of_block (hb.block _ (h.un y hy).2.lt)⟩, h.nb, h.ap⟩
theorem TwI.next {B b N i : Nat} {F : Nat → Node} {ub : Nat → Nat} {W W2 : World} {c : Nat} (h : TwI B b N i N F ub W) (hbel : Below W.heap.size W W2) (hi : i < N) (hc : W.heap.size ≤ c) (hB : B ≤ W.heap.size) (hr : W2.rowIs c 3 ((F i).un.length + 2) (twV (F i).un)) :
    TwI B b N (i + 1) N F (fun z => if z = i then c else ub z) ((((W2.setCell ⟨b, i * 4, none⟩ (.int .i64 (F i).pub)).setCell ⟨b, i * 4 + 1, none⟩ (.int .i64 (F i).mem)).setCell ⟨b, i * 4 + 2, none⟩ (.int .i64 (F i).ep)).setCell ⟨b, i * 4 + 3, none⟩ (.slice (some ⟨c, 0, none⟩) (F i).un.length ((F i).un.length + 2))) := by
  have h2 := h.below hbel
  have hbl := h.row.lt
  have hcb : c ≠ b := by omega
  refine ⟨h.hb, (row_put4 h2.row i (F i) _).congr fun j hj => ?_, fun y hy => ?_, fun y hy => ?_, fun y z hy hz hne => ?_⟩
  · congr 1
    · funext z
      by_cases e : z = i
      · rw [if_pos e, if_pos (by omega), e]
      · rw [if_neg e]
        by_cases e2 : z < i
        · rw [if_pos e2, if_pos (by omega)]
        · rw [if_neg e2, if_neg (by omega), if_neg (by omega)]
    · funext z
      by_cases e : z = i
      · rw [if_pos e, if_pos (by omega), e, if_pos rfl]
      · rw [if_neg e]
        by_cases e2 : z < i
        · rw [if_pos e2, if_pos (by omega), if_neg e]
        · rw [if_neg e2, if_neg (by omega)]
  · by_cases e : y = i
    · simp only [e, if_true]
      exact ⟨by omega, put4_other hr hcb⟩
    · simp only [if_neg e]
      exact ⟨(h2.un y (by omega)).1, put4_other (h2.un y (by omega)).2 (h.nb y (by omega))⟩
  · by_cases e : y = i
    · simp only [e, if_true]; exact hcb
    · simp only [if_neg e]; exact h.nb y (by omega)
  · have lt : ∀ y, y < i → ub y < W.heap.size := fun y hy => (h.un y hy).2.lt
    by_cases e : y = i
    · have e' : z ≠ i := fun e2 => hne (e.trans e2.symm)
      simp only [if_pos e, if_neg e']
      have := lt z (by omega)
      omega
    · simp only [if_neg e]
      by_cases e' : z = i
      · simp only [if_pos e']
        have := lt y (by omega)
        omega
      · simp only [if_neg e']
        exact h.ap y z (by omega) (by omega) hne
theorem TwI.mark {B b N m : Nat} {F : Nat → Node} {ub : Nat → Nat} {W W2 : World} (h : TwI B b N N m F ub W) (hbel : Below W.heap.size W W2) (hm : N ≤ m) :
    TwI B b N N (m + 1) F ub ((((W2.setCell ⟨b, m * 4, none⟩ (.int .i64 (-1000 - (m : Int)))).setCell ⟨b, m * 4 + 1, none⟩ (.int .i64 0)).setCell ⟨b, m * 4 + 2, none⟩ (.int .i64 0)).setCell ⟨b, m * 4 + 3, none⟩ (.slice none 0 0)) := by
  have h2 := h.below hbel
  refine ⟨h.hb, (row_put4 h2.row m ⟨-1000 - (m : Int), 0, 0, []⟩ (.slice none 0 0)).congr fun j hj => ?_, fun y hy => ⟨(h2.un y hy).1, put4_other (a := ⟨-1000 - (m : Int), 0, 0, []⟩) (h2.un y hy).2 (h.nb y hy)⟩, h.nb, h.ap⟩
  congr 1
  · funext z
    by_cases e : z = m
    · rw [if_pos e, if_neg (by omega), if_pos (by omega), e]
    · rw [if_neg e]
      by_cases e2 : z < N
      · rw [if_pos e2, if_pos e2]
      · rw [if_neg e2, if_neg e2]
        by_cases e3 : N ≤ z ∧ z < m
        · rw [if_pos e3, if_pos (by omega)]
        · rw [if_neg e3, if_neg (by omega)]
  · funext z
    by_cases e : z = m
    · rw [if_pos e, if_neg (by omega)]
    · rw [if_neg e]
/-- What TwinNodes leaves. -/
structure TwT (w : World) (n : Nat) (F : Nat → Node) (e : Ending) (w' : World) : Prop where
  out : e = .returned (.slice (some ⟨w.heap.size, 0, none⟩) n (n + 2))
  it : ∃ ub, TwI w.heap.size w.heap.size n n (n + 2) F ub w'
  bel : Below w.heap.size w w'
set_option maxHeartbeats 4000000 in
theorem twinNodes (v : Value) (n : Nat) (F : Nat → Node) (w : World) (hR : TrR w v n F) (hn : n ≤ 262144) (hun : ∀ y, y < n → (F y).un.length ≤ 1000000) :
    Calls Tryz.prog 43 #[v] w fun e w' => TwT w n F e w' := by
  have HR := Lib.hid hR
  obtain ⟨A, c, rfl, -, -, -⟩ := id hR
  obtain ⟨i0, hinf, hz0, hz1, hz2⟩ := info_parts info45
  have hmk := run_make (P := Tryz.prog) (w := w) 22 95 i0 _ Tryz.underlying22 hinf hz0 .i64 .i64 (n : Int) ((n : Int) + 2) (by omega) (by omega) (by rw [hz2]; omega) (by omega)
  rw [show ((n : Int)).toNat = n by omega, show ((n : Int) + 2).toNat = n + 2 by omega, hz1] at hmk
  obtain ⟨ROW, hROW⟩ : ∃ r, r = madeCells zcells ((n + 2) * 4) := ⟨_, rfl⟩
  have hmk' : (Instr.makeSlice 22 (.int .i64 (n : Int)) (.int .i64 ((n : Int) + 2))).run Tryz.prog w = .ok (.slice (some ⟨w.heap.size, 0, none⟩) n (n + 2)) (w.alloc (.cells ROW 95)) := by rw [hROW]; exact hmk
  obtain ⟨W1, hW1⟩ : ∃ W1, W1 = w.alloc (.cells ROW 95) := ⟨_, rfl⟩
  have hrow : W1.rowIs w.heap.size 95 ((n + 2) * 4) (cellF (fun _ => zeroN) (fun _ => .slice none 0 0)) := by rw [hW1, hROW]; exact made_row w (n + 2)
  have hb1 : Below w.heap.size w W1 := by rw [hW1]; exact (Below.refl _ _).alloc (Nat.le_refl _) _
  have HT : Hid (TwI w.heap.size w.heap.size n 0 n F (fun _ => 0) W1) := Lib.hid ⟨Nat.le_refl _, hrow.congr fun j hj => by
    congr 1
    funext z
    rw [if_neg (by omega), if_neg (by omega)], fun y hy => by omega, fun y hy => by omega, fun y z hy => by omega⟩
  have HB1 := Lib.hid hb1
  have hi1 : (0 : Int) ≤ (n : Int) := by omega
  have HUN := Lib.hid hun
  have hw2 : IntKind.i64.wrap ((n : Int) + 2) = (n : Int) + 2 := by
    have := i64_small (n + 2) (by omega)
    rw [show ((n + 2 : Nat) : Int) = (n : Int) + 2 by omega] at this
    exact this
  clear hinf hz0 hz1 hz2 hrow hb1 hR hun hROW hmk
  go_enter Tryz.func43, Tryz.ntmps43
  go_wp2_with fail
  rw [← hW1]
  clear hW1
  go_loopg [15] (n + 1) (fun g v15 wr => ∃ (i : Nat) (ub : Nat → Nat), i ≤ n ∧ i + g = n + 1 ∧ v15 = .int .i64 i ∧ TwI w.heap.size w.heap.size n i n F ub wr ∧ Below w.heap.size w wr)
  case atStart => exact ⟨0, fun _ => 0, by omega, by omega, rfl, HT.out, HB1.out⟩
  case round =>
    clear HT HB1
    obtain ⟨i, ub, hi, hg, rfl, hT, hB⟩ := hrel
    have HG := Lib.hid (And.intro hg (And.intro hT hB))
    clear hg
    by_cases hlt : i < n
    · obtain ⟨b, o, rfl, hN⟩ := (HR.out.below hB).at' hlt
      obtain ⟨y0, y1, y2, ⟨Au, cu, y3, hI⟩, -⟩ := hN
      have M := twinNode (F i) Au cu _ hI (HUN.out i hlt)
      have hbl := World.block_lt_of_cell? _ _ y0
      have hrl := hT.row.lt
      have i1 : (0 : Int) ≤ (i : Int) := by omega
      have i2 : (i : Int) < (n : Int) := by omega
      have HL := Lib.hid hlt
      generalize hp : (F i).pub = p at *
      generalize hm : (F i).mem = m at *
      generalize he : (F i).ep = ep at *
      generalize hul : (F i).un.length = ul at *
      have HF := Lib.hid (And.intro hp (And.intro hm (And.intro he hul)))
      clear hT hB hI hlt hp hm he hul
      go_wp2_with fail
      refine M.mono ?_
      rintro e w2 ⟨rfl, hrow2, hb2⟩
      rw [HF.out.1, HF.out.2.1, HF.out.2.2.1, HF.out.2.2.2]
      have h2 := HG.out.2.1.below hb2
      have x0 := h2.row.cell (i := i * 4) (by have := HL.out; omega)
      have x1 := h2.row.cell (i := i * 4 + 1) (by have := HL.out; omega)
      have x2 := h2.row.cell (i := i * 4 + 2) (by have := HL.out; omega)
      have x3 := h2.row.cell (i := i * 4 + 3) (by have := HL.out; omega)
      have f0 := h2.row.frozen (i * 4)
      have f1 := h2.row.frozen (i * 4 + 1)
      have f2 := h2.row.frozen (i * 4 + 2)
      have f3 := h2.row.frozen (i * 4 + 3)
      have hrl2 := h2.row.lt
      have HB2 := Lib.hid (And.intro hb2 hrow2)
      have j2 : (i : Int) < (n : Int) + 2 := by omega
      generalize cellF _ _ (i * 4) = z0 at x0
      generalize cellF _ _ (i * 4 + 1) = z1 at x1
      generalize cellF _ _ (i * 4 + 2) = z2 at x2
      generalize cellF _ _ (i * 4 + 3) = z3 at x3
      clear hb2 hrow2 h2 y0 y1 y2 y3 M
      go_wp2_with fail
      go_roundg (gk - 1)
      case measure => have := HG.out.1; omega
      case rel =>
        obtain ⟨h1, h2, h3⟩ := HG.out
        obtain ⟨k1, k2⟩ := HB2.out
        have := h2.next k1 HL.out (Nat.le_add_right _ 2) h3.size k2
        rw [HF.out.1, HF.out.2.1, HF.out.2.2.1, HF.out.2.2.2] at this
        exact ⟨i + 1, _, by have := HL.out; omega, by omega, by go_num, this, put4_below (a := ⟨p, m, ep, []⟩) (h3.trans (k1.mono h3.size)) (Nat.le_refl _)⟩
    · obtain rfl : i = n := by omega
      have hcap : (i : Int) + 2 ≤ ((i + 2 : Nat) : Int) := by omega
      clear hlt hi hT hB
      go_wp2_with fail
      go_loopg [6] 3 (fun g v6 wr => ∃ m : Nat, i ≤ m ∧ m ≤ i + 2 ∧ m + g = i + 3 ∧ v6 = .int .i64 m ∧ TwI w.heap.size w.heap.size i i m F ub wr ∧ Below w.heap.size w wr)
      case atStart => exact ⟨i, Nat.le_refl _, by omega, rfl, rfl, HG.out.2.1, HG.out.2.2⟩
      case round =>
        obtain ⟨m, hm1, hm2, hg, rfl, hT, hB⟩ := hrel
        have HG2 := Lib.hid (And.intro hg (And.intro hT hB))
        clear hg
        by_cases hlt : m < i + 2
        · have M := fun W => mark179 m (by omega) W
          have i1 : (0 : Int) ≤ (m : Int) := by omega
          have i2 : (m : Int) < (i : Int) + 2 := by omega
          have HL := Lib.hid hlt
          clear hT hB hlt
          go_wp2_with fail
          refine (M _).mono ?_
          rintro e w2 ⟨rfl, hb2⟩
          have h2 := HG2.out.2.1.below hb2
          have x0 := h2.row.cell (i := m * 4) (by have := HL.out; omega)
          have x1 := h2.row.cell (i := m * 4 + 1) (by have := HL.out; omega)
          have x2 := h2.row.cell (i := m * 4 + 2) (by have := HL.out; omega)
          have x3 := h2.row.cell (i := m * 4 + 3) (by have := HL.out; omega)
          have f0 := h2.row.frozen (m * 4)
          have f1 := h2.row.frozen (m * 4 + 1)
          have f2 := h2.row.frozen (m * 4 + 2)
          have f3 := h2.row.frozen (m * 4 + 3)
          have hrl2 := h2.row.lt
          have HB2 := Lib.hid hb2
          generalize cellF _ _ (m * 4) = z0 at x0
          generalize cellF _ _ (m * 4 + 1) = z1 at x1
          generalize cellF _ _ (m * 4 + 2) = z2 at x2
          generalize cellF _ _ (m * 4 + 3) = z3 at x3
          generalize hmk : -1000 - (m : Int) = mk at *
          have HMK := Lib.hid hmk
          clear hb2 h2 M hmk
          go_wp2_with fail
          go_roundg (gk - 1)
          case measure => have := HG2.out.1; omega
          case rel =>
            obtain ⟨h1, h2, h3⟩ := HG2.out
            have := h2.mark HB2.out hm1
            rw [HMK.out] at this
            exact ⟨m + 1, by omega, by have := HL.out; omega, by omega, by go_num, this, put4_below (a := ⟨mk, 0, 0, []⟩) (h3.trans (HB2.out.mono h3.size)) (Nat.le_refl _)⟩
        · obtain rfl : m = i + 2 := by omega
          clear hlt hT hB
          go_wp2_with fail
          go_ret
          exact ⟨rfl, ⟨ub, HG2.out.2.1⟩, HG2.out.2.2⟩
end Go.Proofs.YtnahhclflnjmcaaGreatDoor

/- TwinTree, LeftNodes, LeftTree. -/
namespace Go.Proofs.YtnahhclflnjmcaaGreatDoor
open Go Go.RowKit
set_option linter.unusedVariables false
set_option linter.unusedSimpArgs false
set_option maxRecDepth 100000

theorem TwI.far {B b N i m : Nat} {F : Nat → Node} {ub : Nat → Nat} {W : World} (h : TwI B b N i m F ub W) {a : Addr} (ha : a.block < B) (u : Value) : TwI B b N i m F ub (W.setCell a u) :=
  ⟨h.hb, h.row.setOther (by have := h.hb; omega) u, fun y hy => ⟨(h.un y hy).1, (h.un y hy).2.setOther (by have := (h.un y hy).1; omega) u⟩, h.nb, h.ap⟩
theorem TwI.lower {B B' b N i m : Nat} {F : Nat → Node} {ub : Nat → Nat} {W : World} (h : TwI B b N i m F ub W) (hB : B' ≤ B) : TwI B' b N i m F ub W :=
  ⟨Nat.le_trans hB h.hb, h.row, fun y hy => ⟨Nat.le_trans hB (h.un y hy).1, (h.un y hy).2⟩, h.nb, h.ap⟩
/-- What TwinTree leaves. -/
structure TwTr (w : World) (n : Nat) (F : Nat → Node) (e : Ending) (w' : World) : Prop where
  out : e = .returned (.agg #[.slice (some ⟨w.heap.size + 2, 0, none⟩) n (n + 2)])
  it : ∃ ub, TwI (w.heap.size + 2) (w.heap.size + 2) n n (n + 2) F ub w'
  bel : Below w.heap.size w w'
set_option maxHeartbeats 4000000 in
theorem twinTree (v : Value) (n : Nat) (F : Nat → Node) (w : World) (hR : TrR w v n F) (hn : n ≤ 262144) (hun : ∀ y, y < n → (F y).un.length ≤ 1000000) :
    Calls Tryz.prog 9 #[.agg #[v]] w fun e w' => TwTr w n F e w' := by
  obtain ⟨A, c, rfl, -, -, -⟩ := id hR
  obtain ⟨W0, hW0⟩ : ∃ W0, W0 = ((w.alloc (.cells #[.slice A n c] 24)).alloc (.cells #[.slice none 0 0] 24)) := ⟨_, rfl⟩
  have h0 : W0.heap[w.heap.size]? = some (.cells #[.slice A n c] 24 (0, 0)) := by
    rw [hW0, Below.heap_alloc _ _ _ (by simp)]
    exact heap_alloc_new _ _
  have h1 : W0.heap[w.heap.size + 1]? = some (.cells #[.slice none 0 0] 24 (0, 0)) := by
    rw [hW0]
    have := heap_alloc_new (w.alloc (.cells #[.slice A n c] 24)) (.cells #[.slice none 0 0] 24)
    rw [show (w.alloc (.cells #[.slice A n c] 24)).heap.size = w.heap.size + 1 by simp] at this
    exact this
  have hb0 : Below w.heap.size w W0 := by rw [hW0]; exact ((Below.refl _ _).alloc (Nat.le_refl _) _).alloc (by simp) _
  have hsz : W0.heap.size = w.heap.size + 2 := by rw [hW0]; simp
  have M := twinNodes (.slice A n c) n F W0 (hR.below hb0) hn hun
  have HB := Lib.hid (And.intro hb0 hsz)
  have H0 := Lib.hid (And.intro h0 h1)
  clear hR hb0 hsz h0 h1 hun
  go_enter Tryz.func9, Tryz.ntmps9
  go_wp2_with fail
  rw [← hW0]
  clear hW0
  refine M.mono ?_
  rintro e w1 ⟨rfl, hit, hb1⟩
  have hl : w.heap.size + 2 ≤ W0.heap.size := by rw [HB.out.2]; exact Nat.le_refl _
  have g0 := (hb1.block w.heap.size (by omega)).trans H0.out.1
  have g1 := (hb1.block (w.heap.size + 1) (by omega)).trans H0.out.2
  have c0 : w1.cell? ⟨w.heap.size, 0, none⟩ = some (.slice A n c) := by rw [cell_of_row _ _ _ _ _ _ g0]; rfl
  have d0 : w1.cell? ⟨w.heap.size + 1, 0, none⟩ = some (.slice none 0 0) := by rw [cell_of_row _ _ _ _ _ _ g1]; rfl
  have cf : w1.frozen? ⟨w.heap.size, 0, none⟩ = false := frozen_of_row _ _ _ _ _ g0
  have df : w1.frozen? ⟨w.heap.size + 1, 0, none⟩ = false := frozen_of_row _ _ _ _ _ g1
  have s0 : w.heap.size < w1.heap.size := World.block_lt_of_cell? _ _ c0
  have s1 : w.heap.size + 1 < w1.heap.size := World.block_lt_of_cell? _ _ d0
  have HIT := Lib.hid hit
  have HB1 := Lib.hid (And.intro hb1 g1)
  clear hit hb1 g0 g1 M hl
  rw [HB.out.2]
  go_wp2_with fail
  obtain ⟨hb1, g1⟩ := HB1.out
  generalize hu : Value.slice (some ⟨w.heap.size + 2, 0, none⟩) n (n + 2) = u at *
  have k0 : (w1.setCell ⟨w.heap.size, 0, none⟩ u).heap[w.heap.size + 1]? = some (.cells #[.slice none 0 0] 24 (0, 0)) := (heap_setCell_other w1 ⟨w.heap.size, 0, none⟩ (w.heap.size + 1) u (by show w.heap.size + 1 ≠ w.heap.size; omega)).trans g1
  have k1 := heap_setCell_same _ _ 0 _ _ u k0
  obtain ⟨WF, hWF⟩ : ∃ WF, WF = ((w1.setCell ⟨w.heap.size, 0, none⟩ u).setCell ⟨w.heap.size + 1, 0, none⟩ u) := ⟨_, rfl⟩
  simp at k1
  rw [← hWF] at k1 ⊢
  have q0 : WF.cell? ⟨w.heap.size + 1, 0, none⟩ = some u := by rw [cell_of_row _ _ _ _ _ _ k1]; rfl
  have hitF : ∃ ub, TwI (w.heap.size + 2) (w.heap.size + 2) n n (n + 2) F ub WF := by
    obtain ⟨ub, h⟩ := HIT.out
    rw [HB.out.2] at h
    exact ⟨ub, by rw [hWF]; exact (h.far (a := ⟨w.heap.size, 0, none⟩) (by show w.heap.size < w.heap.size + 2; omega) _).far (a := ⟨w.heap.size + 1, 0, none⟩) (by show w.heap.size + 1 < w.heap.size + 2; omega) _⟩
  have hbF : Below w.heap.size w WF := by
    rw [hWF]
    exact ((HB.out.1.trans (hb1.mono (by have := HB.out.2; omega))).setCell (p := ⟨w.heap.size, 0, none⟩) (Nat.le_refl _) _).setCell (p := ⟨w.heap.size + 1, 0, none⟩) (by show w.heap.size ≤ w.heap.size + 1; omega) _
  clear hWF k0 k1 g1 hb1 c0 d0 cf df
  refine bodyPost_ret (by simp [results, Tryz.results9, go_sem, q0]; rfl) rfl ⟨?_, hitF, hbF⟩
  rw [hu]
theorem TwI.trR {B b N m : Nat} {F : Nat → Node} {ub : Nat → Nat} {W : World} (h : TwI B b N N m F ub W) (hN : N ≤ 262144) (hun : ∀ y, y < N → (F y).un.length ≤ 1000000) (hw : ∀ y, y < N → (Lit.int .i64 (F y).mem).wf = true) : TrR W (.slice (some ⟨b, 0, none⟩) N (N + 2)) N F := by
  refine ⟨_, _, rfl, by omega, by unfold maxLen; omega, fun _ => ⟨b, 0, rfl, fun y hy => ?_⟩⟩
  have e0 : (cellF (fun z => if z < N then F z else if N ≤ z ∧ z < m then ⟨-1000 - (z : Int), 0, 0, []⟩ else zeroN) (fun z => if z < N then .slice (some ⟨ub z, 0, none⟩) (F z).un.length ((F z).un.length + 2) else .slice none 0 0)) (y * 4) = .int .i64 (F y).pub := by rw [cellF0, if_pos hy]
  have e1 : (cellF (fun z => if z < N then F z else if N ≤ z ∧ z < m then ⟨-1000 - (z : Int), 0, 0, []⟩ else zeroN) (fun z => if z < N then .slice (some ⟨ub z, 0, none⟩) (F z).un.length ((F z).un.length + 2) else .slice none 0 0)) (y * 4 + 1) = .int .i64 (F y).mem := by rw [cellF1, if_pos hy]
  have e2 : (cellF (fun z => if z < N then F z else if N ≤ z ∧ z < m then ⟨-1000 - (z : Int), 0, 0, []⟩ else zeroN) (fun z => if z < N then .slice (some ⟨ub z, 0, none⟩) (F z).un.length ((F z).un.length + 2) else .slice none 0 0)) (y * 4 + 2) = .int .i64 (F y).ep := by rw [cellF2, if_pos hy]
  have e3 : (cellF (fun z => if z < N then F z else if N ≤ z ∧ z < m then ⟨-1000 - (z : Int), 0, 0, []⟩ else zeroN) (fun z => if z < N then .slice (some ⟨ub z, 0, none⟩) (F z).un.length ((F z).un.length + 2) else .slice none 0 0)) (y * 4 + 3) = .slice (some ⟨ub y, 0, none⟩) (F y).un.length ((F y).un.length + 2) := by rw [cellF3, if_pos hy]
  rw [Nat.zero_add]
  exact ⟨by rw [h.row.cell (by omega), e0], by rw [h.row.cell (by omega), e1], by rw [h.row.cell (by omega), e2], ⟨_, _, by rw [h.row.cell (by omega), e3], row_ints (h.un y hy).2 rfl (by have := hun y hy; unfold maxLen; omega)⟩, hw y hy⟩
end Go.Proofs.YtnahhclflnjmcaaGreatDoor

/- LeftNodes, LeftTree. -/
namespace Go.Proofs.YtnahhclflnjmcaaGreatDoor
open Go Go.RowKit
set_option linter.unusedVariables false
set_option linter.unusedSimpArgs false
set_option maxRecDepth 100000

theorem held8_drew {wr w' : World} {p0 p1 p2 p3 q0 q1 q2 q3 : Addr} {x0 x1 x2 x3 y0 y1 y2 y3 : Value}
    (h : w'.cell? p0 = some x0 ∧ w'.cell? p1 = some x1 ∧ w'.cell? p2 = some x2 ∧ w'.cell? p3 = some x3 ∧ w'.cell? q0 = some y0 ∧ w'.cell? q1 = some y1 ∧ w'.cell? q2 = some y2 ∧ w'.cell? q3 = some y3 ∧ Below wr.heap.size wr w') :
    w'.drew.cell? p0 = some x0 ∧ w'.drew.cell? p1 = some x1 ∧ w'.drew.cell? p2 = some x2 ∧ w'.drew.cell? p3 = some x3 ∧ w'.drew.cell? q0 = some y0 ∧ w'.drew.cell? q1 = some y1 ∧ w'.drew.cell? q2 = some y2 ∧ w'.drew.cell? q3 = some y3 ∧ Below wr.heap.size wr w'.drew :=
  ⟨h.1, h.2.1, h.2.2.1, h.2.2.2.1, h.2.2.2.2.1, h.2.2.2.2.2.1, h.2.2.2.2.2.2.1, h.2.2.2.2.2.2.2.1, h.2.2.2.2.2.2.2.2.drew⟩
theorem held8_call {wr w' w'' : World} {p0 p1 p2 p3 q0 q1 q2 q3 : Addr} {x0 x1 x2 x3 y0 y1 y2 y3 : Value}
    (h : w'.cell? p0 = some x0 ∧ w'.cell? p1 = some x1 ∧ w'.cell? p2 = some x2 ∧ w'.cell? p3 = some x3 ∧ w'.cell? q0 = some y0 ∧ w'.cell? q1 = some y1 ∧ w'.cell? q2 = some y2 ∧ w'.cell? q3 = some y3 ∧ Below wr.heap.size wr w') (hb : Below w'.heap.size w' w'') :
    w''.cell? p0 = some x0 ∧ w''.cell? p1 = some x1 ∧ w''.cell? p2 = some x2 ∧ w''.cell? p3 = some x3 ∧ w''.cell? q0 = some y0 ∧ w''.cell? q1 = some y1 ∧ w''.cell? q2 = some y2 ∧ w''.cell? q3 = some y3 ∧ Below wr.heap.size wr w'' := by
  have key : ∀ {p : Addr} {v : Value}, w'.cell? p = some v → w''.cell? p = some v := fun hc => by
    rw [hb.cell (World.block_lt_of_cell? _ _ hc)]; exact hc
  obtain ⟨h0, h1, h2, h3, h4, h5, h6, h7, h8⟩ := h
  exact ⟨key h0, key h1, key h2, key h3, key h4, key h5, key h6, key h7, h8.trans (hb.mono h8.size)⟩
theorem held8_mid {wr w' : World} {p0 p1 p2 p3 q0 q1 q2 q3 : Addr} {x0 x1 x2 x3 y0 y1 y2 y3 : Value}
    (h : w'.cell? p0 = some x0 ∧ w'.cell? p1 = some x1 ∧ w'.cell? p2 = some x2 ∧ w'.cell? p3 = some x3 ∧ w'.cell? q0 = some y0 ∧ w'.cell? q1 = some y1 ∧ w'.cell? q2 = some y2 ∧ w'.cell? q3 = some y3 ∧ Below wr.heap.size wr w') : Below wr.heap.size wr w' := h.2.2.2.2.2.2.2.2
/-- The cells of a twin's node. -/
theorem TwI.at {B b N m : Nat} {F : Nat → Node} {ub : Nat → Nat} {W : World} (h : TwI B b N N m F ub W) {y : Nat} (hy : y < N) :
    W.cell? ⟨b, y * 4, none⟩ = some (.int .i64 (F y).pub) ∧ W.cell? ⟨b, y * 4 + 1, none⟩ = some (.int .i64 (F y).mem) ∧ W.cell? ⟨b, y * 4 + 2, none⟩ = some (.int .i64 (F y).ep) ∧ W.cell? ⟨b, y * 4 + 3, none⟩ = some (.slice (some ⟨ub y, 0, none⟩) (F y).un.length ((F y).un.length + 2)) := by
  refine ⟨?_, ?_, ?_, ?_⟩
  · rw [h.row.cell (by omega), cellF0, if_pos hy]
  · rw [h.row.cell (by omega), cellF1, if_pos hy]
  · rw [h.row.cell (by omega), cellF2, if_pos hy]
  · rw [h.row.cell (by omega), cellF3, if_pos hy]
theorem TwI.at_mark {B b N : Nat} {F : Nat → Node} {ub : Nat → Nat} {W : World} (h : TwI B b N N (N + 2) F ub W) {y : Nat} (hy : N ≤ y) (hy2 : y < N + 2) :
    W.cell? ⟨b, y * 4, none⟩ = some (.int .i64 (-1000 - (y : Int))) ∧ W.cell? ⟨b, y * 4 + 1, none⟩ = some (.int .i64 0) ∧ W.cell? ⟨b, y * 4 + 2, none⟩ = some (.int .i64 0) ∧ W.cell? ⟨b, y * 4 + 3, none⟩ = some (.slice none 0 0) := by
  refine ⟨?_, ?_, ?_, ?_⟩
  · rw [h.row.cell (by omega), cellF0, if_neg (by omega), if_pos ⟨hy, hy2⟩]
  · rw [h.row.cell (by omega), cellF1, if_neg (by omega), if_pos ⟨hy, hy2⟩]
  · rw [h.row.cell (by omega), cellF2, if_neg (by omega), if_pos ⟨hy, hy2⟩]
  · rw [h.row.cell (by omega), cellF3, if_neg (by omega)]
set_option maxHeartbeats 8000000 in
theorem leftNodes (B b n c : Nat) (A : Option Addr) (F : Nat → Node) (ub : Nat → Nat) (w : World) (hT : TwI B b n n (n + 2) F ub w) (hR : TrR w (.slice A n c) n F) (hn : n ≤ 262144) (hun : ∀ y, y < n → (F y).un.length ≤ 1000000) :
    Calls Tryz.prog 52 #[.slice (some ⟨b, 0, none⟩) n (n + 2), .slice A n c] w fun e w' => e = .returned (.bool true) ∧ Below w.heap.size w w' := by
  have HT := Lib.hid hT
  have HR := Lib.hid hR
  have HUN := Lib.hid hun
  have hi1 : (0 : Int) ≤ (n : Int) := by omega
  have hw2 : IntKind.i64.wrap ((n : Int) + 2) = (n : Int) + 2 := by
    have := i64_small (n + 2) (by omega)
    rw [show ((n + 2 : Nat) : Int) = (n : Int) + 2 by omega] at this
    exact this
  clear hT hR hun
  go_enter Tryz.func52, Tryz.ntmps52
  go_wp2_with fail
  go_loopg [15] (n + 1) (fun g v15 wr => ∃ i : Nat, i ≤ n ∧ i + g = n + 1 ∧ v15 = .int .i64 i ∧ Below w.heap.size w wr)
  case atStart => exact ⟨0, by omega, by omega, rfl, Below.refl _ _⟩
  case round =>
    obtain ⟨i, hi, hg, rfl, hB⟩ := hrel
    have HG := Lib.hid (And.intro hg hB)
    clear hg
    by_cases hlt : i < n
    · have hTr := HT.out.below hB
      obtain ⟨x0, x1, x2, x3⟩ := hTr.at hlt
      obtain ⟨bA, oA, rfl, hN⟩ := (HR.out.below hB).at' hlt
      obtain ⟨y0, y1, y2, ⟨Au, cu, y3, hI⟩, -⟩ := hN
      have hsame : ∀ W, Below wr.heap.size wr W → Calls Tryz.prog 184 #[.agg #[.int .i64 (F i).pub, .int .i64 (F i).mem, .int .i64 (F i).ep, .slice (some ⟨ub i, 0, none⟩) (F i).un.length ((F i).un.length + 2)], .agg #[.int .i64 (F i).pub, .int .i64 (F i).mem, .int .i64 (F i).ep, .slice Au (F i).un.length cu]] W
          fun e w' => e = .returned (.bool true) ∧ Below W.heap.size W w' := fun W hW =>
        leftNode (F i) (ub i) cu Au W ((hTr.un i hlt).2.of_block (hW.block _ (hTr.un i hlt).2.lt)) (hI.below hW) (HUN.out i hlt)
      have hbl := World.block_lt_of_cell? _ _ y0
      have hbt := World.block_lt_of_cell? _ _ x0
      have i1 : (0 : Int) ≤ (i : Int) := by omega
      have i2 : (i : Int) < (n : Int) := by omega
      have HL := Lib.hid hlt
      generalize (F i).pub = p at *
      generalize (F i).mem = m at *
      generalize (F i).ep = ep at *
      generalize (F i).un.length = ul at *
      have hHeld : wr.cell? ⟨b, i * 4, none⟩ = some (.int .i64 p) ∧ wr.cell? ⟨b, i * 4 + 1, none⟩ = some (.int .i64 m) ∧ wr.cell? ⟨b, i * 4 + 2, none⟩ = some (.int .i64 ep) ∧ wr.cell? ⟨b, i * 4 + 3, none⟩ = some (.slice (some ⟨ub i, 0, none⟩) ul (ul + 2)) ∧ wr.cell? ⟨bA, oA + i * 4, none⟩ = some (.int .i64 p) ∧ wr.cell? ⟨bA, oA + i * 4 + 1, none⟩ = some (.int .i64 m) ∧ wr.cell? ⟨bA, oA + i * 4 + 2, none⟩ = some (.int .i64 ep) ∧ wr.cell? ⟨bA, oA + i * 4 + 3, none⟩ = some (.slice Au ul cu) ∧ Below wr.heap.size wr wr := ⟨x0, x1, x2, x3, y0, y1, y2, y3, Below.refl _ _⟩
      clear hB hTr x0 x1 x2 x3 y0 y1 y2 y3 hI hlt
      go_wp2_with fail
      go_region_held3 (fun w' => w'.cell? ⟨b, i * 4, none⟩ = some (.int .i64 p) ∧ w'.cell? ⟨b, i * 4 + 1, none⟩ = some (.int .i64 m) ∧ w'.cell? ⟨b, i * 4 + 2, none⟩ = some (.int .i64 ep) ∧ w'.cell? ⟨b, i * 4 + 3, none⟩ = some (.slice (some ⟨ub i, 0, none⟩) ul (ul + 2)) ∧ w'.cell? ⟨bA, oA + i * 4, none⟩ = some (.int .i64 p) ∧ w'.cell? ⟨bA, oA + i * 4 + 1, none⟩ = some (.int .i64 m) ∧ w'.cell? ⟨bA, oA + i * 4 + 2, none⟩ = some (.int .i64 ep) ∧ w'.cell? ⟨bA, oA + i * 4 + 3, none⟩ = some (.slice Au ul cu) ∧ Below wr.heap.size wr w')
        (first | assumption | exact held8_drew (by assumption) | exact held8_call (by assumption) (by assumption)) (first
        | (go_at_call 184; with_reducible refine (hsame _ (held8_mid (by assumption))).mono ?_; rintro e' wz ⟨rfl, hbz⟩))
      clear hsame
      go_wp2_with fail
      go_roundg (gk - 1)
      case measure => have := HG.out.1; omega
      case rel => exact ⟨i + 1, by have := HL.out; omega, by have := HG.out.1; omega, by go_num, HG.out.2.drew.trans (hbz.mono HG.out.2.drew.size)⟩
    · obtain rfl : i = n := by omega
      clear hlt hi hB
      go_wp2_with fail
      go_loopg [7] 3 (fun g v7 wr => ∃ m : Nat, i ≤ m ∧ m ≤ i + 2 ∧ m + g = i + 3 ∧ v7 = .int .i64 m ∧ Below w.heap.size w wr)
      case atStart => exact ⟨i, Nat.le_refl _, by omega, rfl, rfl, HG.out.2⟩
      case round =>
        obtain ⟨m, hm1, hm2, hg, rfl, hB⟩ := hrel
        have HG2 := Lib.hid (And.intro hg hB)
        clear hg
        by_cases hlt : m < i + 2
        · obtain ⟨x0, x1, x2, x3⟩ := (HT.out.below hB).at_mark hm1 hlt
          have M := fun W => isNode185 m (by omega) W
          have hbt := World.block_lt_of_cell? _ _ x0
          have i1 : (0 : Int) ≤ (m : Int) := by omega
          have i2 : (m : Int) < (i : Int) + 2 := by omega
          have HL := Lib.hid hlt
          generalize -1000 - (m : Int) = mk at *
          clear hB hlt
          go_wp2_with fail
          refine (M _).mono ?_
          rintro e w2 ⟨rfl, hb2⟩
          have hB2 := HG2.out.2.trans (hb2.mono HG2.out.2.size)
          clear hb2 M
          go_wp2_with fail
          go_roundg (gk - 1)
          case measure => have := HG2.out.1; omega
          case rel => exact ⟨m + 1, by omega, by have := HL.out; omega, by have := HG2.out.1; omega, by go_num, hB2⟩
        · obtain rfl : m = i + 2 := by omega
          clear hlt hB
          go_wp2_with fail
          go_ret
          exact ⟨rfl, HG2.out.2⟩
set_option maxHeartbeats 2000000 in
theorem leftTree (B b n c : Nat) (A : Option Addr) (F : Nat → Node) (ub : Nat → Nat) (w : World) (hT : TwI B b n n (n + 2) F ub w) (hR : TrR w (.slice A n c) n F) (hn : n ≤ 262144) (hun : ∀ y, y < n → (F y).un.length ≤ 1000000) :
    Calls Tryz.prog 19 #[.agg #[.slice (some ⟨b, 0, none⟩) n (n + 2)], .agg #[.slice A n c]] w fun e w' => e = .returned (.bool true) ∧ Below w.heap.size w w' := by
  have hbw : Below w.heap.size w ((w.alloc (.cells #[.slice (some ⟨b, 0, none⟩) n (n + 2)] 24)).alloc (.cells #[.slice A n c] 24)) := ((Below.refl _ _).alloc (Nat.le_refl _) _).alloc (by simp) _
  have M := leftNodes B b n c A F ub _ (hT.below hbw) (hR.below hbw) hn hun
  have HB := Lib.hid hbw
  clear hbw hT hR hun
  go_enter Tryz.func19, Tryz.ntmps19
  go_wp2_with fail
  refine M.mono ?_
  rintro e w' ⟨rfl, hb⟩
  have hB := HB.out.trans (hb.mono HB.out.size)
  go_wp2_with fail
  go_ret
  exact ⟨rfl, hB⟩
end Go.Proofs.YtnahhclflnjmcaaGreatDoor
