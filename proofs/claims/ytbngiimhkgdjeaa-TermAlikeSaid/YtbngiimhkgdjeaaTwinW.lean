/- The same of lists of wide numbers. -/
import Derived.Test.YtbngiimhkgdjeaaTwin
namespace Go.Proofs.Ytbngiimhkgdjeaa
open Go.RowKit

theorem info2 : (Try.prog.info? 2).map (fun i => (i.zero, i.size, i.bytes)) = some (some (.int .i64 0), 1, 8) := by kernel_rfl
theorem markWide (n : Nat) (h : n ≤ 4000000) (w : World) : Calls Try.prog 33 #[.int .i64 n] w fun e w' => e = .returned (.int .i64 (mark n)) ∧ w = w' := by
  unfold mark
  go_enter Try.func33, Try.ntmps33
  go_wp2
  go_ret
  exact ⟨rfl, rfl⟩
theorem isWide (n : Nat) (h : n ≤ 4000000) (w : World) : Calls Try.prog 37 #[.int .i64 (mark n), .int .i64 n] w fun e w' => e = .returned (.bool true) ∧ w = w' := by
  have M := markWide n h w
  generalize mark n = q at *
  go_enter Try.func37, Try.ntmps37
  go_wp2_with (go_at_call 33; with_reducible refine M.mono ?_; rintro e w' ⟨rfl, rfl⟩)
  go_ret
  exact ⟨rfl, rfl⟩
set_option maxHeartbeats 2000000 in
theorem twinW (v : Value) (l : List Int) (hsm : l.length ≤ 4096) (w : World) (hl : IRd w v l) :
    Calls Try.prog 16 #[v] w fun e w' => ∃ b, e = .returned (.slice (some ⟨b, 0, none⟩) l.length (l.length + 2)) ∧ TwinAt w' 2 b l ∧ w.heap.size ≤ b ∧ Below w.heap.size w w' := by
  obtain ⟨A, c, rfl, _, hA⟩ := hl
  obtain ⟨i0, hinf, hz0, hz1, hz2⟩ := info_parts info2
  obtain ⟨N, hN⟩ : ∃ N, N = l.length := ⟨_, rfl⟩
  have hmk := run_make (P := Try.prog) w 38 2 i0 (.int .i64 0) Try.underlying38 hinf hz0 .i64 .i64 (N : Int) ((N : Int) + 2) (by omega) (by omega) (by rw [hz2]; omega) (by omega)
  rw [show ((N : Int)).toNat = N by omega, show ((N : Int) + 2).toNat = N + 2 by omega, hz1, Nat.mul_one, show (Value.int IntKind.i64 0).cells = #[Value.int IntKind.i64 0] from rfl] at hmk
  rw [← hN] at hsm ⊢
  have hNb : (N : Int) ≤ 4096 := by omega
  have hw1 : (w.alloc (.cells (madeCells #[Value.int IntKind.i64 0] (N + 2)) 2)).heap[w.heap.size]? = some (.cells (List.replicate (N + 2) (Value.int .i64 0)).toArray 2 (0, 0)) := by
    rw [heap_alloc_new]
    have : madeCells #[Value.int IntKind.i64 0] (N + 2) = (List.replicate (N + 2) (Value.int .i64 0)).toArray := by
      apply Array.ext'
      show (madeCells #[Value.int .i64 0] (N + 2)).toList = _
      rw [toList_madeCells_one]
    rw [this]
  have hsz2 : (Try.prog.info? 2).map (·.size) = some 1 := by rw [hinf]; simp [hz1]
  have hb1 : Below w.heap.size w (w.alloc (.cells (madeCells #[Value.int IntKind.i64 0] (N + 2)) 2)) := (Below.refl _ _).alloc (Nat.le_refl _) _
  have HN := Lib.hid hN
  have HA := Lib.hid hA
  have HW1 := Lib.hid hw1
  have HB1 := Lib.hid hb1
  clear hA hN hw1 hb1
  go_enter Try.func16, Try.ntmps16
  go_wp2_with (with_reducible refine wpList_copy_splice rfl _ _ 38 38 rfl 2 Try.underlying38 hsz2 _ _ _ _ _ _ rfl rfl w.heap.size 0 (List.replicate (N + 2) (Value.int .i64 0)) 2 HW1.out (l.map (Value.int .i64)) ?hn ?hpos ?hfit ?h1 w.heap.size w HB1.out (Nat.le_refl _) ?_)
  case hn => rw [List.length_map, ← HN.out]; simp
  case hfit => rw [List.length_map, List.length_replicate, ← HN.out]; omega
  case h1 => simp [Value.oneCell']
  case hpos =>
    intro hp
    obtain ⟨b, o, rfl, h1⟩ := HA.out (by rintro rfl; simp at hp)
    refine ⟨_, rfl, fun j x hj => ?_⟩
    rw [add_off, World.cell?_alloc_lt _ _ _ (World.block_lt_of_cell? w _ (h1 j x hj))]
    exact h1 j x hj
  intro w2 h2 B2
  have hcur : splice (List.replicate (N + 2) (Value.int .i64 0)) 0 (l.map (Value.int .i64)) = l.map (Value.int .i64) ++ [.int .i64 0, .int .i64 0] := by
    unfold splice
    rw [List.take_zero, List.nil_append, List.length_map, ← HN.out, Nat.zero_add, List.drop_replicate, show N + 2 - N = 2 by omega]
    rfl
  have HST : Hid (∃ cur : List Value, w2.heap[w.heap.size]? = some (.cells cur.toArray 2 (0, 0)) ∧ cur.length = N + 2 ∧ ∀ j, j < N → cur[j]? = (want l)[j]?) := Lib.hid ⟨_, by have h3 := h2.out; rw [hcur] at h3; exact h3, by simp [← HN.out], fun j hj => by
    unfold want
    rw [List.getElem?_append_left (by simp [← HN.out]; omega), List.getElem?_append_left (by simp [← HN.out]; omega)]⟩
  have HB2 := Lib.hid B2
  clear hcur h2 B2
  go_wp2_with fail
  go_loopw [5] (fun v5 wr => ∃ k : Nat, N ≤ k ∧ k ≤ N + 2 ∧ v5 = .int .i64 k ∧ Hid ((∃ cur : List Value, wr.heap[w.heap.size]? = some (.cells cur.toArray 2 (0, 0)) ∧ cur.length = N + 2 ∧ ∀ j, j < k → cur[j]? = (want l)[j]?) ∧ Below w.heap.size w wr)) (fun v5 _ => N + 2 - (intOf v5).toNat)
  case atStart => exact ⟨N, Nat.le_refl _, by omega, rfl, Lib.hid ⟨HST.out, HB2.out⟩⟩
  case round =>
    clear HST HB2
    obtain ⟨k, hk1, hk2, rfl, HI⟩ := hrel
    obtain ⟨⟨cur, hcu, hcl, hcj⟩, hB⟩ := HI.out
    by_cases hlt : k < N + 2
    · obtain ⟨y, hy⟩ : ∃ y, cur[k]? = some y := ⟨cur[k]'(by omega), List.getElem?_eq_getElem _⟩
      have c1 : wr.cell? ⟨w.heap.size, k, none⟩ = some y := by rw [cell_of_row wr _ k _ _ _ hcu]; simpa using hy
      have f1 : wr.frozen? ⟨w.heap.size, k, none⟩ = false := frozen_of_row wr _ k _ _ hcu
      have M := markWide k (by omega) wr
      have i1 : (0 : Int) ≤ k := by omega
      have i2 : (k : Int) < (N : Int) + 2 := by omega
      have i3 : (k : Int) ≤ 5000 := by omega
      have HC := Lib.hid (And.intro hcu (And.intro hcl hcj))
      have HB := Lib.hid hB
      have hm : mark k = mark k := rfl
      obtain ⟨mk', hmk'⟩ : ∃ q, q = mark k := ⟨_, rfl⟩
      rw [← hmk'] at M
      have HM := Lib.hid hmk'
      clear hcu hcl hcj hB hy HI hmk' hm
      go_wp2_with (go_at_call 33; with_reducible refine M.mono ?_; rintro e w' ⟨rfl, rfl⟩)
      go_roundw
      case rel =>
        refine ⟨k + 1, by omega, by omega, by go_num, Lib.hid ⟨⟨cur.set k (.int .i64 mk'), ?_, by rw [List.length_set]; exact HC.out.2.1, fun j hj => ?_⟩, HB.out.setCell (Nat.le_refl _) _⟩⟩
        · rw [heap_setCell_same wr _ k _ _ _ HC.out.1]
          simp
        · by_cases e : j = k
          · subst e
            rw [List.getElem?_set_self (by rw [HC.out.2.1]; omega), want_out l j (by rw [← HN.out]; omega) (by rw [← HN.out]; omega), HM.out]
          · rw [List.getElem?_set_ne (fun h => e h.symm)]
            exact HC.out.2.2 j (by omega)
      case measure => simp [intOf]; omega
    · obtain rfl : k = N + 2 := by omega
      have HC := Lib.hid (And.intro hcu (And.intro hcl (And.intro hcj hB)))
      clear hcu hcl hcj hB HI
      go_wp2_with fail
      go_ret
      refine ⟨w.heap.size, rfl, ?_, Nat.le_refl _, HC.out.2.2.2⟩
      have : cur = want l := by
        apply List.ext_getElem?
        intro j
        by_cases hj : j < N + 2
        · exact HC.out.2.2.1 j hj
        · rw [List.getElem?_eq_none (by rw [HC.out.2.1]; omega), List.getElem?_eq_none (by rw [want_length, ← HN.out]; omega)]
      have h1 := HC.out.1
      rw [this] at h1
      exact h1
/-- Two rows that read alike. -/
theorem sameWides (v v' : Value) (l : List Int) (w : World) (h : IRd w v l) (h' : IRd w v' l) : Calls Try.prog 38 #[v, v'] w fun e w' => e = .returned (.bool true) ∧ ∃ n, w' = w.drewN n := by
  obtain ⟨A, c, rfl, hbig, hA⟩ := h
  obtain ⟨A', c', rfl, _, hA'⟩ := h'
  obtain ⟨N, hN⟩ : ∃ N, N = l.length := ⟨_, rfl⟩
  rw [← hN] at hbig ⊢
  have HN := Lib.hid hN
  have HA := Lib.hid hA
  have HA' := Lib.hid hA'
  have t0 : ((N : Int) != (N : Int)) = false := by simp
  clear hA hA' hN
  go_enter Try.func38, Try.ntmps38
  go_wp2_with fail
  go_loopw [13] (fun v13 wr => ∃ k : Nat, k ≤ N ∧ v13 = .int .i64 k ∧ ∃ j, wr = w.drewN j) (fun v13 _ => N - (intOf v13).toNat)
  case atStart => exact ⟨0, by omega, rfl, 0, rfl⟩
  case round =>
    obtain ⟨k, hk, rfl, jd, rfl⟩ := hrel
    by_cases hlt : k < N
    · obtain ⟨x, hx⟩ : ∃ x, l[k]? = some x := ⟨l[k]'(by have := HN.out; omega), List.getElem?_eq_getElem _⟩
      have hne : l ≠ [] := fun e => by rw [e] at hx; simp at hx
      obtain ⟨b, o, rfl, h1⟩ := HA.out hne
      obtain ⟨b', o', rfl, h2⟩ := HA'.out hne
      have c1 := h1 k x hx
      have c2 := h2 k x hx
      have i1 : (0 : Int) ≤ k := by omega
      have i2 : (k : Int) < N := by omega
      clear hx hne h1 h2
      go_wp2_with fail
      go_quiet (fail)
      go_wp2
      go_roundw
      case rel => exact ⟨k + 1, by omega, by go_num, _, rfl⟩
      case measure => simp [intOf]; omega
    · obtain rfl : k = N := by omega
      go_wp2
      go_ret
      exact ⟨rfl, _, rfl⟩
theorem TwinAt.rdW {w : World} {b : Nat} {l : List Int} (h : TwinAt w 2 b l) (hs : l.length ≤ 4096) (c : Nat) : IRd w (.slice (some ⟨b, 0, none⟩) l.length c) l :=
  ⟨_, c, rfl, by omega, fun _ => ⟨b, 0, rfl, fun i x hi => by rw [cell_of_row w b _ _ _ _ h]; simpa using want_in l i x hi⟩⟩
set_option maxHeartbeats 2000000 in
/-- A list that is left as it was, spare room included. -/
theorem leftWides (v : Value) (b : Nat) (l : List Int) (hsm : l.length ≤ 4096) (w : World) (ht : TwinAt w 2 b l) (h : IRd w v l) :
    Calls Try.prog 24 #[.slice (some ⟨b, 0, none⟩) l.length (l.length + 2), v] w fun e w' => e = .returned (.bool true) ∧ ∃ n, w' = w.drewN n := by
  have HS := Lib.hid (sameWides (.slice (some ⟨b, 0, none⟩) l.length (l.length + 2)) v l w (ht.rdW hsm _) h)
  obtain ⟨A, c, rfl, hbig, hA⟩ := h
  obtain ⟨N, hN⟩ : ∃ N, N = l.length := ⟨_, rfl⟩
  rw [← hN] at hbig hsm ⊢
  have S := HS.out
  rw [← hN] at S
  have HN := Lib.hid hN
  have HT := Lib.hid ht
  have t0 : ((N : Int) != (N : Int)) = false := by simp
  have hNb : (N : Int) ≤ 4096 := by omega
  clear hA hN ht HS
  go_enter Try.func24, Try.ntmps24
  go_wp2_with fail
  go_loop [6] (fun v6 => ∃ k : Nat, N ≤ k ∧ k ≤ N + 2 ∧ v6 = .int .i64 k) (fun v6 => N + 2 - (intOf v6).toNat)
  case atStart => exact ⟨N, Nat.le_refl _, by omega, rfl⟩
  case round =>
    obtain ⟨k, hk1, hk2, rfl⟩ := hrel
    by_cases hlt : k < N + 2
    · have c1 : w.cell? ⟨b, k, none⟩ = some (.int .i64 (mark k)) := by rw [cell_of_row w b _ _ _ _ HT.out]; simpa using want_out l k (by rw [← HN.out]; omega) (by rw [← HN.out]; omega)
      have M := isWide k (by omega) w
      have i1 : (0 : Int) ≤ k := by omega
      have i2 : (k : Int) < (N : Int) + 2 := by omega
      have i3 : (k : Int) ≤ 5000 := by omega
      generalize mark k = q at *
      clear S
      go_wp2_with (go_at_call 37; with_reducible refine M.mono ?_; rintro e w' ⟨rfl, rfl⟩)
      go_round
      case rel => exact ⟨k + 1, by omega, by omega, by go_num⟩
      case measure => simp [intOf]; omega
    · obtain rfl : k = N + 2 := by omega
      go_wp2_with (go_at_call 38; with_reducible refine S.mono ?_; rintro e w' ⟨rfl, j, rfl⟩)
      go_ret
      exact ⟨rfl, _, rfl⟩
end Go.Proofs.Ytbngiimhkgdjeaa
