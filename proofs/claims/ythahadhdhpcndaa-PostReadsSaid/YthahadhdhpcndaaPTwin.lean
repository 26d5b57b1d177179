/- Twins of plain lists: their own memory. -/
import Derived.Test.YthahadhdhpcndaaPostC
import Derived.Laws.MakeOwn
namespace Go.Proofs.Ythahadhdhpcndaa
open Go Go.RowKit
set_option linter.unusedVariables false
set_option linter.unusedSimpArgs false

theorem over_get {cs vs : Array Value} {off j : Nat} (h : off + vs.size ≤ cs.size) : (over cs off vs)[j]? = if j < off then cs[j]? else if j < off + vs.size then vs[j - off]? else cs[j]? := by
  unfold over
  rw [← Array.getElem?_toList]
  show (List.take off cs.toList ++ vs.toList ++ List.drop (off + vs.size) cs.toList)[j]? = _
  by_cases h1 : j < off
  · rw [if_pos h1, List.append_assoc, List.getElem?_append_left (by simp; omega), List.getElem?_take_of_lt h1, Array.getElem?_toList]
  · rw [if_neg h1]
    have hl : (List.take off cs.toList).length = off := by simp; omega
    rw [List.append_assoc, List.getElem?_append_right (by omega), hl]
    by_cases h2 : j < off + vs.size
    · rw [if_pos h2, List.getElem?_append_left (by simp; omega), Array.getElem?_toList]
    · rw [if_neg h2, List.getElem?_append_right (by simp; omega), List.getElem?_drop, Array.length_toList, Array.getElem?_toList]
      congr 1; omega
theorem mark96 (n : Nat) (h : n ≤ 4000000) (w : World) : Calls Try.prog 96 #[.int .i64 n] w fun e w' => e = .returned (.int .i64 (-1000 - (n : Int))) ∧ w = w' := by
  go_enter Try.func96, Try.ntmps96
  go_wp2
  go_ret
  exact ⟨rfl, rfl⟩
/-- A list under work: the cells of the list, and room for two more. -/
structure TwI (B N sz : Nat) (E : TypeId) (w0 : World) (xs : List Value) (wr : World) : Prop where
  out : ∃ cur : Array Value, wr.heap[B]? = some (.cells cur E (0, 0)) ∧ cur.size = (N + 2) * sz ∧ ∀ j, j < N * sz → cur[j]? = xs[j]?
  below : Below B w0 wr
theorem TwI.rw {B N sz : Nat} {E : TypeId} {w0 wr : World} {xs : List Value} {c : Nat} (h : TwI B N sz E w0 xs wr) (hl : xs.length = N * sz) (h1 : ∀ u ∈ xs, u.oneCell' = true) : Rw (B ≤ ·) wr sz (.slice (some ⟨B, 0, none⟩) N c) xs := by
  obtain ⟨cur, h2, h3, h4⟩ := h.out
  refine ⟨_, N, c, rfl, hl, (fun e => by cases e), fun _ => ⟨B, 0, rfl, Nat.le_refl _, lt_of_some h2, fun j u hj => ?_⟩, h1⟩
  have hj2 := (List.getElem?_eq_some_iff.1 hj).1
  rw [Nat.zero_add, cell_of_row wr B _ _ _ _ h2, h4 j (by omega)]
  exact hj
theorem TwI.start {B N sz : Nat} {E : TypeId} {w0 W : World} {xs : List Value} {ROW : Array Value} (hB : Below B w0 W) (n1 : W.heap[B]? = some (.cells ROW E (0, 0))) (hs : ROW.size = (N + 2) * sz) (h1 : xs.length = N * sz) : TwI B N sz E w0 xs (W.setCells B 0 xs) := by
  have hle : N * sz ≤ (N + 2) * sz := Nat.mul_le_mul_right _ (by omega)
  have hr := heap_setCells_row xs 0 W ROW n1 (by omega)
  refine ⟨⟨_, hr, by rw [size_over (by simp; omega)]; exact hs, fun j hj => ?_⟩, setCells_below (Nat.le_refl _) _ _ _ hB⟩
  rw [over_get (by simp; omega), if_neg (by omega), if_pos (by simp; omega)]
  simp
theorem TwI.keep {B N sz : Nat} {E : TypeId} {w0 wr w2 : World} {xs : List Value} (h : TwI B N sz E w0 xs wr) (hb : Below wr.heap.size wr w2) : TwI B N sz E w0 xs w2 := by
  obtain ⟨cur, h2, h3, h4⟩ := h.out
  exact ⟨⟨cur, (hb.block _ (lt_of_some h2)).trans h2, h3, h4⟩, h.below.trans (hb.mono (Nat.le_of_lt (lt_of_some h2)))⟩
theorem TwI.put1 {B N i : Nat} {E : TypeId} {w0 wr : World} {xs : List Value} {y : Value} (h : TwI B N 1 E w0 xs wr) (h1 : N ≤ i) (h2 : i < N + 2) : TwI B N 1 E w0 xs (wr.setCell ⟨B, i, none⟩ y) := by
  obtain ⟨cur, h3, h4, h5⟩ := h.out
  refine ⟨⟨_, heap_setCell_same wr _ i _ _ _ h3, by simpa using h4, fun j hj => ?_⟩, h.below.setCell (Nat.le_refl _) _⟩
  rw [Array.getElem?_setIfInBounds_ne (by omega)]
  exact h5 j hj
theorem TwI.put {B N sz i : Nat} {E : TypeId} {w0 wr : World} {xs : List Value} {cur vs : Array Value} (h : TwI B N sz E w0 xs wr) (hc : wr.heap[B]? = some (.cells cur E (0, 0))) (h1 : N ≤ i) (h2 : i * sz + sz ≤ cur.size) (h3 : vs.size = sz) : TwI B N sz E w0 xs (wr.setRow B (over cur (i * sz) vs)) := by
  obtain ⟨cur', h4, h5, h6⟩ := h.out
  rw [hc] at h4
  injection h4 with h4
  injection h4 with h4
  subst h4
  have hle : N * sz ≤ i * sz := Nat.mul_le_mul_right _ h1
  refine ⟨⟨_, setRow_same hc, by rw [size_over (by omega)]; exact h5, fun j hj => ?_⟩, below_setRow h.below (Nat.le_refl _)⟩
  rw [over_get (by omega), if_pos (by omega)]
  exact h6 j hj
/-- What is copied into a new list of room for two more. -/
theorem copy_in {t et ty : TypeId} {sz N c : Nat} {A : Option Addr} {w W1 : World} {ROW : Array Value} {xs : List Value} (hu : Try.prog.underlying t = some (.slice et)) (hsz : (Try.prog.info? et).map (·.size) = some sz) (n1 : W1.heap[w.heap.size]? = some (.cells ROW et (0, 0)))
    (hRs : ROW.size = (N + 2) * sz) (h1 : xs.length = N * sz) (h2 : A = none → N = 0 ∧ c = 0) (h3 : 0 < N → ∃ b o, A = some ⟨b, o, none⟩ ∧ ∀ j u, xs[j]? = some u → W1.cell? ⟨b, o + j, none⟩ = some u) (h4 : ∀ u ∈ xs, u.oneCell' = true) :
    (Builtin.copy_ #[t, t] ty #[.slice (some ⟨w.heap.size, 0, none⟩) N (N + 2), .slice A N c]).run Try.prog W1 = .ok (goInt N) (W1.setCells w.heap.size 0 xs) := by
  have hle : N * sz ≤ (N + 2) * sz := Nat.mul_le_mul_right _ (by omega)
  cases A with
  | none =>
    obtain ⟨rfl, rfl⟩ := h2 rfl
    rw [Nat.zero_mul] at h1
    obtain rfl : xs = [] := List.length_eq_zero_iff.1 h1
    exact run_copy_nil Try.prog W1 t t ty et _ _ _ hu (by rw [hsz]; rfl)
  | some a =>
    have := run_copy_part W1 t t ty et sz w.heap.size 0 N (N + 2) a N c xs hu hsz (by rw [h1, show Nat.min N N = N from Nat.min_self N]) (fun j u hj => by
      have hlt := (List.getElem?_eq_some_iff.1 hj).1
      have hp : 0 < N := Nat.pos_of_ne_zero fun e => by
        subst e
        rw [Nat.zero_mul] at h1
        omega
      obtain ⟨b, o, e, p3⟩ := h3 hp
      rw [Option.some.inj e, add_off]
      exact p3 j u hj) (fun j hj => by rw [cell_of_row W1 _ _ _ _ _ n1, Array.getElem?_eq_getElem (by omega)]; rfl) (fun j hj => frozen_of_row W1 _ _ _ _ n1) h4
    rwa [show Nat.min N N = N from Nat.min_self N] at this
set_option maxHeartbeats 2000000 in
set_option maxRecDepth 100000 in
theorem twin89 {ok : Nat → Prop} (v : Value) (xs : List Value) (w : World) (h : Rw ok w 1 v xs) (hs : xs.length ≤ 3000000) :
    Calls Try.prog 89 #[v] w fun e w' => ∃ v', e = .returned v' ∧ Rw (w.heap.size ≤ ·) w' 1 v' xs ∧ Below w.heap.size w w' := by
  obtain ⟨A, N, c, rfl, h1, h2, h3, h4⟩ := h
  obtain ⟨i0, hinf, hz0, hz1, hz2⟩ := info_parts info3
  have hsz : (Try.prog.info? 3).map (·.size) = some 1 := by rw [hinf]; simp [hz1]
  have hN : N ≤ 3000000 := by omega
  have hmk := run_make (P := Try.prog) w 24 3 i0 _ Try.underlying24 hinf hz0 .i64 .i64 (N : Int) ((N : Int) + 2) (by omega) (by omega) (by rw [hz2]; omega) (by omega)
  rw [show ((N : Int)).toNat = N by omega, show ((N : Int) + 2).toNat = N + 2 by omega, hz1] at hmk
  obtain ⟨ROW, hROW⟩ : ∃ r, r = madeCells (Value.cells (Value.int IntKind.i64 0)) ((N + 2) * 1) := ⟨_, rfl⟩
  have hRs : ROW.size = (N + 2) * 1 := by rw [hROW]; simp [madeCells]
  rw [← hROW] at hmk
  obtain ⟨W1, hW1⟩ : ∃ W, W = w.alloc (.cells ROW 3) := ⟨_, rfl⟩
  have n1 : W1.heap[w.heap.size]? = some (.cells ROW 3 (0, 0)) := by rw [hW1]; exact heap_alloc_new w _
  have hcp := copy_in (ty := 3) (t := 24) (c := c) Try.underlying24 hsz n1 hRs h1 h2 (fun hp => by
    obtain ⟨b, o, e, _, p2, p3⟩ := h3 hp
    exact ⟨b, o, e, fun j u hj => by rw [hW1, World.cell?_alloc_lt _ _ _ p2]; exact p3 j u hj⟩) h4
  have HT : Hid (TwI w.heap.size N 1 3 w xs (W1.setCells w.heap.size 0 xs)) := Lib.hid (TwI.start (by rw [hW1]; exact (Below.refl _ _).alloc (Nat.le_refl _) _) n1 hRs h1)
  have HX := Lib.hid (And.intro h1 h4)
  obtain ⟨W2, hW2⟩ : ∃ W, W = W1.setCells w.heap.size 0 xs := ⟨_, rfl⟩
  rw [← hW2] at HT hcp
  rw [hW1] at hcp
  have hi1 : (0 : Int) ≤ (N : Int) := by omega
  have hw2 : IntKind.i64.wrap ((N : Int) + 2) = (N : Int) + 2 := wrapi _ (by omega)
  clear h1 h2 h3 h4 hsz hinf hz0 hz1 hz2 n1 hRs hROW hW2 hW1
  go_enter Try.func89, Try.ntmps89
  go_wp2_with fail
  go_loopg [5] 2 (fun k v5 wr => ∃ i : Nat, v5 = .int .i64 (i : Int) ∧ i + k = N + 2 ∧ Hid (TwI w.heap.size N 1 3 w xs wr ∧ N ≤ i))
  case atStart => exact ⟨N, rfl, rfl, Lib.hid ⟨HT.out, Nat.le_refl _⟩⟩
  case round =>
    clear HT
    obtain ⟨i, rfl, hik, HI⟩ := hrel
    by_cases hlt : i < N + 2
    · have hNi := HI.out.2
      obtain ⟨cur, hcu, hcs, hcj⟩ := HI.out.1.out
      have hB := HI.out.1.below
      obtain ⟨y, hy⟩ : ∃ y, wr.cell? ⟨w.heap.size, i, none⟩ = some y := ⟨cur[i]'(by omega), by rw [cell_of_row wr _ i _ _ _ hcu]; exact Array.getElem?_eq_getElem (by omega)⟩
      have f1 : wr.frozen? ⟨w.heap.size, i, none⟩ = false := frozen_of_row wr _ i _ _ hcu
      have M := mark96 i (by omega) wr
      have i1 : (0 : Int) ≤ (i : Int) := by omega
      have i2 : (i : Int) < (N : Int) + 2 := by omega
      have HL := Lib.hid (And.intro hlt hNi)
      clear hcu hcs hcj hB
      go_wp2_with (go_at_call 96; with_reducible refine M.mono ?_; rintro e w' ⟨rfl, rfl⟩)
      go_roundg (N + 2 - (i + 1))
      case measure => have := HL.out.1; omega
      case rel => exact ⟨i + 1, by go_num, by have := HL.out.1; omega, Lib.hid ⟨HI.out.1.put1 HL.out.2 HL.out.1, Nat.le_succ_of_le HL.out.2⟩⟩
    · obtain rfl : i = N + 2 := by omega
      go_wp2_with fail
      go_ret
      exact ⟨_, rfl, HI.out.1.rw HX.out.1 HX.out.2, HI.out.1.below⟩
theorem mark95 (n : Nat) (hn : n ≤ 4000000) (w : World) : Calls Try.prog 95 #[.int .i64 n] w fun e w' => ∃ cs, e = .returned (.agg cs) ∧ cs.size = 3 ∧ (∀ u ∈ cs.toList, u.oneCell' = true) ∧ Below w.heap.size w w' := by
  have x1 : (w.alloc (.cells #[.int .i64 0, .int .i64 0, .int .i64 0] 127)).heap[w.heap.size]? = some (.cells #[.int .i64 0, .int .i64 0, .int .i64 0] 127 (0, 0)) := heap_alloc_new w _
  have HX := Lib.hid x1
  have HB := Lib.hid ((Below.refl w.heap.size w).alloc (Nat.le_refl _) (.cells #[.int .i64 0, .int .i64 0, .int .i64 0] 127))
  have hw1 : IntKind.i64.wrap (-1000 - (n : Int)) = -1000 - (n : Int) := wrapi _ (by omega)
  clear x1
  go_enter Try.func95, Try.ntmps95
  go_wp2_with (with_reducible refine wpList_store_part rfl 127 _ _ rfl rfl _ 0 3 rfl 127 _ _ rfl HX.out (by kernel_rfl) rfl (by simp) (by simp [Value.oneCell']) ?_)
  refine bodyPost_ret (results_cell_row Try.results95 _ _ _ _ _ _ _ rfl (setRow_same HX.out) Try.underlying127 rfl (by rw [size_over (by simp)]; kernel_rfl)) rfl ⟨_, rfl, by rw [size_over (by simp)]; rfl, ?_, below_setRow HB.out (Nat.le_refl _)⟩
  rw [over_full (by rfl)]
  simp [Value.oneCell']
set_option maxHeartbeats 2000000 in
set_option maxRecDepth 100000 in
theorem twin88 {ok : Nat → Prop} (v : Value) (xs : List Value) (w : World) (h : Rw ok w 3 v xs) (hs : xs.length ≤ 3000000) :
    Calls Try.prog 88 #[v] w fun e w' => ∃ v', e = .returned v' ∧ Rw (w.heap.size ≤ ·) w' 3 v' xs ∧ Below w.heap.size w w' := by
  obtain ⟨A, N, c, rfl, h1, h2, h3, h4⟩ := h
  obtain ⟨i0, hinf, hz0, hz1, hz2⟩ := info_parts info127
  have hsz : (Try.prog.info? 127).map (·.size) = some 3 := by rw [hinf]; simp [hz1]
  have hN : N ≤ 3000000 := by omega
  have hmk := run_make (P := Try.prog) w 23 127 i0 _ Try.underlying23 hinf hz0 .i64 .i64 (N : Int) ((N : Int) + 2) (by omega) (by omega) (by rw [hz2]; omega) (by omega)
  rw [show ((N : Int)).toNat = N by omega, show ((N : Int) + 2).toNat = N + 2 by omega, hz1] at hmk
  obtain ⟨ROW, hROW⟩ : ∃ r, r = madeCells (Value.cells (Value.agg #[Value.int IntKind.i64 0, Value.int IntKind.i64 0, Value.int IntKind.i64 0])) ((N + 2) * 3) := ⟨_, rfl⟩
  have hRs : ROW.size = (N + 2) * 3 := by rw [hROW]; simp [madeCells]
  rw [← hROW] at hmk
  obtain ⟨W1, hW1⟩ : ∃ W, W = w.alloc (.cells ROW 127) := ⟨_, rfl⟩
  have n1 : W1.heap[w.heap.size]? = some (.cells ROW 127 (0, 0)) := by rw [hW1]; exact heap_alloc_new w _
  have hcp := copy_in (ty := 3) (t := 23) (c := c) Try.underlying23 hsz n1 hRs h1 h2 (fun hp => by
    obtain ⟨b, o, e, _, p2, p3⟩ := h3 hp
    exact ⟨b, o, e, fun j u hj => by rw [hW1, World.cell?_alloc_lt _ _ _ p2]; exact p3 j u hj⟩) h4
  have HT : Hid (TwI w.heap.size N 3 127 w xs (W1.setCells w.heap.size 0 xs)) := Lib.hid (TwI.start (by rw [hW1]; exact (Below.refl _ _).alloc (Nat.le_refl _) _) n1 hRs h1)
  have HX := Lib.hid (And.intro h1 h4)
  obtain ⟨W2, hW2⟩ : ∃ W, W = W1.setCells w.heap.size 0 xs := ⟨_, rfl⟩
  rw [← hW2] at HT hcp
  rw [hW1] at hcp
  have hi1 : (0 : Int) ≤ (N : Int) := by omega
  have hw2 : IntKind.i64.wrap ((N : Int) + 2) = (N : Int) + 2 := wrapi _ (by omega)
  clear h1 h2 h3 h4 hinf hz0 hz1 hz2 n1 hRs hROW hW2 hW1
  go_enter Try.func88, Try.ntmps88
  go_wp2_with fail
  go_loopg [5] 2 (fun k v5 wr => ∃ i : Nat, v5 = .int .i64 (i : Int) ∧ i + k = N + 2 ∧ Hid (TwI w.heap.size N 3 127 w xs wr ∧ N ≤ i))
  case atStart => exact ⟨N, rfl, rfl, Lib.hid ⟨HT.out, Nat.le_refl _⟩⟩
  case round =>
    clear HT
    obtain ⟨i, rfl, hik, HI⟩ := hrel
    by_cases hlt : i < N + 2
    · have hNi := HI.out.2
      have M := mark95 i (by omega) wr
      have i1 : (0 : Int) ≤ (i : Int) := by omega
      have i2 : (i : Int) < (N : Int) + 2 := by omega
      have HL := Lib.hid (And.intro hlt hNi)
      have HS := Lib.hid hsz
      clear hNi hsz
      go_wp2_with (go_at_call 95; with_reducible refine M.mono ?_)
      rintro e w2 ⟨cs, rfl, hcs, hc1, hB2⟩
      have HI2 := HI.out.1.keep hB2
      obtain ⟨cur, hcu, hcz, hcj⟩ := HI2.out
      have HC := Lib.hid (And.intro HI2 (And.intro hcu (And.intro (show i * 3 + 3 ≤ cur.size by omega) (And.intro hcs hc1))))
      clear hcu hcz hcj HI2 hcs hc1 hB2 M
      go_wp2_with (with_reducible refine wpList_store_part rfl 127 _ _ rfl rfl w.heap.size (i * 3) 3 rfl 127 cur cs rfl HC.out.2.1 HS.out HC.out.2.2.2.1 HC.out.2.2.1 HC.out.2.2.2.2 ?_)
      go_roundg (N + 2 - (i + 1))
      case measure => have := HL.out.1; omega
      case rel => exact ⟨i + 1, by go_num, by have := HL.out.1; omega, Lib.hid ⟨HC.out.1.put HC.out.2.1 HL.out.2 HC.out.2.2.1 HC.out.2.2.2.1, Nat.le_succ_of_le HL.out.2⟩⟩
    · obtain rfl : i = N + 2 := by omega
      go_wp2_with fail
      go_ret
      exact ⟨_, rfl, HI.out.1.rw HX.out.1 HX.out.2, HI.out.1.below⟩
theorem mark97 (n : Nat) (hn : n ≤ 4000000) (w : World) : Calls Try.prog 97 #[.int .i64 n] w fun e w' => ∃ cs, e = .returned (.agg cs) ∧ cs.size = 3 ∧ (∀ u ∈ cs.toList, u.oneCell' = true) ∧ Below w.heap.size w w' := by
  have x1 : (w.alloc (.cells #[.int .i64 0, .int .i64 0, .int .i64 0] 131)).heap[w.heap.size]? = some (.cells #[.int .i64 0, .int .i64 0, .int .i64 0] 131 (0, 0)) := heap_alloc_new w _
  have HX := Lib.hid x1
  have HB := Lib.hid ((Below.refl w.heap.size w).alloc (Nat.le_refl _) (.cells #[.int .i64 0, .int .i64 0, .int .i64 0] 131))
  have hw1 : IntKind.i64.wrap (-1000 - (n : Int)) = -1000 - (n : Int) := wrapi _ (by omega)
  clear x1
  go_enter Try.func97, Try.ntmps97
  go_wp2_with (with_reducible refine wpList_store_part rfl 131 _ _ rfl rfl _ 0 3 rfl 131 _ _ rfl HX.out (by kernel_rfl) rfl (by simp) (by simp [Value.oneCell']) ?_)
  refine bodyPost_ret (results_cell_row Try.results97 _ _ _ _ _ _ _ rfl (setRow_same HX.out) Try.underlying131 rfl (by rw [size_over (by simp)]; kernel_rfl)) rfl ⟨_, rfl, by rw [size_over (by simp)]; rfl, ?_, below_setRow HB.out (Nat.le_refl _)⟩
  rw [over_full (by rfl)]
  simp [Value.oneCell']
set_option maxHeartbeats 2000000 in
set_option maxRecDepth 100000 in
theorem twin90 {ok : Nat → Prop} (v : Value) (xs : List Value) (w : World) (h : Rw ok w 3 v xs) (hs : xs.length ≤ 3000000) :
    Calls Try.prog 90 #[v] w fun e w' => ∃ v', e = .returned v' ∧ Rw (w.heap.size ≤ ·) w' 3 v' xs ∧ Below w.heap.size w w' := by
  obtain ⟨A, N, c, rfl, h1, h2, h3, h4⟩ := h
  obtain ⟨i0, hinf, hz0, hz1, hz2⟩ := info_parts info131
  have hsz : (Try.prog.info? 131).map (·.size) = some 3 := by rw [hinf]; simp [hz1]
  have hN : N ≤ 3000000 := by omega
  have hmk := run_make (P := Try.prog) w 25 131 i0 _ Try.underlying25 hinf hz0 .i64 .i64 (N : Int) ((N : Int) + 2) (by omega) (by omega) (by rw [hz2]; omega) (by omega)
  rw [show ((N : Int)).toNat = N by omega, show ((N : Int) + 2).toNat = N + 2 by omega, hz1] at hmk
  obtain ⟨ROW, hROW⟩ : ∃ r, r = madeCells (Value.cells (Value.agg #[Value.int IntKind.i64 0, Value.int IntKind.i64 0, Value.int IntKind.i64 0])) ((N + 2) * 3) := ⟨_, rfl⟩
  have hRs : ROW.size = (N + 2) * 3 := by rw [hROW]; simp [madeCells]
  rw [← hROW] at hmk
  obtain ⟨W1, hW1⟩ : ∃ W, W = w.alloc (.cells ROW 131) := ⟨_, rfl⟩
  have n1 : W1.heap[w.heap.size]? = some (.cells ROW 131 (0, 0)) := by rw [hW1]; exact heap_alloc_new w _
  have hcp := copy_in (ty := 3) (t := 25) (c := c) Try.underlying25 hsz n1 hRs h1 h2 (fun hp => by
    obtain ⟨b, o, e, _, p2, p3⟩ := h3 hp
    exact ⟨b, o, e, fun j u hj => by rw [hW1, World.cell?_alloc_lt _ _ _ p2]; exact p3 j u hj⟩) h4
  have HT : Hid (TwI w.heap.size N 3 131 w xs (W1.setCells w.heap.size 0 xs)) := Lib.hid (TwI.start (by rw [hW1]; exact (Below.refl _ _).alloc (Nat.le_refl _) _) n1 hRs h1)
  have HX := Lib.hid (And.intro h1 h4)
  obtain ⟨W2, hW2⟩ : ∃ W, W = W1.setCells w.heap.size 0 xs := ⟨_, rfl⟩
  rw [← hW2] at HT hcp
  rw [hW1] at hcp
  have hi1 : (0 : Int) ≤ (N : Int) := by omega
  have hw2 : IntKind.i64.wrap ((N : Int) + 2) = (N : Int) + 2 := wrapi _ (by omega)
  clear h1 h2 h3 h4 hinf hz0 hz1 hz2 n1 hRs hROW hW2 hW1
  go_enter Try.func90, Try.ntmps90
  go_wp2_with fail
  go_loopg [5] 2 (fun k v5 wr => ∃ i : Nat, v5 = .int .i64 (i : Int) ∧ i + k = N + 2 ∧ Hid (TwI w.heap.size N 3 131 w xs wr ∧ N ≤ i))
  case atStart => exact ⟨N, rfl, rfl, Lib.hid ⟨HT.out, Nat.le_refl _⟩⟩
  case round =>
    clear HT
    obtain ⟨i, rfl, hik, HI⟩ := hrel
    by_cases hlt : i < N + 2
    · have hNi := HI.out.2
      have M := mark97 i (by omega) wr
      have i1 : (0 : Int) ≤ (i : Int) := by omega
      have i2 : (i : Int) < (N : Int) + 2 := by omega
      have HL := Lib.hid (And.intro hlt hNi)
      have HS := Lib.hid hsz
      clear hNi hsz
      go_wp2_with (go_at_call 97; with_reducible refine M.mono ?_)
      rintro e w2 ⟨cs, rfl, hcs, hc1, hB2⟩
      have HI2 := HI.out.1.keep hB2
      obtain ⟨cur, hcu, hcz, hcj⟩ := HI2.out
      have HC := Lib.hid (And.intro HI2 (And.intro hcu (And.intro (show i * 3 + 3 ≤ cur.size by omega) (And.intro hcs hc1))))
      clear hcu hcz hcj HI2 hcs hc1 hB2 M
      go_wp2_with (with_reducible refine wpList_store_part rfl 131 _ _ rfl rfl w.heap.size (i * 3) 3 rfl 131 cur cs rfl HC.out.2.1 HS.out HC.out.2.2.2.1 HC.out.2.2.1 HC.out.2.2.2.2 ?_)
      go_roundg (N + 2 - (i + 1))
      case measure => have := HL.out.1; omega
      case rel => exact ⟨i + 1, by go_num, by have := HL.out.1; omega, Lib.hid ⟨HC.out.1.put HC.out.2.1 HL.out.2 HC.out.2.2.1 HC.out.2.2.2.1, Nat.le_succ_of_le HL.out.2⟩⟩
    · obtain rfl : i = N + 2 := by omega
      go_wp2_with fail
      go_ret
      exact ⟨_, rfl, HI.out.1.rw HX.out.1 HX.out.2, HI.out.1.below⟩
theorem mark98 (n : Nat) (hn : n ≤ 4000000) (w : World) : Calls Try.prog 98 #[.int .i64 n] w fun e w' => ∃ cs, e = .returned (.agg cs) ∧ cs.size = 2 ∧ (∀ u ∈ cs.toList, u.oneCell' = true) ∧ Below w.heap.size w w' := by
  have x1 : (w.alloc (.cells #[.int .i64 0, .int .i64 0] 134)).heap[w.heap.size]? = some (.cells #[.int .i64 0, .int .i64 0] 134 (0, 0)) := heap_alloc_new w _
  have HX := Lib.hid x1
  have HB := Lib.hid ((Below.refl w.heap.size w).alloc (Nat.le_refl _) (.cells #[.int .i64 0, .int .i64 0] 134))
  have hw1 : IntKind.i64.wrap (-1000 - (n : Int)) = -1000 - (n : Int) := wrapi _ (by omega)
  clear x1
  go_enter Try.func98, Try.ntmps98
  go_wp2_with (with_reducible refine wpList_store_part rfl 134 _ _ rfl rfl _ 0 2 rfl 134 _ _ rfl HX.out (by kernel_rfl) rfl (by simp) (by simp [Value.oneCell']) ?_)
  refine bodyPost_ret (results_cell_row Try.results98 _ _ _ _ _ _ _ rfl (setRow_same HX.out) Try.underlying134 rfl (by rw [size_over (by simp)]; kernel_rfl)) rfl ⟨_, rfl, by rw [size_over (by simp)]; rfl, ?_, below_setRow HB.out (Nat.le_refl _)⟩
  rw [over_full (by rfl)]
  simp [Value.oneCell']
set_option maxHeartbeats 2000000 in
set_option maxRecDepth 100000 in
theorem twin91 {ok : Nat → Prop} (v : Value) (xs : List Value) (w : World) (h : Rw ok w 2 v xs) (hs : xs.length ≤ 3000000) :
    Calls Try.prog 91 #[v] w fun e w' => ∃ v', e = .returned v' ∧ Rw (w.heap.size ≤ ·) w' 2 v' xs ∧ Below w.heap.size w w' := by
  obtain ⟨A, N, c, rfl, h1, h2, h3, h4⟩ := h
  obtain ⟨i0, hinf, hz0, hz1, hz2⟩ := info_parts info134
  have hsz : (Try.prog.info? 134).map (·.size) = some 2 := by rw [hinf]; simp [hz1]
  have hN : N ≤ 3000000 := by omega
  have hmk := run_make (P := Try.prog) w 26 134 i0 _ Try.underlying26 hinf hz0 .i64 .i64 (N : Int) ((N : Int) + 2) (by omega) (by omega) (by rw [hz2]; omega) (by omega)
  rw [show ((N : Int)).toNat = N by omega, show ((N : Int) + 2).toNat = N + 2 by omega, hz1] at hmk
  obtain ⟨ROW, hROW⟩ : ∃ r, r = madeCells (Value.cells (Value.agg #[Value.int IntKind.i64 0, Value.int IntKind.i64 0])) ((N + 2) * 2) := ⟨_, rfl⟩
  have hRs : ROW.size = (N + 2) * 2 := by rw [hROW]; simp [madeCells]
  rw [← hROW] at hmk
  obtain ⟨W1, hW1⟩ : ∃ W, W = w.alloc (.cells ROW 134) := ⟨_, rfl⟩
  have n1 : W1.heap[w.heap.size]? = some (.cells ROW 134 (0, 0)) := by rw [hW1]; exact heap_alloc_new w _
  have hcp := copy_in (ty := 3) (t := 26) (c := c) Try.underlying26 hsz n1 hRs h1 h2 (fun hp => by
    obtain ⟨b, o, e, _, p2, p3⟩ := h3 hp
    exact ⟨b, o, e, fun j u hj => by rw [hW1, World.cell?_alloc_lt _ _ _ p2]; exact p3 j u hj⟩) h4
  have HT : Hid (TwI w.heap.size N 2 134 w xs (W1.setCells w.heap.size 0 xs)) := Lib.hid (TwI.start (by rw [hW1]; exact (Below.refl _ _).alloc (Nat.le_refl _) _) n1 hRs h1)
  have HX := Lib.hid (And.intro h1 h4)
  obtain ⟨W2, hW2⟩ : ∃ W, W = W1.setCells w.heap.size 0 xs := ⟨_, rfl⟩
  rw [← hW2] at HT hcp
  rw [hW1] at hcp
  have hi1 : (0 : Int) ≤ (N : Int) := by omega
  have hw2 : IntKind.i64.wrap ((N : Int) + 2) = (N : Int) + 2 := wrapi _ (by omega)
  clear h1 h2 h3 h4 hinf hz0 hz1 hz2 n1 hRs hROW hW2 hW1
  go_enter Try.func91, Try.ntmps91
  go_wp2_with fail
  go_loopg [5] 2 (fun k v5 wr => ∃ i : Nat, v5 = .int .i64 (i : Int) ∧ i + k = N + 2 ∧ Hid (TwI w.heap.size N 2 134 w xs wr ∧ N ≤ i))
  case atStart => exact ⟨N, rfl, rfl, Lib.hid ⟨HT.out, Nat.le_refl _⟩⟩
  case round =>
    clear HT
    obtain ⟨i, rfl, hik, HI⟩ := hrel
    by_cases hlt : i < N + 2
    · have hNi := HI.out.2
      have M := mark98 i (by omega) wr
      have i1 : (0 : Int) ≤ (i : Int) := by omega
      have i2 : (i : Int) < (N : Int) + 2 := by omega
      have HL := Lib.hid (And.intro hlt hNi)
      have HS := Lib.hid hsz
      clear hNi hsz
      go_wp2_with (go_at_call 98; with_reducible refine M.mono ?_)
      rintro e w2 ⟨cs, rfl, hcs, hc1, hB2⟩
      have HI2 := HI.out.1.keep hB2
      obtain ⟨cur, hcu, hcz, hcj⟩ := HI2.out
      have HC := Lib.hid (And.intro HI2 (And.intro hcu (And.intro (show i * 2 + 2 ≤ cur.size by omega) (And.intro hcs hc1))))
      clear hcu hcz hcj HI2 hcs hc1 hB2 M
      go_wp2_with (with_reducible refine wpList_store_part rfl 134 _ _ rfl rfl w.heap.size (i * 2) 2 rfl 134 cur cs rfl HC.out.2.1 HS.out HC.out.2.2.2.1 HC.out.2.2.1 HC.out.2.2.2.2 ?_)
      go_roundg (N + 2 - (i + 1))
      case measure => have := HL.out.1; omega
      case rel => exact ⟨i + 1, by go_num, by have := HL.out.1; omega, Lib.hid ⟨HC.out.1.put HC.out.2.1 HL.out.2 HC.out.2.2.1 HC.out.2.2.2.1, Nat.le_succ_of_le HL.out.2⟩⟩
    · obtain rfl : i = N + 2 := by omega
      go_wp2_with fail
      go_ret
      exact ⟨_, rfl, HI.out.1.rw HX.out.1 HX.out.2, HI.out.1.below⟩
end Go.Proofs.Ythahadhdhpcndaa
