/- Lists of plain rows: reading, and slices.Clone. -/
import Derived.Test.YthahadhdhpcndaaDeep
namespace Go.Proofs.Ythahadhdhpcndaa
open Go Go.RowKit
set_option linter.unusedVariables false
set_option linter.unusedSimpArgs false

/-- A list of plain elements of sz cells each reads as these cells; its block is one of 'ok'. -/
def Rw (ok : Nat → Prop) (w : World) (sz : Nat) (v : Value) (xs : List Value) : Prop := ∃ A n c, v = .slice A n c ∧ xs.length = n * sz ∧ (A = none → n = 0 ∧ c = 0) ∧ (0 < n → ∃ b o, A = some ⟨b, o, none⟩ ∧ ok b ∧ b < w.heap.size ∧ ∀ j u, xs[j]? = some u → w.cell? ⟨b, o + j, none⟩ = some u) ∧ ∀ u ∈ xs, u.oneCell' = true
/-- These blocks stay. -/
def Kn (ok : Nat → Prop) (w w' : World) : Prop := w.heap.size ≤ w'.heap.size ∧ ∀ b, b < w.heap.size → ok b → w'.heap[b]? = w.heap[b]?
theorem Kn.of_below {ok : Nat → Prop} {w w' : World} (h : Below w.heap.size w w') : Kn ok w w' := ⟨h.size, fun b hb _ => h.block b hb⟩
theorem Kn.refl (ok : Nat → Prop) (w : World) : Kn ok w w := ⟨Nat.le_refl _, fun _ _ _ => rfl⟩
theorem Kn.trans {ok : Nat → Prop} {a b c : World} (h1 : Kn ok a b) (h2 : Kn ok b c) : Kn ok a c :=
  ⟨Nat.le_trans h1.1 h2.1, fun k hk hp => (h2.2 k (Nat.lt_of_lt_of_le hk h1.1) hp).trans (h1.2 k hk hp)⟩
theorem Kn.setCell {ok : Nat → Prop} (w : World) (g i : Nat) (u : Value) (h : ¬ ok g) : Kn ok w (w.setCell ⟨g, i, none⟩ u) :=
  ⟨by simp, fun b _ hb => heap_setCell_other w ⟨g, i, none⟩ b u (fun e => h (by have e : b = g := e; rw [← e]; exact hb))⟩
theorem Kn.setRow {ok : Nat → Prop} (w : World) (g : Nat) (vs : Array Value) (h : ¬ ok g) : Kn ok w (w.setRow g vs) :=
  ⟨by simp, fun b _ hb => setRow_ne (fun e => h (by rw [← e]; exact hb))⟩
theorem Rw.keep {ok : Nat → Prop} {sz : Nat} {w w' : World} {v : Value} {xs : List Value} (h : Rw ok w sz v xs) (hk : Kn ok w w') : Rw ok w' sz v xs := by
  obtain ⟨A, n, c, rfl, h1, h2, h3, h4⟩ := h
  refine ⟨A, n, c, rfl, h1, h2, fun hp => ?_, h4⟩
  obtain ⟨b, o, rfl, p1, p2, p3⟩ := h3 hp
  have hb := hk.2 b p2 p1
  exact ⟨b, o, rfl, p1, Nat.lt_of_lt_of_le p2 hk.1, fun j u hj => (World.cell?_of_block (a := ⟨b, o + j, none⟩) hb).trans (p3 j u hj)⟩
theorem Rw.mono {ok ok' : Nat → Prop} {sz : Nat} {w : World} {v : Value} {xs : List Value} (h : Rw ok w sz v xs) (hk : ∀ b, b < w.heap.size → ok b → ok' b) : Rw ok' w sz v xs := by
  obtain ⟨A, n, c, rfl, h1, h2, h3, h4⟩ := h
  refine ⟨A, n, c, rfl, h1, h2, fun hp => ?_, h4⟩
  obtain ⟨b, o, rfl, p1, p2, p3⟩ := h3 hp
  exact ⟨b, o, rfl, hk b p2 p1, p2, p3⟩
theorem add_off (b o k : Nat) : (⟨b, o, none⟩ : Addr).add k = ⟨b, o + k, none⟩ := by
  cases k with
  | zero => simp [Addr.add]
  | succ k => simp [Addr.add]
theorem lt_of_some {w : World} {g : Nat} {o : Obj} (h : w.heap[g]? = some o) : g < w.heap.size := (Array.getElem?_eq_some_iff.1 h).1
/-- A row of the call's own reads so. -/
theorem Rw.of_own {B E sz n : Nat} {w : World} {v : Value} {xs : List Value} (h : w.ownsRow B E sz v n xs) (h1 : ∀ u ∈ xs, u.oneCell' = true) : Rw (B ≤ ·) w sz v xs := by
  rcases h.2 with ⟨rfl, rfl⟩ | ⟨g, cap, cur, rfl, h2, h3, h4, h5, h6, h7⟩
  · exact ⟨none, 0, 0, rfl, h.1, fun _ => ⟨rfl, rfl⟩, fun hp => absurd hp (by omega), h1⟩
  · refine ⟨some ⟨g, 0, none⟩, n, cap, rfl, h.1, (fun e => by cases e), (fun _ => ⟨g, 0, rfl, h2, lt_of_some h3, fun j u hj => ?_⟩), h1⟩
    have hlt : j < n * sz := by have := (List.getElem?_eq_some_iff.1 hj).1; rw [h.1] at this; exact this
    rw [← h7, List.getElem?_take_of_lt hlt] at hj
    rw [Nat.zero_add, cell_of_row w g j _ _ _ h3]
    simpa using hj
theorem info127 : (Try.prog.info? 127).map (fun i => (i.zero, i.size, i.bytes)) = some (some (.agg #[.int .i64 0, .int .i64 0, .int .i64 0]), 3, 24) := by kernel_rfl
theorem info131 : (Try.prog.info? 131).map (fun i => (i.zero, i.size, i.bytes)) = some (some (.agg #[.int .i64 0, .int .i64 0, .int .i64 0]), 3, 24) := by kernel_rfl
theorem info134 : (Try.prog.info? 134).map (fun i => (i.zero, i.size, i.bytes)) = some (some (.agg #[.int .i64 0, .int .i64 0]), 2, 16) := by kernel_rfl
theorem info3 : (Try.prog.info? 3).map (fun i => (i.zero, i.size, i.bytes)) = some (some (.int .i64 0), 1, 8) := by kernel_rfl
set_option maxHeartbeats 1000000 in
set_option maxRecDepth 100000 in
theorem clone79 {ok : Nat → Prop} (v : Value) (xs : List Value) (w : World) (h : Rw ok w 3 v xs) (hs : xs.length ≤ 3000000) :
    Calls Try.prog 79 #[v] w fun e w' => ∃ v', e = .returned v' ∧ Rw (w.heap.size ≤ ·) w' 3 v' xs ∧ Below w.heap.size w w' := by
  obtain ⟨A, n, c, rfl, h1, h2, h3, h4⟩ := h
  obtain ⟨i0, hinf, hz0, hz1, hz2⟩ := info_parts info127
  cases A with
  | none =>
    obtain ⟨rfl, rfl⟩ := h2 rfl
    obtain rfl : xs = [] := List.length_eq_zero_iff.1 (by omega)
    have hq := Lib.run_eql_slice_nil (P := Try.prog) (w := w) (t := 23) (e := 127) (a := none) (n := 0) (c := 0) (n' := 0) (c' := 0) Try.underlying23
    go_enter Try.func79, Try.ntmps79
    go_wp2
    go_ret
    exact ⟨_, rfl, ⟨none, 0, 0, rfl, rfl, fun _ => ⟨rfl, rfl⟩, fun hp => absurd hp (by omega), h4⟩, Below.refl _ _⟩
  | some a =>
    have hq : (binOp .eql 23 (.slice (some a) n c) (.slice none 0 0)).run Try.prog w = .ok (.bool false) w := by
      have := Lib.run_eql_slice_nil (P := Try.prog) (w := w) (t := 23) (e := 127) (a := some a) (n := n) (c := c) (n' := 0) (c' := 0) Try.underlying23
      simpa using this
    have how : (w.alloc (.cells #[] 127)).ownsRow w.heap.size 127 3 (.slice (some ⟨w.heap.size, 0, none⟩) 0 0) 0 [] := ⟨rfl, .inr ⟨w.heap.size, 0, #[], rfl, Nat.le_refl _, heap_alloc_new w _, Nat.le_refl _, by unfold maxLen; omega, rfl, rfl⟩⟩
    have hnews : ∀ j u, xs[j]? = some u → (w.alloc (.cells #[] 127)).cell? (a.add j) = some u := fun j u hj => by
      have hlt := (List.getElem?_eq_some_iff.1 hj).1
      obtain ⟨b, o, e, _, p2, p3⟩ := h3 (by omega)
      injection e with e
      subst e
      rw [add_off, World.cell?_alloc_lt _ _ _ p2]
      exact p3 j u hj
    have HH := Lib.hid (And.intro h1 (And.intro hnews (And.intro h4 (And.intro hs how))))
    clear h1 h2 h3 h4 hs how hnews
    go_enter Try.func79, Try.ntmps79
    go_wp2_with (at_builtin; refine wpList_append_own _ rfl _ _ 23 rfl w.heap.size 127 i0 _ 3 24 Try.underlying23 hinf hz0 hz1 hz2 rfl (by decide) (.slice (some ⟨w.heap.size, 0, none⟩) 0 0) 0 [] rfl HH.out.2.2.2.2 a n c xs rfl HH.out.1 HH.out.2.1 HH.out.2.2.1 ?c1 ?c2 ?c3 ?_)
    case c1 => have := HH.out.1; have := HH.out.2.2.2.1; unfold maxLen; omega
    case c2 => have := HH.out.1; have := HH.out.2.2.2.1; omega
    case c3 => simp
    intro v' w' o1 o2 _
    have HO := Lib.hid o1
    have HB := Lib.hid (((Below.refl w.heap.size w).alloc (Nat.le_refl _) (.cells #[] 127)).grown o2 (by simp) (fun k hk => by simp [Value.ownBlock] at hk; omega))
    clear o1 o2
    obtain ⟨A', n', c', hv'⟩ : ∃ A n c, v' = .slice A n c := by
      rcases HO.out.2 with ⟨e, _⟩ | ⟨g, cap, cur, e, _⟩
      · exact ⟨_, _, _, e⟩
      · exact ⟨_, _, _, e⟩
    subst hv'
    go_wp2_with fail
    go_ret
    have h5 := HO.out
    exact ⟨_, rfl, Rw.of_own h5 HH.out.2.2.1, HB.out⟩
set_option maxHeartbeats 1000000 in
set_option maxRecDepth 100000 in
theorem clone80 {ok : Nat → Prop} (v : Value) (xs : List Value) (w : World) (h : Rw ok w 1 v xs) (hs : xs.length ≤ 3000000) :
    Calls Try.prog 80 #[v] w fun e w' => ∃ v', e = .returned v' ∧ Rw (w.heap.size ≤ ·) w' 1 v' xs ∧ Below w.heap.size w w' := by
  obtain ⟨A, n, c, rfl, h1, h2, h3, h4⟩ := h
  obtain ⟨i0, hinf, hz0, hz1, hz2⟩ := info_parts info3
  cases A with
  | none =>
    obtain ⟨rfl, rfl⟩ := h2 rfl
    obtain rfl : xs = [] := List.length_eq_zero_iff.1 (by omega)
    have hq := Lib.run_eql_slice_nil (P := Try.prog) (w := w) (t := 24) (e := 3) (a := none) (n := 0) (c := 0) (n' := 0) (c' := 0) Try.underlying24
    go_enter Try.func80, Try.ntmps80
    go_wp2
    go_ret
    exact ⟨_, rfl, ⟨none, 0, 0, rfl, rfl, fun _ => ⟨rfl, rfl⟩, fun hp => absurd hp (by omega), h4⟩, Below.refl _ _⟩
  | some a =>
    have hq : (binOp .eql 24 (.slice (some a) n c) (.slice none 0 0)).run Try.prog w = .ok (.bool false) w := by
      have := Lib.run_eql_slice_nil (P := Try.prog) (w := w) (t := 24) (e := 3) (a := some a) (n := n) (c := c) (n' := 0) (c' := 0) Try.underlying24
      simpa using this
    have how : (w.alloc (.cells #[] 3)).ownsRow w.heap.size 3 1 (.slice (some ⟨w.heap.size, 0, none⟩) 0 0) 0 [] := ⟨rfl, .inr ⟨w.heap.size, 0, #[], rfl, Nat.le_refl _, heap_alloc_new w _, Nat.le_refl _, by unfold maxLen; omega, rfl, rfl⟩⟩
    have hnews : ∀ j u, xs[j]? = some u → (w.alloc (.cells #[] 3)).cell? (a.add j) = some u := fun j u hj => by
      have hlt := (List.getElem?_eq_some_iff.1 hj).1
      obtain ⟨b, o, e, _, p2, p3⟩ := h3 (by omega)
      injection e with e
      subst e
      rw [add_off, World.cell?_alloc_lt _ _ _ p2]
      exact p3 j u hj
    have HH := Lib.hid (And.intro h1 (And.intro hnews (And.intro h4 (And.intro hs how))))
    clear h1 h2 h3 h4 hs how hnews
    go_enter Try.func80, Try.ntmps80
    go_wp2_with (at_builtin; refine wpList_append_own _ rfl _ _ 24 rfl w.heap.size 3 i0 _ 1 8 Try.underlying24 hinf hz0 hz1 hz2 rfl (by decide) (.slice (some ⟨w.heap.size, 0, none⟩) 0 0) 0 [] rfl HH.out.2.2.2.2 a n c xs rfl HH.out.1 HH.out.2.1 HH.out.2.2.1 ?c1 ?c2 ?c3 ?_)
    case c1 => have := HH.out.1; have := HH.out.2.2.2.1; unfold maxLen; omega
    case c2 => have := HH.out.1; have := HH.out.2.2.2.1; omega
    case c3 => simp
    intro v' w' o1 o2 _
    have HO := Lib.hid o1
    have HB := Lib.hid (((Below.refl w.heap.size w).alloc (Nat.le_refl _) (.cells #[] 3)).grown o2 (by simp) (fun k hk => by simp [Value.ownBlock] at hk; omega))
    clear o1 o2
    obtain ⟨A', n', c', hv'⟩ : ∃ A n c, v' = .slice A n c := by
      rcases HO.out.2 with ⟨e, _⟩ | ⟨g, cap, cur, e, _⟩
      · exact ⟨_, _, _, e⟩
      · exact ⟨_, _, _, e⟩
    subst hv'
    go_wp2_with fail
    go_ret
    have h5 := HO.out
    exact ⟨_, rfl, Rw.of_own h5 HH.out.2.2.1, HB.out⟩
set_option maxHeartbeats 1000000 in
set_option maxRecDepth 100000 in
theorem clone81 {ok : Nat → Prop} (v : Value) (xs : List Value) (w : World) (h : Rw ok w 3 v xs) (hs : xs.length ≤ 3000000) :
    Calls Try.prog 81 #[v] w fun e w' => ∃ v', e = .returned v' ∧ Rw (w.heap.size ≤ ·) w' 3 v' xs ∧ Below w.heap.size w w' := by
  obtain ⟨A, n, c, rfl, h1, h2, h3, h4⟩ := h
  obtain ⟨i0, hinf, hz0, hz1, hz2⟩ := info_parts info131
  cases A with
  | none =>
    obtain ⟨rfl, rfl⟩ := h2 rfl
    obtain rfl : xs = [] := List.length_eq_zero_iff.1 (by omega)
    have hq := Lib.run_eql_slice_nil (P := Try.prog) (w := w) (t := 25) (e := 131) (a := none) (n := 0) (c := 0) (n' := 0) (c' := 0) Try.underlying25
    go_enter Try.func81, Try.ntmps81
    go_wp2
    go_ret
    exact ⟨_, rfl, ⟨none, 0, 0, rfl, rfl, fun _ => ⟨rfl, rfl⟩, fun hp => absurd hp (by omega), h4⟩, Below.refl _ _⟩
  | some a =>
    have hq : (binOp .eql 25 (.slice (some a) n c) (.slice none 0 0)).run Try.prog w = .ok (.bool false) w := by
      have := Lib.run_eql_slice_nil (P := Try.prog) (w := w) (t := 25) (e := 131) (a := some a) (n := n) (c := c) (n' := 0) (c' := 0) Try.underlying25
      simpa using this
    have how : (w.alloc (.cells #[] 131)).ownsRow w.heap.size 131 3 (.slice (some ⟨w.heap.size, 0, none⟩) 0 0) 0 [] := ⟨rfl, .inr ⟨w.heap.size, 0, #[], rfl, Nat.le_refl _, heap_alloc_new w _, Nat.le_refl _, by unfold maxLen; omega, rfl, rfl⟩⟩
    have hnews : ∀ j u, xs[j]? = some u → (w.alloc (.cells #[] 131)).cell? (a.add j) = some u := fun j u hj => by
      have hlt := (List.getElem?_eq_some_iff.1 hj).1
      obtain ⟨b, o, e, _, p2, p3⟩ := h3 (by omega)
      injection e with e
      subst e
      rw [add_off, World.cell?_alloc_lt _ _ _ p2]
      exact p3 j u hj
    have HH := Lib.hid (And.intro h1 (And.intro hnews (And.intro h4 (And.intro hs how))))
    clear h1 h2 h3 h4 hs how hnews
    go_enter Try.func81, Try.ntmps81
    go_wp2_with (at_builtin; refine wpList_append_own _ rfl _ _ 25 rfl w.heap.size 131 i0 _ 3 24 Try.underlying25 hinf hz0 hz1 hz2 rfl (by decide) (.slice (some ⟨w.heap.size, 0, none⟩) 0 0) 0 [] rfl HH.out.2.2.2.2 a n c xs rfl HH.out.1 HH.out.2.1 HH.out.2.2.1 ?c1 ?c2 ?c3 ?_)
    case c1 => have := HH.out.1; have := HH.out.2.2.2.1; unfold maxLen; omega
    case c2 => have := HH.out.1; have := HH.out.2.2.2.1; omega
    case c3 => simp
    intro v' w' o1 o2 _
    have HO := Lib.hid o1
    have HB := Lib.hid (((Below.refl w.heap.size w).alloc (Nat.le_refl _) (.cells #[] 131)).grown o2 (by simp) (fun k hk => by simp [Value.ownBlock] at hk; omega))
    clear o1 o2
    obtain ⟨A', n', c', hv'⟩ : ∃ A n c, v' = .slice A n c := by
      rcases HO.out.2 with ⟨e, _⟩ | ⟨g, cap, cur, e, _⟩
      · exact ⟨_, _, _, e⟩
      · exact ⟨_, _, _, e⟩
    subst hv'
    go_wp2_with fail
    go_ret
    have h5 := HO.out
    exact ⟨_, rfl, Rw.of_own h5 HH.out.2.2.1, HB.out⟩
set_option maxHeartbeats 1000000 in
set_option maxRecDepth 100000 in
theorem clone82 {ok : Nat → Prop} (v : Value) (xs : List Value) (w : World) (h : Rw ok w 2 v xs) (hs : xs.length ≤ 3000000) :
    Calls Try.prog 82 #[v] w fun e w' => ∃ v', e = .returned v' ∧ Rw (w.heap.size ≤ ·) w' 2 v' xs ∧ Below w.heap.size w w' := by
  obtain ⟨A, n, c, rfl, h1, h2, h3, h4⟩ := h
  obtain ⟨i0, hinf, hz0, hz1, hz2⟩ := info_parts info134
  cases A with
  | none =>
    obtain ⟨rfl, rfl⟩ := h2 rfl
    obtain rfl : xs = [] := List.length_eq_zero_iff.1 (by omega)
    have hq := Lib.run_eql_slice_nil (P := Try.prog) (w := w) (t := 26) (e := 134) (a := none) (n := 0) (c := 0) (n' := 0) (c' := 0) Try.underlying26
    go_enter Try.func82, Try.ntmps82
    go_wp2
    go_ret
    exact ⟨_, rfl, ⟨none, 0, 0, rfl, rfl, fun _ => ⟨rfl, rfl⟩, fun hp => absurd hp (by omega), h4⟩, Below.refl _ _⟩
  | some a =>
    have hq : (binOp .eql 26 (.slice (some a) n c) (.slice none 0 0)).run Try.prog w = .ok (.bool false) w := by
      have := Lib.run_eql_slice_nil (P := Try.prog) (w := w) (t := 26) (e := 134) (a := some a) (n := n) (c := c) (n' := 0) (c' := 0) Try.underlying26
      simpa using this
    have how : (w.alloc (.cells #[] 134)).ownsRow w.heap.size 134 2 (.slice (some ⟨w.heap.size, 0, none⟩) 0 0) 0 [] := ⟨rfl, .inr ⟨w.heap.size, 0, #[], rfl, Nat.le_refl _, heap_alloc_new w _, Nat.le_refl _, by unfold maxLen; omega, rfl, rfl⟩⟩
    have hnews : ∀ j u, xs[j]? = some u → (w.alloc (.cells #[] 134)).cell? (a.add j) = some u := fun j u hj => by
      have hlt := (List.getElem?_eq_some_iff.1 hj).1
      obtain ⟨b, o, e, _, p2, p3⟩ := h3 (by omega)
      injection e with e
      subst e
      rw [add_off, World.cell?_alloc_lt _ _ _ p2]
      exact p3 j u hj
    have HH := Lib.hid (And.intro h1 (And.intro hnews (And.intro h4 (And.intro hs how))))
    clear h1 h2 h3 h4 hs how hnews
    go_enter Try.func82, Try.ntmps82
    go_wp2_with (at_builtin; refine wpList_append_own _ rfl _ _ 26 rfl w.heap.size 134 i0 _ 2 16 Try.underlying26 hinf hz0 hz1 hz2 rfl (by decide) (.slice (some ⟨w.heap.size, 0, none⟩) 0 0) 0 [] rfl HH.out.2.2.2.2 a n c xs rfl HH.out.1 HH.out.2.1 HH.out.2.2.1 ?c1 ?c2 ?c3 ?_)
    case c1 => have := HH.out.1; have := HH.out.2.2.2.1; unfold maxLen; omega
    case c2 => have := HH.out.1; have := HH.out.2.2.2.1; omega
    case c3 => simp
    intro v' w' o1 o2 _
    have HO := Lib.hid o1
    have HB := Lib.hid (((Below.refl w.heap.size w).alloc (Nat.le_refl _) (.cells #[] 134)).grown o2 (by simp) (fun k hk => by simp [Value.ownBlock] at hk; omega))
    clear o1 o2
    obtain ⟨A', n', c', hv'⟩ : ∃ A n c, v' = .slice A n c := by
      rcases HO.out.2 with ⟨e, _⟩ | ⟨g, cap, cur, e, _⟩
      · exact ⟨_, _, _, e⟩
      · exact ⟨_, _, _, e⟩
    subst hv'
    go_wp2_with fail
    go_ret
    have h5 := HO.out
    exact ⟨_, rfl, Rw.of_own h5 HH.out.2.2.1, HB.out⟩
end Go.Proofs.Ythahadhdhpcndaa
