/- Walks of the functions of package index that answer lists, and of Common. -/
import Derived.Test.YtopkanokpfhmmaaDoorIdx
import Derived.Deep.LoopGhost
namespace Go.Proofs.YtopkanokpfhmmaaDoor
open Go.RowKit

theorem Tab.below {w w' : World} (h : Tab w) {B : Nat} (hB : 0 < B) (hb : Below B w w') : Tab w' := fun j hj => (hb.cell (p := ⟨0, j, none⟩) hB).trans (h j hj)
theorem Tab.pos {w : World} (h : Tab w) : 0 < w.heap.size := World.block_lt_of_cell? w _ (h 0 (by decide))
theorem info3 : (Tryd.prog.info? 3).map (fun i => (i.zero, i.size, i.bytes)) = some (some (.int .i64 0), 1, 8) := by kernel_rfl

/-- A list of ints of the call's own. -/
def OwnI (w : World) (base : Nat) (v : Value) (l : List Int) : Prop := w.ownsRow base 3 1 v l.length (l.map (Value.int .i64))
/-- A list of ints that can be read. -/
def Ints (w : World) (v : Value) (l : List Int) : Prop :=
  ∃ A c, v = .slice A l.length c ∧ l.length ≤ c ∧ c ≤ maxLen ∧ (0 < l.length → ∃ b off, A = some ⟨b, off, none⟩ ∧ ∀ i x, l[i]? = some x → w.cell? ⟨b, off + i, none⟩ = some (.int .i64 x))
theorem OwnI.ints {w : World} {base : Nat} {v : Value} {l : List Int} (h : OwnI w base v l) : Ints w v l := by
  rcases h.2 with ⟨rfl, h0⟩ | ⟨g, cap, cur, rfl, hb, hh, hn, hm, hs, ht⟩
  · obtain rfl := List.eq_nil_of_length_eq_zero h0
    exact ⟨none, 0, rfl, by simp, by decide, by simp⟩
  · refine ⟨_, cap, rfl, hn, hm, fun _ => ⟨g, 0, rfl, fun i x hi => ?_⟩⟩
    have := h.cells (g := g) rfl i (.int .i64 x) (by rw [List.getElem?_map, hi]; rfl)
    rw [Addr.add_lit] at this
    simpa using this
theorem Ints.below {w w' : World} {v : Value} {l : List Int} (h : Ints w v l) (hb : Below w.heap.size w w') : Ints w' v l := by
  obtain ⟨A, c, rfl, h1, h2, h3⟩ := h
  refine ⟨A, c, rfl, h1, h2, fun h0 => ?_⟩
  obtain ⟨b, off, rfl, hc⟩ := h3 h0
  refine ⟨b, off, rfl, fun i x hi => ?_⟩
  have := hc i x hi
  rw [hb.cell (World.block_lt_of_cell? w _ this)]
  exact this

/-- 'l = append(l, x)': the row has one more. -/
theorem push {ops : Array Oper} {rest : List Oper} {o : Oper} {a : Act} {Q : Exit → Act → World → Prop} {w0 w : World} {B : Nat} {v : Value} {l : List Int} {u : Int}
    (hgd : o.guard = none) (s x : Operand) (ho : o.op = .call { callee := .builtin .append, args := #[s, x], argTypes := #[32, 32] })
    (hs : a.eval s = v) (hx : a.eval x = .slice (some ⟨w.heap.size, 0, none⟩) 1 1) (hown : Hid (OwnI w B v l)) (hb : Below B w0 w) (hB : B ≤ w.heap.size) (hl : l.length < 4294967296)
    (h : ∀ v' w', OwnI w' B v' (l ++ [u]) → Below B w0 w' → B ≤ w'.heap.size → wpList Tryd.prog ops Q rest (a.put o.dst v') w') :
    wpList Tryd.prog ops Q (o :: rest) a (w.alloc (.cells #[.int .i64 u] 3)) := by
  obtain ⟨i0, hinf, hz0, hz1, hz2⟩ := info_parts info3
  have hown1 : w.ownsRow B 3 1 v l.length (l.map (Value.int .i64)) := hown.out
  have hal : Below B w0 (w.alloc (.cells #[.int .i64 u] 3)) := hb.alloc hB _
  refine wpList_append_own _ hgd s x 32 ho B 3 i0 (.int .i64 0) 1 8 Tryd.underlying32 hinf hz0 hz1 hz2 rfl (by decide) v l.length (l.map (Value.int .i64)) hs (hown1.alloc _) ⟨w.heap.size, 0, none⟩ 1 1 [.int .i64 u] hx rfl (cell_one_new _ _ _)
    (by simp [Value.oneCell']) (by unfold maxLen; omega) (by omega) (by simp; omega) (fun v' w' h1 h2 _ => h v' w' ?_ ?_ ?_)
  · show w'.ownsRow B 3 1 v' _ _
    rw [List.length_append, List.map_append]
    exact h1
  · exact hal.grown h2 (by simp; omega) (fun k hk => (hown1.lt k hk).1)
  · have := h2.size
    simp at this
    omega
/-- 'append(l, x...)', whatever x is: nil, empty, any list that can be read. -/
theorem run_append_ints {w0 w : World} {B : Nat} {v x : Value} {l m : List Int} (ty : TypeId) (hown : OwnI w B v l) (hx : Ints w x m) (hb : Below B w0 w) (hB : B ≤ w.heap.size) (hl : l.length + m.length < 4294967296) :
    ∃ v' w', (Builtin.append_ #[32, 32] ty #[v, x]).run Tryd.prog w = .ok v' w' ∧ OwnI w' B v' (l ++ m) ∧ Below B w0 w' ∧ B ≤ w'.heap.size := by
  obtain ⟨i0, hinf, hz0, hz1, hz2⟩ := info_parts info3
  obtain ⟨A, c, rfl, h1, h2, h3⟩ := hx
  by_cases h0 : m = []
  · subst h0
    have hr : (Builtin.append_ #[32, 32] ty #[v, .slice A ([] : List Int).length c]).run Tryd.prog w = .ok v w := by
      rcases hown.2 with ⟨rfl, hn⟩ | ⟨g, cap, cur, rfl, hg, hh, hc, _⟩
      · cases A <;> simp [Builtin.append_, run_underlying Tryd.underlying32, run_underlying Tryd.underlying3, sizeOf, typeInfo, hinf, Builtin.lenOf, Builtin.firstCells, loadCells, loadCellsFrom]
      · have hc' : l.length ≤ cap := hc
        cases A <;> simp [Builtin.append_, run_underlying Tryd.underlying32, run_underlying Tryd.underlying3, sizeOf, typeInfo, hinf, Builtin.lenOf, Builtin.firstCells, loadCells, loadCellsFrom, hc', storeCells]
    exact ⟨v, w, hr, by rw [List.append_nil]; exact hown, hb, hB⟩
  · have hlen : 0 < m.length := List.length_pos_iff.2 h0
    obtain ⟨b, off, rfl, hcell⟩ := h3 hlen
    obtain ⟨v', w', hr, ho, hg, _⟩ := run_append_own (P := Tryd.prog) w B 32 ty 3 i0 (.int .i64 0) 1 8 Tryd.underlying32 hinf hz0 hz1 hz2 rfl (by decide) v l.length (l.map (Value.int .i64)) hown ⟨b, off, none⟩ m.length c (m.map (Value.int .i64)) (by simp)
      (fun j u hu => by
        rw [List.getElem?_map, Option.map_eq_some_iff] at hu
        obtain ⟨z, hz, rfl⟩ := hu
        rw [Addr.add_lit]
        exact hcell j z hz) (by intro u hu; rw [List.mem_map] at hu; obtain ⟨z, _, rfl⟩ := hu; rfl) (by unfold maxLen; omega) (by omega) hB
    refine ⟨v', w', hr, ?_, hb.grown hg hB (fun k hk => (World.ownsRow.lt hown k hk).1), Nat.le_trans hB hg.size⟩
    show w'.ownsRow B 3 1 v' _ _
    rw [List.length_append, List.map_append]
    exact ho
theorem append_ints {ops : Array Oper} {rest : List Oper} {o : Oper} {a : Act} {Q : Exit → Act → World → Prop} {w0 w : World} {B : Nat} {v x : Value} {l m : List Int}
    (hgd : o.guard = none) (s y : Operand) (ho : o.op = .call { callee := .builtin .append, args := #[s, y], argTypes := #[32, 32] })
    (hs : a.eval s = v) (hy : a.eval y = x) (hown : Hid (OwnI w B v l)) (hx : Ints w x m) (hb : Below B w0 w) (hB : B ≤ w.heap.size) (hl : l.length + m.length < 4294967296)
    (h : ∀ v' w', OwnI w' B v' (l ++ m) → Below B w0 w' → B ≤ w'.heap.size → wpList Tryd.prog ops Q rest (a.put o.dst v') w') :
    wpList Tryd.prog ops Q (o :: rest) a w := by
  obtain ⟨v', w', hr, h1, h2, h3⟩ := run_append_ints o.type hown.out hx hb hB hl
  refine wpList_plain hgd fun K hK => ?_
  unfold Oper.wp execOp
  simp only [ho, resolve, invoke, builtin, Sem.run_bind, Sem.run_pure, Result.andThen_ok, List.map_toArray, List.map_cons, List.map_nil, hs, hy, hr]
  exact hK _ _ (h v' w' h1 h2 h3)
/-- x, and what stands above it: the levels c to c + n - 1. -/
def upL (x c n : Nat) : List Int := (List.range n).map fun i => ((anc x (c + i) : Nat) : Int)
theorem upL_length (x c n : Nat) : (upL x c n).length = n := by simp [upL]
theorem upL_succ (x c n : Nat) : upL x c (n + 1) = upL x c n ++ [((anc x (c + n) : Nat) : Int)] := by simp [upL, List.range_succ]

theorem own_lower {w : World} {B B' : Nat} {v : Value} {l : List Int} (h : B' ≤ B) (ho : OwnI w B v l) : OwnI w B' v l := by
  refine ⟨ho.1, ?_⟩
  rcases ho.2 with h1 | ⟨g, cap, cur, h1, h2, h3⟩
  · exact .inl h1
  · exact .inr ⟨g, cap, cur, h1, by omega, h3⟩
set_option maxHeartbeats 1000000 in
theorem up_no (x l : Int) (w : World) (hl : l ≤ 9223372036854775807) (h : inT x l = false) :
    Calls Tryd.prog 45 #[.int .i64 x, .int .i64 l] w fun e w' => ∃ v, e = .returned v ∧ OwnI w' w.heap.size v [] ∧ Below w.heap.size w w' := by
  have hi := in_ x l w hl
  rw [h] at hi
  clear h
  go_enter Tryd.func45, Tryd.ntmps45
  go_wp2_with (go_at_call 58; refine hi.mono ?_; rintro e w' ⟨rfl, rfl⟩)
  refine wp_loop_rounds 1 ?_
  rw [rounds_succ]
  go_wp2
  go_ret
  exact ⟨_, rfl, World.ownsRow_nil _ _ _ _, Below.refl _ _⟩

set_option maxHeartbeats 1000000 in
theorem up_yes (x c j d : Nat) (hd : d ≤ 30) (hN : Nd x c j) (hx : x + 1 < 2 ^ (d + 1)) (w : World) (hT : Tab w) :
    Calls Tryd.prog 45 #[.int .i64 x, .int .i64 (2 ^ d : Nat)] w fun e w' => ∃ v, e = .returned v ∧ OwnI w' w.heap.size v (upL x c (d - c + 1)) ∧ Below w.heap.size w w' := by
  have hi := in_ x (2 ^ d : Nat) w (by have := pow_le hd; omega)
  rw [inT_nd hd hx] at hi
  have hcd : c ≤ d := by have := hN.level_lt hx; omega
  obtain ⟨i0, hinf, hz0, hz1, hz2⟩ := info_parts info3
  have hpos := hT.pos
  have hP : ∀ n, n < d - c → ∀ w, Tab w → Calls Tryd.prog 59 #[.int .i64 (anc x (c + n) : Nat), .int .i64 (2 ^ d : Nat)] w fun e w' => e = .returned (.tuple #[.int .i64 (anc x (c + n + 1) : Nat), .bool true]) ∧ w = w' := fun n hn w hT => by
    have := parent_yes (anc x (c + n)) (c + n) _ d hd (anc_nd x (c + n)) (anc_lt hx (by omega)) (by omega) w hT
    rw [anc_anc _ _ _ (by omega)] at this
    exact this
  have hR : ∀ w, Calls Tryd.prog 59 #[.int .i64 (anc x d : Nat), .int .i64 (2 ^ d : Nat)] w fun e w' => e = .returned (.tuple #[.int .i64 0, .bool false]) ∧ w = w' := fun w => by
    have hp := pow_le hd
    have hp0 := two_pos d
    have e : ((anc x d : Nat) : Int) = ((2 ^ d : Nat) : Int) - 1 := by rw [anc_root x d (by omega)]; omega
    rw [e]
    refine parent_root _ w (by omega) (by omega) ?_
    rw [← e]
    exact inT_nd hd (anc_lt hx (Nat.le_refl d))
  generalize ((2 ^ d : Nat) : Int) = l at *
  go_enter Tryd.func45, Tryd.ntmps45
  go_wp2_with (go_at_call 58; refine hi.mono ?_; rintro e w' ⟨rfl, rfl⟩)
  go_loopg [0, 5, 6] (d - c + 1) (fun g v0 v5 v6 wr => ∃ n : Nat, n + g = d - c + 1 ∧ OwnI wr w.heap.size v5 (upL x c n) ∧ Below w.heap.size w wr ∧ ((n = d - c + 1 ∧ v6 = .bool false ∧ v0 = .int .i64 0) ∨ (n ≤ d - c ∧ v6 = .bool true ∧ v0 = .int .i64 (anc x (c + n) : Nat))))
  case atStart => exact ⟨0, by omega, World.ownsRow_nil _ _ _ _, Below.refl _ _, .inr ⟨by omega, rfl, by rw [Nat.add_zero, hN.anc_self]⟩⟩
  case round =>
    obtain ⟨n, hn, hown, hb, hcase⟩ := hrel
    rcases hcase with ⟨hn1, rfl, rfl⟩ | ⟨hn1, rfl, rfl⟩
    · go_wp2
      go_ret
      exact ⟨_, rfl, by rw [← hn1]; exact hown, hb⟩
    · have hown' := Lib.hid hown
      have HN := Lib.hid hn
      clear hown hn
      obtain ⟨p5, hp5⟩ : ∃ p, p = upL x c n := ⟨_, rfl⟩
      rw [← hp5] at hown'
      have HP5 := Lib.hid hp5
      clear hp5
      have HLEN := Lib.hid (show p5.length = n by rw [HP5.out]; exact upL_length _ _ _)
      have hB := hb.size
      go_wp2_with (at_builtin; refine push rfl _ _ rfl rfl rfl hown' hb hB ?c1 ?_)
      case c1 => have := HLEN.out; omega
      intro v' w' h1 h2 h3
      have h1' : OwnI w' w.heap.size v' (upL x c (n + 1)) := by rw [upL_succ, ← HP5.out]; exact h1
      have H1 := Lib.hid h1'
      clear h1 h1' hown'
      have hTw : Tab w' := hT.below hpos h2
      by_cases hlast : n < d - c
      · go_wp2_with (go_at_call 59; refine (hP n hlast _ hTw).mono ?_; rintro e w' ⟨rfl, rfl⟩)
        go_roundg (gk - 1)
        case rel => exact ⟨n + 1, by have := HN.out; omega, H1.out, h2, .inr ⟨by omega, rfl, by rw [Nat.add_assoc]⟩⟩
        case measure => have := HN.out; omega
      · obtain rfl : n = d - c := by omega
        rw [show c + (d - c) = d by omega]
        go_wp2_with (go_at_call 59; refine (hR _).mono ?_; rintro e w' ⟨rfl, rfl⟩)
        go_roundg (gk - 1)
        case rel => exact ⟨d - c + 1, by have := HN.out; omega, H1.out, h2, .inl ⟨rfl, rfl, rfl⟩⟩
        case measure => have := HN.out; omega

theorem Ints.nil (w : World) : Ints w (.slice none 0 0) [] := ⟨none, 0, rfl, by simp, by decide, by simp⟩
set_option maxHeartbeats 1000000 in
theorem direct_short (x l : Int) (L : List Int) (hL : L.length < 2) (w : World) (hu : Calls Tryd.prog 45 #[.int .i64 x, .int .i64 l] w fun e w' => ∃ v, e = .returned v ∧ OwnI w' w.heap.size v L ∧ Below w.heap.size w w') :
    Calls Tryd.prog 31 #[.int .i64 x, .int .i64 l] w fun e w' => ∃ v, e = .returned v ∧ Ints w' v [] ∧ Below w.heap.size w w' := by
  go_enter Tryd.func31, Tryd.ntmps31
  go_wp2_with (go_at_call 45; refine hu.mono ?_)
  rintro e w1 ⟨v, rfl, ho, hb⟩
  obtain ⟨A, c, rfl, hc, hm, hr⟩ := ho.ints
  have q : decide ((L.length : Int) < 2) = true := decide_eq_true (by omega)
  go_wp2
  go_ret
  exact ⟨_, rfl, Ints.nil _, hb⟩
set_option maxHeartbeats 1000000 in
theorem direct_long (x l : Int) (y : Int) (L : List Int) (hL : 0 < L.length) (w : World) (hu : Calls Tryd.prog 45 #[.int .i64 x, .int .i64 l] w fun e w' => ∃ v, e = .returned v ∧ OwnI w' w.heap.size v (y :: L) ∧ Below w.heap.size w w') :
    Calls Tryd.prog 31 #[.int .i64 x, .int .i64 l] w fun e w' => ∃ v, e = .returned v ∧ Ints w' v L ∧ Below w.heap.size w w' := by
  go_enter Tryd.func31, Tryd.ntmps31
  go_wp2_with (go_at_call 45; refine hu.mono ?_)
  rintro e w1 ⟨v, rfl, ho, hb⟩
  obtain ⟨A, c, rfl, hc, hm, hr⟩ := ho.ints
  obtain ⟨b, off, rfl, hcell⟩ := hr (by simp)
  have HC := Lib.hid hcell
  clear hr hcell hu ho
  obtain ⟨n, hn⟩ : ∃ n, n = (y :: L).length := ⟨_, rfl⟩
  rw [← hn] at hc ⊢
  have HN := Lib.hid hn
  have q0 : 2 ≤ n := by rw [hn]; simp; omega
  clear hn
  have q1 : n ≤ 9223372036854775807 := by unfold maxLen at hm; omega
  have q : decide ((n : Int) < 2) = false := decide_eq_false (by omega)
  go_wp2
  go_ret
  have hn1 : n - 1 = L.length := by have := HN.out; simp at this; omega
  refine ⟨_, rfl, ⟨_, L.length, by rw [hn1]; rfl, Nat.le_refl _, by unfold maxLen; omega, fun _ => ⟨b, off + 1, rfl, fun i z hz => ?_⟩⟩, hb⟩
  have := HC.out (i + 1) z (by simpa using hz)
  rw [show off + 1 + i = off + (i + 1) by omega]
  exact this

/-- The other children of the parents of x's levels c to c + n - 1. -/
def coL (x c n : Nat) : List Int := (List.range n).map fun i => 2 * ((anc x (c + i + 1) : Nat) : Int) - ((anc x (c + i) : Nat) : Int)
theorem coL_length (x c n : Nat) : (coL x c n).length = n := by simp [coL]
theorem coL_succ (x c n : Nat) : coL x c (n + 1) = coL x c n ++ [2 * ((anc x (c + n + 1) : Nat) : Int) - ((anc x (c + n) : Nat) : Int)] := by simp [coL, List.range_succ]
theorem upL_get (x c n i : Nat) (h : i < n) : (upL x c n)[i]? = some ((anc x (c + i) : Nat) : Int) := by simp [upL, h]

set_option maxHeartbeats 1000000 in
theorem copath_no (x l : Int) (w : World) (hu : Calls Tryd.prog 45 #[.int .i64 x, .int .i64 l] w fun e w' => ∃ v, e = .returned v ∧ OwnI w' w.heap.size v [] ∧ Below w.heap.size w w') :
    Calls Tryd.prog 50 #[.int .i64 x, .int .i64 l] w fun e w' => ∃ v, e = .returned v ∧ OwnI w' w.heap.size v [] ∧ Below w.heap.size w w' := by
  go_enter Tryd.func50, Tryd.ntmps50
  go_wp2_with (go_at_call 45; refine hu.mono ?_)
  rintro e w1 ⟨v, rfl, ho, hb⟩
  obtain ⟨A, c, rfl, hc, hm, hr⟩ := ho.ints
  simp only [List.length_nil]
  go_wp2_with fail
  refine wp_loop_rounds 1 ?_
  rw [rounds_succ]
  go_wp2
  go_ret
  exact ⟨_, rfl, World.ownsRow_nil _ _ _ _, hb⟩
set_option maxHeartbeats 1000000 in
theorem copath_yes (x c j d : Nat) (hd : d ≤ 30) (hN : Nd x c j) (hx : x + 1 < 2 ^ (d + 1)) (w : World) (hT : Tab w) :
    Calls Tryd.prog 50 #[.int .i64 x, .int .i64 (2 ^ d : Nat)] w fun e w' => ∃ v, e = .returned v ∧ OwnI w' w.heap.size v (coL x c (d - c)) ∧ Below w.heap.size w w' := by
  have hu := up_yes x c j d hd hN hx w hT
  have hcd : c ≤ d := by have := hN.level_lt hx; omega
  have hpos := hT.pos
  have hS : ∀ n, n < d - c → ∀ w, Tab w → Calls Tryd.prog 62 #[.int .i64 (anc x (c + n) : Nat), .int .i64 (2 ^ d : Nat)] w fun e w' => e = .returned (.tuple #[.int .i64 (2 * (anc x (c + n + 1) : Nat) - (anc x (c + n) : Nat)), .bool true]) ∧ w = w' := fun n hn w hT => by
    have := sibling_yes (anc x (c + n)) (c + n) _ d hd (anc_nd x (c + n)) (anc_lt hx (by omega)) (by omega) w hT
    rw [anc_anc _ _ _ (by omega)] at this
    exact this
  have hR : ∀ w, Calls Tryd.prog 62 #[.int .i64 (anc x d : Nat), .int .i64 (2 ^ d : Nat)] w fun e w' => e = .returned (.tuple #[.int .i64 0, .bool false]) ∧ w = w' := fun w => by
    have hp := pow_le hd
    have hp0 := two_pos d
    have e : ((anc x d : Nat) : Int) = ((2 ^ d : Nat) : Int) - 1 := by rw [anc_root x d (by omega)]; omega
    rw [e]
    refine sibling_no _ _ w (parent_root _ w (by omega) (by omega) ?_)
    rw [← e]
    exact inT_nd hd (anc_lt hx (Nat.le_refl d))
  generalize ((2 ^ d : Nat) : Int) = l at *
  go_enter Tryd.func50, Tryd.ntmps50
  go_wp2_with (go_at_call 45; refine hu.mono ?_)
  rintro e w1 ⟨v, rfl, ho, hb⟩
  obtain ⟨A, cc, rfl, hc, hm, hr⟩ := ho.ints
  rw [upL_length] at hc hr ⊢
  obtain ⟨b, off, rfl, hcell⟩ := hr (by omega)
  have HC := Lib.hid hcell
  have hbw : b < w1.heap.size := World.block_lt_of_cell? w1 _ (hcell 0 _ (upL_get x c _ 0 (by omega)))
  clear hr hcell hu ho hc
  have hs1 := hb.size
  go_wp2_with fail
  go_loopw [5, 14] (fun v5 v14 wr => ∃ n : Nat, n ≤ d - c + 1 ∧ v14 = .int .i64 n ∧ OwnI wr w1.heap.size v5 (coL x c (min n (d - c))) ∧ Below w1.heap.size w1 wr) (fun _ v14 _ => d - c + 1 - (intOf v14).toNat)
  case atStart => exact ⟨0, by omega, rfl, by rw [Nat.zero_min]; exact World.ownsRow_nil _ _ _ _, Below.refl _ _⟩
  case round =>
    obtain ⟨n, hn, rfl, hown, hb1⟩ := hrel
    have hB := hb1.size
    have hTw : Tab wr := hT.below hpos (hb.trans (hb1.mono (by omega)))
    by_cases hlt : n < d - c + 1
    · have hcn : wr.cell? ⟨b, off + n, none⟩ = some (.int .i64 (anc x (c + n) : Nat)) := (hb1.cell (p := ⟨b, off + n, none⟩) hbw).trans (HC.out n _ (upL_get x c _ n hlt))
      by_cases hlast : n < d - c
      · rw [Nat.min_eq_left (by omega)] at hown
        have hown' := Lib.hid hown
        clear hown
        obtain ⟨p5, hp5⟩ : ∃ p, p = coL x c n := ⟨_, rfl⟩
        rw [← hp5] at hown'
        have HP5 := Lib.hid hp5
        clear hp5
        have HLEN := Lib.hid (show p5.length = n by rw [HP5.out]; exact coL_length _ _ _)
        go_wp2_with (first | (go_at_call 62; refine (hS n hlast _ hTw).mono ?_; rintro e w' ⟨rfl, rfl⟩) | (at_builtin; refine push rfl _ _ rfl rfl rfl hown' hb1 hB ?c1 ?_))
        case c1 => have := HLEN.out; omega
        intro v' w' h1 h2 h3
        have h1' : OwnI w' w1.heap.size v' (coL x c (n + 1)) := by rw [coL_succ, ← HP5.out]; exact h1
        have H1 := Lib.hid h1'
        clear h1 h1' hown'
        go_wp2
        go_roundw
        case rel => exact ⟨n + 1, by omega, by go_num, by rw [Nat.min_eq_left (by omega)]; exact H1.out, h2⟩
        case measure => simp [intOf]; omega
      · obtain rfl : n = d - c := by omega
        rw [Nat.min_self] at hown
        have H1 := Lib.hid hown
        rw [show c + (d - c) = d by omega] at hcn
        go_wp2_with (go_at_call 62; refine (hR _).mono ?_; rintro e w' ⟨rfl, rfl⟩)
        go_roundw
        case rel => exact ⟨d - c + 1, by omega, by go_num, by rw [Nat.min_eq_right (by omega)]; exact H1.out, hb1⟩
        case measure => simp [intOf]
    · obtain rfl : n = d - c + 1 := by omega
      rw [Nat.min_eq_right (by omega)] at hown
      have H1 := Lib.hid hown
      go_wp2
      go_ret
      exact ⟨_, rfl, by obtain ⟨h1, h2⟩ := H1.out; exact own_lower hs1 ⟨h1, h2⟩, hb.trans (hb1.mono (by omega))⟩

/-- The level where b's row and a's meet, from the level c on. -/
def meet (a b cb : Nat) : Nat → Nat → Nat
  | 0, k => k
  | n + 1, k => if cb ≤ k ∧ anc b k = anc a k then k else meet a b cb n (k + 1)
end Go.Proofs.YtopkanokpfhmmaaDoor
