/- rows: the nodes above a leaf, each with what its other child comes to. -/
import Derived.Test.YtopkanokpfhmmaaDoorTU
namespace Go.Proofs.YtopkanokpfhmmaaDoor
open Go Go.RowKit
set_option linter.unusedVariables false
set_option linter.unusedSimpArgs false

theorem info71 : (Tryd.prog.info? 71).map (fun i => (i.zero, i.size, i.bytes)) = some (some (.agg #[.int .i64 0, .slice none 0 0]), 2, 32) := by kernel_rfl
/-- A row: its node, its list's value, what that is. -/
structure Rw1 where
  node : Nat
  v : Value
  l : List Int
def rwCells (L : List Rw1) : List Value := L.flatMap fun r => [.int .i64 r.node, r.v]
theorem rwCells_append (L M : List Rw1) : rwCells (L ++ M) = rwCells L ++ rwCells M := by simp [rwCells]
/-- Rows of the call's own. -/
structure RowsO (w : World) (B : Nat) (vr : Value) (L : List Rw1) : Prop where
  row : w.ownsRow B 71 2 vr L.length (rwCells L)
  own : ∀ r ∈ L, OwnI w B r.v r.l
  nb : ∀ r ∈ L, ∀ q, r.v.ownBlock = some q → vr.ownBlock ≠ some q
  ap : L.Pairwise (fun r s => ∀ q, r.v.ownBlock = some q → s.v.ownBlock ≠ some q)
theorem RowsO.nil (w : World) (B : Nat) : RowsO w B (.slice none 0 0) [] := ⟨World.ownsRow_nil _ _ _ _, fun r h => by simp at h, fun r h => by simp at h, List.Pairwise.nil⟩
theorem row_below {w w' : World} {B E s n : Nat} {v : Value} {xs : List Value} (ho : w.ownsRow B E s v n xs) (hb : Below w.heap.size w w') : w'.ownsRow B E s v n xs := by
  have hlt := World.ownsRow.lt ho
  refine ⟨ho.1, ?_⟩
  rcases ho.2 with h1 | ⟨g, cap, cur, rfl, h2, h3, h4⟩
  · exact .inl h1
  · refine .inr ⟨g, cap, cur, rfl, h2, ?_, h4⟩
    rw [hb.block g (hlt g rfl).2]
    exact h3
theorem RowsO.below {w w' : World} {B : Nat} {vr : Value} {L : List Rw1} (h : RowsO w B vr L) (hb : Below w.heap.size w w') : RowsO w' B vr L :=
  ⟨row_below h.row hb, fun r hr => (h.own r hr).below hb, h.nb, h.ap⟩
theorem RowsO.slice {w : World} {B : Nat} {vr : Value} {L : List Rw1} (h : RowsO w B vr L) : ∃ A c, vr = .slice A L.length c := by
  rcases h.row.2 with ⟨h1, h2⟩ | ⟨b, cap, cur, h1, _⟩
  · exact ⟨none, 0, by rw [h1, h2]⟩
  · exact ⟨_, _, h1⟩
theorem row_lower {w : World} {B B' E s n : Nat} {v : Value} {xs : List Value} (hB : B' ≤ B) (h : w.ownsRow B E s v n xs) : w.ownsRow B' E s v n xs := by
  refine ⟨h.1, ?_⟩
  rcases h.2 with h1 | ⟨g, cap, cur, h1, h2, h3⟩
  · exact .inl h1
  · exact .inr ⟨g, cap, cur, h1, Nat.le_trans hB h2, h3⟩
theorem RowsO.lower {w : World} {B B' : Nat} {vr : Value} {L : List Rw1} (hB : B' ≤ B) (h : RowsO w B vr L) : RowsO w B' vr L :=
  ⟨row_lower hB h.row, fun r hr => own_lower hB (h.own r hr), h.nb, h.ap⟩
/-- One row more. -/
theorem pushRow {ops : Array Oper} {rest : List Oper} {o : Oper} {a : Act} {Q : Exit → Act → World → Prop} {w : World} {B g : Nat} {vr : Value} {L : List Rw1} {x : Nat} {A : Option Addr} {m c : Nat} {l : List Int}
    (hgd : o.guard = none) (s y : Operand) (ho : o.op = .call { callee := .builtin .append, args := #[s, y], argTypes := #[67, 67] })
    (hs : a.eval s = vr) (hy : a.eval y = .slice (some ⟨g, 0, none⟩) 1 1) (hR : Hid (RowsO w B vr L)) (hl : Hid (OwnI w B (.slice A m c) l)) (hlb : Hid (∀ q, (Value.slice A m c).ownBlock = some q → vr.ownBlock ≠ some q ∧ ∀ r ∈ L, r.v.ownBlock ≠ some q)) (hB : B ≤ w.heap.size) (hg : g = w.heap.size) (hn : L.length ≤ 100)
    (h : ∀ v' w', RowsO w' B v' (L ++ [⟨x, .slice A m c, l⟩]) → Below B w w' → wpList Tryd.prog ops Q rest (a.put o.dst v') w') :
    wpList Tryd.prog ops Q (o :: rest) a (w.alloc (.cells #[.int .i64 x, .slice A m c] 71)) := by
  subst hg
  obtain ⟨i0, hinf, hz0, hz1, hz2⟩ := info_parts info71
  have hR' := hR.out
  have hal := World.grownBy_alloc w (.cells #[.int .i64 (x : Int), .slice A m c] 71) vr.ownBlock
  have hvl := World.ownsRow.lt hR'.row
  have hll := World.ownsRow.lt hl.out
  refine wpList_append_lies _ hgd s y 67 ho B 71 i0 (.agg #[.int .i64 0, .slice none 0 0]) 2 32 Tryd.underlying67 hinf hz0 hz1 hz2 rfl (by decide) vr L.length (rwCells L) hs (hR'.row.alloc _) ⟨w.heap.size, 0, none⟩ 1 1 [.int .i64 x, .slice A m c] hy rfl
    (fun j u hj => by
      rw [Addr.add_lit, Nat.zero_add, cell_of_row _ _ _ _ _ _ (heap_alloc_new w _)]
      simpa using hj)
    (by simp [Value.oneCell']) (by decide) (by unfold maxLen; omega) (by omega) (by simp; omega) (w.heap.size + 1) (by simp) (fun g cap w' h1 h2 h3 _ => h _ w' ?_ ?_)
  · have h12 := hal.trans h2
    have keep : ∀ {u : Value} {l : List Int}, OwnI w B u l → (∀ q, u.ownBlock = some q → vr.ownBlock ≠ some q) → OwnI w' B u l := fun hu hq => by
      refine World.ownsRow.kept hu h12 ?_
      rename_i u _
      cases e : u.ownBlock with
      | none => exact .inl rfl
      | some q => exact .inr fun e2 => hq q e e2.symm
    have new : ∀ q, q < w.heap.size → vr.ownBlock ≠ some q → g ≠ q := fun q hq hne e => by
      rcases h3 with e2 | e2
      · exact hne (by rw [e2, e])
      · omega
    refine ⟨?_, fun r hr => ?_, fun r hr q hq => ?_, ?_⟩
    · rw [List.length_append, rwCells_append]
      exact h1
    · rcases List.mem_append.1 hr with hr | hr
      · exact keep (hR'.own r hr) (fun q hq => hR'.nb r hr q hq)
      · obtain rfl := List.mem_singleton.1 hr
        exact keep hl.out (fun q hq => (hlb.out q hq).1)
    · show some g ≠ some q
      intro e
      have e := Option.some.inj e
      rcases List.mem_append.1 hr with hr | hr
      · exact new q (World.ownsRow.lt (hR'.own r hr) q hq).2 (hR'.nb r hr q hq) e
      · obtain rfl := List.mem_singleton.1 hr
        exact new q (hll q hq).2 (hlb.out q hq).1 e
    · rw [List.pairwise_append]
      refine ⟨hR'.ap, List.pairwise_singleton _ _, fun r hr s hs q hq e => ?_⟩
      obtain rfl := List.mem_singleton.1 hs
      exact (hlb.out q e).2 r hr hq
  · exact ((Below.refl B w).alloc hB _).grown h2 (by simp; omega) (fun q hq => (hvl q hq).1)
def rowsE (n : Nat) (F : Nat → Node) (i : Int) : Int := if chk n F = false then 1 else if i < 0 ∨ (lvs n : Int) ≤ i ∨ (F (2 * i.toNat)).pub = 0 then 7 else 0
/-- The first k rows. -/
def rowsK (F : Nat → Node) (i k : Nat) : List (Nat × List Int) := ((List.range k).map fun k => (anc (2 * i) (k + 1), resM F k (sib (2 * i) k))).filter fun r => !r.2.isEmpty
theorem rowsK_succ (F : Nat → Node) (i k : Nat) : rowsK F i (k + 1) = rowsK F i k ++ if (resM F k (sib (2 * i) k)).isEmpty then [] else [(anc (2 * i) (k + 1), resM F k (sib (2 * i) k))] := by
  unfold rowsK
  rw [List.range_succ, List.map_append, List.filter_append]
  congr 1
  simp only [List.map_cons, List.map_nil, List.filter_cons, List.filter_nil]
  cases (resM F k (sib (2 * i) k)).isEmpty <;> simp
theorem rowsK_length (F : Nat → Node) (i k : Nat) : (rowsK F i k).length ≤ k := by
  unfold rowsK
  exact Nat.le_trans (List.length_filter_le _ _) (by simp)
theorem sib_facts : ∀ d : Fin 4, ∀ i : Fin 8, ∀ k : Fin 4, i.val < 2 ^ d.val → k.val < d.val → sib (2 * i.val) k.val < 2 ^ (d.val + 1) - 1 ∧ lvN (sib (2 * i.val) k.val) = k.val ∧ anc (2 * i.val) k.val ≤ 2 * anc (2 * i.val) (k.val + 1) := by decide
theorem sib_at {d i k : Nat} (hd : d ≤ 3) (hi : i < 2 ^ d) (hk : k < d) : (coL (2 * i) 0 d)[k]? = some (sib (2 * i) k : Int) ∧ sib (2 * i) k < 2 ^ (d + 1) - 1 ∧ Nd (sib (2 * i) k) k (sib (2 * i) k / 2 ^ (k + 1)) := by
  have h8 : 2 ^ d ≤ 2 ^ 3 := Nat.pow_le_pow_right (by decide) hd
  have h16 : 2 ^ (d + 1) ≤ 2 ^ 4 := Nat.pow_le_pow_right (by decide) (by omega)
  obtain ⟨f1, f2, f3⟩ := sib_facts ⟨d, by omega⟩ ⟨i, by omega⟩ ⟨k, by omega⟩ hi hk
  simp only at f1 f2 f3
  refine ⟨?_, f1, ?_⟩
  · unfold coL
    rw [List.getElem?_map, List.getElem?_range hk]
    simp only [Option.map_some, Nat.zero_add]
    congr 1
    unfold sib
    omega
  · have := nd_lv (x := sib (2 * i) k) (by omega)
    rw [f2] at this
    exact this
/-- What rows answers. -/
structure RowsA (w : World) (L : List (Nat × List Int)) (c : Int) (e : Ending) (w' : World) : Prop where
  out : ∃ vr M, e = .returned (.tuple #[vr, .int .i64 c]) ∧ RowsO w' w.heap.size vr M ∧ M.map (fun r => (r.node, r.l)) = L
  bel : Below w.heap.size w w'
set_option maxHeartbeats 2000000 in
set_option maxRecDepth 100000 in
theorem rows_no (v : Value) (n : Nat) (F : Nat → Node) (i : Int) (w : World) (hT : Tab w) (hR : TrR w v n F) (hn : n ≤ 262144) (hq : rowsE n F i ≠ 0) :
    Calls Tryd.prog 35 #[.agg #[v], .int .i64 i] w fun e w' => RowsA w [] (rowsE n F i) e w' := by
  have hC : ∀ W, Below w.heap.size w W → Calls Tryd.prog 10 #[.agg #[v]] W fun e w' => e = .returned (.int .i64 (errB (chk n F))) ∧ Below W.heap.size W w' := fun W hW =>
    check10 v n F W (hT.below hT.pos hW) (hR.below hW) (by omega)
  have hbA : Below w.heap.size w (w.alloc (.cells #[v] 24)) := (Below.refl _ _).alloc (Nat.le_refl _) _
  cases hz : chk n F with
  | false =>
    have hE : rowsE n F i = 1 := by unfold rowsE; rw [if_pos hz]
    rw [hE]
    rw [hz, errB_false] at hC
    obtain ⟨A, c, rfl, -, -, -⟩ := hR
    clear hq
    go_enter Tryd.func35, Tryd.ntmps35
    go_wp2_with (go_at_call 10; refine (hC _ hbA).mono ?_; rintro e' w1 ⟨rfl, hb1⟩)
    go_ret2
    exact ⟨⟨_, [], rfl, RowsO.nil _ _, rfl⟩, below_box hb1⟩
  | true =>
    rw [hz, errB_true] at hC
    have hE : rowsE n F i = 7 := by
      unfold rowsE at hq ⊢
      rw [hz, if_neg (by decide)] at hq ⊢
      by_cases h : i < 0 ∨ (lvs n : Int) ≤ i ∨ (F (2 * i.toNat)).pub = 0
      · rw [if_pos h]
      · rw [if_neg h] at hq
        exact absurd rfl hq
    have hq2 : i < 0 ∨ (lvs n : Int) ≤ i ∨ (F (2 * i.toNat)).pub = 0 := by
      by_cases h : i < 0 ∨ (lvs n : Int) ≤ i ∨ (F (2 * i.toNat)).pub = 0
      · exact h
      · unfold rowsE at hq
        rw [hz, if_neg (by decide), if_neg h] at hq
        exact absurd rfl hq
    rw [hE]
    by_cases h1 : i < 0
    · have t1 : decide (i < 0) = true := decide_eq_true h1
      obtain ⟨A, c, rfl, -, -, -⟩ := hR
      clear h1 hq hq2 hE
      go_enter Tryd.func35, Tryd.ntmps35
      go_wp2_with (go_at_call 10; refine (hC _ hbA).mono ?_; rintro e' w1 ⟨rfl, hb1⟩; obtain ⟨hbox, hs1⟩ := box_keep hb1)
      go_ret2
      exact ⟨⟨_, [], rfl, RowsO.nil _ _, rfl⟩, below_box hb1⟩
    · have t1 : decide (i < 0) = false := decide_eq_false h1
      have HSZ := Lib.hid (fun i (h : i < lvs n) => lvs_lt h)
      have hTw := Lib.hid (And.intro hT hR)
      obtain ⟨A, c, rfl, -, -, h3⟩ := hR
      have hL := fun w => leaves26 A n c w (by omega)
      by_cases h2 : (lvs n : Int) ≤ i
      · have t2 : decide ((lvs n : Int) ≤ i) = true := decide_eq_true h2
        generalize lvs n = l at *
        clear h1 hq hq2 hE h3 h2
        go_enter Tryd.func35, Tryd.ntmps35
        go_wp2_with (first
          | (go_at_call 10; refine (hC _ hbA).mono ?_; rintro e' w1 ⟨rfl, hb1⟩; obtain ⟨hbox, hs1⟩ := box_keep hb1)
          | (go_at_call 26; refine (hL _).mono ?_; rintro e' w2 ⟨rfl, hb2⟩))
        go_ret2
        have hb := below_box hb1
        exact ⟨⟨_, [], rfl, RowsO.nil _ _, rfl⟩, hb.trans (hb2.mono hb.size)⟩
      · obtain ⟨y, rfl⟩ : ∃ y : Nat, i = y := ⟨i.toNat, by omega⟩
        have hp : (F (2 * y)).pub = 0 := by
          rcases hq2 with h | h | h
          · omega
          · omega
          · simpa using h
        obtain ⟨hin, hi8⟩ := HSZ.out y (by omega)
        obtain ⟨b, o, rfl, hN⟩ := h3 (by omega)
        obtain ⟨c0, -, -, -, -⟩ := hN (2 * y) hin
        rw [hp] at c0
        have hb0 : b < w.heap.size := World.block_lt_of_cell? _ _ c0
        have t2 : (lvs n ≤ y) = False := eq_false (by omega)
        have j1 : (0 : Int) ≤ 2 * (y : Int) := by omega
        have j2 : 2 * (y : Int) < n := by omega
        generalize lvs n = l at *
        clear h1 hq hq2 hE h3 h2 hN hp
        go_enter Tryd.func35, Tryd.ntmps35
        go_wp2_with (first
          | (go_at_call 10; refine (hC _ hbA).mono ?_; rintro e' w1 ⟨rfl, hb1⟩; obtain ⟨hbox, hs1⟩ := box_keep hb1; have hbw1 := below_box hb1)
          | (go_at_call 26; refine (hL _).mono ?_; rintro e' w2 ⟨rfl, hb2⟩; have hbox2 := (hb2.cell hs1).trans hbox; have hs2 : w.heap.size < w2.heap.size := Nat.lt_of_lt_of_le hs1 hb2.size; have d0 := ((hbw1.trans (hb2.mono hbw1.size)).cell (p := ⟨b, o + 2 * y * 4, none⟩) hb0).trans c0; have hb02 : b < w2.heap.size := by omega))
        go_ret2
        exact ⟨⟨_, [], rfl, RowsO.nil _ _, rfl⟩, hbw1.trans (hb2.mono hbw1.size)⟩
end Go.Proofs.YtopkanokpfhmmaaDoor
