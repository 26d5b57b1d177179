import Derived.Test.YtnahhclflnjmcaaGreatDoorA2
import Derived.Deep.OwnRows
import Derived.OneCell
import Derived.Laws.IdiomCopy
import Derived.Laws.CopyRow
import Derived.Laws.MakeOwn
import Derived.Handy
import Derived.Deep.QuietTactic
import Derived.Deep.RegionLaw
import Derived.Deep.AppendLies
import Derived.Lib.Overlaps
import Derived.Laws.Externs
import Derived.Lib.AppendZerosOnto
import Derived.Lib.AppendZeros
import Derived.Laws.NewBlocks
/- Trees of the call's own; Clone; twin. -/
namespace Go.Proofs.YtnahhclflnjmcaaGreatDoor
open Go Go.RowKit
set_option linter.unusedVariables false
set_option linter.unusedSimpArgs false

set_option maxHeartbeats 1000000 in
theorem clone44 (v : Value) (l : List Int) (w : World) (h : Ints w v l) (hl : l.length < 4294967296) :
    Calls Tryz.prog 248 #[v] w fun e w' => ∃ v', e = .returned v' ∧ OwnI w' w.heap.size v' l ∧ Below w.heap.size w w' := by
  have hI := h
  obtain ⟨A, c, rfl, h1, h2, h3⟩ := h
  cases A with
  | none =>
    have hl0 : l.length = 0 := by
      by_cases h0 : 0 < l.length
      · obtain ⟨b, o, e, _⟩ := h3 h0
        cases e
      · omega
    obtain rfl : l = [] := List.eq_nil_of_length_eq_zero hl0
    have hq := Lib.run_eql_slice_nil (P := Tryz.prog) (w := w) (t := 31) (e := 3) (a := none) (n := 0) (c := c) (n' := 0) (c' := 0) Tryz.underlying31
    clear h3 hI
    simp only [List.length_nil] at *
    go_enter Tryz.func248, Tryz.ntmps248
    go_wp2
    go_ret
    exact ⟨_, rfl, World.ownsRow_nil _ _ _ _, Below.refl _ _⟩
  | some a =>
    have hq : (binOp .eql 31 (.slice (some a) l.length c) (.slice none 0 0)).run Tryz.prog w = .ok (.bool false) w := by
      have := Lib.run_eql_slice_nil (P := Tryz.prog) (w := w) (t := 31) (e := 3) (a := some a) (n := l.length) (c := c) (n' := 0) (c' := 0) Tryz.underlying31
      simpa using this
    have how : OwnI (w.alloc (.cells #[] 3)) w.heap.size (.slice (some ⟨w.heap.size, 0, none⟩) 0 0) [] := ⟨rfl, .inr ⟨w.heap.size, 0, #[], rfl, Nat.le_refl _, heap_alloc_new w _, Nat.le_refl _, by unfold maxLen; omega, rfl, rfl⟩⟩
    have hbel : Below w.heap.size w (w.alloc (.cells #[] 3)) := (Below.refl _ _).alloc (Nat.le_refl _) _
    have HOW := Lib.hid how
    have hx := hI.below hbel
    clear h3 how hI
    have hB := hbel.size
    go_enter Tryz.func248, Tryz.ntmps248
    go_wp2_with (at_builtin; refine append_ints rfl _ _ rfl rfl rfl HOW hx hbel hB ?c1 ?_)
    case c1 => simp; omega
    intro v' w' o1 o2 o3
    have HO := Lib.hid o1
    clear o1 HOW
    go_wp2_with fail
    go_ret
    exact ⟨_, rfl, HO.out, o2⟩

/-- The cells of a row of nodes: uv gives the lists' values. -/
def cellF (F : Nat → Node) (uv : Nat → Value) (j : Nat) : Value :=
  if j % 4 = 0 then .int .i64 (F (j / 4)).pub else if j % 4 = 1 then .int .i64 (F (j / 4)).mem else if j % 4 = 2 then .int .i64 (F (j / 4)).ep else uv (j / 4)
theorem cellF0 (F : Nat → Node) (uv : Nat → Value) (y : Nat) : cellF F uv (y * 4) = .int .i64 (F y).pub := by
  unfold cellF; rw [if_pos (by omega), show y * 4 / 4 = y by omega]
theorem cellF1 (F : Nat → Node) (uv : Nat → Value) (y : Nat) : cellF F uv (y * 4 + 1) = .int .i64 (F y).mem := by
  unfold cellF; rw [if_neg (by omega), if_pos (by omega), show (y * 4 + 1) / 4 = y by omega]
theorem cellF2 (F : Nat → Node) (uv : Nat → Value) (y : Nat) : cellF F uv (y * 4 + 2) = .int .i64 (F y).ep := by
  unfold cellF; rw [if_neg (by omega), if_neg (by omega), if_pos (by omega), show (y * 4 + 2) / 4 = y by omega]
theorem cellF3 (F : Nat → Node) (uv : Nat → Value) (y : Nat) : cellF F uv (y * 4 + 3) = uv y := by
  unfold cellF; rw [if_neg (by omega), if_neg (by omega), if_neg (by omega), show (y * 4 + 3) / 4 = y by omega]
/-- A row of nodes of the call's own; the lists of the first i are own too, the others read as in w0. -/
structure OwnK (w0 w : World) (B b n i : Nat) (F : Nat → Node) (uv : Nat → Value) : Prop where
  hb : B ≤ b
  row : w.rowIs b 95 (n * 4) (cellF F uv)
  un : ∀ y, y < n → y < i → OwnI w B (uv y) (F y).un
  far : ∀ y, y < n → i ≤ y → Ints w0 (uv y) (F y).un
  nb : ∀ y, y < n → y < i → (uv y).ownBlock ≠ some b
  ap : ∀ y z, y < n → z < n → y < i → z < i → y ≠ z → ∀ k, (uv y).ownBlock = some k → (uv z).ownBlock ≠ some k
  wf : ∀ y, y < n → (Lit.int .i64 (F y).mem).wf = true
variable {w0 w w' : World} {B b n i : Nat} {F : Nat → Node} {uv : Nat → Value}
theorem OwnK.blt (h : OwnK w0 w B b n i F uv) : b < w.heap.size := h.row.lt
theorem OwnK.below (h : OwnK w0 w B b n i F uv) (hb : Below w.heap.size w w') : OwnK w0 w' B b n i F uv :=
  ⟨h.hb, h.row.of_block (hb.block b h.blt), fun y h1 h2 => (h.un y h1 h2).below hb, h.far, h.nb, h.ap, h.wf⟩
theorem OwnK.cells (h : OwnK w0 w B b n i F uv) {y : Nat} (hy : y < n) :
    w.cell? ⟨b, y * 4, none⟩ = some (.int .i64 (F y).pub) ∧ w.cell? ⟨b, y * 4 + 1, none⟩ = some (.int .i64 (F y).mem) ∧ w.cell? ⟨b, y * 4 + 2, none⟩ = some (.int .i64 (F y).ep) ∧ w.cell? ⟨b, y * 4 + 3, none⟩ = some (uv y) := by
  refine ⟨?_, ?_, ?_, ?_⟩
  · rw [h.row.cell (by omega), cellF0]
  · rw [h.row.cell (by omega), cellF1]
  · rw [h.row.cell (by omega), cellF2]
  · rw [h.row.cell (by omega), cellF3]
theorem OwnK.trR (h : OwnK w0 w B b n n F uv) (hn : n ≤ maxLen) (c : Nat) (hc : n ≤ c) (hc2 : c ≤ maxLen) : TrR w (.slice (some ⟨b, 0, none⟩) n c) n F := by
  refine ⟨_, c, rfl, hc, hc2, fun _ => ⟨b, 0, rfl, fun y hy => ?_⟩⟩
  obtain ⟨h0, h1, h2, h3⟩ := h.cells hy
  rw [Nat.zero_add]
  have hI := (h.un y hy hy).ints
  obtain ⟨A, c', e, _⟩ := hI
  refine ⟨h0, h1, h2, ⟨A, c', by rw [h3, e], by rw [← e]; exact (h.un y hy hy).ints⟩, h.wf y hy⟩
/-- A tree of the call's own: its nodes lie in a block of their own, each list in one of its own. -/
def TrO (w : World) (B : Nat) (v : Value) (n : Nat) (F : Nat → Node) : Prop := ∃ b uv, v = .slice (some ⟨b, 0, none⟩) n n ∧ n ≤ maxLen ∧ OwnK w w B b n n F uv
theorem own_low {w : World} {B B' : Nat} {v : Value} {l : List Int} (hB : B' ≤ B) (h : OwnI w B v l) : OwnI w B' v l := by
  refine ⟨h.1, ?_⟩
  rcases h.2 with h1 | ⟨g, cap, cur, h1, h2, h3⟩
  · exact .inl h1
  · exact .inr ⟨g, cap, cur, h1, Nat.le_trans hB h2, h3⟩
theorem OwnK.trO {w0 w : World} {B B' b n : Nat} {F : Nat → Node} {uv : Nat → Value} (h : OwnK w0 w B b n n F uv) (hn : n ≤ maxLen) (hB : B' ≤ B) : TrO w B' (.slice (some ⟨b, 0, none⟩) n n) n F :=
  ⟨b, uv, rfl, hn, Nat.le_trans hB h.hb, h.row, fun y h1 h2 => own_low hB (h.un y h1 h2), fun y h1 h2 => by omega, h.nb, h.ap, h.wf⟩
theorem TrO.trR {w : World} {B : Nat} {v : Value} {n : Nat} {F : Nat → Node} (h : TrO w B v n F) : TrR w v n F := by
  obtain ⟨b, uv, rfl, h1, h2⟩ := h
  exact h2.trR h1 n (Nat.le_refl _) h1
theorem TrO.below {w w' : World} {B : Nat} {v : Value} {n : Nat} {F : Nat → Node} (h : TrO w B v n F) (hb : Below w.heap.size w w') : TrO w' B v n F := by
  obtain ⟨b, uv, rfl, h1, h2⟩ := h
  have := h2.below hb
  exact ⟨b, uv, rfl, h1, this.hb, this.row, this.un, fun y h1 h2 => by omega, this.nb, this.ap, this.wf⟩
theorem TrO.lower {w : World} {B B' : Nat} {v : Value} {n : Nat} {F : Nat → Node} (hB : B' ≤ B) (h : TrO w B v n F) : TrO w B' v n F := by
  obtain ⟨b, uv, rfl, h1, h2⟩ := h
  exact h2.trO h1 hB
theorem TrO.congr {w : World} {B : Nat} {v : Value} {n : Nat} {F G : Nat → Node} (h : TrO w B v n F) (he : ∀ y, y < n → F y = G y) : TrO w B v n G := by
  obtain ⟨b, uv, rfl, h1, h⟩ := h
  refine ⟨b, uv, rfl, h1, h.hb, h.row.congr fun j hj => ?_, fun y h1 h2 => by rw [← he y h1]; exact h.un y h1 h2, fun y h1 h2 => by omega, h.nb, h.ap, fun y h1 => by rw [← he y h1]; exact h.wf y h1⟩
  unfold cellF
  rw [he (j / 4) (by omega)]
theorem OwnI.setOther {w : World} {B : Nat} {v : Value} {l : List Int} (h : OwnI w B v l) {a : Addr} (ha : v.ownBlock ≠ some a.block) (u : Value) : OwnI (w.setCell a u) B v l := ownsRow_setCell_other h ha u
/-- The list of one node is anew. -/
theorem OwnK.setUn (h : OwnK w0 w B b n i F uv) {y : Nat} (hy : y < n) {u : Value} {l : List Int} (hu : OwnI w B u l) (hub : u.ownBlock ≠ some b)
    (hap : ∀ z, z < n → z < i → z ≠ y → ∀ k, u.ownBlock = some k → (uv z).ownBlock ≠ some k) (hy2 : y < i ∨ y = i) (G : Nat → Node) (hG : ∀ z, G z = if z = y then { F y with un := l } else F z) :
    OwnK w0 (w.setCell ⟨b, y * 4 + 3, none⟩ u) B b n (if y = i then i + 1 else i) G (fun z => if z = y then u else uv z) := by
  have key : ∀ z, z < n → z < (if y = i then i + 1 else i) → z ≠ y → z < i := fun z _ h2 h3 => by
    split at h2 <;> omega
  refine ⟨h.hb, (h.row.set (y * 4 + 3) u).congr fun j hj => ?_, fun z h1 h2 => ?_, fun z h1 h2 => ?_, fun z h1 h2 => ?_, fun z z' h1 h2 h3 h4 h5 k hk => ?_, fun z h1 => ?_⟩
  · show (if j = y * 4 + 3 then u else cellF F uv j) = cellF G _ j
    unfold cellF
    by_cases e : j = y * 4 + 3
    · subst e
      rw [if_pos rfl, if_neg (by omega), if_neg (by omega), if_neg (by omega), show (y * 4 + 3) / 4 = y by omega]
      simp
    · rw [if_neg e, hG]
      by_cases e2 : j / 4 = y
      · rw [if_pos e2, e2]
        by_cases c0 : j % 4 = 0
        · simp [c0]
        by_cases c1 : j % 4 = 1
        · simp [c1]
        by_cases c2 : j % 4 = 2
        · simp [c2]
        omega
      · simp [e2]
  · rw [hG]
    by_cases e : z = y
    · subst e
      rw [if_pos rfl, if_pos rfl]
      exact hu.setOther hub _
    · rw [if_neg e, if_neg e]
      have := key z h1 h2 e
      exact (h.un z h1 this).setOther (h.nb z h1 this) _
  · rw [hG]
    have h3 : z ≠ y ∧ i ≤ z := by split at h2 <;> omega
    rw [if_neg h3.1, if_neg h3.1]
    exact h.far z h1 h3.2
  · by_cases e : z = y
    · rw [if_pos e]; exact hub
    · rw [if_neg e]; exact h.nb z h1 (key z h1 h2 e)
  · by_cases e : z = y
    · rw [if_pos e] at hk
      rw [if_neg (fun e2 => h5 (e.trans e2.symm))]
      exact hap z' h2 (key z' h2 h4 (fun e2 => h5 (e.trans e2.symm))) (fun e2 => h5 (e.trans e2.symm)) k hk
    · rw [if_neg e] at hk
      by_cases e' : z' = y
      · rw [if_pos e']
        intro hk2
        exact hap z h1 (key z h1 h3 e) e k hk2 hk
      · rw [if_neg e']
        exact h.ap z z' h1 h2 (key z h1 h3 e) (key z' h2 h4 e') h5 k hk
  · rw [hG]
    by_cases e : z = y
    · rw [if_pos e]; exact h.wf y hy
    · rw [if_neg e]; exact h.wf z h1
theorem rowIs_setCells {b : Nat} {t : TypeId} {n : Nat} : ∀ (vs : List Value) (o : Nat) (w : World) (f : Nat → Value), w.rowIs b t n f → (w.setCells b o vs).rowIs b t n (fun j => if h : o ≤ j ∧ j < o + vs.length then vs[j - o]'(by omega) else f j)
  | [], o, w, f, h => by
    refine World.rowIs.congr (f := f) h fun j hj => ?_
    rw [dif_neg (fun h => by have := h.2; have e : ([] : List Value).length = 0 := rfl; omega)]
  | v :: vs, o, w, f, h => by
    have ih := rowIs_setCells vs (o + 1) (w.setCell ⟨b, o, none⟩ v) _ (h.set o v)
    show ((w.setCell ⟨b, o, none⟩ v).setCells b (o + 1) vs).rowIs b t n _
    refine ih.congr fun j hj => ?_
    by_cases h1 : o + 1 ≤ j ∧ j < o + 1 + vs.length
    · rw [dif_pos h1, dif_pos (by simp; omega)]
      obtain ⟨k, rfl⟩ : ∃ k, j = o + 1 + k := ⟨j - (o + 1), by omega⟩
      simp [show o + 1 + k - o = k + 1 by omega]
    · rw [dif_neg h1]
      by_cases h2 : j = o
      · subst h2
        rw [if_pos rfl, dif_pos (by simp)]
        simp
      · rw [if_neg h2, dif_neg (by simp; omega)]
theorem below_setCells {B b : Nat} {w0 : World} (hb : B ≤ b) : ∀ (vs : List Value) (o : Nat) (w : World), Below B w0 w → Below B w0 (w.setCells b o vs)
  | [], o, w, h => h
  | v :: vs, o, w, h => below_setCells hb vs (o + 1) _ (h.setCell (p := ⟨b, o, none⟩) hb v)
theorem run_copy_part {P : Program} (w : World) (dT sT ty elem : TypeId) (sz b o dLen dCap : Nat) (a : Addr) (sLen sCap : Nat) (cs : List Value)
    (hu : P.underlying dT = some (.slice elem)) (hs : (P.info? elem).map (·.size) = some sz) (hn : cs.length = Nat.min sLen dLen * sz)
    (hsrc : ∀ j v, cs[j]? = some v → w.cell? (a.add j) = some v) (hc : ∀ j, j < cs.length → (w.cell? ⟨b, o + j, none⟩).isSome = true) (hf : ∀ j, j < cs.length → w.frozen? ⟨b, o + j, none⟩ = false) (h1 : ∀ v ∈ cs, v.oneCell' = true) :
    (Builtin.copy_ #[dT, sT] ty #[.slice (some ⟨b, o, none⟩) dLen dCap, .slice (some a) sLen sCap]).run P w = .ok (goInt (Nat.min sLen dLen)) (w.setCells b o cs) := by
  have hl := run_loadCells_list (P := P) w a cs hsrc
  have hst := run_storeCells_cells (P := P) b o cs 0 w (by simpa using hc) (by simpa using hf) h1
  cases hq : P.info? elem with
  | none => simp [hq] at hs
  | some i =>
    have hi : i.size = sz := by simpa [hq] using hs
    simp [Builtin.copy_, run_underlying hu, Builtin.lenOf, Builtin.firstCells, sizeOf, typeInfo, hq, hi, ← hn, hl, hst]
theorem run_copy_zero {P : Program} (w : World) (dT sT ty elem : TypeId) (b o dLen dCap : Nat) (A : Option Addr) (sCap : Nat)
    (hu : P.underlying dT = some (.slice elem)) (hs : ((P.info? elem).map (·.size)).isSome = true) :
    (Builtin.copy_ #[dT, sT] ty #[.slice (some ⟨b, o, none⟩) dLen dCap, .slice A 0 sCap]).run P w = .ok (goInt 0) w := by
  cases hq : P.info? elem with
  | none => simp [hq] at hs
  | some i => cases A <;> simp [Builtin.copy_, run_underlying hu, Builtin.lenOf, Builtin.firstCells, sizeOf, typeInfo, hq, storeCells, loadCells, loadCellsFrom]
theorem info45 : (Tryz.prog.info? 95).map (fun i => (i.zero, i.size, i.bytes)) = some (some (.agg #[.int .i64 0, .int .i64 0, .int .i64 0, .slice none 0 0]), 4, 48) := by kernel_rfl
def zcells : Array Value := #[.int .i64 0, .int .i64 0, .int .i64 0, .slice none 0 0]
theorem made_row (w : World) (N : Nat) : (w.alloc (.cells (madeCells zcells (N * 4)) 95)).rowIs w.heap.size 95 (N * 4) (cellF (fun _ => zeroN) (fun _ => .slice none 0 0)) := by
  have hsz : (madeCells zcells (N * 4)).size = N * 4 := size_madeCells _ _
  have := World.rowIs_alloc w (madeCells zcells (N * 4)) 95 (cellF (fun _ => zeroN) (fun _ => .slice none 0 0)) (fun j hj => by
    rw [hsz] at hj
    have h4 : j % 4 = 0 ∨ j % 4 = 1 ∨ j % 4 = 2 ∨ j % 4 = 3 := by omega
    have e : (madeCells zcells (N * 4))[j]? = zcells[j % 4]? := by
      simp [madeCells, hj, zcells]
      rcases h4 with h | h | h | h <;> simp [h]
    rw [e]
    unfold cellF zcells
    rcases h4 with h | h | h | h <;> simp [h, zeroN])
  rw [hsz] at this
  exact this
theorem TrR.lists {w0 : World} {v : Value} {n : Nat} {F : Nat → Node} (hR : TrR w0 v n F) : ∃ uv : Nat → Value, (∀ y, n ≤ y → uv y = .slice none 0 0) ∧ ∀ y, y < n → Ints w0 (uv y) (F y).un ∧ ∃ b o c, v = .slice (some ⟨b, o, none⟩) n c ∧ b < w0.heap.size ∧ w0.cell? ⟨b, o + y * 4 + 3, none⟩ = some (uv y) := by
  obtain ⟨A, c, rfl, h1, h2, h3⟩ := hR
  have key : ∀ y, ∃ u : Value, (n ≤ y → u = .slice none 0 0) ∧ (y < n → Ints w0 u (F y).un ∧ ∃ b o c', Value.slice A n c = .slice (some ⟨b, o, none⟩) n c' ∧ b < w0.heap.size ∧ w0.cell? ⟨b, o + y * 4 + 3, none⟩ = some u) := fun y => by
    by_cases hy : y < n
    · obtain ⟨b, o, rfl, hN⟩ := h3 (by omega)
      obtain ⟨x0, x1, x2, ⟨A', c', x3, hI⟩, _⟩ := hN y hy
      exact ⟨_, fun h => absurd h (by omega), fun _ => ⟨hI, b, o, c, rfl, World.block_lt_of_cell? _ _ x0, x3⟩⟩
    · exact ⟨.slice none 0 0, fun _ => rfl, fun h => absurd h hy⟩
  obtain ⟨uv, huv⟩ := Classical.axiomOfChoice key
  exact ⟨uv, fun y h => (huv y).1 h, fun y h => (huv y).2 h⟩
theorem Ints.one {w : World} {v : Value} {l : List Int} (h : Ints w v l) : v.oneCell' = true := by
  obtain ⟨A, c, rfl, _⟩ := h
  rfl
set_option maxRecDepth 100000 in
/-- What make and copy leave: a row of nodes whose lists are the elder tree's. -/
theorem twin_start (v : Value) (n N : Nat) (F : Nat → Node) (w0 w : World) (hw : Below w0.heap.size w0 w) (hR : TrR w0 v n F) (hn : n ≤ N) (hN : N ≤ 15) :
    ∃ w2 r uv, (Instr.makeSlice 22 (.int .i64 (N : Int)) (.int .i64 (N : Int))).run Tryz.prog w = .ok (.slice (some ⟨w.heap.size, 0, none⟩) N N) (w.alloc (.cells (madeCells zcells (N * 4)) 95)) ∧
      (Builtin.copy_ #[22, 22] 3 #[.slice (some ⟨w.heap.size, 0, none⟩) N N, v]).run Tryz.prog (w.alloc (.cells (madeCells zcells (N * 4)) 95)) = .ok r w2 ∧ Below w.heap.size w w2 ∧ OwnK w0 w2 w.heap.size w.heap.size N 0 (pad n F) uv := by
  obtain ⟨i0, hinf, hz0, hz1, hz2⟩ := info_parts info45
  have hr := run_make (P := Tryz.prog) (w := w) 22 95 i0 _ Tryz.underlying22 hinf hz0 .i64 .i64 N N (by omega) (Int.le_refl _) (by rw [hz2]; omega) (by omega)
  rw [hz1] at hr
  simp only [Int.toNat_natCast] at hr
  have hrow := made_row w N
  have hb1 : Below w.heap.size w (w.alloc (.cells (madeCells zcells (N * 4)) 95)) := (Below.refl _ _).alloc (Nat.le_refl _) _
  obtain ⟨uv, hnil, huv⟩ := hR.lists
  have hsz : (Tryz.prog.info? 95).map (·.size) = some 4 := by rw [hinf]; simp [hz1]
  have far : ∀ y, y < N → 0 ≤ y → Ints w0 (uv y) (pad n F y).un := fun y hy _ => by
    unfold pad
    by_cases h : y < n
    · rw [if_pos h]; exact (huv y h).1
    · rw [if_neg h, hnil y (by omega)]
      exact Ints.nil _
  have wf : ∀ y, y < N → (Lit.int .i64 (pad n F y).mem).wf = true := fun y hy => by
    unfold pad
    by_cases h : y < n
    · rw [if_pos h]
      obtain ⟨A, c, rfl, h1, h2, h3⟩ := hR
      obtain ⟨b, o, rfl, hN⟩ := h3 (by omega)
      exact (hN y h).r1
    · rw [if_neg h]; decide
  by_cases h0 : n = 0
  · subst h0
    obtain ⟨A, c, rfl, h1, h2, h3⟩ := hR
    refine ⟨_, _, uv, hr, run_copy_zero _ 22 22 3 95 w.heap.size 0 N N A c Tryz.underlying22 (by rw [hsz]; rfl), hb1, Nat.le_refl _, hrow.congr fun j hj => ?_, fun y _ h => by omega, far, fun y _ h => by omega, fun y z _ _ h => by omega, wf⟩
    unfold cellF pad
    rw [hnil _ (by omega)]
    simp
  · obtain ⟨b, o, c, rfl, hblt, -⟩ := (huv 0 (by omega)).2
    obtain ⟨A', c', e, h1, h2, h3⟩ := hR
    injection e with e1 e2 e3
    subst e1 e3
    obtain ⟨b', o', e, hNd⟩ := h3 (by omega)
    injection e with e
    injection e with e1 e2 _
    subst e1 e2
    have hcs : ∀ j, j < n * 4 → w0.cell? ⟨b, o + j, none⟩ = some (cellF F uv j) := fun j hj => by
      have hy : j / 4 < n := by omega
      obtain ⟨x0, x1, x2, -, -⟩ := hNd (j / 4) hy
      obtain ⟨-, b2, o2, c2, e, -, x3⟩ := huv (j / 4) hy
      injection e with e1 e2 e3
      injection e1 with e1
      injection e1 with e1 e2 _
      subst e1 e2
      have h4 : j % 4 = 0 ∨ j % 4 = 1 ∨ j % 4 = 2 ∨ j % 4 = 3 := by omega
      unfold cellF
      rcases h4 with h | h | h | h
      · rw [if_pos h, show o + j = o + j / 4 * 4 by omega]; exact x0
      · rw [if_neg (by omega), if_pos h, show o + j = o + j / 4 * 4 + 1 by omega]; exact x1
      · rw [if_neg (by omega), if_neg (by omega), if_pos h, show o + j = o + j / 4 * 4 + 2 by omega]; exact x2
      · rw [if_neg (by omega), if_neg (by omega), if_neg (by omega), show o + j = o + j / 4 * 4 + 3 by omega]; exact x3
    have hmin : Nat.min n N = n := Nat.min_eq_left hn
    have hs0 := hw.size
    have hcell : ∀ j, j < N * 4 → ((w.alloc (.cells (madeCells zcells (N * 4)) 95)).cell? ⟨w.heap.size, 0 + j, none⟩).isSome = true := fun j hj => by rw [Nat.zero_add, hrow.cell hj]; rfl
    have hcp := run_copy_part (P := Tryz.prog) (w.alloc (.cells (madeCells zcells (N * 4)) 95)) 22 22 3 95 4 w.heap.size 0 N N ⟨b, o, none⟩ n c ((List.range (n * 4)).map (cellF F uv)) Tryz.underlying22 hsz (by rw [hmin]; simp)
      (fun j u hj => by
        have hj2 : j < n * 4 := by have := (List.getElem?_eq_some_iff.1 hj).1; simpa using this
        have hu : u = cellF F uv j := by
          rw [List.getElem?_map, List.getElem?_range hj2] at hj
          exact (Option.some.inj hj).symm
        rw [Addr.add_lit, hu, ← hcs j hj2, World.cell?_alloc_lt _ _ _ (by show b < _; omega), hw.cell (show b < _ from hblt)])
      (fun j hj => hcell j (by simp at hj; omega))
      (fun j hj => by rw [Nat.zero_add]; exact hrow.frozen j)
      (fun u hu => by
        obtain ⟨j, hj, rfl⟩ := List.mem_map.1 hu
        have hj2 : j / 4 < n := by have := List.mem_range.1 hj; omega
        unfold cellF
        split
        · rfl
        split
        · rfl
        split
        · rfl
        exact (huv (j / 4) hj2).1.one)
    refine ⟨_, _, uv, hr, hcp, below_setCells (Nat.le_refl _) _ _ _ hb1, Nat.le_refl _, (rowIs_setCells _ 0 _ _ hrow).congr fun j hj => ?_, fun y _ h => by omega, far, fun y _ h => by omega, fun y z _ _ h => by omega, wf⟩
    by_cases h : j < n * 4
    · rw [dif_pos (by simp; omega)]
      simp only [Nat.sub_zero, List.getElem_map, List.getElem_range]
      unfold cellF pad
      rw [if_pos (show j / 4 < n by omega)]
    · rw [dif_neg (by simp; omega)]
      unfold cellF pad
      rw [if_neg (show ¬ j / 4 < n by omega), hnil (j / 4) (by omega)]
end Go.Proofs.YtnahhclflnjmcaaGreatDoor

/- twin: a tree of the call's own like another one. -/
namespace Go.Proofs.YtnahhclflnjmcaaGreatDoor
open Go Go.RowKit
set_option linter.unusedVariables false
set_option linter.unusedSimpArgs false
set_option maxRecDepth 100000

theorem Below.up {B : Nat} {a b c : World} (h : Below B a b) (k : Below b.heap.size b c) (hB : B ≤ b.heap.size) : Below B a c := h.trans (k.mono hB)
theorem OwnK.elsewhere {w0 w : World} {B b n i : Nat} {F : Nat → Node} {uv : Nat → Value} (h : OwnK w0 w B b n i F uv) {a : Addr} (ha : a.block < B) (u : Value) : OwnK w0 (w.setCell a u) B b n i F uv :=
  ⟨h.hb, h.row.setOther (by have := h.hb; omega) u, fun y h1 h2 => (h.un y h1 h2).setOther (fun e => by have := (World.ownsRow.lt (h.un y h1 h2) _ e).1; omega) u, h.far, h.nb, h.ap, h.wf⟩
theorem OwnK.lower {w0 w : World} {B B' b n i : Nat} {F : Nat → Node} {uv : Nat → Value} (h : OwnK w0 w B b n i F uv) (hB : B' ≤ B) : OwnK w0 w B' b n i F uv :=
  ⟨Nat.le_trans hB h.hb, h.row, fun y h1 h2 => own_lower hB (h.un y h1 h2), h.far, h.nb, h.ap, h.wf⟩
set_option maxHeartbeats 2000000 in
set_option maxRecDepth 100000 in
theorem twin30 (v : Value) (n l : Nat) (F : Nat → Node) (w : World) (hR : TrR w v n F) (hn : n ≤ 2 * l - 1) (hl : 1 ≤ l) (hl8 : l ≤ 8) (hun : ∀ y, y < n → (F y).un.length < 4294967296) :
    Calls Tryz.prog 154 #[.agg #[v], .int .i64 l] w fun e w' => ∃ b uv, e = .returned (.agg #[.slice (some ⟨b, 0, none⟩) (2 * l - 1) (2 * l - 1)]) ∧ OwnK w w' w.heap.size b (2 * l - 1) (2 * l - 1) (pad n F) uv ∧ Below w.heap.size w w' := by
  have hb0 : Below w.heap.size w ((w.alloc (.cells #[v] 24)).alloc (.cells #[.slice none 0 0] 24)) := ((Below.refl _ _).alloc (Nat.le_refl _) _).alloc (by simp) _
  have hs0 : ((w.alloc (.cells #[v] 24)).alloc (.cells #[.slice none 0 0] 24)).heap.size = w.heap.size + 2 := by simp
  obtain ⟨w2, r, uv0, hmk, hcp, hb2, hK⟩ := twin_start v n (2 * l - 1) F w _ hb0 hR hn (by omega)
  rw [hs0] at hmk hcp hb2 hK
  have e1 : (((2 * l - 1 : Nat)) : Int) = 2 * (l : Int) - 1 := by omega
  rw [e1] at hmk
  obtain ⟨A, c, rfl, -, -, -⟩ := hR
  have HK := Lib.hid hK
  have HUN := Lib.hid (show ∀ y, (pad n F y).un.length < 4294967296 by
    intro y
    unfold pad
    split
    · exact hun y (by assumption)
    · decide)
  have HN := Lib.hid (And.intro hn e1)
  generalize pad n F = G at *
  clear hK hn e1 hun
  generalize hN : 2 * l - 1 = N at *
  have hN15 : N ≤ 15 := by omega
  have HB0 := Lib.hid hb0
  obtain ⟨wA, hwA⟩ : ∃ wA, wA = ((w.alloc (.cells #[.slice A n c] 24)).alloc (.cells #[.slice none 0 0] 24)) := ⟨_, rfl⟩
  have hrA : wA.cell? ⟨w.heap.size + 1, 0, none⟩ = some (.slice none 0 0) ∧ wA.frozen? ⟨w.heap.size + 1, 0, none⟩ = false := by
    have := heap_alloc_new (w.alloc (.cells #[.slice A n c] 24)) (.cells #[.slice none 0 0] 24)
    rw [show (w.alloc (.cells #[.slice A n c] 24)).heap.size = w.heap.size + 1 by simp] at this
    rw [hwA]
    exact ⟨by rw [cell_of_row _ _ _ _ _ _ this]; rfl, frozen_of_row _ _ _ _ _ this⟩
  have HRA := Lib.hid hrA
  have hbA : Below w.heap.size w wA := by rw [hwA]; exact hb0
  have hbA2 : Below (w.heap.size + 2) wA w2 := by rw [hwA]; exact hb2
  have HW := Lib.hid (And.intro hbA hbA2)
  clear hb0 hb2 hs0 hrA hbA hbA2
  go_enter Tryz.func154, Tryz.ntmps154
  go_wp2_with fail
  clear hcp hmk hwA
  go_loopg [17] (N + 1) (fun g v17 wr => ∃ (i : Nat) (uv : Nat → Value), i ≤ N ∧ i + g = N + 1 ∧ v17 = .int .i64 i ∧ OwnK w wr (w.heap.size + 2) (w.heap.size + 2) N i G uv ∧ Below (w.heap.size + 2) wA wr)
  case atStart => exact ⟨0, uv0, by omega, by omega, rfl, HK.out, HW.out.2⟩
  case round =>
    obtain ⟨i, uv, hi, hg, rfl, hK, hbel⟩ := hrel
    have HG := Lib.hid hg
    have hblt := hK.blt
    have hbelw : Below w.heap.size w wr := HW.out.1.trans (hbel.mono (by omega))
    clear hg
    by_cases hlt : i < N
    · obtain ⟨x0, x1, x2, x3⟩ := hK.cells hlt
      have xf : wr.frozen? ⟨w.heap.size + 2, i * 4 + 3, none⟩ = false := hK.row.frozen _
      have hI := (hK.far i hlt (Nat.le_refl _)).below hbelw
      have hC := clone44 (uv i) (G i).un wr hI (HUN.out i)
      obtain ⟨A', c', e, -⟩ := hI
      rw [e] at x3 hC
      have q1 : (0 : Int) ≤ (i : Int) := by omega
      have q2 : (i : Int) < N := by omega
      have HK2 := Lib.hid hK
      clear x0 x1 x2 hK e
      generalize (G i).un.length = k at *
      go_wp2_with (go_at_call 248; refine hC.mono ?_; rintro e w3 ⟨v', rfl, ho, hb3⟩; obtain ⟨A2, c2, rfl⟩ := ho.slice; obtain ⟨y3, yf, hlt3⟩ : w3.cell? ⟨w.heap.size + 2, i * 4 + 3, none⟩ = some (.slice A' k c') ∧ w3.frozen? ⟨w.heap.size + 2, i * 4 + 3, none⟩ = false ∧ w.heap.size + 2 < w3.heap.size := ⟨(hb3.cell hblt).trans x3, (hb3.frozen hblt).trans xf, Nat.lt_of_lt_of_le hblt hb3.size⟩)
      go_roundg (gk - 1)
      case rel =>
        have hK3 := HK2.out.below hb3
        have hlo := World.ownsRow.lt ho
        have hsz := hb3.size
        have hK4 := hK3.setUn hlt (u := .slice A2 (G i).un.length c2) (own_lower (by omega) ho) (fun e => by have := (hlo _ e).1; omega)
          (fun z h1 h2 h3 k hk hk2 => by have h4 := (hlo _ hk).1; have h5 := (World.ownsRow.lt (HK2.out.un z h1 h2) _ hk2).2; omega) (.inr rfl) G (fun z => by
            by_cases e : z = i
            · rw [if_pos e, e]
            · rw [if_neg e])
        rw [if_pos rfl] at hK4
        exact ⟨i + 1, _, by omega, by have := HG.out; omega, by go_num, hK4, (hbel.trans (hb3.mono (by omega))).setCell (Nat.le_refl _) _⟩
      case measure => have := HG.out; omega
    · obtain rfl : i = N := by omega
      obtain ⟨r0, r1⟩ := HRA.out
      have r2 : wr.cell? ⟨w.heap.size + 1, 0, none⟩ = some (.slice none 0 0) := (hbel.cell (by show w.heap.size + 1 < _; omega)).trans r0
      have r3 : wr.frozen? ⟨w.heap.size + 1, 0, none⟩ = false := (hbel.frozen (by show w.heap.size + 1 < _; omega)).trans r1
      have r4 : w.heap.size + 1 < wr.heap.size := by omega
      have HK2 := Lib.hid hK
      clear hK
      go_wp2
      have r5 : ∀ u, (wr.setCell ⟨w.heap.size + 1, 0, none⟩ u).cell? ⟨w.heap.size + 1, 0, none⟩ = some u := fun u => by apply World.cell?_setCell_same; exact r2
      refine bodyPost_ret (by simp [results, Tryz.results154, go_sem, r5]; rfl) rfl ?_
      refine ⟨_, uv, rfl, ?_, ?_⟩
      · exact (HK2.out.elsewhere (a := ⟨w.heap.size + 1, 0, none⟩) (by show w.heap.size + 1 < _; omega) _).lower (by omega)
      · exact hbelw.setCell (by show w.heap.size ≤ w.heap.size + 1; omega) _
end Go.Proofs.YtnahhclflnjmcaaGreatDoor

/- slices.Insert of one number into a row of the call's own; slices.BinarySearch. -/
namespace Go.Proofs.YtnahhclflnjmcaaGreatDoor
open Go Go.RowKit
set_option linter.unusedVariables false
set_option linter.unusedSimpArgs false
set_option maxRecDepth 100000

theorem wpList_copy_eq {P : Program} (w : World) {ops : Array Oper} {rest : List Oper} {o : Oper} {a : Act} {Q : Exit → Act → World → Prop} (hgd : o.guard = none) (d s : Operand) (t t' : TypeId)
    (ho : o.op = .call { callee := .builtin .copy, args := #[d, s], argTypes := #[t, t'] }) (v u : Value) (hd : a.eval d = v) (hs : a.eval s = u) {v' : Value} {w' : World}
    (hr : (Builtin.copy_ #[t, t'] o.type #[v, u]).run P w = .ok v' w') (h : wpList P ops Q rest (a.put o.dst v') w') : wpList P ops Q (o :: rest) a w := by
  refine wpList_plain hgd fun K hK => ?_
  unfold Oper.wp execOp
  simp only [ho, resolve, invoke, builtin, Sem.run_bind, Sem.run_pure, Result.andThen_ok, List.map_toArray, List.map_cons, List.map_nil, hd, hs, hr]
  exact hK _ _ h
theorem step_copy_eq {P : Program} {ops : Array Oper} {o : Oper} {a : Act} {w : World} {K : Act → World → Prop} {Q : Exit → Act → World → Prop} {E : Prop}
    (hg : o.guard = none) (d x : Operand) (dT sT : TypeId) (hop : o.op = Op.call { callee := Callee.builtin Builtin.copy, args := #[d, x], argTypes := #[dT, sT] })
    (v u : Value) (hd : a.eval d = v) (hx : a.eval x = u) {v' : Value} {w' : World} (hr : (Builtin.copy_ #[dT, sT] o.type #[v, u]).run P w = .ok v' w') (hK : K (a.put o.dst v') w') :
    if Region.wanted o (yielded ops a.tmps) = true then Oper.wp P o a w K Q else E := by
  have hw : Region.wanted o (yielded ops a.tmps) = true := by simp [Region.wanted, hg]
  rw [if_pos hw]
  unfold Oper.wp
  simp [execOp, hop, resolve, invoke, builtin, hd, hx, hr, Result.andThen]
  exact hK
/-- A row of numbers in its block. -/
theorem OwnI.row {w : World} {B : Nat} {v : Value} {l : List Int} (h : OwnI w B v l) (h0 : 0 < l.length) : ∃ b c f, v = .slice (some ⟨b, 0, none⟩) l.length c ∧ B ≤ b ∧ w.rowIs b 3 c f ∧ l.length ≤ c ∧ c ≤ maxLen ∧ ∀ j x, l[j]? = some x → f j = .int .i64 x := by
  rcases h.2 with ⟨_, h1⟩ | ⟨g, cap, cur, rfl, hb, hg, hn, hm, hs, ht⟩
  · omega
  · refine ⟨g, cap, fun j => cur.getD j (.int .i64 0), rfl, hb, ⟨cur, hg, by omega, fun i hi => by show cur[i]? = some (cur.getD i _); rw [Array.getD_eq_getD_getElem?, Array.getElem?_eq_getElem (by omega)]; rfl⟩, hn, hm, fun j x hj => ?_⟩
    have hlt := (List.getElem?_eq_some_iff.1 hj).1
    have : (l.map (Value.int .i64))[j]? = some (.int .i64 x) := by rw [List.getElem?_map, hj]; rfl
    rw [← ht, List.getElem?_take_of_lt (by omega), Array.getElem?_toList] at this
    simp [Array.getD_eq_getD_getElem?, this]
theorem OwnI.of_row {w : World} {B b c : Nat} {f : Nat → Value} {l : List Int} (hB : B ≤ b) (hr : w.rowIs b 3 c f) (hn : l.length ≤ c) (hm : c ≤ maxLen) (hf : ∀ j x, l[j]? = some x → f j = .int .i64 x) : OwnI w B (.slice (some ⟨b, 0, none⟩) l.length c) l := by
  obtain ⟨cur, hg, hs, hc⟩ := hr
  refine ⟨by simp, .inr ⟨b, c, cur, rfl, hB, hg, hn, hm, by omega, ?_⟩⟩
  apply List.ext_getElem?
  intro j
  rw [Nat.mul_one]
  by_cases hj : j < l.length
  · rw [List.getElem?_take_of_lt hj, Array.getElem?_toList, hc j (by omega), List.getElem?_map, List.getElem?_eq_getElem hj, hf j _ (List.getElem?_eq_getElem hj)]
    rfl
  · rw [List.getElem?_eq_none (by simp; omega), List.getElem?_eq_none (by simp; omega)]
/-- What Insert of one number leaves. -/
structure InsP (B : Nat) (u : Value) (l : List Int) (w : World) (e : Ending) (w' : World) : Prop where
  out : ∃ u', e = .returned u' ∧ OwnI w' B u' l ∧ (u'.ownBlock = u.ownBlock ∨ u'.ownBlock = some w.heap.size)
  grown : w.grownBy w' u.ownBlock
theorem size3 : (Tryz.prog.info? 3).map (·.size) = some 1 := by
  obtain ⟨i0, hi0, h0, h1, h2⟩ := info_parts info3
  rw [hi0]; simp [h1]
theorem run_size3 : ∀ w, (Go.sizeOf 3).run Tryz.prog w = .ok 1 w := fun w => by
  obtain ⟨i0, hi0, h0, h1, h2⟩ := info_parts info3
  simp [Go.sizeOf, typeInfo, hi0, h1, Sem.run_bind]
theorem grownBy_set (w : World) (b o : Nat) (v : Value) : w.grownBy (w.setCell ⟨b, o, none⟩ v) (some b) :=
  ⟨rfl, rfl, rfl, by simp, fun g hg hr => heap_setCell_other w _ _ _ (fun e => hr (by rw [e]))⟩
theorem grownBy_setCells {w : World} {b : Nat} : ∀ (vs : List Value) (o : Nat), w.grownBy (w.setCells b o vs) (some b)
  | [], o => World.grownBy.refl _ _
  | v :: vs, o => by
    show w.grownBy ((w.setCell ⟨b, o, none⟩ v).setCells b (o + 1) vs) (some b)
    exact (grownBy_set w b o v).trans (grownBy_setCells vs (o + 1))
set_option maxHeartbeats 2000000 in
set_option maxRecDepth 100000 in
theorem insert_end {w : World} {B vb : Nat} {u : Value} {l : List Int} {t : Int} (h : OwnI w B u l) (hB : B ≤ w.heap.size) (hl : l.length ≤ 100) (hv : w.heap[vb]? = some (.cells #[.int .i64 t] 3 (0, 0))) :
    Calls Tryz.prog 157 #[u, .int .i64 l.length, .slice (some ⟨vb, 0, none⟩) 1 1] w fun e w' => InsP B u (l ++ [t]) w e w' := by
  obtain ⟨i0, hinf, hz0, hz1, hz2⟩ := info_parts info3
  obtain ⟨g, cap, w', hr, ho, hg, hlies, hlt⟩ := run_append_lies (P := Tryz.prog) w 31 31 B 3 i0 (.int .i64 0) 1 8 Tryz.underlying31 hinf hz0 hz1 hz2 rfl (by decide) u l.length (l.map (Value.int .i64)) h ⟨vb, 0, none⟩ 1 1 [.int .i64 t] rfl
    (fun j u hj => by
      have : j = 0 := by have := (List.getElem?_eq_some_iff.1 hj).1; simp at this; omega
      subst this
      rw [Addr.add_lit, cell_of_row _ _ _ _ _ _ hv]
      exact hj)
    (by simp [Value.oneCell']) (by decide) (by unfold maxLen; omega) (by omega) hB w.heap.size rfl
  have HD : Hid (InsP B u (l ++ [t]) w (.returned (.slice (some ⟨g, 0, none⟩) (l.length + 1) cap)) w') := Lib.hid ⟨⟨_, rfl, by show w'.ownsRow _ _ _ _ _ _; rw [List.length_append, List.map_append]; exact ho, by
    rcases hlies with h1 | h1
    · exact .inl (by rw [h1]; rfl)
    · exact .inr (by rw [← h1]; rfl)⟩, hg⟩
  obtain ⟨A, c, rfl⟩ := h.slice
  have hc : l.length ≤ c := by obtain ⟨A', c', e, h1, _⟩ := h.ints; injection e with _ _ e; omega
  clear ho hg hlies hlt hinf hz0 hz1 hz2 hv h
  generalize l.length = n at *
  by_cases hcn : c = n
  · subst hcn
    go_enter Tryz.func157, Tryz.ntmps157
    go_wp2_with (at_builtin; refine Lib.wpList_append_run _ rfl _ _ 31 31 rfl _ _ rfl rfl _ _ hr ?_)
    go_ret
    exact HD.out
  · go_enter Tryz.func157, Tryz.ntmps157
    go_wp2_with (at_builtin; refine Lib.wpList_append_run _ rfl _ _ 31 31 rfl _ _ rfl rfl _ _ hr ?_)
    go_ret
    exact HD.out
set_option maxHeartbeats 4000000 in
set_option maxRecDepth 100000 in
theorem insert_room {w : World} {B b vb c n i : Nat} {f : Nat → Value} {l : List Int} {t : Int} (hB : B ≤ b) (hr : w.rowIs b 3 c f) (hn : l.length = n) (hf : ∀ j x, l[j]? = some x → f j = .int .i64 x) (hi : i < n) (hc : n + 1 ≤ c) (hm : c ≤ maxLen) (hn2 : n ≤ 100)
    (hv : w.heap[vb]? = some (.cells #[.int .i64 t] 3 (0, 0))) (hne : vb ≠ b) :
    Calls Tryz.prog 157 #[.slice (some ⟨b, 0, none⟩) n c, .int .i64 i, .slice (some ⟨vb, 0, none⟩) 1 1] w fun e w' => InsP B (.slice (some ⟨b, 0, none⟩) n c) (l.take i ++ t :: l.drop i) w e w' := by
  have hsa : w.shape? vb = some (3, 1) := by simp [World.shape?, hv]
  have hsb : w.shape? b = some (3, c) := by obtain ⟨cur, h1, h2, _⟩ := hr; simp [World.shape?, h1, h2]
  have hfv : ∀ j, w.frozen? ⟨vb, j, none⟩ = false := fun j => frozen_of_row w vb _ _ _ hv
  have hov : ∀ o lb cb, (callFunc 252 #[.slice (some ⟨vb, 0, none⟩) 1 1, .slice (some ⟨b, o, none⟩) lb cb]).run Tryz.prog w = .ok (.value (.bool false)) w := fun o lb cb => by
    rw [run_callFunc_extern Tryz.func252 (by kernel_rfl) (by kernel_rfl) (by kernel_rfl) (e := Extern.SlicesOverlaps.overlaps #[31, 31] #[4]) (by kernel_rfl),
      Lib.run_overlaps_apart w 31 4 3 Tryz.underlying31 1 run_size3 ⟨vb, 0, none⟩ ⟨b, o, none⟩ 1 1 lb cb hne 3 3 1 c hsa hsb (by omega) (hfv _) (hfv _)]
    rfl
  have hls : ∀ u ∈ (l.drop i).map (Value.int .i64), u.oneCell' = true := by
    intro u hu
    obtain ⟨z, _, rfl⟩ := List.mem_map.1 hu
    rfl
  have hlen : ((l.drop i).map (Value.int .i64)).length = n - i := by simp [hn]
  have hcp1 : ∀ ty dc sc, (Builtin.copy_ #[31, 31] ty #[.slice (some ⟨b, i + 1, none⟩) (n - i) dc, .slice (some ⟨b, i, none⟩) (n + 1 - i) sc]).run Tryz.prog w.drew = .ok (goInt (Nat.min (n + 1 - i) (n - i))) (w.drew.setCells b (i + 1) ((l.drop i).map (Value.int .i64))) := fun ty dc sc =>
    run_copy_part w.drew 31 31 ty 3 1 b (i + 1) (n - i) dc ⟨b, i, none⟩ (n + 1 - i) sc _ Tryz.underlying31 size3 (by rw [hlen]; show n - i = min (n + 1 - i) (n - i) * 1; omega)
      (fun j u hj => by
        have hj4 : j < n - i := by have := (List.getElem?_eq_some_iff.1 hj).1; omega
        rw [List.getElem?_map, List.getElem?_drop, Option.map_eq_some_iff] at hj
        obtain ⟨z, hz, rfl⟩ := hj
        rw [Addr.add_lit, hr.drew.cell (by omega), hf _ _ hz])
      (fun j hj => by rw [hr.drew.cell (by omega)]; rfl)
      (fun j hj => hr.drew.frozen _) hls
  have hr1 := rowIs_setCells ((l.drop i).map (Value.int .i64)) (i + 1) _ _ hr.drew
  have hgr1 := grownBy_setCells (w := w.drew) (b := b) ((l.drop i).map (Value.int .i64)) (i + 1)
  obtain ⟨W1, hW1⟩ : ∃ W1, W1 = w.drew.setCells b (i + 1) ((l.drop i).map (Value.int .i64)) := ⟨_, rfl⟩
  rw [← hW1] at hcp1 hr1 hgr1
  have hv1 : W1.heap[vb]? = some (.cells #[.int .i64 t] 3 (0, 0)) := by
    rw [hgr1.block vb (by exact (Array.getElem?_eq_some_iff.1 hv).1) (fun e => hne (Option.some.inj e))]
    exact hv
  have hcp2 : ∀ (W : World), W.heap = W1.heap → ∀ ty dc, (Builtin.copy_ #[31, 31] ty #[.slice (some ⟨b, i, none⟩) (n + 1 - i) dc, .slice (some ⟨vb, 0, none⟩) 1 1]).run Tryz.prog W = .ok (goInt (Nat.min 1 (n + 1 - i))) (W.setCells b i [.int .i64 t]) := fun W hW ty dc => by
    have hrW := hr1.of_block (w' := W) (by rw [hW])
    exact run_copy_part W 31 31 ty 3 1 b i (n + 1 - i) dc ⟨vb, 0, none⟩ 1 1 _ Tryz.underlying31 size3 (by show 1 = min 1 (n + 1 - i) * 1; omega)
      (fun j u hj => by
        have : j = 0 := by have := (List.getElem?_eq_some_iff.1 hj).1; simp at this; omega
        subst this
        rw [Addr.add_lit, cell_of_row _ _ _ _ _ _ (by rw [hW]; exact hv1)]
        exact hj)
      (fun j hj => by simp at hj; rw [hrW.cell (by omega)]; rfl)
      (fun j hj => hrW.frozen _) (by simp [Value.oneCell'])
  have HD : Hid (∀ W : World, W = W1.setCells b i [.int .i64 t] → InsP B (.slice (some ⟨b, 0, none⟩) n c) (l.take i ++ t :: l.drop i) w (.returned (.slice (some ⟨b, 0, none⟩) (n + 1) c)) W) := Lib.hid fun W hW => by
    have hr2 := rowIs_setCells [Value.int .i64 t] i _ _ hr1
    rw [← hW] at hr2
    have hl2 : (l.take i ++ t :: l.drop i).length = n + 1 := by simp [hn]; omega
    refine ⟨⟨_, rfl, ?_, .inl rfl⟩, ?_⟩
    · have := OwnI.of_row (l := l.take i ++ t :: l.drop i) hB hr2 (by omega) hm (fun j x hj => ?_)
      · rw [hl2] at this; exact this
      · by_cases h1 : j = i
        · subst h1
          rw [dif_pos (by simp)]
          have : x = t := by
            rw [List.getElem?_append_right (by simp; omega)] at hj
            simp [show j - min j l.length = 0 by omega] at hj
            exact hj.symm
          simp [this]
        · rw [dif_neg (by simp; omega)]
          by_cases h2 : i + 1 ≤ j
          · have hjl : j < n + 1 := by have := (List.getElem?_eq_some_iff.1 hj).1; omega
            rw [dif_pos (by rw [hlen]; omega)]
            rw [List.getElem?_append_right (by simp; omega)] at hj
            obtain ⟨k, rfl⟩ : ∃ k, j = i + 1 + k := ⟨j - (i + 1), by omega⟩
            rw [List.length_take, show i + 1 + k - min i l.length = k + 1 by omega, List.getElem?_cons_succ] at hj
            have e := (List.getElem?_eq_some_iff.1 hj)
            simp only [show i + 1 + k - (i + 1) = k by omega, List.getElem_map]
            rw [e.2]
          · rw [dif_neg (by omega)]
            rw [List.getElem?_append_left (by simp; omega), List.getElem?_take_of_lt (by omega)] at hj
            exact hf j x hj
    · rw [hW]
      exact (World.grownBy.trans (show w.grownBy w.drew (some b) from ⟨rfl, rfl, rfl, Nat.le_refl _, fun _ _ _ => rfl⟩) hgr1).trans (grownBy_setCells _ _)
  have q1 : ¬ ((n : Int) + 1 > (c : Int)) := by omega
  unfold maxLen at hm
  clear hr hf hsa hsb hfv hls hlen hr1 hgr1 hv1 hv hW1
  go_enter Tryz.func157, Tryz.ntmps157
  have k1 : IntKind.i64.wrap ((i : Int) + 1) = (i : Int) + 1 := by rw [IntKind.wrap_i64]; omega
  have k2 : ((i : Int) + 1).toNat = i + 1 := by omega
  have k3 : ¬ (c = i + 1) := by omega
  have k4 : ((i : Int) + 1 ≤ (n : Int) + 1) = True := eq_true (by omega)
  have k5 : ((0 : Int) ≤ (i : Int) + 1) = True := eq_true (by omega)
  have k6 : ¬ (c = i) := by omega
  have k7 : IntKind.i64.wrap (i : Int) = (i : Int) := by rw [IntKind.wrap_i64]; omega
  have k8 : ((i : Int) ≤ (n : Int) + 1) = True := eq_true (by omega)
  have k9 : n + 1 - (i + 1) = n - i := by omega
  go_wp2_with (simp only [hov])
  go_region_law (refine step_copy_eq rfl _ _ 31 31 rfl _ _ (by simp [Act.eval, Act.put]) (by simp [Act.eval, Act.put]) (hcp1 _ _ _) ?_)
  go_wp2_with (at_builtin; refine wpList_copy_eq _ rfl _ _ 31 31 rfl _ _ rfl rfl (hcp2 _ rfl _ _) ?_)
  go_ret
  exact HD.out _ rfl
/-- Of a list with one more: what stands where. -/
theorem ins_get {l : List Int} {i : Nat} {t : Int} (hi : i ≤ l.length) {j : Nat} {x : Int} (hj : (l.take i ++ t :: l.drop i)[j]? = some x) :
    (j = i ∧ x = t) ∨ (j < i ∧ l[j]? = some x) ∨ (i < j ∧ j < l.length + 1 ∧ l[j - 1]? = some x) := by
  by_cases h1 : j = i
  · subst h1
    rw [List.getElem?_append_right (by simp; omega), List.length_take, show j - min j l.length = 0 by omega, List.getElem?_cons_zero] at hj
    exact .inl ⟨rfl, (Option.some.inj hj).symm⟩
  · by_cases h2 : j < i
    · rw [List.getElem?_append_left (by simp; omega), List.getElem?_take_of_lt h2] at hj
      exact .inr (.inl ⟨h2, hj⟩)
    · rw [List.getElem?_append_right (by simp; omega), List.length_take, show j - min i l.length = (j - 1 - i) + 1 by omega, List.getElem?_cons_succ, List.getElem?_drop, show i + (j - 1 - i) = j - 1 by omega] at hj
      have := (List.getElem?_eq_some_iff.1 hj).1
      exact .inr (.inr ⟨by omega, by omega, hj⟩)
theorem setCells_heap (g : Nat) : ∀ (vs : List Value) (o : Nat) (w w' : World), w.heap = w'.heap → (w.setCells g o vs).heap = (w'.setCells g o vs).heap
  | [], _, _, _, h => h
  | v :: r, o, w, w', h => setCells_heap g r (o + 1) _ _ (by simp only [World.setCell, h])
theorem os_setCells (g : Nat) : ∀ (vs : List Value) (o : Nat) (w : World), (w.setCells g o vs).os = w.os ∧ (w.setCells g o vs).tape = w.tape ∧ (w.setCells g o vs).output = w.output
  | [], _, _ => ⟨rfl, rfl, rfl⟩
  | v :: r, o, w => os_setCells g r (o + 1) _
set_option maxHeartbeats 4000000 in
set_option maxRecDepth 100000 in
theorem insert_grow {w : World} {B b vb n i : Nat} {f : Nat → Value} {l : List Int} {t : Int} (hB : B ≤ w.heap.size) (hr : w.rowIs b 3 n f) (hn : l.length = n) (hf : ∀ j x, l[j]? = some x → f j = .int .i64 x) (hi : i < n) (hn2 : n ≤ 100)
    (hv : w.heap[vb]? = some (.cells #[.int .i64 t] 3 (0, 0))) :
    Calls Tryz.prog 157 #[.slice (some ⟨b, 0, none⟩) n n, .int .i64 i, .slice (some ⟨vb, 0, none⟩) 1 1] w fun e w' => InsP B (.slice (some ⟨b, 0, none⟩) n n) (l.take i ++ t :: l.drop i) w e w' := by
  obtain ⟨i0, hi0, hz0, hzs, hzb⟩ := info_parts info3
  have hbl := hr.lt
  have hvl := (Array.getElem?_eq_some_iff.1 hv).1
  have hold : (Builtin.firstCells i0.size i (.slice (some ⟨b, 0, none⟩) i n)).run Tryz.prog w.drew = .ok ((l.take i).map (Value.int .i64)).toArray w.drew := by
    rw [hzs]
    exact run_firstCells_some w.drew 1 i ⟨b, 0, none⟩ i n ((l.take i).map (Value.int .i64)) (by simp; omega) (fun j v hj => by
      rw [List.getElem?_map, Option.map_eq_some_iff] at hj
      obtain ⟨z, hz, rfl⟩ := hj
      have hji : j < i := by have := (List.getElem?_eq_some_iff.1 hz).1; simp at this; omega
      rw [List.getElem?_take_of_lt hji] at hz
      rw [Addr.add_lit, Nat.zero_add, hr.drew.cell (by omega), hf _ _ hz])
  obtain ⟨G, hG⟩ : ∃ G, G = grownCap w (i + (n + 1 - i)) n 3 := ⟨_, rfl⟩
  have hGn : n + 1 ≤ G := by have := grownCap_ge w (i + (n + 1 - i)) n 3; omega
  have hG63 : G ≤ maxLen := by
    have := grownCap_le_maxLen w (i + (n + 1 - i)) n 3 (by unfold maxLen; omega)
    rw [← hG] at this
    exact this
  have hrz : ∀ ty, (Builtin.append_ #[31, 3] ty #[.slice (some ⟨b, 0, none⟩) i n, .int .i64 ((n + 1 - i : Nat) : Int)]).run Tryz.prog w =
      .ok (.slice (some ⟨w.heap.size, 0, none⟩) (i + (n + 1 - i)) G) (w.drew.alloc (.cells (((l.take i).map (Value.int .i64)).toArray ++ Builtin.zeroCells #[.int .i64 0] (n + 1 - i) ++ Builtin.zeroCells #[.int .i64 0] (G - (i + (n + 1 - i)))) 3)) := fun ty => by
    have h := Lib.run_append_grow_zeros w 31 3 ty 3 i0 (.int .i64 0) .i64 .i64 Tryz.underlying31 Tryz.underlying3 hi0 hz0 (some ⟨b, 0, none⟩) i n ((l.take i).map (Value.int .i64)) hold (n + 1 - i) (by omega) (by rw [hzs]; omega) (by omega) (by omega) (by rw [hzb]; omega) (by rw [hzb]; exact growslice_fits (by omega) (by omega))
    rw [hG]
    exact h
  rw [show i + (n + 1 - i) = n + 1 by omega] at hrz
  obtain ⟨ROW, hROW⟩ : ∃ ROW : Array Value, ROW = ((l.take i).map (Value.int .i64)).toArray ++ Builtin.zeroCells #[.int .i64 0] (n + 1 - i) ++ Builtin.zeroCells #[.int .i64 0] (G - (n + 1)) := ⟨_, rfl⟩
  rw [← hROW] at hrz
  have hRl : ROW.size = G := by
    rw [hROW]
    simp [Builtin.zeroCells]
    omega
  obtain ⟨W1, hW1⟩ : ∃ W1, W1 = w.drew.alloc (.cells ROW 3) := ⟨_, rfl⟩
  rw [← hW1] at hrz
  have n1 : W1.rowIs w.heap.size 3 G (fun j => ROW.getD j (.int .i64 0)) := by
    rw [hW1, ← hRl]
    exact World.rowIs_alloc w.drew ROW 3 _ (fun j hj => by
      show ROW[j]? = some (ROW.getD j _)
      rw [Array.getD_eq_getD_getElem?, Array.getElem?_eq_getElem hj]
      rfl)
  have n0 : ∀ j x, j < i → l[j]? = some x → ROW.getD j (.int .i64 0) = .int .i64 x := fun j x hj hx => by
    have hlt := (List.getElem?_eq_some_iff.1 hx).1
    have hsz : ((l.take i).map (Value.int .i64)).length = i := by simp; omega
    rw [hROW, Array.append_assoc, Array.getD_eq_getD_getElem?, Array.getElem?_append_left (by simp; omega)]
    simp [hj, hx]
  have n2 : ∀ k, k < w.heap.size → W1.heap[k]? = w.heap[k]? := fun k hk => by rw [hW1]; exact Below.heap_alloc w.drew _ k hk
  have n3 : w.grownBy W1 (some b) := by rw [hW1]; exact World.grownBy.trans (show w.grownBy w.drew (some b) from ⟨rfl, rfl, rfl, Nat.le_refl _, fun _ _ _ => rfl⟩) (World.grownBy_alloc _ _ _)
  have hcpA : ∀ (W : World), W.heap = W1.heap → ∀ ty dc, (Builtin.copy_ #[31, 31] ty #[.slice (some ⟨w.heap.size, i, none⟩) (n + 1 - i) dc, .slice (some ⟨vb, 0, none⟩) 1 1]).run Tryz.prog W = .ok (goInt (Nat.min 1 (n + 1 - i))) (W.setCells w.heap.size i [.int .i64 t]) := fun W hW ty dc => by
    have hrW := n1.of_block (w' := W) (by rw [hW])
    exact run_copy_part W 31 31 ty 3 1 w.heap.size i (n + 1 - i) dc ⟨vb, 0, none⟩ 1 1 _ Tryz.underlying31 size3 (by show 1 = min 1 (n + 1 - i) * 1; omega)
      (fun j u hj => by
        have : j = 0 := by have := (List.getElem?_eq_some_iff.1 hj).1; simp at this; omega
        subst this
        rw [Addr.add_lit, cell_of_row _ _ _ _ _ _ (by rw [hW, n2 vb hvl]; exact hv)]
        exact hj)
      (fun j hj => by simp at hj; rw [hrW.cell (by omega)]; rfl)
      (fun j hj => hrW.frozen _) (by simp [Value.oneCell'])
  have hr1 := rowIs_setCells [Value.int .i64 t] i _ _ n1
  have hls : ∀ u ∈ (l.drop i).map (Value.int .i64), u.oneCell' = true := by
    intro u hu
    obtain ⟨z, _, rfl⟩ := List.mem_map.1 hu
    rfl
  have hlen : ((l.drop i).map (Value.int .i64)).length = n - i := by simp [hn]
  have hcpB : ∀ (W : World), W.heap = (W1.setCells w.heap.size i [.int .i64 t]).heap → ∀ ty dc sc, (Builtin.copy_ #[31, 31] ty #[.slice (some ⟨w.heap.size, i + 1, none⟩) (n - i) dc, .slice (some ⟨b, i, none⟩) (n - i) sc]).run Tryz.prog W = .ok (goInt (Nat.min (n - i) (n - i))) (W.setCells w.heap.size (i + 1) ((l.drop i).map (Value.int .i64))) := fun W hW ty dc sc => by
    have hrW := hr1.of_block (w' := W) (by rw [hW])
    have hrb : W.rowIs b 3 n f := hr.of_block (by
      rw [hW]
      have hg := grownBy_setCells (w := W1) (b := w.heap.size) [Value.int .i64 t] i
      rw [hg.block b (by have := n1.lt; omega) (fun e => by injection e with e; omega), n2 b hbl])
    exact run_copy_part W 31 31 ty 3 1 w.heap.size (i + 1) (n - i) dc ⟨b, i, none⟩ (n - i) sc _ Tryz.underlying31 size3 (by rw [hlen]; show n - i = min (n - i) (n - i) * 1; omega)
      (fun j u hj => by
        have hj4 : j < n - i := by have := (List.getElem?_eq_some_iff.1 hj).1; omega
        rw [List.getElem?_map, List.getElem?_drop, Option.map_eq_some_iff] at hj
        obtain ⟨z, hz, rfl⟩ := hj
        rw [Addr.add_lit, hrb.cell (by omega), hf _ _ hz])
      (fun j hj => by rw [hrW.cell (by omega)]; rfl)
      (fun j hj => hrW.frozen _) hls
  obtain ⟨ls, hls2⟩ : ∃ ls, ls = (l.drop i).map (Value.int .i64) := ⟨_, rfl⟩
  have hr2 := rowIs_setCells ((l.drop i).map (Value.int .i64)) (i + 1) _ _ hr1
  have HD : Hid (∀ W : World, W.os = w.os → W.tape = w.tape → W.output = w.output → W.heap = ((W1.setCells w.heap.size i [.int .i64 t]).setCells w.heap.size (i + 1) ls).heap → InsP B (.slice (some ⟨b, 0, none⟩) n n) (l.take i ++ t :: l.drop i) w (.returned (.slice (some ⟨w.heap.size, 0, none⟩) (n + 1) G)) W) := Lib.hid fun W e1 e2 e3 hW => by
    rw [hls2] at hW
    have hrW := hr2.of_block (w' := W) (by rw [hW])
    have hl2 : (l.take i ++ t :: l.drop i).length = n + 1 := by simp [hn]; omega
    refine ⟨⟨_, rfl, ?_, .inr rfl⟩, ?_⟩
    · have := OwnI.of_row (l := l.take i ++ t :: l.drop i) hB hrW (by omega) hG63 (fun j x hj => ?_)
      · rw [hl2] at this; exact this
      · rcases ins_get (by omega) hj with ⟨rfl, rfl⟩ | ⟨h1, h2⟩ | ⟨h1, h2, h3⟩
        · rw [dif_neg (by omega), dif_pos (by simp)]
          simp
        · rw [dif_neg (by omega), dif_neg (by simp; omega)]
          exact n0 j x h1 h2
        · rw [dif_pos (by rw [hlen]; omega)]
          simp only [List.getElem_map, List.getElem_drop]
          have e := (List.getElem?_eq_some_iff.1 h3)
          rw [← e.2]
          congr 2
          omega
    · refine ⟨e1, e2, e3, ?_, fun k hk hne => ?_⟩
      · rw [hW]
        have := n3.size
        have := (grownBy_setCells (w := W1) (b := w.heap.size) [Value.int .i64 t] i).size
        have := (grownBy_setCells (w := W1.setCells w.heap.size i [.int .i64 t]) (b := w.heap.size) ((l.drop i).map (Value.int .i64)) (i + 1)).size
        omega
      · rw [hW]
        have h1 := (grownBy_setCells (w := W1) (b := w.heap.size) [Value.int .i64 t] i)
        have h2 := (grownBy_setCells (w := W1.setCells w.heap.size i [.int .i64 t]) (b := w.heap.size) ((l.drop i).map (Value.int .i64)) (i + 1))
        have s1 := n3.size
        have s2 := h1.size
        rw [h2.block k (by omega) (fun e => by injection e with e; omega), h1.block k (by omega) (fun e => by injection e with e; omega), n2 k hk]
  have k1 : IntKind.i64.wrap ((i : Int) + 1) = (i : Int) + 1 := by rw [IntKind.wrap_i64]; omega
  have k2 : ((i : Int) + 1).toNat = i + 1 := by omega
  have k3 : ¬ (G = i + 1) := by omega
  have k4 : ((i : Int) + 1 ≤ (n : Int) + 1) = True := eq_true (by omega)
  have k5 : ((0 : Int) ≤ (i : Int) + 1) = True := eq_true (by omega)
  have k6 : ¬ (G = i) := by omega
  have k7 : IntKind.i64.wrap (i : Int) = (i : Int) := by rw [IntKind.wrap_i64]; omega
  have k8 : ((i : Int) ≤ (n : Int) + 1) = True := eq_true (by omega)
  have k9 : n + 1 - (i + 1) = n - i := by omega
  have k10 : ¬ (n = i) := by omega
  have k12 : (i ≤ n) = True := eq_true (by omega)
  have k11 : (n : Int) + 1 - (i : Int) = ((n + 1 - i : Nat) : Int) := by omega
  have HN3 := Lib.hid n3
  have HW1 := Lib.hid hW1
  rw [← hls2] at hcpB
  unfold maxLen at hG63
  clear hr hf hn hv n1 n0 n2 n3 hr1 hr2 hls hlen hls2 hROW hRl hold hG hi0 hz0 hzs hzb
  subst hW1
  have hE : ((w.alloc (.cells ROW 3)).drew).heap = (w.drew.alloc (.cells ROW 3)).heap := rfl
  have hF : (((w.alloc (.cells ROW 3)).drew.setCells w.heap.size i [.int .i64 t]).drew).heap = ((w.drew.alloc (.cells ROW 3)).setCells w.heap.size i [.int .i64 t]).heap :=
    setCells_heap w.heap.size _ i ((w.alloc (.cells ROW 3)).drew) (w.drew.alloc (.cells ROW 3)) rfl
  go_enter Tryz.func157, Tryz.ntmps157
  go_wp2_with (first
    | (at_builtin; refine Lib.wpList_append_run _ rfl _ _ _ _ rfl _ _ rfl rfl _ _ (hrz _) ?_)
    | (at_builtin; refine wpList_copy_eq _ rfl _ _ 31 31 rfl _ _ rfl rfl (hcpA _ hE _ _) ?_))
  go_region_law (refine step_copy_eq rfl _ _ 31 31 rfl (.slice (some ⟨w.heap.size, i + 1, none⟩) (n - i) (G - (i + 1))) (.slice (some ⟨b, i, none⟩) (n - i) (n - i)) (by simp [Act.eval, Act.put]) (by simp [Act.eval, Act.put]) (hcpB _ hF 3 (G - (i + 1)) (n - i)) ?_)
  go_wp2
  go_ret
  have hZ := setCells_heap w.heap.size ls (i + 1) _ _ hF
  have h8 := os_setCells w.heap.size ls (i + 1) (((w.alloc (.cells ROW 3)).drew.setCells w.heap.size i [.int .i64 t]).drew)
  have h9 := os_setCells w.heap.size [.int .i64 t] i ((w.alloc (.cells ROW 3)).drew)
  exact HD.out _ (h8.1.trans h9.1) (h8.2.1.trans h9.2.1) (h8.2.2.trans h9.2.2) hZ
/-- Insert of one number, wherever. -/
theorem insert33 {w : World} {B vb : Nat} {u : Value} {l : List Int} {i : Nat} {t : Int} (h : OwnI w B u l) (hB : B ≤ w.heap.size) (hi : i ≤ l.length) (hl : l.length ≤ 100) (hv : w.heap[vb]? = some (.cells #[.int .i64 t] 3 (0, 0))) (hne : u.ownBlock ≠ some vb) :
    Calls Tryz.prog 157 #[u, .int .i64 i, .slice (some ⟨vb, 0, none⟩) 1 1] w fun e w' => InsP B u (l.take i ++ t :: l.drop i) w e w' := by
  by_cases he : i = l.length
  · subst he
    have := insert_end h hB hl hv
    rw [List.take_length, List.drop_length]
    exact this
  · obtain ⟨b, c, f, rfl, hb, hr, hn, hm, hf⟩ := h.row (by omega)
    by_cases hc : l.length + 1 ≤ c
    · exact insert_room hb hr rfl hf (by omega) hc hm hl hv (fun e => hne (by rw [e]; rfl))
    · obtain rfl : c = l.length := by omega
      exact insert_grow hB hr rfl hf (by omega) hl hv
end Go.Proofs.YtnahhclflnjmcaaGreatDoor

/- slices.BinarySearch in a row of numbers that rise; cmp.Less; Min, Index, Contains. -/
namespace Go.Proofs.YtnahhclflnjmcaaGreatDoor
open Go Go.RowKit
set_option linter.unusedVariables false
set_option linter.unusedSimpArgs false
set_option maxRecDepth 100000

theorem nan60 (x : Int) (w : World) : Calls Tryz.prog 272 #[.int .i64 x] w fun e w' => e = .returned (.bool false) ∧ w = w' := by
  have t1 : (x != x) = false := by simp
  go_enter Tryz.func272, Tryz.ntmps272
  go_wp2
  go_ret
  exact ⟨rfl, rfl⟩
theorem nan47 (x : Int) (w : World) : Calls Tryz.prog 251 #[.int .i64 x] w fun e w' => e = .returned (.bool false) ∧ w = w' := by
  have t1 : (x != x) = false := by simp
  go_enter Tryz.func251, Tryz.ntmps251
  go_wp2
  go_ret
  exact ⟨rfl, rfl⟩
theorem less46 (x y : Int) (w : World) : Calls Tryz.prog 250 #[.int .i64 x, .int .i64 y] w fun e w' => e = .returned (.bool (decide (x < y))) ∧ w = w' := by
  go_enter Tryz.func250, Tryz.ntmps250
  go_wp2_with (go_at_call 272; refine (nan60 _ _).mono ?_; rintro e w' ⟨rfl, rfl⟩)
  go_ret
  exact ⟨by simp, rfl⟩
theorem pw_lt {l : List Int} (h : l.Pairwise (· < ·)) {i j : Nat} {x y : Int} (hij : i < j) (hx : l[i]? = some x) (hy : l[j]? = some y) : x < y := by
  obtain ⟨h1, rfl⟩ := List.getElem?_eq_some_iff.1 hx
  obtain ⟨h2, rfl⟩ := List.getElem?_eq_some_iff.1 hy
  exact List.pairwise_iff_getElem.1 h i j h1 h2 hij
theorem ins_eq (t : Int) : ∀ (l : List Int) (k : Nat), k ≤ l.length → (∀ j x, j < k → l[j]? = some x → x < t) → (∀ j x, k ≤ j → l[j]? = some x → t ≤ x) → l.take k ++ t :: l.drop k = ins t l
  | [], k, hk, _, _ => by
    obtain rfl : k = 0 := by simpa using hk
    rfl
  | u :: us, 0, _, _, h2 => by
    have := h2 0 u (Nat.le_refl _) rfl
    unfold ins
    rw [if_neg (by omega)]
    rfl
  | u :: us, k + 1, hk, h1, h2 => by
    have := h1 0 u (by omega) rfl
    have ih := ins_eq t us k (by simpa using hk) (fun j x hj hx => h1 (j + 1) x (by omega) (by simpa using hx)) (fun j x hj hx => h2 (j + 1) x (by omega) (by simpa using hx))
    unfold ins
    rw [if_pos this, ← ih]
    rfl
set_option maxHeartbeats 2000000 in
set_option maxRecDepth 100000 in
theorem search32 (v : Value) (l : List Int) (t : Int) (w : World) (h : Ints w v l) (hl : l.length ≤ 100) (hs : l.Pairwise (· < ·)) :
    Calls Tryz.prog 156 #[v, .int .i64 t] w fun e w' => ∃ (k : Nat) (b : Bool), e = .returned (.tuple #[.int .i64 k, .bool b]) ∧ (k ≤ l.length ∧ l.take k ++ t :: l.drop k = ins t l) ∧ w = w' := by
  obtain ⟨A, c, rfl, h1, h2, h3⟩ := h
  have H := Lib.hid (And.intro h3 hs)
  have HINS := Lib.hid (ins_eq t l)
  clear h3 hs
  generalize hn : l.length = n at *
  have HN := Lib.hid hn
  clear hn
  go_enter Tryz.func156, Tryz.ntmps156
  go_wp2_with fail
  go_loopg [7, 8] (n + 1) (fun g v7 v8 wr => ∃ i j : Nat, i ≤ j ∧ j ≤ n ∧ j - i + 1 ≤ g ∧ v7 = .int .i64 i ∧ v8 = .int .i64 j ∧ ((∀ k x, k < i → l[k]? = some x → x < t) ∧ (∀ k x, j ≤ k → l[k]? = some x → t ≤ x)) ∧ wr = w)
  case atStart => exact ⟨0, n, by omega, by omega, by omega, rfl, rfl, ⟨fun k x hk => by omega, fun k x hk hx => by have := (List.getElem?_eq_some_iff.1 hx).1; have := HN.out; omega⟩, rfl⟩
  case round =>
    obtain ⟨i, j, hij, hj, hg, rfl, rfl, hinv, rfl⟩ := hrel
    have HI := Lib.hid hinv
    have HG := Lib.hid hg
    clear hinv hg
    by_cases hlt : i < j
    · obtain ⟨m, hm⟩ : ∃ m, m = (i + j) / 2 := ⟨_, rfl⟩
      have HM := Lib.hid hm
      have hm1 : i ≤ m := by omega
      have hm2 : m < j := by omega
      have e1 : ((i : Int) + (j : Int)) / 2 = (m : Int) := by omega
      obtain ⟨x, hx⟩ : ∃ x, l[m]? = some x := ⟨l[m]'(by have := HN.out; omega), List.getElem?_eq_getElem _⟩
      obtain ⟨b, o, rfl, hc⟩ := H.out.1 (by omega)
      have cx := hc m x hx
      have HX := Lib.hid hx
      have q1 : (0 : Int) ≤ (m : Int) := by omega
      have q2 : (m : Int) < n := by omega
      clear hm hx hc
      by_cases hxt : x < t
      · have hL : ∀ w, Calls Tryz.prog 250 #[.int .i64 x, .int .i64 t] w fun e w' => e = .returned (.bool true) ∧ w = w' := fun w => by
          have := less46 x t w
          rw [decide_eq_true hxt] at this
          exact this
        have HXT := Lib.hid hxt
        clear hxt
        go_wp2_with (first | (go_at_call 250; refine (hL _).mono ?_; rintro e w' ⟨rfl, rfl⟩) | (simp only [e1]))
        go_roundg (gk - 1)
        case rel => exact ⟨m + 1, j, by omega, by omega, by have := HG.out; omega, by go_num, rfl, ⟨fun k y hk hy => by
          by_cases e : k = m
          · subst e
            rw [HX.out] at hy
            have := Option.some.inj hy
            have := HXT.out
            omega
          · have := pw_lt H.out.2 (show k < m by omega) hy HX.out
            have := HXT.out
            omega, HI.out.2⟩, rfl⟩
        case measure => have := HG.out; omega
      · have hL : ∀ w, Calls Tryz.prog 250 #[.int .i64 x, .int .i64 t] w fun e w' => e = .returned (.bool false) ∧ w = w' := fun w => by
          have := less46 x t w
          rw [decide_eq_false hxt] at this
          exact this
        have HXT := Lib.hid hxt
        clear hxt
        go_wp2_with (first | (go_at_call 250; refine (hL _).mono ?_; rintro e w' ⟨rfl, rfl⟩) | (simp only [e1]))
        go_roundg (gk - 1)
        case rel => exact ⟨i, m, by omega, by omega, by have := HG.out; omega, rfl, rfl, ⟨HI.out.1, fun k y hk hy => by
          by_cases e : k = m
          · subst e
            rw [HX.out] at hy
            have := Option.some.inj hy
            have := HXT.out
            omega
          · have := pw_lt H.out.2 (show m < k by omega) HX.out hy
            have := HXT.out
            omega⟩, rfl⟩
        case measure => have := HG.out; omega
    · obtain rfl : i = j := by omega
      have HE := Lib.hid (HINS.out i (by have := HN.out; omega) HI.out.1 HI.out.2)
      by_cases hin : i < n
      · obtain ⟨x, hx⟩ : ∃ x, l[i]? = some x := ⟨l[i]'(by have := HN.out; omega), List.getElem?_eq_getElem _⟩
        obtain ⟨b, o, rfl, hc⟩ := H.out.1 (by omega)
        have cx := hc i x hx
        have q1 : (0 : Int) ≤ (i : Int) := by omega
        have q2 : (i : Int) < n := by omega
        clear hx hc
        cases hxt : (x == t) with
        | true =>
          go_wp2_with (go_at_call 251; refine (nan47 _ _).mono ?_; rintro e w' ⟨rfl, rfl⟩)
          go_ret2
          exact ⟨i, _, rfl, ⟨hj, HE.out⟩, rfl⟩
        | false =>
          go_wp2_with (go_at_call 251; refine (nan47 _ _).mono ?_; rintro e w' ⟨rfl, rfl⟩)
          go_ret2
          exact ⟨i, _, rfl, ⟨hj, HE.out⟩, rfl⟩
      · obtain rfl : i = n := by omega
        go_wp2
        go_ret2
        exact ⟨i, _, rfl, ⟨hj, HE.out⟩, rfl⟩
set_option maxHeartbeats 2000000 in
set_option maxRecDepth 100000 in
theorem min36 (v : Value) (l : List Int) (w : World) (h : Ints w v l) (h0 : 0 < l.length) (hl : l.length ≤ 1000) :
    Calls Tryz.prog 166 #[v] w fun e w' => ∃ m, e = .returned (.int .i64 m) ∧ (m < 1 ↔ ∃ x ∈ l, x < 1) ∧ w = w' := by
  obtain ⟨A, c, rfl, h1, h2, h3⟩ := h
  obtain ⟨b, o, rfl, hc⟩ := h3 h0
  have HC := Lib.hid hc
  clear h3
  generalize hn : l.length = n at *
  have HN := Lib.hid hn
  have hc0 := hc 0 (l[0]'(by omega)) (List.getElem?_eq_getElem _)
  rw [Nat.add_zero] at hc0
  have H0 := Lib.hid (show l[0]? = some (l[0]'(by omega)) from List.getElem?_eq_getElem _)
  generalize l[0] = x0 at hc0 H0
  have t0 : decide ((n : Int) < 1) = false := decide_eq_false (by omega)
  have q0 : (0 : Int) < (n : Int) := by omega
  clear hn hc
  go_enter Tryz.func166, Tryz.ntmps166
  go_wp2_with fail
  go_loopg [3, 4] (n + 1) (fun g v3 v4 wr => ∃ (i : Nat) (m : Int), 1 ≤ i ∧ i ≤ n ∧ i + g = n + 2 ∧ v4 = .int .i64 i ∧ v3 = .int .i64 m ∧ (m < 1 ↔ ∃ j x, j < i ∧ l[j]? = some x ∧ x < 1) ∧ wr = w)
  case atStart => exact ⟨1, x0, by omega, by omega, by omega, rfl, rfl, ⟨fun h => ⟨0, x0, by omega, H0.out, h⟩, fun ⟨j, x, hj, hx, hlt⟩ => by
    obtain rfl : j = 0 := by omega
    rw [H0.out] at hx
    have := Option.some.inj hx
    omega⟩, rfl⟩
  case round =>
    obtain ⟨i, m, hi1, hi, hg, rfl, rfl, hinv, rfl⟩ := hrel
    have HI := Lib.hid hinv
    have HG := Lib.hid hg
    clear hinv hg
    by_cases hlt : i < n
    · obtain ⟨x, hx⟩ : ∃ x, l[i]? = some x := ⟨l[i]'(by have := HN.out; omega), List.getElem?_eq_getElem _⟩
      have cx := HC.out i x hx
      have HX := Lib.hid hx
      have q1 : (0 : Int) ≤ (i : Int) := by omega
      have q2 : (i : Int) < n := by omega
      have hmin : ∀ w, (Builtin.min_ #[3, 3] 3 #[.int .i64 m, .int .i64 x]).run Tryz.prog w = .ok (.int .i64 (min m x)) w := fun w => by
        rw [run_min_int2]
        congr 2
        rw [Int.min_def]
        split <;> split <;> omega
      have HM := Lib.hid (show min m x < 1 ↔ m < 1 ∨ x < 1 by rw [Int.min_def]; split <;> omega)
      generalize min m x = z at *
      clear hx
      go_wp2
      go_roundg (gk - 1)
      case rel => exact ⟨i + 1, z, by omega, by omega, by have := HG.out; omega, by go_num, rfl, ⟨fun h => by
        rcases HM.out.1 h with h | h
        · obtain ⟨j, y, h1, h2, h3⟩ := HI.out.1 h
          exact ⟨j, y, by omega, h2, h3⟩
        · exact ⟨i, x, by omega, HX.out, h⟩, fun ⟨j, y, h1, h2, h3⟩ => by
        by_cases e : j = i
        · subst e
          rw [HX.out] at h2
          have := Option.some.inj h2
          exact HM.out.2 (.inr (by omega))
        · exact HM.out.2 (.inl (HI.out.2 ⟨j, y, by omega, h2, h3⟩))⟩, rfl⟩
      case measure => have := HG.out; omega
    · obtain rfl : i = n := by omega
      go_wp2
      go_ret
      refine ⟨m, rfl, ?_, rfl⟩
      rw [HI.out]
      constructor
      · rintro ⟨j, x, h1, h2, h3⟩
        exact ⟨x, List.mem_of_getElem? h2, h3⟩
      · rintro ⟨x, h1, h2⟩
        obtain ⟨j, hj⟩ := List.mem_iff_getElem?.1 h1
        exact ⟨j, x, by have := (List.getElem?_eq_some_iff.1 hj).1; have := HN.out; omega, hj, h2⟩
end Go.Proofs.YtnahhclflnjmcaaGreatDoor

/- Direct of a leaf; changes of an own tree; Add. -/
namespace Go.Proofs.YtnahhclflnjmcaaGreatDoor
open Go Go.RowKit
set_option linter.unusedVariables false
set_option linter.unusedSimpArgs false
set_option maxRecDepth 100000

def natL (l : List Nat) : List Int := l.map fun x : Nat => (x : Int)
theorem natL_get {l : List Nat} {i x : Nat} (h : l[i]? = some x) : (natL l)[i]? = some (x : Int) := by unfold natL; rw [List.getElem?_map, h]; rfl
theorem dirs_cons (d i : Nat) : upL (2 * i) 0 (d + 1) = ((2 * i : Nat) : Int) :: natL (dirs d i) := by
  have := upL_cons (2 * i) 0 i d (by unfold Nd; simp)
  rw [show 0 + 1 = 1 by rfl] at this
  have e : upL (2 * i) 0 (d + 1) = ((2 * i : Nat) : Int) :: upL (2 * i) 1 d := by
    rw [upL_cons (2 * i) 0 i d (by unfold Nd; simp)]
  rw [e]
  unfold upL natL dirs
  simp [List.map_map, Function.comp_def, Nat.add_comm]
theorem dirs_length (d i : Nat) : (dirs d i).length = d := by simp [dirs]
set_option maxHeartbeats 1000000 in
theorem dir_long (x l : Int) (y : Int) (L : List Int) (hL : 0 < L.length) (w : World) (hu : Calls Tryz.prog 249 #[.int .i64 x, .int .i64 l] w fun e w' => ∃ v, e = .returned v ∧ OwnI w' w.heap.size v (y :: L) ∧ Below w.heap.size w w') :
    Calls Tryz.prog 155 #[.int .i64 x, .int .i64 l] w fun e w' => ∃ v, e = .returned v ∧ Ints w' v L ∧ (∀ k, v.ownBlock = some k → w.heap.size ≤ k) ∧ Below w.heap.size w w' := by
  go_enter Tryz.func155, Tryz.ntmps155
  go_wp2_with (go_at_call 249; refine hu.mono ?_)
  rintro e w1 ⟨v, rfl, ho, hb⟩
  have hown := World.ownsRow.lt ho
  obtain ⟨A, c, rfl, hc, hm, hr⟩ := ho.ints
  obtain ⟨b, off, rfl, hcell⟩ := hr (by simp)
  have HC := Lib.hid hcell
  have hbw : w.heap.size ≤ b := (hown b rfl).1
  clear hr hcell hu ho hown
  obtain ⟨n, hn⟩ : ∃ n, n = (y :: L).length := ⟨_, rfl⟩
  rw [← hn] at hc ⊢
  have HN := Lib.hid hn
  have q0 : 2 ≤ n := by rw [hn]; simp; omega
  clear hn
  have q1 : n ≤ 9223372036854775807 := by unfold maxLen at hm; omega
  have q : decide ((n : Int) < 2) = false := decide_eq_false (by omega)
  go_wp2
  go_ret
  have hn1 : n - 1 = L.length := by have := HN.out; simp at this; omega
  refine ⟨_, rfl, ⟨_, L.length, by rw [hn1]; rfl, Nat.le_refl _, by unfold maxLen; omega, fun _ => ⟨b, off + 1, rfl, fun i z hz => ?_⟩⟩, fun k hk => ?_, hb⟩
  · have := HC.out (i + 1) z (by simpa using hz)
    rw [show off + 1 + i = off + (i + 1) by omega]
    exact this
  · obtain rfl : b = k := by simpa [Value.ownBlock] using hk
    exact hbw
set_option maxHeartbeats 1000000 in
theorem dir_short (x l : Int) (L : List Int) (hL : L.length < 2) (w : World) (hu : Calls Tryz.prog 249 #[.int .i64 x, .int .i64 l] w fun e w' => ∃ v, e = .returned v ∧ OwnI w' w.heap.size v L ∧ Below w.heap.size w w') :
    Calls Tryz.prog 155 #[.int .i64 x, .int .i64 l] w fun e w' => ∃ v, e = .returned v ∧ Ints w' v [] ∧ (∀ k, v.ownBlock = some k → w.heap.size ≤ k) ∧ Below w.heap.size w w' := by
  go_enter Tryz.func155, Tryz.ntmps155
  go_wp2_with (go_at_call 249; refine hu.mono ?_)
  rintro e w1 ⟨v, rfl, ho, hb⟩
  obtain ⟨A, c, rfl, hc, hm, hr⟩ := ho.ints
  have q : decide ((L.length : Int) < 2) = true := decide_eq_true (by omega)
  go_wp2
  go_ret
  refine ⟨_, rfl, Ints.nil _, fun k hk => ?_, hb⟩
  cases hk
/-- Direct of a leaf. -/
theorem dir31 (d i l : Nat) (hd : d ≤ 3) (hl : l = 2 ^ d) (hi : i < l) (w : World) (hT : Tab w) :
    Calls Tryz.prog 155 #[.int .i64 (2 * (i : Int)), .int .i64 l] w fun e w' => ∃ v, e = .returned v ∧ Ints w' v (natL (dirs d i)) ∧ (∀ k, v.ownBlock = some k → w.heap.size ≤ k) ∧ Below w.heap.size w w' := by
  have hN : Nd (2 * i) 0 i := by unfold Nd; simp
  have hs := two_succ d
  have hu := up_yes (2 * i) 0 i d (by omega) hN (by omega) w hT
  rw [show d - 0 + 1 = d + 1 by omega, dirs_cons, ← hl, show ((2 * i : Nat) : Int) = 2 * (i : Int) by omega] at hu
  by_cases h0 : d = 0
  · subst h0
    exact dir_short _ _ _ (by simp [dirs, natL]) w hu
  · exact dir_long _ _ _ _ (by unfold natL; rw [List.length_map, dirs_length]; omega) w hu

variable {w0 w w' : World} {B b n i : Nat} {F : Nat → Node} {uv : Nat → Value}
/-- A list has grown, or was laid anew. -/
theorem OwnK.insert (h : OwnK w0 w B b n n F uv) {y : Nat} (hy : y < n) {w3 : World} {u' : Value} {l' : List Int} (hg : w.grownBy w3 (uv y).ownBlock) (ho : OwnI w3 B u' l')
    (hlie : u'.ownBlock = (uv y).ownBlock ∨ u'.ownBlock = some w.heap.size) :
    OwnK w0 (w3.setCell ⟨b, y * 4 + 3, none⟩ u') B b n n (fun z => if z = y then { F y with un := l' } else F z) (fun z => if z = y then u' else uv z) := by
  have hlt : ∀ z, z < n → ∀ k, (uv z).ownBlock = some k → k < w.heap.size := fun z hz k hk => (World.ownsRow.lt (h.un z hz hz) k hk).2
  have hub : u'.ownBlock ≠ some b := by
    rcases hlie with e | e
    · rw [e]; exact h.nb y hy hy
    · rw [e]; intro e2; have := h.blt; injection e2 with e2; omega
  have hap : ∀ z, z < n → z ≠ y → ∀ k, u'.ownBlock = some k → (uv z).ownBlock ≠ some k := fun z hz hne k hk e => by
    rcases hlie with e2 | e2
    · rw [e2] at hk
      exact h.ap y z hy hz hy hz (fun e => hne e.symm) k hk e
    · rw [e2] at hk
      have := hlt z hz k e
      injection hk with hk
      omega
  have row3 : w3.rowIs b 95 (n * 4) (cellF F uv) := h.row.of_block (hg.block b h.blt (fun e => h.nb y hy hy e.symm))
  refine ⟨h.hb, (row3.set (y * 4 + 3) u').congr fun j hj => ?_, fun z h1 _ => ?_, fun z h1 h2 => by omega, fun z h1 _ => ?_, fun z z' h1 h2 _ _ h5 k hk => ?_, fun z h1 => ?_⟩
  · show (if j = y * 4 + 3 then u' else cellF F uv j) = cellF _ _ j
    unfold cellF
    by_cases e : j = y * 4 + 3
    · subst e
      rw [if_pos rfl, if_neg (by omega), if_neg (by omega), if_neg (by omega), show (y * 4 + 3) / 4 = y by omega]
      simp
    · rw [if_neg e]
      by_cases e2 : j / 4 = y
      · by_cases c0 : j % 4 = 0
        · simp [c0, e2]
        by_cases c1 : j % 4 = 1
        · simp [c1, e2]
        by_cases c2 : j % 4 = 2
        · simp [c2, e2]
        omega
      · simp [e2]
  · by_cases e : z = y
    · simp only [e, if_true]
      exact ho.setOther hub _
    · simp only [e, if_false]
      refine OwnI.setOther ?_ (h.nb z h1 h1) _
      refine World.ownsRow.kept (h.un z h1 h1) hg ?_
      cases e3 : (uv z).ownBlock with
      | none => exact .inl rfl
      | some k => exact .inr (fun e4 => h.ap z y h1 hy h1 hy e k e3 e4.symm)
  · by_cases e : z = y
    · simp only [e, if_true]; exact hub
    · simp only [e, if_false]; exact h.nb z h1 h1
  · by_cases e : z = y
    · simp only [e, if_true] at hk
      have e' : z' ≠ y := fun e2 => h5 (e.trans e2.symm)
      simp only [e', if_false]
      exact hap z' h2 e' k hk
    · simp only [e, if_false] at hk
      by_cases e' : z' = y
      · simp only [e', if_true]
        intro hk2
        exact hap z h1 e k hk2 hk
      · simp only [e', if_false]
        exact h.ap z z' h1 h2 h1 h2 h5 k hk
  · by_cases e : z = y
    · simp only [e, if_true]; exact h.wf y hy
    · simp only [e, if_false]; exact h.wf z h1
theorem OwnK.congr (h : OwnK w0 w B b n n F uv) {G : Nat → Node} (he : ∀ y, y < n → F y = G y) : OwnK w0 w B b n n G uv := by
  refine ⟨h.hb, h.row.congr fun j hj => ?_, fun y h1 h2 => by rw [← he y h1]; exact h.un y h1 h2, fun y h1 h2 => by omega, h.nb, h.ap, fun y h1 => by rw [← he y h1]; exact h.wf y h1⟩
  unfold cellF
  rw [he (j / 4) (by omega)]
end Go.Proofs.YtnahhclflnjmcaaGreatDoor

/- Add. -/
namespace Go.Proofs.YtnahhclflnjmcaaGreatDoor
open Go Go.RowKit
set_option linter.unusedVariables false
set_option linter.unusedSimpArgs false
set_option maxRecDepth 100000

/-- A member as the program holds it. -/
def Addx.v (a : Addx) : Value := .agg #[.int .i64 a.mem, .int .i64 a.ep, .int .i64 a.pub]
/-- The boxes of Add: the tree, who comes in, the answer. -/
structure AddB (w : World) (v : Value) (m e p : Int) (W : World) : Prop where
  bel : Below w.heap.size w W
  c0 : W.cell? ⟨w.heap.size, 0, none⟩ = some v
  a0 : W.cell? ⟨w.heap.size + 1, 0, none⟩ = some (.int .i64 m)
  a1 : W.cell? ⟨w.heap.size + 1, 1, none⟩ = some (.int .i64 e)
  a2 : W.cell? ⟨w.heap.size + 1, 2, none⟩ = some (.int .i64 p)
  r0 : W.cell? ⟨w.heap.size + 2, 0, none⟩ = some (.slice none 0 0)
  rf : W.frozen? ⟨w.heap.size + 2, 0, none⟩ = false
  lt : w.heap.size + 2 < W.heap.size
theorem AddB.start (w : World) (v : Value) (m e p : Int) : AddB w v m e p (((w.alloc (.cells #[v] 24)).alloc (.cells #[.int .i64 m, .int .i64 e, .int .i64 p] 75)).alloc (.cells #[.slice none 0 0] 24)) := by
  have h0 : (((w.alloc (.cells #[v] 24)).alloc (.cells #[.int .i64 m, .int .i64 e, .int .i64 p] 75)).alloc (.cells #[.slice none 0 0] 24)).heap[w.heap.size]? = some (.cells #[v] 24 (0, 0)) := by
    rw [Below.heap_alloc _ _ _ (by simp; omega), Below.heap_alloc _ _ _ (by simp)]
    exact heap_alloc_new _ _
  have h1 : (((w.alloc (.cells #[v] 24)).alloc (.cells #[.int .i64 m, .int .i64 e, .int .i64 p] 75)).alloc (.cells #[.slice none 0 0] 24)).heap[w.heap.size + 1]? = some (.cells #[.int .i64 m, .int .i64 e, .int .i64 p] 75 (0, 0)) := by
    rw [Below.heap_alloc _ _ _ (by simp)]
    have := heap_alloc_new (w.alloc (.cells #[v] 24)) (.cells #[.int .i64 m, .int .i64 e, .int .i64 p] 75)
    rw [show (w.alloc (.cells #[v] 24)).heap.size = w.heap.size + 1 by simp] at this
    exact this
  have h2 : (((w.alloc (.cells #[v] 24)).alloc (.cells #[.int .i64 m, .int .i64 e, .int .i64 p] 75)).alloc (.cells #[.slice none 0 0] 24)).heap[w.heap.size + 2]? = some (.cells #[.slice none 0 0] 24 (0, 0)) := by
    have := heap_alloc_new ((w.alloc (.cells #[v] 24)).alloc (.cells #[.int .i64 m, .int .i64 e, .int .i64 p] 75)) (.cells #[.slice none 0 0] 24)
    rw [show ((w.alloc (.cells #[v] 24)).alloc (.cells #[.int .i64 m, .int .i64 e, .int .i64 p] 75)).heap.size = w.heap.size + 2 by simp] at this
    exact this
  refine ⟨(((Below.refl _ _).alloc (Nat.le_refl _) _).alloc (by simp) _).alloc (by simp; omega) _, ?_, ?_, ?_, ?_, ?_, ?_, by simp⟩
  · rw [cell_of_row _ _ _ _ _ _ h0]; rfl
  · rw [cell_of_row _ _ _ _ _ _ h1]; rfl
  · rw [cell_of_row _ _ _ _ _ _ h1]; rfl
  · rw [cell_of_row _ _ _ _ _ _ h1]; rfl
  · rw [cell_of_row _ _ _ _ _ _ h2]; rfl
  · exact frozen_of_row _ _ _ _ _ h2
theorem AddB.under {w : World} {v : Value} {m e p : Int} {W W' : World} (h : AddB w v m e p W) (hb : Below W.heap.size W W') : AddB w v m e p W' := by
  have hl := h.lt
  refine ⟨h.bel.trans (hb.mono h.bel.size), ?_, ?_, ?_, ?_, ?_, ?_, Nat.lt_of_lt_of_le h.lt hb.size⟩
  · rw [hb.cell (by show w.heap.size < _; omega)]; exact h.c0
  · rw [hb.cell (by show w.heap.size + 1 < _; omega)]; exact h.a0
  · rw [hb.cell (by show w.heap.size + 1 < _; omega)]; exact h.a1
  · rw [hb.cell (by show w.heap.size + 1 < _; omega)]; exact h.a2
  · rw [hb.cell (by show w.heap.size + 2 < _; omega)]; exact h.r0
  · rw [hb.frozen (by show w.heap.size + 2 < _; omega)]; exact h.rf
theorem AddB.stored {w : World} {v : Value} {m e p : Int} {W : World} (h : AddB w v m e p W) (u : Value) : (W.setCell ⟨w.heap.size + 2, 0, none⟩ u).cell? ⟨w.heap.size + 2, 0, none⟩ = some u := by
  apply World.cell?_setCell_same
  exact h.r0
/-- A refusal of Add. -/
structure AddNo (w : World) (c : Int) (e : Ending) (w' : World) : Prop where
  out : e = .returned (.tuple #[.agg #[.slice none 0 0], .int .i64 0, .int .i64 c])
  bel : Below w.heap.size w w'
set_option maxHeartbeats 2000000 in
set_option maxRecDepth 100000 in
theorem add_arg (v : Value) (n : Nat) (F : Nat → Node) (a : Addx) (w : World) (hT : Tab w) (hR : TrR w v n F) (hn : n ≤ 262144) (hq : chk n F = false ∨ a.mem < 0 ∨ a.ep < 0 ∨ a.pub < 1) :
    Calls Tryz.prog 23 #[.agg #[v], a.v] w fun e w' => AddNo w 1 e w' := by
  have hC : ∀ W, Below w.heap.size w W → Calls Tryz.prog 10 #[.agg #[v]] W fun e w' => e = .returned (.int .i64 (errB (chk n F))) ∧ Below W.heap.size W w' := fun W hW =>
    check10 v n F W (hT.below hT.pos hW) (hR.below hW) (by omega)
  obtain ⟨A, c, rfl, -, -, -⟩ := hR
  obtain ⟨m, e, p⟩ := a
  unfold Addx.v
  simp only at hq ⊢
  have hB0 := AddB.start w (.slice A n c) m e p
  have HB0 := Lib.hid hB0
  cases hz : chk n F with
  | false =>
    rw [hz, errB_false] at hC
    clear hq hz
    go_enter Tryz.func23, Tryz.ntmps23
    go_wp2_with (go_at_call 10; refine (hC _ HB0.out.bel).mono ?_; rintro e' w1 ⟨rfl, hb1⟩; obtain ⟨d0, d1, d2, d3, d4, d5, d6, d7⟩ := HB0.out.under hb1)
    have d8 := (HB0.out.under hb1).stored
    refine bodyPost_ret (by simp [results, Tryz.results23, go_sem, d8]; rfl) rfl ?_
    exact ⟨rfl, d0.setCell (by show w.heap.size ≤ w.heap.size + 2; omega) _⟩
  | true =>
    rw [hz, errB_true] at hC
    rw [hz] at hq
    by_cases h1 : m < 0
    · have t1 : decide (m < 0) = true := decide_eq_true h1
      clear hq hz h1
      go_enter Tryz.func23, Tryz.ntmps23
      go_wp2_with (go_at_call 10; refine (hC _ HB0.out.bel).mono ?_; rintro e' w1 ⟨rfl, hb1⟩; obtain ⟨d0, d1, d2, d3, d4, d5, d6, d7⟩ := HB0.out.under hb1)
      have d8 := (HB0.out.under hb1).stored
      refine bodyPost_ret (by simp [results, Tryz.results23, go_sem, d8]; rfl) rfl ?_
      exact ⟨rfl, d0.setCell (by show w.heap.size ≤ w.heap.size + 2; omega) _⟩
    · have t1 : decide (m < 0) = false := decide_eq_false h1
      by_cases h2 : e < 0
      · have t2 : decide (e < 0) = true := decide_eq_true h2
        clear hq hz h1 h2
        go_enter Tryz.func23, Tryz.ntmps23
        go_wp2_with (go_at_call 10; refine (hC _ HB0.out.bel).mono ?_; rintro e' w1 ⟨rfl, hb1⟩; obtain ⟨d0, d1, d2, d3, d4, d5, d6, d7⟩ := HB0.out.under hb1)
        have d8 := (HB0.out.under hb1).stored
        refine bodyPost_ret (by simp [results, Tryz.results23, go_sem, d8]; rfl) rfl ?_
        exact ⟨rfl, d0.setCell (by show w.heap.size ≤ w.heap.size + 2; omega) _⟩
      · have t2 : decide (e < 0) = false := decide_eq_false h2
        have t3 : decide (p < 1) = true := decide_eq_true (by simp at hq; omega)
        clear hq hz h1 h2
        go_enter Tryz.func23, Tryz.ntmps23
        go_wp2_with (go_at_call 10; refine (hC _ HB0.out.bel).mono ?_; rintro e' w1 ⟨rfl, hb1⟩; obtain ⟨d0, d1, d2, d3, d4, d5, d6, d7⟩ := HB0.out.under hb1)
        have d8 := (HB0.out.under hb1).stored
        refine bodyPost_ret (by simp [results, Tryz.results23, go_sem, d8]; rfl) rfl ?_
        exact ⟨rfl, d0.setCell (by show w.heap.size ≤ w.heap.size + 2; omega) _⟩
set_option maxHeartbeats 2000000 in
set_option maxRecDepth 100000 in
theorem add_twice (v : Value) (n : Nat) (F : Nat → Node) (a : Addx) (w : World) (hT : Tab w) (hR : TrR w v n F) (hn : n ≤ 262144) (hz : chk n F = true) (hm : 0 ≤ a.mem) (he : 0 ≤ a.ep) (hp : 1 ≤ a.pub) (hq : 0 ≤ findM F a.mem (sizeM n F)) :
    Calls Tryz.prog 23 #[.agg #[v], a.v] w fun e w' => AddNo w 13 e w' := by
  have hC : ∀ W, Below w.heap.size w W → Calls Tryz.prog 10 #[.agg #[v]] W fun e w' => e = .returned (.int .i64 (errB (chk n F))) ∧ Below W.heap.size W w' := fun W hW =>
    check10 v n F W (hT.below hT.pos hW) (hR.below hW) (by omega)
  have hF : ∀ W, Below w.heap.size w W → Calls Tryz.prog 12 #[.agg #[v], .int .i64 a.mem] W fun e w' => e = .returned (.int .i64 (findM F a.mem (sizeM n F))) ∧ Below W.heap.size W w' := fun W hW =>
    find15 v n F a.mem W (hT.below hT.pos hW) (hR.below hW) hn
  obtain ⟨A, c, rfl, -, -, -⟩ := hR
  obtain ⟨m, e, p⟩ := a
  unfold Addx.v
  simp only at hm he hp hq hF ⊢
  have HB0 := Lib.hid (AddB.start w (.slice A n c) m e p)
  rw [hz, errB_true] at hC
  generalize findM F m (sizeM n F) = f at *
  have t1 : decide (m < 0) = false := decide_eq_false (by omega)
  have t2 : decide (e < 0) = false := decide_eq_false (by omega)
  have t3 : decide (p < 1) = false := decide_eq_false (by omega)
  have t4 : decide (0 ≤ f) = true := decide_eq_true hq
  clear hz hm he hp hq
  go_enter Tryz.func23, Tryz.ntmps23
  go_wp2_with (first
    | (go_at_call 10; refine (hC _ HB0.out.bel).mono ?_; rintro e' w1 ⟨rfl, hb1⟩; obtain ⟨d0, d1, d2, d3, d4, d5, d6, d7⟩ := HB0.out.under hb1; have HB1 := Lib.hid (HB0.out.under hb1))
    | (go_at_call 12; refine (hF _ HB1.out.bel).mono ?_; rintro e' w2 ⟨rfl, hb2⟩; obtain ⟨f0, f1, f2, f3, f4, f5, f6, f7⟩ := HB1.out.under hb2; have HB2 := Lib.hid (HB1.out.under hb2)))
  have d8 := HB2.out.stored
  refine bodyPost_ret (by simp [results, Tryz.results23, go_sem, d8]; rfl) rfl ?_
  exact ⟨rfl, f0.setCell (by show w.heap.size ≤ w.heap.size + 2; omega) _⟩
end Go.Proofs.YtnahhclflnjmcaaGreatDoor

/- Add, the other ways. -/
namespace Go.Proofs.YtnahhclflnjmcaaGreatDoor
open Go Go.RowKit
set_option linter.unusedVariables false
set_option linter.unusedSimpArgs false
set_option maxRecDepth 100000

theorem fb_step {F : Nat → Node} {i : Nat} (h : fb F i = i) (hp : 0 < (F (2 * i)).pub) : fb F (i + 1) = i + 1 := by
  rw [fb, if_neg (by omega), if_pos hp]
theorem fb_stop {F : Nat → Node} {i : Nat} (h : fb F i = i) (hp : ¬ 0 < (F (2 * i)).pub) : ∀ {s : Nat}, i < s → fb F s = i
  | 0, hs => by omega
  | s + 1, hs => by
    rw [fb]
    by_cases e : i = s
    · subst e
      rw [if_neg (by omega), if_neg hp]
    · rw [fb_stop h hp (by omega), if_pos (by omega)]
theorem fb_le (F : Nat → Node) : ∀ n, fb F n ≤ n
  | 0 => Nat.le_refl _
  | n + 1 => by
    have := fb_le F n
    rw [fb]
    split
    · omega
    · split <;> omega
theorem pw_length : ∀ (l : List Int) (lo hi : Int), (∀ u ∈ l, lo ≤ u ∧ u ≤ hi) → l.Pairwise (· < ·) → lo ≤ hi + 1 → (l.length : Int) ≤ hi - lo + 1
  | [], lo, hi, _, _, h => by simp; omega
  | u :: us, lo, hi, h1, h2, h => by
    have hu := h1 u (by simp)
    have h3 := List.pairwise_cons.1 h2
    have := pw_length us (u + 1) hi (fun z hz => ⟨by have := h3.1 z hz; omega, (h1 z (by simp [hz])).2⟩) h3.2 (by omega)
    simp
    omega
theorem Ok.n_le {d n : Nat} {F : Nat → Node} (h : Ok d n F) : n ≤ 15 := by
  have := h.hn
  have h4 : 2 ^ (d + 1) ≤ 2 ^ 4 := Nat.pow_le_pow_right (by decide) (by have := h.hd; omega)
  omega
theorem Ok.lvs_ne {d n : Nat} {F : Nat → Node} (h : Ok d n F) : YtnahhclflnjmcaaGreatDoor.lvs n ≠ 0 := by
  rw [h.lvs]
  have := two_pos d
  omega
theorem Ok.un_len {d n : Nat} {F : Nat → Node} (h : Ok d n F) {y : Nat} (hy : y < n) : (F y).un.length ≤ 8 := by
  by_cases ho : y % 2 = 1
  · rcases h.par y hy ho with h1 | ⟨_, _, _, h1, h2⟩
    · rw [Node.blank_iff.1 h1]; decide
    · have h3 := hi2 h.lvs_ne hy
      have h4 := h.n_le
      have h5 : lo y ≤ hi y := by unfold hi; omega
      have := pw_length _ (lo y) (hi y) (fun u hu => ⟨(h1 u hu).1, (h1 u hu).2.1⟩) h2 (by omega)
      omega
  · obtain ⟨i, rfl⟩ : ∃ i, y = 2 * i := ⟨y / 2, by omega⟩
    have := h.hn
    have := two_succ d
    rcases h.leaf i (by omega) with h1 | ⟨_, _, _, h1⟩
    · rw [Node.blank_iff.1 h1]; decide
    · rw [h1]; decide
theorem Ok.sorted {d n : Nat} {F : Nat → Node} (h : Ok d n F) {y : Nat} (hy : y < n) : (F y).un.Pairwise (· < ·) := by
  by_cases ho : y % 2 = 1
  · rcases h.par y hy ho with h1 | ⟨_, _, _, h1, h2⟩
    · rw [Node.blank_iff.1 h1]; exact List.Pairwise.nil
    · exact h2
  · obtain ⟨i, rfl⟩ : ∃ i, y = 2 * i := ⟨y / 2, by omega⟩
    have := h.hn
    have := two_succ d
    rcases h.leaf i (by omega) with h1 | ⟨_, _, _, h1⟩
    · rw [Node.blank_iff.1 h1]; exact List.Pairwise.nil
    · rw [h1]; exact List.Pairwise.nil
theorem chk_len {n : Nat} {F : Nat → Node} (h : chk n F = true) : n ≤ 15 ∧ (∀ y, (pad n F y).un.length ≤ 8) ∧ (∀ y, (pad n F y).un.Pairwise (· < ·)) := by
  rcases chk_iff.1 h with rfl | ⟨d, hO⟩
  · refine ⟨by omega, fun y => ?_, fun y => ?_⟩ <;> unfold pad <;> rw [if_neg (by omega)]
    · decide
    · exact List.Pairwise.nil
  · refine ⟨hO.n_le, fun y => ?_, fun y => ?_⟩ <;> unfold pad
    · split
      · exact hO.un_len (by assumption)
      · decide
    · split
      · exact hO.sorted (by assumption)
      · exact List.Pairwise.nil
set_option maxHeartbeats 4000000 in
set_option maxRecDepth 100000 in
theorem add_limit (v : Value) (n : Nat) (F : Nat → Node) (a : Addx) (w : World) (hT : Tab w) (hR : TrR w v n F) (hz : chk n F = true) (hm : 0 ≤ a.mem) (he : 0 ≤ a.ep) (hp : 1 ≤ a.pub) (hq : findM F a.mem (sizeM n F) < 0)
    (hfull : fb F (lvs n) = lvs n) (h8 : lvs n = 8) :
    Calls Tryz.prog 23 #[.agg #[v], a.v] w fun e w' => AddNo w 3 e w' := by
  have hn15 := (chk_len hz).1
  have hC : ∀ W, Below w.heap.size w W → Calls Tryz.prog 10 #[.agg #[v]] W fun e w' => e = .returned (.int .i64 (errB (chk n F))) ∧ Below W.heap.size W w' := fun W hW =>
    check10 v n F W (hT.below hT.pos hW) (hR.below hW) (by omega)
  have hF : ∀ W, Below w.heap.size w W → Calls Tryz.prog 12 #[.agg #[v], .int .i64 a.mem] W fun e w' => e = .returned (.int .i64 (findM F a.mem (sizeM n F))) ∧ Below W.heap.size W w' := fun W hW =>
    find15 v n F a.mem W (hT.below hT.pos hW) (hR.below hW) (by omega)
  have HR := Lib.hid hR
  have HSZ := Lib.hid (fun i (h : i < lvs n) => lvs_lt h)
  obtain ⟨A, c, rfl, -, -, h3⟩ := hR
  have hL := fun w => leaves26 A n c w (by omega)
  obtain ⟨m, e, p⟩ := a
  unfold Addx.v
  simp only at hm he hp hq hF ⊢
  have HB0 := Lib.hid (AddB.start w (.slice A n c) m e p)
  rw [hz, errB_true] at hC
  rw [h8] at hL hfull HSZ
  have HFU := Lib.hid hfull
  have H3 := Lib.hid h3
  generalize findM F m (sizeM n F) = f at *
  have t1 : decide (m < 0) = false := decide_eq_false (by omega)
  have t2 : decide (e < 0) = false := decide_eq_false (by omega)
  have t3 : decide (p < 1) = false := decide_eq_false (by omega)
  have t4 : decide (0 ≤ f) = false := decide_eq_false (by omega)
  clear hz hm he hp hq hfull h8 h3
  go_enter Tryz.func23, Tryz.ntmps23
  go_wp2_with (first
    | (go_at_call 10; refine (hC _ HB0.out.bel).mono ?_; rintro e' w1 ⟨rfl, hb1⟩; obtain ⟨d0, d1, d2, d3, d4, d5, d6, d7⟩ := HB0.out.under hb1; have HB1 := Lib.hid (HB0.out.under hb1))
    | (go_at_call 12; refine (hF _ HB1.out.bel).mono ?_; rintro e' w2 ⟨rfl, hb2⟩; obtain ⟨f0, f1, f2, f3, f4, f5, f6, f7⟩ := HB1.out.under hb2; have HB2 := Lib.hid (HB1.out.under hb2))
    | (go_at_call 44; refine (hL _).mono ?_; rintro e' w3 ⟨rfl, hb3⟩; obtain ⟨g0, g1, g2, g3, g4, g5, g6, g7⟩ := HB2.out.under hb3; have HB3 := Lib.hid (HB2.out.under hb3)))
  clear hb1 hb2 hb3 d0 d1 d2 d3 d4 d5 d6 d7 f0 f1 f2 f3 f4 f5 f6 f7 hC hF hL
  have hs0 : w.heap.size < w3.heap.size := by omega
  go_loopg [8] 9 (fun g v8 wr => ∃ i : Nat, i ≤ 8 ∧ i + g = 9 ∧ v8 = .int .i64 i ∧ fb F i = i ∧ wr = w3)
  case atStart => exact ⟨0, by omega, by omega, rfl, rfl, rfl⟩
  case round =>
    obtain ⟨i, hi, hg, rfl, hfb, rfl⟩ := hrel
    have HG := Lib.hid (And.intro hg hfb)
    by_cases hlt : i < 8
    · obtain ⟨hin, hi8⟩ := HSZ.out i hlt
      obtain ⟨b, o, rfl, hN⟩ := H3.out (by omega)
      obtain ⟨c0, -, -, -, -⟩ := (hN (2 * i) hin).below g0
      have hb0 : b < wr.heap.size := World.block_lt_of_cell? _ _ c0
      have j1 : (0 : Int) ≤ 2 * (i : Int) := by omega
      have j2 : 2 * (i : Int) < n := by omega
      have j3 : (i : Int) < 8 := by omega
      have hpos : 0 < (F (2 * i)).pub := by
        by_cases h : 0 < (F (2 * i)).pub
        · exact h
        · have := fb_stop hfb h hlt
          have := HFU.out
          omega
      have t5 : decide (0 < (F (2 * i)).pub) = true := decide_eq_true hpos
      have HFB := Lib.hid (fb_step hfb hpos)
      clear hg hfb hpos
      generalize (F (2 * i)).pub = q at *
      go_wp2
      go_roundg (gk - 1)
      case rel => exact ⟨i + 1, by omega, by have := HG.out.1; omega, by go_num, HFB.out, rfl⟩
      case measure => have := HG.out.1; omega
    · obtain rfl : i = 8 := by omega
      clear hg hfb
      go_wp2
      have d8 := HB3.out.stored
      refine bodyPost_ret (by simp [results, Tryz.results23, go_sem, d8]; rfl) rfl ?_
      exact ⟨rfl, g0.setCell (by show w.heap.size ≤ w.heap.size + 2; omega) _⟩
end Go.Proofs.YtnahhclflnjmcaaGreatDoor
