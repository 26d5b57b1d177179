/- Trees of the call's own; Clone; twin. -/
import Derived.Test.YtopkanokpfhmmaaDoorTS
import Derived.Deep.OwnRows
import Derived.OneCell
import Derived.Laws.IdiomCopy
import Derived.Laws.CopyRow
import Derived.Laws.MakeOwn
import Derived.Handy
namespace Go.Proofs.YtopkanokpfhmmaaDoor
open Go Go.RowKit
set_option linter.unusedVariables false
set_option linter.unusedSimpArgs false

set_option maxHeartbeats 1000000 in
theorem clone44 (v : Value) (l : List Int) (w : World) (h : Ints w v l) (hl : l.length < 4294967296) :
    Calls Tryd.prog 44 #[v] w fun e w' => ∃ v', e = .returned v' ∧ OwnI w' w.heap.size v' l ∧ Below w.heap.size w w' := by
  have hI := h
  obtain ⟨A, c, rfl, h1, h2, h3⟩ := h
  cases A with
  | none =>
    have hl0 : l.length = 0 := by
      by_cases h0 : 0 < l.length
      · obtain ⟨b, o, e, _⟩ := h3 h0
        cases e
      · omega
    obtain rfl : l = [] := List.eq_nil_of_length_eq_zero hl0
    have hq := Lib.run_eql_slice_nil (P := Tryd.prog) (w := w) (t := 32) (e := 3) (a := none) (n := 0) (c := c) (n' := 0) (c' := 0) Tryd.underlying32
    clear h3 hI
    simp only [List.length_nil] at *
    go_enter Tryd.func44, Tryd.ntmps44
    go_wp2
    go_ret
    exact ⟨_, rfl, World.ownsRow_nil _ _ _ _, Below.refl _ _⟩
  | some a =>
    have hq : (binOp .eql 32 (.slice (some a) l.length c) (.slice none 0 0)).run Tryd.prog w = .ok (.bool false) w := by
      have := Lib.run_eql_slice_nil (P := Tryd.prog) (w := w) (t := 32) (e := 3) (a := some a) (n := l.length) (c := c) (n' := 0) (c' := 0) Tryd.underlying32
      simpa using this
    have how : OwnI (w.alloc (.cells #[] 3)) w.heap.size (.slice (some ⟨w.heap.size, 0, none⟩) 0 0) [] := ⟨rfl, .inr ⟨w.heap.size, 0, #[], rfl, Nat.le_refl _, heap_alloc_new w _, Nat.le_refl _, by unfold maxLen; omega, rfl, rfl⟩⟩
    have hbel : Below w.heap.size w (w.alloc (.cells #[] 3)) := (Below.refl _ _).alloc (Nat.le_refl _) _
    have HOW := Lib.hid how
    have hx := hI.below hbel
    clear h3 how hI
    have hB := hbel.size
    go_enter Tryd.func44, Tryd.ntmps44
    go_wp2_with (at_builtin; refine append_ints rfl _ _ rfl rfl rfl HOW hx hbel hB ?c1 ?_)
    case c1 => simp; omega
    intro v' w' o1 o2 o3
    have HO := Lib.hid o1
    clear o1 HOW
    go_wp2_with fail
    go_ret
    exact ⟨_, rfl, HO.out, o2⟩

/-- The cells of a row of nodes: uv gives the lists' values. -/
def cellF (F : Nat → Node) (uv : Nat → Value) (j : Nat) : Value :=
  if j % 4 = 0 then .int .i64 (F (j / 4)).pub else if j % 4 = 1 then .int .i64 (F (j / 4)).mem else if j % 4 = 2 then .int .i64 (F (j / 4)).ep else uv (j / 4)
theorem cellF0 (F : Nat → Node) (uv : Nat → Value) (y : Nat) : cellF F uv (y * 4) = .int .i64 (F y).pub := by
  unfold cellF; rw [if_pos (by omega), show y * 4 / 4 = y by omega]
theorem cellF1 (F : Nat → Node) (uv : Nat → Value) (y : Nat) : cellF F uv (y * 4 + 1) = .int .i64 (F y).mem := by
  unfold cellF; rw [if_neg (by omega), if_pos (by omega), show (y * 4 + 1) / 4 = y by omega]
theorem cellF2 (F : Nat → Node) (uv : Nat → Value) (y : Nat) : cellF F uv (y * 4 + 2) = .int .i64 (F y).ep := by
  unfold cellF; rw [if_neg (by omega), if_neg (by omega), if_pos (by omega), show (y * 4 + 2) / 4 = y by omega]
theorem cellF3 (F : Nat → Node) (uv : Nat → Value) (y : Nat) : cellF F uv (y * 4 + 3) = uv y := by
  unfold cellF; rw [if_neg (by omega), if_neg (by omega), if_neg (by omega), show (y * 4 + 3) / 4 = y by omega]
/-- A row of nodes of the call's own; the lists of the first i are own too, the others read as in w0. -/
structure OwnK (w0 w : World) (B b n i : Nat) (F : Nat → Node) (uv : Nat → Value) : Prop where
  hb : B ≤ b
  row : w.rowIs b 45 (n * 4) (cellF F uv)
  un : ∀ y, y < n → y < i → OwnI w B (uv y) (F y).un
  far : ∀ y, y < n → i ≤ y → Ints w0 (uv y) (F y).un
  nb : ∀ y, y < n → y < i → (uv y).ownBlock ≠ some b
  ap : ∀ y z, y < n → z < n → y < i → z < i → y ≠ z → ∀ k, (uv y).ownBlock = some k → (uv z).ownBlock ≠ some k
  wf : ∀ y, y < n → (Lit.int .i64 (F y).mem).wf = true
variable {w0 w w' : World} {B b n i : Nat} {F : Nat → Node} {uv : Nat → Value}
theorem OwnK.blt (h : OwnK w0 w B b n i F uv) : b < w.heap.size := h.row.lt
theorem OwnK.below (h : OwnK w0 w B b n i F uv) (hb : Below w.heap.size w w') : OwnK w0 w' B b n i F uv :=
  ⟨h.hb, h.row.of_block (hb.block b h.blt), fun y h1 h2 => (h.un y h1 h2).below hb, h.far, h.nb, h.ap, h.wf⟩
theorem OwnK.cells (h : OwnK w0 w B b n i F uv) {y : Nat} (hy : y < n) :
    w.cell? ⟨b, y * 4, none⟩ = some (.int .i64 (F y).pub) ∧ w.cell? ⟨b, y * 4 + 1, none⟩ = some (.int .i64 (F y).mem) ∧ w.cell? ⟨b, y * 4 + 2, none⟩ = some (.int .i64 (F y).ep) ∧ w.cell? ⟨b, y * 4 + 3, none⟩ = some (uv y) := by
  refine ⟨?_, ?_, ?_, ?_⟩
  · rw [h.row.cell (by omega), cellF0]
  · rw [h.row.cell (by omega), cellF1]
  · rw [h.row.cell (by omega), cellF2]
  · rw [h.row.cell (by omega), cellF3]
theorem OwnK.trR (h : OwnK w0 w B b n n F uv) (hn : n ≤ maxLen) (c : Nat) (hc : n ≤ c) (hc2 : c ≤ maxLen) : TrR w (.slice (some ⟨b, 0, none⟩) n c) n F := by
  refine ⟨_, c, rfl, hc, hc2, fun _ => ⟨b, 0, rfl, fun y hy => ?_⟩⟩
  obtain ⟨h0, h1, h2, h3⟩ := h.cells hy
  rw [Nat.zero_add]
  have hI := (h.un y hy hy).ints
  obtain ⟨A, c', e, _⟩ := hI
  refine ⟨h0, h1, h2, ⟨A, c', by rw [h3, e], by rw [← e]; exact (h.un y hy hy).ints⟩, h.wf y hy⟩
theorem OwnI.setOther {w : World} {B : Nat} {v : Value} {l : List Int} (h : OwnI w B v l) {a : Addr} (ha : v.ownBlock ≠ some a.block) (u : Value) : OwnI (w.setCell a u) B v l := ownsRow_setCell_other h ha u
/-- The list of one node is anew. -/
theorem OwnK.setUn (h : OwnK w0 w B b n i F uv) {y : Nat} (hy : y < n) {u : Value} {l : List Int} (hu : OwnI w B u l) (hub : u.ownBlock ≠ some b)
    (hap : ∀ z, z < n → z < i → z ≠ y → ∀ k, u.ownBlock = some k → (uv z).ownBlock ≠ some k) (hy2 : y < i ∨ y = i) (G : Nat → Node) (hG : ∀ z, G z = if z = y then { F y with un := l } else F z) :
    OwnK w0 (w.setCell ⟨b, y * 4 + 3, none⟩ u) B b n (if y = i then i + 1 else i) G (fun z => if z = y then u else uv z) := by
  have key : ∀ z, z < n → z < (if y = i then i + 1 else i) → z ≠ y → z < i := fun z _ h2 h3 => by
    split at h2 <;> omega
  refine ⟨h.hb, (h.row.set (y * 4 + 3) u).congr fun j hj => ?_, fun z h1 h2 => ?_, fun z h1 h2 => ?_, fun z h1 h2 => ?_, fun z z' h1 h2 h3 h4 h5 k hk => ?_, fun z h1 => ?_⟩
  · show (if j = y * 4 + 3 then u else cellF F uv j) = cellF G _ j
    unfold cellF
    by_cases e : j = y * 4 + 3
    · subst e
      rw [if_pos rfl, if_neg (by omega), if_neg (by omega), if_neg (by omega), show (y * 4 + 3) / 4 = y by omega]
      simp
    · rw [if_neg e, hG]
      by_cases e2 : j / 4 = y
      · rw [if_pos e2, e2]
        by_cases c0 : j % 4 = 0
        · simp [c0]
        by_cases c1 : j % 4 = 1
        · simp [c1]
        by_cases c2 : j % 4 = 2
        · simp [c2]
        omega
      · simp [e2]
  · rw [hG]
    by_cases e : z = y
    · subst e
      rw [if_pos rfl, if_pos rfl]
      exact hu.setOther hub _
    · rw [if_neg e, if_neg e]
      have := key z h1 h2 e
      exact (h.un z h1 this).setOther (h.nb z h1 this) _
  · rw [hG]
    have h3 : z ≠ y ∧ i ≤ z := by split at h2 <;> omega
    rw [if_neg h3.1, if_neg h3.1]
    exact h.far z h1 h3.2
  · by_cases e : z = y
    · rw [if_pos e]; exact hub
    · rw [if_neg e]; exact h.nb z h1 (key z h1 h2 e)
  · by_cases e : z = y
    · rw [if_pos e] at hk
      rw [if_neg (fun e2 => h5 (e.trans e2.symm))]
      exact hap z' h2 (key z' h2 h4 (fun e2 => h5 (e.trans e2.symm))) (fun e2 => h5 (e.trans e2.symm)) k hk
    · rw [if_neg e] at hk
      by_cases e' : z' = y
      · rw [if_pos e']
        intro hk2
        exact hap z h1 (key z h1 h3 e) e k hk2 hk
      · rw [if_neg e']
        exact h.ap z z' h1 h2 (key z h1 h3 e) (key z' h2 h4 e') h5 k hk
  · rw [hG]
    by_cases e : z = y
    · rw [if_pos e]; exact h.wf y hy
    · rw [if_neg e]; exact h.wf z h1
theorem rowIs_setCells {b : Nat} {t : TypeId} {n : Nat} : ∀ (vs : List Value) (o : Nat) (w : World) (f : Nat → Value), w.rowIs b t n f → (w.setCells b o vs).rowIs b t n (fun j => if h : o ≤ j ∧ j < o + vs.length then vs[j - o]'(by omega) else f j)
  | [], o, w, f, h => by
    refine World.rowIs.congr (f := f) h fun j hj => ?_
    rw [dif_neg (fun h => by have := h.2; have e : ([] : List Value).length = 0 := rfl; omega)]
  | v :: vs, o, w, f, h => by
    have ih := rowIs_setCells vs (o + 1) (w.setCell ⟨b, o, none⟩ v) _ (h.set o v)
    show ((w.setCell ⟨b, o, none⟩ v).setCells b (o + 1) vs).rowIs b t n _
    refine ih.congr fun j hj => ?_
    by_cases h1 : o + 1 ≤ j ∧ j < o + 1 + vs.length
    · rw [dif_pos h1, dif_pos (by simp; omega)]
      obtain ⟨k, rfl⟩ : ∃ k, j = o + 1 + k := ⟨j - (o + 1), by omega⟩
      simp [show o + 1 + k - o = k + 1 by omega]
    · rw [dif_neg h1]
      by_cases h2 : j = o
      · subst h2
        rw [if_pos rfl, dif_pos (by simp)]
        simp
      · rw [if_neg h2, dif_neg (by simp; omega)]
theorem below_setCells {B b : Nat} {w0 : World} (hb : B ≤ b) : ∀ (vs : List Value) (o : Nat) (w : World), Below B w0 w → Below B w0 (w.setCells b o vs)
  | [], o, w, h => h
  | v :: vs, o, w, h => below_setCells hb vs (o + 1) _ (h.setCell (p := ⟨b, o, none⟩) hb v)
theorem run_copy_part {P : Program} (w : World) (dT sT ty elem : TypeId) (sz b o dLen dCap : Nat) (a : Addr) (sLen sCap : Nat) (cs : List Value)
    (hu : P.underlying dT = some (.slice elem)) (hs : (P.info? elem).map (·.size) = some sz) (hn : cs.length = Nat.min sLen dLen * sz)
    (hsrc : ∀ j v, cs[j]? = some v → w.cell? (a.add j) = some v) (hc : ∀ j, j < cs.length → (w.cell? ⟨b, o + j, none⟩).isSome = true) (hf : ∀ j, j < cs.length → w.frozen? ⟨b, o + j, none⟩ = false) (h1 : ∀ v ∈ cs, v.oneCell' = true) :
    (Builtin.copy_ #[dT, sT] ty #[.slice (some ⟨b, o, none⟩) dLen dCap, .slice (some a) sLen sCap]).run P w = .ok (goInt (Nat.min sLen dLen)) (w.setCells b o cs) := by
  have hl := run_loadCells_list (P := P) w a cs hsrc
  have hst := run_storeCells_cells (P := P) b o cs 0 w (by simpa using hc) (by simpa using hf) h1
  cases hq : P.info? elem with
  | none => simp [hq] at hs
  | some i =>
    have hi : i.size = sz := by simpa [hq] using hs
    simp [Builtin.copy_, run_underlying hu, Builtin.lenOf, Builtin.firstCells, sizeOf, typeInfo, hq, hi, ← hn, hl, hst]
theorem run_copy_zero {P : Program} (w : World) (dT sT ty elem : TypeId) (b o dLen dCap : Nat) (A : Option Addr) (sCap : Nat)
    (hu : P.underlying dT = some (.slice elem)) (hs : ((P.info? elem).map (·.size)).isSome = true) :
    (Builtin.copy_ #[dT, sT] ty #[.slice (some ⟨b, o, none⟩) dLen dCap, .slice A 0 sCap]).run P w = .ok (goInt 0) w := by
  cases hq : P.info? elem with
  | none => simp [hq] at hs
  | some i => cases A <;> simp [Builtin.copy_, run_underlying hu, Builtin.lenOf, Builtin.firstCells, sizeOf, typeInfo, hq, storeCells, loadCells, loadCellsFrom]
theorem info45 : (Tryd.prog.info? 45).map (fun i => (i.zero, i.size, i.bytes)) = some (some (.agg #[.int .i64 0, .int .i64 0, .int .i64 0, .slice none 0 0]), 4, 48) := by kernel_rfl
def zcells : Array Value := #[.int .i64 0, .int .i64 0, .int .i64 0, .slice none 0 0]
theorem made_row (w : World) (N : Nat) : (w.alloc (.cells (madeCells zcells (N * 4)) 45)).rowIs w.heap.size 45 (N * 4) (cellF (fun _ => zeroN) (fun _ => .slice none 0 0)) := by
  have hsz : (madeCells zcells (N * 4)).size = N * 4 := size_madeCells _ _
  have := World.rowIs_alloc w (madeCells zcells (N * 4)) 45 (cellF (fun _ => zeroN) (fun _ => .slice none 0 0)) (fun j hj => by
    rw [hsz] at hj
    have h4 : j % 4 = 0 ∨ j % 4 = 1 ∨ j % 4 = 2 ∨ j % 4 = 3 := by omega
    have e : (madeCells zcells (N * 4))[j]? = zcells[j % 4]? := by
      simp [madeCells, hj, zcells]
      rcases h4 with h | h | h | h <;> simp [h]
    rw [e]
    unfold cellF zcells
    rcases h4 with h | h | h | h <;> simp [h, zeroN])
  rw [hsz] at this
  exact this
theorem TrR.lists {w0 : World} {v : Value} {n : Nat} {F : Nat → Node} (hR : TrR w0 v n F) : ∃ uv : Nat → Value, (∀ y, n ≤ y → uv y = .slice none 0 0) ∧ ∀ y, y < n → Ints w0 (uv y) (F y).un ∧ ∃ b o c, v = .slice (some ⟨b, o, none⟩) n c ∧ b < w0.heap.size ∧ w0.cell? ⟨b, o + y * 4 + 3, none⟩ = some (uv y) := by
  obtain ⟨A, c, rfl, h1, h2, h3⟩ := hR
  have key : ∀ y, ∃ u : Value, (n ≤ y → u = .slice none 0 0) ∧ (y < n → Ints w0 u (F y).un ∧ ∃ b o c', Value.slice A n c = .slice (some ⟨b, o, none⟩) n c' ∧ b < w0.heap.size ∧ w0.cell? ⟨b, o + y * 4 + 3, none⟩ = some u) := fun y => by
    by_cases hy : y < n
    · obtain ⟨b, o, rfl, hN⟩ := h3 (by omega)
      obtain ⟨x0, x1, x2, ⟨A', c', x3, hI⟩, _⟩ := hN y hy
      exact ⟨_, fun h => absurd h (by omega), fun _ => ⟨hI, b, o, c, rfl, World.block_lt_of_cell? _ _ x0, x3⟩⟩
    · exact ⟨.slice none 0 0, fun _ => rfl, fun h => absurd h hy⟩
  obtain ⟨uv, huv⟩ := Classical.axiomOfChoice key
  exact ⟨uv, fun y h => (huv y).1 h, fun y h => (huv y).2 h⟩
theorem Ints.one {w : World} {v : Value} {l : List Int} (h : Ints w v l) : v.oneCell' = true := by
  obtain ⟨A, c, rfl, _⟩ := h
  rfl
/-- What make and copy leave: a row of nodes whose lists are the elder tree's. -/
theorem twin_start (v : Value) (n N : Nat) (F : Nat → Node) (w0 w : World) (hw : Below w0.heap.size w0 w) (hR : TrR w0 v n F) (hn : n ≤ N) (hN : N ≤ 15) :
    ∃ w2 r uv, (Instr.makeSlice 22 (.int .i64 (N : Int)) (.int .i64 (N : Int))).run Tryd.prog w = .ok (.slice (some ⟨w.heap.size, 0, none⟩) N N) (w.alloc (.cells (madeCells zcells (N * 4)) 45)) ∧
      (Builtin.copy_ #[22, 22] 3 #[.slice (some ⟨w.heap.size, 0, none⟩) N N, v]).run Tryd.prog (w.alloc (.cells (madeCells zcells (N * 4)) 45)) = .ok r w2 ∧ Below w.heap.size w w2 ∧ OwnK w0 w2 w.heap.size w.heap.size N 0 (pad n F) uv := by
  obtain ⟨i0, hinf, hz0, hz1, hz2⟩ := info_parts info45
  have hr := run_make (P := Tryd.prog) (w := w) 22 45 i0 _ Tryd.underlying22 hinf hz0 .i64 .i64 N N (by omega) (Int.le_refl _) (by rw [hz2]; omega) (by omega)
  rw [hz1] at hr
  simp only [Int.toNat_natCast] at hr
  have hrow := made_row w N
  have hb1 : Below w.heap.size w (w.alloc (.cells (madeCells zcells (N * 4)) 45)) := (Below.refl _ _).alloc (Nat.le_refl _) _
  obtain ⟨uv, hnil, huv⟩ := hR.lists
  have hsz : (Tryd.prog.info? 45).map (·.size) = some 4 := by rw [hinf]; simp [hz1]
  have far : ∀ y, y < N → 0 ≤ y → Ints w0 (uv y) (pad n F y).un := fun y hy _ => by
    unfold pad
    by_cases h : y < n
    · rw [if_pos h]; exact (huv y h).1
    · rw [if_neg h, hnil y (by omega)]
      exact Ints.nil _
  have wf : ∀ y, y < N → (Lit.int .i64 (pad n F y).mem).wf = true := fun y hy => by
    unfold pad
    by_cases h : y < n
    · rw [if_pos h]
      obtain ⟨A, c, rfl, h1, h2, h3⟩ := hR
      obtain ⟨b, o, rfl, hN⟩ := h3 (by omega)
      exact (hN y h).r1
    · rw [if_neg h]; decide
  by_cases h0 : n = 0
  · subst h0
    obtain ⟨A, c, rfl, h1, h2, h3⟩ := hR
    refine ⟨_, _, uv, hr, run_copy_zero _ 22 22 3 45 w.heap.size 0 N N A c Tryd.underlying22 (by rw [hsz]; rfl), hb1, Nat.le_refl _, hrow.congr fun j hj => ?_, fun y _ h => by omega, far, fun y _ h => by omega, fun y z _ _ h => by omega, wf⟩
    unfold cellF pad
    rw [hnil _ (by omega)]
    simp
  · obtain ⟨b, o, c, rfl, hblt, -⟩ := (huv 0 (by omega)).2
    obtain ⟨A', c', e, h1, h2, h3⟩ := hR
    injection e with e1 e2 e3
    subst e1 e3
    obtain ⟨b', o', e, hNd⟩ := h3 (by omega)
    injection e with e
    injection e with e1 e2 _
    subst e1 e2
    have hcs : ∀ j, j < n * 4 → w0.cell? ⟨b, o + j, none⟩ = some (cellF F uv j) := fun j hj => by
      have hy : j / 4 < n := by omega
      obtain ⟨x0, x1, x2, -, -⟩ := hNd (j / 4) hy
      obtain ⟨-, b2, o2, c2, e, -, x3⟩ := huv (j / 4) hy
      injection e with e1 e2 e3
      injection e1 with e1
      injection e1 with e1 e2 _
      subst e1 e2
      have h4 : j % 4 = 0 ∨ j % 4 = 1 ∨ j % 4 = 2 ∨ j % 4 = 3 := by omega
      unfold cellF
      rcases h4 with h | h | h | h
      · rw [if_pos h, show o + j = o + j / 4 * 4 by omega]; exact x0
      · rw [if_neg (by omega), if_pos h, show o + j = o + j / 4 * 4 + 1 by omega]; exact x1
      · rw [if_neg (by omega), if_neg (by omega), if_pos h, show o + j = o + j / 4 * 4 + 2 by omega]; exact x2
      · rw [if_neg (by omega), if_neg (by omega), if_neg (by omega), show o + j = o + j / 4 * 4 + 3 by omega]; exact x3
    have hmin : Nat.min n N = n := Nat.min_eq_left hn
    have hs0 := hw.size
    have hcell : ∀ j, j < N * 4 → ((w.alloc (.cells (madeCells zcells (N * 4)) 45)).cell? ⟨w.heap.size, 0 + j, none⟩).isSome = true := fun j hj => by rw [Nat.zero_add, hrow.cell hj]; rfl
    have hcp := run_copy_part (P := Tryd.prog) (w.alloc (.cells (madeCells zcells (N * 4)) 45)) 22 22 3 45 4 w.heap.size 0 N N ⟨b, o, none⟩ n c ((List.range (n * 4)).map (cellF F uv)) Tryd.underlying22 hsz (by rw [hmin]; simp)
      (fun j u hj => by
        have hj2 : j < n * 4 := by have := (List.getElem?_eq_some_iff.1 hj).1; simpa using this
        have hu : u = cellF F uv j := by
          rw [List.getElem?_map, List.getElem?_range hj2] at hj
          exact (Option.some.inj hj).symm
        rw [Addr.add_lit, hu, ← hcs j hj2, World.cell?_alloc_lt _ _ _ (by show b < _; omega), hw.cell (show b < _ from hblt)])
      (fun j hj => hcell j (by simp at hj; omega))
      (fun j hj => by rw [Nat.zero_add]; exact hrow.frozen j)
      (fun u hu => by
        obtain ⟨j, hj, rfl⟩ := List.mem_map.1 hu
        have hj2 : j / 4 < n := by have := List.mem_range.1 hj; omega
        unfold cellF
        split
        · rfl
        split
        · rfl
        split
        · rfl
        exact (huv (j / 4) hj2).1.one)
    refine ⟨_, _, uv, hr, hcp, below_setCells (Nat.le_refl _) _ _ _ hb1, Nat.le_refl _, (rowIs_setCells _ 0 _ _ hrow).congr fun j hj => ?_, fun y _ h => by omega, far, fun y _ h => by omega, fun y z _ _ h => by omega, wf⟩
    by_cases h : j < n * 4
    · rw [dif_pos (by simp; omega)]
      simp only [Nat.sub_zero, List.getElem_map, List.getElem_range]
      unfold cellF pad
      rw [if_pos (show j / 4 < n by omega)]
    · rw [dif_neg (by simp; omega)]
      unfold cellF pad
      rw [if_neg (show ¬ j / 4 < n by omega), hnil (j / 4) (by omega)]
end Go.Proofs.YtopkanokpfhmmaaDoor
