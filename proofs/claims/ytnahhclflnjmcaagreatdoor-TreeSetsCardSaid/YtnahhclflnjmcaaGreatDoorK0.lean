import Derived.Deep.RegionHeld3
import Derived.Test.YtnahhclflnjmcaaGreatDoorProg
import Derived.WalkKit
import Derived.WalkSpells
import Derived.WalkLawsBesides
import Derived.Lib.Hide
import Derived.Handy
import Derived.Laws.CopyOwn
import Derived.Laws.Rows
import Derived.Outline
import Derived.Deep.LoopGhost
import Derived.MapKept
import Derived.ChangeKeysEq
import Derived.Laws.MakeOwn
import Derived.Deep.AppendLies
import Derived.ArgAppend
/- A drawn region in two halves: loads and calls, then stores that wait for all of them. S is asked until the first store has come up. -/
namespace Go.Proofs.Phase
open Go
set_option linter.unusedVariables false
set_option linter.unusedSimpArgs false
section
variable {P : Program} {ops : Array Oper} {Q : Exit → Act → World → Prop} {md : Region.Mode} {S : World → Prop} {s : Nat}

/-- Whatever order is picked; S holds behind every operation until number s has come up. -/
def wpPh (P : Program) (md : Region.Mode) (ops : Array Oper) (Q : Exit → Act → World → Prop) (S : World → Prop) (s : Nat) : Nat → Array Bool → Act → World → Prop
  | 0, listed, a, w => Region.ready md ops listed = [] ∧ Q .normal a w
  | fuel + 1, listed, a, w =>
    (Region.ready md ops listed = [] → Q .normal a w) ∧
    ∀ i ∈ Region.ready md ops listed, wpOp P ops Q i (fun a' w' => ((listed.setIfInBounds i true).getD s true = false → S w') ∧ wpPh P md ops Q S s fuel (listed.setIfInBounds i true) a' w') a w
theorem wpAny_of_ph : ∀ (fuel : Nat) (listed : Array Bool) (a : Act) (w : World), wpPh P md ops Q S s fuel listed a w → wpAny P md ops Q fuel listed a w
  | 0, _, _, _, h => h
  | fuel + 1, _, _, _, h => ⟨h.1, fun i hi => wpOp_mono (fun a' w' h' => wpAny_of_ph fuel _ a' w' h'.2) (h.2 i hi)⟩

theorem wpPh_first {i : Nat} {oi os : Oper} {v : Value} (hi : ops[i]? = some oi) (hs : ops[s]? = some os) (hw : ∃ e ∈ os.after, Region.binds md e = true ∧ e.on = i) (his : i ≠ s) (hsel : ∀ (j : Nat) (o : Oper) cs b, ops[j]? = some o → o.op ≠ .select cs b)
    (hQ : ∀ c a w, Q (.panic c) (a.put oi.dst v) w → Q (.panic c) a w) :
    ∀ (fuel : Nat) (listed : Array Bool) (a : Act) (w : World), listed.getD s true = false →
      (∀ j oj, ops[j]? = some oj → j ≠ i → listed.getD j true = false → (∀ e ∈ oj.after, Region.binds md e = true → e.on ≠ i) → oi.apart ops oj = true) →
      i ∈ Region.ready md ops listed → YieldsIf P ops S oi v a → S w →
      wpPh P md ops Q S s fuel (listed.setIfInBounds i true) (a.put oi.dst v) w → wpPh P md ops Q S s (fuel + 1) listed a w := by
  intro fuel
  induction fuel with
  | zero =>
    intro listed a w _ _ hr hy hS H
    refine ⟨fun h => (by rw [h] at hr; cases hr), fun j hj => ?_⟩
    by_cases hji : j = i
    · subst hji; exact hy.wpOp hi hS ⟨fun _ => hS, H⟩
    · have := ready_mono hj hji
      rw [H.1] at this
      cases this
  | succ fuel ih =>
    intro listed a w hsl hfree hr hy hS H
    refine ⟨fun h => (by rw [h] at hr; cases hr), fun j hj => ?_⟩
    by_cases hji : j = i
    · subst hji; exact hy.wpOp hi hS ⟨fun _ => hS, H⟩
    · have h1 := H.2 j (ready_mono hj hji)
      obtain ⟨hjun, oj, hoj, hall⟩ := mem_ready.1 hj
      have hnot : ∀ e ∈ oj.after, Region.binds md e = true → e.on ≠ i := fun e he hb heq => by
        have h1 := hall e he hb
        have h0 := (mem_ready.1 hr).1
        rw [heq] at h1
        rcases Nat.lt_or_ge i listed.size with h' | h'
        · simp [h'] at h0 h1; rw [h0] at h1; cases h1
        · simp [Array.getElem?_eq_none h'] at h1
      have hjs : j ≠ s := fun e => by
        subst e
        obtain ⟨e, he, hb, ho⟩ := hw
        obtain rfl : oj = os := Option.some.inj (hoj.symm.trans hs)
        exact hnot e he hb ho
      have h2 := wpOp_putIf hoj (hfree j oj hoj hji hjun hnot) (fun cs b => hsel i oi cs b hi) (fun cs b => hsel j oj cs b hoj) hQ hy h1
      have hfree' : ∀ k ok, ops[k]? = some ok → k ≠ i → (listed.setIfInBounds j true).getD k true = false →
          (∀ e ∈ ok.after, Region.binds md e = true → e.on ≠ i) → oi.apart ops ok = true := fun k ok hk hki hun hno => by
        refine hfree k ok hk hki ?_ hno
        by_cases hjk : j = k
        · subst hjk; exact hjun
        · rw [getD_set_ne true hjk] at hun; exact hun
      have hsl' : (listed.setIfInBounds j true).getD s true = false := by rw [getD_set_ne true hjs]; exact hsl
      have hsl2 : ((listed.setIfInBounds i true).setIfInBounds j true).getD s true = false := by rw [getD_set_ne true hjs, getD_set_ne true his]; exact hsl
      refine wpOp_mono (fun a' w' h3 => ⟨fun _ => h3.2.1 hsl2, ih (listed.setIfInBounds j true) a' w' hsl' hfree' (ready_mono hr (Ne.symm hji)) h3.1 (h3.2.1 hsl2) ?_⟩) h2
      rw [Array.setIfInBounds_comm _ _ hji]
      exact h3.2.2

/-- Does operation s wait for operation i by itself? -/
def waits (md : Region.Mode) (ops : Array Oper) (s i : Nat) : Bool := match ops[s]? with
  | some o => o.after.any fun e => Region.binds md e && e.on == i
  | none => false
theorem wpPh_take {i : Nat} {oi : Oper} {v : Value} {fuel : Nat} {listed : Array Bool} {a : Act} {w : World} (hi : ops[i]? = some oi)
    (hn : Region.noSelect ops = true) (hf : Region.free md ops listed i = true) (hr : (Region.ready md ops listed).contains i = true) (hw : (waits md ops s i && !(i == s) && !listed.getD s true) = true)
    (hQ : ∀ c a w, Q (.panic c) (a.put oi.dst v) w → Q (.panic c) a w) (hy : YieldsIf P ops S oi v a) (hS : S w)
    (h : wpPh P md ops Q S s fuel (listed.setIfInBounds i true) (a.put oi.dst v) w) : wpPh P md ops Q S s (fuel + 1) listed a w := by
  simp only [Bool.and_eq_true, Bool.not_eq_true'] at hw
  obtain ⟨⟨h1, h2⟩, h3⟩ := hw
  unfold waits at h1
  cases hs : ops[s]? with
  | none => rw [hs] at h1; cases h1
  | some os =>
    rw [hs] at h1
    have h1 : (os.after.any fun e => Region.binds md e && e.on == i) = true := h1
    rw [Array.any_eq_true'] at h1
    obtain ⟨e, he, hb⟩ := h1
    rw [Bool.and_eq_true, beq_iff_eq] at hb
    exact wpPh_first hi hs ⟨e, he, hb.1, hb.2⟩ (by simpa using h2) (Region.noSelect_spec hn) hQ fuel listed a w h3 (Region.free_spec hi hf) (by simpa using hr) hy hS h
theorem wpPh_done {listed : Array Bool} {a : Act} {w : World} (hr : Region.ready md ops listed = []) (h : Q .normal a w) : ∀ fuel, wpPh P md ops Q S s fuel listed a w
  | 0 => ⟨hr, h⟩
  | _ + 1 => ⟨fun _ => h, by rw [hr]; simp⟩
theorem wpPh_before {i : Nat} {o : Oper} {fuel : Nat} {listed : Array Bool} {a : Act} {w : World} (hr : Region.ready md ops listed = [i]) (ho : ops[i]? = some o)
    (h : ∀ K' : Act → World → Prop, Shut (∀ a w, S w → (S w → wpPh P md ops Q S s fuel (listed.setIfInBounds i true) a w) → K' a w) → if Region.wanted o (yielded ops a.tmps) = true then Oper.wp P o a w K' Q else K' (a.put o.dst undef) w) :
    wpPh P md ops Q S s (fuel + 1) listed a w := by
  refine ⟨fun e => (by rw [hr] at e; cases e), fun j hj => ?_⟩
  rw [hr, List.mem_singleton] at hj
  subst hj
  exact wpOp_step ho (fun K' hK => h K' (fun a w hS hW => hK a w ⟨fun _ => hS, hW hS⟩))
theorem wpPh_behind {i : Nat} {o : Oper} {fuel : Nat} {listed : Array Bool} {a : Act} {w : World} (hr : Region.ready md ops listed = [i]) (ho : ops[i]? = some o) (hl : (listed.setIfInBounds i true).getD s true = true)
    (h : ∀ K' : Act → World → Prop, Shut (∀ a w, wpPh P md ops Q S s fuel (listed.setIfInBounds i true) a w → K' a w) → if Region.wanted o (yielded ops a.tmps) = true then Oper.wp P o a w K' Q else K' (a.put o.dst undef) w) :
    wpPh P md ops Q S s (fuel + 1) listed a w := by
  refine ⟨fun e => (by rw [hr] at e; cases e), fun j hj => ?_⟩
  rw [hr, List.mem_singleton] at hj
  subst hj
  exact wpOp_step ho (fun K' hK => h K' (fun a w hW => hK a w ⟨fun e => (by rw [hl] at e; cases e), hW⟩))
theorem wp_region_ph (s : Nat) {id : Nat} {a : Act} {w : World} (hm : P.follows .mixedOrders = true) (hS : S w.drew)
    (h : S w.drew → wpPh P .any ops Q S s ops.size (Array.replicate ops.size false) a w.drew) : (Code.region id ops true).wp P Q a w :=
  wp_region_any hm (wpAny_of_ph _ _ _ _ (h hS))
end

theorem wpPh_take' {P : Program} {ops : Array Oper} {Q : Exit → Act → World → Prop} {md : Region.Mode} {S : World → Prop} {s : Nat} {i : Nat} {oi : Oper} {fuel : Nat} {listed : Array Bool} {a : Act} {w : World} (hi : ops[i]? = some oi)
    (h : ∃ v, (Region.noSelect ops = true ∧ Region.free md ops listed i = true ∧ (Region.ready md ops listed).contains i = true ∧ (waits md ops s i && !(i == s) && !listed.getD s true) = true) ∧
      (∀ c a w, Q (.panic c) (a.put oi.dst v) w → Q (.panic c) a w) ∧ YieldsIf P ops S oi v a ∧ S w ∧ wpPh P md ops Q S s fuel (listed.setIfInBounds i true) (a.put oi.dst v) w) : wpPh P md ops Q S s (fuel + 1) listed a w := by
  obtain ⟨v, ⟨h1, h2, h3, h4⟩, h5, h6, h7, h8⟩ := h
  exact wpPh_take hi h1 h2 h3 h4 h5 h6 h7 h8
/-- A load that an equation tells. -/
theorem exec_load {P : Program} {o : Oper} {a : Act} {w : World} (ty : TypeId) (x : Operand) (ho : o.op = .load ty x) (ad : Addr) (hx : a.eval x = .pointer (some ad)) (v : Value)
    (hl : (loadVar ty ad).run P w = .ok v w) : (execOp a.eval o).run P w = .ok (.value v) w := by
  unfold execOp
  simp only [ho, hx, Instr.loadAt, Instr.sureAddr, Sem.run_bind, Sem.run_pure, Result.andThen_ok, hl]
end Go.Proofs.Phase

/- The book of lists: what holds of the lists of one kind. -/
namespace Go.Proofs.YtnahhclflnjmcaaGreatDoor.Bk
open Go Go.RowKit
set_option linter.unusedVariables false
set_option linter.unusedSimpArgs false

/-- All is as it was but for some blocks. -/
structure Chg (X : Nat → Prop) (w w' : World) : Prop where
  os : w'.os = w.os
  tape : w'.tape = w.tape
  output : w'.output = w.output
  size : w.heap.size ≤ w'.heap.size
  block : ∀ b, b < w.heap.size → ¬ X b → w'.heap[b]? = w.heap[b]?
theorem Chg.refl (X : Nat → Prop) (w : World) : Chg X w w := ⟨rfl, rfl, rfl, Nat.le_refl _, fun _ _ _ => rfl⟩
theorem Chg.trans {X : Nat → Prop} {a b c : World} (h : Chg X a b) (k : Chg X b c) : Chg X a c :=
  ⟨k.os.trans h.os, k.tape.trans h.tape, k.output.trans h.output, Nat.le_trans h.size k.size, fun i hi hx => (k.block i (Nat.lt_of_lt_of_le hi h.size) hx).trans (h.block i hi hx)⟩
theorem Chg.mono {X Y : Nat → Prop} {w w' : World} (h : Chg X w w') (hX : ∀ b, b < w.heap.size → X b → Y b) : Chg Y w w' := ⟨h.os, h.tape, h.output, h.size, fun b hb hy => h.block b hb fun hx => hy (hX b hb hx)⟩
theorem Chg.of_below {X : Nat → Prop} {w w' : World} (h : Below w.heap.size w w') : Chg X w w' := ⟨h.os, h.tape, h.output, h.size, fun b hb _ => h.block b hb⟩
theorem Chg.below {X : Nat → Prop} {w w' : World} {B : Nat} (h : Chg X w w') (hB : B ≤ w.heap.size) (hX : ∀ b, b < w.heap.size → X b → B ≤ b) : Below B w w' :=
  ⟨h.os, h.tape, h.output, h.size, fun k hk => h.block k (by omega) fun hx => by have := hX k (by omega) hx; omega⟩
theorem Chg.setCell {X : Nat → Prop} (w : World) (p : Addr) (u : Value) (hp : X p.block) : Chg X w (w.setCell p u) :=
  ⟨rfl, rfl, rfl, by simp [World.setCell], fun k hk hx => Below.heap_setCell _ _ _ _ (fun e => hx (by rw [e]; exact hp))⟩
theorem Chg.setRow {X : Nat → Prop} (w : World) (g : Nat) (vs : Array Value) (hg : X g) : Chg X w (w.setRow g vs) :=
  ⟨rfl, rfl, rfl, by simp, fun k hk hx => setRow_other w g k vs (fun e => hx (by rw [e]; exact hg))⟩
theorem Chg.grown {X : Nat → Prop} {w w' : World} {row : Option Nat} (hg : w.grownBy w' row) (hr : ∀ k, row = some k → X k) : Chg X w w' :=
  ⟨hg.os, hg.tape, hg.output, hg.size, fun k hk hx => hg.block k hk (fun e => hx (hr k e.symm))⟩
theorem Chg.keep {X : Nat → Prop} {w w' : World} (h : Chg X w w') {b : Nat} {o : Obj} (hb : w.heap[b]? = some o) (hx : ¬ X b) : w'.heap[b]? = some o := (h.block b (Array.getElem?_eq_some_iff.1 hb).1 hx).trans hb
theorem lt_of_some {w : World} {g : Nat} {o : Obj} (h : w.heap[g]? = some o) : g < w.heap.size := (Array.getElem?_eq_some_iff.1 h).1

/-- A kind of lists: the type of a held one, of its elements, how many cells these have, the mark. -/
structure KD where
  HT : TypeId
  ET : TypeId
  sz : Nat
  mark : Int → Array Value
  pos : 0 < sz
  mks : ∀ m, (mark m).size = sz
  mko : ∀ m, ∀ u ∈ (mark m).toList, u.oneCell' = true
def Full (K : KD) (m : Int) (n o : Nat) (cur : Array Value) : Prop := ∀ j, j < n → cur.extract (o + j * K.sz) (o + j * K.sz + K.sz) = K.mark m
/-- A slice in a block of its own: the whole block, or a part of it without room behind. -/
structure OwnB (K : KD) (w : World) (B n cap g o : Nat) (cur : Array Value) : Prop where
  blk : w.heap[g]? = some (.cells cur K.ET (0, 0))
  hB : B ≤ g
  le : n ≤ cap
  mx : cap ≤ maxLen
  fit : o + n * K.sz ≤ cur.size
  kind : (o = 0 ∧ cur.size = cap * K.sz) ∨ n = cap
/-- A held slice: at most lim elements, the first k are marks. -/
def OwnH (K : KD) (w : World) (B : Nat) (v : Value) (m : Int) (lim k : Nat) : Prop :=
  v = .slice none 0 0 ∨ ∃ g o n cap cur, v = .slice (some ⟨g, o, none⟩) n cap ∧ OwnB K w B n cap g o cur ∧ n ≤ lim ∧ Full K m (min k n) o cur
def hrow (hs : List (Value × Int)) : List Value := hs.flatMap fun h => [h.1, .int .i64 h.2]
theorem hrow_length (hs : List (Value × Int)) : (hrow hs).length = hs.length * 2 := by
  induction hs with
  | nil => rfl
  | cons h t ih => simp only [hrow, List.flatMap_cons, List.length_append, List.length_cons, List.length_nil] at *; omega
theorem hrow_get : ∀ (hs : List (Value × Int)) (i : Nat) (v : Value) (m : Int), hs[i]? = some (v, m) → (hrow hs)[i * 2]? = some v ∧ (hrow hs)[i * 2 + 1]? = some (.int .i64 m)
  | [], i, v, m, h => by simp at h
  | x :: t, 0, v, m, h => by
    obtain rfl : x = (v, m) := by simpa using h
    exact ⟨rfl, rfl⟩
  | x :: t, i + 1, v, m, h => by
    have := hrow_get t i v m (by simpa using h)
    have e : hrow (x :: t) = [x.1, .int .i64 x.2] ++ hrow t := rfl
    rw [e, List.getElem?_append_right (by simp; omega), List.getElem?_append_right (by simp; omega)]
    simp only [List.length_cons, List.length_nil]
    rw [show (i + 1) * 2 - (0 + 1 + 1) = i * 2 by omega, show (i + 1) * 2 + 1 - (0 + 1 + 1) = i * 2 + 1 by omega]
    exact this
theorem hrow_set : ∀ (hs : List (Value × Int)) (i : Nat) (v v' : Value) (m : Int), hs[i]? = some (v, m) → (hrow hs).set (i * 2) v' = hrow (hs.set i (v', m))
  | [], i, v, v', m, h => by simp at h
  | x :: t, 0, v, v', m, h => by
    obtain rfl : x = (v, m) := by simpa using h
    rfl
  | x :: t, i + 1, v, v', m, h => by
    have := hrow_set t i v v' m (by simpa using h)
    have e : hrow (x :: t) = x.1 :: .int .i64 x.2 :: hrow t := rfl
    rw [e, show (i + 1) * 2 = i * 2 + 1 + 1 by omega, List.set_cons_succ, List.set_cons_succ, this]
    rfl
/-- The lists of one kind that are held; F: the blocks that they may have. -/
structure HL (K : KD) (w : World) (B : Nat) (F : Nat → Prop) (lv : Value) (hs : List (Value × Int)) (lim kf : Nat → Nat) : Prop where
  row : w.ownsRow B K.HT 2 lv hs.length (hrow hs)
  held : ∀ (i : Nat) (v : Value) (m : Int), hs[i]? = some (v, m) → OwnH K w B v m (lim i) (kf i)
  rng : ∀ (i : Nat) (v : Value) (m : Int), hs[i]? = some (v, m) → -9223372036854775808 ≤ m ∧ m ≤ 9223372036854775807
  apart : ∀ (i j : Nat) (v : Value) (m : Int) (v' : Value) (m' : Int) (b : Nat), hs[i]? = some (v, m) → hs[j]? = some (v', m') → i ≠ j → v.ownBlock = some b → v'.ownBlock ≠ some b
  apart0 : ∀ (i : Nat) (v : Value) (m : Int) (b : Nat), hs[i]? = some (v, m) → v.ownBlock = some b → lv.ownBlock ≠ some b
  inF : ∀ (b : Nat), lv.ownBlock = some b → F b
  inF' : ∀ (i : Nat) (v : Value) (m : Int) (b : Nat), hs[i]? = some (v, m) → v.ownBlock = some b → F b
theorem Full.mono {K : KD} {m : Int} {n n' o : Nat} {cur : Array Value} (h : Full K m n o cur) (hn : n' ≤ n) : Full K m n' o cur := fun j hj => h j (by omega)
theorem OwnH.mono {K : KD} {w : World} {B : Nat} {v : Value} {m : Int} {lim k lim' k' : Nat} (h : OwnH K w B v m lim k) (h1 : lim ≤ lim') (h2 : k' ≤ k) : OwnH K w B v m lim' k' := by
  rcases h with h | ⟨g, o, n, cap, cur, e, h3, h4, h5⟩
  · exact .inl h
  · exact .inr ⟨g, o, n, cap, cur, e, h3, by omega, h5.mono (by omega)⟩
theorem OwnH.keep {K : KD} {w w' : World} {B : Nat} {v : Value} {m : Int} {lim k : Nat} (h : OwnH K w B v m lim k) (hk : ∀ b, v.ownBlock = some b → w'.heap[b]? = w.heap[b]?) : OwnH K w' B v m lim k := by
  rcases h with h | ⟨g, o, n, cap, cur, e, h3, h4, h5⟩
  · exact .inl h
  · subst e
    exact .inr ⟨g, o, n, cap, cur, rfl, ⟨(hk g rfl).trans h3.blk, h3.hB, h3.le, h3.mx, h3.fit, h3.kind⟩, h4, h5⟩
theorem OwnH.lt {K : KD} {w : World} {B : Nat} {v : Value} {m : Int} {lim k : Nat} (h : OwnH K w B v m lim k) {b : Nat} (hb : v.ownBlock = some b) : b < w.heap.size ∧ B ≤ b := by
  rcases h with h | ⟨g, o, n, cap, cur, e, h3, h4, h5⟩
  · rw [h] at hb; cases hb
  · subst e
    obtain rfl : g = b := by simpa [Value.ownBlock] using hb
    exact ⟨lt_of_some h3.blk, h3.hB⟩
theorem row_keep {w w' : World} {B sz n : Nat} {t : TypeId} {v : Value} {xs : List Value} (h : w.ownsRow B t sz v n xs) (hk : ∀ b, v.ownBlock = some b → w'.heap[b]? = w.heap[b]?) : w'.ownsRow B t sz v n xs := by
  refine ⟨h.1, ?_⟩
  rcases h.2 with h2 | ⟨g, cap, cur, h1, h2, h3, h4⟩
  · exact .inl h2
  · exact .inr ⟨g, cap, cur, h1, h2, (hk g (by rw [h1]; rfl)).trans h3, h4⟩
theorem row_lt {w : World} {B sz n : Nat} {t : TypeId} {v : Value} {xs : List Value} (h : w.ownsRow B t sz v n xs) {b : Nat} (hb : v.ownBlock = some b) : b < w.heap.size ∧ B ≤ b := by
  rcases h.2 with ⟨h2, _⟩ | ⟨g, cap, cur, h1, h2, h3, h4⟩
  · rw [h2] at hb; cases hb
  · rw [h1] at hb
    obtain rfl : g = b := by simpa [Value.ownBlock] using hb
    exact ⟨lt_of_some h3, h2⟩
section
variable {K : KD} {w w' : World} {B : Nat} {F : Nat → Prop} {lv : Value} {hs : List (Value × Int)} {lim kf : Nat → Nat}
theorem HL.lt (h : HL K w B F lv hs lim kf) {b : Nat} (hb : lv.ownBlock = some b ∨ ∃ (i : Nat) (v : Value) (m : Int), hs[i]? = some (v, m) ∧ v.ownBlock = some b) : b < w.heap.size ∧ B ≤ b ∧ F b := by
  rcases hb with hb | ⟨i, v, m, h1, h2⟩
  · exact ⟨(row_lt h.row hb).1, (row_lt h.row hb).2, h.inF b hb⟩
  · exact ⟨((h.held i v m h1).lt h2).1, ((h.held i v m h1).lt h2).2, h.inF' i v m b h1 h2⟩
/-- What does not touch the blocks leaves it. -/
theorem HL.keep (h : HL K w B F lv hs lim kf) {X : Nat → Prop} (hc : Chg X w w') (hx : ∀ b, F b → ¬ X b) : HL K w' B F lv hs lim kf :=
  ⟨row_keep h.row fun b hb => hc.block b (row_lt h.row hb).1 (hx b (h.inF b hb)), fun i v m hi => (h.held i v m hi).keep fun b hb => hc.block b ((h.held i v m hi).lt hb).1 (hx b (h.inF' i v m b hi hb)), h.rng, h.apart, h.apart0, h.inF, h.inF'⟩
theorem HL.weak (h : HL K w B F lv hs lim kf) {F' : Nat → Prop} (hF : ∀ b, F b → b < w.heap.size → F' b) : HL K w B F' lv hs lim kf :=
  ⟨h.row, h.held, h.rng, h.apart, h.apart0, fun b hb => hF b (h.inF b hb) (row_lt h.row hb).1, fun i v m b hi hb => hF b (h.inF' i v m b hi hb) ((h.held i v m hi).lt hb).1⟩
/-- None is held. -/
theorem HL.nil (K : KD) (w : World) (B : Nat) (F : Nat → Prop) (lim kf : Nat → Nat) : HL K w B F (.slice none 0 0) [] lim kf :=
  ⟨⟨rfl, .inl ⟨rfl, rfl⟩⟩, fun i v m h => by simp at h, fun i v m h => by simp at h, fun i j v m v' m' b h => by simp at h, fun i v m b h => by simp at h, (fun b h => by cases h), fun i v m b h => by simp at h⟩
/-- The cells of a held one. -/
theorem HL.at (h : HL K w B F lv hs lim kf) {i : Nat} {v : Value} {m : Int} (hi : hs[i]? = some (v, m)) : ∃ g cap cur, lv = .slice (some ⟨g, 0, none⟩) hs.length cap ∧ w.heap[g]? = some (.cells cur K.HT (0, 0)) ∧ F g ∧ cur[i * 2]? = some v ∧ cur[i * 2 + 1]? = some (.int .i64 m) ∧ i * 2 + 2 ≤ cur.size := by
  have hlt := (List.getElem?_eq_some_iff.1 hi).1
  rcases h.row.2 with ⟨h1, h2⟩ | ⟨g, cap, cur, h1, h2, h3, h4, h5, h6, h7⟩
  · omega
  · have hr := hrow_get hs i v m hi
    rw [← h7, List.getElem?_take_of_lt (by omega), List.getElem?_take_of_lt (by omega), Array.getElem?_toList, Array.getElem?_toList] at hr
    refine ⟨g, cap, cur, h1, h3, h.inF g (by rw [h1]; rfl), hr.1, hr.2, ?_⟩
    have := (Array.getElem?_eq_some_iff.1 hr.2).1
    omega
theorem HL.slice (h : HL K w B F lv hs lim kf) : ∃ A c, lv = .slice A hs.length c := by
  rcases h.row.2 with ⟨h1, h2⟩ | ⟨g, cap, cur, h1, _⟩
  · exact ⟨none, 0, by rw [h1, h2]⟩
  · exact ⟨_, _, h1⟩
theorem HL.lens {lim' kf' : Nat → Nat} (h : HL K w B F lv hs lim kf) (hl : ∀ i, i < hs.length → lim' i = lim i ∧ kf' i = kf i) : HL K w B F lv hs lim' kf' :=
  ⟨h.row, fun i v m hi => by
    have := hl i (List.getElem?_eq_some_iff.1 hi).1
    rw [this.1, this.2]; exact h.held i v m hi, h.rng, h.apart, h.apart0, h.inF, h.inF'⟩
/-- One mark is written. -/
theorem HL.write (h : HL K w B F lv hs lim kf) {i k n cap g o : Nat} {cur : Array Value} {m : Int} (hi : hs[i]? = some (.slice (some ⟨g, o, none⟩) n cap, m)) (hb : w.heap[g]? = some (.cells cur K.ET (0, 0))) (hk : k ≤ kf i) (hkn : k < n) {cur' : Array Value} (hs' : cur'.size = cur.size)
    (he : cur'.extract (o + k * K.sz) (o + k * K.sz + K.sz) = K.mark m) (ho : ∀ j, j < k → cur'.extract (o + j * K.sz) (o + j * K.sz + K.sz) = cur.extract (o + j * K.sz) (o + j * K.sz + K.sz)) (hw : w'.heap[g]? = some (.cells cur' K.ET (0, 0))) (hc : Chg (· = g) w w') :
    HL K w' B F lv hs lim (fun j => if j = i then k + 1 else kf j) := by
  have hne : ∀ b, lv.ownBlock = some b → ¬ b = g := fun b hb' e => h.apart0 i _ m g hi rfl (by rw [← e]; exact hb')
  refine ⟨row_keep h.row fun b hb' => hc.block b (row_lt h.row hb').1 (hne b hb'), fun j v m' hj => ?_, h.rng, h.apart, h.apart0, h.inF, h.inF'⟩
  by_cases e : j = i
  · subst e
    rw [hi] at hj
    injection hj with hj
    injection hj with e1 e2
    subst e1 e2
    rw [if_pos rfl]
    rcases h.held j _ m hi with h1 | ⟨g', o', n', cap', cur0, e1, h3, h4, h5⟩
    · cases h1
    · injection e1 with e1 e2 e3
      injection e1 with e1
      injection e1 with e1 eo
      subst e1 eo e2 e3
      have hcur := h3.blk
      rw [hb] at hcur
      injection hcur with hcur
      injection hcur with hcur
      subst hcur
      refine .inr ⟨g, o, n, cap, cur', rfl, ⟨hw, h3.hB, h3.le, h3.mx, by rw [hs']; exact h3.fit, by rw [hs']; exact h3.kind⟩, h4, fun x hx => ?_⟩
      by_cases ex : x = k
      · rw [ex]; exact he
      · rw [ho x (by omega)]
        exact h5 x (by omega)
  · rw [if_neg e]
    exact (h.held j v m' hj).keep fun b hb' => hc.block b ((h.held j v m' hj).lt hb').1 fun eb => h.apart i j _ m v m' g hi hj (fun e' => e e'.symm) rfl (by rw [← eb]; exact hb')
theorem row_grown {w w' : World} {B n : Nat} {t : TypeId} {v : Value} {row : Option Nat} {xs : List Value} {sz : Nat} (h : w.ownsRow B t sz v n xs) (hg : w.grownBy w' row) (hn : ∀ b, v.ownBlock = some b → row ≠ some b) : w'.ownsRow B t sz v n xs :=
  row_keep h fun b hb => hg.block b (row_lt h hb).1 fun e => hn b hb e.symm
/-- One more is held. -/
theorem HL.push {w1 w2 : World} {v : Value} {m : Int} {g cap : Nat} {F' : Nat → Prop} (h : HL K w1 B F lv hs lim kf) (hB : B ≤ w1.heap.size) (hv : OwnH K w1 B v m (lim hs.length) (kf hs.length)) (hm : -9223372036854775808 ≤ m ∧ m ≤ 9223372036854775807) (hd : ∀ b, v.ownBlock = some b → ¬ F b)
    (o1 : w2.ownsRow B K.HT 2 (.slice (some ⟨g, 0, none⟩) (hs.length + 1) cap) (hs.length + 1) (hrow hs ++ [v, .int .i64 m])) (o2 : w1.grownBy w2 lv.ownBlock) (o3 : lv.ownBlock = some g ∨ g = w1.heap.size)
    (hF : ∀ b, F b → F' b) (hg : F' g) (hvF : ∀ b, v.ownBlock = some b → F' b) : HL K w2 B F' (.slice (some ⟨g, 0, none⟩) (hs.length + 1) cap) (hs ++ [(v, m)]) lim kf := by
  have hne : ∀ b, v.ownBlock = some b → lv.ownBlock ≠ some b := fun b hb e => hd b hb (h.inF b e)
  have hgne : ∀ (u : Value) (b : Nat), u.ownBlock = some b → b < w1.heap.size → lv.ownBlock ≠ some b → g ≠ b := fun u b hu hlt hn e => by
    rcases o3 with o3 | o3
    · exact hn (by rw [← e]; exact o3)
    · omega
  refine ⟨by
      have e : hrow (hs ++ [(v, m)]) = hrow hs ++ [v, .int .i64 m] := by simp [hrow]
      rw [List.length_append, List.length_singleton, e]; exact o1, fun i v' m' hi => ?_, fun i v' m' hi => ?_, fun i j v1 m1 v2 m2 b hi hj hij hb => ?_, fun i v' m' b hi hb e => ?_, fun b hb => ?_, fun i v' m' b hi hb => ?_⟩
  · by_cases hl : i < hs.length
    · rw [List.getElem?_append_left hl] at hi
      exact (h.held i v' m' hi).keep fun b hb => o2.block b ((h.held i v' m' hi).lt hb).1 fun e => h.apart0 i v' m' b hi hb e.symm
    · have hl2 : i = hs.length := by
        have := (List.getElem?_eq_some_iff.1 hi).1
        simp at this; omega
      subst hl2
      rw [List.getElem?_append_right (Nat.le_refl _), Nat.sub_self] at hi
      have hi : (v, m) = (v', m') := by simpa using hi
      injection hi with e1 e2
      subst e1 e2
      exact hv.keep fun b hb => o2.block b (hv.lt hb).1 fun e => hne b hb e.symm
  · by_cases hl : i < hs.length
    · rw [List.getElem?_append_left hl] at hi
      exact h.rng i v' m' hi
    · have hl2 : i = hs.length := by
        have := (List.getElem?_eq_some_iff.1 hi).1
        simp at this; omega
      subst hl2
      rw [List.getElem?_append_right (Nat.le_refl _), Nat.sub_self] at hi
      have hi : (v, m) = (v', m') := by simpa using hi
      injection hi with e1 e2
      rw [← e2]; exact hm
  · have hcase : ∀ k u q, (hs ++ [(v, m)])[k]? = some (u, q) → (k < hs.length ∧ hs[k]? = some (u, q)) ∨ (k = hs.length ∧ u = v) := fun k u q hk => by
      by_cases hl : k < hs.length
      · rw [List.getElem?_append_left hl] at hk
        exact .inl ⟨hl, hk⟩
      · have hl2 : k = hs.length := by
          have := (List.getElem?_eq_some_iff.1 hk).1
          simp at this; omega
        subst hl2
        rw [List.getElem?_append_right (Nat.le_refl _), Nat.sub_self] at hk
        have hk : (v, m) = (u, q) := by simpa using hk
        injection hk with e1 e2
        exact .inr ⟨rfl, e1.symm⟩
    rcases hcase i v1 m1 hi with ⟨_, k1⟩ | ⟨k1, rfl⟩ <;> rcases hcase j v2 m2 hj with ⟨_, k2⟩ | ⟨k2, rfl⟩
    · exact h.apart i j v1 m1 v2 m2 b k1 k2 hij hb
    · exact fun e => hd b e (h.inF' i v1 m1 b k1 hb)
    · exact fun e => hd b hb (h.inF' j v2 m2 b k2 e)
    · omega
  · have e : g = b := by simpa [Value.ownBlock] using e
    by_cases hl : i < hs.length
    · rw [List.getElem?_append_left hl] at hi
      exact hgne v' b hb ((h.held i v' m' hi).lt hb).1 (h.apart0 i v' m' b hi hb) e
    · have hl2 : i = hs.length := by
        have := (List.getElem?_eq_some_iff.1 hi).1
        simp at this; omega
      subst hl2
      rw [List.getElem?_append_right (Nat.le_refl _), Nat.sub_self] at hi
      have hi : (v, m) = (v', m') := by simpa using hi
      injection hi with e1 e2
      subst e1
      exact hgne v b hb (hv.lt hb).1 (hne b hb) e
  · have hb : g = b := by simpa [Value.ownBlock] using hb
    rw [← hb]; exact hg
  · by_cases hl : i < hs.length
    · rw [List.getElem?_append_left hl] at hi
      exact hF b (h.inF' i v' m' b hi hb)
    · have hl2 : i = hs.length := by
        have := (List.getElem?_eq_some_iff.1 hi).1
        simp at this; omega
      subst hl2
      rw [List.getElem?_append_right (Nat.le_refl _), Nat.sub_self] at hi
      have hi : (v, m) = (v', m') := by simpa using hi
      injection hi with e1 e2
      subst e1
      exact hvF b hb
/-- A row of one's own, whole or a part without room behind. -/
def HeldRow (w : World) (B : Nat) (t : TypeId) (sz : Nat) (v : Value) (n : Nat) (xs : List Value) : Prop :=
  w.ownsRow B t sz v n xs ∨ ∃ g o cur, v = .slice (some ⟨g, o, none⟩) n n ∧ B ≤ g ∧ w.heap[g]? = some (.cells cur t (0, 0)) ∧ o + n * sz ≤ cur.size ∧ xs = (cur.toList.drop o).take (n * sz)
theorem HeldRow.len {w : World} {B : Nat} {t : TypeId} {sz : Nat} {v : Value} {n : Nat} {xs : List Value} (h : HeldRow w B t sz v n xs) : xs.length = n * sz := by
  rcases h with h | ⟨g, o, cur, h1, h2, h3, h4, h5⟩
  · exact h.1
  · rw [h5]; simp; omega
theorem HeldRow.keep {w w' : World} {B : Nat} {t : TypeId} {sz : Nat} {v : Value} {n : Nat} {xs : List Value} (h : HeldRow w B t sz v n xs) (hb : Below w.heap.size w w') : HeldRow w' B t sz v n xs := by
  rcases h with h | ⟨g, o, cur, h1, h2, h3, h4, h5⟩
  · exact .inl (row_keep h fun b hb' => hb.block b (row_lt h hb').1)
  · exact .inr ⟨g, o, cur, h1, h2, (hb.block g (lt_of_some h3)).trans h3, h4, h5⟩
/-- The row of a held slice. -/
theorem OwnH.row {m : Int} {l k : Nat} {v : Value} (h : OwnH K w B v m l k) : ∃ n xs, (∃ A c, v = .slice A n c) ∧ HeldRow w B K.ET K.sz v n xs ∧ n ≤ l ∧ (∀ j, j < min k n → (xs.drop (j * K.sz)).take K.sz = (K.mark m).toList) := by
  rcases h with rfl | ⟨g, o, n, cap, cur, rfl, h3, h4, h5⟩
  · exact ⟨0, [], ⟨_, _, rfl⟩, .inl ⟨by simp, .inl ⟨rfl, rfl⟩⟩, Nat.zero_le _, fun j hj => by omega⟩
  · have hfit := h3.fit
    refine ⟨n, (cur.toList.drop o).take (n * K.sz), ⟨_, _, rfl⟩, ?_, h4, fun j hj => ?_⟩
    · rcases h3.kind with ⟨rfl, hsz⟩ | rfl
      · exact .inl ⟨by rw [List.length_take, List.length_drop, Array.length_toList]; omega, .inr ⟨g, cap, cur, rfl, h3.hB, h3.blk, h3.le, h3.mx, hsz, by rw [List.drop_zero]⟩⟩
      · exact .inr ⟨g, o, cur, rfl, h3.hB, h3.blk, hfit, rfl⟩
    · have hjs : (j + 1) * K.sz ≤ n * K.sz := Nat.mul_le_mul_right _ (by omega)
      rw [Nat.add_mul, Nat.one_mul] at hjs
      have := congrArg Array.toList (h5 j hj)
      rw [Array.toList_extract] at this
      rw [List.drop_take, List.take_take, Nat.min_eq_left (by omega), ← this, List.drop_drop]
      show _ = (List.drop (o + j * K.sz) cur.toList).take (o + j * K.sz + K.sz - (o + j * K.sz))
      rw [Nat.add_sub_cancel_left]
theorem OwnH.of_row {m : Int} {l k n : Nat} {v : Value} {xs : List Value} (h : w.ownsRow B K.ET K.sz v n xs) (hn : n ≤ l) (hx : ∀ j, j < min k n → (xs.drop (j * K.sz)).take K.sz = (K.mark m).toList) : OwnH K w B v m l k := by
  rcases h.2 with ⟨h1, _⟩ | ⟨g, cap, cur, h1, h2, h3, h4, h5, h6, h7⟩
  · exact .inl h1
  · refine .inr ⟨g, 0, n, cap, cur, h1, ⟨h3, h2, h4, h5, by rw [h6, Nat.zero_add]; exact Nat.mul_le_mul_right _ h4, .inl ⟨rfl, h6⟩⟩, hn, fun j hj => ?_⟩
    have := hx j hj
    have hjs : (j + 1) * K.sz ≤ n * K.sz := Nat.mul_le_mul_right _ (by omega)
    rw [Nat.add_mul, Nat.one_mul] at hjs
    rw [← h7, List.drop_take, List.take_take, Nat.min_eq_left (by omega)] at this
    apply Array.ext'
    rw [Nat.zero_add, Array.toList_extract, ← this]
    show (List.drop (j * K.sz) cur.toList).take (j * K.sz + K.sz - j * K.sz) = _
    rw [Nat.add_sub_cancel_left]
/-- A held slice has grown by one mark, and is stored. -/
theorem HL.grow {w1 w2 : World} {i n c cap gl : Nat} {A : Option Addr} {m : Int} {v' : Value} {cur : Array Value} {xs : List Value} {F' : Nat → Prop} (h : HL K w1 B F lv hs lim kf) (hB : B ≤ w1.heap.size) (hi : hs[i]? = some (.slice A n c, m)) (hlv : lv = .slice (some ⟨gl, 0, none⟩) hs.length cap) (hcur : w1.heap[gl]? = some (.cells cur K.HT (0, 0)))
    (hx : ∀ j, j < n → (xs.drop (j * K.sz)).take K.sz = (K.mark m).toList) (hxl : xs.length = n * K.sz) (hn : n + 1 ≤ lim i + 1)
    (o1 : w2.ownsRow B K.ET K.sz v' (n + 1) (xs ++ (K.mark m).toList)) (o2 : w1.grownBy w2 (Value.slice A n c).ownBlock) (o3 : ∀ b, v'.ownBlock = some b → (Value.slice A n c).ownBlock = some b ∨ w1.heap.size ≤ b) (hone : v'.oneCell' = true)
    (hF : ∀ b, F b → F' b) (hnew : ∀ b, v'.ownBlock = some b → w1.heap.size ≤ b → F' b) :
    HL K (w2.setCell ⟨gl, i * 2, none⟩ v') B F' lv (hs.set i (v', m)) (fun j => if j = i then lim i + 1 else lim j) (fun j => if j = i then n + 1 else kf j) := by
  have hlt := (List.getElem?_eq_some_iff.1 hi).1
  have hglF : F gl := h.inF gl (by rw [hlv]; rfl)
  have hgllt := lt_of_some hcur
  have hnegl : (Value.slice A n c).ownBlock ≠ some gl := fun e => h.apart0 i _ m gl hi e (by rw [hlv]; rfl)
  have hc2 : w2.heap[gl]? = some (.cells cur K.HT (0, 0)) := (o2.block gl hgllt fun e => hnegl e.symm).trans hcur
  have hb' := o3
  have hv'gl : v'.ownBlock ≠ some gl := fun e => by
    rcases hb' gl e with e | e
    · exact hnegl e
    · omega
  have hz := heap_setCell_same w2 gl (i * 2) cur K.HT v' hc2
  have hset : ∀ b, b ≠ gl → (w2.setCell ⟨gl, i * 2, none⟩ v').heap[b]? = w2.heap[b]? := fun b hb => heap_setCell_other w2 ⟨gl, i * 2, none⟩ b v' hb
  have hgetset : ∀ j u q, (hs.set i (v', m))[j]? = some (u, q) → (j = i ∧ u = v' ∧ q = m) ∨ (j ≠ i ∧ hs[j]? = some (u, q)) := fun j u q hj => by
    by_cases e : j = i
    · subst e
      rw [List.getElem?_set_self (by simpa using hlt)] at hj
      injection hj with hj
      injection hj with e1 e2
      exact .inl ⟨rfl, e1.symm, e2.symm⟩
    · rw [List.getElem?_set_ne (fun h => e h.symm)] at hj
      exact .inr ⟨e, hj⟩
  refine ⟨?_, fun j u q hj => ?_, fun j u q hj => ?_, fun j k u q u' q' b hj hk hjk hb => ?_, fun j u q b hj hb => ?_, fun b hb => hF b (h.inF b hb), fun j u q b hj hb => ?_⟩
  · rcases h.row.2 with ⟨h1, h2⟩ | ⟨g, cap', cur', h1, h2, h3, h4, h5, h6, h7⟩
    · omega
    · rw [hlv] at h1
      injection h1 with e1 e2 e3
      obtain rfl : gl = g := by simpa using e1
      subst e3
      rw [hcur] at h3
      injection h3 with h3
      injection h3 with h3
      subst h3
      refine ⟨by rw [hrow_length], .inr ⟨gl, cap, _, by rw [hlv, List.length_set], h2, hz, by rw [List.length_set]; exact h4, h5, by simpa using h6, ?_⟩⟩
      rw [← hrow_set hs i _ v' m hi, ← h7, List.length_set]
      simp only [Array.toList_setIfInBounds]
      rw [List.take_set]
  · rcases hgetset j u q hj with ⟨rfl, rfl, rfl⟩ | ⟨e, hj⟩
    · rw [if_pos rfl, if_pos rfl]
      have ho : OwnH K w2 B u q (lim j + 1) (n + 1) := OwnH.of_row o1 hn fun k hk => by
        by_cases e : k = n
        · subst e
          rw [← hxl, List.drop_left, List.take_of_length_le (by rw [Array.length_toList, K.mks]; exact Nat.le_refl _)]
        · have hk2 : (k + 1) * K.sz ≤ n * K.sz := Nat.mul_le_mul_right _ (by omega)
          rw [Nat.add_mul, Nat.one_mul] at hk2
          rw [List.drop_append_of_le_length (by omega), List.take_append_of_le_length (by rw [List.length_drop]; omega)]
          exact hx k (by omega)
      exact ho.keep fun b hb => hset b fun e => hv'gl (by rw [← e]; exact hb)
    · rw [if_neg e, if_neg e]
      refine (h.held j u q hj).keep fun b hb => ?_
      have hlt2 := ((h.held j u q hj).lt hb).1
      rw [hset b fun e2 => h.apart0 j u q gl hj (by rw [← e2]; exact hb) (by rw [hlv]; rfl)]
      exact o2.block b hlt2 fun e2 => h.apart i j _ m u q b hi hj (fun e3 => e e3.symm) e2.symm hb
  · rcases hgetset j u q hj with ⟨rfl, rfl, rfl⟩ | ⟨e, hj⟩
    · exact h.rng j _ q hi
    · exact h.rng j u q hj
  · rcases hgetset j u q hj with ⟨rfl, rfl, rfl⟩ | ⟨e, hj1⟩ <;> rcases hgetset k u' q' hk with ⟨rfl, rfl, rfl⟩ | ⟨e2, hk1⟩
    · exact absurd rfl hjk
    · intro hb2
      rcases hb' b hb with h1 | h1
      · exact h.apart j k _ q u' q' b hi hk1 hjk h1 hb2
      · have := ((h.held k u' q' hk1).lt hb2).1; omega
    · intro hb2
      rcases hb' b hb2 with h1 | h1
      · exact h.apart j k u q _ q' b hj1 hi hjk hb h1
      · have := ((h.held j u q hj1).lt hb).1; omega
    · exact h.apart j k u q u' q' b hj1 hk1 hjk hb
  · rcases hgetset j u q hj with ⟨rfl, rfl, rfl⟩ | ⟨e, hj⟩
    · intro e
      rcases hb' b hb with h1 | h1
      · exact h.apart0 j _ q b hi h1 e
      · have := (row_lt h.row e).1; omega
    · exact h.apart0 j u q b hj hb
  · rcases hgetset j u q hj with ⟨rfl, rfl, rfl⟩ | ⟨e, hj⟩
    · rcases hb' b hb with h1 | h1
      · exact hF b (h.inF' j _ q b hi h1)
      · exact hnew b hb h1
    · exact hF b (h.inF' j u q b hj hb)
end
section
variable {K : KD} {w w' : World} {B : Nat} {F : Nat → Prop} {lv : Value} {hs : List (Value × Int)} {lim kf : Nat → Nat}
/-- All of it is marks. -/
theorem HL.fin (h : HL K w B F lv hs lim kf) {i n c : Nat} {A : Option Addr} {m : Int} (hi : hs[i]? = some (.slice A n c, m)) (hn : n ≤ kf i) {kf' : Nat → Nat} (hk : ∀ j, j ≠ i → kf' j = kf j) : HL K w B F lv hs lim kf' := by
  refine ⟨h.row, fun j v m' hj => ?_, h.rng, h.apart, h.apart0, h.inF, h.inF'⟩
  by_cases e : j = i
  · subst e
    rw [hi] at hj
    injection hj with hj
    injection hj with e1 e2
    subst e1 e2
    rcases h.held j _ m hi with h1 | ⟨g', o', n', cap', cur0, e1, h3, h4, h5⟩
    · exact .inl h1
    · injection e1 with e1 e2 e3
      subst e1 e2 e3
      exact .inr ⟨g', o', n, c, cur0, rfl, h3, h4, h5.mono (by omega)⟩
  · rw [hk j e]
    exact h.held j v m' hj
theorem HL.less (h : HL K w B F lv hs lim kf) {kf' : Nat → Nat} (hk : ∀ j, j < hs.length → kf' j ≤ kf j) : HL K w B F lv hs lim kf' :=
  ⟨h.row, fun j v m hj => (h.held j v m hj).mono (Nat.le_refl _) (hk j (List.getElem?_eq_some_iff.1 hj).1), h.rng, h.apart, h.apart0, h.inF, h.inF'⟩
theorem HL.lims (h : HL K w B F lv hs lim kf) {lim' : Nat → Nat} (hk : ∀ j, j < hs.length → lim j ≤ lim' j) : HL K w B F lv hs lim' kf :=
  ⟨h.row, fun j v m hj => (h.held j v m hj).mono (hk j (List.getElem?_eq_some_iff.1 hj).1) (Nat.le_refl _), h.rng, h.apart, h.apart0, h.inF, h.inF'⟩
/-- A held slice with an element: its block. -/
theorem HL.elem (h : HL K w B F lv hs lim kf) {i n c : Nat} {A : Option Addr} {m : Int} (hi : hs[i]? = some (.slice A n c, m)) (hn : 0 < n) : ∃ g o cur, A = some ⟨g, o, none⟩ ∧ w.heap[g]? = some (.cells cur K.ET (0, 0)) ∧ o + n * K.sz ≤ cur.size ∧ F g ∧ lv.ownBlock ≠ some g ∧ n ≤ lim i ∧ Full K m (min (kf i) n) o cur := by
  rcases h.held i _ m hi with h1 | ⟨g, o, n', cap', cur, e1, h3, h4, h5⟩
  · injection h1 with _ e _; omega
  · injection e1 with e1 e2 e3
    subst e1 e2 e3
    exact ⟨g, o, cur, rfl, h3.blk, h3.fit, h.inF' i _ m g hi rfl, fun e => h.apart0 i _ m g hi rfl e, h4, h5⟩
theorem HL.sl (h : HL K w B F lv hs lim kf) {i : Nat} {v : Value} {m : Int} (hi : hs[i]? = some (v, m)) : ∃ A n c, v = .slice A n c ∧ n ≤ lim i := by
  rcases h.held i v m hi with h1 | ⟨g, o, n', cap', cur, e1, h3, h4, h5⟩
  · exact ⟨_, _, _, h1, Nat.zero_le _⟩
  · exact ⟨_, _, _, e1, h4⟩
end
/-- What keep leaves: off: the field's place, BT: the book's type. -/
structure KeepP (K : KD) (w : World) (B : Nat) (F : Nat → Prop) (bb : Nat) (bc : Array Value) (off : Nat) (BT : TypeId) (v : Value) (m : Int) (hs : List (Value × Int)) (lim kf : Nat → Nat) (w' : World) : Prop where
  out : ∃ lv', HL K w' B (fun b => F b ∨ v.ownBlock = some b ∨ (w.heap.size ≤ b ∧ b < w'.heap.size)) lv' (hs ++ [(v, m)]) lim kf ∧ w'.heap[bb]? = some (.cells ((bc.setIfInBounds off lv').setIfInBounds 0 (.int .i64 (wrap64 (m + 1)))) BT (0, 0))
  chg : Chg (fun b => F b ∨ b = bb) w w'
end Go.Proofs.YtnahhclflnjmcaaGreatDoor.Bk

/- Laws that no program of its own is named in. -/
namespace Go.Proofs.YtnahhclflnjmcaaGreatDoor.Bk
open Go Go.RowKit
set_option linter.unusedVariables false
set_option linter.unusedSimpArgs false

section
variable {P : Program}
theorem run_loadVar_part (w : World) (g off n : Nat) (t ty : TypeId) (cs : Array Value) (fr : Nat × Nat) (d : TypeDesc) (hg : w.heap[g]? = some (.cells cs t fr))
    (hu : P.underlying ty = some d) (hd : (match d with | .struct _ | .array _ _ => true | _ => false) = true) (hi : (P.info? ty).map (·.size) = some n) (hf : off + n ≤ cs.size) :
    (loadVar ty ⟨g, off, none⟩).run P w = .ok (.agg (cs.extract off (off + n))) w := by
  have hll : ((cs.extract off (off + n)).toList).length = n := by simp; omega
  have hl : (loadCells ⟨g, off, none⟩ (cs.extract off (off + n)).toList.length).run P w = .ok (cs.extract off (off + n)).toList.toArray w :=
    run_loadCells_list (P := P) w ⟨g, off, none⟩ (cs.extract off (off + n)).toList (fun j v hv => by
      have hadd : (⟨g, off, none⟩ : Addr).add j = ⟨g, off + j, none⟩ := by cases j <;> simp [Addr.add]
      rw [hadd, cell_of_row w g _ cs t fr hg]
      have hj := (List.getElem?_eq_some_iff.1 hv).1
      rw [hll] at hj
      rw [Array.getElem?_toList, Array.getElem?_extract] at hv
      split at hv
      · exact hv
      · cases hv)
  cases hq : P.info? ty with
  | none => simp [hq] at hi
  | some i =>
    have hs : i.size = n := by simpa [hq] using hi
    have hagg : (isAgg ty).run P w = .ok true w := by
      unfold isAgg
      rw [Sem.run_bind, run_underlying hu w]
      cases d <;> simp_all
    rw [hll] at hl
    simp only [Array.toArray_toList] at hl
    simp [loadVar, Sem.run_bind, hagg, sizeOf, typeInfo, hq, hs, hl]
theorem wp_load_part {o : Oper} {a : Act} {w : World} {K : Act → World → Prop} {Q : Exit → Act → World → Prop} (ty : TypeId) (x : Operand) (ho : o.op = .load ty x)
    (g off n : Nat) (hx : a.eval x = .pointer (some ⟨g, off, none⟩)) (t : TypeId) (cs : Array Value) (fr : Nat × Nat) (d : TypeDesc) (hg : w.heap[g]? = some (.cells cs t fr))
    (hu : P.underlying ty = some d) (hd : (match d with | .struct _ | .array _ _ => true | _ => false) = true) (hi : (P.info? ty).map (·.size) = some n) (hf : off + n ≤ cs.size)
    (h : K (a.put o.dst (.agg (cs.extract off (off + n)))) w) : o.wp P a w K Q := by
  unfold Oper.wp execOp
  simp only [ho, hx, Instr.loadAt, Instr.sureAddr, Sem.run_bind, Sem.run_pure, Result.andThen_ok, run_loadVar_part w g off n t ty cs fr d hg hu hd hi hf]
  exact h
theorem wpList_load_part {ops : Array Oper} {rest : List Oper} {o : Oper} {a : Act} {w : World} {Q : Exit → Act → World → Prop} (hgd : o.guard = none) (ty : TypeId) (x : Operand) (ho : o.op = .load ty x)
    (g off n : Nat) (hx : a.eval x = .pointer (some ⟨g, off, none⟩)) (t : TypeId) (cs : Array Value) (fr : Nat × Nat) (d : TypeDesc) (hg : w.heap[g]? = some (.cells cs t fr))
    (hu : P.underlying ty = some d) (hd : (match d with | .struct _ | .array _ _ => true | _ => false) = true) (hi : (P.info? ty).map (·.size) = some n) (hf : off + n ≤ cs.size)
    (h : wpList P ops Q rest (a.put o.dst (.agg (cs.extract off (off + n)))) w) : wpList P ops Q (o :: rest) a w :=
  wpList_plain hgd fun _ hK => wp_load_part ty x ho g off n hx t cs fr d hg hu hd hi hf (hK _ _ h)
/-- A row with a part of it anew. -/
def over (cs : Array Value) (off : Nat) (vs : Array Value) : Array Value := (cs.toList.take off ++ vs.toList ++ cs.toList.drop (off + vs.size)).toArray
theorem size_over {cs vs : Array Value} {off : Nat} (h : off + vs.size ≤ cs.size) : (over cs off vs).size = cs.size := by unfold over; simp; omega
theorem run_storeVar_part (w : World) (g off n : Nat) (t ty : TypeId) (cs vs : Array Value) (hg : w.heap[g]? = some (.cells cs t (0, 0)))
    (hi : (P.info? ty).map (·.size) = some n) (hn : vs.size = n) (hf : off + n ≤ cs.size) (h1 : ∀ v ∈ vs.toList, v.oneCell' = true) :
    (storeVar ty ⟨g, off, none⟩ (.agg vs)).run P w = .ok () (w.setRow g (over cs off vs)) := by
  have hst := run_storeCells_at P g off t vs.toList 0 cs w hg (by simp; omega) h1
  cases hq : P.info? ty with
  | none => simp [hq] at hi
  | some i =>
    have hs : i.size = n := by simpa [hq] using hi
    simp only [Nat.add_zero, Array.length_toList] at hst
    unfold over
    simp [storeVar, Sem.run_bind, sizeOf, typeInfo, hq, hs, hn, Value.cells, hst]
theorem wp_store_part {o : Oper} {a : Act} {w : World} {K : Act → World → Prop} {Q : Exit → Act → World → Prop} (ty : TypeId) (x y : Operand) (ho : o.op = .store ty x y) (hd : o.dst = none)
    (g off n : Nat) (hx : a.eval x = .pointer (some ⟨g, off, none⟩)) (t : TypeId) (cs vs : Array Value) (hy : a.eval y = .agg vs) (hg : w.heap[g]? = some (.cells cs t (0, 0)))
    (hi : (P.info? ty).map (·.size) = some n) (hn : vs.size = n) (hf : off + n ≤ cs.size) (h1 : ∀ v ∈ vs.toList, v.oneCell' = true)
    (h : K (a.put o.dst undef) (w.setRow g (over cs off vs))) : o.wp P a w K Q := by
  unfold Oper.wp execOp
  simp only [ho, hx, hy, Instr.storeAt, Instr.sureAddr, Sem.run_bind, Sem.run_pure, Result.andThen_ok, run_storeVar_part w g off n t ty cs vs hg hi hn hf h1]
  exact h
theorem wpList_store_part {ops : Array Oper} {rest : List Oper} {o : Oper} {a : Act} {w : World} {Q : Exit → Act → World → Prop} (hgd : o.guard = none) (ty : TypeId) (x y : Operand) (ho : o.op = .store ty x y) (hd : o.dst = none)
    (g off n : Nat) (hx : a.eval x = .pointer (some ⟨g, off, none⟩)) (t : TypeId) (cs vs : Array Value) (hy : a.eval y = .agg vs) (hg : w.heap[g]? = some (.cells cs t (0, 0)))
    (hi : (P.info? ty).map (·.size) = some n) (hn : vs.size = n) (hf : off + n ≤ cs.size) (h1 : ∀ v ∈ vs.toList, v.oneCell' = true)
    (h : wpList P ops Q rest (a.put o.dst undef) (w.setRow g (over cs off vs))) : wpList P ops Q (o :: rest) a w :=
  wpList_plain hgd fun _ hK => wp_store_part ty x y ho hd g off n hx t cs vs hy hg hi hn hf h1 (hK _ _ h)
theorem over_full {cs vs : Array Value} (h : cs.size = vs.size) : over cs 0 vs = vs := by
  unfold over
  apply Array.ext'
  simp [h]
theorem setRow_same {w : World} {g : Nat} {cs vs : Array Value} {t : TypeId} {fr : Nat × Nat} (hg : w.heap[g]? = some (.cells cs t fr)) : (w.setRow g vs).heap[g]? = some (.cells vs t fr) := setRow_heap w g cs vs t fr hg
theorem setRow_ne {w : World} {g k : Nat} {vs : Array Value} (h : k ≠ g) : (w.setRow g vs).heap[k]? = w.heap[k]? := setRow_other w g k vs h
theorem below_setRow {B : Nat} {w0 w : World} {g : Nat} {vs : Array Value} (h : Below B w0 w) (hg : B ≤ g) : Below B w0 (w.setRow g vs) :=
  ⟨h.os, h.tape, h.output, by simp; exact h.size, fun k hk => (setRow_ne (by omega)).trans (h.block k hk)⟩
end
theorem add_off (b o k : Nat) : (⟨b, o, none⟩ : Addr).add k = ⟨b, o + k, none⟩ := by
  cases k with
  | zero => simp [Addr.add]
  | succ k => simp [Addr.add]
theorem wrapi (n : Int) (h : -9223372036854775808 ≤ n ∧ n ≤ 9223372036854775807) : IntKind.i64.wrap n = n := by rw [IntKind.wrap_i64]; omega
section
variable {P : Program}
theorem wpList_load_part' {ops : Array Oper} {rest : List Oper} {o : Oper} {a : Act} {w : World} {Q : Exit → Act → World → Prop} (hgd : o.guard = none) (ty : TypeId) (x : Operand) (ho : o.op = .load ty x)
    (g off n : Nat) (hx : a.eval x = .pointer (some ⟨g, off, none⟩)) (t : TypeId) (cs : Array Value) (fr : Nat × Nat) (d : TypeDesc) (hg : w.heap[g]? = some (.cells cs t fr))
    (hu : P.underlying ty = some d) (hd : (match d with | .struct _ | .array _ _ => true | _ => false) = true) (hi : (P.info? ty).map (·.size) = some n) (hf : off + n ≤ cs.size)
    (m : Array Value) (hp : cs.extract off (off + n) = m)
    (h : wpList P ops Q rest (a.put o.dst (.agg m)) w) : wpList P ops Q (o :: rest) a w := by
  subst hp
  exact wpList_load_part hgd ty x ho g off n hx t cs fr d hg hu hd hi hf h
end
theorem fold_size (l : List Value) : ∀ (k : Nat) (cells : Array Value), ((l.zipIdx k).foldl (fun cs (x : Value × Nat) => cs.setIfInBounds (0 + x.2) x.1) cells).size = cells.size := by
  induction l with
  | nil => intro k cells; rfl
  | cons a l ih => intro k cells; simp only [List.zipIdx_cons, List.foldl_cons]; rw [ih]; simp
theorem fold_get (l : List Value) : ∀ (k : Nat) (cells : Array Value) (i : Nat), i < cells.size →
    ((l.zipIdx k).foldl (fun cs (x : Value × Nat) => cs.setIfInBounds (0 + x.2) x.1) cells)[i]? = if k ≤ i ∧ i < k + l.length then l[i - k]? else cells[i]? := by
  induction l with
  | nil => intro k cells i hi; simp; omega
  | cons a l ih =>
    intro k cells i hi
    simp only [List.zipIdx_cons, List.foldl_cons]
    rw [ih (k + 1) _ i (by simpa using hi)]
    by_cases h1 : k + 1 ≤ i ∧ i < k + 1 + l.length
    · rw [if_pos h1, if_pos ⟨by omega, by simp; omega⟩]
      obtain ⟨j, rfl⟩ : ∃ j, i = k + 1 + j := ⟨i - (k + 1), by omega⟩
      rw [show k + 1 + j - (k + 1) = j by omega, show k + 1 + j - k = j + 1 by omega]
      rfl
    · rw [if_neg h1]
      by_cases h2 : i = k
      · subst h2
        rw [if_pos ⟨Nat.le_refl _, by simp⟩]
        simp [hi]
      · rw [if_neg (by simp; omega)]
        rw [Array.getElem?_setIfInBounds_ne (by omega)]
theorem fold_all (c cells : Array Value) (h : c.size = cells.size) : (c.zipIdx.foldl (fun cs (x : Value × Nat) => cs.setIfInBounds (0 + x.2) x.1) cells) = c := by
  obtain ⟨l⟩ := c
  have e : (Array.mk l).zipIdx.foldl (fun cs (x : Value × Nat) => cs.setIfInBounds (0 + x.2) x.1) cells = (l.zipIdx 0).foldl (fun cs (x : Value × Nat) => cs.setIfInBounds (0 + x.2) x.1) cells := by simp
  rw [e]
  apply Array.ext_getElem?
  intro i
  by_cases hi : i < cells.size
  · rw [fold_get l 0 cells i hi, if_pos ⟨Nat.zero_le _, by simp at h; omega⟩]
    simp
  · rw [Array.getElem?_eq_none (by rw [fold_size]; omega), Array.getElem?_eq_none (by rw [h]; omega)]
theorem run_buildSlice_one {P : Program} (w : World) (t e : TypeId) (n : Nat) (z : Value) (i0 : TypeInfo) (hu : P.underlying t = some (.slice e)) (hi : P.info? e = some i0) (hz : i0.zero = some z) (hsz : i0.size = n) (hzs : z.cells.size = n) (c : Array Value) (hc : c.size = n) (hn : 0 < n) (hn2 : n ≤ 16777216) :
    (Instr.buildSlice t 1 #[(0, .agg c)]).run P w = .ok (.slice (some ⟨w.heap.size, 0, none⟩) 1 1) (w.alloc (.cells c e)) := by
  have h1 : (sizeOf e).run P w = .ok n w := by simp [sizeOf, typeInfo, hi, hsz, Sem.run_bind]
  have h2 : (zeroValue e).run P w = .ok z w := by simp [zeroValue, typeInfo, hi, hz, Sem.run_bind]
  have h3 : Instr.fill (fun i => some (i * n, n)) ((Array.range (1 * n)).map (z.cells[· % z.cells.size]!)) [(0, .agg c)] = some c := by
    simp only [Instr.fill, Value.cells, Nat.zero_mul]
    rw [if_neg (by simp [hc])]
    exact congrArg some (fold_all c _ (by simp [hc]))
  unfold Instr.buildSlice
  rw [Sem.run_bind, run_underlying hu w]
  simp only [Result.andThen_ok]
  rw [Sem.run_bind, h1]
  simp only [Result.andThen_ok]
  rw [if_neg (by omega)]
  have hne : ¬ (1 * n = 0) := by omega
  rw [if_neg hne]
  simp only [Sem.run_bind, h2, Result.andThen_ok, Sem.run_pure]
  rw [h3]
  simp [Sem.run_bind, newRow, newObj]
  rfl
section
variable {P : Program}
/-- In a region that draws: a row of one large element. -/
theorem step_buildSlice_one {ops : Array Oper} {o : Oper} {a : Act} {w : World} {K : Act → World → Prop} {Q : Exit → Act → World → Prop} {E : Prop} (hgd : o.guard = none) (t e : TypeId) (x : Operand) (ho : o.op = .buildSlice t 1 #[(0, x)])
    (n : Nat) (z : Value) (i0 : TypeInfo) (hu : P.underlying t = some (.slice e)) (hi : P.info? e = some i0) (hz : i0.zero = some z) (hsz : i0.size = n) (hzs : z.cells.size = n) (c : Array Value) (hx : a.eval x = .agg c) (hc : c.size = n) (hn : 0 < n) (hn2 : n ≤ 16777216)
    (h : K (a.put o.dst (.slice (some ⟨w.heap.size, 0, none⟩) 1 1)) (w.alloc (.cells c e))) : if Region.wanted o (yielded ops a.tmps) = true then Oper.wp P o a w K Q else E := by
  have hw : Region.wanted o (yielded ops a.tmps) = true := by simp [Region.wanted, hgd]
  rw [if_pos hw]
  unfold Oper.wp execOp
  simp only [ho, List.map_toArray, List.map_cons, List.map_nil, hx, Sem.run_bind, run_buildSlice_one w t e n z i0 hu hi hz hsz hzs c hc hn hn2, Result.andThen_ok, Sem.run_pure]
  exact h
end
section
variable {P : Program}
theorem wpList_buildSlice_one {ops : Array Oper} {rest : List Oper} {o : Oper} {a : Act} {w : World} {Q : Exit → Act → World → Prop} (hgd : o.guard = none) (t e : TypeId) (x : Operand) (ho : o.op = .buildSlice t 1 #[(0, x)])
    (n : Nat) (z : Value) (i0 : TypeInfo) (hu : P.underlying t = some (.slice e)) (hi : P.info? e = some i0) (hz : i0.zero = some z) (hsz : i0.size = n) (hzs : z.cells.size = n) (c : Array Value) (hx : a.eval x = .agg c) (hc : c.size = n) (hn : 0 < n) (hn2 : n ≤ 16777216)
    (h : wpList P ops Q rest (a.put o.dst (.slice (some ⟨w.heap.size, 0, none⟩) 1 1)) (w.alloc (.cells c e))) : wpList P ops Q (o :: rest) a w :=
  wpList_plain hgd fun K hK => by
    unfold Oper.wp execOp
    simp only [ho, List.map_toArray, List.map_cons, List.map_nil, hx, Sem.run_bind, run_buildSlice_one w t e n z i0 hu hi hz hsz hzs c hc hn hn2, Result.andThen_ok, Sem.run_pure]
    exact hK _ _ h
end
section
variable {P : Program}
theorem step_store_part {ops : Array Oper} {o : Oper} {a : Act} {w : World} {K : Act → World → Prop} {Q : Exit → Act → World → Prop} {E : Prop} (hgd : o.guard = none) (ty : TypeId) (x y : Operand) (ho : o.op = .store ty x y) (hd : o.dst = none)
    (g off n : Nat) (hx : a.eval x = .pointer (some ⟨g, off, none⟩)) (t : TypeId) (cs vs : Array Value) (hy : a.eval y = .agg vs) (hg : w.heap[g]? = some (.cells cs t (0, 0)))
    (hi : (P.info? ty).map (·.size) = some n) (hn : vs.size = n) (hf : off + n ≤ cs.size) (h1 : ∀ v ∈ vs.toList, v.oneCell' = true)
    (h : K (a.put o.dst undef) (w.setRow g (over cs off vs))) : if Region.wanted o (yielded ops a.tmps) = true then Oper.wp P o a w K Q else E := by
  have hw : Region.wanted o (yielded ops a.tmps) = true := by simp [Region.wanted, hgd]
  rw [if_pos hw]
  exact wp_store_part ty x y ho hd g off n hx t cs vs hy hg hi hn hf h1 h
end
section
variable {P : Program}
/-- append onto a slice of the call's own, at a step of a region that draws. -/
theorem step_append_own_at {ops : Array Oper} {o : Oper} {a : Act} {w : World} {K : Act → World → Prop} {Q : Exit → Act → World → Prop} {E : Prop} (hw : Region.wanted o (yielded ops a.tmps) = true) (s x : Operand) (t : TypeId)
    (ho : o.op = .call { callee := .builtin .append, args := #[s, x], argTypes := #[t, t] })
    (base : Nat) (e : TypeId) (i : TypeInfo) (z : Value) (size bytes : Nat) (ht : P.underlying t = some (.slice e)) (hi : P.info? e = some i) (hz : i.zero = some z)
    (hsize : i.size = size) (hby : i.bytes = bytes) (hzs : z.cells.size = size) (hsz : 0 < size)
    (v : Value) (n : Nat) (xs : List Value) (hs : a.eval s = v) (hown : w.ownsRow base e size v n xs)
    (ad : Addr) (m c : Nat) (news : List Value) (hx : a.eval x = .slice (some ad) m c) (hl : news.length = m * size) (hnews : ∀ j u, news[j]? = some u → w.cell? (ad.add j) = some u) (h1 : ∀ u ∈ news, u.oneCell' = true)
    (h63 : n + m ≤ maxLen) (hbytes : (n + m) * bytes ≤ 140737488355328) (hbase : base ≤ w.heap.size)
    (h : ∀ v' w', w'.ownsRow base e size v' (n + m) (xs ++ news) → w.grownBy w' v.ownBlock → (v'.ownBlock = v.ownBlock ∨ v'.ownBlock = some w.heap.size) → K (a.put o.dst v') w') :
    if Region.wanted o (yielded ops a.tmps) = true then Oper.wp P o a w K Q else E := by
  rw [if_pos hw]
  obtain ⟨v', w', hr, h2, h3, h4, h5⟩ := run_append_own_at (P := P) w base t o.type e i z size bytes ht hi hz hsize hby hzs hsz v n xs hown ad m c news hl hnews h1 h63 hbytes hbase
  unfold Oper.wp execOp
  simp only [ho, resolve, invoke, builtin, Sem.run_bind, Sem.run_pure, Result.andThen_ok, List.map_toArray, List.map_cons, List.map_nil, hs, hx, hr]
  exact h v' w' h2 h3 h5
end
section
variable {P : Program}
/-- The same where the operation has a guard that holds. -/
theorem wpList_load_partg {ops : Array Oper} {rest : List Oper} {o : Oper} {a : Act} {w : World} {Q : Exit → Act → World → Prop} (hgd : Region.wanted o (yielded ops a.tmps) = true) (ty : TypeId) (x : Operand) (ho : o.op = .load ty x)
    (g off n : Nat) (hx : a.eval x = .pointer (some ⟨g, off, none⟩)) (t : TypeId) (cs : Array Value) (fr : Nat × Nat) (d : TypeDesc) (hg : w.heap[g]? = some (.cells cs t fr))
    (hu : P.underlying ty = some d) (hd : (match d with | .struct _ | .array _ _ => true | _ => false) = true) (hi : (P.info? ty).map (·.size) = some n) (hf : off + n ≤ cs.size)
    (m : Array Value) (hp : cs.extract off (off + n) = m)
    (h : wpList P ops Q rest (a.put o.dst (.agg m)) w) : wpList P ops Q (o :: rest) a w := by
  subst hp
  refine wpList_step fun K hK => ?_
  rw [if_pos hgd]
  exact wp_load_part ty x ho g off n hx t cs fr d hg hu hd hi hf (hK _ _ h)
end
theorem over_get {cs vs : Array Value} {off j : Nat} (h : off + vs.size ≤ cs.size) : (over cs off vs)[j]? = if j < off then cs[j]? else if j < off + vs.size then vs[j - off]? else cs[j]? := by
  unfold over
  rw [← Array.getElem?_toList]
  show (List.take off cs.toList ++ vs.toList ++ List.drop (off + vs.size) cs.toList)[j]? = _
  by_cases h1 : j < off
  · rw [if_pos h1, List.append_assoc, List.getElem?_append_left (by simp; omega), List.getElem?_take_of_lt h1, Array.getElem?_toList]
  · rw [if_neg h1]
    have hl : (List.take off cs.toList).length = off := by simp; omega
    rw [List.append_assoc, List.getElem?_append_right (by omega), hl]
    by_cases h2 : j < off + vs.size
    · rw [if_pos h2, List.getElem?_append_left (by simp; omega), Array.getElem?_toList]
    · rw [if_neg h2, List.getElem?_append_right (by simp; omega), List.getElem?_drop, Array.length_toList, Array.getElem?_toList]
      congr 1; omega
theorem over_extract_same {cs vs : Array Value} {off : Nat} (h : off + vs.size ≤ cs.size) : (over cs off vs).extract off (off + vs.size) = vs := by
  apply Array.ext_getElem?
  intro j
  rw [Array.getElem?_extract, over_get h, size_over h]
  by_cases hj : j < vs.size
  · rw [if_pos (by omega), if_neg (by omega), if_pos (by omega)]; congr 1; omega
  · rw [if_neg (by omega), Array.getElem?_eq_none (by omega)]
theorem over_extract_lt {cs vs : Array Value} {off a b : Nat} (h : off + vs.size ≤ cs.size) (hb : b ≤ off) : (over cs off vs).extract a b = cs.extract a b := by
  apply Array.ext_getElem?
  intro j
  rw [Array.getElem?_extract, Array.getElem?_extract, over_get h, size_over h]
  by_cases hj : j < min b cs.size - a
  · rw [if_pos hj, if_pos hj, if_pos (by omega)]
  · rw [if_neg hj, if_neg hj]
theorem mul_step {j i sz : Nat} (h : j < i) : j * sz + sz ≤ i * sz := by
  have : (j + 1) * sz ≤ i * sz := Nat.mul_le_mul_right _ h
  rwa [Nat.add_mul, Nat.one_mul] at this
theorem own_below {B E sz n : Nat} {w w' : World} {v : Value} {xs : List Value} (h : w.ownsRow B E sz v n xs) (hb : Below w.heap.size w w') : w'.ownsRow B E sz v n xs := by
  rcases h.2 with h1 | ⟨g, cap, cur, h1, h2, h3, h4⟩
  · exact ⟨h.1, .inl h1⟩
  · exact ⟨h.1, .inr ⟨g, cap, cur, h1, h2, (hb.block g (lt_of_some h3)).trans h3, h4⟩⟩
section
variable {P : Program}
/-- append onto a held slice, at a step of a region that draws. -/
theorem step_append_held {ops : Array Oper} {o : Oper} {a : Act} {w : World} {K : Act → World → Prop} {Q : Exit → Act → World → Prop} {E : Prop} (hgd : o.guard = none) (s x : Operand) (t : TypeId)
    (ho : o.op = .call { callee := .builtin .append, args := #[s, x], argTypes := #[t, t] })
    (base : Nat) (e : TypeId) (i : TypeInfo) (z : Value) (size bytes : Nat) (ht : P.underlying t = some (.slice e)) (hi : P.info? e = some i) (hz : i.zero = some z)
    (hsize : i.size = size) (hby : i.bytes = bytes) (hzs : z.cells.size = size) (hsz : 0 < size)
    (v : Value) (n : Nat) (xs : List Value) (hs : a.eval s = v) (hown : HeldRow w base e size v n xs)
    (ad : Addr) (m c : Nat) (news : List Value) (hx : a.eval x = .slice (some ad) m c) (hl : news.length = m * size) (hnews : ∀ j u, news[j]? = some u → w.cell? (ad.add j) = some u) (h1 : ∀ u ∈ news, u.oneCell' = true)
    (hm : 0 < m) (h63 : n + m ≤ maxLen) (hbytes : (n + m) * bytes ≤ 140737488355328) (hbase : base ≤ w.heap.size)
    (h : ∀ g cap w', w'.ownsRow base e size (.slice (some ⟨g, 0, none⟩) (n + m) cap) (n + m) (xs ++ news) → w.grownBy w' v.ownBlock → (v.ownBlock = some g ∨ w.heap.size ≤ g) → g < w'.heap.size → K (a.put o.dst (.slice (some ⟨g, 0, none⟩) (n + m) cap)) w') :
    if Region.wanted o (yielded ops a.tmps) = true then Oper.wp P o a w K Q else E := by
  rcases hown with hown | ⟨g0, o0, cur, rfl, k1, k2, k3, k4⟩
  · exact step_append_lies w hgd s x t ho base e i z size bytes ht hi hz hsize hby hzs hsz v n xs hs hown ad m c news hx hl hnews h1 hm h63 hbytes hbase w.heap.size rfl fun g cap w' o1 o2 o3 o4 => h g cap w' o1 o2 (o3.imp id fun e => Nat.le_of_eq e.symm) o4
  · have hw : Region.wanted o (yielded ops a.tmps) = true := by simp [Region.wanted, hgd]
    rw [if_pos hw]
    have hlo : xs.length = n * size := by rw [k4]; simp; omega
    obtain ⟨v', w', hrun, r1, r2⟩ := run_append_arg_grows (P := P) w t o.type e i z size bytes ht hi hz hsize hby hzs hsz ⟨g0, o0, none⟩ n n xs hlo (fun j u hj => by
      have hlt := (List.getElem?_eq_some_iff.1 hj).1
      rw [add_off, cell_of_row w g0 _ _ _ _ k2]
      rw [k4, List.getElem?_take_of_lt (by omega), List.getElem?_drop, Array.getElem?_toList] at hj
      exact hj) ad m c news hl hnews (by omega) h63 hbytes
    rcases r1.2 with ⟨_, h0⟩ | ⟨g, cap, cur', e1, e2, e3, e4⟩
    · omega
    · subst e1
      have hK := h g cap w' ⟨r1.1, .inr ⟨g, cap, cur', rfl, Nat.le_trans hbase e2, e3, e4⟩⟩ ⟨r2.os, r2.tape, r2.output, r2.size, fun k hk _ => r2.block k hk (by simp)⟩ (.inr e2) (lt_of_some e3)
      unfold Oper.wp
      simp [execOp, ho, resolve, invoke, builtin, hs, hx, hrun, Result.andThen]
      exact hK
end
end Go.Proofs.YtnahhclflnjmcaaGreatDoor.Bk

/- The book with lists of several kinds: KS: which fields hold lists, of which kind. -/
namespace Go.Proofs.YtnahhclflnjmcaaGreatDoor.Bk
open Go Go.RowKit
set_option linter.unusedVariables false
set_option linter.unusedSimpArgs false

/-- How many elements a list has at most, how many are marks: of each kind. -/
def up (f : Nat → Nat) (j x : Nat) : Nat → Nat := fun i => if i = j then x else f i
theorem up_same (f : Nat → Nat) (j x : Nat) : up f j x j = x := if_pos rfl
theorem up_other (f : Nat → Nat) (j x i : Nat) (h : i ≠ j) : up f j x i = f i := if_neg h
/-- A book: what it holds, kind by kind; FP: the blocks that it has, but for its own; all others are from the world w0. -/
structure StM (KS : Nat → Option KD) (BT : TypeId) (w0 w : World) (B bb : Nat) (L kf : Nat → Nat) (N : Nat) (FP : Nat → Prop) : Prop where
  out : ∃ (bc : Array Value) (m : Int) (lv : Nat → Value) (hs : Nat → List (Value × Int)) (F : Nat → Nat → Prop), w.heap[bb]? = some (.cells bc BT (0, 0)) ∧ bc[0]? = some (.int .i64 m) ∧ (-9223372036854775808 ≤ m ∧ m ≤ 9223372036854775807) ∧ bc.size = 35 ∧
    (∀ j, 1 ≤ j → j < 35 → bc[j]? = some (lv j)) ∧ (∀ j, KS j = none → lv j = .slice none 0 0) ∧
    (∀ j K, KS j = some K → HL K w B (F j) (lv j) (hs j) (fun _ => L j) (fun _ => kf j)) ∧
    (∀ i j b, i ≠ j → F i b → ¬ F j b) ∧ (∀ j, ¬ F j bb) ∧ (∀ j b, F j b → b < w.heap.size ∧ B ≤ b) ∧ (∀ j b, F j b → FP b) ∧ (∀ j, (hs j).length ≤ N)
  hB : B ≤ bb
  lo : B ≤ w0.heap.size
  below : Below B w0 w
section
variable {KS : Nat → Option KD} {BT : TypeId} {w0 w w' : World} {B bb N : Nat} {L kf : Nat → Nat} {FP : Nat → Prop}
theorem StM.bbl (h : StM KS BT w0 w B bb L kf N FP) : bb < w.heap.size := by
  obtain ⟨bc, m, lv, hs, F, k1, _⟩ := h.out
  exact lt_of_some k1
theorem StM.nil (h : StM KS BT w0 w B bb L kf N FP) (j : Nat) (h1 : 1 ≤ j) (h2 : j < 35) (h3 : KS j = none) : w.cell? ⟨bb, j, none⟩ = some (.slice none 0 0) := by
  obtain ⟨bc, m, lv, hs, F, k1, k2, k3, k4, k5, k6, _⟩ := h.out
  exact (cell_of_row w bb _ _ _ _ k1).trans ((k5 j h1 h2).trans (by rw [k6 j h3]))
theorem StM.keep (h : StM KS BT w0 w B bb L kf N FP) (hb : Below w.heap.size w w') : StM KS BT w0 w' B bb L kf N FP := by
  obtain ⟨bc, m, lv, hs, F, k1, k2, k3, k4, k5, k6, k7, k8, k9, k10, k11, k12⟩ := h.out
  exact ⟨⟨bc, m, lv, hs, F, (hb.block _ (lt_of_some k1)).trans k1, k2, k3, k4, k5, k6, fun j K hj => (k7 j K hj).keep (X := fun _ => False) (Chg.of_below hb) (fun _ _ h => h), k8, k9, fun j b hb' => ⟨Nat.lt_of_lt_of_le (k10 j b hb').1 hb.size, (k10 j b hb').2⟩, k11, k12⟩, h.hB, h.lo, h.below.trans (hb.mono (Nat.le_trans h.lo h.below.size))⟩
theorem StM.weak (h : StM KS BT w0 w B bb L kf N FP) {N' : Nat} {FP' : Nat → Prop} (hN : N ≤ N') (hF : ∀ b, FP b → b < w.heap.size → FP' b) : StM KS BT w0 w B bb L kf N' FP' := by
  obtain ⟨bc, m, lv, hs, F, k1, k2, k3, k4, k5, k6, k7, k8, k9, k10, k11, k12⟩ := h.out
  exact ⟨⟨bc, m, lv, hs, F, k1, k2, k3, k4, k5, k6, k7, k8, k9, k10, fun j b hb => hF b (k11 j b hb) (k10 j b hb).1, fun j => Nat.le_trans (k12 j) hN⟩, h.hB, h.lo, h.below⟩
/-- What a function that works on the lists of one kind is told, and what it leaves: fill, grow. -/
theorem StM.at (h : StM KS BT w0 w B bb L kf N FP) {j : Nat} {K : KD} (h1 : 1 ≤ j) (h2 : j < 35) (hj : KS j = some K) :
    ∃ (bc : Array Value) (lv : Value) (hs : List (Value × Int)) (F : Nat → Prop) (m : Int), w.heap[bb]? = some (.cells bc BT (0, 0)) ∧ bc[j]? = some lv ∧ bc[0]? = some (.int .i64 m) ∧ (-9223372036854775808 ≤ m ∧ m ≤ 9223372036854775807) ∧ HL K w B F lv hs (fun _ => L j) (fun _ => kf j) ∧ ¬ F bb ∧ (∀ b, F b → b < w.heap.size ∧ B ≤ b) ∧ (∀ b, F b → FP b) ∧ hs.length ≤ N ∧ B ≤ w.heap.size ∧
    (∀ (w' : World) (hs' : List (Value × Int)) (x y : Nat), HL K w' B (fun b => F b ∨ (w.heap.size ≤ b ∧ b < w'.heap.size)) lv hs' (fun _ => x) (fun _ => y) → Chg F w w' → hs'.length ≤ N → StM KS BT w0 w' B bb (up L j x) (up kf j y) N (fun b => FP b ∨ w.heap.size ≤ b)) ∧
    (∀ (v : Value) (w' : World), (∀ b, v.ownBlock = some b → ¬ FP b ∧ b ≠ bb ∧ b < w.heap.size ∧ B ≤ b) → KeepP K w B F bb bc j BT v m hs (fun _ => L j) (fun _ => kf j) w' → StM KS BT w0 w' B bb L kf (N + 1) (fun b => FP b ∨ v.ownBlock = some b ∨ w.heap.size ≤ b) ∧ Chg (fun b => FP b ∨ b = bb) w w') := by
  obtain ⟨bc, m, lv, hs, F, k1, k2, k3, k4, k5, k6, k7, k8, k9, k10, k11, k12⟩ := h.out
  have hbb := lt_of_some k1
  have hBw := Nat.le_trans h.lo h.below.size
  refine ⟨bc, lv j, hs j, F j, m, k1, k5 j h1 h2, k2, k3, k7 j K hj, k9 j, k10 j, k11 j, k12 j, hBw, fun w' hs' x y hL hc hn => ?_, fun v w' hv hP => ?_⟩
  · refine ⟨⟨bc, m, lv, fun i => if i = j then hs' else hs i, fun i => if i = j then fun b => F j b ∨ (w.heap.size ≤ b ∧ b < w'.heap.size) else F i, hc.keep k1 (k9 j), k2, k3, k4, k5, k6, fun i K' hi => ?_, fun i i' b hne hb hb' => ?_, fun i hb => ?_, fun i b hb => ?_, fun i b hb => ?_, fun i => ?_⟩, h.hB, h.lo, h.below.trans (hc.below hBw fun b _ hb => (k10 j b hb).2)⟩
    · by_cases e : i = j
      · subst e
        rw [hj] at hi
        obtain rfl := Option.some.inj hi
        simp only [if_true, up_same]
        exact hL
      · simp only [if_neg e, up_other _ _ _ _ e]
        exact (k7 i K' hi).keep hc fun b hb hb2 => k8 i j b e hb hb2
    · by_cases e : i = j
      · have e' : i' ≠ j := fun e2 => hne (e.trans e2.symm)
        simp only [if_pos e] at hb
        simp only [if_neg e'] at hb'
        rcases hb with hb | hb
        · exact k8 j i' b (fun e2 => e' e2.symm) hb hb'
        · have := (k10 i' b hb').1; omega
      · simp only [if_neg e] at hb
        by_cases e' : i' = j
        · simp only [if_pos e'] at hb'
          rcases hb' with hb' | hb'
          · exact k8 i j b e hb hb'
          · have := (k10 i b hb).1; omega
        · simp only [if_neg e'] at hb'
          exact k8 i i' b hne hb hb'
    · by_cases e : i = j
      · simp only [if_pos e] at hb
        rcases hb with hb | hb
        · exact k9 j hb
        · omega
      · simp only [if_neg e] at hb
        exact k9 i hb
    · by_cases e : i = j
      · simp only [if_pos e] at hb
        rcases hb with hb | hb
        · exact ⟨Nat.lt_of_lt_of_le (k10 j b hb).1 hc.size, (k10 j b hb).2⟩
        · exact ⟨hb.2, Nat.le_trans hBw hb.1⟩
      · simp only [if_neg e] at hb
        exact ⟨Nat.lt_of_lt_of_le (k10 i b hb).1 hc.size, (k10 i b hb).2⟩
    · by_cases e : i = j
      · simp only [if_pos e] at hb
        rcases hb with hb | hb
        · exact .inl (k11 j b hb)
        · exact .inr hb.1
      · simp only [if_neg e] at hb
        exact .inl (k11 i b hb)
    · by_cases e : i = j
      · simp only [if_pos e]; exact hn
      · simp only [if_neg e]; exact k12 i
  · obtain ⟨lv', hL, hb'⟩ := hP.out
    have hc := hP.chg
    refine ⟨⟨⟨_, wrap64 (m + 1), fun i => if i = j then lv' else lv i, fun i => if i = j then hs j ++ [(v, m)] else hs i, fun i => if i = j then fun b => F j b ∨ v.ownBlock = some b ∨ (w.heap.size ≤ b ∧ b < w'.heap.size) else F i, hb', ?_, ?_, ?_, fun i hi1 hi2 => ?_, fun i hi => ?_, fun i K' hi => ?_, fun i i' b hne hb hb' => ?_, fun i hb => ?_, fun i b hb => ?_, fun i b hb => ?_, fun i => ?_⟩, h.hB, h.lo, h.below.trans (hc.below hBw fun b _ hb => ?_)⟩, hc.mono fun b _ hb => hb.imp (k11 j b) id⟩
    · rw [Array.getElem?_setIfInBounds_self_of_lt (by rw [Array.size_setIfInBounds]; omega)]
    · unfold wrap64; omega
    · simpa using k4
    · rw [Array.getElem?_setIfInBounds_ne (by omega)]
      by_cases e : i = j
      · subst e
        rw [Array.getElem?_setIfInBounds_self_of_lt (by omega)]
        simp
      · rw [Array.getElem?_setIfInBounds_ne (fun e2 => e e2.symm)]
        simp only [if_neg e]
        exact k5 i hi1 hi2
    · have e : i ≠ j := fun e => by rw [e, hj] at hi; cases hi
      simp only [if_neg e]
      exact k6 i hi
    · by_cases e : i = j
      · subst e
        rw [hj] at hi
        obtain rfl := Option.some.inj hi
        simp only [if_true]
        exact hL
      · simp only [if_neg e]
        refine (k7 i K' hi).keep hc fun b hb hb2 => ?_
        rcases hb2 with hb2 | hb2
        · exact k8 i j b e hb hb2
        · rw [hb2] at hb; exact k9 i hb
    · by_cases e : i = j
      · have e' : i' ≠ j := fun e2 => hne (e.trans e2.symm)
        simp only [if_pos e] at hb
        simp only [if_neg e'] at hb'
        rcases hb with hb | hb | hb
        · exact k8 j i' b (fun e2 => e' e2.symm) hb hb'
        · exact (hv b hb).1 (k11 i' b hb')
        · have := (k10 i' b hb').1; omega
      · simp only [if_neg e] at hb
        by_cases e' : i' = j
        · simp only [if_pos e'] at hb'
          rcases hb' with hb' | hb' | hb'
          · exact k8 i j b e hb hb'
          · exact (hv b hb').1 (k11 i b hb)
          · have := (k10 i b hb).1; omega
        · simp only [if_neg e'] at hb'
          exact k8 i i' b hne hb hb'
    · by_cases e : i = j
      · simp only [if_pos e] at hb
        rcases hb with hb | hb | hb
        · exact k9 j hb
        · exact (hv bb hb).2.1 rfl
        · omega
      · simp only [if_neg e] at hb
        exact k9 i hb
    · by_cases e : i = j
      · simp only [if_pos e] at hb
        rcases hb with hb | hb | hb
        · exact ⟨Nat.lt_of_lt_of_le (k10 j b hb).1 hc.size, (k10 j b hb).2⟩
        · exact ⟨Nat.lt_of_lt_of_le (hv b hb).2.2.1 hc.size, (hv b hb).2.2.2⟩
        · exact ⟨hb.2, Nat.le_trans hBw hb.1⟩
      · simp only [if_neg e] at hb
        exact ⟨Nat.lt_of_lt_of_le (k10 i b hb).1 hc.size, (k10 i b hb).2⟩
    · by_cases e : i = j
      · simp only [if_pos e] at hb
        rcases hb with hb | hb | hb
        · exact .inl (k11 j b hb)
        · exact .inr (.inl hb)
        · exact .inr (.inr hb.1)
      · simp only [if_neg e] at hb
        exact .inl (k11 i b hb)
    · by_cases e : i = j
      · simp only [if_pos e, List.length_append, List.length_singleton]
        have := k12 j
        omega
      · simp only [if_neg e]
        have := k12 i
        omega
    · rcases hb with hb | hb
      · exact (k10 j b hb).2
      · rw [hb]; exact h.hB
end
end Go.Proofs.YtnahhclflnjmcaaGreatDoor.Bk
