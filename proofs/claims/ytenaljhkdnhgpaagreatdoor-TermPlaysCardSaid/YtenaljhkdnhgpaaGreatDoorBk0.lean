/- The book of lists: what holds of the lists of one kind. -/
import Derived.Test.YtenaljhkdnhgpaaGreatDoorProg
import Derived.WalkKit
import Derived.WalkSpells
import Derived.WalkLawsBesides
import Derived.Lib.Hide
import Derived.Handy
import Derived.Laws.CopyOwn
import Derived.Laws.Rows
import Derived.Outline
import Derived.Deep.LoopGhost
namespace Go.Proofs.YtenaljhkdnhgpaaGreatDoor.Bk
open Go Go.RowKit
set_option linter.unusedVariables false
set_option linter.unusedSimpArgs false

/-- All is as it was but for some blocks. -/
structure Chg (X : Nat → Prop) (w w' : World) : Prop where
  os : w'.os = w.os
  tape : w'.tape = w.tape
  output : w'.output = w.output
  size : w.heap.size ≤ w'.heap.size
  block : ∀ b, b < w.heap.size → ¬ X b → w'.heap[b]? = w.heap[b]?
theorem Chg.refl (X : Nat → Prop) (w : World) : Chg X w w := ⟨rfl, rfl, rfl, Nat.le_refl _, fun _ _ _ => rfl⟩
theorem Chg.trans {X : Nat → Prop} {a b c : World} (h : Chg X a b) (k : Chg X b c) : Chg X a c :=
  ⟨k.os.trans h.os, k.tape.trans h.tape, k.output.trans h.output, Nat.le_trans h.size k.size, fun i hi hx => (k.block i (Nat.lt_of_lt_of_le hi h.size) hx).trans (h.block i hi hx)⟩
theorem Chg.mono {X Y : Nat → Prop} {w w' : World} (h : Chg X w w') (hX : ∀ b, b < w.heap.size → X b → Y b) : Chg Y w w' := ⟨h.os, h.tape, h.output, h.size, fun b hb hy => h.block b hb fun hx => hy (hX b hb hx)⟩
theorem Chg.of_below {X : Nat → Prop} {w w' : World} (h : Below w.heap.size w w') : Chg X w w' := ⟨h.os, h.tape, h.output, h.size, fun b hb _ => h.block b hb⟩
theorem Chg.below {X : Nat → Prop} {w w' : World} {B : Nat} (h : Chg X w w') (hB : B ≤ w.heap.size) (hX : ∀ b, b < w.heap.size → X b → B ≤ b) : Below B w w' :=
  ⟨h.os, h.tape, h.output, h.size, fun k hk => h.block k (by omega) fun hx => by have := hX k (by omega) hx; omega⟩
theorem Chg.setCell {X : Nat → Prop} (w : World) (p : Addr) (u : Value) (hp : X p.block) : Chg X w (w.setCell p u) :=
  ⟨rfl, rfl, rfl, by simp [World.setCell], fun k hk hx => Below.heap_setCell _ _ _ _ (fun e => hx (by rw [e]; exact hp))⟩
theorem Chg.setRow {X : Nat → Prop} (w : World) (g : Nat) (vs : Array Value) (hg : X g) : Chg X w (w.setRow g vs) :=
  ⟨rfl, rfl, rfl, by simp, fun k hk hx => setRow_other w g k vs (fun e => hx (by rw [e]; exact hg))⟩
theorem Chg.grown {X : Nat → Prop} {w w' : World} {row : Option Nat} (hg : w.grownBy w' row) (hr : ∀ k, row = some k → X k) : Chg X w w' :=
  ⟨hg.os, hg.tape, hg.output, hg.size, fun k hk hx => hg.block k hk (fun e => hx (hr k e.symm))⟩
theorem Chg.keep {X : Nat → Prop} {w w' : World} (h : Chg X w w') {b : Nat} {o : Obj} (hb : w.heap[b]? = some o) (hx : ¬ X b) : w'.heap[b]? = some o := (h.block b (Array.getElem?_eq_some_iff.1 hb).1 hx).trans hb
theorem lt_of_some {w : World} {g : Nat} {o : Obj} (h : w.heap[g]? = some o) : g < w.heap.size := (Array.getElem?_eq_some_iff.1 h).1

/-- A kind of lists: the type of a held one, of its elements, how many cells these have, the mark. -/
structure KD where
  HT : TypeId
  ET : TypeId
  sz : Nat
  mark : Int → Array Value
  pos : 0 < sz
  mks : ∀ m, (mark m).size = sz
  mko : ∀ m, ∀ u ∈ (mark m).toList, u.oneCell' = true
def Full (K : KD) (m : Int) (n o : Nat) (cur : Array Value) : Prop := ∀ j, j < n → cur.extract (o + j * K.sz) (o + j * K.sz + K.sz) = K.mark m
/-- A slice in a block of its own: the whole block, or a part of it without room behind. -/
structure OwnB (K : KD) (w : World) (B n cap g o : Nat) (cur : Array Value) : Prop where
  blk : w.heap[g]? = some (.cells cur K.ET (0, 0))
  hB : B ≤ g
  le : n ≤ cap
  mx : cap ≤ maxLen
  fit : o + n * K.sz ≤ cur.size
  kind : (o = 0 ∧ cur.size = cap * K.sz) ∨ n = cap
/-- A held slice: at most lim elements, the first k are marks. -/
def OwnH (K : KD) (w : World) (B : Nat) (v : Value) (m : Int) (lim k : Nat) : Prop :=
  v = .slice none 0 0 ∨ ∃ g o n cap cur, v = .slice (some ⟨g, o, none⟩) n cap ∧ OwnB K w B n cap g o cur ∧ n ≤ lim ∧ Full K m (min k n) o cur
def hrow (hs : List (Value × Int)) : List Value := hs.flatMap fun h => [h.1, .int .i64 h.2]
theorem hrow_length (hs : List (Value × Int)) : (hrow hs).length = hs.length * 2 := by
  induction hs with
  | nil => rfl
  | cons h t ih => simp only [hrow, List.flatMap_cons, List.length_append, List.length_cons, List.length_nil] at *; omega
theorem hrow_get : ∀ (hs : List (Value × Int)) (i : Nat) (v : Value) (m : Int), hs[i]? = some (v, m) → (hrow hs)[i * 2]? = some v ∧ (hrow hs)[i * 2 + 1]? = some (.int .i64 m)
  | [], i, v, m, h => by simp at h
  | x :: t, 0, v, m, h => by
    obtain rfl : x = (v, m) := by simpa using h
    exact ⟨rfl, rfl⟩
  | x :: t, i + 1, v, m, h => by
    have := hrow_get t i v m (by simpa using h)
    have e : hrow (x :: t) = [x.1, .int .i64 x.2] ++ hrow t := rfl
    rw [e, List.getElem?_append_right (by simp; omega), List.getElem?_append_right (by simp; omega)]
    simp only [List.length_cons, List.length_nil]
    rw [show (i + 1) * 2 - (0 + 1 + 1) = i * 2 by omega, show (i + 1) * 2 + 1 - (0 + 1 + 1) = i * 2 + 1 by omega]
    exact this
theorem hrow_set : ∀ (hs : List (Value × Int)) (i : Nat) (v v' : Value) (m : Int), hs[i]? = some (v, m) → (hrow hs).set (i * 2) v' = hrow (hs.set i (v', m))
  | [], i, v, v', m, h => by simp at h
  | x :: t, 0, v, v', m, h => by
    obtain rfl : x = (v, m) := by simpa using h
    rfl
  | x :: t, i + 1, v, v', m, h => by
    have := hrow_set t i v v' m (by simpa using h)
    have e : hrow (x :: t) = x.1 :: .int .i64 x.2 :: hrow t := rfl
    rw [e, show (i + 1) * 2 = i * 2 + 1 + 1 by omega, List.set_cons_succ, List.set_cons_succ, this]
    rfl
/-- The lists of one kind that are held; F: the blocks that they may have. -/
structure HL (K : KD) (w : World) (B : Nat) (F : Nat → Prop) (lv : Value) (hs : List (Value × Int)) (lim kf : Nat → Nat) : Prop where
  row : w.ownsRow B K.HT 2 lv hs.length (hrow hs)
  held : ∀ (i : Nat) (v : Value) (m : Int), hs[i]? = some (v, m) → OwnH K w B v m (lim i) (kf i)
  rng : ∀ (i : Nat) (v : Value) (m : Int), hs[i]? = some (v, m) → -9223372036854775808 ≤ m ∧ m ≤ 9223372036854775807
  apart : ∀ (i j : Nat) (v : Value) (m : Int) (v' : Value) (m' : Int) (b : Nat), hs[i]? = some (v, m) → hs[j]? = some (v', m') → i ≠ j → v.ownBlock = some b → v'.ownBlock ≠ some b
  apart0 : ∀ (i : Nat) (v : Value) (m : Int) (b : Nat), hs[i]? = some (v, m) → v.ownBlock = some b → lv.ownBlock ≠ some b
  inF : ∀ (b : Nat), lv.ownBlock = some b → F b
  inF' : ∀ (i : Nat) (v : Value) (m : Int) (b : Nat), hs[i]? = some (v, m) → v.ownBlock = some b → F b
theorem Full.mono {K : KD} {m : Int} {n n' o : Nat} {cur : Array Value} (h : Full K m n o cur) (hn : n' ≤ n) : Full K m n' o cur := fun j hj => h j (by omega)
theorem OwnH.mono {K : KD} {w : World} {B : Nat} {v : Value} {m : Int} {lim k lim' k' : Nat} (h : OwnH K w B v m lim k) (h1 : lim ≤ lim') (h2 : k' ≤ k) : OwnH K w B v m lim' k' := by
  rcases h with h | ⟨g, o, n, cap, cur, e, h3, h4, h5⟩
  · exact .inl h
  · exact .inr ⟨g, o, n, cap, cur, e, h3, by omega, h5.mono (by omega)⟩
theorem OwnH.keep {K : KD} {w w' : World} {B : Nat} {v : Value} {m : Int} {lim k : Nat} (h : OwnH K w B v m lim k) (hk : ∀ b, v.ownBlock = some b → w'.heap[b]? = w.heap[b]?) : OwnH K w' B v m lim k := by
  rcases h with h | ⟨g, o, n, cap, cur, e, h3, h4, h5⟩
  · exact .inl h
  · subst e
    exact .inr ⟨g, o, n, cap, cur, rfl, ⟨(hk g rfl).trans h3.blk, h3.hB, h3.le, h3.mx, h3.fit, h3.kind⟩, h4, h5⟩
theorem OwnH.lt {K : KD} {w : World} {B : Nat} {v : Value} {m : Int} {lim k : Nat} (h : OwnH K w B v m lim k) {b : Nat} (hb : v.ownBlock = some b) : b < w.heap.size ∧ B ≤ b := by
  rcases h with h | ⟨g, o, n, cap, cur, e, h3, h4, h5⟩
  · rw [h] at hb; cases hb
  · subst e
    obtain rfl : g = b := by simpa [Value.ownBlock] using hb
    exact ⟨lt_of_some h3.blk, h3.hB⟩
theorem row_keep {w w' : World} {B sz n : Nat} {t : TypeId} {v : Value} {xs : List Value} (h : w.ownsRow B t sz v n xs) (hk : ∀ b, v.ownBlock = some b → w'.heap[b]? = w.heap[b]?) : w'.ownsRow B t sz v n xs := by
  refine ⟨h.1, ?_⟩
  rcases h.2 with h2 | ⟨g, cap, cur, h1, h2, h3, h4⟩
  · exact .inl h2
  · exact .inr ⟨g, cap, cur, h1, h2, (hk g (by rw [h1]; rfl)).trans h3, h4⟩
theorem row_lt {w : World} {B sz n : Nat} {t : TypeId} {v : Value} {xs : List Value} (h : w.ownsRow B t sz v n xs) {b : Nat} (hb : v.ownBlock = some b) : b < w.heap.size ∧ B ≤ b := by
  rcases h.2 with ⟨h2, _⟩ | ⟨g, cap, cur, h1, h2, h3, h4⟩
  · rw [h2] at hb; cases hb
  · rw [h1] at hb
    obtain rfl : g = b := by simpa [Value.ownBlock] using hb
    exact ⟨lt_of_some h3, h2⟩
section
variable {K : KD} {w w' : World} {B : Nat} {F : Nat → Prop} {lv : Value} {hs : List (Value × Int)} {lim kf : Nat → Nat}
theorem HL.lt (h : HL K w B F lv hs lim kf) {b : Nat} (hb : lv.ownBlock = some b ∨ ∃ (i : Nat) (v : Value) (m : Int), hs[i]? = some (v, m) ∧ v.ownBlock = some b) : b < w.heap.size ∧ B ≤ b ∧ F b := by
  rcases hb with hb | ⟨i, v, m, h1, h2⟩
  · exact ⟨(row_lt h.row hb).1, (row_lt h.row hb).2, h.inF b hb⟩
  · exact ⟨((h.held i v m h1).lt h2).1, ((h.held i v m h1).lt h2).2, h.inF' i v m b h1 h2⟩
/-- What does not touch the blocks leaves it. -/
theorem HL.keep (h : HL K w B F lv hs lim kf) {X : Nat → Prop} (hc : Chg X w w') (hx : ∀ b, F b → ¬ X b) : HL K w' B F lv hs lim kf :=
  ⟨row_keep h.row fun b hb => hc.block b (row_lt h.row hb).1 (hx b (h.inF b hb)), fun i v m hi => (h.held i v m hi).keep fun b hb => hc.block b ((h.held i v m hi).lt hb).1 (hx b (h.inF' i v m b hi hb)), h.rng, h.apart, h.apart0, h.inF, h.inF'⟩
theorem HL.weak (h : HL K w B F lv hs lim kf) {F' : Nat → Prop} (hF : ∀ b, F b → b < w.heap.size → F' b) : HL K w B F' lv hs lim kf :=
  ⟨h.row, h.held, h.rng, h.apart, h.apart0, fun b hb => hF b (h.inF b hb) (row_lt h.row hb).1, fun i v m b hi hb => hF b (h.inF' i v m b hi hb) ((h.held i v m hi).lt hb).1⟩
/-- None is held. -/
theorem HL.nil (K : KD) (w : World) (B : Nat) (F : Nat → Prop) (lim kf : Nat → Nat) : HL K w B F (.slice none 0 0) [] lim kf :=
  ⟨⟨rfl, .inl ⟨rfl, rfl⟩⟩, fun i v m h => by simp at h, fun i v m h => by simp at h, fun i j v m v' m' b h => by simp at h, fun i v m b h => by simp at h, (fun b h => by cases h), fun i v m b h => by simp at h⟩
/-- The cells of a held one. -/
theorem HL.at (h : HL K w B F lv hs lim kf) {i : Nat} {v : Value} {m : Int} (hi : hs[i]? = some (v, m)) : ∃ g cap cur, lv = .slice (some ⟨g, 0, none⟩) hs.length cap ∧ w.heap[g]? = some (.cells cur K.HT (0, 0)) ∧ F g ∧ cur[i * 2]? = some v ∧ cur[i * 2 + 1]? = some (.int .i64 m) ∧ i * 2 + 2 ≤ cur.size := by
  have hlt := (List.getElem?_eq_some_iff.1 hi).1
  rcases h.row.2 with ⟨h1, h2⟩ | ⟨g, cap, cur, h1, h2, h3, h4, h5, h6, h7⟩
  · omega
  · have hr := hrow_get hs i v m hi
    rw [← h7, List.getElem?_take_of_lt (by omega), List.getElem?_take_of_lt (by omega), Array.getElem?_toList, Array.getElem?_toList] at hr
    refine ⟨g, cap, cur, h1, h3, h.inF g (by rw [h1]; rfl), hr.1, hr.2, ?_⟩
    have := (Array.getElem?_eq_some_iff.1 hr.2).1
    omega
theorem HL.slice (h : HL K w B F lv hs lim kf) : ∃ A c, lv = .slice A hs.length c := by
  rcases h.row.2 with ⟨h1, h2⟩ | ⟨g, cap, cur, h1, _⟩
  · exact ⟨none, 0, by rw [h1, h2]⟩
  · exact ⟨_, _, h1⟩
theorem HL.lens {lim' kf' : Nat → Nat} (h : HL K w B F lv hs lim kf) (hl : ∀ i, i < hs.length → lim' i = lim i ∧ kf' i = kf i) : HL K w B F lv hs lim' kf' :=
  ⟨h.row, fun i v m hi => by
    have := hl i (List.getElem?_eq_some_iff.1 hi).1
    rw [this.1, this.2]; exact h.held i v m hi, h.rng, h.apart, h.apart0, h.inF, h.inF'⟩
/-- One mark is written. -/
theorem HL.write (h : HL K w B F lv hs lim kf) {i k n cap g o : Nat} {cur : Array Value} {m : Int} (hi : hs[i]? = some (.slice (some ⟨g, o, none⟩) n cap, m)) (hb : w.heap[g]? = some (.cells cur K.ET (0, 0))) (hk : k ≤ kf i) (hkn : k < n) {cur' : Array Value} (hs' : cur'.size = cur.size)
    (he : cur'.extract (o + k * K.sz) (o + k * K.sz + K.sz) = K.mark m) (ho : ∀ j, j < k → cur'.extract (o + j * K.sz) (o + j * K.sz + K.sz) = cur.extract (o + j * K.sz) (o + j * K.sz + K.sz)) (hw : w'.heap[g]? = some (.cells cur' K.ET (0, 0))) (hc : Chg (· = g) w w') :
    HL K w' B F lv hs lim (fun j => if j = i then k + 1 else kf j) := by
  have hne : ∀ b, lv.ownBlock = some b → ¬ b = g := fun b hb' e => h.apart0 i _ m g hi rfl (by rw [← e]; exact hb')
  refine ⟨row_keep h.row fun b hb' => hc.block b (row_lt h.row hb').1 (hne b hb'), fun j v m' hj => ?_, h.rng, h.apart, h.apart0, h.inF, h.inF'⟩
  by_cases e : j = i
  · subst e
    rw [hi] at hj
    injection hj with hj
    injection hj with e1 e2
    subst e1 e2
    rw [if_pos rfl]
    rcases h.held j _ m hi with h1 | ⟨g', o', n', cap', cur0, e1, h3, h4, h5⟩
    · cases h1
    · injection e1 with e1 e2 e3
      injection e1 with e1
      injection e1 with e1 eo
      subst e1 eo e2 e3
      have hcur := h3.blk
      rw [hb] at hcur
      injection hcur with hcur
      injection hcur with hcur
      subst hcur
      refine .inr ⟨g, o, n, cap, cur', rfl, ⟨hw, h3.hB, h3.le, h3.mx, by rw [hs']; exact h3.fit, by rw [hs']; exact h3.kind⟩, h4, fun x hx => ?_⟩
      by_cases ex : x = k
      · rw [ex]; exact he
      · rw [ho x (by omega)]
        exact h5 x (by omega)
  · rw [if_neg e]
    exact (h.held j v m' hj).keep fun b hb' => hc.block b ((h.held j v m' hj).lt hb').1 fun eb => h.apart i j _ m v m' g hi hj (fun e' => e e'.symm) rfl (by rw [← eb]; exact hb')
theorem row_grown {w w' : World} {B n : Nat} {t : TypeId} {v : Value} {row : Option Nat} {xs : List Value} {sz : Nat} (h : w.ownsRow B t sz v n xs) (hg : w.grownBy w' row) (hn : ∀ b, v.ownBlock = some b → row ≠ some b) : w'.ownsRow B t sz v n xs :=
  row_keep h fun b hb => hg.block b (row_lt h hb).1 fun e => hn b hb e.symm
/-- One more is held. -/
theorem HL.push {w1 w2 : World} {v : Value} {m : Int} {g cap : Nat} {F' : Nat → Prop} (h : HL K w1 B F lv hs lim kf) (hB : B ≤ w1.heap.size) (hv : OwnH K w1 B v m (lim hs.length) (kf hs.length)) (hm : -9223372036854775808 ≤ m ∧ m ≤ 9223372036854775807) (hd : ∀ b, v.ownBlock = some b → ¬ F b)
    (o1 : w2.ownsRow B K.HT 2 (.slice (some ⟨g, 0, none⟩) (hs.length + 1) cap) (hs.length + 1) (hrow hs ++ [v, .int .i64 m])) (o2 : w1.grownBy w2 lv.ownBlock) (o3 : lv.ownBlock = some g ∨ g = w1.heap.size)
    (hF : ∀ b, F b → F' b) (hg : F' g) (hvF : ∀ b, v.ownBlock = some b → F' b) : HL K w2 B F' (.slice (some ⟨g, 0, none⟩) (hs.length + 1) cap) (hs ++ [(v, m)]) lim kf := by
  have hne : ∀ b, v.ownBlock = some b → lv.ownBlock ≠ some b := fun b hb e => hd b hb (h.inF b e)
  have hgne : ∀ (u : Value) (b : Nat), u.ownBlock = some b → b < w1.heap.size → lv.ownBlock ≠ some b → g ≠ b := fun u b hu hlt hn e => by
    rcases o3 with o3 | o3
    · exact hn (by rw [← e]; exact o3)
    · omega
  refine ⟨by
      have e : hrow (hs ++ [(v, m)]) = hrow hs ++ [v, .int .i64 m] := by simp [hrow]
      rw [List.length_append, List.length_singleton, e]; exact o1, fun i v' m' hi => ?_, fun i v' m' hi => ?_, fun i j v1 m1 v2 m2 b hi hj hij hb => ?_, fun i v' m' b hi hb e => ?_, fun b hb => ?_, fun i v' m' b hi hb => ?_⟩
  · by_cases hl : i < hs.length
    · rw [List.getElem?_append_left hl] at hi
      exact (h.held i v' m' hi).keep fun b hb => o2.block b ((h.held i v' m' hi).lt hb).1 fun e => h.apart0 i v' m' b hi hb e.symm
    · have hl2 : i = hs.length := by
        have := (List.getElem?_eq_some_iff.1 hi).1
        simp at this; omega
      subst hl2
      rw [List.getElem?_append_right (Nat.le_refl _), Nat.sub_self] at hi
      have hi : (v, m) = (v', m') := by simpa using hi
      injection hi with e1 e2
      subst e1 e2
      exact hv.keep fun b hb => o2.block b (hv.lt hb).1 fun e => hne b hb e.symm
  · by_cases hl : i < hs.length
    · rw [List.getElem?_append_left hl] at hi
      exact h.rng i v' m' hi
    · have hl2 : i = hs.length := by
        have := (List.getElem?_eq_some_iff.1 hi).1
        simp at this; omega
      subst hl2
      rw [List.getElem?_append_right (Nat.le_refl _), Nat.sub_self] at hi
      have hi : (v, m) = (v', m') := by simpa using hi
      injection hi with e1 e2
      rw [← e2]; exact hm
  · have hcase : ∀ k u q, (hs ++ [(v, m)])[k]? = some (u, q) → (k < hs.length ∧ hs[k]? = some (u, q)) ∨ (k = hs.length ∧ u = v) := fun k u q hk => by
      by_cases hl : k < hs.length
      · rw [List.getElem?_append_left hl] at hk
        exact .inl ⟨hl, hk⟩
      · have hl2 : k = hs.length := by
          have := (List.getElem?_eq_some_iff.1 hk).1
          simp at this; omega
        subst hl2
        rw [List.getElem?_append_right (Nat.le_refl _), Nat.sub_self] at hk
        have hk : (v, m) = (u, q) := by simpa using hk
        injection hk with e1 e2
        exact .inr ⟨rfl, e1.symm⟩
    rcases hcase i v1 m1 hi with ⟨_, k1⟩ | ⟨k1, rfl⟩ <;> rcases hcase j v2 m2 hj with ⟨_, k2⟩ | ⟨k2, rfl⟩
    · exact h.apart i j v1 m1 v2 m2 b k1 k2 hij hb
    · exact fun e => hd b e (h.inF' i v1 m1 b k1 hb)
    · exact fun e => hd b hb (h.inF' j v2 m2 b k2 e)
    · omega
  · have e : g = b := by simpa [Value.ownBlock] using e
    by_cases hl : i < hs.length
    · rw [List.getElem?_append_left hl] at hi
      exact hgne v' b hb ((h.held i v' m' hi).lt hb).1 (h.apart0 i v' m' b hi hb) e
    · have hl2 : i = hs.length := by
        have := (List.getElem?_eq_some_iff.1 hi).1
        simp at this; omega
      subst hl2
      rw [List.getElem?_append_right (Nat.le_refl _), Nat.sub_self] at hi
      have hi : (v, m) = (v', m') := by simpa using hi
      injection hi with e1 e2
      subst e1
      exact hgne v b hb (hv.lt hb).1 (hne b hb) e
  · have hb : g = b := by simpa [Value.ownBlock] using hb
    rw [← hb]; exact hg
  · by_cases hl : i < hs.length
    · rw [List.getElem?_append_left hl] at hi
      exact hF b (h.inF' i v' m' b hi hb)
    · have hl2 : i = hs.length := by
        have := (List.getElem?_eq_some_iff.1 hi).1
        simp at this; omega
      subst hl2
      rw [List.getElem?_append_right (Nat.le_refl _), Nat.sub_self] at hi
      have hi : (v, m) = (v', m') := by simpa using hi
      injection hi with e1 e2
      subst e1
      exact hvF b hb
/-- A row of one's own, whole or a part without room behind. -/
def HeldRow (w : World) (B : Nat) (t : TypeId) (sz : Nat) (v : Value) (n : Nat) (xs : List Value) : Prop :=
  w.ownsRow B t sz v n xs ∨ ∃ g o cur, v = .slice (some ⟨g, o, none⟩) n n ∧ B ≤ g ∧ w.heap[g]? = some (.cells cur t (0, 0)) ∧ o + n * sz ≤ cur.size ∧ xs = (cur.toList.drop o).take (n * sz)
theorem HeldRow.len {w : World} {B : Nat} {t : TypeId} {sz : Nat} {v : Value} {n : Nat} {xs : List Value} (h : HeldRow w B t sz v n xs) : xs.length = n * sz := by
  rcases h with h | ⟨g, o, cur, h1, h2, h3, h4, h5⟩
  · exact h.1
  · rw [h5]; simp; omega
theorem HeldRow.keep {w w' : World} {B : Nat} {t : TypeId} {sz : Nat} {v : Value} {n : Nat} {xs : List Value} (h : HeldRow w B t sz v n xs) (hb : Below w.heap.size w w') : HeldRow w' B t sz v n xs := by
  rcases h with h | ⟨g, o, cur, h1, h2, h3, h4, h5⟩
  · exact .inl (row_keep h fun b hb' => hb.block b (row_lt h hb').1)
  · exact .inr ⟨g, o, cur, h1, h2, (hb.block g (lt_of_some h3)).trans h3, h4, h5⟩
/-- The row of a held slice. -/
theorem OwnH.row {m : Int} {l k : Nat} {v : Value} (h : OwnH K w B v m l k) : ∃ n xs, (∃ A c, v = .slice A n c) ∧ HeldRow w B K.ET K.sz v n xs ∧ n ≤ l ∧ (∀ j, j < min k n → (xs.drop (j * K.sz)).take K.sz = (K.mark m).toList) := by
  rcases h with rfl | ⟨g, o, n, cap, cur, rfl, h3, h4, h5⟩
  · exact ⟨0, [], ⟨_, _, rfl⟩, .inl ⟨by simp, .inl ⟨rfl, rfl⟩⟩, Nat.zero_le _, fun j hj => by omega⟩
  · have hfit := h3.fit
    refine ⟨n, (cur.toList.drop o).take (n * K.sz), ⟨_, _, rfl⟩, ?_, h4, fun j hj => ?_⟩
    · rcases h3.kind with ⟨rfl, hsz⟩ | rfl
      · exact .inl ⟨by rw [List.length_take, List.length_drop, Array.length_toList]; omega, .inr ⟨g, cap, cur, rfl, h3.hB, h3.blk, h3.le, h3.mx, hsz, by rw [List.drop_zero]⟩⟩
      · exact .inr ⟨g, o, cur, rfl, h3.hB, h3.blk, hfit, rfl⟩
    · have hjs : (j + 1) * K.sz ≤ n * K.sz := Nat.mul_le_mul_right _ (by omega)
      rw [Nat.add_mul, Nat.one_mul] at hjs
      have := congrArg Array.toList (h5 j hj)
      rw [Array.toList_extract] at this
      rw [List.drop_take, List.take_take, Nat.min_eq_left (by omega), ← this, List.drop_drop]
      show _ = (List.drop (o + j * K.sz) cur.toList).take (o + j * K.sz + K.sz - (o + j * K.sz))
      rw [Nat.add_sub_cancel_left]
theorem OwnH.of_row {m : Int} {l k n : Nat} {v : Value} {xs : List Value} (h : w.ownsRow B K.ET K.sz v n xs) (hn : n ≤ l) (hx : ∀ j, j < min k n → (xs.drop (j * K.sz)).take K.sz = (K.mark m).toList) : OwnH K w B v m l k := by
  rcases h.2 with ⟨h1, _⟩ | ⟨g, cap, cur, h1, h2, h3, h4, h5, h6, h7⟩
  · exact .inl h1
  · refine .inr ⟨g, 0, n, cap, cur, h1, ⟨h3, h2, h4, h5, by rw [h6, Nat.zero_add]; exact Nat.mul_le_mul_right _ h4, .inl ⟨rfl, h6⟩⟩, hn, fun j hj => ?_⟩
    have := hx j hj
    have hjs : (j + 1) * K.sz ≤ n * K.sz := Nat.mul_le_mul_right _ (by omega)
    rw [Nat.add_mul, Nat.one_mul] at hjs
    rw [← h7, List.drop_take, List.take_take, Nat.min_eq_left (by omega)] at this
    apply Array.ext'
    rw [Nat.zero_add, Array.toList_extract, ← this]
    show (List.drop (j * K.sz) cur.toList).take (j * K.sz + K.sz - j * K.sz) = _
    rw [Nat.add_sub_cancel_left]
/-- A held slice has grown by one mark, and is stored. -/
theorem HL.grow {w1 w2 : World} {i n c cap gl : Nat} {A : Option Addr} {m : Int} {v' : Value} {cur : Array Value} {xs : List Value} {F' : Nat → Prop} (h : HL K w1 B F lv hs lim kf) (hB : B ≤ w1.heap.size) (hi : hs[i]? = some (.slice A n c, m)) (hlv : lv = .slice (some ⟨gl, 0, none⟩) hs.length cap) (hcur : w1.heap[gl]? = some (.cells cur K.HT (0, 0)))
    (hx : ∀ j, j < n → (xs.drop (j * K.sz)).take K.sz = (K.mark m).toList) (hxl : xs.length = n * K.sz) (hn : n + 1 ≤ lim i + 1)
    (o1 : w2.ownsRow B K.ET K.sz v' (n + 1) (xs ++ (K.mark m).toList)) (o2 : w1.grownBy w2 (Value.slice A n c).ownBlock) (o3 : ∀ b, v'.ownBlock = some b → (Value.slice A n c).ownBlock = some b ∨ w1.heap.size ≤ b) (hone : v'.oneCell' = true)
    (hF : ∀ b, F b → F' b) (hnew : ∀ b, v'.ownBlock = some b → w1.heap.size ≤ b → F' b) :
    HL K (w2.setCell ⟨gl, i * 2, none⟩ v') B F' lv (hs.set i (v', m)) (fun j => if j = i then lim i + 1 else lim j) (fun j => if j = i then n + 1 else kf j) := by
  have hlt := (List.getElem?_eq_some_iff.1 hi).1
  have hglF : F gl := h.inF gl (by rw [hlv]; rfl)
  have hgllt := lt_of_some hcur
  have hnegl : (Value.slice A n c).ownBlock ≠ some gl := fun e => h.apart0 i _ m gl hi e (by rw [hlv]; rfl)
  have hc2 : w2.heap[gl]? = some (.cells cur K.HT (0, 0)) := (o2.block gl hgllt fun e => hnegl e.symm).trans hcur
  have hb' := o3
  have hv'gl : v'.ownBlock ≠ some gl := fun e => by
    rcases hb' gl e with e | e
    · exact hnegl e
    · omega
  have hz := heap_setCell_same w2 gl (i * 2) cur K.HT v' hc2
  have hset : ∀ b, b ≠ gl → (w2.setCell ⟨gl, i * 2, none⟩ v').heap[b]? = w2.heap[b]? := fun b hb => heap_setCell_other w2 ⟨gl, i * 2, none⟩ b v' hb
  have hgetset : ∀ j u q, (hs.set i (v', m))[j]? = some (u, q) → (j = i ∧ u = v' ∧ q = m) ∨ (j ≠ i ∧ hs[j]? = some (u, q)) := fun j u q hj => by
    by_cases e : j = i
    · subst e
      rw [List.getElem?_set_self (by simpa using hlt)] at hj
      injection hj with hj
      injection hj with e1 e2
      exact .inl ⟨rfl, e1.symm, e2.symm⟩
    · rw [List.getElem?_set_ne (fun h => e h.symm)] at hj
      exact .inr ⟨e, hj⟩
  refine ⟨?_, fun j u q hj => ?_, fun j u q hj => ?_, fun j k u q u' q' b hj hk hjk hb => ?_, fun j u q b hj hb => ?_, fun b hb => hF b (h.inF b hb), fun j u q b hj hb => ?_⟩
  · rcases h.row.2 with ⟨h1, h2⟩ | ⟨g, cap', cur', h1, h2, h3, h4, h5, h6, h7⟩
    · omega
    · rw [hlv] at h1
      injection h1 with e1 e2 e3
      obtain rfl : gl = g := by simpa using e1
      subst e3
      rw [hcur] at h3
      injection h3 with h3
      injection h3 with h3
      subst h3
      refine ⟨by rw [hrow_length], .inr ⟨gl, cap, _, by rw [hlv, List.length_set], h2, hz, by rw [List.length_set]; exact h4, h5, by simpa using h6, ?_⟩⟩
      rw [← hrow_set hs i _ v' m hi, ← h7, List.length_set]
      simp only [Array.toList_setIfInBounds]
      rw [List.take_set]
  · rcases hgetset j u q hj with ⟨rfl, rfl, rfl⟩ | ⟨e, hj⟩
    · rw [if_pos rfl, if_pos rfl]
      have ho : OwnH K w2 B u q (lim j + 1) (n + 1) := OwnH.of_row o1 hn fun k hk => by
        by_cases e : k = n
        · subst e
          rw [← hxl, List.drop_left, List.take_of_length_le (by rw [Array.length_toList, K.mks]; exact Nat.le_refl _)]
        · have hk2 : (k + 1) * K.sz ≤ n * K.sz := Nat.mul_le_mul_right _ (by omega)
          rw [Nat.add_mul, Nat.one_mul] at hk2
          rw [List.drop_append_of_le_length (by omega), List.take_append_of_le_length (by rw [List.length_drop]; omega)]
          exact hx k (by omega)
      exact ho.keep fun b hb => hset b fun e => hv'gl (by rw [← e]; exact hb)
    · rw [if_neg e, if_neg e]
      refine (h.held j u q hj).keep fun b hb => ?_
      have hlt2 := ((h.held j u q hj).lt hb).1
      rw [hset b fun e2 => h.apart0 j u q gl hj (by rw [← e2]; exact hb) (by rw [hlv]; rfl)]
      exact o2.block b hlt2 fun e2 => h.apart i j _ m u q b hi hj (fun e3 => e e3.symm) e2.symm hb
  · rcases hgetset j u q hj with ⟨rfl, rfl, rfl⟩ | ⟨e, hj⟩
    · exact h.rng j _ q hi
    · exact h.rng j u q hj
  · rcases hgetset j u q hj with ⟨rfl, rfl, rfl⟩ | ⟨e, hj1⟩ <;> rcases hgetset k u' q' hk with ⟨rfl, rfl, rfl⟩ | ⟨e2, hk1⟩
    · exact absurd rfl hjk
    · intro hb2
      rcases hb' b hb with h1 | h1
      · exact h.apart j k _ q u' q' b hi hk1 hjk h1 hb2
      · have := ((h.held k u' q' hk1).lt hb2).1; omega
    · intro hb2
      rcases hb' b hb2 with h1 | h1
      · exact h.apart j k u q _ q' b hj1 hi hjk hb h1
      · have := ((h.held j u q hj1).lt hb).1; omega
    · exact h.apart j k u q u' q' b hj1 hk1 hjk hb
  · rcases hgetset j u q hj with ⟨rfl, rfl, rfl⟩ | ⟨e, hj⟩
    · intro e
      rcases hb' b hb with h1 | h1
      · exact h.apart0 j _ q b hi h1 e
      · have := (row_lt h.row e).1; omega
    · exact h.apart0 j u q b hj hb
  · rcases hgetset j u q hj with ⟨rfl, rfl, rfl⟩ | ⟨e, hj⟩
    · rcases hb' b hb with h1 | h1
      · exact hF b (h.inF' j _ q b hi h1)
      · exact hnew b hb h1
    · exact hF b (h.inF' j u q b hj hb)
end
section
variable {K : KD} {w w' : World} {B : Nat} {F : Nat → Prop} {lv : Value} {hs : List (Value × Int)} {lim kf : Nat → Nat}
/-- All of it is marks. -/
theorem HL.fin (h : HL K w B F lv hs lim kf) {i n c : Nat} {A : Option Addr} {m : Int} (hi : hs[i]? = some (.slice A n c, m)) (hn : n ≤ kf i) {kf' : Nat → Nat} (hk : ∀ j, j ≠ i → kf' j = kf j) : HL K w B F lv hs lim kf' := by
  refine ⟨h.row, fun j v m' hj => ?_, h.rng, h.apart, h.apart0, h.inF, h.inF'⟩
  by_cases e : j = i
  · subst e
    rw [hi] at hj
    injection hj with hj
    injection hj with e1 e2
    subst e1 e2
    rcases h.held j _ m hi with h1 | ⟨g', o', n', cap', cur0, e1, h3, h4, h5⟩
    · exact .inl h1
    · injection e1 with e1 e2 e3
      subst e1 e2 e3
      exact .inr ⟨g', o', n, c, cur0, rfl, h3, h4, h5.mono (by omega)⟩
  · rw [hk j e]
    exact h.held j v m' hj
theorem HL.less (h : HL K w B F lv hs lim kf) {kf' : Nat → Nat} (hk : ∀ j, j < hs.length → kf' j ≤ kf j) : HL K w B F lv hs lim kf' :=
  ⟨h.row, fun j v m hj => (h.held j v m hj).mono (Nat.le_refl _) (hk j (List.getElem?_eq_some_iff.1 hj).1), h.rng, h.apart, h.apart0, h.inF, h.inF'⟩
theorem HL.lims (h : HL K w B F lv hs lim kf) {lim' : Nat → Nat} (hk : ∀ j, j < hs.length → lim j ≤ lim' j) : HL K w B F lv hs lim' kf :=
  ⟨h.row, fun j v m hj => (h.held j v m hj).mono (hk j (List.getElem?_eq_some_iff.1 hj).1) (Nat.le_refl _), h.rng, h.apart, h.apart0, h.inF, h.inF'⟩
/-- A held slice with an element: its block. -/
theorem HL.elem (h : HL K w B F lv hs lim kf) {i n c : Nat} {A : Option Addr} {m : Int} (hi : hs[i]? = some (.slice A n c, m)) (hn : 0 < n) : ∃ g o cur, A = some ⟨g, o, none⟩ ∧ w.heap[g]? = some (.cells cur K.ET (0, 0)) ∧ o + n * K.sz ≤ cur.size ∧ F g ∧ lv.ownBlock ≠ some g ∧ n ≤ lim i ∧ Full K m (min (kf i) n) o cur := by
  rcases h.held i _ m hi with h1 | ⟨g, o, n', cap', cur, e1, h3, h4, h5⟩
  · injection h1 with _ e _; omega
  · injection e1 with e1 e2 e3
    subst e1 e2 e3
    exact ⟨g, o, cur, rfl, h3.blk, h3.fit, h.inF' i _ m g hi rfl, fun e => h.apart0 i _ m g hi rfl e, h4, h5⟩
theorem HL.sl (h : HL K w B F lv hs lim kf) {i : Nat} {v : Value} {m : Int} (hi : hs[i]? = some (v, m)) : ∃ A n c, v = .slice A n c ∧ n ≤ lim i := by
  rcases h.held i v m hi with h1 | ⟨g, o, n', cap', cur, e1, h3, h4, h5⟩
  · exact ⟨_, _, _, h1, Nat.zero_le _⟩
  · exact ⟨_, _, _, e1, h4⟩
end
/-- What keep leaves: off: the field's place, BT: the book's type. -/
structure KeepP (K : KD) (w : World) (B : Nat) (F : Nat → Prop) (bb : Nat) (bc : Array Value) (off : Nat) (BT : TypeId) (v : Value) (m : Int) (hs : List (Value × Int)) (lim kf : Nat → Nat) (w' : World) : Prop where
  out : ∃ lv', HL K w' B (fun b => F b ∨ v.ownBlock = some b ∨ (w.heap.size ≤ b ∧ b < w'.heap.size)) lv' (hs ++ [(v, m)]) lim kf ∧ w'.heap[bb]? = some (.cells ((bc.setIfInBounds off lv').setIfInBounds 0 (.int .i64 (wrap64 (m + 1)))) BT (0, 0))
  chg : Chg (fun b => F b ∨ b = bb) w w'
end Go.Proofs.YtenaljhkdnhgpaaGreatDoor.Bk
