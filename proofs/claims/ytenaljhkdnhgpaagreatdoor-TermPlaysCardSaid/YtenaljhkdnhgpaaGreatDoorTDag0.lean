/- The parts that a Dag holds while it is told: a map from numbers to numbers, the numbers that wait, the terms that were told. -/
import Derived.Test.YtenaljhkdnhgpaaGreatDoorTNone
import Derived.Deep.LoopGhost
namespace Go.Proofs.YtenaljhkdnhgpaaGreatDoor.T
open Go.RowKit Go.Maps

theorem key3 : Keyed Tryz.prog 3 := int_keyed Tryz.underlying3
/-- A map from numbers to numbers. -/
def MapI (w : World) (b n : Nat) (f : Int → Option Int) : Prop :=
  ∃ D : DataW Unit, w.ownsMap Tryz.prog 3 (plainElem Tryz.prog 3) b n D ∧ ∀ t kl, keyOf Tryz.prog 3 (.int .i64 t) = some kl → match f t with
    | none => ∀ z, D.atKey kl z = z
    | some x => ∀ z, D.atKey kl z = .lit (.int .i64 x)
theorem keyI (x : Int) (h : (Lit.int .i64 x).wf = true) : keyOf Tryz.prog 3 (.int .i64 x) = some (.int .i64 x) := by
  simp [keyOf, mapKey, Tryz.underlying3, h]
theorem MapI.look {w : World} {b n : Nat} {f : Int → Option Int} (h : MapI w b n f) (t : Int) (hk : (Lit.int .i64 t).wf = true) :
    (Instr.lookup 92 (.map (some b)) (.int .i64 t) true).run Tryz.prog w = .ok (.tuple #[.int .i64 ((f t).getD 0), .bool (f t).isSome]) w := by
  have hkey := keyI t hk
  obtain ⟨D, ⟨es, clock, hb, F, _, rfl⟩, hf⟩ := h
  have hf := hf t _ hkey
  rcases fit_look true key3 Tryz.underlying92 (zero3 w) hb F hkey with ⟨hrun, _, hat⟩ | ⟨e0, y, _, _, hrun, hRv, hat, _⟩
  · rw [hrun]
    cases e : f t with
    | none => rfl
    | some x =>
      rw [e] at hf
      have h1 := hf .nil
      rw [hat] at h1
      cases h1
  · rw [hrun]
    cases e : f t with
    | none =>
      rw [e] at hf
      have h1 := hf .nil
      have h2 := hf (.lit (.int .i64 0))
      rw [hat] at h1 h2
      rw [h1] at h2
      cases h2
    | some x =>
      rw [e] at hf
      have h1 := hf .nil
      rw [hat] at h1
      obtain ⟨a, ha, hz, _⟩ := plainElem_int_inv Tryz.underlying3 hRv
      rw [hz] at h1
      rw [ha]
      simp only [DataW.lit.injEq, Lit.int.injEq, true_and] at h1
      rw [h1]
      rfl
theorem MapI.look1 {w : World} {b n : Nat} {f : Int → Option Int} (h : MapI w b n f) (t : Int) (hk : (Lit.int .i64 t).wf = true) :
    (Instr.lookup 92 (.map (some b)) (.int .i64 t) false).run Tryz.prog w = .ok (.int .i64 ((f t).getD 0)) w := by
  have hkey := keyI t hk
  obtain ⟨D, ⟨es, clock, hb, F, _, rfl⟩, hf⟩ := h
  have hf := hf t _ hkey
  rcases fit_look false key3 Tryz.underlying92 (zero3 w) hb F hkey with ⟨hrun, _, hat⟩ | ⟨e0, y, _, _, hrun, hRv, hat, _⟩
  · rw [hrun]
    cases e : f t with
    | none => rfl
    | some x =>
      rw [e] at hf
      have h1 := hf .nil
      rw [hat] at h1
      cases h1
  · rw [hrun]
    cases e : f t with
    | none =>
      rw [e] at hf
      have h1 := hf .nil
      have h2 := hf (.lit (.int .i64 0))
      rw [hat] at h1 h2
      rw [h1] at h2
      cases h2
    | some x =>
      rw [e] at hf
      have h1 := hf .nil
      rw [hat] at h1
      obtain ⟨a, ha, hz, _⟩ := plainElem_int_inv Tryz.underlying3 hRv
      rw [hz] at h1
      rw [ha]
      simp only [DataW.lit.injEq, Lit.int.injEq, true_and] at h1
      rw [h1]
      rfl
def upd (f : Int → Option Int) (x v : Int) : Int → Option Int := fun y => if y = x then some v else f y
theorem MapI.put {w : World} {b n : Nat} {f : Int → Option Int} (h : MapI w b n f) (hn : n < maxLen) (t x : Int) (hk : (Lit.int .i64 t).wf = true) (hx : (Lit.int .i64 x).wf = true) :
    ∃ w', (Instr.mapUpdate 92 (.map (some b)) (.int .i64 t) (.int .i64 x)).run Tryz.prog w = .ok () w' ∧ w.grownBy w' (some b) ∧ MapI w' b (n + 1) (upd f t x) := by
  have hkey := keyI t hk
  obtain ⟨D, ho, hf⟩ := h
  have hD : IsMap D := by obtain ⟨es, clock, _, _, _, rfl⟩ := ho; exact ⟨_, rfl⟩
  obtain ⟨w', hrun, ho', hg⟩ := ho.update key3 Tryz.underlying92 hn hkey (plainElem_int Tryz.underlying3 hx)
  refine ⟨w', hrun, hg, ⟨_, ho', fun u ku hu => ?_⟩⟩
  unfold upd
  by_cases e : u = t
  · subst e
    obtain rfl : ku = _ := Option.some.inj (hu.symm.trans hkey)
    rw [if_pos rfl]
    exact fun z => atKey_put_same hD (key3.key hkey) _ z
  · have hne : ku ≠ .int .i64 t := fun e1 => e (by
      subst e1
      have := key3.inj hu hkey
      simpa using this)
    rw [if_neg e]
    have h3 := hf u ku hu
    cases e3 : f u with
    | none => rw [e3] at h3; exact fun z => (atKey_put_other hne _ z).trans (h3 z)
    | some y => rw [e3] at h3; exact fun z => (atKey_put_other hne _ z).trans (h3 z)
theorem MapI.below {w w' : World} {b n : Nat} {f : Int → Option Int} (h : MapI w b n f) (hb : w'.heap[b]? = w.heap[b]?) : MapI w' b n f := by
  obtain ⟨D, ⟨es, clock, h1, h2⟩, h3⟩ := h
  exact ⟨D, ⟨es, clock, hb.trans h1, h2⟩, h3⟩
theorem MapI.isMap {w : World} {b n : Nat} {f : Int → Option Int} (h : MapI w b n f) : ∃ es clock, w.heap[b]? = some (.map es clock) := by
  obtain ⟨D, ⟨es, clock, h1, h2⟩, h3⟩ := h
  exact ⟨es, clock, h1⟩
theorem row_typed {w : World} {B E s n : Nat} {v : Value} {xs : List Value} (h : w.ownsRow B E s v n xs) (k : Nat) (hk : v.ownBlock = some k) : ∃ cur, w.heap[k]? = some (.cells cur E (0, 0)) := by
  rcases h.2 with ⟨h1, h2⟩ | ⟨b, cap, cur, h1, h2, h3, h4⟩
  · rw [h1] at hk
    cases hk
  · rw [h1] at hk
    obtain rfl : b = k := by simpa [Value.ownBlock] using hk
    exact ⟨cur, h3⟩
theorem row_below {w w' : World} {B E s n : Nat} {v : Value} {xs : List Value} (ho : w.ownsRow B E s v n xs) (hb : Below w.heap.size w w') : w'.ownsRow B E s v n xs := by
  have hlt := World.ownsRow.lt ho
  refine ⟨ho.1, ?_⟩
  rcases ho.2 with h1 | ⟨g, cap, cur, rfl, h2, h3, h4⟩
  · exact .inl h1
  · refine .inr ⟨g, cap, cur, rfl, h2, ?_, h4⟩
    rw [hb.block g (hlt g rfl).2]
    exact h3
/-- A row stays where a block of another kind is written. -/
theorem row_other {w w' : World} {B E s n k : Nat} {v : Value} {xs : List Value} {o : Obj} (ho : w.ownsRow B E s v n xs) (hk : w.heap[k]? = some o) (hn : ∀ cur, o ≠ .cells cur E (0, 0)) (hg : w.grownBy w' (some k)) : w'.ownsRow B E s v n xs := by
  refine ho.kept hg ?_
  by_cases e : v.ownBlock = none
  · exact .inl e
  · refine .inr fun e2 => ?_
    obtain ⟨cur, hc⟩ := row_typed ho k e2
    rw [hk] at hc
    injection hc with hc
    exact hn cur hc
/-- A row stays where a row of another kind grows. -/
theorem row_row {w w' : World} {B B' E E' s s' n n' : Nat} {v v' : Value} {xs ys : List Value} (ho : w.ownsRow B E s v n xs) (hv : w.ownsRow B' E' s' v' n' ys) (hne : E ≠ E') (hg : w.grownBy w' v'.ownBlock) : w'.ownsRow B E s v n xs := by
  cases e : v'.ownBlock with
  | none =>
    rw [e] at hg
    exact ho.kept hg (by by_cases e2 : v.ownBlock = none; exact .inl e2; exact .inr e2)
  | some k =>
    rw [e] at hg
    obtain ⟨cur, hc⟩ := row_typed hv k e
    exact row_other ho hc (fun c h => by injection h with _ h; exact hne h.symm) hg
theorem block_row {w w' : World} {B' E' s' n' k : Nat} {v' : Value} {ys : List Value} {o : Obj} (hk : w.heap[k]? = some o) (hn : ∀ cur, o ≠ .cells cur E' (0, 0)) (hv : w.ownsRow B' E' s' v' n' ys) (hg : w.grownBy w' v'.ownBlock) : w'.heap[k]? = some o := by
  refine (hg.block k (lt_of_some hk) fun e => ?_).trans hk
  obtain ⟨cur, hc⟩ := row_typed hv k e.symm
  rw [hk] at hc
  injection hc with hc
  exact hn cur hc
theorem rowOf_length' (L : List Tm) : (rowOf L).length = L.length * 4 := rowOf_length L
/-- What a Dag holds. -/
structure DSt (w : World) (B mb n : Nat) (told : Int → Option Int) (vt : Value) (todo : List Int) (vo : Value) (out : List Tm) : Prop where
  hB : B ≤ w.heap.size
  lm : B ≤ mb
  map : MapI w mb n told
  todo : w.ownsRow B 3 1 vt todo.length (todo.map (Value.int .i64))
  out : w.ownsRow B 69 4 vo out.length (rowOf out)
variable {w w' : World} {B mb n : Nat} {told : Int → Option Int} {vt : Value} {todo : List Int} {vo : Value} {out : List Tm}
theorem DSt.below (h : DSt w B mb n told vt todo vo out) (hb : Below w.heap.size w w') : DSt w' B mb n told vt todo vo out := by
  obtain ⟨es, clock, hm⟩ := h.map.isMap
  exact ⟨Nat.le_trans h.hB hb.size, h.lm, h.map.below (hb.block mb (lt_of_some hm)), row_below h.todo hb, row_below h.out hb⟩
theorem DSt.pushed {u : Int} {o : Obj} {v' : Value} (h : DSt w B mb n told vt todo vo out) (ho : OI w' B v' (todo ++ [u])) (hg : (w.alloc o).grownBy w' vt.ownBlock) : DSt w' B mb n told v' (todo ++ [u]) vo out := by
  have h1 := h.below (w' := w.alloc o) ((Below.refl _ _).alloc (Nat.le_refl _) _)
  obtain ⟨es, clock, hm⟩ := h1.map.isMap
  exact ⟨Nat.le_trans h1.hB hg.size, h.lm, h1.map.below ((block_row hm (fun _ => by simp) h1.todo hg).trans hm.symm), ho, row_row h1.out h1.todo (by decide) hg⟩
theorem DSt.told' {u : Tm} {o : Obj} {v' : Value} (h : DSt w B mb n told vt todo vo out) (ho : w'.ownsRow B 69 4 v' (out.length + 1) (rowOf out ++ u.cs)) (hg : (w.alloc o).grownBy w' vo.ownBlock) : DSt w' B mb n told vt todo v' (out ++ [u]) := by
  have h1 := h.below (w' := w.alloc o) ((Below.refl _ _).alloc (Nat.le_refl _) _)
  obtain ⟨es, clock, hm⟩ := h1.map.isMap
  refine ⟨Nat.le_trans h1.hB hg.size, h.lm, h1.map.below ((block_row hm (fun _ => by simp) h1.out hg).trans hm.symm), row_row h1.todo h1.out (by decide) hg, ?_⟩
  rw [List.length_append, rowOf_append]
  have e : rowOf [u] = u.cs := by simp [rowOf]
  rw [e]
  exact ho
theorem DSt.mapped {told' : Int → Option Int} (h : DSt w B mb n told vt todo vo out) (hm : MapI w' mb (n + 1) told') (hg : w.grownBy w' (some mb)) : DSt w' B mb (n + 1) told' vt todo vo out := by
  obtain ⟨es, clock, he⟩ := h.map.isMap
  exact ⟨Nat.le_trans h.hB hg.size, h.lm, hm, row_other h.todo he (fun _ => by simp) hg, row_other h.out he (fun _ => by simp) hg⟩
theorem DSt.popped {A : Option Addr} {c : Nat} (h : DSt w B mb n told (.slice A todo.length c) todo vo out) (hp : 0 < todo.length) : DSt w B mb n told (.slice A (todo.length - 1) c) todo.dropLast vo out := by
  refine ⟨h.hB, h.lm, h.map, ?_, h.out⟩
  rcases h.todo.2 with ⟨h1, h2⟩ | ⟨b, cap, cur, h1, h2, h3, h4, h5, h6, h7⟩
  · omega
  · injection h1 with e1 e2 e3
    subst e1 e3
    refine ⟨by simp, .inr ⟨b, c, cur, by rw [List.length_dropLast], h2, h3, by rw [List.length_dropLast]; omega, h5, h6, ?_⟩⟩
    rw [List.length_dropLast, List.map_dropLast, ← h7, List.dropLast_eq_take]
    simp [List.take_take]
    omega
theorem OI_of (h : DSt w B mb n told vt todo vo out) : OI w B vt todo := h.todo
end Go.Proofs.YtenaljhkdnhgpaaGreatDoor.T
