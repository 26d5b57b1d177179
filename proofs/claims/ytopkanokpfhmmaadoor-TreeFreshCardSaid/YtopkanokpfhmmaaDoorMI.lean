/- A map from numbers to numbers. -/
import Derived.Test.YtopkanokpfhmmaaDoorTR
import Derived.Maps.Own
import Derived.Maps.Views
namespace Go.Proofs.YtopkanokpfhmmaaDoor
open Go.RowKit Go.Maps
set_option linter.unusedVariables false
set_option linter.unusedSimpArgs false

theorem zero3 (w : World) : (zeroValue 3).run Tryd.prog w = .ok (.int .i64 0) w := by kernel_rfl
theorem lt_of_some {w : World} {g : Nat} {o : Obj} (h : w.heap[g]? = some o) : g < w.heap.size := (Array.getElem?_eq_some_iff.1 h).1
theorem key3 : Keyed Tryd.prog 3 := int_keyed Tryd.underlying3
/-- A map from numbers to numbers. -/
def MapI (w : World) (b n : Nat) (f : Int → Option Int) : Prop :=
  ∃ D : DataW Unit, w.ownsMap Tryd.prog 3 (plainElem Tryd.prog 3) b n D ∧ ∀ t kl, keyOf Tryd.prog 3 (.int .i64 t) = some kl → match f t with
    | none => ∀ z, D.atKey kl z = z
    | some x => ∀ z, D.atKey kl z = .lit (.int .i64 x)
theorem keyI (x : Int) (h : (Lit.int .i64 x).wf = true) : keyOf Tryd.prog 3 (.int .i64 x) = some (.int .i64 x) := by
  simp [keyOf, mapKey, Tryd.underlying3, h]
theorem MapI.look {w : World} {b n : Nat} {f : Int → Option Int} (h : MapI w b n f) (t : Int) (hk : (Lit.int .i64 t).wf = true) :
    (Instr.lookup 57 (.map (some b)) (.int .i64 t) true).run Tryd.prog w = .ok (.tuple #[.int .i64 ((f t).getD 0), .bool (f t).isSome]) w := by
  have hkey := keyI t hk
  obtain ⟨D, ⟨es, clock, hb, F, _, rfl⟩, hf⟩ := h
  have hf := hf t _ hkey
  rcases fit_look true key3 Tryd.underlying57 (zero3 w) hb F hkey with ⟨hrun, _, hat⟩ | ⟨e0, y, _, _, hrun, hRv, hat, _⟩
  · rw [hrun]
    cases e : f t with
    | none => rfl
    | some x =>
      rw [e] at hf
      have h1 := hf .nil
      rw [hat] at h1
      cases h1
  · rw [hrun]
    cases e : f t with
    | none =>
      rw [e] at hf
      have h1 := hf .nil
      have h2 := hf (.lit (.int .i64 0))
      rw [hat] at h1 h2
      rw [h1] at h2
      cases h2
    | some x =>
      rw [e] at hf
      have h1 := hf .nil
      rw [hat] at h1
      obtain ⟨a, ha, hz, _⟩ := plainElem_int_inv Tryd.underlying3 hRv
      rw [hz] at h1
      rw [ha]
      simp only [DataW.lit.injEq, Lit.int.injEq, true_and] at h1
      rw [h1]
      rfl
theorem MapI.look1 {w : World} {b n : Nat} {f : Int → Option Int} (h : MapI w b n f) (t : Int) (hk : (Lit.int .i64 t).wf = true) :
    (Instr.lookup 57 (.map (some b)) (.int .i64 t) false).run Tryd.prog w = .ok (.int .i64 ((f t).getD 0)) w := by
  have hkey := keyI t hk
  obtain ⟨D, ⟨es, clock, hb, F, _, rfl⟩, hf⟩ := h
  have hf := hf t _ hkey
  rcases fit_look false key3 Tryd.underlying57 (zero3 w) hb F hkey with ⟨hrun, _, hat⟩ | ⟨e0, y, _, _, hrun, hRv, hat, _⟩
  · rw [hrun]
    cases e : f t with
    | none => rfl
    | some x =>
      rw [e] at hf
      have h1 := hf .nil
      rw [hat] at h1
      cases h1
  · rw [hrun]
    cases e : f t with
    | none =>
      rw [e] at hf
      have h1 := hf .nil
      have h2 := hf (.lit (.int .i64 0))
      rw [hat] at h1 h2
      rw [h1] at h2
      cases h2
    | some x =>
      rw [e] at hf
      have h1 := hf .nil
      rw [hat] at h1
      obtain ⟨a, ha, hz, _⟩ := plainElem_int_inv Tryd.underlying3 hRv
      rw [hz] at h1
      rw [ha]
      simp only [DataW.lit.injEq, Lit.int.injEq, true_and] at h1
      rw [h1]
      rfl
def upd (f : Int → Option Int) (x v : Int) : Int → Option Int := fun y => if y = x then some v else f y
theorem MapI.put {w : World} {b n : Nat} {f : Int → Option Int} (h : MapI w b n f) (hn : n < maxLen) (t x : Int) (hk : (Lit.int .i64 t).wf = true) (hx : (Lit.int .i64 x).wf = true) :
    ∃ w', (Instr.mapUpdate 57 (.map (some b)) (.int .i64 t) (.int .i64 x)).run Tryd.prog w = .ok () w' ∧ w.grownBy w' (some b) ∧ MapI w' b (n + 1) (upd f t x) := by
  have hkey := keyI t hk
  obtain ⟨D, ho, hf⟩ := h
  have hD : IsMap D := by obtain ⟨es, clock, _, _, _, rfl⟩ := ho; exact ⟨_, rfl⟩
  obtain ⟨w', hrun, ho', hg⟩ := ho.update key3 Tryd.underlying57 hn hkey (plainElem_int Tryd.underlying3 hx)
  refine ⟨w', hrun, hg, ⟨_, ho', fun u ku hu => ?_⟩⟩
  unfold upd
  by_cases e : u = t
  · subst e
    obtain rfl : ku = _ := Option.some.inj (hu.symm.trans hkey)
    rw [if_pos rfl]
    exact fun z => atKey_put_same hD (key3.key hkey) _ z
  · have hne : ku ≠ .int .i64 t := fun e1 => e (by
      subst e1
      have := key3.inj hu hkey
      simpa using this)
    rw [if_neg e]
    have h3 := hf u ku hu
    cases e3 : f u with
    | none => rw [e3] at h3; exact fun z => (atKey_put_other hne _ z).trans (h3 z)
    | some y => rw [e3] at h3; exact fun z => (atKey_put_other hne _ z).trans (h3 z)
theorem MapI.below {w w' : World} {b n : Nat} {f : Int → Option Int} (h : MapI w b n f) (hb : w'.heap[b]? = w.heap[b]?) : MapI w' b n f := by
  obtain ⟨D, ⟨es, clock, h1, h2⟩, h3⟩ := h
  exact ⟨D, ⟨es, clock, hb.trans h1, h2⟩, h3⟩
theorem MapI.isMap {w : World} {b n : Nat} {f : Int → Option Int} (h : MapI w b n f) : ∃ es clock, w.heap[b]? = some (.map es clock) := by
  obtain ⟨D, ⟨es, clock, h1, h2⟩, h3⟩ := h
  exact ⟨es, clock, h1⟩
theorem MapI.under {w w' : World} {b n : Nat} {f : Int → Option Int} (h : MapI w b n f) (hb : Below w.heap.size w w') : MapI w' b n f := by
  obtain ⟨es, clock, hm⟩ := h.isMap
  exact h.below (hb.block b (lt_of_some hm))
theorem MapI.made (w : World) : MapI (w.alloc (.map #[] 0)) w.heap.size 0 (fun _ => none) := ⟨_, w.ownsMap_made Tryd.prog 3 _, fun t kl _ z => rfl⟩
theorem MapI.congr {w : World} {b n : Nat} {f g : Int → Option Int} (h : MapI w b n f) (he : ∀ t, f t = g t) : MapI w b n g := by
  rw [show g = f from (funext fun t => (he t).symm)]
  exact h
end Go.Proofs.YtopkanokpfhmmaaDoor
