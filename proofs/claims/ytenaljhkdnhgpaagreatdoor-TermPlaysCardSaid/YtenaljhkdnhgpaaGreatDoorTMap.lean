/- The map from terms to their numbers. -/
import Derived.Test.YtenaljhkdnhgpaaGreatDoorTStore
import Derived.Maps.Own
import Derived.Maps.Views
namespace Go.Proofs.YtenaljhkdnhgpaaGreatDoor.T
open Go.RowKit Go.Maps

theorem laidOut : laidOutB Tryz.prog = true := by kernel_rfl
theorem key_struct {P : Program} {k : TypeId} {fs : Array Field} (hl : laidOutB P = true) (hrow : k < P.types.size) (hk : P.keyTypeAt 2 k = true) (hu : P.underlying k = some (.struct fs)) : Keyed P k :=
  Keyed.of_law (deep_law_laid hl (m := 2) (by omega) hrow hk (by rw [hu]))
theorem key30 : Keyed Tryz.prog 69 := key_struct laidOut (of_decide_eq_true (by kernel_rfl)) (by kernel_rfl) Tryz.underlying69
theorem zero3 (w : World) : (zeroValue 3).run Tryz.prog w = .ok (.int .i64 0) w := by kernel_rfl

def MapIs (w : World) (b n : Nat) (f : Tm → Option Int) : Prop :=
  ∃ D : DataW Unit, w.ownsMap Tryz.prog 69 (plainElem Tryz.prog 3) b n D ∧ ∀ t kl, keyOf Tryz.prog 69 t.v = some kl → match f t with
    | none => ∀ z, D.atKey kl z = z
    | some x => ∀ z, D.atKey kl z = .lit (.int .i64 x)
theorem MapIs.look {w : World} {b n : Nat} {f : Tm → Option Int} (h : MapIs w b n f) (t : Tm) (hk : ∃ kl, keyOf Tryz.prog 69 t.v = some kl) :
    (Instr.lookup 88 (.map (some b)) t.v true).run Tryz.prog w = .ok (.tuple #[.int .i64 ((f t).getD 0), .bool (f t).isSome]) w := by
  obtain ⟨kl, hkey⟩ := hk
  obtain ⟨D, ⟨es, clock, hb, F, _, rfl⟩, hf⟩ := h
  have hf := hf t kl hkey
  rcases fit_look true key30 Tryz.underlying88 (zero3 w) hb F hkey with ⟨hrun, _, hat⟩ | ⟨e0, y, _, _, hrun, hRv, hat, _⟩
  · rw [hrun]
    cases e : f t with
    | none => rfl
    | some x =>
      rw [e] at hf
      have h1 := hf .nil
      rw [hat] at h1
      cases h1
  · rw [hrun]
    cases e : f t with
    | none =>
      rw [e] at hf
      have h1 := hf .nil
      have h2 := hf (.lit (.int .i64 0))
      rw [hat] at h1 h2
      rw [h1] at h2
      cases h2
    | some x =>
      rw [e] at hf
      have h1 := hf .nil
      rw [hat] at h1
      obtain ⟨a, ha, hz, _⟩ := plainElem_int_inv Tryz.underlying3 hRv
      rw [hz] at h1
      rw [ha]
      simp only [DataW.lit.injEq, Lit.int.injEq, true_and] at h1
      rw [h1]
      rfl
theorem MapIs.put {w : World} {b n : Nat} {f : Tm → Option Int} (h : MapIs w b n f) (hn : n < maxLen) (t : Tm) (x : Int) (hk : ∃ kl, keyOf Tryz.prog 69 t.v = some kl) (hx : (Lit.int .i64 x).wf = true) :
    ∃ w', (Instr.mapUpdate 88 (.map (some b)) t.v (.int .i64 x)).run Tryz.prog w = .ok () w' ∧ w.grownBy w' (some b) ∧ ∀ f' : Tm → Option Int, f' t = some x → (∀ u, u ≠ t → f' u = f u) → MapIs w' b (n + 1) f' := by
  obtain ⟨kl, hkey⟩ := hk
  obtain ⟨D, ho, hf⟩ := h
  have hD : IsMap D := by obtain ⟨es, clock, _, _, _, rfl⟩ := ho; exact ⟨_, rfl⟩
  obtain ⟨w', hrun, ho', hg⟩ := ho.update key30 Tryz.underlying88 hn hkey (plainElem_int Tryz.underlying3 hx)
  refine ⟨w', hrun, hg, fun f' h1 h2 => ⟨_, ho', fun u ku hu => ?_⟩⟩
  by_cases e : u = t
  · subst e
    obtain rfl : ku = kl := Option.some.inj (hu.symm.trans hkey)
    rw [h1]
    exact fun z => atKey_put_same hD (key30.key hkey) _ z
  · have hne : ku ≠ kl := fun e1 => e (by
      subst e1
      have := key30.inj hu hkey
      unfold Tm.v at this
      obtain ⟨a, b, c, d⟩ := u
      obtain ⟨a', b', c', d'⟩ := t
      simp at this
      obtain ⟨rfl, rfl, rfl, rfl⟩ := this
      rfl)
    rw [h2 u e]
    have h3 := hf u ku hu
    cases e3 : f u with
    | none => rw [e3] at h3; exact fun z => (atKey_put_other hne _ z).trans (h3 z)
    | some y => rw [e3] at h3; exact fun z => (atKey_put_other hne _ z).trans (h3 z)
theorem cells30 : Tryz.prog.cellsOf 69 = 4 := by kernel_rfl
theorem cells28 : Tryz.prog.cellsOf 67 = 1 := by kernel_rfl
theorem cells2 : Tryz.prog.cellsOf 2 = 1 := by kernel_rfl
theorem cells3 : Tryz.prog.cellsOf 3 = 1 := by kernel_rfl
theorem leaf28 (d : Nat) (x : Int) (h : (Lit.int .u8 x).wf = true) : Tryz.prog.keyLits (d + 1) 67 [.int .u8 x] = some [.int .u8 x] := by unfold Program.keyLits; rw [Tryz.underlying67]; simp [h]
theorem leaf2 (d : Nat) (x : Int) (h : (Lit.int .i64 x).wf = true) : Tryz.prog.keyLits (d + 1) 2 [.int .i64 x] = some [.int .i64 x] := by unfold Program.keyLits; rw [Tryz.underlying2]; simp [h]
theorem leaf3 (d : Nat) (x : Int) (h : (Lit.int .i64 x).wf = true) : Tryz.prog.keyLits (d + 1) 3 [.int .i64 x] = some [.int .i64 x] := by unfold Program.keyLits; rw [Tryz.underlying3]; simp [h]
theorem key_lits (d : Nat) (k n a b : Int) (h1 : (Lit.int .u8 k).wf = true) (h2 : (Lit.int .i64 n).wf = true) (h3 : (Lit.int .i64 a).wf = true) (h4 : (Lit.int .i64 b).wf = true) :
    Tryz.prog.keyLits (d + 1 + 1) 69 [.int .u8 k, .int .i64 n, .int .i64 a, .int .i64 b] = some [.int .u8 k, .int .i64 n, .int .i64 a, .int .i64 b] := by
  unfold Program.keyLits
  rw [Tryz.underlying69]
  simp [cells30, cells28, cells2, cells3, leaf28 d k h1, leaf2 d n h2, leaf3 d a h3, leaf3 d b h4]
theorem key_of (t : Tm) (h1 : (Lit.int .u8 t.k).wf = true) (h2 : (Lit.int .i64 t.n).wf = true) (h3 : (Lit.int .i64 t.a).wf = true) (h4 : (Lit.int .i64 t.b).wf = true) : ∃ kl, keyOf Tryz.prog 69 t.v = some kl := by
  unfold Tm.v
  simp [keyOf, Tryz.underlying69]
  refine ⟨⟨by kernel_rfl, by simp [Value.formed, Tryz.underlying69, cells30]⟩, ?_⟩
  have key := key_lits 388 t.k t.n t.a t.b h1 h2 h3 h4
  exact ⟨_, _, key, rfl⟩
end Go.Proofs.YtenaljhkdnhgpaaGreatDoor.T
