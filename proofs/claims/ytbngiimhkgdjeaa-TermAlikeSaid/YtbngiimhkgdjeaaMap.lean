/- The map from terms to their numbers. -/
import Derived.Test.YtbngiimhkgdjeaaStore
import Derived.Maps.Own
import Derived.Maps.Views
namespace Go.Proofs.Ytbngiimhkgdjeaa
open Go.RowKit Go.Maps

theorem laidOut : laidOutB Try.prog = true := by kernel_rfl
theorem wide30 : (match Try.prog.underlying 30 with | some (.array _ _) | some (.struct _) => true | _ => false) = true := by rw [Try.underlying30]
theorem key30 : Keyed Try.prog 30 := Keyed.of_law (deep_law_laid laidOut (m := 2) (by omega) (of_decide_eq_true (by kernel_rfl)) (by kernel_rfl) wide30)
theorem zero3 (w : World) : (zeroValue 3).run Try.prog w = .ok (.int .i64 0) w := by kernel_rfl

def MapIs (w : World) (b n : Nat) (f : Tm → Option Int) : Prop :=
  ∃ D : DataW Unit, w.ownsMap Try.prog 30 (plainElem Try.prog 3) b n D ∧ ∀ t kl, keyOf Try.prog 30 t.v = some kl → match f t with
    | none => ∀ z, D.atKey kl z = z
    | some x => ∀ z, D.atKey kl z = .lit (.int .i64 x)
theorem MapIs.look {w : World} {b n : Nat} {f : Tm → Option Int} (h : MapIs w b n f) (t : Tm) (hk : ∃ kl, keyOf Try.prog 30 t.v = some kl) :
    (Instr.lookup 55 (.map (some b)) t.v true).run Try.prog w = .ok (.tuple #[.int .i64 ((f t).getD 0), .bool (f t).isSome]) w := by
  obtain ⟨kl, hkey⟩ := hk
  obtain ⟨D, ⟨es, clock, hb, F, _, rfl⟩, hf⟩ := h
  have hf := hf t kl hkey
  rcases fit_look true key30 Try.underlying55 (zero3 w) hb F hkey with ⟨hrun, _, hat⟩ | ⟨e0, y, _, _, hrun, hRv, hat, _⟩
  · rw [hrun]
    cases e : f t with
    | none => rfl
    | some x =>
      rw [e] at hf
      have h1 := hf .nil
      rw [hat] at h1
      cases h1
  · rw [hrun]
    cases e : f t with
    | none =>
      rw [e] at hf
      have h1 := hf .nil
      have h2 := hf (.lit (.int .i64 0))
      rw [hat] at h1 h2
      rw [h1] at h2
      cases h2
    | some x =>
      rw [e] at hf
      have h1 := hf .nil
      rw [hat] at h1
      obtain ⟨a, ha, hz, _⟩ := plainElem_int_inv Try.underlying3 hRv
      rw [hz] at h1
      rw [ha]
      injection h1 with h1
      injection h1 with _ h1
      rw [h1]
      rfl
theorem MapIs.put {w : World} {b n : Nat} {f : Tm → Option Int} (h : MapIs w b n f) (hn : n < maxLen) (t : Tm) (x : Int) (hk : ∃ kl, keyOf Try.prog 30 t.v = some kl) (hx : (Lit.int .i64 x).wf = true) :
    ∃ w', (Instr.mapUpdate 55 (.map (some b)) t.v (.int .i64 x)).run Try.prog w = .ok () w' ∧ w.grownBy w' (some b) ∧ ∀ f' : Tm → Option Int, f' t = some x → (∀ u, u ≠ t → f' u = f u) → MapIs w' b (n + 1) f' := by
  obtain ⟨kl, hkey⟩ := hk
  obtain ⟨D, ho, hf⟩ := h
  have hD : IsMap D := by obtain ⟨es, clock, _, _, _, rfl⟩ := ho; exact ⟨_, rfl⟩
  obtain ⟨w', hrun, ho', hg⟩ := ho.update key30 Try.underlying55 hn hkey (plainElem_int Try.underlying3 hx)
  refine ⟨w', hrun, hg, fun f' h1 h2 => ⟨_, ho', fun u ku hu => ?_⟩⟩
  by_cases e : u = t
  · subst e
    obtain rfl : ku = kl := Option.some.inj (hu.symm.trans hkey)
    rw [h1]
    exact fun z => atKey_put_same hD (key30.key hkey) _ z
  · have hne : ku ≠ kl := fun e1 => e (by
      subst e1
      have := key30.inj hu hkey
      unfold Tm.v at this
      obtain ⟨a, b, c, d⟩ := u
      obtain ⟨a', b', c', d'⟩ := t
      simp at this
      obtain ⟨rfl, rfl, rfl, rfl⟩ := this
      rfl)
    rw [h2 u e]
    have h3 := hf u ku hu
    cases e3 : f u with
    | none => rw [e3] at h3; exact fun z => (atKey_put_other hne _ z).trans (h3 z)
    | some y => rw [e3] at h3; exact fun z => (atKey_put_other hne _ z).trans (h3 z)
theorem cells30 : Try.prog.cellsOf 30 = 4 := by kernel_rfl
theorem cells28 : Try.prog.cellsOf 28 = 1 := by kernel_rfl
theorem cells2 : Try.prog.cellsOf 2 = 1 := by kernel_rfl
theorem cells3 : Try.prog.cellsOf 3 = 1 := by kernel_rfl
theorem leaf28 (d : Nat) (x : Int) (h : (Lit.int .u8 x).wf = true) : Try.prog.keyLits (d + 1) 28 [.int .u8 x] = some [.int .u8 x] := by unfold Program.keyLits; rw [Try.underlying28]; simp [h]
theorem leaf2 (d : Nat) (x : Int) (h : (Lit.int .i64 x).wf = true) : Try.prog.keyLits (d + 1) 2 [.int .i64 x] = some [.int .i64 x] := by unfold Program.keyLits; rw [Try.underlying2]; simp [h]
theorem leaf3 (d : Nat) (x : Int) (h : (Lit.int .i64 x).wf = true) : Try.prog.keyLits (d + 1) 3 [.int .i64 x] = some [.int .i64 x] := by unfold Program.keyLits; rw [Try.underlying3]; simp [h]
theorem key_lits (d : Nat) (k n a b : Int) (h1 : (Lit.int .u8 k).wf = true) (h2 : (Lit.int .i64 n).wf = true) (h3 : (Lit.int .i64 a).wf = true) (h4 : (Lit.int .i64 b).wf = true) :
    Try.prog.keyLits (d + 1 + 1) 30 [.int .u8 k, .int .i64 n, .int .i64 a, .int .i64 b] = some [.int .u8 k, .int .i64 n, .int .i64 a, .int .i64 b] := by
  unfold Program.keyLits
  rw [Try.underlying30]
  simp [cells30, cells28, cells2, cells3, leaf28 d k h1, leaf2 d n h2, leaf3 d a h3, leaf3 d b h4]
theorem key_of (t : Tm) (h1 : (Lit.int .u8 t.k).wf = true) (h2 : (Lit.int .i64 t.n).wf = true) (h3 : (Lit.int .i64 t.a).wf = true) (h4 : (Lit.int .i64 t.b).wf = true) : ∃ kl, keyOf Try.prog 30 t.v = some kl := by
  unfold Tm.v
  simp [keyOf, Try.underlying30]
  refine ⟨⟨by kernel_rfl, by simp [Value.formed, Try.underlying30, cells30]⟩, ?_⟩
  have key := key_lits 91 t.k t.n t.a t.b h1 h2 h3 h4
  exact ⟨_, _, key, rfl⟩
end Go.Proofs.Ytbngiimhkgdjeaa
