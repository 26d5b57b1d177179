/- Trees and members as arguments. -/
import Derived.Test.YtopkanokpfhmmaaDoorUC
import Derived.ChangeSame
import Derived.Deep.Slices
import Derived.OpenShut
import Derived.Deep.Fields
import Derived.WideShapes
namespace Go.Proofs.YtopkanokpfhmmaaDoor
open Go Go.RowKit Go.WideShapes
set_option linter.unusedVariables false
set_option linter.unusedSimpArgs false

section
variable {H : Type} {enc : TypeId × Value → H} {P : Program} {w : World}
/-- These cells read as something of type t. -/
def Opz (enc : TypeId × Value → H) (P : Program) (w : World) (t : TypeId) (cs : List Value) : Prop := ∃ n x, DataW.trod enc P w 0 (fun _ => true) true n t cs = some x
theorem Opz.int {t : TypeId} {k : IntKind} {cs : List Value} (hu : P.underlying t = some (.int k)) (h : Opz enc P w t cs) : ∃ n : Int, cs = [.int k n] ∧ (Lit.int k n).wf = true := by
  obtain ⟨n, x, h⟩ := h
  obtain ⟨m, e, _, hw⟩ := DataW.trod_int hu h
  exact ⟨m, e, hw⟩
theorem Opz.field {t : TypeId} {fs : Array Field} {cs : List Value} (hu : P.underlying t = some (.struct fs)) (h : Opz enc P w t cs) :
    cs.length = P.cellsOf t ∧ ∀ (i : Nat) (f : Field), fs[i]? = some f → Opz enc P w f.type ((cs.drop f.offset).take (P.cellsOf f.type)) := by
  obtain ⟨n, x, h⟩ := h
  obtain ⟨xs, m, _, rfl, hl, hlen, hf⟩ := DataW.trod_struct hu h
  refine ⟨hl, fun i f hi => ?_⟩
  have hx := hf i f hi
  have hi2 : i < fs.size := (Array.getElem?_eq_some_iff.1 hi).1
  have hg : xs[i]? = some xs[i] := List.getElem?_eq_getElem (by omega)
  exact ⟨m, xs[i], hx.trans hg⟩
theorem Opz.slice {t e : TypeId} {cs : List Value} (hu : P.underlying t = some (.slice e)) (h : Opz enc P w t cs) :
    ∃ A n c, cs = [.slice A n c] ∧ (A = none → n = 0 ∧ c = 0) ∧ ∀ a, A = some a → n ≤ c ∧ c ≤ maxLen ∧
      ∀ i, i < n → ∃ cs', cs'.length = P.cellsOf e ∧ (∀ j u, cs'[j]? = some u → w.cell? (a.add (i * P.cellsOf e + j)) = some u) ∧ Opz enc P w e cs' := by
  obtain ⟨m, x, h⟩ := h
  rcases DataW.trod_slice hu h with ⟨rfl, rfl⟩ | ⟨a, len, cap, elems, rest, m', _, rfl, rfl, _, hl, hm, hlen, hel, hsp, _⟩
  · exact ⟨none, 0, 0, rfl, fun _ => ⟨rfl, rfl⟩, fun a h => by cases h⟩
  · refine ⟨some a, len, cap, rfl, (fun h => by cases h), fun a' ha => ?_⟩
    injection ha with ha
    subst ha
    refine ⟨hl, hm, fun i hi => ?_⟩
    have h1 := hel i hi
    rw [List.getElem?_eq_getElem (by omega)] at h1
    obtain ⟨cs', h2, h3⟩ := Option.bind_eq_some_iff.1 h1
    obtain ⟨_, h4, h5⟩ := World.cells?_some h2
    refine ⟨cs', h4, fun j u hj => ?_, ⟨m', _, h3⟩⟩
    have hj2 := (List.getElem?_eq_some_iff.1 hj).1
    rw [← Go.Deep.add_add, h5 j (by omega), hj]
end
theorem Opz.arg {H : Type} {enc : TypeId × Value → H} {P : Program} {w : World} {t : TypeId} {v : Value} {d : DataW H} {p : List MemPlace} (h : DataW.Trod enc P w 0 (fun _ => true) true t v d p) : Opz enc P w t v.cells.toList := by
  obtain ⟨n, hn⟩ := h
  exact ⟨n, _, hn⟩
theorem cof3 : Tryd.prog.cellsOf 3 = 1 := by kernel_rfl
theorem cof45 : Tryd.prog.cellsOf 45 = 4 := by kernel_rfl
theorem cof26 : Tryd.prog.cellsOf 26 = 3 := by kernel_rfl
theorem cof24 : Tryd.prog.cellsOf 24 = 1 := by kernel_rfl
theorem cof32 : Tryd.prog.cellsOf 32 = 1 := by kernel_rfl
theorem cof22 : Tryd.prog.cellsOf 22 = 1 := by kernel_rfl
theorem open_ints {H : Type} {enc : TypeId × Value → H} {w : World} {cs : List Value} (h : Opz enc Tryd.prog w 32 cs) : ∃ A c l, cs = [.slice A l.length c] ∧ Ints w (.slice A l.length c) l := by
  obtain ⟨A, n, c, rfl, h1, h2⟩ := h.slice Tryd.underlying32
  cases A with
  | none =>
    obtain ⟨rfl, rfl⟩ := h1 rfl
    exact ⟨none, 0, [], rfl, Ints.nil w⟩
  | some a =>
    obtain ⟨q1, q2, q3⟩ := h2 a rfl
    rw [cof3] at q3
    have key : ∀ i, ∃ x : Int, i < n → w.cell? (a.add i) = some (.int .i64 x) := fun i => by
      by_cases hi : i < n
      · obtain ⟨cs', h3, h4, h5⟩ := q3 i hi
        obtain ⟨x, rfl, _⟩ := h5.int Tryd.underlying3
        exact ⟨x, fun _ => by have := h4 0 _ rfl; rw [Nat.mul_one, Nat.add_zero] at this; exact this⟩
      · exact ⟨0, fun h => absurd h hi⟩
    obtain ⟨f, hf⟩ := Classical.axiomOfChoice key
    have hlen : ((List.range n).map f).length = n := by simp
    refine ⟨some a, c, (List.range n).map f, by rw [hlen], ⟨some a, c, rfl, by rw [hlen]; exact q1, q2, fun h0 => ?_⟩⟩
    rw [hlen] at h0
    have c0 := hf 0 h0
    have hs := World.cell?_spot c0
    obtain ⟨b, o, q⟩ := a
    have hs : q = none := by simpa [Addr.add] using hs
    subst hs
    refine ⟨b, o, rfl, fun i x hi => ?_⟩
    have hil : i < n := by have := (List.getElem?_eq_some_iff.1 hi).1; rw [hlen] at this; exact this
    rw [List.getElem?_map, List.getElem?_range hil] at hi
    have := hf i hil
    rw [Addr.add_lit] at this
    rw [this, ← Option.some.inj hi]
theorem open_node {H : Type} {enc : TypeId × Value → H} {w : World} {cs : List Value} (h : Opz enc Tryd.prog w 45 cs) : ∃ (a : Node) (A : Option Addr) (c : Nat), cs = [.int .i64 a.pub, .int .i64 a.mem, .int .i64 a.ep, .slice A a.un.length c] ∧ Ints w (.slice A a.un.length c) a.un ∧ (Lit.int .i64 a.mem).wf = true := by
  obtain ⟨h0, hf⟩ := h.field Tryd.underlying45
  rw [cof45] at h0
  obtain ⟨x0, x1, x2, x3, rfl⟩ : ∃ a b c d, cs = [a, b, c, d] := by
    match cs, h0 with
    | [a, b, c, d], _ => exact ⟨a, b, c, d, rfl⟩
  have f0 : Opz enc Tryd.prog w 3 [x0] := by have h := hf 0 _ rfl; exact h
  have f1 : Opz enc Tryd.prog w 3 [x1] := by have h := hf 1 _ rfl; exact h
  have f2 : Opz enc Tryd.prog w 3 [x2] := by have h := hf 2 _ rfl; exact h
  have f3 : Opz enc Tryd.prog w 32 [x3] := by have h := hf 3 _ rfl; exact h
  obtain ⟨p, e0, _⟩ := f0.int Tryd.underlying3
  obtain ⟨m, e1, w1⟩ := f1.int Tryd.underlying3
  obtain ⟨e, e2, _⟩ := f2.int Tryd.underlying3
  obtain ⟨A, c, l, e3, hI⟩ := open_ints f3
  refine ⟨⟨p, m, e, l⟩, A, c, ?_, hI, w1⟩
  simp at e0 e1 e2 e3
  rw [e0, e1, e2, e3]
theorem open_tree {H : Type} {enc : TypeId × Value → H} {w : World} {v : Value} {d : DataW H} {p : List MemPlace} {base : Nat} {r : Reach} (hv : Value.okWide Tryd.prog w r base 24 v) (h : DataW.Trod enc Tryd.prog w 0 (fun _ => true) true 24 v d p) : ∃ vs n F, v = .agg #[vs] ∧ TrR w vs n F := by
  obtain ⟨cs, rfl, hcs⟩ := okWide_struct Tryd.underlying24 hv
  have ho := Opz.arg h
  obtain ⟨h0, hf⟩ := ho.field Tryd.underlying24
  obtain ⟨x, rfl⟩ : ∃ x, cs = #[x] := by
    rw [cof24] at hcs
    match cs, hcs with
    | ⟨[x]⟩, _ => exact ⟨x, rfl⟩
  have f0 : Opz enc Tryd.prog w 22 [x] := by have h := hf 0 _ rfl; exact h
  refine ⟨x, ?_⟩
  obtain ⟨A, n, c, e, h1, h2⟩ := f0.slice Tryd.underlying22
  obtain rfl : x = .slice A n c := by simpa using e
  cases A with
  | none =>
    obtain ⟨rfl, rfl⟩ := h1 rfl
    exact ⟨0, fun _ => zeroN, rfl, TrR.nil _ _⟩
  | some a =>
    obtain ⟨q1, q2, q3⟩ := h2 a rfl
    rw [cof45] at q3
    have key : ∀ i, ∃ y : Node, i < n → ∃ (A : Option Addr) (c : Nat), w.cell? (a.add (i * 4)) = some (.int .i64 y.pub) ∧ w.cell? (a.add (i * 4 + 1)) = some (.int .i64 y.mem) ∧ w.cell? (a.add (i * 4 + 2)) = some (.int .i64 y.ep) ∧ w.cell? (a.add (i * 4 + 3)) = some (.slice A y.un.length c) ∧ Ints w (.slice A y.un.length c) y.un ∧ (Lit.int .i64 y.mem).wf = true := fun i => by
      by_cases hi : i < n
      · obtain ⟨cs', h3, h4, h5⟩ := q3 i hi
        obtain ⟨y, A, c, rfl, hI, hw⟩ := open_node h5
        exact ⟨y, fun _ => ⟨A, c, h4 0 _ rfl, h4 1 _ rfl, h4 2 _ rfl, h4 3 _ rfl, hI, hw⟩⟩
      · exact ⟨zeroN, fun h => absurd h hi⟩
    obtain ⟨F, hF⟩ := Classical.axiomOfChoice key
    refine ⟨n, F, rfl, some a, c, rfl, q1, q2, fun hn => ?_⟩
    obtain ⟨_, _, c0, _⟩ := hF 0 hn
    have hs := World.cell?_spot c0
    obtain ⟨b, o, q⟩ := a
    have hs : q = none := by simpa [Addr.add] using hs
    subst hs
    refine ⟨b, o, rfl, fun y hy => ?_⟩
    obtain ⟨A, c', d0, d1, d2, d3, hI, hw⟩ := hF y hy
    rw [Addr.add_lit] at d0 d1 d2 d3
    exact ⟨d0, by rw [Nat.add_assoc]; exact d1, by rw [Nat.add_assoc]; exact d2, ⟨A, c', by rw [Nat.add_assoc]; exact d3, hI⟩, hw⟩
theorem open_add {H : Type} {enc : TypeId × Value → H} {w : World} {v : Value} {d : DataW H} {p : List MemPlace} {base : Nat} {r : Reach} (hv : Value.okWide Tryd.prog w r base 26 v) (h : DataW.Trod enc Tryd.prog w 0 (fun _ => true) true 26 v d p) : ∃ a : Addx, v = a.v ∧ (Lit.int .i64 a.mem).wf = true := by
  obtain ⟨cs, rfl, hcs⟩ := okWide_struct Tryd.underlying26 hv
  have ho := Opz.arg h
  obtain ⟨h0, hf⟩ := ho.field Tryd.underlying26
  obtain ⟨x0, x1, x2, rfl⟩ : ∃ a b c, cs = #[a, b, c] := by
    rw [cof26] at hcs
    match cs, hcs with
    | ⟨[a, b, c]⟩, _ => exact ⟨a, b, c, rfl⟩
  have f0 : Opz enc Tryd.prog w 3 [x0] := by have h := hf 0 _ rfl; exact h
  have f1 : Opz enc Tryd.prog w 3 [x1] := by have h := hf 1 _ rfl; exact h
  have f2 : Opz enc Tryd.prog w 3 [x2] := by have h := hf 2 _ rfl; exact h
  obtain ⟨m, e0, w0⟩ := f0.int Tryd.underlying3
  obtain ⟨e, e1, _⟩ := f1.int Tryd.underlying3
  obtain ⟨q, e2, _⟩ := f2.int Tryd.underlying3
  obtain rfl : x0 = .int .i64 m := by simpa using e0
  obtain rfl : x1 = .int .i64 e := by simpa using e1
  obtain rfl : x2 = .int .i64 q := by simpa using e2
  exact ⟨⟨m, e, q⟩, rfl, w0⟩
end Go.Proofs.YtopkanokpfhmmaaDoor
