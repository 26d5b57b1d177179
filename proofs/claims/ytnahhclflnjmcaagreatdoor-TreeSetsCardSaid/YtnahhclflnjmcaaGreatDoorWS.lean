/- A tree as an argument: what it holds; no list in it is too large. -/
import Derived.Test.YtnahhclflnjmcaaGreatDoorA7
import Derived.ChangeSame
import Derived.Deep.Slices
import Derived.SizedLaws
namespace Go.Proofs.YtnahhclflnjmcaaGreatDoor
open Go Go.RowKit Go.WideShapes
set_option linter.unusedVariables false
set_option linter.unusedSimpArgs false
set_option maxRecDepth 100000

section
variable {H : Type} {enc : TypeId × Value → H} {P : Program} {w : World}
/-- These cells read as something of type t, and no list in it is too large. -/
def Opn (enc : TypeId × Value → H) (P : Program) (w : World) (t : TypeId) (cs : List Value) : Prop := ∃ n x, DataW.trod enc P w 0 (fun _ => true) true n t cs = some x ∧ ∀ k ∈ x.1.weights P t, k ≤ reachBytes
theorem Opn.int {t : TypeId} {k : IntKind} {cs : List Value} (hu : P.underlying t = some (.int k)) (h : Opn enc P w t cs) : ∃ n : Int, cs = [.int k n] ∧ (Lit.int k n).wf = true := by
  obtain ⟨n, x, h, _⟩ := h
  obtain ⟨m, e, _, hw⟩ := DataW.trod_int hu h
  exact ⟨m, e, hw⟩
theorem Opn.bool {t : TypeId} {cs : List Value} (hu : P.underlying t = some .bool) (h : Opn enc P w t cs) : ∃ b, cs = [.bool b] := by
  obtain ⟨n, x, h, _⟩ := h
  obtain ⟨m, e, _⟩ := DataW.trod_bool hu h
  exact ⟨m, e⟩
theorem weightsEach_mem : ∀ (ts : List TypeId) (ds : List (DataW H)) (i : Nat) (t : TypeId) (d : DataW H), ts[i]? = some t → ds[i]? = some d → ∀ k ∈ d.weights P t, k ∈ DataW.weightsEach P ts ds
  | t :: ts, d :: ds, 0, _, _, h1, h2, k, hk => by
    obtain rfl : t = _ := by simpa using h1
    obtain rfl : d = _ := by simpa using h2
    simp [DataW.weightsEach, hk]
  | t :: ts, d :: ds, i + 1, t', d', h1, h2, k, hk => by
    have := weightsEach_mem ts ds i t' d' (by simpa using h1) (by simpa using h2) k hk
    simp [DataW.weightsEach, this]
  | [], _, _, _, _, h1, _, _, _ => by simp at h1
  | _ :: _, [], _, _, _, _, h2, _, _ => by simp at h2
theorem weightsAll_mem : ∀ (ds : List (DataW H)) (t : TypeId) (d : DataW H), d ∈ ds → ∀ k ∈ d.weights P t, k ∈ DataW.weightsAll P t ds
  | d :: ds, t, d', h, k, hk => by
    rcases List.mem_cons.1 h with rfl | h
    · simp [DataW.weightsAll, hk]
    · have := weightsAll_mem ds t d' h k hk
      simp [DataW.weightsAll, this]
  | [], _, _, h, _, _ => by cases h
theorem Opn.field {t : TypeId} {fs : Array Field} {cs : List Value} (hu : P.underlying t = some (.struct fs)) (h : Opn enc P w t cs) :
    cs.length = P.cellsOf t ∧ ∀ (i : Nat) (f : Field), fs[i]? = some f → Opn enc P w f.type ((cs.drop f.offset).take (P.cellsOf f.type)) := by
  obtain ⟨n, x, h, hw⟩ := h
  obtain ⟨xs, m, _, rfl, hl, hlen, hf⟩ := DataW.trod_struct hu h
  refine ⟨hl, fun i f hi => ?_⟩
  have hx := hf i f hi
  have hi2 : i < fs.size := (Array.getElem?_eq_some_iff.1 hi).1
  have hg : xs[i]? = some xs[i] := List.getElem?_eq_getElem (by omega)
  refine ⟨m, xs[i], hx.trans hg, fun k hk => hw k ?_⟩
  simp only [DataW.weights, hu]
  refine weightsEach_mem _ _ i f.type (xs[i]).1 ?_ ?_ k hk
  · rw [List.getElem?_map, Array.getElem?_toList, hi]; rfl
  · rw [List.getElem?_map, hg]; rfl
theorem Opn.slice {t e : TypeId} {cs : List Value} (hu : P.underlying t = some (.slice e)) (h : Opn enc P w t cs) :
    ∃ A n c, cs = [.slice A n c] ∧ (A = none → n = 0 ∧ c = 0) ∧ ∀ a, A = some a → n ≤ c ∧ c ≤ maxLen ∧ c * P.bytesOf e ≤ reachBytes ∧
      ∀ i, i < n → ∃ cs', cs'.length = P.cellsOf e ∧ (∀ j u, cs'[j]? = some u → w.cell? (a.add (i * P.cellsOf e + j)) = some u) ∧ Opn enc P w e cs' := by
  obtain ⟨m, x, h, hw⟩ := h
  rcases DataW.trod_slice hu h with ⟨rfl, rfl⟩ | ⟨a, len, cap, elems, rest, m', _, rfl, rfl, _, hl, hm, hlen, hel, hsp, _⟩
  · exact ⟨none, 0, 0, rfl, fun _ => ⟨rfl, rfl⟩, fun a h => by cases h⟩
  · have hrl := (hsp rfl).1
    have hws : (elems.length + rest.length) * P.bytesOf e ≤ reachBytes := hw _ (by simp [DataW.weights, hu])
    rw [hlen, hrl, show len + (cap - len) = cap by omega] at hws
    refine ⟨some a, len, cap, rfl, (fun h => by cases h), fun a' ha => ?_⟩
    injection ha with ha
    subst ha
    refine ⟨hl, hm, hws, fun i hi => ?_⟩
    have h1 := hel i hi
    rw [List.getElem?_eq_getElem (by omega)] at h1
    obtain ⟨cs', h2, h3⟩ := Option.bind_eq_some_iff.1 h1
    obtain ⟨_, h4, h5⟩ := World.cells?_some h2
    refine ⟨cs', h4, fun j u hj => ?_, ⟨m', _, h3, fun k hk => hw k ?_⟩⟩
    · have hj2 := (List.getElem?_eq_some_iff.1 hj).1
      rw [← Go.Deep.add_add, h5 j (by omega), hj]
    · simp only [DataW.weights, hu]
      refine List.mem_cons_of_mem _ (List.mem_append_left _ (weightsAll_mem _ e _ ?_ k hk))
      exact List.mem_map_of_mem (List.getElem_mem _)
end
/-- The argument of a law, opened. -/
theorem Opn.arg {H : Type} {enc : TypeId × Value → H} {P : Program} {w : World} {ts : List TypeId} {ds : List (DataW H)} {i : Nat} {t : TypeId} {v : Value} {d : DataW H} {p : List MemPlace} (hs : (DataW.weightsEach P ts ds).all (· ≤ reachBytes) = true) (h1 : ts[i]? = some t) (h2 : ds[i]? = some d)
    (h : DataW.Trod enc P w 0 (fun _ => true) true t v d p) : Opn enc P w t v.cells.toList := by
  obtain ⟨n, hn⟩ := h
  refine ⟨n, _, hn, fun k hk => ?_⟩
  have := List.all_eq_true.1 hs k (weightsEach_mem _ _ i t d h1 h2 k hk)
  simpa using this
theorem byt3 : Tryz.prog.bytesOf 3 = 8 := by kernel_rfl
theorem open_intsS {H : Type} {enc : TypeId × Value → H} {w : World} {cs : List Value} (h : Opn enc Tryz.prog w 31 cs) : ∃ A c l, cs = [.slice A l.length c] ∧ Ints w (.slice A l.length c) l ∧ l.length ≤ 17592186044416 := by
  obtain ⟨A, n, c, rfl, h1, h2⟩ := h.slice Tryz.underlying31
  cases A with
  | none =>
    obtain ⟨rfl, rfl⟩ := h1 rfl
    exact ⟨none, 0, [], rfl, Ints.nil w, Nat.zero_le _⟩
  | some a =>
    obtain ⟨q1, q2, q4, q3⟩ := h2 a rfl
    rw [cof3] at q3
    have key : ∀ i, ∃ x : Int, i < n → w.cell? (a.add i) = some (.int .i64 x) := fun i => by
      by_cases hi : i < n
      · obtain ⟨cs', h3, h4, h5⟩ := q3 i hi
        obtain ⟨x, rfl, _⟩ := h5.int Tryz.underlying3
        exact ⟨x, fun _ => by have := h4 0 _ rfl; rw [Nat.mul_one, Nat.add_zero] at this; exact this⟩
      · exact ⟨0, fun h => absurd h hi⟩
    obtain ⟨f, hf⟩ := Classical.axiomOfChoice key
    have hlen : ((List.range n).map f).length = n := by simp
    refine ⟨some a, c, (List.range n).map f, by rw [hlen], ⟨some a, c, rfl, by rw [hlen]; exact q1, q2, fun h0 => ?_⟩, by
      rw [hlen]
      rw [byt3] at q4
      unfold reachBytes at q4
      omega⟩
    rw [hlen] at h0
    have c0 := hf 0 h0
    have hs := World.cell?_spot c0
    obtain ⟨b, o, q⟩ := a
    have hs : q = none := by simpa [Addr.add] using hs
    subst hs
    refine ⟨b, o, rfl, fun i x hi => ?_⟩
    have hil : i < n := by have := (List.getElem?_eq_some_iff.1 hi).1; rw [hlen] at this; exact this
    rw [List.getElem?_map, List.getElem?_range hil] at hi
    have := hf i hil
    rw [Addr.add_lit] at this
    rw [this, ← Option.some.inj hi]
theorem open_nodeS {H : Type} {enc : TypeId × Value → H} {w : World} {cs : List Value} (h : Opn enc Tryz.prog w 95 cs) : ∃ (a : Node) (A : Option Addr) (c : Nat), cs = [.int .i64 a.pub, .int .i64 a.mem, .int .i64 a.ep, .slice A a.un.length c] ∧ Ints w (.slice A a.un.length c) a.un ∧ (Lit.int .i64 a.mem).wf = true ∧ a.un.length ≤ 17592186044416 := by
  obtain ⟨h0, hf⟩ := h.field Tryz.underlying95
  rw [cof45] at h0
  obtain ⟨x0, x1, x2, x3, rfl⟩ : ∃ a b c d, cs = [a, b, c, d] := by
    match cs, h0 with
    | [a, b, c, d], _ => exact ⟨a, b, c, d, rfl⟩
  have f0 : Opn enc Tryz.prog w 3 [x0] := by have h := hf 0 _ rfl; exact h
  have f1 : Opn enc Tryz.prog w 3 [x1] := by have h := hf 1 _ rfl; exact h
  have f2 : Opn enc Tryz.prog w 3 [x2] := by have h := hf 2 _ rfl; exact h
  have f3 : Opn enc Tryz.prog w 31 [x3] := by have h := hf 3 _ rfl; exact h
  obtain ⟨p, e0, _⟩ := f0.int Tryz.underlying3
  obtain ⟨m, e1, w1⟩ := f1.int Tryz.underlying3
  obtain ⟨e, e2, _⟩ := f2.int Tryz.underlying3
  obtain ⟨A, c, l, e3, hI, hU⟩ := open_intsS f3
  refine ⟨⟨p, m, e, l⟩, A, c, ?_, hI, w1, hU⟩
  simp at e0 e1 e2 e3
  rw [e0, e1, e2, e3]
theorem open_treeS {H : Type} {enc : TypeId × Value → H} {w : World} {v : Value} {ts : List TypeId} {ds : List (DataW H)} {i : Nat} {d : DataW H} {p : List MemPlace} {base : Nat} {r : Reach} (hs : (DataW.weightsEach Tryz.prog ts ds).all (· ≤ reachBytes) = true) (i1 : ts[i]? = some 24) (i2 : ds[i]? = some d) (hv : Value.okWide Tryz.prog w r base 24 v) (h : DataW.Trod enc Tryz.prog w 0 (fun _ => true) true 24 v d p) : ∃ vs n F, v = .agg #[vs] ∧ TrR w vs n F ∧ ∀ y, y < n → (F y).un.length ≤ 17592186044416 := by
  obtain ⟨cs, rfl, hcs⟩ := okWide_struct Tryz.underlying24 hv
  have ho := Opn.arg hs i1 i2 h
  obtain ⟨h0, hf⟩ := ho.field Tryz.underlying24
  obtain ⟨x, rfl⟩ : ∃ x, cs = #[x] := by
    rw [cof24] at hcs
    match cs, hcs with
    | ⟨[x]⟩, _ => exact ⟨x, rfl⟩
  have f0 : Opn enc Tryz.prog w 22 [x] := by have h := hf 0 _ rfl; exact h
  refine ⟨x, ?_⟩
  obtain ⟨A, n, c, e, h1, h2⟩ := f0.slice Tryz.underlying22
  obtain rfl : x = .slice A n c := by simpa using e
  cases A with
  | none =>
    obtain ⟨rfl, rfl⟩ := h1 rfl
    exact ⟨0, fun _ => zeroN, rfl, TrR.nil _ _, fun y hy => absurd hy (Nat.not_lt_zero _)⟩
  | some a =>
    obtain ⟨q1, q2, q4, q3⟩ := h2 a rfl
    rw [cof45] at q3
    have key : ∀ i, ∃ y : Node, i < n → ∃ (A : Option Addr) (c : Nat), w.cell? (a.add (i * 4)) = some (.int .i64 y.pub) ∧ w.cell? (a.add (i * 4 + 1)) = some (.int .i64 y.mem) ∧ w.cell? (a.add (i * 4 + 2)) = some (.int .i64 y.ep) ∧ w.cell? (a.add (i * 4 + 3)) = some (.slice A y.un.length c) ∧ Ints w (.slice A y.un.length c) y.un ∧ (Lit.int .i64 y.mem).wf = true ∧ y.un.length ≤ 17592186044416 := fun i => by
      by_cases hi : i < n
      · obtain ⟨cs', h3, h4, h5⟩ := q3 i hi
        obtain ⟨y, A, c, rfl, hI, hw, hU⟩ := open_nodeS h5
        exact ⟨y, fun _ => ⟨A, c, h4 0 _ rfl, h4 1 _ rfl, h4 2 _ rfl, h4 3 _ rfl, hI, hw, hU⟩⟩
      · exact ⟨zeroN, fun h => absurd h hi⟩
    obtain ⟨F, hF⟩ := Classical.axiomOfChoice key
    refine ⟨n, F, rfl, ⟨some a, c, rfl, q1, q2, fun hn => ?_⟩, fun y hy => by obtain ⟨_, _, _, _, _, _, _, _, hU⟩ := hF y hy; exact hU⟩
    obtain ⟨_, _, c0, _⟩ := hF 0 hn
    have hs := World.cell?_spot c0
    obtain ⟨b, o, q⟩ := a
    have hs : q = none := by simpa [Addr.add] using hs
    subst hs
    refine ⟨b, o, rfl, fun y hy => ?_⟩
    obtain ⟨A, c', d0, d1, d2, d3, hI, hw, _⟩ := hF y hy
    rw [Addr.add_lit] at d0 d1 d2 d3
    exact ⟨d0, by rw [Nat.add_assoc]; exact d1, by rw [Nat.add_assoc]; exact d2, ⟨A, c', by rw [Nat.add_assoc]; exact d3, hI⟩, hw⟩
end Go.Proofs.YtnahhclflnjmcaaGreatDoor
