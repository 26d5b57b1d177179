/- An argument that is a row of terms; what a store of made terms keeps. -/
import Derived.Test.YtenaljhkdnhgpaaGreatDoorTLives
import Derived.Deep.Slices
import Derived.Deep.Fields
import Derived.ChangeSame
import Derived.Lib.SmallJoins
namespace Go.Proofs.YtenaljhkdnhgpaaGreatDoor.T
open Go.ChangeShapes Go.WideShapes Go.Deep Go.RowKit

section
variable {H : Type} {enc : TypeId × Value → H} {P : Program} {w : World} {base : Nat} {spare : Nat → Bool} {held : Bool}
theorem open_slice_fields {t e : TypeId} {fs : Array Field} {fuel : Nat} {cs : List Value} {x : DataW H × List MemPlace} (ht : P.underlying t = some (.slice e)) (he : P.underlying e = some (.struct fs))
    (hone : oneCellFields P fs = true) (hC : P.cellsOf e = fs.size) (h : DataW.trod enc P w base spare held fuel t cs = some x) :
    (cs = [.slice none 0 0] ∧ x = (.nil, [])) ∨
    ∃ (a : Addr) (len cap m : Nat) (D : Nat → DataW H) (Pl : Nat → List MemPlace), cs = [.slice (some a) len cap] ∧ base ≤ a.block ∧ len ≤ cap ∧ cap ≤ maxLen ∧ m = (if spare a.block then cap else len) ∧
      x = (.slice ((List.range len).map D) ((List.range (m - len)).map fun j => D (len + j)), MemPlace.row a (m * fs.size) ++ (List.range m).flatMap Pl) ∧
      ∀ i, i < m → ∃ (ys : List (DataW H × List MemPlace)) (n : Nat), D i = .agg (ys.map (·.1)) ∧ Pl i = ys.flatMap (·.2) ∧ ys.length = fs.size ∧
        ∀ (j : Nat) (f : Field), fs[j]? = some f → ∃ (v : Value) (y : DataW H × List MemPlace), w.cell? (a.add (i * fs.size + j)) = some v ∧ ys[j]? = some y ∧ DataW.trod enc P w base spare held n f.type [v] = some y := by
  rcases open_slice ht h with h0 | ⟨a, len, cap, m, n, D, Pl, hcs, hb, hl, hm, hmm, hx, hi⟩
  · exact .inl h0
  · refine .inr ⟨a, len, cap, m, D, Pl, hcs, hb, hl, hm, hmm, by rw [hC] at hx; exact hx, fun i him => ?_⟩
    obtain ⟨cs', hc, ht'⟩ := hi i him
    rw [hC] at hc
    obtain ⟨ys, n', hn', hy, hlen, hyl, hf⟩ := DataW.trod_struct he ht'
    obtain ⟨_, hcl, hat⟩ := World.cells?_some hc
    simp only [Prod.mk.injEq] at hy
    refine ⟨ys, n', hy.1, hy.2, hyl, fun j f hj => ?_⟩
    obtain ⟨ho, hk⟩ := hone_of hone j f hj
    have hjl : j < fs.size := (Array.getElem?_eq_some_iff.1 hj).1
    have hcell := hat j hjl
    have hv : cs'[j]? = some (cs'[j]'(by omega)) := List.getElem?_eq_getElem (by omega)
    have h1 := hf j f hj
    rw [ho, hk] at h1
    have hone' : (cs'.drop j).take 1 = [cs'[j]'(by omega)] := by
      rw [List.drop_eq_getElem_cons (by omega)]
      rfl
    rw [hone'] at h1
    have hys : ys[j]? = some (ys[j]'(by omega)) := List.getElem?_eq_getElem (by omega)
    refine ⟨_, _, ?_, hys, h1.trans hys⟩
    rw [← Go.Deep.add_add, hcell, hv]
end
/-- A term's four cells from a place on. -/
def Four (w : World) (a : Addr) (t : Tm) : Prop := w.cell? a = some (.int .u8 t.k) ∧ w.cell? (a.add 1) = some (.int .i64 t.n) ∧ w.cell? (a.add 2) = some (.int .i64 t.a) ∧ w.cell? (a.add 3) = some (.int .i64 t.b)
/-- An argument that is a row of terms. -/
def AT (w : World) (v : Value) (L : List Tm) : Prop := (v = .slice none 0 0 ∧ L = []) ∨ ∃ a c, v = .slice (some a) L.length c ∧ L.length ≤ c ∧ c ≤ maxLen ∧ ∀ i t, L[i]? = some t → Four w (a.add (i * 4)) t
theorem open_terms_gen {H : Type} {P : Program} {enc : TypeId × Value → H} {w : World} {v : Value} {d : DataW H} {p : List MemPlace} {base : Nat} {t e : TypeId} {fs : Array Field} {g0 g1 g2 g3 : Field} (hu : P.underlying t = some (.slice e)) (he : P.underlying e = some (.struct fs)) (hone : oneCellFields P fs = true) (hC : P.cellsOf e = fs.size) (h4 : fs.size = 4)
    (f0 : fs[0]? = some g0) (f1 : fs[1]? = some g1) (f2 : fs[2]? = some g2) (f3 : fs[3]? = some g3) (u0 : P.underlying g0.type = some (.int .u8)) (u1 : P.underlying g1.type = some (.int .i64)) (u2 : P.underlying g2.type = some (.int .i64)) (u3 : P.underlying g3.type = some (.int .i64))
    (hv : Value.okWide P w .any base t v) (h : DataW.Trod enc P w 0 (fun _ => true) true t v d p) :
    ∃ L, AT w v L ∧ ∀ t ∈ L, Tm.wf t := by
  obtain ⟨A, len, cap, rfl⟩ := okWide_slice hu hv
  obtain ⟨fuel, hf⟩ := h
  rcases open_slice_fields hu he hone hC hf with ⟨h0, _⟩ | ⟨a, l, c, m, D, Pl, h0, _, hl, hc, hm, _, hi⟩
  · simp [Value.cells] at h0
    obtain ⟨rfl, rfl, rfl⟩ := h0
    exact ⟨[], .inl ⟨rfl, rfl⟩, fun t ht => by cases ht⟩
  · simp [Value.cells] at h0
    obtain ⟨rfl, rfl, rfl⟩ := h0
    simp only [if_true] at hm
    subst hm
    have hx : ∀ i, i < len → ∃ t : Tm, Four w (a.add (i * 4)) t ∧ Tm.wf t := by
      intro i hi'
      obtain ⟨ys, n, _, _, _, hj⟩ := hi i (by omega)
      rw [h4] at hj
      obtain ⟨v0, y0, c0, _, t0⟩ := hj 0 _ f0
      obtain ⟨v1, y1, c1, _, t1⟩ := hj 1 _ f1
      obtain ⟨v2, y2, c2, _, t2⟩ := hj 2 _ f2
      obtain ⟨v3, y3, c3, _, t3⟩ := hj 3 _ f3
      obtain ⟨n0, e0, _, w0⟩ := DataW.trod_int u0 t0
      obtain ⟨n1, e1, _, w1⟩ := DataW.trod_int u1 t1
      obtain ⟨n2, e2, _, w2⟩ := DataW.trod_int u2 t2
      obtain ⟨n3, e3, _, w3⟩ := DataW.trod_int u3 t3
      simp only [List.cons.injEq, and_true] at e0 e1 e2 e3
      subst e0 e1 e2 e3
      exact ⟨⟨n0, n1, n2, n3⟩, ⟨by simpa using c0, by rw [Go.Deep.add_add]; exact c1, by rw [Go.Deep.add_add]; exact c2, by rw [Go.Deep.add_add]; exact c3⟩, w0, w1, w2, w3⟩
    obtain ⟨f, hf'⟩ := Classical.axiomOfChoice (r := fun (i : Fin len) (t : Tm) => Four w (a.add (i.1 * 4)) t ∧ Tm.wf t) (fun i => hx i.1 i.2)
    refine ⟨(List.finRange len).map f, .inr ⟨a, _, by simp, by simpa using hl, hc, fun i t ht => ?_⟩, fun t ht => ?_⟩
    · rw [List.getElem?_map] at ht
      obtain ⟨j, hj, rfl⟩ := Option.map_eq_some_iff.1 ht
      obtain ⟨h1, h2⟩ := List.getElem?_eq_some_iff.1 hj
      rw [List.getElem_finRange] at h2
      subst h2
      have := (hf' ⟨i, by simpa using h1⟩).1
      exact this
    · obtain ⟨j, _, rfl⟩ := List.mem_map.1 ht
      exact (hf' j).2
theorem open_terms {H : Type} {enc : TypeId × Value → H} {w : World} {v : Value} {d : DataW H} {p : List MemPlace} {base : Nat} : Value.okWide Tryz.prog w .any base 22 v → DataW.Trod enc Tryz.prog w 0 (fun _ => true) true 22 v d p → ∃ L, AT w v L ∧ ∀ t ∈ L, Tm.wf t :=
  open_terms_gen Tryz.underlying22 Tryz.underlying69 (by kernel_rfl) (by kernel_rfl) rfl rfl rfl rfl rfl Tryz.underlying67 Tryz.underlying2 Tryz.underlying3 Tryz.underlying3
theorem Four.below {w w' : World} {a : Addr} {t : Tm} {B : Nat} (h : Four w a t) (hb : Below B w w') (ha : a.block < B) : Four w' a t :=
  ⟨(hb.cell ha).trans h.1, (hb.cell (p := a.add 1) ha).trans h.2.1, (hb.cell (p := a.add 2) ha).trans h.2.2.1, (hb.cell (p := a.add 3) ha).trans h.2.2.2⟩
theorem AT.below {w w' : World} {v : Value} {L : List Tm} (h : AT w v L) (hb : Below w.heap.size w w') : AT w' v L := by
  rcases h with h | ⟨a, c, h1, h2, h3, h4⟩
  · exact .inl h
  · exact .inr ⟨a, c, h1, h2, h3, fun i t ht => (h4 i t ht).below hb (World.block_lt_of_cell? w _ (h4 i t ht).1)⟩
theorem add_off (b o k : Nat) : (⟨b, o, none⟩ : Addr).add k = ⟨b, o + k, none⟩ := by
  cases k with
  | zero => simp [Addr.add]
  | succ k => simp [Addr.add]
/-- The cells of a row that has a term. -/
theorem AT.form {w : World} {A : Option Addr} {n c : Nat} {L : List Tm} (h : AT w (.slice A n c) L) (k : Nat) (t : Tm) (ht : L[k]? = some t) : ∃ b o, A = some ⟨b, o, none⟩ ∧ b < w.heap.size ∧ ∀ w', Below w.heap.size w w' → ∀ (i : Nat) (u : Tm), L[i]? = some u →
    w'.cell? ⟨b, o + i * 4, none⟩ = some (.int .u8 u.k) ∧ w'.cell? ⟨b, o + i * 4 + 1, none⟩ = some (.int .i64 u.n) ∧ w'.cell? ⟨b, o + i * 4 + 2, none⟩ = some (.int .i64 u.a) ∧ w'.cell? ⟨b, o + i * 4 + 3, none⟩ = some (.int .i64 u.b) := by
  rcases h with ⟨h1, h2⟩ | ⟨a, c', h1, h2, h3, h4⟩
  · rw [h2] at ht; simp at ht
  · injection h1 with h5 h6 h7
    have hp : 0 < L.length := by have := (List.getElem?_eq_some_iff.1 ht).1; omega
    have h0 := (h4 0 L[0] (List.getElem?_eq_getElem hp)).1
    have hs := World.cell?_spot h0
    have hlt := World.block_lt_of_cell? w _ h0
    obtain ⟨b, o, q⟩ := a
    have hs : q = none := by simpa [Addr.add] using hs
    subst hs
    refine ⟨b, o, h5, by simpa [Addr.add] using hlt, fun w' hw' i u hu => ?_⟩
    have h7 := (h4 i u hu).below hw' (World.block_lt_of_cell? w _ (h4 i u hu).1)
    unfold Four at h7
    rw [Go.Deep.add_add, Go.Deep.add_add, Go.Deep.add_add, add_off, add_off, add_off, add_off] at h7
    simpa only [Nat.add_assoc] using h7
end Go.Proofs.YtenaljhkdnhgpaaGreatDoor.T
