/- What an argument reads as: opened step by step, with its lists' sizes. -/
import Derived.Test.YthahadhdhpcndaaAlive
import Derived.ChangeSame
import Derived.Deep.Slices
import Derived.SizedLaws
namespace Go.Proofs.Ythahadhdhpcndaa
open Go Go.RowKit
set_option linter.unusedVariables false
set_option linter.unusedSimpArgs false

section
variable {H : Type} {enc : TypeId × Value → H} {P : Program} {w : World}
/-- These cells read as something of type t, and no list in it is too large. -/
def Opn (enc : TypeId × Value → H) (P : Program) (w : World) (t : TypeId) (cs : List Value) : Prop := ∃ n x, DataW.trod enc P w 0 (fun _ => true) true n t cs = some x ∧ ∀ k ∈ x.1.weights P t, k ≤ reachBytes
theorem Opn.int {t : TypeId} {k : IntKind} {cs : List Value} (hu : P.underlying t = some (.int k)) (h : Opn enc P w t cs) : ∃ n : Int, cs = [.int k n] ∧ (Lit.int k n).wf = true := by
  obtain ⟨n, x, h, _⟩ := h
  obtain ⟨m, e, _, hw⟩ := DataW.trod_int hu h
  exact ⟨m, e, hw⟩
theorem Opn.bool {t : TypeId} {cs : List Value} (hu : P.underlying t = some .bool) (h : Opn enc P w t cs) : ∃ b, cs = [.bool b] := by
  obtain ⟨n, x, h, _⟩ := h
  obtain ⟨m, e, _⟩ := DataW.trod_bool hu h
  exact ⟨m, e⟩
theorem weightsEach_mem : ∀ (ts : List TypeId) (ds : List (DataW H)) (i : Nat) (t : TypeId) (d : DataW H), ts[i]? = some t → ds[i]? = some d → ∀ k ∈ d.weights P t, k ∈ DataW.weightsEach P ts ds
  | t :: ts, d :: ds, 0, _, _, h1, h2, k, hk => by
    obtain rfl : t = _ := by simpa using h1
    obtain rfl : d = _ := by simpa using h2
    simp [DataW.weightsEach, hk]
  | t :: ts, d :: ds, i + 1, t', d', h1, h2, k, hk => by
    have := weightsEach_mem ts ds i t' d' (by simpa using h1) (by simpa using h2) k hk
    simp [DataW.weightsEach, this]
  | [], _, _, _, _, h1, _, _, _ => by simp at h1
  | _ :: _, [], _, _, _, _, h2, _, _ => by simp at h2
theorem weightsAll_mem : ∀ (ds : List (DataW H)) (t : TypeId) (d : DataW H), d ∈ ds → ∀ k ∈ d.weights P t, k ∈ DataW.weightsAll P t ds
  | d :: ds, t, d', h, k, hk => by
    rcases List.mem_cons.1 h with rfl | h
    · simp [DataW.weightsAll, hk]
    · have := weightsAll_mem ds t d' h k hk
      simp [DataW.weightsAll, this]
  | [], _, _, h, _, _ => by cases h
theorem Opn.field {t : TypeId} {fs : Array Field} {cs : List Value} (hu : P.underlying t = some (.struct fs)) (h : Opn enc P w t cs) :
    cs.length = P.cellsOf t ∧ ∀ (i : Nat) (f : Field), fs[i]? = some f → Opn enc P w f.type ((cs.drop f.offset).take (P.cellsOf f.type)) := by
  obtain ⟨n, x, h, hw⟩ := h
  obtain ⟨xs, m, _, rfl, hl, hlen, hf⟩ := DataW.trod_struct hu h
  refine ⟨hl, fun i f hi => ?_⟩
  have hx := hf i f hi
  have hi2 : i < fs.size := (Array.getElem?_eq_some_iff.1 hi).1
  have hg : xs[i]? = some xs[i] := List.getElem?_eq_getElem (by omega)
  refine ⟨m, xs[i], hx.trans hg, fun k hk => hw k ?_⟩
  simp only [DataW.weights, hu]
  refine weightsEach_mem _ _ i f.type (xs[i]).1 ?_ ?_ k hk
  · rw [List.getElem?_map, Array.getElem?_toList, hi]; rfl
  · rw [List.getElem?_map, hg]; rfl
theorem Opn.slice {t e : TypeId} {cs : List Value} (hu : P.underlying t = some (.slice e)) (h : Opn enc P w t cs) :
    ∃ A n c, cs = [.slice A n c] ∧ (A = none → n = 0 ∧ c = 0) ∧ ∀ a, A = some a → n ≤ c ∧ c ≤ maxLen ∧ c * P.bytesOf e ≤ reachBytes ∧
      ∀ i, i < n → ∃ cs', cs'.length = P.cellsOf e ∧ (∀ j u, cs'[j]? = some u → w.cell? (a.add (i * P.cellsOf e + j)) = some u) ∧ Opn enc P w e cs' := by
  obtain ⟨m, x, h, hw⟩ := h
  rcases DataW.trod_slice hu h with ⟨rfl, rfl⟩ | ⟨a, len, cap, elems, rest, m', _, rfl, rfl, _, hl, hm, hlen, hel, hsp, _⟩
  · exact ⟨none, 0, 0, rfl, fun _ => ⟨rfl, rfl⟩, fun a h => by cases h⟩
  · have hrl := (hsp rfl).1
    have hws : (elems.length + rest.length) * P.bytesOf e ≤ reachBytes := hw _ (by simp [DataW.weights, hu])
    rw [hlen, hrl, show len + (cap - len) = cap by omega] at hws
    refine ⟨some a, len, cap, rfl, (fun h => by cases h), fun a' ha => ?_⟩
    injection ha with ha
    subst ha
    refine ⟨hl, hm, hws, fun i hi => ?_⟩
    have h1 := hel i hi
    rw [List.getElem?_eq_getElem (by omega)] at h1
    obtain ⟨cs', h2, h3⟩ := Option.bind_eq_some_iff.1 h1
    obtain ⟨_, h4, h5⟩ := World.cells?_some h2
    refine ⟨cs', h4, fun j u hj => ?_, ⟨m', _, h3, fun k hk => hw k ?_⟩⟩
    · have hj2 := (List.getElem?_eq_some_iff.1 hj).1
      rw [← Go.Deep.add_add, h5 j (by omega), hj]
    · simp only [DataW.weights, hu]
      refine List.mem_cons_of_mem _ (List.mem_append_left _ (weightsAll_mem _ e _ ?_ k hk))
      exact List.mem_map_of_mem (List.getElem_mem _)
end
/-- The argument of a law, opened. -/
theorem Opn.arg {H : Type} {enc : TypeId × Value → H} {P : Program} {w : World} {ts : List TypeId} {ds : List (DataW H)} {i : Nat} {t : TypeId} {v : Value} {d : DataW H} {p : List MemPlace} (hs : (DataW.weightsEach P ts ds).all (· ≤ reachBytes) = true) (h1 : ts[i]? = some t) (h2 : ds[i]? = some d)
    (h : DataW.Trod enc P w 0 (fun _ => true) true t v d p) : Opn enc P w t v.cells.toList := by
  obtain ⟨n, hn⟩ := h
  refine ⟨n, _, hn, fun k hk => ?_⟩
  have := List.all_eq_true.1 hs k (weightsEach_mem _ _ i t d h1 h2 k hk)
  simpa using this
theorem oneOf {ok : Nat → Prop} {w : World} {b o : Nat} {v : Value} (h : w.cell? ⟨b, o, none⟩ = some v) (hk : ok b) : ∃ cur t fr, w.heap[b]? = some (.cells cur t fr) ∧ cur[o]? = some v ∧ ok b := by
  unfold World.cell? at h
  split at h
  · rename_i c t fr hc
    exact ⟨c, t, fr, hc, by simpa using h, hk⟩
  · cases h
/-- A list of plain elements. -/
theorem Opn.rw {H : Type} {enc : TypeId × Value → H} {P : Program} {w : World} {t e : TypeId} {cs : List Value} {sz by_ : Nat} (hu : P.underlying t = some (.slice e)) (hc : P.cellsOf e = sz) (hb : P.bytesOf e = by_) (h8 : 8 * sz ≤ by_) (hp : 0 < sz)
    (hone : ∀ cs', cs'.length = sz → Opn enc P w e cs' → AllI cs') (h : Opn enc P w t cs) : ∃ v xs, cs = [v] ∧ Rw (fun _ => True) w sz v xs ∧ AllI xs ∧ xs.length ≤ 17592186044416 := by
  obtain ⟨A, n, c, rfl, h1, h2⟩ := h.slice hu
  cases A with
  | none =>
    obtain ⟨rfl, rfl⟩ := h1 rfl
    exact ⟨_, [], rfl, ⟨none, 0, 0, rfl, by simp, fun _ => ⟨rfl, rfl⟩, fun h => absurd h (by omega), by simp⟩, (fun u hu => by cases hu), by simp⟩
  | some a =>
    obtain ⟨q1, q2, q3, q4⟩ := h2 a rfl
    rw [hc] at q4
    rw [hb] at q3
    obtain ⟨f, hf⟩ := Classical.axiomOfChoice (r := fun (i : Fin n) (cs' : List Value) => cs'.length = sz ∧ (∀ j u, cs'[j]? = some u → w.cell? (a.add (i.1 * sz + j)) = some u) ∧ Opn enc P w e cs') (fun i => q4 i.1 i.2)
    have hall : ∀ i, AllI (f i) := fun i => hone _ (hf i).1 (hf i).2.2
    have hlen : ∀ (l : List (Fin n)), ((l.map f).flatten).length = l.length * sz := by
      intro l
      induction l with
      | nil => simp
      | cons x l ih => simp [(hf x).1] at ih ⊢; rw [ih, Nat.add_mul]; omega
    have hget : ∀ (l : List (Fin n)) (i : Nat) (x : Fin n) (j : Nat), l[i]? = some x → j < sz → ((l.map f).flatten)[i * sz + j]? = (f x)[j]? := by
      intro l
      induction l with
      | nil => intro i x j h; simp at h
      | cons y l ih =>
        intro i x j h hj
        rw [List.map_cons, List.flatten_cons]
        cases i with
        | zero =>
          obtain rfl : y = x := by simpa using h
          rw [Nat.zero_mul, Nat.zero_add, List.getElem?_append_left (by rw [(hf y).1]; exact hj)]
        | succ i =>
          rw [List.getElem?_append_right (by rw [(hf y).1, Nat.add_mul]; omega), (hf y).1, ← ih i x j (by simpa using h) hj]
          congr 1
          rw [Nat.add_mul]; omega
    have hL : (((List.finRange n).map f).flatten).length = n * sz := by rw [hlen]; simp
    refine ⟨_, ((List.finRange n).map f).flatten, rfl, ⟨some a, n, c, rfl, hL, (fun h => by cases h), fun hpos => ?_, fun u hu => ?_⟩, fun u hu => ?_, ?_⟩
    · obtain ⟨u0, hu0⟩ : ∃ u, (f ⟨0, hpos⟩)[0]? = some u := ⟨_, List.getElem?_eq_getElem (by rw [(hf _).1]; exact hp)⟩
      have c0 := (hf ⟨0, hpos⟩).2.1 0 u0 hu0
      have hs := World.cell?_spot c0
      have hlt := World.block_lt_of_cell? w _ c0
      obtain ⟨b, o, q⟩ := a
      have hs : q = none := by simpa [Addr.add] using hs
      subst hs
      refine ⟨b, o, rfl, trivial, by simpa [Addr.add] using hlt, fun j u hj => ?_⟩
      have hjl : j < n * sz := by rw [← hL]; exact (List.getElem?_eq_some_iff.1 hj).1
      have hj1 : j / sz < n := Nat.div_lt_of_lt_mul (by rw [Nat.mul_comm]; exact hjl)
      have hj2 : j % sz < sz := Nat.mod_lt _ hp
      have hjj : j / sz * sz + j % sz = j := by rw [Nat.mul_comm]; exact Nat.div_add_mod j sz
      have hg := hget (List.finRange n) (j / sz) ⟨j / sz, hj1⟩ (j % sz) (by rw [List.getElem?_eq_getElem (by simpa using hj1)]; simp) hj2
      rw [hjj, hj] at hg
      have := (hf ⟨j / sz, hj1⟩).2.1 (j % sz) u hg.symm
      rw [add_off] at this
      rwa [hjj] at this
    · obtain ⟨l, hl, hu⟩ := List.mem_flatten.1 hu
      obtain ⟨x, _, rfl⟩ := List.mem_map.1 hl
      obtain ⟨k, rfl⟩ := hall x u hu
      rfl
    · obtain ⟨l, hl, hu⟩ := List.mem_flatten.1 hu
      obtain ⟨x, _, rfl⟩ := List.mem_map.1 hl
      exact hall x u hu
    · rw [hL]
      have h9 : n * by_ ≤ c * by_ := Nat.mul_le_mul_right _ q1
      have h10 : n * (8 * sz) ≤ n * by_ := Nat.mul_le_mul_left _ h8
      have h11 : n * (8 * sz) = 8 * (n * sz) := by rw [Nat.mul_left_comm]
      unfold reachBytes at q3
      omega
/-- A list of elements of a kind. -/
theorem Opn.rdL {H : Type} {enc : TypeId × Value → H} {P : Program} {w : World} {D : Type} (E : Elem D) (G : D → Prop) {t e : TypeId} {cs : List Value} {by_ : Nat} (hu : P.underlying t = some (.slice e)) (hc : P.cellsOf e = E.sz) (hb : P.bytesOf e = by_) (h8 : 8 ≤ by_)
    (hone : ∀ cs', cs'.length = E.sz → Opn enc P w e cs' → ∃ d, E.Rd (fun _ => True) w cs'.toArray d ∧ G d) (h : Opn enc P w t cs) : ∃ v L, cs = [v] ∧ E.RdL (fun _ => True) w v L ∧ (∀ d ∈ L, G d) ∧ L.length ≤ 17592186044416 := by
  obtain ⟨A, n, c, rfl, h1, h2⟩ := h.slice hu
  cases A with
  | none =>
    obtain ⟨rfl, rfl⟩ := h1 rfl
    exact ⟨_, [], rfl, ⟨none, 0, 0, rfl, rfl, fun _ => ⟨rfl, rfl⟩, fun h => absurd h (by omega)⟩, (fun u hu => by cases hu), by simp⟩
  | some a =>
    obtain ⟨q1, q2, q3, q4⟩ := h2 a rfl
    rw [hc] at q4
    rw [hb] at q3
    have q5 : ∀ i : Fin n, ∃ d, ∃ cs' : List Value, cs'.length = E.sz ∧ (∀ j u, cs'[j]? = some u → w.cell? (a.add (i.1 * E.sz + j)) = some u) ∧ E.Rd (fun _ => True) w cs'.toArray d ∧ G d := fun i => by
      obtain ⟨cs', r1, r2, r3⟩ := q4 i.1 i.2
      obtain ⟨d, r4⟩ := hone cs' r1 r3
      exact ⟨d, cs', r1, r2, r4⟩
    obtain ⟨f, hf⟩ := Classical.axiomOfChoice q5
    have hlb : n ≤ 17592186044416 := by
      have h9 : n * by_ ≤ c * by_ := Nat.mul_le_mul_right _ q1
      have h10 : n * 8 ≤ n * by_ := Nat.mul_le_mul_left _ h8
      unfold reachBytes at q3
      omega
    refine ⟨_, (List.finRange n).map f, rfl, ⟨some a, n, c, rfl, by simp, (fun h => by cases h), fun hpos => ?_⟩, fun d hd => ?_, by simpa using hlb⟩
    · obtain ⟨cs0, r1, r2, _⟩ := hf ⟨0, hpos⟩
      obtain ⟨u0, hu0⟩ : ∃ u, cs0[0]? = some u := ⟨_, List.getElem?_eq_getElem (by rw [r1]; exact E.pos)⟩
      have c0 := r2 0 u0 hu0
      have hs := World.cell?_spot c0
      obtain ⟨b, o, q⟩ := a
      have hs : q = none := by simpa [Addr.add] using hs
      subst hs
      rw [add_off] at c0
      obtain ⟨cur, tt, fr, hcur, _, _⟩ := oneOf (ok := fun _ => True) c0 trivial
      refine ⟨b, o, cur, tt, fr, rfl, trivial, hcur, fun i d hd => ?_⟩
      rw [List.getElem?_map] at hd
      obtain ⟨x, hx, rfl⟩ := Option.map_eq_some_iff.1 hd
      obtain ⟨hx1, hx2⟩ := List.getElem?_eq_some_iff.1 hx
      rw [List.getElem_finRange] at hx2
      obtain rfl : ⟨i, by simpa using hx1⟩ = x := hx2
      obtain ⟨cs', s1, s2, s3, _⟩ := hf ⟨i, by simpa using hx1⟩
      have s4 : ∀ j, j < E.sz → cur[o + i * E.sz + j]? = cs'[j]? := fun j hj => by
        have := s2 j cs'[j] (List.getElem?_eq_getElem (by omega))
        rw [add_off, cell_of_row w b _ _ _ _ hcur] at this
        rw [← Nat.add_assoc] at this
        rw [this, List.getElem?_eq_getElem (by omega)]
      have s5 : o + i * E.sz + E.sz ≤ cur.size := by
        have hp := E.pos
        have := s4 (E.sz - 1) (by omega)
        rw [List.getElem?_eq_getElem (by omega)] at this
        have := (Array.getElem?_eq_some_iff.1 this).1
        omega
      have s6 : cur.extract (o + i * E.sz) (o + i * E.sz + E.sz) = cs'.toArray := by
        apply Array.ext_getElem?
        intro j
        rw [Array.getElem?_extract]
        by_cases hj : j < E.sz
        · rw [if_pos (by omega), s4 j hj]; simp
        · rw [if_neg (by omega), List.getElem?_toArray, List.getElem?_eq_none (by omega)]
      rw [s6]
      exact ⟨s5, s3⟩
    · obtain ⟨x, _, rfl⟩ := List.mem_map.1 hd
      obtain ⟨_, _, _, _, hg⟩ := hf x
      exact hg
end Go.Proofs.Ythahadhdhpcndaa
