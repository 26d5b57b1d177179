/- Lists of elements of any kind: reading them, owning them. -/
import Derived.Test.YthahadhdhpcndaaSame4
namespace Go.Proofs.Ythahadhdhpcndaa
open Go Go.RowKit
set_option linter.unusedVariables false
set_option linter.unusedSimpArgs false

/-- A kind of elements: how many cells, and how they read. -/
structure Elem (D : Type) where
  sz : Nat
  pos : 0 < sz
  Rd : (Nat → Prop) → World → Array Value → D → Prop
  keep : ∀ {ok : Nat → Prop} {w w' : World} {cs : Array Value} {d : D}, Rd ok w cs d → Kn ok w w' → Rd ok w' cs d
  mono : ∀ {ok ok' : Nat → Prop} {w : World} {cs : Array Value} {d : D}, Rd ok w cs d → (∀ b, b < w.heap.size → ok b → ok' b) → Rd ok' w cs d
  size : ∀ {ok : Nat → Prop} {w : World} {cs : Array Value} {d : D}, Rd ok w cs d → cs.size = sz
  one : ∀ {ok : Nat → Prop} {w : World} {cs : Array Value} {d : D}, Rd ok w cs d → ∀ v ∈ cs.toList, v.oneCell' = true
section
variable {D : Type} (E : Elem D)
/-- A list of elements reads so. -/
def Elem.RdL (ok : Nat → Prop) (w : World) (v : Value) (L : List D) : Prop := ∃ A n c, v = .slice A n c ∧ n = L.length ∧ (A = none → n = 0 ∧ c = 0) ∧ (0 < n → ∃ b o cur t fr, A = some ⟨b, o, none⟩ ∧ ok b ∧ w.heap[b]? = some (.cells cur t fr) ∧
  ∀ i d, L[i]? = some d → o + i * E.sz + E.sz ≤ cur.size ∧ E.Rd ok w (cur.extract (o + i * E.sz) (o + i * E.sz + E.sz)) d)
variable {E}
theorem Elem.RdL.keep {ok : Nat → Prop} {w w' : World} {v : Value} {L : List D} (h : E.RdL ok w v L) (hk : Kn ok w w') : E.RdL ok w' v L := by
  obtain ⟨A, n, c, rfl, h1, h2, h3⟩ := h
  refine ⟨A, n, c, rfl, h1, h2, fun hp => ?_⟩
  obtain ⟨b, o, cur, t, fr, rfl, p1, p2, p3⟩ := h3 hp
  exact ⟨b, o, cur, t, fr, rfl, p1, (hk.2 b (lt_of_some p2) p1).trans p2, fun i d hd => ⟨(p3 i d hd).1, E.keep (p3 i d hd).2 hk⟩⟩
theorem Elem.RdL.mono {ok ok' : Nat → Prop} {w : World} {v : Value} {L : List D} (h : E.RdL ok w v L) (hk : ∀ b, b < w.heap.size → ok b → ok' b) : E.RdL ok' w v L := by
  obtain ⟨A, n, c, rfl, h1, h2, h3⟩ := h
  refine ⟨A, n, c, rfl, h1, h2, fun hp => ?_⟩
  obtain ⟨b, o, cur, t, fr, rfl, p1, p2, p3⟩ := h3 hp
  exact ⟨b, o, cur, t, fr, rfl, hk b (lt_of_some p2) p1, p2, fun i d hd => ⟨(p3 i d hd).1, E.mono (p3 i d hd).2 hk⟩⟩
theorem Elem.RdL.slice {ok : Nat → Prop} {w : World} {v : Value} {L : List D} (h : E.RdL ok w v L) : ∃ A c, v = .slice A L.length c := by
  obtain ⟨A, n, c, rfl, rfl, _⟩ := h
  exact ⟨A, c, rfl⟩
variable (E)
/-- A list of the call's own, its elements' cells and what these are. -/
structure Elem.Own (t : TypeId) (B : Nat) (w : World) (v : Value) (cs : List (Array Value)) (L : List D) : Prop where
  len : cs.length = L.length
  row : w.ownsRow B t E.sz v L.length (prow cs)
  sub : ∀ (j : Nat) (c : Array Value) (d : D), cs[j]? = some c → L[j]? = some d → E.Rd (fun b => B ≤ b ∧ v.ownBlock ≠ some b) w c d
variable {E}
theorem Elem.Own.nil (t : TypeId) (B : Nat) (w : World) : E.Own t B w (.slice none 0 0) [] [] := ⟨rfl, by simp [prow]; exact World.ownsRow_nil _ _ _ _, fun j c d hc => by simp at hc⟩
theorem Elem.Own.slice {t : TypeId} {B : Nat} {w : World} {v : Value} {cs : List (Array Value)} {L : List D} (h : E.Own t B w v cs L) : ∃ A c, v = .slice A L.length c := by
  rcases h.row.2 with ⟨h1, h2⟩ | ⟨b, cap, cur, h1, _⟩
  · exact ⟨none, 0, by rw [h1, h2]⟩
  · exact ⟨_, _, h1⟩
theorem Elem.Own.vb {t : TypeId} {B : Nat} {w : World} {v : Value} {cs : List (Array Value)} {L : List D} (h : E.Own t B w v cs L) (k : Nat) (hk : v.ownBlock = some k) : B ≤ k ∧ k < w.heap.size := by
  rcases h.row.2 with ⟨z, _⟩ | ⟨b, cp, cur, z1, z2, z3, _⟩
  · rw [z] at hk; cases hk
  · rw [z1] at hk
    obtain rfl : b = k := by simpa [Value.ownBlock] using hk
    exact ⟨z2, lt_of_some z3⟩
theorem Elem.Own.below {t : TypeId} {B : Nat} {w w' : World} {v : Value} {cs : List (Array Value)} {L : List D} (h : E.Own t B w v cs L) (hb : Below w.heap.size w w') : E.Own t B w' v cs L :=
  ⟨h.len, own_below h.row hb, fun j c d hc hd => E.keep (h.sub j c d hc hd) (Kn.of_below hb)⟩
theorem Elem.Own.lower {t : TypeId} {B B' : Nat} {w : World} {v : Value} {cs : List (Array Value)} {L : List D} (h : E.Own t B w v cs L) (hb : B' ≤ B) : E.Own t B' w v cs L := by
  refine ⟨h.len, ⟨h.row.1, ?_⟩, fun j c d hc hd => E.mono (h.sub j c d hc hd) fun b _ hp => ⟨Nat.le_trans hb hp.1, hp.2⟩⟩
  rcases h.row.2 with h1 | ⟨g, cap, cur, h1, h2, h3⟩
  · exact .inl h1
  · exact .inr ⟨g, cap, cur, h1, Nat.le_trans hb h2, h3⟩
theorem Elem.Own.sizes {t : TypeId} {B : Nat} {w : World} {v : Value} {cs : List (Array Value)} {L : List D} (h : E.Own t B w v cs L) : ∀ x ∈ cs, x.size = E.sz := by
  intro x hx
  obtain ⟨j, hj, e⟩ := List.getElem_of_mem hx
  have hj2 : j < L.length := by rw [← h.len]; exact hj
  exact E.size (h.sub j x L[j] (by rw [List.getElem?_eq_getElem hj, e]) (List.getElem?_eq_getElem hj2))
theorem eprow_get (n : Nat) : ∀ (cs : List (Array Value)) (i : Nat) (c : Array Value), (∀ x ∈ cs, x.size = n) → cs[i]? = some c → ((prow cs).drop (i * n)).take n = c.toList
  | [], i, c, _, h => by simp at h
  | x :: cs, 0, c, hs, h => by
    obtain rfl : x = c := by simpa using h
    have h1 : x.toList.length = n := by rw [Array.length_toList]; exact hs x (by simp)
    have : prow (x :: cs) = x.toList ++ prow cs := by simp [prow]
    rw [this, Nat.zero_mul, List.drop_zero, List.take_left' h1]
  | x :: cs, i + 1, c, hs, h => by
    have h1 : x.toList.length = n := by rw [Array.length_toList]; exact hs x (by simp)
    have : prow (x :: cs) = x.toList ++ prow cs := by simp [prow]
    rw [this, show (i + 1) * n = n + i * n by rw [Nat.add_mul]; omega, ← List.drop_drop, List.drop_left' h1]
    exact eprow_get n cs i c (fun y hy => hs y (by simp [hy])) (by simpa using h)
/-- The element at a place lies in the row. -/
theorem Elem.Own.at {t : TypeId} {B : Nat} {w : World} {v : Value} {cs : List (Array Value)} {L : List D} (h : E.Own t B w v cs L) {i : Nat} (hi : i < L.length) :
    ∃ (b cap : Nat) (cur c : Array Value), v = .slice (some ⟨b, 0, none⟩) L.length cap ∧ B ≤ b ∧ w.heap[b]? = some (.cells cur t (0, 0)) ∧ cs[i]? = some c ∧ i * E.sz + E.sz ≤ cur.size ∧ cur.extract (i * E.sz) (i * E.sz + E.sz) = c := by
  rcases h.row.2 with ⟨h1, h2⟩ | ⟨b, cap, cur, h1, h2, h3, h4, h5, h6, h7⟩
  · omega
  · have hl := h.len
    have hc : cs[i]? = some cs[i] := List.getElem?_eq_getElem (by omega)
    have hp := eprow_get E.sz cs i _ h.sizes hc
    have hsz := h.sizes cs[i] (List.getElem_mem _)
    have hmul : i * E.sz + E.sz ≤ L.length * E.sz := by
      have : (i + 1) * E.sz ≤ L.length * E.sz := Nat.mul_le_mul_right _ hi
      rwa [Nat.add_mul, Nat.one_mul] at this
    have hcap : L.length * E.sz ≤ cap * E.sz := Nat.mul_le_mul_right _ h4
    rw [← h7, List.drop_take, List.take_take] at hp
    have hle : E.sz ≤ L.length * E.sz - i * E.sz := by omega
    rw [Nat.min_eq_left hle] at hp
    refine ⟨b, cap, cur, cs[i], h1, h2, h3, hc, by omega, ?_⟩
    apply Array.ext'
    rw [Array.toList_extract]
    simpa [List.extract] using hp
theorem Elem.Own.rdL {t : TypeId} {B : Nat} {w : World} {v : Value} {cs : List (Array Value)} {L : List D} (h : E.Own t B w v cs L) : E.RdL (B ≤ ·) w v L := by
  obtain ⟨A, c, rfl⟩ := h.slice
  refine ⟨A, _, c, rfl, rfl, ?_, fun hp => ?_⟩
  · rintro rfl
    rcases h.row.2 with ⟨h1, h2⟩ | ⟨b, cap, cur, h1, _⟩
    · exact ⟨h2, by injection h1⟩
    · cases h1
  · obtain ⟨b, cap, cur, _, e, hB, hb, _⟩ := h.at hp
    injection e with e
    subst e
    refine ⟨b, 0, cur, t, (0, 0), rfl, hB, hb, fun i d hd => ?_⟩
    have hi := (List.getElem?_eq_some_iff.1 hd).1
    obtain ⟨b', cap', cur', c', e, _, hb', hc, hf, hx⟩ := h.at hi
    injection e with e
    injection e with e
    injection e with e
    subst e
    rw [hb] at hb'
    injection hb' with hb'
    injection hb' with hb'
    subst hb'
    rw [Nat.zero_add, hx]
    exact ⟨hf, E.mono (h.sub i c' d hc hd) fun _ _ hp => hp.1⟩
/-- One more behind the others. -/
theorem Elem.Own.push {t : TypeId} {B g cap : Nat} {wr w2 w3 : World} {v : Value} {cs : List (Array Value)} {L : List D} {c' : Array Value} {d : D} {o : Obj} (h : E.Own t B wr v cs L) (hB0 : B ≤ wr.heap.size) (hB : Below wr.heap.size wr w2) (hR : E.Rd (wr.heap.size ≤ ·) w2 c' d)
    (o1 : w3.ownsRow B t E.sz (.slice (some ⟨g, 0, none⟩) (L.length + 1) cap) (L.length + 1) (prow cs ++ c'.toList)) (o2 : (w2.alloc o).grownBy w3 v.ownBlock) (o3 : v.ownBlock = some g ∨ g = w2.heap.size + 1) :
    E.Own t B w3 (.slice (some ⟨g, 0, none⟩) (L.length + 1) cap) (cs ++ [c']) (L ++ [d]) ∧ Below B wr w3 := by
  have hb3 : Below wr.heap.size wr (w2.alloc o) := hB.alloc hB.size _
  have s2 := hB.size
  have hal : (w2.alloc o).heap.size = w2.heap.size + 1 := by simp
  refine ⟨⟨by simp [h.len], by rw [List.length_append, List.length_singleton, prow_snoc]; exact o1, fun j c0 d0 hc hd => ?_⟩, (hb3.mono hB0).grown o2 (by omega) (fun k hk => (h.vb k hk).1)⟩
  by_cases hj : j < cs.length
  · rw [List.getElem?_append_left hj] at hc
    rw [List.getElem?_append_left (by have := h.len; omega)] at hd
    have r0 := E.mono (ok' := fun b => (B ≤ b ∧ v.ownBlock ≠ some b) ∧ b < wr.heap.size) (h.sub j c0 d0 hc hd) fun b hb hp => ⟨hp, hb⟩
    have r1 := E.keep (E.keep r0 (Kn.of_below hb3)) (Kn.grown o2 fun b hb => hb.1.2)
    refine E.mono r1 fun b _ hp => ⟨hp.1.1, fun e => ?_⟩
    have e : g = b := by simpa [Value.ownBlock] using e
    subst e
    rcases o3 with o3 | o3
    · exact hp.1.2 o3
    · omega
  · have hjl : j = cs.length := by
      have := (List.getElem?_eq_some_iff.1 hc).1
      simp at this; omega
    subst hjl
    rw [List.getElem?_append_right (Nat.le_refl _)] at hc
    rw [h.len, List.getElem?_append_right (Nat.le_refl _)] at hd
    have e1 : c' = c0 := by simpa using hc
    have e2 : d = d0 := by simpa using hd
    subst e1 e2
    have r0 := E.mono (ok' := fun b => wr.heap.size ≤ b ∧ b < w2.heap.size) hR fun b hb hp => ⟨hp, hb⟩
    have r1 := E.keep (E.keep r0 (Kn.of_below ((Below.refl w2.heap.size w2).alloc (Nat.le_refl _) o))) (Kn.grown o2 fun b hb e => by have := (h.vb b e).2; omega)
    refine E.mono r1 fun b _ hp => ⟨by omega, fun e => ?_⟩
    have e : g = b := by simpa [Value.ownBlock] using e
    subst e
    rcases o3 with o3 | o3
    · have := (h.vb _ o3).2; omega
    · omega
end
section
variable {P : Program}
theorem wpList_buildSlice_one {ops : Array Oper} {rest : List Oper} {o : Oper} {a : Act} {w : World} {Q : Exit → Act → World → Prop} (hgd : o.guard = none) (t e : TypeId) (x : Operand) (ho : o.op = .buildSlice t 1 #[(0, x)])
    (n : Nat) (z : Value) (i0 : TypeInfo) (hu : P.underlying t = some (.slice e)) (hi : P.info? e = some i0) (hz : i0.zero = some z) (hsz : i0.size = n) (hzs : z.cells.size = n) (c : Array Value) (hx : a.eval x = .agg c) (hc : c.size = n) (hn : 0 < n) (hn2 : n ≤ 16777216)
    (h : wpList P ops Q rest (a.put o.dst (.slice (some ⟨w.heap.size, 0, none⟩) 1 1)) (w.alloc (.cells c e))) : wpList P ops Q (o :: rest) a w :=
  wpList_plain hgd fun K hK => by
    unfold Oper.wp execOp
    simp only [ho, List.map_toArray, List.map_cons, List.map_nil, hx, Sem.run_bind, run_buildSlice_one w t e n z i0 hu hi hz hsz hzs c hc hn hn2, Result.andThen_ok, Sem.run_pure]
    exact hK _ _ h
end
/-- Packets, mails. -/
def elemP : Elem PackD := ⟨57, by decide, RdP, RdP.keep, RdP.mono, RdP.size, RdP.one⟩
def elemM : Elem MailD := ⟨30, by decide, RdM, RdM.keep, RdM.mono, RdM.size, RdM.one⟩
end Go.Proofs.Ythahadhdhpcndaa
