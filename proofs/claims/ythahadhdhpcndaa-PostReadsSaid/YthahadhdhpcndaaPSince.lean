/- post.Since: what it answers lies in its own memory. Appending lists of structs. -/
import Derived.Test.YthahadhdhpcndaaPTwinB
import Derived.Test.YthahadhdhpcndaaDrops
import Derived.Test.YthahadhdhpcndaaPHas
namespace Go.Proofs.Ythahadhdhpcndaa
open Go Go.RowKit
set_option linter.unusedVariables false
set_option linter.unusedSimpArgs false

/-- What Since answers. -/
structure SinceQ (L : List BoxD) (dev cu : Int) (w : World) (e : Ending) (w' : World) : Prop where
  out : Below w.heap.size w w' ∧ ((chk 0 L = false ∧ e = .returned (.tuple #[.slice none 0 0, .int .i64 1])) ∨ (chk 0 L = true ∧ (∀ d ∈ L, d.d ≠ dev) ∧ e = .returned (.tuple #[.slice none 0 0, .int .i64 7])) ∨
    (chk 0 L = true ∧ ∃ (i : Nat) (d : BoxD), L[i]? = some d ∧ d.d = dev ∧ ((¬ (0 ≤ cu ∧ cu ≤ (d.m.length : Int)) ∧ e = .returned (.tuple #[.slice none 0 0, .int .i64 1])) ∨ ((0 ≤ cu ∧ cu ≤ (d.m.length : Int)) ∧ ∃ v', e = .returned (.tuple #[v', .int .i64 0]) ∧ elemM.RdL (w.heap.size ≤ ·) w' v' (d.m.drop cu.toNat)))))
set_option maxHeartbeats 4000000 in
theorem since32q {ok : Nat → Prop} (v : Value) (L : List BoxD) (dev cu : Int) (w : World) (h : elemB.RdL ok w v L) (hL : L.length ≤ 1000000) (hS : ∀ d ∈ L, SzB d) (hm : ∀ d ∈ L, d.m.length ≤ 1000000) (hdev : -9223372036854775808 ≤ dev ∧ dev ≤ 9223372036854775807) (hcu : -9223372036854775808 ≤ cu ∧ cu ≤ 9223372036854775807) :
    Calls Try.prog 32 #[v, .int .i64 dev, .int .i64 cu] w fun e w' => SinceQ L dev cu w e w' := by
  obtain ⟨w1, hw1⟩ : ∃ w1 : World, w1 = (w.alloc (.cells #[.int .i64 cu] 3)).alloc (.cells #[.slice none 0 0] 74) := ⟨_, rfl⟩
  have hb1 : Below w.heap.size w w1 := by rw [hw1]; exact ((Below.refl _ _).alloc (Nat.le_refl _) _).alloc (by simp) _
  have hsz : w1.heap.size = w.heap.size + 1 + 1 := by rw [hw1]; simp
  have x1 : w1.heap[w.heap.size]? = some (.cells #[.int .i64 cu] 3 (0, 0)) := by
    rw [hw1]
    exact (Below.heap_alloc _ _ _ (by simp)).trans (heap_alloc_new w _)
  have x2 : w1.heap[w.heap.size + 1]? = some (.cells #[.slice none 0 0] 74 (0, 0)) := by
    rw [hw1]
    have := heap_alloc_new (w.alloc (.cells #[.int .i64 cu] 3)) (.cells #[.slice none 0 0] 74)
    simpa using this
  have M := turn46_52 (.pointer (some ⟨w.heap.size, 0, none⟩)) (.pointer (some ⟨w.heap.size + 1, 0, none⟩)) v L dev w1 (h.keep (Kn.of_below hb1)) hL hS hdev
    (fun i d v4 code w' => Below w.heap.size w w' ∧ ((¬ (0 ≤ cu ∧ cu ≤ (d.m.length : Int)) ∧ code = 1 ∧ w'.cell? ⟨w.heap.size + 1, 0, none⟩ = some (.slice none 0 0)) ∨ ((0 ≤ cu ∧ cu ≤ (d.m.length : Int)) ∧ code = 0 ∧ (∃ A c, v4 = .slice A L.length c) ∧ ∃ v', w'.cell? ⟨w.heap.size + 1, 0, none⟩ = some v' ∧ elemM.RdL (w.heap.size ≤ ·) w' v' (d.m.drop cu.toNat)))) (fun w4 i d v4 cs4 f B b4 cur4 x4 hQ => by
    obtain ⟨vm, mcs, e, hM, g0, g1, g2, g3⟩ := hQ.box
    have hi := (List.getElem?_eq_some_iff.1 hQ.hd).1
    have y2 := (hQ.below.block _ (lt_of_some x2)).trans x2
    have hck : w4.cell? ⟨w.heap.size, 0, none⟩ = some (.int .i64 cu) := (cell_of_row w4 _ 0 _ _ _ ((hQ.below.block _ (lt_of_some x1)).trans x1)).trans rfl
    have hq2 : w4.cell? ⟨w.heap.size + 1, 0, none⟩ = some (.slice none 0 0) := (cell_of_row w4 _ 0 _ _ _ y2).trans rfl
    refine (since52 (p := i * 4) hQ.cur g2 hM.rdL (since_cap hM) (hm d (List.mem_of_getElem? hQ.hd)) hck hcu y2).mono ?_
    rintro e w' hD
    have hB4 := hb1.trans (hQ.below.mono hb1.size)
    rcases hD.out with ⟨h1, rfl, k, rfl⟩ | ⟨h1, rfl, v', w3, h2, rfl, h3⟩
    · exact ⟨_, rfl, below_drewN hB4 k, .inl ⟨h1, rfl, hq2⟩⟩
    · have hB3 := hB4.trans (h2.mono hB4.size)
      have y3 := (h2.block _ (lt_of_some y2)).trans y2
      refine ⟨_, rfl, hB3.setCell (by show _ ≤ w.heap.size + 1; omega) _, .inr ⟨h1, rfl, hQ.own.slice, v', ?_, ?_⟩⟩
      · have := heap_setCell_same w3 (w.heap.size + 1) 0 _ _ v' y3
        exact (cell_of_row _ _ 0 _ _ _ this).trans (by simp)
      · have hlo := hQ.own.le 0 i (Nat.zero_le _) (Nat.le_of_lt hi)
        have hl0 := hQ.own.lo
        have hl1 := hQ.lo
        have hsz4 := hQ.below.size
        refine (h3.mono (ok' := fun b => w.heap.size ≤ b ∧ b ≠ w.heap.size + 1) fun b _ hp => ?_).keep (Kn.setCell w3 _ _ _ (by simp)) |>.mono fun _ _ hp => hp.1
        rcases hp with ⟨hp, _⟩ | hp <;> constructor <;> omega)
  obtain ⟨A, c, rfl⟩ := h.slice
  have HB1 := Lib.hid (And.intro hb1 (And.intro x1 x2))
  clear h hS x1 hb1
  subst hw1
  go_enter Try.func32, Try.ntmps32
  go_wp2_with fail
  refine M.mono ?_
  intro e w' hT
  rcases hT.out with ⟨h1, rfl, h2⟩ | ⟨h1, h3, rfl, h2⟩ | ⟨h1, i, d, v4, code, h2, h3, rfl, h4, h6⟩
  · have hc : w'.cell? ⟨w.heap.size + 1, 0, none⟩ = some (.slice none 0 0) := (cell_of_row w' _ 0 _ _ _ ((h2.block _ (lt_of_some HB1.out.2.2)).trans HB1.out.2.2)).trans rfl
    have H := Lib.hid (And.intro h1 (HB1.out.1.trans (h2.mono HB1.out.1.size)))
    clear M hT h1 h2
    go_wp2_with fail
    go_ret2
    exact ⟨⟨H.out.2, .inl ⟨H.out.1, rfl⟩⟩⟩
  · have hc : w'.cell? ⟨w.heap.size + 1, 0, none⟩ = some (.slice none 0 0) := (cell_of_row w' _ 0 _ _ _ ((h2.block _ (lt_of_some HB1.out.2.2)).trans HB1.out.2.2)).trans rfl
    have H := Lib.hid (And.intro h1 (And.intro (HB1.out.1.trans (h2.mono HB1.out.1.size)) h3))
    clear M hT h1 h2 h3
    go_wp2_with fail
    go_ret2
    exact ⟨⟨H.out.2.1, .inr (.inl ⟨H.out.1, H.out.2.2, rfl⟩)⟩⟩
  · rcases h6 with ⟨h6, rfl, hc⟩ | ⟨h6, rfl, ⟨A4, c4, rfl⟩, v', hc, h5⟩
    · have H := Lib.hid (And.intro h1 (And.intro h2 (And.intro h3 (And.intro h4 h6))))
      clear M hT h1 h2 h3 h4 h6
      rw [if_neg (by decide)]
      go_wp2_with fail
      go_ret2
      exact ⟨⟨H.out.2.2.2.1, .inr (.inr ⟨H.out.1, i, d, H.out.2.1, H.out.2.2.1, .inl ⟨H.out.2.2.2.2, rfl⟩⟩)⟩⟩
    · have hs5 := h5.slice
      rw [List.length_drop] at hs5
      obtain ⟨A', c', rfl⟩ := hs5
      have H := Lib.hid (And.intro h1 (And.intro h2 (And.intro h3 (And.intro h4 (And.intro h6 h5)))))
      clear M hT h1 h2 h3 h4 h5 h6
      go_wp2_with fail
      go_ret2
      refine ⟨⟨H.out.2.2.2.1, .inr (.inr ⟨H.out.1, i, d, H.out.2.1, H.out.2.2.1, .inr ⟨H.out.2.2.2.2.1, _, ?_, H.out.2.2.2.2.2⟩⟩)⟩⟩
      rfl

/-- The cells of a list that is read. -/
theorem Elem.RdL.cells {D : Type} {E : Elem D} {ok : Nat → Prop} {w : World} {A : Option Addr} {n c : Nat} {M : List D} (h : E.RdL ok w (.slice A n c) M) (hp : A ≠ none) : ∃ cs ad, A = some ad ∧ cs.length = M.length ∧ (∀ x ∈ cs, x.size = E.sz) ∧ (prow cs).length = M.length * E.sz ∧ n = M.length ∧ (∀ j u, (prow cs)[j]? = some u → w.cell? (ad.add j) = some u) ∧ (∀ u ∈ prow cs, u.oneCell' = true) ∧
    ∀ (j : Nat) (c : Array Value) (d : D), cs[j]? = some c → M[j]? = some d → E.Rd ok w c d := by
  obtain ⟨A, n, c, e, rfl, h2, h3⟩ := h
  injection e with e1 e2 e3
  subst e1 e2 e3
  cases A with
  | none => exact absurd rfl hp
  | some ad =>
    by_cases h0 : 0 < M.length
    · obtain ⟨b, o, cur, t, fr, e, p1, p2, p3⟩ := h3 h0
      rw [Option.some.inj e]
      have hle : o + M.length * E.sz ≤ cur.size := by
        obtain ⟨k, hk⟩ : ∃ k, M.length = k + 1 := ⟨M.length - 1, by omega⟩
        have := (p3 k (M[k]'(by omega)) (List.getElem?_eq_getElem _)).1
        rw [hk, Nat.add_mul, Nat.one_mul]
        omega
      have hcut := prow_cut (cur.extract o (o + M.length * E.sz)) E.sz M.length (by simp; omega)
      have hsub : ∀ j, j < M.length → (cur.extract o (o + M.length * E.sz)).extract (j * E.sz) (j * E.sz + E.sz) = cur.extract (o + j * E.sz) (o + j * E.sz + E.sz) := fun j hj => by
        have := mul_step (sz := E.sz) hj
        rw [Array.extract_extract]
        congr 1
        omega
      have hsize : ∀ j, j < M.length → (cur.extract (o + j * E.sz) (o + j * E.sz + E.sz)).size = E.sz := fun j hj => by
        have := mul_step (sz := E.sz) hj
        simp; omega
      have hlen : ((cur.extract o (o + M.length * E.sz)).toList.take (M.length * E.sz)) = (cur.extract o (o + M.length * E.sz)).toList := List.take_of_length_le (by simp; omega)
      rw [hlen] at hcut
      refine ⟨(List.range M.length).map fun j => (cur.extract o (o + M.length * E.sz)).extract (j * E.sz) (j * E.sz + E.sz), _, rfl, by simp, fun x hx => ?_, ?_, rfl, fun j u hj => ?_, fun u hu => ?_, fun j c d hc hd => ?_⟩
      · obtain ⟨j, hj, rfl⟩ := List.mem_map.1 hx
        rw [hsub j (List.mem_range.1 hj)]
        exact hsize j (List.mem_range.1 hj)
      · rw [hcut]; simp; omega
      · rw [hcut, Array.getElem?_toList, Array.getElem?_extract] at hj
        split at hj
        · rw [add_off, cell_of_row w b _ _ _ _ p2]; exact hj
        · cases hj
      · obtain ⟨l, hl, hul⟩ := List.mem_flatten.1 (show u ∈ List.flatten _ from hu)
        obtain ⟨x, hx, rfl⟩ := List.mem_map.1 hl
        obtain ⟨j, hj, rfl⟩ := List.mem_map.1 hx
        have hj := List.mem_range.1 hj
        rw [hsub j hj] at hul
        exact E.one (p3 j (M[j]) (List.getElem?_eq_getElem hj)).2 u hul
      · have hj := (List.getElem?_eq_some_iff.1 hd).1
        rw [List.getElem?_map, List.getElem?_range hj] at hc
        have hc : (cur.extract o (o + M.length * E.sz)).extract (j * E.sz) (j * E.sz + E.sz) = c := by simpa using hc
        rw [← hc, hsub j hj]
        exact (p3 j d hd).2
    · have h00 : M.length = 0 := by omega
      refine ⟨[], ad, rfl, by simp [h00], (fun x hx => by cases hx), by simp [prow, h00], rfl, (fun j u hj => by simp [prow] at hj), (fun u hu => by simp [prow] at hu), (fun j c d hc => by simp at hc)⟩
theorem prow_append (a b : List (Array Value)) : prow (a ++ b) = prow a ++ prow b := by simp [prow]
/-- Two lists, one behind the other. -/
theorem Elem.Own.appended {D : Type} {E : Elem D} {t : TypeId} {w w' : World} {v v' : Value} {cs ds : List (Array Value)} {L M : List D} (h : E.Own t 0 w v cs L) (hl : ds.length = M.length) (hM : ∀ (j : Nat) (c : Array Value) (d : D), ds[j]? = some c → M[j]? = some d → E.Rd (fun b => v.ownBlock ≠ some b) w c d)
    (o1 : w'.ownsRow 0 t E.sz v' (L.length + M.length) (prow cs ++ prow ds)) (o2 : w.grownBy w' v.ownBlock) (o3 : v'.ownBlock = v.ownBlock ∨ v'.ownBlock = some w.heap.size) : E.Own t 0 w' v' (cs ++ ds) (L ++ M) := by
  have hk : ∀ {c d}, E.Rd (fun b => v.ownBlock ≠ some b) w c d → E.Rd (fun b => 0 ≤ b ∧ v'.ownBlock ≠ some b) w' c d := fun hr => by
    have r0 := E.mono (ok' := fun b => v.ownBlock ≠ some b ∧ b < w.heap.size) hr fun b hb hp => ⟨hp, hb⟩
    refine E.mono (E.keep r0 (Kn.grown o2 fun b hb => hb.1)) fun b _ hp => ⟨Nat.zero_le _, fun e => ?_⟩
    rcases o3 with o3 | o3
    · rw [o3] at e; exact hp.1 e
    · rw [o3] at e
      injection e with e
      omega
  refine ⟨by simp [h.len, hl], by rw [prow_append, List.length_append]; exact o1, fun j c d hc hd => ?_⟩
  by_cases hj : j < cs.length
  · rw [List.getElem?_append_left hj] at hc
    rw [List.getElem?_append_left (by have := h.len; omega)] at hd
    exact hk (E.mono (h.sub j c d hc hd) fun b _ hp => hp.2)
  · rw [List.getElem?_append_right (by omega)] at hc
    rw [List.getElem?_append_right (by have := h.len; omega)] at hd
    rw [← h.len] at hd
    exact hk (hM _ c d hc hd)
theorem wpList_append_elem {P : Program} {D : Type} {E : Elem D} {ops : Array Oper} {rest : List Oper} {o : Oper} {a : Act} {w : World} {Q : Exit → Act → World → Prop} (hw : Region.wanted o (yielded ops a.tmps) = true) (s x : Operand) (t : TypeId)
    (ho : o.op = .call { callee := .builtin .append, args := #[s, x], argTypes := #[t, t] })
    (e : TypeId) (i : TypeInfo) (z : Value) (bytes : Nat) (ht : P.underlying t = some (.slice e)) (hi : P.info? e = some i) (hz : i.zero = some z)
    (hsize : i.size = E.sz) (hby : i.bytes = bytes) (hzs : z.cells.size = E.sz)
    (v : Value) (cs : List (Array Value)) (L : List D) (hs : a.eval s = v) (hown : E.Own e 0 w v cs L)
    (A : Option Addr) (n c : Nat) (M : List D) (hx : a.eval x = .slice A n c) (hM : E.RdL (fun b => v.ownBlock ≠ some b) w (.slice A n c) M)
    (h63 : L.length + M.length ≤ maxLen) (hbytes : (L.length + M.length) * bytes ≤ 140737488355328)
    (h : ∀ v' w' cs', E.Own e 0 w' v' cs' (L ++ M) → (v'.ownBlock = v.ownBlock ∨ v'.ownBlock = some w.heap.size) → w.grownBy w' v.ownBlock → wpList P ops Q rest (a.put o.dst v') w') : wpList P ops Q (o :: rest) a w := by
  refine wpList_step fun K hK => ?_
  by_cases hA : A = none
  · subst hA
    obtain ⟨A', n', c', e1, h1, h2, h3⟩ := hM
    injection e1 with e1 e2 e3
    obtain ⟨h4, h5⟩ := h2 e1.symm
    rw [e2, e3, h4, h5] at hx
    have hM0 : M = [] := List.length_eq_zero_iff.1 (by omega)
    subst hM0
    rw [if_pos hw]
    have hrun := run_append_owned_none (P := P) (w := w) 0 t o.type e i E.sz ht hi v L.length (prow cs) hown.row
    have hk : K (a.put o.dst v) w := hK _ _ (h v w cs (by rw [List.append_nil]; exact hown) (.inl rfl) ⟨rfl, rfl, rfl, Nat.le_refl _, fun b _ _ => rfl⟩)
    unfold Oper.wp
    simp [execOp, ho, resolve, invoke, builtin, hs, hx, hrun, Result.andThen]
    exact hk
  · obtain ⟨ds, ad, rfl, k1, k2, k3, rfl, k5, k6, k7⟩ := hM.cells hA
    refine step_append_own_at hw s x t ho 0 e i z E.sz bytes ht hi hz hsize hby hzs E.pos v L.length (prow cs) hs hown.row ad M.length c (prow ds) hx k3 k5 k6 h63 hbytes (Nat.zero_le _) fun v' w' o1 o2 o3 => hK _ _ (h v' w' (cs ++ ds) (hown.appended k1 k7 o1 o2 o3) o3 o2)
end Go.Proofs.Ythahadhdhpcndaa
