/- Targets. -/
import Derived.Test.YtopkanokpfhmmaaDoorVI
import Derived.Test.YtopkanokpfhmmaaDoorVE
namespace Go.Proofs.YtopkanokpfhmmaaDoor
open Go Go.RowKit
set_option linter.unusedVariables false
set_option linter.unusedSimpArgs false

theorem info32 : (Tryd.prog.info? 32).map (fun i => (i.zero, i.size, i.bytes)) = some (some (.slice none 0 0), 1, 24) := by kernel_rfl
theorem kept' {w w' : World} {B E s n : Nat} {v : Value} {xs : List Value} {ob : Option Nat} (h : w.ownsRow B E s v n xs) (hg : w.grownBy w' ob) (hq : ∀ q, v.ownBlock = some q → ob ≠ some q) : w'.ownsRow B E s v n xs := by
  refine World.ownsRow.kept h hg ?_
  cases e : v.ownBlock with
  | none => exact .inl rfl
  | some q => exact .inr fun e2 => hq q e e2.symm
/-- Lists of numbers of the call's own, in a row. -/
structure ListsO (w : World) (B : Nat) (vo : Value) (U : List Value) (L : List (List Int)) : Prop where
  row : w.ownsRow B 32 1 vo U.length U
  len : U.length = L.length
  own : ∀ (j : Nat) (u : Value) (l : List Int), U[j]? = some u → L[j]? = some l → OwnI w B u l
  nb : ∀ (j : Nat) (u : Value), U[j]? = some u → ∀ q, u.ownBlock = some q → vo.ownBlock ≠ some q
  ap : ∀ (i j : Nat) (u v : Value), i < j → U[i]? = some u → U[j]? = some v → ∀ q, u.ownBlock = some q → v.ownBlock ≠ some q
theorem ListsO.below {w w' : World} {B : Nat} {vo : Value} {U : List Value} {L : List (List Int)} (h : ListsO w B vo U L) (hb : Below w.heap.size w w') : ListsO w' B vo U L :=
  ⟨row_below h.row hb, h.len, fun j u l h1 h2 => (h.own j u l h1 h2).below hb, h.nb, h.ap⟩
theorem ListsO.lower {w : World} {B B' : Nat} {vo : Value} {U : List Value} {L : List (List Int)} (hB : B' ≤ B) (h : ListsO w B vo U L) : ListsO w B' vo U L :=
  ⟨row_lower hB h.row, h.len, fun j u l h1 h2 => own_lower hB (h.own j u l h1 h2), h.nb, h.ap⟩
theorem ListsO.slice {w : World} {B : Nat} {vo : Value} {U : List Value} {L : List (List Int)} (h : ListsO w B vo U L) : ∃ A c, vo = .slice A L.length c := by
  rw [← h.len]
  rcases h.row.2 with ⟨h1, h2⟩ | ⟨b, cap, cur, h1, _⟩
  · exact ⟨none, 0, by rw [h1, h2]⟩
  · exact ⟨_, _, h1⟩
/-- The list at a place. -/
theorem ListsO.at {w : World} {B : Nat} {A : Option Addr} {n c : Nat} {U : List Value} {L : List (List Int)} (h : ListsO w B (.slice A n c) U L) {j : Nat} {l : List Int} (hj : L[j]? = some l) :
    ∃ b A' c', A = some ⟨b, 0, none⟩ ∧ B ≤ b ∧ w.cell? ⟨b, j, none⟩ = some (.slice A' l.length c') ∧ OwnI w B (.slice A' l.length c') l := by
  have hlt := (List.getElem?_eq_some_iff.1 hj).1
  obtain ⟨u, hu⟩ : ∃ u, U[j]? = some u := ⟨U[j]'(by rw [h.len]; exact hlt), List.getElem?_eq_getElem _⟩
  have ho := h.own j u l hu hj
  obtain ⟨A', c', rfl⟩ := ho.slice
  rcases h.row.2 with ⟨_, h2⟩ | ⟨b, cap, cur, e, h2, h3, h4, h5, h6, h7⟩
  · have := h.len; omega
  · obtain ⟨rfl, -, -⟩ : A = some ⟨b, 0, none⟩ ∧ n = U.length ∧ c = cap := by simpa using e
    refine ⟨b, A', c', rfl, h2, ?_, ho⟩
    rw [cell_of_row _ _ _ _ _ _ h3, ← Array.getElem?_toList]
    have := h.len
    rw [← h7, List.getElem?_take_of_lt (by omega)] at hu
    exact hu
structure TgI (S2 : Nat) (vr : Value) (M : List Rw1) (p : Int → Bool) (k : Nat) (vo : Value) (U : List Value) (wr : World) : Prop where
  len : U.length = k
  out : wr.ownsRow S2 32 1 vo k U
  done : ∀ (j : Nat) (r : Rw1) (u : Value), M[j]? = some r → U[j]? = some u → OwnI wr S2 u (r.l.filter p) ∧ u.ownBlock = r.v.ownBlock
  rest : ∀ (j : Nat) (r : Rw1), k ≤ j → M[j]? = some r → OwnI wr S2 r.v r.l
  row : wr.ownsRow S2 71 2 vr M.length (rwCells M)
  far : ∀ r ∈ M, ∀ q, r.v.ownBlock = some q → vo.ownBlock ≠ some q
  fvr : ∀ q, vr.ownBlock = some q → vo.ownBlock ≠ some q
  nb : ∀ r ∈ M, ∀ q, r.v.ownBlock = some q → vr.ownBlock ≠ some q
  ap : M.Pairwise (fun r s => ∀ q, r.v.ownBlock = some q → s.v.ownBlock ≠ some q)
  lt : ∀ r ∈ M, ∀ q, r.v.ownBlock = some q → S2 ≤ q ∧ q < wr.heap.size
theorem ap_at {M : List Rw1} (h : M.Pairwise (fun r s => ∀ q, r.v.ownBlock = some q → s.v.ownBlock ≠ some q)) {i j : Nat} {r s : Rw1} (hi : M[i]? = some r) (hj : M[j]? = some s) (hne : i ≠ j) : ∀ q, r.v.ownBlock = some q → s.v.ownBlock ≠ some q := by
  obtain ⟨h1, e1⟩ := List.getElem?_eq_some_iff.1 hi
  obtain ⟨h2, e2⟩ := List.getElem?_eq_some_iff.1 hj
  have hp := List.pairwise_iff_getElem.1 h
  intro q hq hs
  by_cases hlt : i < j
  · have := hp i j h1 h2 hlt q (by rw [e1]; exact hq)
    rw [e2] at this
    exact this hs
  · have := hp j i h2 h1 (by omega) q (by rw [e2]; exact hs)
    rw [e1] at this
    exact this hq
theorem TgI.start {w : World} {S2 : Nat} {vr : Value} {M : List Rw1} (p : Int → Bool) (h : RowsO w S2 vr M) : TgI S2 vr M p 0 (.slice none 0 0) [] w :=
  ⟨rfl, World.ownsRow_nil _ _ _ _, fun j r u _ hu => by simp at hu, fun j r _ hj => h.own r (List.mem_of_getElem? hj), h.row, (fun r hr q _ e => by cases e), (fun q _ e => by cases e), h.nb, h.ap, fun r hr q hq => World.ownsRow.lt (h.own r hr) q hq⟩
theorem TgI.next {S2 : Nat} {vr : Value} {M : List Rw1} {p : Int → Bool} {k : Nat} {vo : Value} {U : List Value} {wr w2 w3 : World} {o1 : Obj} {o2 : Obj} {v' : Value} {g cap : Nat} {r : Rw1} (h : TgI S2 vr M p k vo U wr) (hr : M[k]? = some r)
    (hd : OwnI w2 S2 v' (r.l.filter p)) (hdb : v'.ownBlock = r.v.ownBlock) (hg : (wr.alloc o1).grownBy w2 r.v.ownBlock)
    (h1 : w3.ownsRow S2 32 1 (.slice (some ⟨g, 0, none⟩) (k + 1) cap) (k + 1) (U ++ [v'])) (h2 : (w2.alloc o2).grownBy w3 vo.ownBlock) (h3 : vo.ownBlock = some g ∨ g = w2.heap.size + 1) :
    TgI S2 vr M p (k + 1) (.slice (some ⟨g, 0, none⟩) (k + 1) cap) (U ++ [v']) w3 := by
  have hrm := List.mem_of_getElem? hr
  have s1 := hg.size
  have s2 := h2.size
  simp at s1 s2
  have g1 : wr.grownBy w2 r.v.ownBlock := (World.grownBy_alloc wr o1 _).trans hg
  have g2 : w2.grownBy w3 vo.ownBlock := (World.grownBy_alloc w2 o2 _).trans h2
  have hnew : ∀ q, vo.ownBlock ≠ some q → q < wr.heap.size → (Value.slice (some ⟨g, 0, none⟩) (k + 1) cap).ownBlock ≠ some q := fun q hq hl e => by
    have e : g = q := by simpa [Value.ownBlock] using e
    rcases h3 with h3 | h3
    · exact hq (by rw [h3, e])
    · omega
  have hkl : (rwCells M).length = (rwCells M).length := rfl
  refine ⟨by simp [h.len], h1, fun j s u hj hu => ?_, fun j s hk hj => ?_, ?_, fun s hs q hq => hnew q (h.far s hs q hq) (h.lt s hs q hq).2, fun q hq => hnew q (h.fvr q hq) (World.ownsRow.lt h.row q hq).2, h.nb, h.ap, fun s hs q hq => ⟨(h.lt s hs q hq).1, by have := (h.lt s hs q hq).2; omega⟩⟩
  · by_cases e : j = k
    · subst e
      rw [hr] at hj
      obtain rfl := Option.some.inj hj
      rw [List.getElem?_append_right (by rw [h.len]; exact Nat.le_refl _), h.len, Nat.sub_self] at hu
      obtain rfl : v' = u := by simpa using hu
      exact ⟨kept' hd g2 (fun q hq => h.far r hrm q (by rw [← hdb]; exact hq)), hdb⟩
    · have hjl : j < k := by
        have := (List.getElem?_eq_some_iff.1 hu).1
        simp [h.len] at this; omega
      rw [List.getElem?_append_left (by rw [h.len]; exact hjl)] at hu
      obtain ⟨d1, d2⟩ := h.done j s u hj hu
      refine ⟨kept' (kept' d1 g1 fun q hq => ?_) g2 (fun q hq => h.far s (List.mem_of_getElem? hj) q (by rw [← d2]; exact hq)), d2⟩
      exact ap_at h.ap hj hr e q (by rw [← d2]; exact hq)
  · have d1 := h.rest j s (by omega) hj
    exact kept' (kept' d1 g1 fun q hq => ap_at h.ap hj hr (by omega) q hq) g2 (fun q hq => h.far s (List.mem_of_getElem? hj) q hq)
  · exact kept' (kept' h.row g1 fun q hq e => h.nb r hrm q e hq) g2 h.fvr
theorem TgI.lists {S2 : Nat} {vr : Value} {M : List Rw1} {p : Int → Bool} {vo : Value} {U : List Value} {wr : World} (h : TgI S2 vr M p M.length vo U wr) : ListsO wr S2 vo U (M.map fun r => r.l.filter p) := by
  have get : ∀ {j u}, U[j]? = some u → ∃ r, M[j]? = some r := fun {j u} hu => ⟨M[j]'(by have := (List.getElem?_eq_some_iff.1 hu).1; have := h.len; omega), List.getElem?_eq_getElem _⟩
  refine ⟨by rw [h.len]; exact h.out, by simp [h.len], fun j u l hu hl => ?_, fun j u hu q hq => ?_, fun i j u v hij hu hv q hq => ?_⟩
  · obtain ⟨r, hr⟩ := get hu
    rw [List.getElem?_map, hr] at hl
    rw [← Option.some.inj hl]
    exact (h.done j r u hr hu).1
  · obtain ⟨r, hr⟩ := get hu
    exact h.far r (List.mem_of_getElem? hr) q (by rw [← (h.done j r u hr hu).2]; exact hq)
  · obtain ⟨r, hr⟩ := get hu
    obtain ⟨s, hs⟩ := get hv
    rw [(h.done j s v hs hv).2]
    exact ap_at h.ap hr hs (by omega) q (by rw [← (h.done i r u hr hu).2]; exact hq)
theorem TgI.slice {S2 : Nat} {vr : Value} {M : List Rw1} {p : Int → Bool} {k : Nat} {vo : Value} {U : List Value} {wr : World} (h : TgI S2 vr M p k vo U wr) : ∃ A c, vo = .slice A k c := by
  rcases h.out.2 with ⟨h1, h2⟩ | ⟨b, cap, cur, h1, _⟩
  · exact ⟨none, 0, by rw [h1, h2]⟩
  · exact ⟨_, _, h1⟩
/-- What Targets answers, plainly. -/
def tgtL (n : Nat) (F : Nat → Node) (i : Int) (fr : List Int) : List (List Int) := (rowsL n F i).map fun r => r.2.filter fun x => !freshB fr x
structure TgtA (w : World) (L : List (List Int)) (c : Int) (e : Ending) (w' : World) : Prop where
  out : ∃ vo U, e = .returned (.tuple #[vo, .int .i64 c]) ∧ ListsO w' w.heap.size vo U L
  bel : Below w.heap.size w w'
theorem res_len2 {d n : Nat} {F : Nat → Node} (hO : Ok d n F) {x : Nat} (hx : x < n) : (resL n F (x : Int)).length ≤ 300 := by
  unfold resL
  rw [if_pos (resE_ok hO hx), Int.toNat_natCast]
  have hn := hO.n_le
  have hNd := nd_lv (x := x) (by omega)
  rw [← resM_pad hO.lvs_ne (lvN x) x _ hNd hx]
  have h1 := resM_length (F := pad n F) (n := n) (fun y => by unfold pad; split <;> first | exact hO.un_len (by assumption) | decide) (lvN x) x
  have h2 : lvN x < 5 := hNd.level_lt (by omega)
  have h3 : 2 ^ lvN x ≤ 2 ^ 5 := Nat.pow_le_pow_right (by decide) (by omega)
  omega
theorem rowsL_facts {n : Nat} {F : Nat → Node} {i : Int} : (rowsL n F i).length ≤ 3 ∧ ∀ r ∈ rowsL n F i, r.2.length ≤ 300 ∧ ∀ x ∈ r.2, ∃ y : Nat, x = y ∧ y < 1000 := by
  unfold rowsL
  by_cases hq : rowsE n F i = 0
  · rw [if_pos hq]
    have hz : chk n F = true := by
      cases hz : chk n F with
      | true => rfl
      | false => unfold rowsE at hq; rw [if_pos hz] at hq; cases hq
    rcases chk_iff.1 hz with rfl | ⟨d, hO⟩
    · exact absurd hq rowsE_empty
    · obtain ⟨j, rfl, hj, hp⟩ := rowsE_ok hO hq
      rw [hO.lvs, lg_pow hO.hd, Int.toNat_natCast]
      have hd := hO.hd
      have hn := hO.hn
      have hn15 := hO.n_le
      refine ⟨Nat.le_trans (rowsK_length F j d) hd, fun r hr => ?_⟩
      obtain ⟨k, hk, rfl⟩ := List.mem_map.1 (List.mem_filter.1 hr).1
      have hk := List.mem_range.1 hk
      obtain ⟨f1, f2, f3⟩ := sib_at hd hj hk
      rw [← hn] at f2
      refine ⟨?_, fun x hx => ?_⟩
      · have := res_len2 hO f2
        unfold resL at this
        rw [if_pos (resE_ok hO f2), Int.toNat_natCast] at this
        have e : lvN (sib (2 * j) k) = k := by
          have hp3 := pow3 hd
          exact (sib_facts ⟨d, by omega⟩ ⟨j, by omega⟩ ⟨k, by omega⟩ hj hk).2.1
        rw [e] at this
        exact this
      · obtain ⟨y, h1, h2, _⟩ := resM_pub hO k _ _ f3 f2 x hx
        exact ⟨y, h1, by omega⟩
  · rw [if_neg hq]
    exact ⟨by simp, fun r hr => by simp at hr⟩
set_option maxHeartbeats 4000000 in
set_option maxRecDepth 100000 in
theorem targets25 (v vf : Value) (n : Nat) (F : Nat → Node) (i : Int) (fr : List Int) (w : World) (hT : Tab w) (hR : TrR w v n F) (hn : n ≤ 262144) (hF : Ints w vf fr) (hfl : fr.length ≤ 1000000) :
    Calls Tryd.prog 25 #[.agg #[v], .int .i64 i, vf] w fun e w' => TgtA w (tgtL n F i fr) (rowsE n F i) e w' := by
  obtain ⟨hlen, hfacts⟩ := rowsL_facts (n := n) (F := F) (i := i)
  unfold tgtL
  obtain ⟨A, cc, rfl, -, -, -⟩ := id hR
  obtain ⟨Af, cf, rfl, -, -, -⟩ := id hF
  obtain ⟨fl, hfln⟩ : ∃ fl, fl = fr.length := ⟨_, rfl⟩
  rw [← hfln] at hF ⊢
  obtain ⟨W0, hW0⟩ : ∃ W0, W0 = (w.alloc (.cells #[.slice A n cc] 24)).alloc (.cells #[.slice Af fl cf] 32) := ⟨_, rfl⟩
  have hb0 : Below w.heap.size w W0 := by rw [hW0]; exact ((Below.refl _ _).alloc (Nat.le_refl _) _).alloc (by simp) _
  have hx0 : W0.cell? ⟨w.heap.size, 0, none⟩ = some (.slice A n cc) := by
    rw [hW0, World.cell?_alloc_lt _ _ _ (by show w.heap.size < _; simp)]
    exact cell_one_new w _ 24 0 _ rfl
  have hx1 : W0.cell? ⟨w.heap.size + 1, 0, none⟩ = some (.slice Af fl cf) := by
    rw [hW0]
    have := cell_one_new (w.alloc (.cells #[.slice A n cc] 24)) (.slice Af fl cf) 32 0 _ rfl
    rw [show (w.alloc (.cells #[.slice A n cc] 24)).heap.size = w.heap.size + 1 by simp] at this
    exact this
  have hs0 : W0.heap.size = w.heap.size + 2 := by rw [hW0]; simp
  have hr := rows35 (.slice A n cc) n F i W0 (hT.below hT.pos hb0) (hR.below hb0) hn
  have HF0 := Lib.hid hF
  have HB0 := Lib.hid hb0
  have HFA := Lib.hid hfacts
  have HFL := Lib.hid (And.intro hfln hfl)
  clear hfacts hfln hfl hF hR hT
  generalize rowsE n F i = c at *
  generalize rowsL n F i = L at *
  go_enter Tryd.func25, Tryd.ntmps25
  go_wp2_with fail
  rw [← hW0]
  refine hr.mono ?_
  rintro e w1 ⟨⟨vr, M, rfl, hM, hML⟩, hb1⟩
  have hx11 := (hb1.cell (p := ⟨w.heap.size + 1, 0, none⟩) (by show w.heap.size + 1 < W0.heap.size; omega)).trans hx1
  have HB1 := Lib.hid (HB0.out.trans (hb1.mono HB0.out.size))
  obtain ⟨Ar, cr, hvr⟩ := hM.slice
  subst hvr
  have hMl : M.length ≤ 3 := by rw [← hML, List.length_map] at hlen; exact hlen
  have HML := Lib.hid hML
  obtain ⟨S2, hS2⟩ : ∃ S2, S2 = W0.heap.size := ⟨_, rfl⟩
  rw [← hS2] at hM
  have HS2 := Lib.hid (And.intro hS2 hs0)
  have hS21 : S2 ≤ w1.heap.size := by have := hb1.size; omega
  have HI0 := Lib.hid (TgI.start (fun x => !freshB fr x) hM)
  generalize hml : M.length = ml at *
  have HLN := Lib.hid hml
  clear hM hML hb1 hr hlen hS2 hml hx0 hx1 hb0 hW0 hs0
  go_wp2_with fail
  go_loopg [10, 21] (ml + 1) (fun g v10 v21 wr => ∃ (k : Nat) (U : List Value), k ≤ ml ∧ k + g = ml + 1 ∧ v21 = .int .i64 k ∧ TgI S2 (.slice Ar ml cr) M (fun x => !freshB fr x) k v10 U wr ∧ Below S2 w1 wr)
  case atStart => exact ⟨0, [], by omega, by omega, rfl, HI0.out, Below.refl _ _⟩
  case round =>
    obtain ⟨k, U, hk, hg, rfl, hI, hbel⟩ := hrel
    have HG := Lib.hid hg
    have HI := Lib.hid hI
    have HBEL := Lib.hid hbel
    clear hg
    by_cases hlt : k < ml
    · obtain ⟨r, hrk⟩ : ∃ r, M[k]? = some r := ⟨M[k]'(by have := HLN.out; omega), List.getElem?_eq_getElem _⟩
      have hcells : ∃ b, Ar = some ⟨b, 0, none⟩ ∧ wr.cell? ⟨b, k * 2, none⟩ = some (.int .i64 r.node) ∧ wr.cell? ⟨b, k * 2 + 1, none⟩ = some r.v := by
        have hlt2 := (List.getElem?_eq_some_iff.1 hrk).1
        rcases hI.row.2 with ⟨_, h2⟩ | ⟨b, cap, cur, e, h2, h3, h4, h5, h6, h7⟩
        · omega
        · obtain ⟨g0, g1⟩ := rwCells_get M k r hrk
          rw [← h7, List.getElem?_take_of_lt (by omega), Array.getElem?_toList] at g0 g1
          obtain ⟨rfl, -⟩ : Ar = some ⟨b, 0, none⟩ ∧ True := ⟨by simpa using (by injection e : Ar = some ⟨b, 0, none⟩), trivial⟩
          exact ⟨b, rfl, by rw [cell_of_row _ _ _ _ _ _ h3]; exact g0, by rw [cell_of_row _ _ _ _ _ _ h3]; exact g1⟩
      obtain ⟨b, rfl, x0, x1⟩ := hcells
      have hbr := World.block_lt_of_cell? _ _ x0
      have hxb := (hbel.cell (p := ⟨w.heap.size + 1, 0, none⟩) (by show w.heap.size + 1 < S2; have := HS2.out; omega)).trans hx11
      have hxbl := World.block_lt_of_cell? _ _ hxb
      have hFr : Ints wr (.slice Af fl cf) fr := by
        exact HF0.out.below (HB1.out.trans (hbel.mono (by have := HS2.out; omega)))
      have j1 : (0 : Int) ≤ (k : Int) := by omega
      have j2 : (k : Int) < (ml : Int) := by omega
      have hUl := hI.len
      obtain ⟨Ao, co, rfl⟩ := hI.slice
      have hrf := HFA.out (r.node, r.l) (by rw [← HML.out]; exact List.mem_map.2 ⟨r, List.mem_of_getElem? hrk, rfl⟩)
      have hro := hI.rest k r (Nat.le_refl _) hrk
      have hltr := hI.lt r (List.mem_of_getElem? hrk)
      have HRK := Lib.hid hrk
      obtain ⟨node, rv, rl⟩ := r
      simp only at x0 x1 hrf hro hltr
      obtain ⟨A2, c2, rfl⟩ := hro.slice
      have hS2r : S2 ≤ wr.heap.size := by have := hbel.size; omega
      have hb5 : Below S2 wr (wr.alloc (.cells #[.int .i64 (node : Int), .slice A2 rl.length c2] 71)) := (Below.refl _ _).alloc hS2r _
      have hwS : w.heap.size ≤ S2 := by have := HS2.out; omega
      have hxS : w.heap.size + 1 < S2 := by have := HS2.out; omega
      have hBW : Below w.heap.size w (wr.alloc (.cells #[.int .i64 (node : Int), .slice A2 rl.length c2] 71)) := (HB1.out.trans (hbel.mono hwS)).trans (hb5.mono hwS)
      have hS25 : S2 ≤ (wr.alloc (.cells #[.int .i64 (node : Int), .slice A2 rl.length c2] 71)).heap.size := by simp; omega
      have hx5 : (wr.alloc (.cells #[.int .i64 (node : Int), .slice A2 rl.length c2] 71)).cell? ⟨w.heap.size + 1, 0, none⟩ = some (.slice Af fl cf) := (hb5.cell (p := ⟨w.heap.size + 1, 0, none⟩) hxS).trans hxb
      have hdel := delf39 (.slice A2 rl.length c2) (.pointer (some ⟨w.heap.size + 1, 0, none⟩)) (freshB fr) S2 rl (wr.alloc (.cells #[.int .i64 (node : Int), .slice A2 rl.length c2] 71)) (hro.below ((Below.refl _ _).alloc (Nat.le_refl _) _)) (by omega) (fun W hg x hx => by
        obtain ⟨y, rfl, hy⟩ := hrf.2 x hx
        have hBg : Below S2 (wr.alloc (.cells #[.int .i64 (node : Int), .slice A2 rl.length c2] 71)) W := (Below.refl _ _).grown hg hS25 (fun q hq => (hltr q hq).1)
        exact fresh40 _ _ fr y W hy ((hBg.cell (p := ⟨w.heap.size + 1, 0, none⟩) hxS).trans hx5) (HF0.out.below (hBW.trans (hBg.mono hwS))) HFL.out.2)
      have HB5 := Lib.hid (hbel.trans hb5)
      obtain ⟨i0, hinf, hz0, hz1, hz2⟩ := info_parts info32
      clear hrk hrf hro hb5 hFr hxb hUl hx5 hbel hI hBW
      go_wp2_with fail
      refine hdel.mono ?_
      rintro e w2 ⟨⟨v', rfl, hv', hvb⟩, hgr⟩
      obtain ⟨A', c', rfl⟩ := hv'.slice
      have HD := Lib.hid (And.intro hv' (And.intro hvb hgr))
      have hB2 : Below S2 w1 w2 := HB5.out.grown hgr hS25 (fun q hq => (hltr q hq).1)
      have hs2 := hgr.size
      have hS22 : S2 ≤ w2.heap.size := by omega
      have g1 : wr.grownBy w2 (Value.slice A2 rl.length c2).ownBlock := (World.grownBy_alloc wr _ _).trans hgr
      have HO2 := Lib.hid ((kept' HI.out.out g1 (fun q hq e => HI.out.far _ (List.mem_of_getElem? HRK.out) q e hq)).alloc (.cells #[.slice A' (rl.filter fun x => !freshB fr x).length c'] 32))
      have HB2 := Lib.hid hB2
      clear hdel hv' hvb hgr hB2 g1 x0 x1
      generalize hfln : (rl.filter fun x => !freshB fr x).length = fln at *
      have HFN := Lib.hid hfln
      clear hfln
      go_wp2_with (at_builtin; refine wpList_append_lies _ rfl _ _ 52 rfl S2 32 i0 _ 1 24 Tryd.underlying52 hinf hz0 hz1 hz2 rfl (by decide) (.slice Ao k co) k _ rfl HO2.out ⟨w2.heap.size, 0, none⟩ 1 1 [.slice A' fln c'] rfl rfl (World.news_of_block (heap_alloc_new _ _)) (by simp [Value.oneCell']) (by decide) (by unfold maxLen; omega) (by omega) (by simp; omega) (w2.heap.size + 1) (by simp) ?_)
      intro g cap w3 o1 o2 o3 _
      have HN := Lib.hid (HI.out.next (o2 := .cells #[.slice A' fln c'] 32) HRK.out HD.out.1 HD.out.2.1 HD.out.2.2 o1 o2 o3)
      have hB3 := (HB2.out.alloc hS22 (.cells #[.slice A' fln c'] 32)).grown o2 (by simp; omega) (fun q hq => (World.ownsRow.lt HO2.out q hq).1)
      clear o1 o2 o3 hinf hz0 hz1 hz2
      go_wp2_with fail
      go_roundg (gk - 1)
      case measure => have := HG.out; omega
      case rel => exact ⟨k + 1, _, by omega, by have := HG.out; omega, by go_num, HN.out, hB3⟩
    · obtain rfl : k = ml := by omega
      obtain ⟨Ao, co, rfl⟩ := hI.slice
      have hwS : w.heap.size ≤ S2 := by have := HS2.out; omega
      clear hI
      go_wp2_with fail
      go_ret2
      have hI := HI.out
      refine ⟨⟨_, U, rfl, ?_⟩, HB1.out.trans (HBEL.out.mono hwS)⟩
      have e : (L.map fun r => r.2.filter fun x => !freshB fr x) = M.map fun r => r.l.filter fun x => !freshB fr x := by rw [← HML.out, List.map_map]; rfl
      rw [e]
      rw [← HLN.out] at hI
      have := hI.lists.lower hwS
      rw [HLN.out] at this
      exact this
end Go.Proofs.YtopkanokpfhmmaaDoor
