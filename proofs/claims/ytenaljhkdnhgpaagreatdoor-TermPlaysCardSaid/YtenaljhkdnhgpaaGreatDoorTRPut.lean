/- The document's Dag: a term's parts, then itself. -/
import Derived.Test.YtenaljhkdnhgpaaGreatDoorTAlikeH
namespace Go.Proofs.YtenaljhkdnhgpaaGreatDoor.T
open Go.RowKit

def tOf (T : List Int) : Told := fun u => if u = 0 then some 0 else if 0 ≤ u ∧ 0 < T.getD u.toNat 0 then some (T.getD u.toNat 0) else none
theorem tOf_set (T : List Int) (m : Nat) (v : Int) (h0 : 0 < m) (hm : m < T.length) (hv : 0 < v) : tOf (T.set m v) = upd (tOf T) (m : Int) v := by
  funext u
  dsimp only [tOf, upd]
  by_cases e : u = 0
  · subst e
    rw [if_pos rfl, if_neg (by omega), if_pos rfl]
  · rw [if_neg e]
    by_cases e2 : u = (m : Int)
    · subst e2
      have : (T.set m v).getD (m : Int).toNat 0 = v := by rw [Int.toNat_natCast, List.getD_eq_getElem?_getD, List.getElem?_set_self hm]; rfl
      rw [if_pos rfl, this, if_pos ⟨by omega, hv⟩]
    · rw [if_neg e2]
      by_cases e3 : 0 ≤ u
      · have : (T.set m v).getD u.toNat 0 = T.getD u.toNat 0 := by rw [List.getD_eq_getElem?_getD, List.getD_eq_getElem?_getD, List.getElem?_set_ne (by omega)]
        rw [this, if_neg e]
      · rw [if_neg (fun h => e3 h.1), if_neg e, if_neg (fun h => e3 h.1)]
theorem tOf_getD (T : List Int) (hz : T[0]? = some 0) (m : Nat) (h : (tOf T (m : Int)).isSome = true) : (tOf T (m : Int)).getD 0 = T.getD m 0 := by
  unfold tOf at *
  by_cases e : (m : Int) = 0
  · rw [if_pos e]
    obtain rfl : m = 0 := by omega
    rw [List.getD_eq_getElem?_getD, hz]
  · rw [if_neg e] at h ⊢
    rw [Int.toNat_natCast] at h ⊢
    split at h
    · rename_i e2; rw [if_pos e2]; rfl
    · cases h
structure PSt (w0 w : World) (B gr : Nat) (L : List Tm) (vr : Value) (bt : Nat) (vo : Value) (T : List Int) (out : List Tm) : Prop where
  rst : RSt w0 B gr L vr
  bel : Below w0.heap.size w0 w
  lt : w0.heap.size ≤ bt
  blk : w.heap[bt]? = some (.cells (T.map (Value.int .i64)).toArray 3 (0, 0))
  row : w.ownsRow w0.heap.size 69 4 vo out.length (rowOf out)
variable {w0 w w' : World} {B gr : Nat} {L : List Tm} {vr : Value} {bt : Nat} {vo vo' : Value} {T : List Int} {out : List Tm}
theorem PSt.below (h : PSt w0 w B gr L vr bt vo T out) (hb : Below w.heap.size w w') : PSt w0 w' B gr L vr bt vo T out :=
  ⟨h.rst, h.bel.trans (hb.mono h.bel.size), h.lt, (hb.block bt (lt_of_some h.blk)).trans h.blk, row_below h.row hb⟩
theorem PSt.store (h : PSt w0 w B gr L vr bt vo T out) : RSt w B gr L vr := h.rst.below h.bel
theorem PSt.cell (h : PSt w0 w B gr L vr bt vo T out) (m : Nat) (hm : m < T.length) : w.cell? ⟨bt, m, none⟩ = some (.int .i64 (T.getD m 0)) := by
  rw [cell_of_row w bt m _ _ _ h.blk]
  simp [List.getD_eq_getElem?_getD, hm]
def Fo (w w' : World) (vo vo' : Value) (bt : Nat) : Prop := (∀ k, k < w.heap.size → some k ≠ vo.ownBlock → k ≠ bt → w'.heap[k]? = w.heap[k]?) ∧ NB w vo vo'
theorem Fo.refl (w : World) (vo : Value) (bt : Nat) : Fo w w vo vo bt := ⟨fun _ _ _ _ => rfl, NB.refl w vo⟩
theorem Fo.trans {a b c : World} {v v1 v2 : Value} (h1 : Fo a b v v1 bt) (h2 : Fo b c v1 v2 bt) (hs : a.heap.size ≤ b.heap.size) : Fo a c v v2 bt :=
  ⟨fun k hk k1 k3 => (h2.1 k (by omega) (h1.2 k hk k1) k3).trans (h1.1 k hk k1 k3), fun k hk k3 => h2.2 k (by omega) (h1.2 k hk k3)⟩
theorem Fo.of_below {w w' : World} (vo : Value) (bt : Nat) (h : Below w.heap.size w w') : Fo w w' vo vo bt := ⟨fun k hk _ _ => h.block k hk, NB.refl w vo⟩
theorem pushT2 {ops : Array Oper} {rest : List Oper} {o : Oper} {a : Act} {Q : Exit → Act → World → Prop} {w : World} {B : Nat} {v : Value} {l : List Tm} {u : Tm}
    (hgd : o.guard = none) (s x : Operand) (ho : o.op = .call { callee := .builtin .append, args := #[s, x], argTypes := #[22, 22] })
    (hs : a.eval s = v) (hx : a.eval x = .slice (some ⟨w.heap.size, 0, none⟩) 1 1) (hown : Hid (w.ownsRow B 69 4 v l.length (rowOf l))) (hB : B ≤ w.heap.size) (hl : l.length < 4294967296)
    (h : ∀ g cap w', w'.ownsRow B 69 4 (.slice (some ⟨g, 0, none⟩) (l.length + 1) cap) (l.length + 1) (rowOf l ++ u.cs) → (w.alloc (.cells #[.int .u8 u.k, .int .i64 u.n, .int .i64 u.a, .int .i64 u.b] 69)).grownBy w' v.ownBlock → (v.ownBlock = some g ∨ g = w.heap.size + 1) → wpList Tryz.prog ops Q rest (a.put o.dst (.slice (some ⟨g, 0, none⟩) (l.length + 1) cap)) w') :
    wpList Tryz.prog ops Q (o :: rest) a (w.alloc (.cells #[.int .u8 u.k, .int .i64 u.n, .int .i64 u.a, .int .i64 u.b] 69)) := by
  obtain ⟨i0, hinf, hz0, hz1, hz2⟩ := info_parts info30
  refine wpList_append_lies _ hgd s x 22 ho B 69 i0 _ 4 32 Tryz.underlying22 hinf hz0 hz1 hz2 rfl (by decide) v l.length (rowOf l) hs (hown.out.alloc _) ⟨w.heap.size, 0, none⟩ 1 1 [.int .u8 u.k, .int .i64 u.n, .int .i64 u.a, .int .i64 u.b] hx rfl (World.news_of_block (heap_alloc_new _ _))
    (by simp [Value.oneCell']) (by decide) (by unfold maxLen; omega) (by omega) (by simp; omega) (w.heap.size + 1) (by simp) (fun g cap w' h1 h2 h3 _ => h g cap w' h1 h2 h3)
theorem pushT3 {ops : Array Oper} {rest : List Oper} {o : Oper} {a : Act} {Q : Exit → Act → World → Prop} {w : World} {B nb : Nat} {v : Value} {l : List Tm} {u : Tm} (hnb : nb = w.heap.size)
    (hgd : o.guard = none) (s x : Operand) (ho : o.op = .call { callee := .builtin .append, args := #[s, x], argTypes := #[22, 22] })
    (hs : a.eval s = v) (hx : a.eval x = .slice (some ⟨nb, 0, none⟩) 1 1) (hown : Hid (w.ownsRow B 69 4 v l.length (rowOf l))) (hB : B ≤ w.heap.size) (hl : l.length < 4294967296)
    (h : ∀ g cap w', w'.ownsRow B 69 4 (.slice (some ⟨g, 0, none⟩) (l.length + 1) cap) (l.length + 1) (rowOf l ++ u.cs) → (w.alloc (.cells #[.int .u8 u.k, .int .i64 u.n, .int .i64 u.a, .int .i64 u.b] 69)).grownBy w' v.ownBlock → (v.ownBlock = some g ∨ g = nb + 1) → wpList Tryz.prog ops Q rest (a.put o.dst (.slice (some ⟨g, 0, none⟩) (l.length + 1) cap)) w') :
    wpList Tryz.prog ops Q (o :: rest) a (w.alloc (.cells #[.int .u8 u.k, .int .i64 u.n, .int .i64 u.a, .int .i64 u.b] 69)) := by
  subst hnb
  exact pushT2 hgd s x ho hs hx hown hB hl h
set_option maxHeartbeats 4000000 in
set_option maxRecDepth 100000 in
theorem rput (hg : Good L) : ∀ (k m : Nat) (T : List Int) (out : List Tm) (vo : Value) (w : World), m ≤ L.length → m ≤ k → T.length = L.length + 1 → T[0]? = some 0 → Cl L (tOf T) → out.length = cnt L.length (tOf T) → PSt w0 w B gr L vr bt vo T out →
    Calls Tryz.prog 33 #[.pointer (some ⟨gr, 0, none⟩), .int .i64 m, vo, .slice (some ⟨bt, 0, none⟩) (L.length + 1) (L.length + 1)] w fun e w' => ∃ vo' T', e = .returned (.tuple #[vo', .slice (some ⟨bt, 0, none⟩) (L.length + 1) (L.length + 1)]) ∧ PSt w0 w' B gr L vr bt vo' T' (putN L k m (tOf T, out)).2 ∧ T'.length = L.length + 1 ∧ T'[0]? = some 0 ∧ tOf T' = (putN L k m (tOf T, out)).1 ∧ Fo w w' vo vo' bt ∧ w.heap.size ≤ w'.heap.size := by
  intro k
  induction k with
  | zero =>
    intro m T out vo w hm hk hTl hTz hc hl hp
    obtain rfl : m = 0 := by omega
    obtain ⟨A, c, rfl, _⟩ := (RT.of_own' (show w.ownsRow w0.heap.size 69 4 vo out.length (rowOf out) from hp.row)).slice
    have HP := Lib.hid hp
    have HT := Lib.hid (And.intro hTl hTz)
    clear hp hc hl hTl hTz
    go_enter Tryz.func33, Tryz.ntmps33
    go_wp2
    go_ret2
    exact ⟨_, T, rfl, HP.out, HT.out.1, HT.out.2, rfl, Fo.refl _ _ _, Nat.le_refl _⟩
  | succ k ih =>
    intro m T out vo w hm hk hTl hTz hc hl hp
    obtain ⟨A, c, rfl, _⟩ := (RT.of_own' (show w.ownsRow w0.heap.size 69 4 vo out.length (rowOf out) from hp.row)).slice
    by_cases h0 : m = 0
    · subst h0
      have e1 : tOf T ((0 : Nat) : Int) = some 0 := rfl
      rw [putN_told (s := (tOf T, out)) e1]
      have HP := Lib.hid hp
      have HT := Lib.hid (And.intro hTl hTz)
      clear hp hc hl hTl hTz ih e1
      go_enter Tryz.func33, Tryz.ntmps33
      go_wp2
      go_ret2
      exact ⟨_, T, rfl, HP.out, HT.out.1, HT.out.2, rfl, Fo.refl _ _ _, Nat.le_refl _⟩
    · have cm := hp.cell m (by omega)
      have i1 : (0 : Int) ≤ (m : Int) := by omega
      have i2 : (m : Int) < (L.length : Int) + 1 := by omega
      have t0 : ((m : Int) == 0) = false := by rw [beq_eq_false_iff_ne]; omega
      have hLb := hg.1
      by_cases hpos : 0 < T.getD m 0
      · have e1 : tOf T (m : Int) = some (T.getD m 0) := by unfold tOf; rw [if_neg (by omega), Int.toNat_natCast, if_pos ⟨by omega, hpos⟩]
        rw [putN_told (s := (tOf T, out)) e1]
        have HP := Lib.hid hp
        have HT := Lib.hid (And.intro hTl hTz)
        generalize T.getD m 0 = y at *
        have t1 : decide (y > 0) = true := decide_eq_true hpos
        clear hp hc hl hTl hTz ih e1
        go_enter Tryz.func33, Tryz.ntmps33
        go_wp2
        go_ret2
        exact ⟨_, T, rfl, HP.out, HT.out.1, HT.out.2, rfl, Fo.refl _ _ _, Nat.le_refl _⟩
      · have e1 : tOf T (m : Int) = none := by unfold tOf; rw [if_neg (by omega), Int.toNat_natCast, if_neg (fun h => hpos h.2)]
        obtain ⟨i, rfl⟩ : ∃ i, m = i + 1 := ⟨m - 1, by omega⟩
        have hi : i < L.length := by omega
        obtain ⟨t, ht⟩ : ∃ t, L[i]? = some t := ⟨L[i], List.getElem?_eq_getElem hi⟩
        have hpt := hg.2.2 i t ht
        have ht' : L[((((i + 1 : Nat) : Int)) - 1).toNat]? = some t := by rw [show ((((i + 1 : Nat) : Int)) - 1).toNat = i by omega]; exact ht
        rw [putN_new (s := (tOf T, out)) e1 ht']
        obtain ⟨tk, tn, ta, tb⟩ := t
        obtain ⟨na, rfl⟩ : ∃ na : Nat, ta = na := ⟨ta.toNat, by dsimp only at hpt; omega⟩
        obtain ⟨nb, rfl⟩ : ∃ nb : Nat, tb = nb := ⟨tb.toNat, by dsimp only at hpt; omega⟩
        dsimp only at hpt ⊢
        obtain ⟨a1, a2, a3, a4, _⟩ := putN_is hg k (na : Int) (tOf T, out) (by omega) (by omega) (by omega) hc hl
        obtain ⟨b1, b2, b3, b4, _⟩ := putN_is hg k (nb : Int) (putN L k na (tOf T, out)) (by omega) (by omega) (by omega) a1 a2
        have hsa := (a3 na).2 (.inr (.self _))
        have hsb := (b3 nb).2 (.inr (.self _))
        have hsa2 := (b3 na).2 (.inl hsa)
        have hS := hp.store
        obtain ⟨gl, cl, hvr, _, _⟩ := hS.row.form (by omega)
        subst hvr
        have c0 := hS.c0
        obtain ⟨x0, x1, x2, x3⟩ := RT.cell (w := w) (RT.of_own' hS.row) rfl i _ ht
        dsimp only at x0 x1 x2 x3
        have hbx : (w.alloc (.cells #[.int .u8 tk, .int .i64 tn, .int .i64 na, .int .i64 nb] 69)).heap[w.heap.size]? = some (.cells #[.int .u8 tk, .int .i64 tn, .int .i64 na, .int .i64 nb] 69 (0, 0)) := heap_alloc_new w _
        have hbb : Below w.heap.size w (w.alloc (.cells #[.int .u8 tk, .int .i64 tn, .int .i64 na, .int .i64 nb] 69)) := (Below.refl _ _).alloc (Nat.le_refl _) _
        have z2 : (w.alloc (.cells #[.int .u8 tk, .int .i64 tn, .int .i64 na, .int .i64 nb] 69)).cell? ⟨w.heap.size, 2, none⟩ = some (.int .i64 na) := by rw [cell_of_row _ _ 2 _ _ _ hbx]; rfl
        have M1 := ih na T out _ _ (by omega) (by omega) hTl hTz hc hl (hp.below hbb)
        have hlo : ∀ j, (Value.slice A out.length c).ownBlock = some j → j < w.heap.size := fun j hj => (World.ownsRow.lt hp.row j hj).2
        have hbt : bt < w.heap.size := lt_of_some hp.blk
        have t1 : decide (T.getD (i + 1) 0 > 0) = false := decide_eq_false hpos
        have t1' : decide (0 < T.getD (i + 1) 0) = false := decide_eq_false hpos
        have HP := Lib.hid hp
        have HIH := Lib.hid ih
        have HX := Lib.hid hbx
        have HBB := Lib.hid hbb
        have HC := Lib.hid (And.intro a1 (And.intro a2 (And.intro b1 (And.intro b2 (And.intro hsa (And.intro hsb hsa2))))))
        have HLO := Lib.hid hlo
        have HPT := Lib.hid hpt
        have hm1 : ((i + 1 : Nat) : Int) - 1 = (i : Int) := by omega
        have hw1 : IntKind.i64.wrap (((i + 1 : Nat) : Int) - 1) = (i : Int) := by rw [hm1]; exact IntWalk.i64_in _ (by omega)
        have i3 : (i : Int) < (L.length : Int) := by omega
        have i4 : (0 : Int) ≤ (i : Int) := by omega
        generalize T.getD (i + 1) 0 = y at *
        clear ih hbx hbb a1 a2 a3 a4 b1 b2 b3 b4 hsa hsb hsa2 hS hlo hc hl hp ht ht' e1 hpt hpos
        go_enter Tryz.func33, Tryz.ntmps33
        go_wp2_with fail
        generalize hs1 : putN L k na (tOf T, out) = s1 at *
        obtain ⟨f1, o1⟩ := s1
        dsimp only at M1
        with_reducible refine M1.mono ?_
        rintro e w1 ⟨vo1, T1, rfl, P1, l1, z1, eT1, F1, sz1⟩
        subst eT1
        obtain ⟨A1, c1, rfl, _⟩ := (RT.of_own' (show w1.ownsRow w0.heap.size 69 4 vo1 o1.length (rowOf o1) from P1.row)).slice
        have hX1 : w1.heap[w.heap.size]? = some (.cells #[.int .u8 tk, .int .i64 tn, .int .i64 na, .int .i64 nb] 69 (0, 0)) := (F1.1 w.heap.size (lt_of_some HX.out) (fun e => by have := HLO.out _ e.symm; omega) (by omega)).trans HX.out
        have hne1 : some w.heap.size ≠ (Value.slice A1 o1.length c1).ownBlock := F1.2 w.heap.size (lt_of_some HX.out) (fun e => by have := HLO.out _ e.symm; omega)
        have y3 : w1.cell? ⟨w.heap.size, 3, none⟩ = some (.int .i64 nb) := by rw [cell_of_row w1 _ 3 _ _ _ hX1]; rfl
        have M2 := HIH.out nb T1 o1 _ w1 (by have := HPT.out; omega) (by have := HPT.out; omega) l1 z1 HC.out.1 HC.out.2.1 P1
        have HF1 := Lib.hid ((Fo.of_below (.slice A out.length c) bt HBB.out).trans F1 HBB.out.size)
        have HX1 := Lib.hid hX1
        have HNE1 := Lib.hid hne1
        have hsz1 : w.heap.size < w1.heap.size := lt_of_some hX1
        have HS1 := Lib.hid hs1
        clear M1 hX1 hne1 P1 l1 z1 F1 hs1
        go_wp2_with fail
        generalize hs2 : putN L k nb (tOf T1, o1) = s2 at *
        obtain ⟨f2, o2⟩ := s2
        dsimp only at M2
        with_reducible refine M2.mono ?_
        rintro e w2 ⟨vo2, T2, rfl, P2, l2, z2', eT2, F2, sz2⟩
        subst eT2
        have HS2 := Lib.hid hs2
        clear hs2
        obtain ⟨A2, c2, rfl, _⟩ := (RT.of_own' (show w2.ownsRow w0.heap.size 69 4 vo2 o2.length (rowOf o2) from P2.row)).slice
        have hX2 : w2.heap[w.heap.size]? = some (.cells #[.int .u8 tk, .int .i64 tn, .int .i64 na, .int .i64 nb] 69 (0, 0)) := (F2.1 w.heap.size hsz1 HNE1.out (by omega)).trans HX1.out
        have hne2 : some w.heap.size ≠ (Value.slice A2 o2.length c2).ownBlock := F2.2 w.heap.size hsz1 HNE1.out
        have ca := P2.cell na (by have := HPT.out; omega)
        have cb := P2.cell nb (by have := HPT.out; omega)
        have va := tOf_getD T2 z2' na HC.out.2.2.2.2.2.2
        have vb := tOf_getD T2 z2' nb HC.out.2.2.2.2.2.1
        have ga : (0 : Int) ≤ na := by omega
        have gb : (0 : Int) ≤ nb := by omega
        have ga2 : (na : Int) < (L.length : Int) + 1 := by have := HPT.out; omega
        have gb2 : (nb : Int) < (L.length : Int) + 1 := by have := HPT.out; omega
        generalize T2.getD na 0 = ya at *
        generalize T2.getD nb 0 = yb at *
        have q2 : w2.cell? ⟨w.heap.size, 2, none⟩ = some (.int .i64 na) := by rw [cell_of_row w2 _ 2 _ _ _ hX2]; rfl
        have qf2 : w2.frozen? ⟨w.heap.size, 2, none⟩ = false := frozen_of_row w2 _ 2 _ _ hX2
        have hX3 := heap_setCell_same w2 w.heap.size 2 _ _ (.int .i64 ya) hX2
        have hbt3 : w.heap.size ≠ bt := by omega
        have HP2 := Lib.hid P2
        have HX2 := Lib.hid hX2
        have HX3 := Lib.hid hX3
        have hX4 := heap_setCell_same _ w.heap.size 3 _ _ (.int .i64 yb) hX3
        have HX4 := Lib.hid hX4
        have r3 : (w2.setCell ⟨w.heap.size, 2, none⟩ (.int .i64 ya)).cell? ⟨w.heap.size, 3, none⟩ = some (.int .i64 nb) := by rw [cell_of_row _ _ 3 _ _ _ hX3]; rfl
        have rf3 : (w2.setCell ⟨w.heap.size, 2, none⟩ (.int .i64 ya)).frozen? ⟨w.heap.size, 3, none⟩ = false := frozen_of_row _ _ 3 _ _ hX3
        have rb : (w2.setCell ⟨w.heap.size, 2, none⟩ (.int .i64 ya)).cell? ⟨bt, nb, none⟩ = some (.int .i64 yb) := (World.cell?_of_block (a := ⟨bt, nb, none⟩) (Below.heap_setCell _ _ _ _ (fun e => hbt3 e.symm))).trans cb
        have u0 : ((w2.setCell ⟨w.heap.size, 2, none⟩ (.int .i64 ya)).setCell ⟨w.heap.size, 3, none⟩ (.int .i64 yb)).cell? ⟨w.heap.size, 0, none⟩ = some (.int .u8 tk) := by rw [cell_of_row _ _ 0 _ _ _ hX4]; rfl
        have u1 : ((w2.setCell ⟨w.heap.size, 2, none⟩ (.int .i64 ya)).setCell ⟨w.heap.size, 3, none⟩ (.int .i64 yb)).cell? ⟨w.heap.size, 1, none⟩ = some (.int .i64 tn) := by rw [cell_of_row _ _ 1 _ _ _ hX4]; rfl
        have u2 : ((w2.setCell ⟨w.heap.size, 2, none⟩ (.int .i64 ya)).setCell ⟨w.heap.size, 3, none⟩ (.int .i64 yb)).cell? ⟨w.heap.size, 2, none⟩ = some (.int .i64 ya) := by rw [cell_of_row _ _ 2 _ _ _ hX4]; rfl
        have u3 : ((w2.setCell ⟨w.heap.size, 2, none⟩ (.int .i64 ya)).setCell ⟨w.heap.size, 3, none⟩ (.int .i64 yb)).cell? ⟨w.heap.size, 3, none⟩ = some (.int .i64 yb) := by rw [cell_of_row _ _ 3 _ _ _ hX4]; rfl
        have HNE2 := Lib.hid hne2
        have HF2 := Lib.hid (HF1.out.trans F2 (by omega))
        have HL2 := Lib.hid (And.intro l2 (And.intro z2' (And.intro va vb)))
        clear M2 hX2 hX3 hX4 hne2 P2 l2 z2' F2 va vb
        have hrow4 : ((w2.setCell ⟨w.heap.size, 2, none⟩ (.int .i64 ya)).setCell ⟨w.heap.size, 3, none⟩ (.int .i64 yb)).ownsRow w0.heap.size 69 4 (.slice A2 o2.length c2) o2.length (rowOf o2) := row_same HP2.out.row fun k hk => by
          have hkx : k ≠ w.heap.size := fun e => HNE2.out (by rw [hk, e])
          exact (Below.heap_setCell _ _ _ _ hkx).trans (Below.heap_setCell _ _ _ _ hkx)
        have HR4 := Lib.hid hrow4
        have hb4 : w0.heap.size ≤ ((w2.setCell ⟨w.heap.size, 2, none⟩ (.int .i64 ya)).setCell ⟨w.heap.size, 3, none⟩ (.int .i64 yb)).heap.size := by have := HP2.out.bel.size; simp; exact this
        have HB4 := Lib.hid hb4
        have hol : o2.length ≤ L.length := by rw [HC.out.2.2.2.1]; exact cnt_le _ _
        clear hrow4 hb4
        go_wp2_with (at_builtin; refine pushT3 (u := ⟨tk, tn, ya, yb⟩) (by simp) rfl _ _ rfl rfl rfl HR4 HB4.out ?c1 ?_)
        case c1 => omega
        intro g5 cap5 w5 p1 p2 p3
        have hbtb : (((w2.setCell ⟨w.heap.size, 2, none⟩ (.int .i64 ya)).setCell ⟨w.heap.size, 3, none⟩ (.int .i64 yb)).alloc (.cells #[.int .u8 tk, .int .i64 tn, .int .i64 ya, .int .i64 yb] 69)).heap[bt]? = some (.cells (T2.map (Value.int .i64)).toArray 3 (0, 0)) :=
          (Below.heap_alloc _ _ _ (by have := lt_of_some HP2.out.blk; simp; exact this)).trans ((Below.heap_setCell _ _ _ _ (fun e => hbt3 e.symm)).trans ((Below.heap_setCell _ _ _ _ (fun e => hbt3 e.symm)).trans HP2.out.blk))
        have hrow5 := World.ownsRow.alloc HR4.out (.cells #[.int .u8 tk, .int .i64 tn, .int .i64 ya, .int .i64 yb] 69)
        have hblk5 : w5.heap[bt]? = some (.cells (T2.map (Value.int .i64)).toArray 3 (0, 0)) := block_row hbtb (fun _ e => by injection e with _ e; cases e) hrow5 p2
        have v1 : ∃ yy, w5.cell? ⟨bt, i + 1, none⟩ = some (.int .i64 yy) := ⟨T2.getD (i + 1) 0, by rw [cell_of_row w5 bt _ _ _ _ hblk5]; simp [List.getD_eq_getElem?_getD, show i + 1 < T2.length by have := HL2.out.1; omega]⟩
        obtain ⟨yy, v1⟩ := v1
        have v2 : w5.frozen? ⟨bt, i + 1, none⟩ = false := frozen_of_row w5 bt _ _ _ hblk5
        have HBK := Lib.hid hblk5
        have HP1 := Lib.hid p1
        have HP3 := Lib.hid p3
        have HG := Lib.hid p2
        clear p1 p2 p3 hbtb hrow5 hblk5 u0 u1 u2 u3 r3 rf3 rb q2 qf2
        go_wp2_with fail
        go_ret2
        have hb0 := HP.out.bel.size
        have hz2 : w.heap.size < w2.heap.size := lt_of_some HX2.out
        rw [HS1.out, HS2.out]
        dsimp only
        rw [HL2.out.2.2.1, HL2.out.2.2.2]
        refine ⟨_, T2.set (i + 1) ((o2.length : Int) + 1), rfl, ⟨HP.out.rst, ?_, HP.out.lt, ?_, ?_⟩, by rw [List.length_set]; exact HL2.out.1, ?_, ?_, ⟨fun k' hk' h1 h2 => ?_, fun k' hk' h1 h2 => ?_⟩, ?_⟩
        · exact (((((HP2.out.bel.setCell hb0 _).setCell hb0 _).alloc HB4.out _).grown HG.out (by simp; omega) (fun j hj => (World.ownsRow.lt HP2.out.row j hj).1))).setCell HP.out.lt _
        · rw [heap_setCell_same w5 bt _ _ _ _ HBK.out]
          simp
        · have h1 := row_other HP1.out HBK.out (fun _ e => by injection e with _ e; cases e) (grownBy_set w5 bt (i + 1) (.int .i64 ((o2.length : Int) + 1)))
          rw [List.length_append, rowOf_append]
          have e : rowOf [(⟨tk, tn, ya, yb⟩ : Tm)] = (⟨tk, tn, ya, yb⟩ : Tm).cs := by simp [rowOf]
          rw [e]
          exact h1
        · rw [List.getElem?_set_ne (by omega)]; exact HL2.out.2.1
        · exact tOf_set T2 (i + 1) _ (by omega) (by have := HL2.out.1; omega) (by omega)
        · have n2 := HF2.out.2 k' hk' h1
          rw [Below.heap_setCell _ _ _ _ h2, HG.out.block k' (by simp; omega) n2, Below.heap_alloc _ _ _ (by simp; omega), Below.heap_setCell _ _ _ _ (show k' ≠ w.heap.size by omega), Below.heap_setCell _ _ _ _ (show k' ≠ w.heap.size by omega)]
          exact HF2.out.1 k' hk' h1 h2
        · have n2 := HF2.out.2 k' hk' h1
          have h2 : k' = g5 := by simpa [Value.ownBlock] using h2
          subst h2
          rcases HP3.out with h3 | h3
          · exact n2 h3.symm
          · omega
        · have := HG.out.size
          simp at this
          simp
          omega
end Go.Proofs.YtenaljhkdnhgpaaGreatDoor.T
