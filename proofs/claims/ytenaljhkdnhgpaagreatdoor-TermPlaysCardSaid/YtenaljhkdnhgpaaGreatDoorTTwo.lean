/- Two stores beside one another; both are built of the same terms. -/
import Derived.Test.YtenaljhkdnhgpaaGreatDoorTRData
namespace Go.Proofs.YtenaljhkdnhgpaaGreatDoor.T
open Go.RowKit

theorem row_same {w w' : World} {B E s n : Nat} {v : Value} {xs : List Value} (ho : w.ownsRow B E s v n xs) (hk : ∀ k, v.ownBlock = some k → w'.heap[k]? = w.heap[k]?) : w'.ownsRow B E s v n xs := by
  refine ⟨ho.1, ?_⟩
  rcases ho.2 with h1 | ⟨g, cap, cur, rfl, h2, h3, h4⟩
  · exact .inl h1
  · exact .inr ⟨g, cap, cur, rfl, h2, (hk g rfl).trans h3, h4⟩
theorem ne_typed {w : World} {k k' : Nat} {o o' : Obj} (h : w.heap[k]? = some o) (h' : w.heap[k']? = some o') (hne : o ≠ o') : k ≠ k' := by
  rintro rfl
  rw [h] at h'
  injection h' with h'
  exact hne h'
structure Two (w : World) (B g m gr : Nat) (L : List Tm) (v : Value) (L' : List Tm) (vr : Value) : Prop where
  st : St w B g m L v
  rst : RSt w B gr L' vr
  dj : ∀ k, v.ownBlock = some k → vr.ownBlock ≠ some k
variable {w w' : World} {B g m gr : Nat} {L L' L1 : List Tm} {v v1 vr : Value}
theorem Two.below (h : Two w B g m gr L v L' vr) (hb : Below w.heap.size w w') : Two w' B g m gr L v L' vr := ⟨h.st.below hb, h.rst.below hb, h.dj⟩
theorem Two.s_step (h : Two w B g m gr L v L' vr) (hs : St w' B g m L1 v1) (hf : Fs w w' g m v v1) (hz : w.heap.size ≤ w'.heap.size) : Two w' B g m gr L1 v1 L' vr := by
  obtain ⟨D, ⟨es, clock, hm, _⟩, _⟩ := h.st.map
  have hblk : w'.heap[gr]? = w.heap[gr]? := by
    refine hf.1 gr (lt_of_some h.rst.blk) (ne_typed h.rst.blk h.st.blk (by intro e; injection e with _ e; cases e)) (ne_typed h.rst.blk hm (by intro e; cases e)) fun e => ?_
    obtain ⟨cur, hc⟩ := row_typed h.st.row gr e.symm
    exact ne_typed h.rst.blk hc (by intro e; injection e with _ e; cases e) rfl
  have hrow : ∀ k, vr.ownBlock = some k → w'.heap[k]? = w.heap[k]? := fun k hk => by
    obtain ⟨cur, hc⟩ := row_typed h.rst.row k hk
    refine hf.1 k (lt_of_some hc) (ne_typed hc h.st.blk (by intro e; injection e with _ e; cases e)) (ne_typed hc hm (by intro e; cases e)) fun e => h.dj k e.symm hk
  refine ⟨hs, ⟨h.rst.lo, Nat.le_trans h.rst.hB hz, hblk.trans h.rst.blk, row_same h.rst.row hrow⟩, fun k hk e => ?_⟩
  obtain ⟨cur, hc⟩ := row_typed h.rst.row k e
  exact hf.2 k (lt_of_some hc) (fun e2 => h.dj k e2.symm e) hk.symm
theorem Two.r_step (h : Two w B g m gr L v L' vr) (hs : RSt w' B gr L1 v1) (hf : Fr w w' gr vr v1) (hz : w.heap.size ≤ w'.heap.size) : Two w' B g m gr L v L1 v1 := by
  obtain ⟨D, ⟨es, clock, hm, hm2⟩, hm3⟩ := h.st.map
  have hblk : w'.heap[g]? = w.heap[g]? := by
    refine hf.1 g (lt_of_some h.st.blk) (ne_typed h.st.blk h.rst.blk (by intro e; injection e with _ e; cases e)) fun e => ?_
    obtain ⟨cur, hc⟩ := row_typed h.rst.row g e.symm
    exact ne_typed h.st.blk hc (by intro e; injection e with _ e; cases e) rfl
  have hmap : w'.heap[m]? = w.heap[m]? := by
    refine hf.1 m (lt_of_some hm) (ne_typed hm h.rst.blk (by intro e; cases e)) fun e => ?_
    obtain ⟨cur, hc⟩ := row_typed h.rst.row m e.symm
    exact ne_typed hm hc (by intro e; cases e) rfl
  have hrow : ∀ k, v.ownBlock = some k → w'.heap[k]? = w.heap[k]? := fun k hk => by
    obtain ⟨cur, hc⟩ := row_typed h.st.row k hk
    exact hf.1 k (lt_of_some hc) (ne_typed hc h.rst.blk (by intro e; injection e with _ e; cases e)) fun e => h.dj k hk e.symm
  refine ⟨⟨h.st.lo, h.st.lm, Nat.le_trans h.st.hB hz, hblk.trans h.st.blk, row_same h.st.row hrow, h.st.map.below hmap⟩, hs, fun k hk e => ?_⟩
  obtain ⟨cur, hc⟩ := row_typed h.st.row k hk
  exact hf.2 k (lt_of_some hc) (fun e2 => h.dj k hk e2.symm) e.symm
/-- A store of made terms: each once, each was allowed. -/
def Full (L : List Tm) : Prop := Good L ∧ ∀ (i : Nat) (t : Tm), L[i]? = some t → num L t = some ((i : Int) + 1) ∧ mayB i t = true
theorem full_nil : Full [] := ⟨good_nil, fun i t h => by simp at h⟩
theorem num_app {L : List Tm} {t u : Tm} {x : Int} (h : num L u = some x) : num (L ++ [t]) u = some x := by
  unfold num at *
  rw [Option.map_eq_some_iff] at h
  obtain ⟨i, hi, rfl⟩ := h
  rw [List.findIdx?_append, hi]
  rfl
theorem mk_full {L : List Tm} (h : Full L) {t : Tm} (ht : Tm.wf t) : Full (mk L t).2.2 := by
  have hg := mk_good h.1 ht
  rcases mk_ways L t with ⟨e, _⟩ | ⟨i, e, _⟩ | ⟨e, _⟩ | ⟨e, h1, h2, h3⟩
  · rw [e]; exact h
  · rw [e]; exact h
  · rw [e]; exact h
  · rw [e] at hg ⊢
    refine ⟨hg, fun i u hu => ?_⟩
    by_cases hi : i < L.length
    · rw [List.getElem?_append_left hi] at hu
      exact ⟨num_app (h.2 i u hu).1, (h.2 i u hu).2⟩
    · have hi2 : i = L.length := by
        have := (List.getElem?_eq_some_iff.1 hu).1
        simp at this
        omega
      subst hi2
      simp at hu
      subst hu
      exact ⟨num_self L t h2, h1⟩
set_option maxHeartbeats 2000000 in
set_option maxRecDepth 100000 in
theorem build (l : List Tm) (v : Value) (w : World) (hat : AT w v l) (hwf : ∀ t ∈ l, Tm.wf t) (hbd : l.length ≤ 1000000) : Calls Tryz.prog 5 #[v] w fun e w' => ∃ g m gr L v1 vr, e = .returned (.tuple #[.pointer (some ⟨g, 0, none⟩), .pointer (some ⟨gr, 0, none⟩), .bool true]) ∧ Two w' w.heap.size g m gr L v1 L vr ∧ Full L ∧ L.length ≤ l.length ∧ Below w.heap.size w w' := by
  obtain ⟨A, n, c, rfl, hn⟩ : ∃ A n c, v = .slice A n c ∧ n = l.length := by
    rcases hat with ⟨h1, h2⟩ | ⟨a, c, h1, _⟩
    · exact ⟨_, _, _, h1, by rw [h2]; rfl⟩
    · exact ⟨_, _, _, h1, rfl⟩
  rw [← hn] at hbd
  have HN := Lib.hid hn
  have HAT := Lib.hid hat
  have HWF := Lib.hid hwf
  clear hn hat hwf
  go_enter Tryz.func5, Tryz.ntmps5
  go_wp2_with (go_at_call 26; with_reducible refine (new _).mono ?_; rintro e w1 ⟨g, m, v1, rfl, S1, B1⟩)
  have HB1 := Lib.hid B1
  have HS1 := Lib.hid S1
  clear S1 B1
  go_wp2_with (go_at_call 27; with_reducible refine (rnew _).mono ?_; rintro e w2 ⟨gr, vr, rfl, S2, B2⟩)
  have T0 : Two w2 w.heap.size g m gr [] v1 [] vr := by
    have h1 := HS1.out.below B2
    refine ⟨h1, ⟨Nat.le_trans HB1.out.size S2.lo, Nat.le_trans HB1.out.size B2.size, S2.blk, ⟨S2.row.1, S2.row.2.imp id fun ⟨q, cap, cur, e1, e2, e3⟩ => ⟨q, cap, cur, e1, Nat.le_trans HB1.out.size e2, e3⟩⟩⟩, fun k hk e => ?_⟩
    have h2 := (World.ownsRow.lt S2.row k e).1
    have h3 := (World.ownsRow.lt HS1.out.row k hk).2
    omega
  have R0 : Hid (∃ L v vr, Two w2 w.heap.size g m gr L v L vr ∧ Full L ∧ L.length ≤ 0 ∧ Below w.heap.size w w2) := Lib.hid ⟨_, _, _, T0, full_nil, by simp, HB1.out.trans (B2.mono HB1.out.size)⟩
  clear T0 S2 B2 HS1 HB1
  go_loopw [7] (fun v7 wr => ∃ k : Nat, k ≤ n ∧ v7 = .int .i64 k ∧ Hid (∃ L v vr, Two wr w.heap.size g m gr L v L vr ∧ Full L ∧ L.length ≤ k ∧ Below w.heap.size w wr)) (fun v7 _ => n - (intOf v7).toNat)
  case atStart => exact ⟨0, by omega, rfl, R0⟩
  case round =>
    clear R0
    obtain ⟨k, hk, rfl, HI⟩ := hrel
    obtain ⟨L, v, vr, T1, hg, hl, B1⟩ := HI.out
    by_cases hlt : k < n
    · obtain ⟨t, ht⟩ : ∃ t, l[k]? = some t := ⟨l[k]'(by have := HN.out; omega), List.getElem?_eq_getElem _⟩
      have hwt := HWF.out t (List.mem_of_getElem? ht)
      have M1 := make w.heap.size g m L v t.k t.n t.a t.b hwt hg.1.1 wr T1.st
      have M2 := fun w2 h2 => rmake w.heap.size gr L vr t.k t.n t.a t.b hg.1.1 w2 h2
      have hgq := mk_full hg hwt
      have hlq : (mk L t).2.2.length ≤ L.length + 1 := by
        rcases mk_ways L t with ⟨e, _⟩ | ⟨i, e, _⟩ | ⟨e, _⟩ | ⟨e, _⟩ <;> rw [e] <;> simp
      obtain ⟨b, o, rfl, _, hF⟩ := HAT.out.form k t ht
      have hF := fun w' hw' => hF w' hw' k t ht
      obtain ⟨c0, c1, c2, c3⟩ := hF wr B1
      obtain ⟨tk, tn, ta, tb⟩ := t
      dsimp only at M1 M2 c0 c1 c2 c3
      generalize mk L ⟨tk, tn, ta, tb⟩ = q at *
      obtain ⟨q1, q2, q3⟩ := q
      dsimp only at M1 M2 hgq hlq
      have i1 : (0 : Int) ≤ k := by omega
      have i2 : (k : Int) < n := by omega
      have HG := Lib.hid (And.intro hgq (show q3.length ≤ k + 1 by omega))
      have HF := Lib.hid hF
      have HB1 := Lib.hid B1
      have HT1 := Lib.hid T1
      have HM2 := Lib.hid M2
      clear hgq hlq hF B1 hwt ht HI T1 hg hl M2
      go_wp2_with fail
      with_reducible refine M1.mono ?_
      rintro e w2 ⟨v2, rfl, S2, B2, K2⟩
      have T2 := HT1.out.s_step S2 K2 B2.size
      have M2 := HM2.out w2 T2.rst
      have HT2 := Lib.hid T2
      have HB2 := Lib.hid (HB1.out.trans B2)
      obtain ⟨c0, c1, c2, c3⟩ := HF.out w2 HB2.out
      clear S2 B2 K2 M1 T2
      go_wp2_with fail
      with_reducible refine M2.mono ?_
      rintro e w3 ⟨v3, rfl, S3, B3, _, K3⟩
      have HT3 := Lib.hid (HT2.out.r_step S3 K3 B3.size)
      have HB3 := Lib.hid (HB2.out.trans B3)
      clear S3 B3 K3 M2
      go_wp2_with fail
      go_roundw
      case rel => exact ⟨k + 1, by omega, by go_num, Lib.hid ⟨q3, v2, v3, HT3.out, HG.out.1, HG.out.2, HB3.out⟩⟩
      case measure => simp [intOf]; omega
    · obtain rfl : k = n := by omega
      have HH := Lib.hid (And.intro T1 (And.intro hg (And.intro hl B1)))
      clear T1 hg hl B1 HI
      go_wp2_with fail
      go_ret3
      exact ⟨_, _, _, _, _, _, rfl, HH.out.1, HH.out.2.1, by have := HH.out.2.2.1; have := HN.out; omega, HH.out.2.2.2⟩
end Go.Proofs.YtenaljhkdnhgpaaGreatDoor.T
