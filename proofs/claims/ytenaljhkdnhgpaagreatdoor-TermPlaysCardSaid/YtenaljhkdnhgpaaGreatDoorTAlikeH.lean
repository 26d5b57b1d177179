/- A store's terms made in another one: the same telling. Plain. -/
import Derived.Test.YtenaljhkdnhgpaaGreatDoorTAlikeP
namespace Go.Proofs.YtenaljhkdnhgpaaGreatDoor.T

structure Hm (L : List Tm) (i : Nat) (ms : List Int) (M : List Tm) : Prop where
  full : Full M
  len : ms.length = i + 1
  zero : ms[0]? = some 0
  img : ∀ (x : Nat) (t : Tm), x < i → L[x]? = some t → ∃ p : Nat, ms[x + 1]? = some ((p : Int) + 1) ∧ M[p]? = some (tr ms t)
theorem tr_ext {ms r : List Int} {t : Tm} (ha : t.a.toNat < ms.length) (hb : t.b.toNat < ms.length) : tr (ms ++ r) t = tr ms t := by
  unfold tr
  simp only [List.getD_eq_getElem?_getD]
  rw [List.getElem?_append_left ha, List.getElem?_append_left hb]
theorem Hm.val {L : List Tm} {i : Nat} {ms : List Int} {M : List Tm} (h : Hm L i ms M) (hL : i ≤ L.length) (x : Int) (h0 : 0 ≤ x) (hx : x ≤ i) : (x = 0 → ms.getD x.toNat 0 = 0) ∧ (0 < x → 1 ≤ ms.getD x.toNat 0 ∧ ms.getD x.toNat 0 ≤ M.length) := by
  refine ⟨fun e => ?_, fun hp => ?_⟩
  · subst e
    rw [List.getD_eq_getElem?_getD]
    show (ms[0]?).getD 0 = 0
    rw [h.zero]
    rfl
  · obtain ⟨y, rfl⟩ : ∃ y : Nat, x = (y : Int) + 1 := ⟨(x - 1).toNat, by omega⟩
    obtain ⟨p, p1, p2⟩ := h.img y (L[y]'(by omega)) (by omega) (List.getElem?_eq_getElem _)
    have hlt := (List.getElem?_eq_some_iff.1 p2).1
    rw [show ((y : Int) + 1).toNat = y + 1 by omega, List.getD_eq_getElem?_getD, p1]
    simp only [Option.getD_some]
    omega
theorem may_tr {L : List Tm} {i : Nat} {ms : List Int} {M : List Tm} (h : Hm L i ms M) (hL : i ≤ L.length) {t : Tm} (hp : 0 ≤ t.a ∧ t.a ≤ i ∧ 0 ≤ t.b ∧ t.b ≤ i) (hm : mayB i t = true) : mayB M.length (tr ms t) = true := by
  have va := h.val hL t.a hp.1 hp.2.1
  have vb := h.val hL t.b hp.2.2.1 hp.2.2.2
  have ta : ∀ x : Int, thereB i x = true → (x = t.a ∨ x = t.b) → thereB M.length (ms.getD x.toNat 0) = true := fun x hx hxx => by
    unfold thereB at *
    simp only [Bool.and_eq_true, decide_eq_true_eq] at *
    rcases hxx with rfl | rfl
    · exact va.2 (by omega)
    · exact vb.2 (by omega)
  have za : (t.a == 0) = true → (ms.getD t.a.toNat 0 == 0) = true := fun e => by rw [beq_iff_eq] at *; exact va.1 e
  have zb : (t.b == 0) = true → (ms.getD t.b.toNat 0 == 0) = true := fun e => by rw [beq_iff_eq] at *; exact vb.1 e
  unfold mayB at *
  unfold tr
  dsimp only at *
  split at hm
  · rename_i e; rw [if_pos e]; simp only [Bool.and_eq_true] at *; exact ⟨hm.1, za hm.2.1, zb hm.2.2⟩
  rename_i e1; rw [if_neg e1]
  split at hm
  · rename_i e; rw [if_pos e]; simp only [Bool.and_eq_true] at *; exact ⟨za hm.1, zb hm.2⟩
  rename_i e2; rw [if_neg e2]
  split at hm
  · rename_i e; rw [if_pos e]; simp only [Bool.and_eq_true] at *; exact ⟨hm.1, ta _ hm.2.1 (.inl rfl), ta _ hm.2.2 (.inr rfl)⟩
  rename_i e3; rw [if_neg e3]
  split at hm
  · rename_i e; rw [if_pos e]; simp only [Bool.and_eq_true, Bool.or_eq_true] at *; exact ⟨hm.1, ta _ hm.2.1 (.inl rfl), hm.2.2.imp (fun h => ta _ h (.inr rfl)) zb⟩
  rename_i e4; rw [if_neg e4]
  split at hm
  · rename_i e; rw [if_pos e]; simp only [Bool.and_eq_true] at *; exact ⟨hm.1, ta _ hm.2.1 (.inl rfl), zb hm.2.2⟩
  · cases hm
theorem wf_tr {L : List Tm} {i : Nat} {ms : List Int} {M : List Tm} (h : Hm L i ms M) (hL : i ≤ L.length) {t : Tm} (hw : Tm.wf t) (hp : 0 ≤ t.a ∧ t.a ≤ i ∧ 0 ≤ t.b ∧ t.b ≤ i) : Tm.wf (tr ms t) := by
  have va := h.val hL t.a hp.1 hp.2.1
  have vb := h.val hL t.b hp.2.2.1 hp.2.2.2
  have hM := h.full.1.1
  refine ⟨hw.1, hw.2.1, wf_small (ms.getD t.a.toNat 0) ?_ ?_, wf_small (ms.getD t.b.toNat 0) ?_ ?_⟩
  · by_cases e : t.a = 0
    · have := va.1 e; omega
    · have := va.2 (by omega); omega
  · by_cases e : t.a = 0
    · have := va.1 e; omega
    · have := va.2 (by omega); omega
  · by_cases e : t.b = 0
    · have := vb.1 e; omega
    · have := vb.2 (by omega); omega
  · by_cases e : t.b = 0
    · have := vb.1 e; omega
    · have := vb.2 (by omega); omega
theorem acr_hm {L L2 : List Tm} (hf : Full L) (hf2 : Full L2) (hb : L2.length + L.length < 1048576) : ∀ i, i ≤ L.length → Hm L i (acrN L L2 i).1 (acrN L L2 i).2 ∧ (acrN L L2 i).2.length ≤ L2.length + i := by
  intro i
  induction i with
  | zero => intro _; exact ⟨⟨hf2, rfl, rfl, fun x t hx => by omega⟩, by simp [acrN]⟩
  | succ i ih =>
    intro hi
    obtain ⟨h, hlen⟩ := ih (by omega)
    obtain ⟨t, ht⟩ : ∃ t, L[i]? = some t := ⟨L[i], List.getElem?_eq_getElem (by omega)⟩
    have hp := hf.1.2.2 i t ht
    have hmay := may_tr h (by omega) hp (hf.2 i t ht).2
    have hwf := wf_tr h (by omega) (hf.1.2.1 t (List.mem_of_getElem? ht)) hp
    have hfull := mk_full h.full hwf
    rw [acrN_succ L L2 i t ht]
    generalize acrN L L2 i = q at *
    obtain ⟨ms, M⟩ := q
    dsimp only at *
    have key : ∃ p : Nat, (mk M (tr ms t)).1 = (p : Int) + 1 ∧ (mk M (tr ms t)).2.2[p]? = some (tr ms t) ∧ (∀ (x : Nat) (u : Tm), M[x]? = some u → (mk M (tr ms t)).2.2[x]? = some u) ∧ (mk M (tr ms t)).2.2.length ≤ M.length + 1 := by
      rcases mk_ways M (tr ms t) with ⟨e, e1⟩ | ⟨p, e, _, _, e2⟩ | ⟨e, _, _, e1⟩ | ⟨e, _⟩
      · rw [hmay] at e1; cases e1
      · rw [e]; exact ⟨p, rfl, e2, fun x u hu => hu, by simp⟩
      · omega
      · rw [e]
        exact ⟨M.length, rfl, by simp, fun x u hu => by rw [List.getElem?_append_left (List.getElem?_eq_some_iff.1 hu).1]; exact hu, by simp⟩
    obtain ⟨p, p1, p2, p3, p4⟩ := key
    have hext : ∀ u : Tm, 0 ≤ u.a → u.a ≤ i → 0 ≤ u.b → u.b ≤ i → tr (ms ++ [(mk M (tr ms t)).1]) u = tr ms u := fun u a1 a2 b1 b2 => tr_ext (by rw [h.len]; omega) (by rw [h.len]; omega)
    refine ⟨⟨hfull, by rw [List.length_append, h.len]; rfl, ?_, fun x u hx hu => ?_⟩, by omega⟩
    · rw [List.getElem?_append_left (by rw [h.len]; omega)]; exact h.zero
    · have hpu := hf.1.2.2 x u hu
      rw [hext u hpu.1 (by omega) hpu.2.2.1 (by omega)]
      by_cases e : x = i
      · subst e
        rw [ht] at hu
        injection hu with hu
        subst hu
        exact ⟨p, by rw [List.getElem?_append_right (by rw [h.len]; omega), h.len, Nat.sub_self, p1]; rfl, p2⟩
      · obtain ⟨r, r1, r2⟩ := h.img x u (by omega) hu
        exact ⟨r, by rw [List.getElem?_append_left (by rw [h.len]; omega)]; exact r1, p3 r _ r2⟩
theorem acr_ok2 {L L2 : List Tm} (hf : Full L) (hf2 : Full L2) (hb : L2.length + L.length < 1048576) : AcrOk L L2 := by
  intro i t ht
  have hi := (List.getElem?_eq_some_iff.1 ht).1
  obtain ⟨h, hlen⟩ := acr_hm hf hf2 hb i (by omega)
  have hp := hf.1.2.2 i t ht
  have hmay := may_tr h (by omega) hp (hf.2 i t ht).2
  refine ⟨?_, h.full.1.1, wf_tr h (by omega) (hf.1.2.1 t (List.mem_of_getElem? ht)) hp⟩
  rcases mk_ways (acrN L L2 i).2 (tr (acrN L L2 i).1 t) with ⟨e, e1⟩ | ⟨p, e, _⟩ | ⟨e, _, _, e1⟩ | ⟨e, _⟩
  · rw [hmay] at e1; cases e1
  · rw [e]
  · omega
  · rw [e]
theorem Hm.inj {L : List Tm} {ms : List Int} {M : List Tm} (hf : Full L) (h : Hm L L.length ms M) : ∀ (k x y : Nat), x + y ≤ k → x ≤ L.length → y ≤ L.length → ms.getD x 0 = ms.getD y 0 → x = y := by
  intro k
  induction k with
  | zero => intro x y hk _ _ _; omega
  | succ k ih =>
    intro x y hk hx hy e
    have vx := h.val (Nat.le_refl _) (x : Int) (by omega) (by omega)
    have vy := h.val (Nat.le_refl _) (y : Int) (by omega) (by omega)
    rw [Int.toNat_natCast] at vx vy
    by_cases x0 : x = 0
    · by_cases y0 : y = 0
      · omega
      · have := vx.1 (by omega); have := vy.2 (by omega); omega
    · by_cases y0 : y = 0
      · have := vy.1 (by omega); have := vx.2 (by omega); omega
      · obtain ⟨x, rfl⟩ : ∃ z, x = z + 1 := ⟨x - 1, by omega⟩
        obtain ⟨y, rfl⟩ : ∃ z, y = z + 1 := ⟨y - 1, by omega⟩
        have hx' : L[x]? = some L[x] := List.getElem?_eq_getElem (by omega)
        have hy' : L[y]? = some L[y] := List.getElem?_eq_getElem (by omega)
        obtain ⟨p, p1, p2⟩ := h.img x _ (by omega) hx'
        obtain ⟨q, q1, q2⟩ := h.img y _ (by omega) hy'
        rw [List.getD_eq_getElem?_getD, List.getD_eq_getElem?_getD, p1, q1] at e
        simp only [Option.getD_some] at e
        obtain rfl : p = q := by omega
        rw [p2] at q2
        injection q2 with q2
        have gx := hf.1.2.2 x _ hx'
        have gy := hf.1.2.2 y _ hy'
        unfold tr at q2
        injection q2 with e1 e2 e3 e4
        have e5 := ih _ _ (by omega) (by omega) (by omega) e3
        have e6 := ih _ _ (by omega) (by omega) (by omega) e4
        have et : L[x] = L[y] := by
          generalize L[x] = t1 at *
          generalize L[y] = t2 at *
          obtain ⟨k1, n1, a1, b1⟩ := t1
          obtain ⟨k2, n2, a2, b2⟩ := t2
          dsimp only at *
          subst e1 e2
          obtain rfl : a1 = a2 := by omega
          obtain rfl : b1 = b2 := by omega
          rfl
        have i1 := (hf.2 x _ hx').1
        have i2 := (hf.2 y _ hy').1
        rw [et, i2] at i1
        injection i1 with i1
        omega
theorem putN_zero (L : List Tm) : ∀ (k : Nat) (n : Int) (s : Told × List Tm) (v : Int), s.1 0 = some v → (putN L k n s).1 0 = some v := by
  intro k
  induction k with
  | zero => intro n s v h; exact h
  | succ k ih =>
    intro n s v h
    cases e : s.1 n with
    | some w => rw [putN_told e]; exact h
    | none =>
      have hn : n ≠ 0 := by rintro rfl; rw [h] at e; cases e
      cases e2 : L[(n - 1).toNat]? with
      | none =>
        have : putN L (k + 1) n s = s := by unfold putN; rw [e]; dsimp only; rw [e2]
        rw [this]; exact h
      | some t =>
        rw [putN_new e e2]
        show upd _ n _ 0 = some v
        unfold upd
        rw [if_neg (by omega)]
        exact ih _ _ _ (ih _ _ _ h)
theorem sim {L : List Tm} {ms : List Int} {M : List Tm} (hf : Full L) (h : Hm L L.length ms M) : ∀ (k : Nat) (n : Int) (s s2 : Told × List Tm), 0 ≤ n → n ≤ L.length → s.1 0 = some 0 → s.2 = s2.2 → (∀ u : Int, 0 ≤ u → u ≤ L.length → s2.1 (ms.getD u.toNat 0) = s.1 u) →
    (putN L k n s).2 = (putN M k (ms.getD n.toNat 0) s2).2 ∧ ∀ u : Int, 0 ≤ u → u ≤ L.length → (putN M k (ms.getD n.toNat 0) s2).1 (ms.getD u.toNat 0) = (putN L k n s).1 u := by
  intro k
  induction k with
  | zero => intro n s s2 _ _ _ h1 h2; exact ⟨h1, h2⟩
  | succ k ih =>
    intro n s s2 h0 hn hz h1 h2
    cases e : s.1 n with
    | some v =>
      have e2 : s2.1 (ms.getD n.toNat 0) = some v := by rw [h2 n h0 hn]; exact e
      rw [putN_told e, putN_told e2]
      exact ⟨h1, h2⟩
    | none =>
      have e2 : s2.1 (ms.getD n.toNat 0) = none := by rw [h2 n h0 hn]; exact e
      have hn0 : 0 < n := by
        rcases Int.lt_or_eq_of_le h0 with h3 | h3
        · exact h3
        · subst h3; rw [hz] at e; cases e
      obtain ⟨t, ht⟩ := good_get hn0 hn
      have hp := hf.1.2.2 _ t ht
      obtain ⟨p, p1, p2⟩ := h.img (n - 1).toNat t (by omega) ht
      rw [show (n - 1).toNat + 1 = n.toNat by omega] at p1
      have em : ms.getD n.toNat 0 = (p : Int) + 1 := by rw [List.getD_eq_getElem?_getD, p1]; rfl
      have ht2 : M[(ms.getD n.toNat 0 - 1).toNat]? = some (tr ms t) := by rw [em, show ((p : Int) + 1 - 1).toNat = p by omega]; exact p2
      obtain ⟨a1, a2⟩ := ih t.a s s2 hp.1 (by omega) hz h1 h2
      obtain ⟨b1, b2⟩ := ih t.b (putN L k t.a s) (putN M k (ms.getD t.a.toNat 0) s2) hp.2.2.1 (by omega) (putN_zero L k t.a s 0 hz) a1 a2
      rw [putN_new e ht, putN_new e2 ht2]
      have ea : (tr ms t).a = ms.getD t.a.toNat 0 := rfl
      have eb : (tr ms t).b = ms.getD t.b.toNat 0 := rfl
      have ek : (tr ms t).k = t.k := rfl
      have en : (tr ms t).n = t.n := rfl
      rw [ea, eb, ek, en, ← b1, b2 t.a hp.1 (by omega), b2 t.b hp.2.2.1 (by omega)]
      refine ⟨rfl, fun u hu0 hu => ?_⟩
      show upd _ (ms.getD n.toNat 0) _ (ms.getD u.toNat 0) = upd _ n _ u
      unfold upd
      by_cases e3 : u = n
      · subst e3
        rw [if_pos rfl, if_pos rfl]
      · rw [if_neg e3, if_neg (fun e4 => e3 (by have := h.inj hf _ u.toNat n.toNat (Nat.le_refl _) (by omega) (by omega) e4; omega))]
        exact b2 u hu0 hu
/-- Across another store a term is told alike. -/
theorem dagS_hm {L : List Tm} {ms : List Int} {M : List Tm} (hf : Full L) (h : Hm L L.length ms M) (n : Int) (h0 : 0 < n) (hn : n ≤ L.length) : dagS L n = dagS M (ms.getD n.toNat 0) := by
  have v := (h.val (Nat.le_refl _) n (by omega) hn).2 h0
  rw [← putN_dag hf.1 (n.toNat + (ms.getD n.toNat 0).toNat) n (by omega) hn (by omega), ← putN_dag h.full.1 (n.toNat + (ms.getD n.toNat 0).toNat) (ms.getD n.toNat 0) (by omega) (by omega) (by omega)]
  refine (sim hf h _ n (told0, []) (told0, []) (by omega) hn rfl rfl fun u hu0 hu => ?_).1
  have vu := h.val (Nat.le_refl _) u hu0 hu
  show told0 (ms.getD u.toNat 0) = told0 u
  by_cases e : u = 0
  · rw [vu.1 e, e]
  · have := vu.2 (by omega)
    unfold told0 upd
    rw [if_neg (by omega), if_neg e]
end Go.Proofs.YtenaljhkdnhgpaaGreatDoor.T
