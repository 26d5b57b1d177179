/- Dag as a recursion: a term's parts, then itself. Plain. -/
import Derived.Test.YtenaljhkdnhgpaaGreatDoorTGood
namespace Go.Proofs.YtenaljhkdnhgpaaGreatDoor.T

abbrev Told := Int → Option Int
def putN (L : List Tm) : Nat → Int → Told × List Tm → Told × List Tm
  | 0, _, s => s
  | k + 1, n, s => match s.1 n with
    | some _ => s
    | none => match L[(n - 1).toNat]? with
      | none => s
      | some t => (upd (putN L k t.b (putN L k t.a s)).1 n (((putN L k t.b (putN L k t.a s)).2.length : Int) + 1),
          (putN L k t.b (putN L k t.a s)).2 ++ [⟨t.k, t.n, ((putN L k t.b (putN L k t.a s)).1 t.a).getD 0, ((putN L k t.b (putN L k t.a s)).1 t.b).getD 0⟩])
def told0 : Told := upd (fun _ => none) 0 0
def dagS (L : List Tm) (n : Int) : List Tm := (putN L n.toNat n (told0, [])).2

theorem putN_told {L : List Tm} {k : Nat} {n : Int} {s : Told × List Tm} {v : Int} (h : s.1 n = some v) : putN L k n s = s := by
  cases k with
  | zero => rfl
  | succ k => unfold putN; rw [h]
theorem putN_new {L : List Tm} {k : Nat} {n : Int} {s : Told × List Tm} {t : Tm} (h : s.1 n = none) (ht : L[(n - 1).toNat]? = some t) : putN L (k + 1) n s = (upd (putN L k t.b (putN L k t.a s)).1 n (((putN L k t.b (putN L k t.a s)).2.length : Int) + 1),
          (putN L k t.b (putN L k t.a s)).2 ++ [⟨t.k, t.n, ((putN L k t.b (putN L k t.a s)).1 t.a).getD 0, ((putN L k t.b (putN L k t.a s)).1 t.b).getD 0⟩]) := by
  conv => lhs; unfold putN
  rw [h]
  dsimp only
  rw [ht]
/-- What is reached from a term: itself, and what its parts reach. -/
inductive Rch (L : List Tm) : Int → Int → Prop
  | self (n : Int) : Rch L n n
  | left (n x : Int) (t : Tm) (h : L[(n - 1).toNat]? = some t) (h0 : 0 < n) (hx : Rch L t.a x) : Rch L n x
  | right (n x : Int) (t : Tm) (h : L[(n - 1).toNat]? = some t) (h0 : 0 < n) (hx : Rch L t.b x) : Rch L n x
/-- What is told is closed, and lies in the store; 0 is told. -/
structure Cl (L : List Tm) (s : Told) : Prop where
  zero : (s 0).isSome = true
  lo : ∀ x, (s x).isSome = true → 0 ≤ x ∧ x ≤ L.length
  parts : ∀ x t, (s x).isSome = true → 0 < x → L[(x - 1).toNat]? = some t → (s t.a).isSome = true ∧ (s t.b).isSome = true
theorem cl0 (L : List Tm) : Cl L told0 := by
  refine ⟨rfl, fun x h => ?_, fun x t h h0 _ => ?_⟩
  · unfold told0 upd at h
    split at h
    · rename_i e; subst e; omega
    · cases h
  · unfold told0 upd at h
    split at h
    · rename_i e; omega
    · cases h
theorem Cl.reach {L : List Tm} {s : Told} (h : Cl L s) {n x : Int} (hr : Rch L n x) (hn : (s n).isSome = true) : (s x).isSome = true := by
  induction hr with
  | self => exact hn
  | left n x t ht h0 _ ih => exact ih (h.parts n t hn h0 ht).1
  | right n x t ht h0 _ ih => exact ih (h.parts n t hn h0 ht).2
theorem good_get {L : List Tm} {n : Int} (h0 : 0 < n) (hn : n ≤ L.length) : ∃ t, L[(n - 1).toNat]? = some t := ⟨L[(n - 1).toNat]'(by omega), List.getElem?_eq_getElem _⟩
theorem upd_some (s : Told) (n v x : Int) : (upd s n v x).isSome = true ↔ (x = n ∨ (s x).isSome = true) := by
  unfold upd
  by_cases h : x = n
  · simp [h]
  · simp [h]
def cnt (m : Nat) (s : Told) : Nat := (List.range m).countP fun i : Nat => (s ((i : Int) + 1)).isSome
theorem cnt_upd (m : Nat) (s : Told) (n v : Int) (h : s n = none) : cnt m (upd s n v) = cnt m s + (if 1 ≤ n ∧ n ≤ m then 1 else 0) := by
  unfold cnt
  induction m with
  | zero => rw [if_neg (by omega)]; simp
  | succ m ih =>
    rw [List.range_succ, List.countP_append, List.countP_append, ih]
    simp only [List.countP_cons, List.countP_nil]
    by_cases e : ((m : Int) + 1) = n
    · have h1 : (upd s n v ((m : Int) + 1)).isSome = true := (upd_some _ _ _ _).2 (.inl e)
      have h2 : (s ((m : Int) + 1)).isSome = false := by rw [e, h]; rfl
      rw [h1, h2, if_neg (show ¬(1 ≤ n ∧ n ≤ (m : Int)) by omega), if_pos (show 1 ≤ n ∧ n ≤ ((m + 1 : Nat) : Int) by omega)]
      simp
    · have h1 : (upd s n v ((m : Int) + 1)).isSome = (s ((m : Int) + 1)).isSome := by unfold upd; rw [if_neg e]
      rw [h1]
      by_cases h3 : 1 ≤ n ∧ n ≤ m
      · rw [if_pos h3, if_pos (show 1 ≤ n ∧ n ≤ ((m + 1 : Nat) : Int) by omega)]; omega
      · rw [if_neg h3, if_neg (show ¬(1 ≤ n ∧ n ≤ ((m + 1 : Nat) : Int)) by omega)]; omega
theorem cnt_le (m : Nat) (s : Told) : cnt m s ≤ m := by
  unfold cnt
  have := List.countP_le_length (p := fun i : Nat => (s ((i : Int) + 1)).isSome) (l := List.range m)
  simpa using this
/-- What putN does. -/
theorem putN_is {L : List Tm} (hg : Good L) : ∀ (k : Nat) (n : Int) (s : Told × List Tm), 0 ≤ n → n ≤ L.length → n ≤ k → Cl L s.1 → s.2.length = cnt L.length s.1 →
    Cl L (putN L k n s).1 ∧ (putN L k n s).2.length = cnt L.length (putN L k n s).1 ∧ (∀ x, ((putN L k n s).1 x).isSome = true ↔ ((s.1 x).isSome = true ∨ Rch L n x)) ∧ (∀ x v, s.1 x = some v → (putN L k n s).1 x = some v) ∧ ∃ r, (putN L k n s).2 = s.2 ++ r := by
  intro k
  induction k with
  | zero =>
    intro n s h0 hn hk hc hl
    obtain rfl : n = 0 := by omega
    refine ⟨hc, hl, fun x => ⟨.inl, fun h => h.elim id fun h1 => hc.reach h1 hc.zero⟩, fun x v h => h, [], by simp [putN]⟩
  | succ k ih =>
    intro n s h0 hn hk hc hl
    cases e : s.1 n with
    | some v =>
      rw [putN_told e]
      exact ⟨hc, hl, fun x => ⟨.inl, fun h => h.elim id fun h1 => hc.reach h1 (by rw [e]; rfl)⟩, fun x v h => h, [], by simp⟩
    | none =>
      have hn0 : 0 < n := by
        rcases Int.lt_or_eq_of_le h0 with h1 | h1
        · exact h1
        · subst h1
          have := hc.zero
          rw [e] at this
          cases this
      obtain ⟨t, ht⟩ := good_get hn0 hn
      rw [putN_new e ht]
      have hp := hg.2.2 _ t ht
      obtain ⟨a1, a2, a3, a4, ra, a5⟩ := ih t.a s (by omega) (by omega) (by omega) hc hl
      obtain ⟨b1, b2, b3, b4, rb, b5⟩ := ih t.b (putN L k t.a s) (by omega) (by omega) (by omega) a1 a2
      have hs2 : ∀ x, ((putN L k t.b (putN L k t.a s)).1 x).isSome = true ↔ ((s.1 x).isSome = true ∨ Rch L t.a x ∨ Rch L t.b x) := fun x => by rw [b3, a3, or_assoc]
      have hlow : ∀ u x, Rch L u x → u < n → x < n := by
        intro u x hr
        induction hr with
        | self => exact fun h => h
        | left u x t' ht' h0' _ ih' => intro h; have := hg.2.2 _ t' ht'; exact ih' (by omega)
        | right u x t' ht' h0' _ ih' => intro h; have := hg.2.2 _ t' ht'; exact ih' (by omega)
      have hnn : (putN L k t.b (putN L k t.a s)).1 n = none := by
        cases e2 : (putN L k t.b (putN L k t.a s)).1 n with
        | none => rfl
        | some v =>
          have h1 := (hs2 n).1 (by rw [e2]; rfl)
          rcases h1 with h1 | h1 | h1
          · rw [e] at h1; cases h1
          · have := hlow _ _ h1 (by omega); omega
          · have := hlow _ _ h1 (by omega); omega
      have hx : ∀ x, (upd (putN L k t.b (putN L k t.a s)).1 n (((putN L k t.b (putN L k t.a s)).2.length : Int) + 1) x).isSome = true ↔ ((s.1 x).isSome = true ∨ Rch L n x) := fun x => by
        rw [upd_some, hs2]
        constructor
        · rintro (rfl | h | h | h)
          · exact .inr (.self _)
          · exact .inl h
          · exact .inr (.left _ _ t ht hn0 h)
          · exact .inr (.right _ _ t ht hn0 h)
        · rintro (h | h)
          · exact .inr (.inl h)
          · cases h with
            | self => exact .inl rfl
            | left _ _ t' ht' _ h => rw [ht] at ht'; injection ht' with ht'; subst ht'; exact .inr (.inr (.inl h))
            | right _ _ t' ht' _ h => rw [ht] at ht'; injection ht' with ht'; subst ht'; exact .inr (.inr (.inr h))
      refine ⟨⟨?_, ?_, ?_⟩, ?_, hx, ?_, ra ++ rb ++ [⟨t.k, t.n, ((putN L k t.b (putN L k t.a s)).1 t.a).getD 0, ((putN L k t.b (putN L k t.a s)).1 t.b).getD 0⟩], ?_⟩
      · exact (upd_some _ _ _ _).2 (.inr b1.zero)
      · intro x h
        rcases (upd_some _ _ _ _).1 h with rfl | h
        · omega
        · exact b1.lo x h
      · intro x t' h h1 ht'
        rcases (upd_some _ _ _ _).1 h with rfl | h
        · rw [ht] at ht'
          injection ht' with ht'
          subst ht'
          exact ⟨(upd_some _ _ _ _).2 (.inr ((hs2 _).2 (.inr (.inl (.self _))))), (upd_some _ _ _ _).2 (.inr ((hs2 _).2 (.inr (.inr (.self _)))))⟩
        · have := b1.parts x t' h h1 ht'
          exact ⟨(upd_some _ _ _ _).2 (.inr this.1), (upd_some _ _ _ _).2 (.inr this.2)⟩
      · rw [cnt_upd _ _ _ _ hnn, if_pos (by omega), List.length_append, b2]
        rfl
      · intro x v h
        have hne : x ≠ n := by rintro rfl; rw [e] at h; cases h
        show upd _ n _ x = some v
        unfold upd
        rw [if_neg hne]
        exact b4 x v (a4 x v h)
      · rw [b5, a5]
        simp
theorem putN_fuel {L : List Tm} (hg : Good L) : ∀ (k k' : Nat) (n : Int) (s : Told × List Tm), 0 ≤ n → n ≤ L.length → n ≤ k → n ≤ k' → Cl L s.1 → s.2.length = cnt L.length s.1 → putN L k n s = putN L k' n s := by
  intro k
  induction k with
  | zero =>
    intro k' n s h0 hn hk hk' hc hl
    obtain rfl : n = 0 := by omega
    obtain ⟨v, hv⟩ := Option.isSome_iff_exists.1 hc.zero
    rw [putN_told hv, putN_told hv]
  | succ k ih =>
    intro k' n s h0 hn hk hk' hc hl
    cases e : s.1 n with
    | some v => rw [putN_told e, putN_told e]
    | none =>
      have hn0 : 0 < n := by
        rcases Int.lt_or_eq_of_le h0 with h1 | h1
        · exact h1
        · subst h1
          have := hc.zero
          rw [e] at this
          cases this
      obtain ⟨k', rfl⟩ : ∃ j, k' = j + 1 := ⟨k' - 1, by omega⟩
      obtain ⟨t, ht⟩ := good_get hn0 hn
      have hp := hg.2.2 _ t ht
      obtain ⟨a1, a2, _⟩ := putN_is hg k' t.a s (by omega) (by omega) (by omega) hc hl
      rw [putN_new e ht, putN_new e ht, ih k' t.a s (by omega) (by omega) (by omega) (by omega) hc hl, ih k' t.b (putN L k' t.a s) (by omega) (by omega) (by omega) (by omega) a1 a2]
theorem run_pop (L : List Tm) (f : Nat) (told : Told) (todo : List Int) (n v : Int) (out : List Tm) (h : told n = some v) : dagRun L (f + 1) told (todo ++ [n]) out = dagRun L f told todo out := by
  conv => lhs; unfold dagRun
  rw [List.getLast?_concat]
  dsimp only
  rw [h, List.dropLast_concat]
theorem run_ask (L : List Tm) (f : Nat) (told : Told) (todo : List Int) (n : Int) (t : Tm) (out : List Tm) (h : told n = none) (h0 : 0 < n) (ht : L[(n - 1).toNat]? = some t) : dagRun L (f + 1) told (todo ++ [n]) out = match told t.a with
          | none => dagRun L f told ((todo ++ [n]) ++ [t.a]) out
          | some a => match told t.b with
            | none => dagRun L f told ((todo ++ [n]) ++ [t.b]) out
            | some b => dagRun L f (upd told n ((out.length : Int) + 1)) (todo ++ [n]) (out ++ [⟨t.k, t.n, a, b⟩]) := by
  conv => lhs; unfold dagRun
  rw [List.getLast?_concat]
  dsimp only
  rw [h]
  dsimp only
  rw [if_neg (by omega), ht]
  rfl
theorem run_put {L : List Tm} (hg : Good L) : ∀ (k : Nat) (n : Int) (s : Told × List Tm), 0 ≤ n → n ≤ L.length → n ≤ k → Cl L s.1 → s.2.length = cnt L.length s.1 →
    ∃ f0, f0 + 5 * s.2.length ≤ 1 + 5 * (putN L k n s).2.length ∧ ∀ f todo, dagRun L (f + f0) s.1 (todo ++ [n]) s.2 = dagRun L f (putN L k n s).1 todo (putN L k n s).2 := by
  intro k
  induction k with
  | zero =>
    intro n s h0 hn hk hc hl
    obtain rfl : n = 0 := by omega
    obtain ⟨v, hv⟩ := Option.isSome_iff_exists.1 hc.zero
    exact ⟨1, by simp [putN], fun f todo => run_pop L f _ _ _ v _ hv⟩
  | succ k ih =>
    intro n s h0 hn hk hc hl
    cases e : s.1 n with
    | some v =>
      rw [putN_told e]
      exact ⟨1, by omega, fun f todo => run_pop L f _ _ _ v _ e⟩
    | none =>
      have hn0 : 0 < n := by
        rcases Int.lt_or_eq_of_le h0 with h1 | h1
        · exact h1
        · subst h1
          have := hc.zero
          rw [e] at this
          cases this
      obtain ⟨t, ht⟩ := good_get hn0 hn
      have hp := hg.2.2 _ t ht
      have hkk : (putN L (k + 1) n s).1 n ≠ none := by rw [putN_new e ht]; simp [upd]
      obtain ⟨a1, a2, a3, a4, ra, a5⟩ := putN_is hg k t.a s (by omega) (by omega) (by omega) hc hl
      obtain ⟨b1, b2, b3, b4, rb, b5⟩ := putN_is hg k t.b (putN L k t.a s) (by omega) (by omega) (by omega) a1 a2
      have hlow : ∀ u x, Rch L u x → u < n → x < n := by
        intro u x hr
        induction hr with
        | self => exact fun h => h
        | left u x t' ht' h0' _ ih' => intro h; have := hg.2.2 _ t' ht'; exact ih' (by omega)
        | right u x t' ht' h0' _ ih' => intro h; have := hg.2.2 _ t' ht'; exact ih' (by omega)
      have ha_n : (putN L k t.a s).1 n = none := by
        cases e2 : (putN L k t.a s).1 n with
        | none => rfl
        | some v =>
          rcases (a3 n).1 (by rw [e2]; rfl) with h1 | h1
          · rw [e] at h1; cases h1
          · have := hlow _ _ h1 (by omega); omega
      have hb_n : (putN L k t.b (putN L k t.a s)).1 n = none := by
        cases e2 : (putN L k t.b (putN L k t.a s)).1 n with
        | none => rfl
        | some v =>
          rcases (b3 n).1 (by rw [e2]; rfl) with h1 | h1
          · rw [ha_n] at h1; cases h1
          · have := hlow _ _ h1 (by omega); omega
      obtain ⟨va, hva⟩ := Option.isSome_iff_exists.1 ((a3 t.a).2 (.inr (.self _)))
      obtain ⟨vb, hvb⟩ := Option.isSome_iff_exists.1 ((b3 t.b).2 (.inr (.self _)))
      have hva' := b4 _ _ hva
      have A : ∃ fa, fa + 5 * s.2.length ≤ 2 + 5 * (putN L k t.a s).2.length ∧ ∀ f todo, dagRun L (f + fa) s.1 (todo ++ [n]) s.2 = dagRun L f (putN L k t.a s).1 (todo ++ [n]) (putN L k t.a s).2 := by
        cases e1 : s.1 t.a with
        | some v => rw [putN_told e1]; exact ⟨0, by omega, fun f todo => rfl⟩
        | none =>
          obtain ⟨f0, h1, h2⟩ := ih t.a s (by omega) (by omega) (by omega) hc hl
          refine ⟨f0 + 1, by omega, fun f todo => ?_⟩
          rw [← Nat.add_assoc, run_ask L _ _ _ n t _ e hn0 ht, e1]
          exact h2 f (todo ++ [n])
      have B : ∃ fb, fb + 5 * (putN L k t.a s).2.length ≤ 2 + 5 * (putN L k t.b (putN L k t.a s)).2.length ∧ ∀ f todo, dagRun L (f + fb) (putN L k t.a s).1 (todo ++ [n]) (putN L k t.a s).2 = dagRun L f (putN L k t.b (putN L k t.a s)).1 (todo ++ [n]) (putN L k t.b (putN L k t.a s)).2 := by
        cases e1 : (putN L k t.a s).1 t.b with
        | some v => rw [putN_told e1]; exact ⟨0, by omega, fun f todo => rfl⟩
        | none =>
          obtain ⟨f0, h1, h2⟩ := ih t.b (putN L k t.a s) (by omega) (by omega) (by omega) a1 a2
          refine ⟨f0 + 1, by omega, fun f todo => ?_⟩
          rw [← Nat.add_assoc, run_ask L _ _ _ n t _ ha_n hn0 ht, hva]
          dsimp only
          rw [e1]
          exact h2 f (todo ++ [n])
      obtain ⟨fa, A1, A2⟩ := A
      obtain ⟨fb, B1, B2⟩ := B
      rw [putN_new e ht]
      refine ⟨1 + 1 + fb + fa, by simp only [List.length_append, List.length_singleton]; omega, fun f todo => ?_⟩
      rw [← Nat.add_assoc, A2, ← Nat.add_assoc, B2, ← Nat.add_assoc, run_ask L _ _ _ n t _ hb_n hn0 ht, hva']
      dsimp only
      rw [hvb]
      dsimp only
      rw [run_pop L f _ _ n (((putN L k t.b (putN L k t.a s)).2.length : Int) + 1) _ (by unfold upd; rw [if_pos rfl])]
      rfl
theorem len0 (L : List Tm) : ([] : List Tm).length = cnt L.length told0 := by
  unfold cnt
  rw [List.countP_eq_zero.2]
  · rfl
  · intro i hi
    have : told0 ((i : Int) + 1) = none := by unfold told0 upd; rw [if_neg (by omega)]
    rw [this]
    decide
/-- Dag's run comes to dagS. -/
theorem run_dag {L : List Tm} (hg : Good L) (n : Int) (h0 : 0 < n) (hn : n ≤ L.length) : ∃ F, F ≤ 6000000 ∧ dagRun L F told0 [n] [] = some (dagS L n) := by
  have hc0 : ([] : List Tm).length = cnt L.length told0 := by
    unfold cnt
    rw [List.countP_eq_zero.2]
    · rfl
    · intro i hi
      have : told0 ((i : Int) + 1) = none := by unfold told0 upd; rw [if_neg (by omega)]
      rw [this]
      decide
  obtain ⟨f0, h1, h2⟩ := run_put hg n.toNat n (told0, []) (by omega) hn (by omega) (cl0 L) hc0
  obtain ⟨b1, b2, _⟩ := putN_is hg n.toNat n (told0, []) (by omega) hn (by omega) (cl0 L) hc0
  have hle := cnt_le L.length (putN L n.toNat n (told0, [])).1
  have hlen := hg.1
  refine ⟨1 + f0, by omega, ?_⟩
  have h3 := h2 1 []
  rw [List.nil_append] at h3
  rw [h3]
  rfl
theorem dagS_len {L : List Tm} (hg : Good L) (n : Int) (h0 : 0 ≤ n) (hn : n ≤ L.length) : (dagS L n).length ≤ L.length := by
  have hc0 : ([] : List Tm).length = cnt L.length told0 := by
    unfold cnt
    rw [List.countP_eq_zero.2]
    · rfl
    · intro i hi
      have : told0 ((i : Int) + 1) = none := by unfold told0 upd; rw [if_neg (by omega)]
      rw [this]
      decide
  obtain ⟨b1, b2, _⟩ := putN_is hg n.toNat n (told0, []) (by omega) hn (by omega) (cl0 L) hc0
  have hle := cnt_le L.length (putN L n.toNat n (told0, [])).1
  unfold dagS
  omega
theorem cnt_or (m : Nat) (s a b : Told) (h : ∀ x, (s x).isSome = true → (a x).isSome = true ∨ (0 < x ∧ x ≤ m → (b x).isSome = true)) : cnt m s ≤ cnt m a + cnt m b := by
  unfold cnt
  induction m with
  | zero => simp
  | succ m ih =>
    have ih := ih fun x hx => (h x hx).imp id fun h1 h2 => h1 (by omega)
    rw [List.range_succ, List.countP_append, List.countP_append, List.countP_append]
    simp only [List.countP_cons, List.countP_nil]
    by_cases e : (s ((m : Int) + 1)).isSome = true
    · rcases h _ e with h1 | h1
      · rw [e, h1]; simp; omega
      · rw [e, h1 (by omega)]; simp; omega
    · rw [if_neg e]
      omega
theorem putN_dag {L : List Tm} (hg : Good L) (k : Nat) (n : Int) (h0 : 0 ≤ n) (hn : n ≤ L.length) (hk : n ≤ k) : (putN L k n (told0, [])).2 = dagS L n := by
  unfold dagS
  rw [putN_fuel hg k n.toNat n _ h0 hn hk (by omega) (cl0 L) (len0 L)]
/-- What a term is made of is told within the term. -/
theorem parts_law {L : List Tm} (hg : Good L) (n : Int) (h0 : 0 < n) (t : Tm) (ht : L[(n - 1).toNat]? = some t) :
    (dagS L t.a).length < (dagS L n).length ∧ (dagS L n).take (dagS L t.a).length = dagS L t.a ∧ (dagS L n).length ≤ (dagS L t.a).length + (dagS L t.b).length + 1 := by
  have hlt := (List.getElem?_eq_some_iff.1 ht).1
  have hp := hg.2.2 _ t ht
  obtain ⟨k, hk⟩ : ∃ k, n.toNat = k + 1 := ⟨n.toNat - 1, by omega⟩
  have e0 : (told0, ([] : List Tm)).1 n = none := by show told0 n = none; unfold told0 upd; rw [if_neg (by omega)]
  obtain ⟨a1, a2, a3, a4, ra, a5⟩ := putN_is hg k t.a (told0, []) (by omega) (by omega) (by omega) (cl0 L) (len0 L)
  obtain ⟨b1, b2, b3, b4, rb, b5⟩ := putN_is hg k t.b (putN L k t.a (told0, [])) (by omega) (by omega) (by omega) a1 a2
  obtain ⟨c1, c2, c3, _⟩ := putN_is hg k t.b (told0, []) (by omega) (by omega) (by omega) (cl0 L) (len0 L)
  have ed : dagS L n = dagS L t.a ++ rb ++ [⟨t.k, t.n, ((putN L k t.b (putN L k t.a (told0, []))).1 t.a).getD 0, ((putN L k t.b (putN L k t.a (told0, []))).1 t.b).getD 0⟩] := by
    conv => lhs; unfold dagS
    rw [hk, putN_new e0 ht]
    dsimp only
    rw [b5, putN_dag hg k t.a (by omega) (by omega) (by omega)]
  have el : (putN L k t.b (putN L k t.a (told0, []))).2.length ≤ (dagS L t.a).length + (dagS L t.b).length := by
    rw [← putN_dag hg k t.a (by omega) (by omega) (by omega), ← putN_dag hg k t.b (by omega) (by omega) (by omega), b2, a2, c2]
    refine cnt_or _ _ _ _ fun x hx => ?_
    rcases (b3 x).1 hx with h1 | h1
    · exact .inl h1
    · exact .inr fun _ => (c3 x).2 (.inr h1)
  refine ⟨by rw [ed]; simp, by rw [ed]; simp [List.append_assoc], ?_⟩
  rw [b5, List.length_append, putN_dag hg k t.a (by omega) (by omega) (by omega)] at el
  rw [ed]
  simp only [List.length_append, List.length_singleton]
  omega
end Go.Proofs.YtenaljhkdnhgpaaGreatDoor.T
