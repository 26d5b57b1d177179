/- A term's telling knows the term; a store across another one tells alike. Plain. -/
import Derived.Test.YtenaljhkdnhgpaaGreatDoorTParts
import Derived.Test.YtenaljhkdnhgpaaGreatDoorTAcross
namespace Go.Proofs.YtenaljhkdnhgpaaGreatDoor.T

/-- What was told so far, place by place. -/
structure Tl (L : List Tm) (s : Told × List Tm) : Prop where
  zero : s.1 0 = some 0
  here : ∀ u j, 0 < u → s.1 u = some j → 1 ≤ j ∧ j ≤ s.2.length ∧ ∃ t, L[(u - 1).toNat]? = some t ∧ ∃ x y, s.1 t.a = some x ∧ s.1 t.b = some y ∧ 0 ≤ x ∧ x < j ∧ 0 ≤ y ∧ y < j ∧ s.2[(j - 1).toNat]? = some ⟨t.k, t.n, x, y⟩
  all : ∀ j : Int, 1 ≤ j → j ≤ s.2.length → ∃ u, 0 < u ∧ s.1 u = some j
theorem tl0 (L : List Tm) : Tl L (told0, []) := by
  refine ⟨rfl, fun u j h0 h => ?_, fun j h1 h2 => ?_⟩
  · have : told0 u = none := by unfold told0 upd; rw [if_neg (by omega)]
    have h : told0 u = some j := h
    rw [this] at h
    cases h
  · simp at h2; omega
theorem putN_tl {L : List Tm} (hg : Good L) : ∀ (k : Nat) (n : Int) (s : Told × List Tm), 0 ≤ n → n ≤ L.length → n ≤ k → Cl L s.1 → s.2.length = cnt L.length s.1 → Tl L s → Tl L (putN L k n s) ∧ (s.1 n = none → (putN L k n s).1 n = some ((putN L k n s).2.length : Int)) := by
  intro k
  induction k with
  | zero =>
    intro n s h0 hn hk hc hl ht
    obtain rfl : n = 0 := by omega
    exact ⟨ht, fun h => by have := hc.zero; rw [h] at this; cases this⟩
  | succ k ih =>
    intro n s h0 hn hk hc hl hT
    cases e : s.1 n with
    | some v => rw [putN_told e]; exact ⟨hT, fun h => by cases h⟩
    | none =>
      have hn0 : 0 < n := by
        rcases Int.lt_or_eq_of_le h0 with h1 | h1
        · exact h1
        · subst h1
          have := hc.zero
          rw [e] at this
          cases this
      obtain ⟨t, ht⟩ := good_get hn0 hn
      have hp := hg.2.2 _ t ht
      obtain ⟨a1, a2, a3, a4, ra, a5⟩ := putN_is hg k t.a s (by omega) (by omega) (by omega) hc hl
      obtain ⟨b1, b2, b3, b4, rb, b5⟩ := putN_is hg k t.b (putN L k t.a s) (by omega) (by omega) (by omega) a1 a2
      obtain ⟨z1, z2, z3, _⟩ := putN_is hg (k + 1) n s h0 hn hk hc hl
      obtain ⟨ta, _⟩ := ih t.a s (by omega) (by omega) (by omega) hc hl hT
      obtain ⟨tb, _⟩ := ih t.b (putN L k t.a s) (by omega) (by omega) (by omega) a1 a2 ta
      have hlow : ∀ u x, Rch L u x → u < n → x < n := by
        intro u x hr
        induction hr with
        | self => exact fun h => h
        | left u x t' ht' h0' _ ih' => intro h; have := hg.2.2 _ t' ht'; exact ih' (by omega)
        | right u x t' ht' h0' _ ih' => intro h; have := hg.2.2 _ t' ht'; exact ih' (by omega)
      have hnn : (putN L k t.b (putN L k t.a s)).1 n = none := by
        cases e2 : (putN L k t.b (putN L k t.a s)).1 n with
        | none => rfl
        | some v =>
          rcases (b3 n).1 (by rw [e2]; rfl) with h1 | h1
          · rcases (a3 n).1 h1 with h1 | h1
            · rw [e] at h1; cases h1
            · have := hlow _ _ h1 (by omega); omega
          · have := hlow _ _ h1 (by omega); omega
      obtain ⟨va, hva⟩ := Option.isSome_iff_exists.1 ((b3 t.a).2 (.inl ((a3 t.a).2 (.inr (.self _)))))
      obtain ⟨vb, hvb⟩ := Option.isSome_iff_exists.1 ((b3 t.b).2 (.inr (.self _)))
      rw [putN_new e ht, hva, hvb]
      simp only [Option.getD_some]
      generalize putN L k t.b (putN L k t.a s) = s2 at *
      have bd : ∀ x v, s2.1 x = some v → 0 ≤ v ∧ v ≤ s2.2.length := fun x v h => by
        by_cases hx : 0 < x
        · have := tb.here x v hx h; omega
        · have h1 := b1.lo x (by rw [h]; rfl)
          obtain rfl : x = 0 := by omega
          rw [tb.zero] at h
          injection h with h
          subst h
          omega
      have hu : ∀ x, x ≠ n → upd s2.1 n ((s2.2.length : Int) + 1) x = s2.1 x := fun x hx => by unfold upd; rw [if_neg hx]
      have hnn' : upd s2.1 n ((s2.2.length : Int) + 1) n = some ((s2.2.length : Int) + 1) := by unfold upd; rw [if_pos rfl]
      refine ⟨⟨?_, fun u j h1 h2 => ?_, fun j h1 h2 => ?_⟩, fun _ => ?_⟩
      · show upd s2.1 n _ 0 = some 0
        rw [hu 0 (by omega)]
        exact tb.zero
      · have h2 : upd s2.1 n ((s2.2.length : Int) + 1) u = some j := h2
        by_cases eu : u = n
        · subst eu
          rw [hnn'] at h2
          injection h2 with h2
          subst h2
          have q1 := bd _ _ hva
          have q2 := bd _ _ hvb
          refine ⟨by omega, by simp, t, ht, va, vb, ?_, ?_, q1.1, by omega, q2.1, by omega, ?_⟩
          · show upd s2.1 u _ t.a = _; rw [hu _ (by omega)]; exact hva
          · show upd s2.1 u _ t.b = _; rw [hu _ (by omega)]; exact hvb
          · show (s2.2 ++ [_])[_]? = _
            rw [show ((s2.2.length : Int) + 1 - 1).toNat = s2.2.length by omega]
            simp
        · rw [hu u eu] at h2
          obtain ⟨p1, p2, t', p3, x, y, p4, p5, p6, p7, p8, p9, p10⟩ := tb.here u j h1 h2
          have hne : ∀ z w, s2.1 z = some w → z ≠ n := fun z w hz e3 => by rw [e3, hnn] at hz; cases hz
          refine ⟨p1, by simp; omega, t', p3, x, y, ?_, ?_, p6, p7, p8, p9, ?_⟩
          · show upd s2.1 n _ t'.a = _; rw [hu _ (hne _ _ p4)]; exact p4
          · show upd s2.1 n _ t'.b = _; rw [hu _ (hne _ _ p5)]; exact p5
          · show (s2.2 ++ [_])[_]? = _
            rw [List.getElem?_append_left (by omega)]
            exact p10
      · have h2 : j ≤ (s2.2 ++ [_]).length := h2
        by_cases ej : j ≤ s2.2.length
        · obtain ⟨u, u1, u2⟩ := tb.all j h1 ej
          exact ⟨u, u1, by show upd s2.1 n _ u = _; rw [hu u (fun e3 => by rw [e3, hnn] at u2; cases u2)]; exact u2⟩
        · simp at h2
          obtain rfl : j = (s2.2.length : Int) + 1 := by omega
          exact ⟨n, hn0, hnn'⟩
      · show upd s2.1 n _ n = _
        rw [hnn']
        simp
/-- Unlike terms are told unlike. -/
theorem dagS_inj {L : List Tm} (hf : Full L) (a b : Int) (ha : 0 < a) (ha' : a ≤ L.length) (hb : 0 < b) (hb' : b ≤ L.length) (h : dagS L a = dagS L b) : a = b := by
  obtain ⟨ta, la⟩ := putN_tl hf.1 a.toNat a (told0, []) (by omega) ha' (by omega) (cl0 L) (len0 L) (tl0 L)
  obtain ⟨tb, lb⟩ := putN_tl hf.1 b.toNat b (told0, []) (by omega) hb' (by omega) (cl0 L) (len0 L) (tl0 L)
  have na : told0 a = none := by unfold told0 upd; rw [if_neg (by omega)]
  have nb : told0 b = none := by unfold told0 upd; rw [if_neg (by omega)]
  have la := la na
  have lb := lb nb
  unfold dagS at h
  generalize putN L a.toNat a (told0, []) = sa at *
  generalize putN L b.toNat b (told0, []) = sb at *
  have key : ∀ (j : Nat) (u v : Int), 0 < u → 0 < v → sa.1 u = some (j : Int) → sb.1 v = some (j : Int) → u = v := by
    intro j
    induction j using Nat.strongRecOn with
    | _ j ih =>
      intro u v hu hv h1 h2
      obtain ⟨p1, p2, t, p3, x, y, p4, p5, p6, p7, p8, p9, p10⟩ := ta.here u j hu h1
      obtain ⟨q1, q2, t', q3, x', y', q4, q5, q6, q7, q8, q9, q10⟩ := tb.here v j hv h2
      rw [h, q10] at p10
      injection p10 with p10
      injection p10 with e1 e2 e3 e4
      subst e3 e4
      have hz : ∀ (z : Int) (t1 t2 : Int), 0 ≤ z → z < j → sa.1 t1 = some z → sb.1 t2 = some z → 0 ≤ t1 → 0 ≤ t2 → t1 = t2 := by
        intro z t1 t2 z0 z1 h3 h4 h5 h6
        by_cases e5 : t1 = 0
        · by_cases e6 : t2 = 0
          · omega
          · subst e5
            rw [ta.zero] at h3
            injection h3 with h3
            have := (tb.here t2 z (by omega) h4).1
            omega
        · by_cases e6 : t2 = 0
          · subst e6
            rw [tb.zero] at h4
            injection h4 with h4
            have := (ta.here t1 z (by omega) h3).1
            omega
          · have := ih z.toNat (by omega) t1 t2 (by omega) (by omega) (by rw [h3]; congr 1; omega) (by rw [h4]; congr 1; omega)
            exact this
      have g1 := hf.1.2.2 _ t p3
      have g2 := hf.1.2.2 _ t' q3
      have e5 := hz x' t.a t'.a p6 p7 p4 q4 g1.1 g2.1
      have e6 := hz y' t.b t'.b p8 p9 p5 q5 g1.2.2.1 g2.2.2.1
      have et : t = t' := by
        obtain ⟨k1, n1, a1, b1⟩ := t
        obtain ⟨k2, n2, a2, b2⟩ := t'
        dsimp only at e1 e2 e5 e6
        subst e1 e2 e5 e6
        rfl
      subst et
      have i1 := (hf.2 _ t p3).1
      have i2 := (hf.2 _ t q3).1
      rw [i1] at i2
      injection i2 with i2
      omega
  rw [h] at la
  exact key sb.2.length a b ha hb la lb
end Go.Proofs.YtenaljhkdnhgpaaGreatDoor.T
