/- What a store of made terms is like; a term that is made again. Plain. -/
import Derived.Test.YtenaljhkdnhgpaaGreatDoorTArgs
namespace Go.Proofs.YtenaljhkdnhgpaaGreatDoor.T

def Good (L : List Tm) : Prop := L.length ≤ 1048576 ∧ (∀ t ∈ L, Tm.wf t) ∧ ∀ (i : Nat) (t : Tm), L[i]? = some t → 0 ≤ t.a ∧ t.a ≤ i ∧ 0 ≤ t.b ∧ t.b ≤ i
theorem good_nil : Good [] := ⟨by decide, fun t h => (by cases h), fun i t h => by simp at h⟩
theorem may_parts {n : Nat} {t : Tm} (h : mayB n t = true) : 0 ≤ t.a ∧ t.a ≤ n ∧ 0 ≤ t.b ∧ t.b ≤ n := by
  unfold mayB thereB at h
  split at h
  · simp at h; omega
  split at h
  · simp at h; omega
  split at h
  · simp at h; omega
  split at h
  · simp at h; omega
  split at h
  · simp at h; omega
  · cases h
theorem there_mono {n m : Nat} (h : n ≤ m) (x : Int) (hx : thereB n x = true) : thereB m x = true := by
  unfold thereB at *
  simp at *
  omega
theorem may_mono {n m : Nat} (h : n ≤ m) {t : Tm} (hx : mayB n t = true) : mayB m t = true := by
  unfold mayB at *
  have ha := there_mono h t.a
  have hb := there_mono h t.b
  split at hx
  · rename_i e; rw [if_pos e]; exact hx
  rename_i e1; rw [if_neg e1]
  split at hx
  · rename_i e; rw [if_pos e]; exact hx
  rename_i e2; rw [if_neg e2]
  split at hx
  · rename_i e; rw [if_pos e]; simp only [Bool.and_eq_true] at *; exact ⟨hx.1, ha hx.2.1, hb hx.2.2⟩
  rename_i e3; rw [if_neg e3]
  split at hx
  · rename_i e; rw [if_pos e]; simp only [Bool.and_eq_true, Bool.or_eq_true] at *; exact ⟨hx.1, ha hx.2.1, hx.2.2.imp hb id⟩
  rename_i e4; rw [if_neg e4]
  split at hx
  · rename_i e; rw [if_pos e]; simp only [Bool.and_eq_true] at *; exact ⟨hx.1, ha hx.2.1, hx.2.2⟩
  · cases hx
theorem num_get {L : List Tm} {t : Tm} {x : Int} (h : num L t = some x) : ∃ i : Nat, x = (i : Int) + 1 ∧ L[i]? = some t := by
  unfold num at h
  rw [Option.map_eq_some_iff] at h
  obtain ⟨i, hi, rfl⟩ := h
  refine ⟨i, rfl, ?_⟩
  obtain ⟨h1, h2, _⟩ := List.findIdx?_eq_some_iff_getElem.1 hi
  rw [List.getElem?_eq_getElem h1]
  have : L[i] = t := by simpa using h2
  rw [this]
/-- The ways of mk. -/
theorem mk_ways (L : List Tm) (t : Tm) : ((mk L t) = (0, 1, L) ∧ mayB L.length t = false) ∨ (∃ i : Nat, (mk L t) = ((i : Int) + 1, 0, L) ∧ mayB L.length t = true ∧ num L t = some ((i : Int) + 1) ∧ L[i]? = some t) ∨ ((mk L t) = (0, 3, L) ∧ mayB L.length t = true ∧ num L t = none ∧ 1048576 ≤ L.length) ∨ ((mk L t) = ((L.length : Int) + 1, 0, L ++ [t]) ∧ mayB L.length t = true ∧ num L t = none ∧ L.length < 1048576) := by
  unfold mk
  by_cases h : mayB L.length t = false
  · rw [if_pos h]; exact .inl ⟨rfl, h⟩
  · rw [if_neg h]
    have h' : mayB L.length t = true := by simpa using h
    cases e : num L t with
    | some x =>
      obtain ⟨i, rfl, hi⟩ := num_get e
      exact .inr (.inl ⟨i, rfl, h', rfl, hi⟩)
    | none =>
      dsimp only
      by_cases hl : 1048576 ≤ L.length
      · rw [if_pos hl]; exact .inr (.inr (.inl ⟨rfl, h', rfl, hl⟩))
      · rw [if_neg hl]; exact .inr (.inr (.inr ⟨rfl, h', rfl, by omega⟩))
theorem mk_good {L : List Tm} (h : Good L) {t : Tm} (ht : Tm.wf t) : Good (mk L t).2.2 := by
  rcases mk_ways L t with ⟨e, _⟩ | ⟨i, e, _⟩ | ⟨e, _⟩ | ⟨e, h1, h2, h3⟩
  · rw [e]; exact h
  · rw [e]; exact h
  · rw [e]; exact h
  · rw [e]
    refine ⟨by simp; omega, fun u hu => ?_, fun i u hu => ?_⟩
    · rcases List.mem_append.1 hu with h4 | h4
      · exact h.2.1 u h4
      · rw [List.mem_singleton.1 h4]; exact ht
    · by_cases hi : i < L.length
      · rw [List.getElem?_append_left hi] at hu
        exact h.2.2 i u hu
      · have hi2 : i = L.length := by
          have := (List.getElem?_eq_some_iff.1 hu).1
          simp at this
          omega
        subst hi2
        simp at hu
        subst hu
        exact may_parts h1
theorem mk_twice (L : List Tm) (t : Tm) : mk (mk L t).2.2 t = mk L t := by
  rcases mk_ways L t with ⟨e, _⟩ | ⟨i, e, _⟩ | ⟨e, _⟩ | ⟨e, h1, h2, h3⟩
  · rw [e]; exact e
  · rw [e]; exact e
  · rw [e]; exact e
  · rw [e]
    show mk (L ++ [t]) t = _
    unfold mk
    rw [if_neg (by rw [may_mono (by simp) h1]; decide), num_self L t h2]
/-- What mk answers: a number that is there, or none. -/
theorem mk_ans {L : List Tm} (h : Good L) {t : Tm} (ht : Tm.wf t) : ((mk L t).2.1 = 0 ∧ ∃ i : Nat, (mk L t).1 = (i : Int) + 1 ∧ (mk L t).2.2[i]? = some t ∧ t.a < (i : Int) + 1 ∧ t.b < (i : Int) + 1) ∨ ((mk L t).2.1 ≠ 0 ∧ (mk L t).1 = 0) := by
  have hg := mk_good h ht
  have key : ∀ i : Nat, (mk L t).2.2[i]? = some t → t.a < (i : Int) + 1 ∧ t.b < (i : Int) + 1 := fun i hi => by
    have := hg.2.2 i t hi
    omega
  rcases mk_ways L t with ⟨e, _⟩ | ⟨i, e, _, _, hi⟩ | ⟨e, _⟩ | ⟨e, h1, h2, h3⟩
  · rw [e]; exact .inr ⟨by simp, rfl⟩
  · rw [e] at key ⊢; exact .inl ⟨rfl, i, rfl, hi, key i hi⟩
  · rw [e]; exact .inr ⟨by simp, rfl⟩
  · rw [e] at key ⊢
    have : (L ++ [t])[L.length]? = some t := by simp
    exact .inl ⟨rfl, L.length, rfl, this, key _ this⟩
end Go.Proofs.YtenaljhkdnhgpaaGreatDoor.T
