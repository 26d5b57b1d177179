/- What List and Data leave of a store, and a store across itself. Plain. -/
import Derived.Test.YtbngiimhkgdjeaaTwinW
namespace Go.Proofs.Ytbngiimhkgdjeaa

structure Rg (L : List Tm) (k : Nat) (R : Int × Int × List Tm) : Prop where
  full : Full R.2.2
  lo : 0 ≤ R.1
  hi : R.1 ≤ R.2.2.length
  mono : L.length ≤ R.2.2.length
  bd : R.2.2.length ≤ L.length + k
theorem mk_rg {L : List Tm} (h : Full L) {t : Tm} (ht : Tm.wf t) : Rg L 1 (mk L t) := by
  have h1 := mk_full h ht
  have h2 := mk_range L t h.1.1
  refine ⟨h1, h2.1, h2.2.1, ?_, ?_⟩
  all_goals rcases mk_ways L t with ⟨e, _⟩ | ⟨i, e, _⟩ | ⟨e, _⟩ | ⟨e, _⟩ <;> rw [e] <;> simp
theorem pairs_rg : ∀ (r : List Int) (L : List Tm) (n : Int), Full L → (∀ x ∈ r, 1 ≤ x ∧ x ≤ 1048576) → 0 ≤ n → n ≤ L.length → Rg L r.length (pairs L n r) := by
  intro r
  induction r with
  | nil => intro L n h _ h1 h2; exact ⟨h, h1, h2, Nat.le_refl _, by simp [pairs]⟩
  | cons x r ih =>
    intro L n h hx h1 h2
    have hl := h.1.1
    have hw : Tm.wf ⟨3, 0, x, n⟩ := by
      have := hx x (by simp)
      exact ⟨by show (Lit.int .u8 3).wf = true; decide, by show (Lit.int .i64 0).wf = true; decide, wf_small x (by omega) (by omega), wf_small n (by omega) (by omega)⟩
    have hr := mk_rg h hw
    unfold pairs
    split
    · have := ih (mk L ⟨3, 0, x, n⟩).2.2 (mk L ⟨3, 0, x, n⟩).1 hr.full (fun y hy => hx y (by simp [hy])) hr.lo hr.hi
      exact ⟨this.full, this.lo, this.hi, Nat.le_trans hr.mono this.mono, by have := this.bd; have := hr.bd; simp; omega⟩
    · exact ⟨hr.full, by simp, by simp, hr.mono, by have := hr.bd; simp; omega⟩
theorem listS_rg {L : List Tm} (h : Full L) (l : List Int) : Rg L l.length (listS L l) := by
  unfold listS
  split
  · rename_i hall
    have hin : ∀ x ∈ l, 1 ≤ x ∧ x ≤ L.length := fun x hx => by
      have := List.all_eq_true.1 hall x hx
      unfold thereB at this
      simp at this
      exact this
    have hl := h.1.1
    cases e : l.reverse with
    | nil => exact ⟨h, by simp, by simp, Nat.le_refl _, by simp⟩
    | cons n r =>
      have hm : ∀ x, x ∈ n :: r → x ∈ l := fun x hx => by rw [← e] at hx; simpa using hx
      have hlen : l.length = r.length + 1 := by have := congrArg List.length e; simpa using this
      have hn := hin n (hm n (by simp))
      show Rg L l.length (pairs L n r)
      have := pairs_rg r L n h (fun x hx => by have := hin x (hm x (by simp [hx])); omega) (by omega) (by omega)
      exact ⟨this.full, this.lo, this.hi, this.mono, by have := this.bd; omega⟩
  · exact ⟨h, by simp, by simp, Nat.le_refl _, by simp⟩
theorem dataS_rg : ∀ (l : List Int) (L : List Tm) (out : List Int), Full L → (∀ x ∈ l, (Lit.int .i64 x).wf = true) → Rg L (out.length + 2 * l.length) (dataS L out l) := by
  intro l
  induction l with
  | nil =>
    intro L out h _
    show Rg L _ (listS L out)
    have := listS_rg h out
    exact ⟨this.full, this.lo, this.hi, this.mono, by have := this.bd; simp; omega⟩
  | cons x l ih =>
    intro L out h hx
    have hw : Tm.wf ⟨2, x, 0, 0⟩ := ⟨by show (Lit.int .u8 2).wf = true; decide, hx x (by simp), by show (Lit.int .i64 0).wf = true; decide, by show (Lit.int .i64 0).wf = true; decide⟩
    have hr := mk_rg h hw
    unfold dataS
    split
    · have := ih (mk L ⟨2, x, 0, 0⟩).2.2 (out ++ [(mk L ⟨2, x, 0, 0⟩).1]) hr.full (fun y hy => hx y (by simp [hy]))
      refine ⟨this.full, this.lo, this.hi, Nat.le_trans hr.mono this.mono, Nat.le_trans this.bd ?_⟩
      have h6 := hr.bd
      simp only [List.length_append, List.length_cons, List.length_nil]
      omega
    · exact ⟨hr.full, by simp, by simp, hr.mono, by have := hr.bd; simp; omega⟩
def ident (i : Nat) : List Int := (List.range (i + 1)).map (fun n : Nat => (n : Int))
theorem ident_get (i n : Nat) (h : n ≤ i) : (ident i)[n]? = some (n : Int) := by
  unfold ident
  rw [List.getElem?_map, List.getElem?_range (by omega)]
  rfl
theorem tr_ident {i : Nat} {t : Tm} (h : 0 ≤ t.a ∧ t.a ≤ i ∧ 0 ≤ t.b ∧ t.b ≤ i) : tr (ident i) t = t := by
  obtain ⟨k, n, a, b⟩ := t
  dsimp only at h
  obtain ⟨na, rfl⟩ : ∃ m : Nat, a = m := ⟨a.toNat, by omega⟩
  obtain ⟨nb, rfl⟩ : ∃ m : Nat, b = m := ⟨b.toNat, by omega⟩
  unfold tr
  simp only [Int.toNat_natCast, List.getD_eq_getElem?_getD]
  rw [ident_get i na (by omega), ident_get i nb (by omega)]
  rfl
theorem mk_there {L : List Tm} (h : Full L) (i : Nat) (t : Tm) (ht : L[i]? = some t) : mk L t = ((i : Int) + 1, 0, L) := by
  have h1 := h.2 i t ht
  have h2 := (List.getElem?_eq_some_iff.1 ht).1
  unfold mk
  rw [if_neg (by rw [may_mono (by omega) h1.2]; decide), h1.1]
theorem acr_id {L : List Tm} (h : Full L) : ∀ i, i ≤ L.length → acrN L L i = (ident i, L) := by
  intro i
  induction i with
  | zero => intro _; rfl
  | succ i ih =>
    intro hi
    have ht : L[i]? = some L[i] := List.getElem?_eq_getElem (by omega)
    rw [acrN_succ L L i _ ht, ih (by omega)]
    dsimp only
    rw [tr_ident (h.1.2.2 i _ ht), mk_there h i _ ht]
    dsimp only
    congr 1
    unfold ident
    rw [List.range_succ (n := i + 1), List.map_append]
    rfl
theorem acr_ok {L : List Tm} (h : Full L) : AcrOk L L := by
  intro i t ht
  have hi := (List.getElem?_eq_some_iff.1 ht).1
  rw [acr_id h i (by omega)]
  dsimp only
  rw [tr_ident (h.1.2.2 i t ht), mk_there h i t ht]
  exact ⟨rfl, h.1.1, h.1.2.1 t (List.mem_of_getElem? ht)⟩
end Go.Proofs.Ytbngiimhkgdjeaa
