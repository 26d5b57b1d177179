/- What is left behind a Remove, plainly; which nodes a Resolution names. -/
import Derived.Test.YtopkanokpfhmmaaDoorVA
namespace Go.Proofs.YtopkanokpfhmmaaDoor
open Go Go.RowKit
set_option linter.unusedVariables false
set_option linter.unusedSimpArgs false

theorem cut_le (F : Nat → Node) : ∀ d, cut F d ≤ d
  | 0 => Nat.le_refl _
  | d + 1 => by
    have := cut_le F d
    unfold cut
    split <;> omega
theorem cut_off {F : Nat → Node} : ∀ {d i : Nat}, 2 ^ cut F d ≤ i → i < 2 ^ d → (F (2 * i)).blank = true
  | 0, i, h1, h2 => by have : cut F 0 = 0 := rfl; rw [this] at h1; omega
  | d + 1, i, h1, h2 => by
    unfold cut at h1
    by_cases ht : takenB F d = true
    · rw [if_pos ht] at h1; omega
    · rw [if_neg ht] at h1
      by_cases hi : i < 2 ^ d
      · exact cut_off h1 hi
      · have h3 := two_succ d
        cases hb : (F (2 * i)).blank with
        | true => rfl
        | false =>
          exfalso
          refine ht ((takenB_iff F d).2 ⟨i - 2 ^ d, by omega, ?_⟩)
          rw [show 2 ^ d + (i - 2 ^ d) = i by omega]
          exact hb
theorem cut_last {F : Nat → Node} : ∀ {d : Nat}, 0 < cut F d → ∃ i, 2 ^ cut F d / 2 ≤ i ∧ i < 2 ^ cut F d ∧ (F (2 * i)).blank = false
  | 0, h => by have : cut F 0 = 0 := rfl; omega
  | d + 1, h => by
    unfold cut at h ⊢
    by_cases ht : takenB F d = true
    · rw [if_pos ht]
      obtain ⟨i, h1, h2⟩ := (takenB_iff F d).1 ht
      have h3 := two_succ d
      exact ⟨2 ^ d + i, by omega, by omega, h2⟩
    · rw [if_neg ht] at h ⊢
      exact cut_last h
theorem memL_nil {F : Nat → Node} : ∀ {n : Nat}, (∀ j, j < n → ¬ 0 < (F (2 * j)).pub) → memL F n = []
  | 0, h => rfl
  | n + 1, h => by
    unfold memL
    rw [if_neg (h n (by omega)), memL_nil fun j hj => h j (by omega)]
theorem memL_one {F : Nat → Node} {i : Nat} : ∀ {n : Nat}, i < n → 0 < (F (2 * i)).pub → (∀ j, j < n → j ≠ i → ¬ 0 < (F (2 * j)).pub) → (memL F n).length = 1
  | 0, h, _, _ => by omega
  | n + 1, h, hp, ho => by
    unfold memL
    by_cases e : i = n
    · subst e
      rw [if_pos hp, memL_nil fun j hj => ho j (by omega) (by omega)]
      rfl
    · rw [if_neg (ho n (by omega) (by omega))]
      exact memL_one (by omega) hp fun j hj hne => ho j (by omega) hne
theorem findM_at {F : Nat → Node} {m : Int} : ∀ {n : Nat}, 0 ≤ findM F m n → ∃ i : Nat, findM F m n = i ∧ i < n ∧ 0 < (F (2 * i)).pub ∧ (F (2 * i)).mem = m
  | 0, h => by simp [findM] at h
  | n + 1, h => by
    unfold findM at h ⊢
    by_cases h1 : 0 ≤ findM F m n
    · rw [if_pos h1]
      obtain ⟨i, h2, h3, h4⟩ := findM_at h1
      exact ⟨i, h2, by omega, h4⟩
    · rw [if_neg h1] at h ⊢
      by_cases h2 : 0 < (F (2 * n)).pub ∧ (F (2 * n)).mem = m
      · rw [if_pos h2]
        exact ⟨n, rfl, by omega, h2⟩
      · rw [if_neg h2] at h; simp at h
theorem wi_fin : ∀ i : Fin 8, ∀ x : Fin 16, wi i.val x.val = true ↔ (lo x.val ≤ i.val ∧ i.val ≤ hi x.val) := by decide +kernel
theorem wi_lohi {i x : Nat} (hi8 : i < 8) (hx : x < 16) : wi i x = true ↔ lo x ≤ i ∧ i ≤ hi x := wi_fin ⟨i, hi8⟩ ⟨x, hx⟩
theorem hi_fin : ∀ d : Fin 4, ∀ x : Fin 16, x.val < 2 ^ (d.val + 1) - 1 → hi x.val < 2 ^ d.val := by decide +kernel
theorem hi_lt {d x : Nat} (hd : d ≤ 3) (hx : x < 2 ^ (d + 1) - 1) : hi x < 2 ^ d := hi_fin ⟨d, by omega⟩ ⟨x, by have := pow3 hd; omega⟩ hx
theorem blankF_leaf {F : Nat → Node} {d i j : Nat} (hd : d ≤ 3) (hi : i < 2 ^ d) : blankF F d i (2 * j) = if j = i then zeroN else F (2 * j) := by
  unfold blankF
  by_cases e : j = i
  · rw [if_pos (.inl (by rw [e])), if_pos e]
  · rw [if_neg e, if_neg]
    rintro (h | h)
    · omega
    · have := (dirs_odd hd hi h).1; omega
/-- The tree behind a Remove may be. -/
theorem rem_ok {d n i : Nat} {F : Nat → Node} (hO : Ok d n F) (hi : i < 2 ^ d) (hj : ∃ j, j < 2 ^ d ∧ j ≠ i ∧ (F (2 * j)).blank = false) :
    Ok (cut (blankF F d i) d) (2 ^ (cut (blankF F d i) d + 1) - 1) (blankF F d i) := by
  have hd := hO.hd
  have hle := cut_le (blankF F d i) d
  have hpl : 2 ^ cut (blankF F d i) d ≤ 2 ^ d := Nat.pow_le_pow_right (by decide) hle
  have hpl2 : 2 ^ (cut (blankF F d i) d + 1) ≤ 2 ^ (d + 1) := Nat.pow_le_pow_right (by decide) (by omega)
  have hn := hO.hn
  refine ⟨by omega, rfl, fun x hx ho => ?_, fun j hj => ?_, fun j k hjk hk bj bk => ?_, ?_⟩
  · by_cases hxd : x ∈ dirs d i
    · left
      unfold blankF
      rw [if_pos (.inr hxd)]
      rfl
    · have e : blankF F d i x = F x := by
        unfold blankF
        rw [if_neg]
        rintro (h | h)
        · omega
        · exact hxd h
      rw [e]
      rcases hO.par x (by omega) ho with h1 | ⟨h1, h2, h3, h4, h5⟩
      · exact .inl h1
      · refine .inr ⟨h1, h2, h3, fun u hu => ?_, h5⟩
        obtain ⟨u1, u2, u3⟩ := h4 u hu
        obtain ⟨v, rfl⟩ : ∃ v : Nat, u = v := ⟨u.toNat, by omega⟩
        refine ⟨u1, u2, ?_⟩
        have e2 : (2 * (v : Int)).toNat = 2 * v := by omega
        rw [e2] at u3 ⊢
        rw [blankF_leaf hd hi]
        by_cases ev : v = i
        · exfalso
          subst ev
          exact hxd ((dirs_iff hd hi (by omega)).2 ⟨ho, by omega, by omega⟩)
        · rw [if_neg ev]
          exact u3
  · rw [blankF_leaf hd hi]
    by_cases e : j = i
    · rw [if_pos e]; exact .inl rfl
    · rw [if_neg e]; exact hO.leaf j (by omega)
  · rw [blankF_leaf hd hi] at bj bk
    rw [blankF_leaf hd hi, blankF_leaf hd hi]
    by_cases e1 : j = i
    · rw [if_pos e1] at bj; cases bj
    · by_cases e2 : k = i
      · rw [if_pos e2] at bk; cases bk
      · rw [if_neg e1, if_neg e2] at *
        exact hO.dist j k hjk (by omega) bj bk
  · by_cases h0 : 0 < cut (blankF F d i) d
    · exact cut_last h0
    · have e0 : cut (blankF F d i) d = 0 := by omega
      obtain ⟨j, h1, h2, h3⟩ := hj
      have hjz : j = 0 := by
        by_cases hz : j = 0
        · exact hz
        · exfalso
          have := cut_off (F := blankF F d i) (d := d) (i := j) (by rw [e0]; omega) h1
          rw [blankF_leaf hd hi, if_neg h2, h3] at this
          cases this
      subst hjz
      rw [e0]
      exact ⟨0, by decide, by decide, by rw [blankF_leaf hd hi, if_neg h2]; exact h3⟩
/-- What a Resolution names has a key. -/
theorem resM_pub {d n : Nat} {F : Nat → Node} (hO : Ok d n F) : ∀ (k x j : Nat), Nd x k j → x < n → ∀ z ∈ resM F k x, ∃ y : Nat, z = y ∧ y < n ∧ 0 < (F y).pub := by
  have hd := hO.hd
  have hn := hO.hn
  have one : ∀ x, x < n → 0 < (F x).pub → ∀ z ∈ (x : Int) :: (F x).un.map (2 * ·), ∃ y : Nat, z = y ∧ y < n ∧ 0 < (F y).pub := by
    intro x hx hp z hz
    rcases List.mem_cons.1 hz with rfl | hz
    · exact ⟨x, rfl, hx, hp⟩
    · obtain ⟨u, hu, rfl⟩ := List.mem_map.1 hz
      by_cases ho : x % 2 = 1
      · rcases hO.par x hx ho with h1 | ⟨_, _, _, h4, _⟩
        · rw [Node.blank_iff.1 h1] at hu; cases hu
        · obtain ⟨u1, u2, u3⟩ := h4 u hu
          have hh := hi_lt hd (x := x) (by omega)
          obtain ⟨v, rfl⟩ : ∃ v : Nat, u = v := ⟨u.toNat, by omega⟩
          have e2 : (2 * (v : Int)).toNat = 2 * v := by omega
          have h2 := two_succ d
          rw [e2] at u3
          refine ⟨2 * v, by omega, by omega, ?_⟩
          rcases hO.leaf v (by omega) with h5 | h5
          · rw [Node.blank_iff.1 h5] at u3; exact absurd rfl u3
          · omega
      · obtain ⟨i, rfl⟩ : ∃ i, x = 2 * i := ⟨x / 2, by omega⟩
        have h2 := two_succ d
        rcases hO.leaf i (by omega) with h1 | ⟨_, _, _, h1⟩
        · rw [Node.blank_iff.1 h1] at hu; cases hu
        · rw [h1] at hu; cases hu
  intro k
  induction k with
  | zero =>
    intro x j h hx z hz
    unfold resM at hz
    by_cases hp : 0 < (F x).pub
    · rw [if_pos hp] at hz; exact one x hx hp z hz
    · rw [if_neg hp] at hz; cases hz
  | succ k ih =>
    intro x j h hx z hz
    unfold resM at hz
    by_cases hp : 0 < (F x).pub
    · rw [if_pos hp] at hz; exact one x hx hp z hz
    · rw [if_neg hp] at hz
      obtain ⟨h1, h2⟩ := kid_lt hO.lvs_ne hx h
      obtain ⟨n1, n2⟩ := h.kids
      rcases List.mem_append.1 hz with hz | hz
      · exact ih (x - 2 ^ k) _ n1 (Nat.lt_of_le_of_lt (Nat.sub_le _ _) hx) z hz
      · exact ih (x + 2 ^ k) _ n2 h1 z hz
/-- What TreeForgets says. -/
structure ForgetsP (n : Nat) (F : Nat → Node) (d i e n' : Nat) (G : Nat → Node) : Prop where
  ok : Ok e n' G
  small : n' ≤ n ∧ n ≤ 15 ∧ i < 8 ∧ 2 ^ e ≤ 8 ∧ 2 * 2 ^ e = n' + 1
  res : ∀ x : Nat, x < n' → resE n' G x = 0 ∧ (resL n' G x).contains (2 * (i : Int)) = false
  un : ∀ x, x < n' → (G x).un.contains (i : Int) = false
  nam : ∀ x, x < n' → x % 2 = 1 → 0 < (G x).pub → wi i x = false
  others : ∀ j, j < 2 ^ e → j ≠ i → G (2 * j) = F (2 * j)
theorem rem_facts {n : Nat} {F : Nat → Node} {m : Int} (h : remE n F m = 0) : ∃ d i : Nat, Ok d n F ∧ findM F m (sizeM n F) = i ∧ i < 2 ^ d ∧ 0 < (F (2 * i)).pub ∧ (F (2 * i)).mem = m ∧ (memL F (sizeM n F)).length ≠ 1 ∧ (∃ j, j < 2 ^ d ∧ j ≠ i ∧ (F (2 * j)).blank = false) := by
  unfold remE at h
  by_cases h1 : chk n F = false
  · rw [if_pos h1] at h; cases h
  rw [if_neg h1] at h
  by_cases h2 : findM F m (sizeM n F) < 0
  · rw [if_pos h2] at h; cases h
  rw [if_neg h2] at h
  by_cases h3 : (memL F (sizeM n F)).length = 1
  · rw [if_pos h3] at h; cases h
  rcases chk_iff.1 (by simpa using h1) with rfl | ⟨d, hO⟩
  · exfalso
    apply h2
    have : sizeM 0 F = 0 := by have := sizeM_lt (n := 0) (F := F) (i := 0); omega
    rw [this]
    show (-1 : Int) < 0
    decide
  · have hs := sizeM_ok hO
    obtain ⟨i, e1, e2, e3, e4⟩ := findM_at (F := F) (m := m) (n := sizeM n F) (by omega)
    rw [hs] at e2
    refine ⟨d, i, hO, e1, e2, e3, e4, h3, ?_⟩
    refine Classical.byContradiction fun hc => h3 ?_
    rw [hs]
    refine memL_one e2 e3 fun j hj hne hp => hc ⟨j, hj, hne, (hO.pub_blank hj).1 hp⟩
theorem resE_ok {d n x : Nat} {F : Nat → Node} (hO : Ok d n F) (hx : x < n) : resE n F x = 0 := by
  unfold resE
  rw [if_neg (by rw [chk_iff.2 (.inr ⟨d, hO⟩)]; decide), if_neg (by omega)]
theorem forgetsP {d n i : Nat} {F : Nat → Node} (hO : Ok d n F) (hi : i < 2 ^ d) (hj : ∃ j, j < 2 ^ d ∧ j ≠ i ∧ (F (2 * j)).blank = false) :
    ForgetsP n F d i (cut (blankF F d i) d) (2 ^ (cut (blankF F d i) d + 1) - 1) (blankF F d i) := by
  have hR := rem_ok hO hi hj
  have hd := hO.hd
  have hle := cut_le (blankF F d i) d
  have hpl : 2 ^ cut (blankF F d i) d ≤ 2 ^ d := Nat.pow_le_pow_right (by decide) hle
  have hpl2 : 2 ^ (cut (blankF F d i) d + 1) ≤ 2 ^ (d + 1) := Nat.pow_le_pow_right (by decide) (by omega)
  have hp3 := pow3 hd
  have hn := hO.hn
  have h2 := two_succ (cut (blankF F d i) d)
  have h20 := two_pos (cut (blankF F d i) d)
  have hzero : (blankF F d i (2 * i)).pub = 0 := by rw [blankF_leaf hd hi, if_pos rfl]; rfl
  generalize he : cut (blankF F d i) d = e at *
  refine ⟨hR, ⟨by omega, by omega, by omega, by omega, by omega⟩, fun x hx => ?_, fun x hx => ?_, fun x hx ho hp => ?_, fun j hj hne => by rw [blankF_leaf hd hi, if_neg hne]⟩
  · have hE := resE_ok hR hx
    refine ⟨hE, ?_⟩
    unfold resL
    rw [if_pos hE, Int.toNat_natCast]
    cases hc : (resM (blankF F d i) (lvN x) x).contains (2 * (i : Int)) with
    | false => rfl
    | true =>
      exfalso
      obtain ⟨y, e1, e2, e3⟩ := resM_pub hR (lvN x) x _ (nd_lv (by omega)) hx _ (by simpa using hc)
      obtain rfl : y = 2 * i := by omega
      omega
  · cases hc : (blankF F d i x).un.contains (i : Int) with
    | false => rfl
    | true =>
      exfalso
      have hm : (i : Int) ∈ (blankF F d i x).un := by simpa using hc
      by_cases ho : x % 2 = 1
      · rcases hR.par x hx ho with h1 | ⟨_, _, _, h4, _⟩
        · rw [Node.blank_iff.1 h1] at hm; cases hm
        · have h5 := (h4 _ hm).2.2
          have e2 : (2 * (i : Int)).toNat = 2 * i := by omega
          rw [e2] at h5
          exact h5 hzero
      · obtain ⟨j, rfl⟩ : ∃ j, x = 2 * j := ⟨x / 2, by omega⟩
        rcases hR.leaf j (by omega) with h1 | ⟨_, _, _, h1⟩
        · rw [Node.blank_iff.1 h1] at hm; cases hm
        · rw [h1] at hm; cases hm
  · cases hw : wi i x with
    | false => rfl
    | true =>
      exfalso
      have hl := (wi_lohi (by omega) (by omega)).1 hw
      have hxd := (dirs_iff hd hi (y := x) (by omega)).2 ⟨ho, hl.1, hl.2⟩
      have e : blankF F d i x = zeroN := by unfold blankF; rw [if_pos (.inr hxd)]
      rw [e] at hp
      exact absurd hp (by decide)
end Go.Proofs.YtopkanokpfhmmaaDoor
