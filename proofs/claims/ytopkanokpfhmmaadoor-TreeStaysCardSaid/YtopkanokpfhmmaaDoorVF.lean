/- TreeStays, plainly: who is in a tree behind Add, Remove and SetPath; and such a tree may be. -/
import Derived.Test.YtopkanokpfhmmaaDoorVC
namespace Go.Proofs.YtopkanokpfhmmaaDoor
open Go Go.RowKit
set_option linter.unusedVariables false
set_option linter.unusedSimpArgs false

theorem findM_none {F : Nat → Node} {m : Int} : ∀ {n : Nat}, (∀ j, j < n → 0 < (F (2 * j)).pub → (F (2 * j)).mem ≠ m) → findM F m n = -1
  | 0, _ => rfl
  | n + 1, h => by
    unfold findM
    rw [findM_none fun j hj => h j (by omega), if_neg (by decide), if_neg fun hc => h n (by omega) hc.1 hc.2]
theorem memL_same {F G : Nat → Node} : ∀ {n : Nat}, (∀ j, j < n → (0 < (G (2 * j)).pub ↔ 0 < (F (2 * j)).pub) ∧ (0 < (F (2 * j)).pub → (G (2 * j)).mem = (F (2 * j)).mem)) → memL G n = memL F n
  | 0, _ => rfl
  | n + 1, h => by
    unfold memL
    rw [memL_same fun j hj => h j (by omega)]
    have := h n (by omega)
    by_cases hp : 0 < (F (2 * n)).pub
    · rw [if_pos hp, if_pos (this.1.2 hp), this.2 hp]
    · rw [if_neg hp, if_neg fun hc => hp (this.1.1 hc)]
theorem memL_congr {F G : Nat → Node} {n : Nat} (h : ∀ j, j < n → G (2 * j) = F (2 * j)) : memL G n = memL F n :=
  memL_same fun j hj => by rw [h j hj]; exact ⟨Iff.rfl, fun _ => rfl⟩
theorem memL_more {F : Nat → Node} {L : Nat} : ∀ {N : Nat}, L ≤ N → (∀ j, L ≤ j → j < N → ¬ 0 < (F (2 * j)).pub) → memL F N = memL F L
  | 0, h, _ => by rw [show L = 0 by omega]
  | N + 1, h, hp => by
    by_cases e : L = N + 1
    · rw [e]
    · show (if 0 < (F (2 * N)).pub then memL F N ++ [(F (2 * N)).mem] else memL F N) = memL F L
      rw [if_neg (hp N (by omega) (by omega))]
      exact memL_more (by omega) fun j h1 h2 => hp j h1 (by omega)
theorem memL_add {F G : Nat → Node} {i : Nat} : ∀ {n : Nat}, i < n → (∀ j, j < n → j ≠ i → G (2 * j) = F (2 * j)) → ¬ 0 < (F (2 * i)).pub → 0 < (G (2 * i)).pub → (memL G n).length = (memL F n).length + 1
  | 0, h, _, _, _ => by omega
  | n + 1, h, ho, hf, hg => by
    unfold memL
    by_cases e : i = n
    · subst e
      rw [if_pos hg, if_neg hf, memL_congr fun j hj => ho j (by omega) (by omega)]
      simp
    · have ih := memL_add (n := n) (by omega) (fun j hj => ho j (by omega)) hf hg
      rw [ho n (by omega) (by omega)]
      by_cases hp : 0 < (F (2 * n)).pub
      · rw [if_pos hp, if_pos hp]; simp [ih]
      · rw [if_neg hp, if_neg hp]; exact ih
theorem blank_pub {a : Node} (h : a.blank = true) : ¬ 0 < a.pub := by rw [Node.blank_iff.1 h]; decide
/-- Behind an Add. -/
structure StaysA (n : Nat) (F : Nat → Node) (a : Addx) (N i : Nat) (G : Nat → Node) : Prop where
  ok : chk (2 * N - 1) G = true
  fnd : findM G a.mem (sizeM (2 * N - 1) G) = i
  len : (memL G (sizeM (2 * N - 1) G)).length = (memL F (sizeM n F)).length + 1
  rem : remE (2 * N - 1) G a.mem ≠ 0 → (memL F (sizeM n F)).length = 0
  back : ∀ d j, Ok d (2 * N - 1) G → findM G a.mem (sizeM (2 * N - 1) G) = (j : Nat) → j < 2 ^ d → memL (blankF G d j) (2 ^ cut (blankF G d j) d) = memL F (sizeM n F)
theorem addF_leaf {n : Nat} {F : Nat → Node} {d i j : Nat} {a : Addx} (hd : d ≤ 3) (hi : i < 2 ^ d) : addF n F d i a (2 * j) = if j = i then ⟨a.pub, a.mem, a.ep, []⟩ else pad n F (2 * j) := by
  unfold addF
  by_cases e : j = i
  · rw [if_pos (by rw [e]), if_pos e]
  · rw [if_neg e, if_neg (by omega), if_neg]
    rintro ⟨h, _⟩
    have := (dirs_odd hd hi h).1
    omega
theorem staysA {n : Nat} {F : Nat → Node} {a : Addx} (h : addE n F a = 0) : StaysA n F a (addN n F) (fb F (lvs n)) (addF n F (lg (addN n F)) (fb F (lvs n)) a) := by
  obtain ⟨d, hd, hN, hlg, hat, hn, hcase⟩ := add_facts h
  obtain ⟨hz, hm, he, hp, hf, -⟩ := chk_false_add h
  obtain ⟨d', hlg', hN', hO⟩ := add_ok h
  obtain rfl : d' = d := hlg'.symm.trans hlg
  rw [hlg]
  rw [hN] at hO ⊢
  have hL : sizeM n F = lvs n := by unfold sizeM; rw [hz, if_pos rfl]
  have hs := sizeM_ok hO
  have hle := fb_le F (lvs n)
  have hleaf := fun j => addF_leaf (n := n) (F := F) (d := d') (i := fb F (lvs n)) (j := j) (a := a) hd hat
  have hnl : n ≤ 2 * lvs n := by
    rcases chk_iff.1 hz with rfl | ⟨d2, hO2⟩
    · exact Nat.zero_le _
    · have := hO2.lvs; have := hO2.hn; have := two_succ d2; omega
  have hLN : lvs n ≤ 2 ^ d' := by omega
  have hnlt : ∀ j, j < lvs n → 2 * j < n := fun j hj => (lvs_lt hj).1
  -- the padded tree's members
  have hpadL : memL (pad n F) (2 ^ d') = memL F (lvs n) := by
    rw [memL_more (L := lvs n) hLN (fun j h1 _ => by unfold pad; rw [if_neg (by omega)]; decide)]
    exact memL_congr fun j hj => by unfold pad; rw [if_pos (hnlt j hj)]
  have hpadi : ¬ 0 < (pad n F (2 * fb F (lvs n))).pub := by
    unfold pad
    by_cases hlt : fb F (lvs n) < lvs n
    · rw [if_pos (hnlt _ hlt)]; exact fb_neg hlt
    · rw [if_neg (by omega)]; decide
  have hmem : ∀ j, j ≠ fb F (lvs n) → 0 < (pad n F (2 * j)).pub → (pad n F (2 * j)).mem ≠ a.mem := fun j hj hpj => by
    unfold pad at hpj ⊢
    by_cases hjn : 2 * j < n
    · rw [if_pos hjn] at hpj ⊢
      rw [hL] at hf
      exact findM_no hf (by omega) hpj
    · rw [if_neg hjn] at hpj; exact absurd hpj (by decide)
  have hfnd : findM (addF n F d' (fb F (lvs n)) a) a.mem (2 ^ d') = (fb F (lvs n) : Nat) := by
    refine findM_hit (findM_none fun j hj hpj => ?_) (by rw [hleaf, if_pos rfl]; show 0 < a.pub; omega) (by rw [hleaf, if_pos rfl]) hat
    rw [hleaf, if_neg (by omega)] at hpj ⊢
    exact hmem j (by omega) hpj
  have hlen : (memL (addF n F d' (fb F (lvs n)) a) (2 ^ d')).length = (memL F (lvs n)).length + 1 := by
    rw [memL_add (F := pad n F) hat (fun j _ hne => by rw [hleaf, if_neg hne]) hpadi (by rw [hleaf, if_pos rfl]; show 0 < a.pub; omega), hpadL]
  have hz2 : chk (2 * 2 ^ d' - 1) (addF n F d' (fb F (lvs n)) a) = true := chk_iff.2 (.inr ⟨d', hO⟩)
  refine ⟨hz2, by rw [hs]; exact hfnd, by rw [hs, hL]; exact hlen, fun hr => ?_, fun d2 j hO2 hfj hj => ?_⟩
  · rw [hL]
    unfold remE at hr
    rw [hz2, hs, hfnd, hlen, if_neg (by decide), if_neg (by omega)] at hr
    by_cases h0 : (memL F (lvs n)).length + 1 = 1
    · omega
    · rw [if_neg h0] at hr; exact absurd rfl hr
  · have e2 : 2 ^ d2 = 2 ^ d' := (sizeM_ok hO2).symm.trans hs
    rw [hs, hfnd] at hfj
    obtain rfl : fb F (lvs n) = j := by omega
    have hd2 := hO2.hd
    rw [hL, ← hpadL, ← e2]
    rw [← memL_more (L := 2 ^ cut (blankF (addF n F d' (fb F (lvs n)) a) d2 (fb F (lvs n))) d2) (N := 2 ^ d2) (Nat.pow_le_pow_right (by decide) (cut_le _ _)) (fun j h1 h2 => blank_pub (cut_off h1 h2))]
    refine memL_same fun j hj2 => ?_
    rw [blankF_leaf hd2 hj]
    by_cases e : j = fb F (lvs n)
    · rw [if_pos e, e]
      exact ⟨⟨fun hc => absurd hc (by decide), fun hc => absurd hc hpadi⟩, fun hc => absurd hc hpadi⟩
    · rw [if_neg e, hleaf, if_neg e]
      exact ⟨Iff.rfl, fun _ => rfl⟩
/-- Behind a Remove. -/
structure StaysR (n : Nat) (F : Nat → Node) (m : Int) (n' : Nat) (G : Nat → Node) : Prop where
  ok : chk n' G = true
  fnd : findM G m (sizeM n' G) < 0
  len : (memL G (sizeM n' G)).length + 1 = (memL F (sizeM n F)).length
  small : n' ≤ 15
theorem staysR {d n i : Nat} {F : Nat → Node} {m : Int} (hO : Ok d n F) (hi : i < 2 ^ d) (hp : 0 < (F (2 * i)).pub) (hm : (F (2 * i)).mem = m) (hj : ∃ j, j < 2 ^ d ∧ j ≠ i ∧ (F (2 * j)).blank = false) :
    StaysR n F m (2 ^ (cut (blankF F d i) d + 1) - 1) (blankF F d i) := by
  have hR := rem_ok hO hi hj
  have hd := hO.hd
  have hs := sizeM_ok hR
  have hle := cut_le (blankF F d i) d
  have hpl : 2 ^ cut (blankF F d i) d ≤ 2 ^ d := Nat.pow_le_pow_right (by decide) hle
  refine ⟨chk_iff.2 (.inr ⟨_, hR⟩), ?_, ?_, hR.n_le⟩
  · rw [hs, findM_none fun j hj hpj => ?_]
    · decide
    · rw [blankF_leaf hd hi] at hpj ⊢
      by_cases e : j = i
      · rw [if_pos e] at hpj; exact absurd hpj (by decide)
      · rw [if_neg e] at hpj ⊢
        rw [← hm]
        have b1 := (hO.pub_blank (i := j) (by omega)).1 hpj
        have b2 := (hO.pub_blank hi).1 hp
        by_cases hlt : j < i
        · exact hO.dist j i hlt hi b1 b2
        · exact fun e2 => hO.dist i j (by omega) (by omega) b2 b1 e2.symm
  · rw [hs, sizeM_ok hO]
    rw [← memL_more (L := 2 ^ cut (blankF F d i) d) (N := 2 ^ d) hpl (fun j h1 h2 => blank_pub (cut_off h1 h2))]
    exact (memL_add (F := blankF F d i) (G := F) hi (fun j _ hne => by rw [blankF_leaf hd hi, if_neg hne]) (by rw [blankF_leaf hd hi, if_pos rfl]; decide) hp).symm
/-- Behind a SetPath. -/
structure StaysS (n : Nat) (F G : Nat → Node) (pl : List Nat) : Prop where
  ok : chk n G = true
  mem : memL G (sizeM n G) = memL F (sizeM n F)
  res : ∀ x ∈ pl, resE n G x = 0 ∧ resL n G x = [(x : Int)]
theorem setF_leaf {F : Nat → Node} {d i j : Nat} {ep pub : Int} {ps : List (Nat × Int)} (hd : d ≤ 3) (hi : i < 2 ^ d) (hps : ∀ p ∈ ps, p.1 ∈ dirs d i) :
    setF F d i ep pub ps (2 * j) = if j = i then { F (2 * j) with ep := ep, pub := pub } else F (2 * j) := by
  unfold setF
  by_cases e : j = i
  · rw [if_pos (by rw [e]), if_pos e]
  · rw [if_neg e, if_neg (by omega)]
    have h1 : ps.find? (fun p => p.1 == 2 * j) = none := List.find?_eq_none.2 fun p hp => by
      have := (dirs_odd hd hi (hps p hp)).1
      simp only [beq_iff_eq]
      omega
    rw [h1]
    show (if 2 * j ∈ dirs d i then zeroN else F (2 * j)) = F (2 * j)
    rw [if_neg fun h => by have := (dirs_odd hd hi h).1; omega]
theorem setF_on {F : Nat → Node} {d i x : Nat} {ep pub : Int} {ps : List (Nat × Int)} (hx : x ∈ ps.map (·.1)) (hne : x ≠ 2 * i) : ∃ q, (x, q) ∈ ps ∧ setF F d i ep pub ps x = ⟨q, 0, 0, []⟩ := by
  unfold setF
  rw [if_neg hne]
  cases hf : ps.find? (fun p => p.1 == x) with
  | none =>
    obtain ⟨p, hp, rfl⟩ := List.mem_map.1 hx
    have := List.find?_eq_none.1 hf p hp
    simp at this
  | some p =>
    have h1 := List.find?_some hf
    have h2 := List.mem_of_find?_eq_some hf
    obtain ⟨y, q⟩ := p
    obtain rfl : y = x := by simpa using h1
    exact ⟨q, h2, rfl⟩
theorem setF_off {F : Nat → Node} {d i x : Nat} {ep pub : Int} {ps : List (Nat × Int)} (hx : ¬ x ∈ ps.map (·.1)) (hne : x ≠ 2 * i) : setF F d i ep pub ps x = if x ∈ dirs d i then zeroN else F x := by
  unfold setF
  rw [if_neg hne]
  have h1 : ps.find? (fun p => p.1 == x) = none := List.find?_eq_none.2 fun p hp => by
    simp only [beq_iff_eq]
    exact fun e => hx (List.mem_map.2 ⟨p, hp, e⟩)
  rw [h1]
theorem staysS {d n i : Nat} {F : Nat → Node} {ep pub : Int} {ps : List (Nat × Int)} (hO : Ok d n F) (hi : i < 2 ^ d) (hp : 1 ≤ (F (2 * i)).pub) (hep : 0 ≤ ep) (hpub : 1 ≤ pub) (hps : ∀ p ∈ ps, p.1 ∈ dirs d i) (hq : ∀ p ∈ ps, 1 ≤ p.2) :
    StaysS n F (setF F d i ep pub ps) (ps.map (·.1)) := by
  have hd := hO.hd
  have hn := hO.hn
  have h2 := two_succ d
  have hleaf := fun j => setF_leaf (F := F) (j := j) (ep := ep) (pub := pub) hd hi hps
  have hbi : (F (2 * i)).blank = false := (hO.pub_blank hi).1 (by omega)
  obtain ⟨_, lm, le, lu⟩ : 1 ≤ (F (2 * i)).pub ∧ 0 ≤ (F (2 * i)).mem ∧ 0 ≤ (F (2 * i)).ep ∧ (F (2 * i)).un = [] := by
    rcases hO.leaf i hi with h1 | h1
    · rw [h1] at hbi; cases hbi
    · exact h1
  have hbl : ∀ j, (setF F d i ep pub ps (2 * j)).blank = (F (2 * j)).blank := fun j => by
    rw [hleaf]
    by_cases e : j = i
    · rw [if_pos e, e, hbi]
      have : (pub == 0) = false := by rw [beq_eq_false_iff_ne]; omega
      simp [Node.blank, this]
    · rw [if_neg e]
  have hmm : ∀ j, (setF F d i ep pub ps (2 * j)).mem = (F (2 * j)).mem := fun j => by
    rw [hleaf]; split <;> rfl
  have hG : Ok d n (setF F d i ep pub ps) := by
    refine ⟨hd, hn, fun x hx ho => ?_, fun j hj => ?_, fun j k hjk hk bj bk => ?_, ?_⟩
    · by_cases hx1 : x ∈ ps.map (·.1)
      · obtain ⟨q, h3, h4⟩ := setF_on (F := F) (d := d) (ep := ep) (pub := pub) hx1 (show x ≠ 2 * i by omega)
        rw [h4]
        exact .inr ⟨hq _ h3, rfl, rfl, (fun u hu => by cases hu), List.Pairwise.nil⟩
      · rw [setF_off hx1 (by omega)]
        by_cases hx2 : x ∈ dirs d i
        · rw [if_pos hx2]; exact .inl rfl
        · rw [if_neg hx2]
          rcases hO.par x hx ho with h1 | ⟨h1, h2, h3, h4, h5⟩
          · exact .inl h1
          · refine .inr ⟨h1, h2, h3, fun u hu => ?_, h5⟩
            obtain ⟨u1, u2, u3⟩ := h4 u hu
            obtain ⟨v, rfl⟩ : ∃ v : Nat, u = v := ⟨u.toNat, by omega⟩
            refine ⟨u1, u2, ?_⟩
            have e2 : (2 * (v : Int)).toNat = 2 * v := by omega
            rw [e2] at u3 ⊢
            rw [hleaf]
            by_cases e : v = i
            · rw [if_pos e]; show pub ≠ 0; omega
            · rw [if_neg e]; exact u3
    · rw [hleaf]
      by_cases e : j = i
      · rw [if_pos e, e]
        exact .inr ⟨hpub, lm, hep, lu⟩
      · rw [if_neg e]; exact hO.leaf j hj
    · rw [hmm, hmm]
      rw [hbl] at bj bk
      exact hO.dist j k hjk hk bj bk
    · obtain ⟨j, h1, h2, h3⟩ := hO.last
      exact ⟨j, h1, h2, by rw [hbl]; exact h3⟩
  refine ⟨chk_iff.2 (.inr ⟨d, hG⟩), ?_, fun x hx => ?_⟩
  · rw [sizeM_ok hG, sizeM_ok hO]
    refine memL_same fun j hj => ⟨?_, fun _ => hmm j⟩
    rw [hO.pub_blank hj, hG.pub_blank hj, hbl]
  · have hxd : x ∈ dirs d i := by
      obtain ⟨p, hp, rfl⟩ := List.mem_map.1 hx
      exact hps p hp
    have hxo := dirs_odd hd hi hxd
    have hxn : x < n := by omega
    have hE := resE_ok hG hxn
    refine ⟨hE, ?_⟩
    unfold resL
    rw [if_pos hE, Int.toNat_natCast]
    obtain ⟨q, h3, h4⟩ := setF_on (F := F) (d := d) (ep := ep) (pub := pub) hx (show x ≠ 2 * i by omega)
    have hq1 := hq _ h3
    cases hk : lvN x with
    | zero => unfold resM; rw [h4, if_pos (show 0 < q by show 0 < (x, q).2; omega)]; rfl
    | succ k => unfold resM; rw [h4, if_pos (show 0 < q by show 0 < (x, q).2; omega)]; rfl
end Go.Proofs.YtopkanokpfhmmaaDoor
