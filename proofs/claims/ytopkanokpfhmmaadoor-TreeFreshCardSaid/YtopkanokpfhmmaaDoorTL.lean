/- Plain laws of Add and Remove: what they make may be. No program is walked here. -/
import Derived.Test.YtopkanokpfhmmaaDoorTU
import Derived.Test.YtopkanokpfhmmaaDoorTH
import Derived.Test.YtopkanokpfhmmaaDoorUB
namespace Go.Proofs.YtopkanokpfhmmaaDoor
set_option linter.unusedVariables false
set_option linter.unusedSimpArgs false

set_option maxRecDepth 100000 in
theorem dirs_fin : ∀ d : Fin 4, ∀ i : Fin 8, ∀ y : Fin 16, i.val < 2 ^ d.val → (y.val ∈ dirs d.val i.val ↔ (y.val < 2 ^ (d.val + 1) - 1 ∧ y.val % 2 = 1 ∧ lo y.val ≤ i.val ∧ i.val ≤ hi y.val)) := by decide +kernel
theorem pow3 {d : Nat} (hd : d ≤ 3) : 2 ^ d ≤ 8 ∧ 2 ^ (d + 1) ≤ 16 :=
  ⟨(Nat.pow_le_pow_right (by decide) hd : 2 ^ d ≤ 2 ^ 3), (Nat.pow_le_pow_right (by decide) (by omega) : 2 ^ (d + 1) ≤ 2 ^ 4)⟩
theorem dirs_iff {d i y : Nat} (hd : d ≤ 3) (hil : i < 2 ^ d) (hy : y < 2 ^ (d + 1) - 1) : y ∈ dirs d i ↔ (y % 2 = 1 ∧ lo y ≤ i ∧ i ≤ hi y) := by
  have hp := pow3 hd
  have := dirs_fin ⟨d, by omega⟩ ⟨i, by omega⟩ ⟨y, by omega⟩ hil
  simp only at this
  rw [this]
  exact ⟨fun h => h.2, fun h => ⟨hy, h⟩⟩
theorem dirs_odd {d i y : Nat} (hd : d ≤ 3) (hi : i < 2 ^ d) (h : y ∈ dirs d i) : y % 2 = 1 ∧ y < 2 ^ (d + 1) - 1 := by
  obtain ⟨k, hk⟩ := List.mem_iff_getElem?.1 h
  have hkd : k < d := by have := (List.getElem?_eq_some_iff.1 hk).1; rw [dirs_length] at this; exact this
  obtain ⟨x, hx, h1, h2, -, -⟩ := dirs_at hd hi hkd
  obtain rfl : y = x := Option.some.inj (hk.symm.trans hx)
  exact ⟨h2, h1⟩
theorem mem_ins {t u : Int} : ∀ {l : List Int}, u ∈ ins t l ↔ u = t ∨ u ∈ l
  | [] => by simp [ins]
  | x :: xs => by
    unfold ins
    split
    · rw [List.mem_cons, mem_ins, List.mem_cons]
      constructor
      · rintro (h | h | h)
        · exact .inr (.inl h)
        · exact .inl h
        · exact .inr (.inr h)
      · rintro (h | h | h)
        · exact .inr (.inl h)
        · exact .inl h
        · exact .inr (.inr h)
    · rw [List.mem_cons]
theorem ins_sorted {t : Int} : ∀ {l : List Int}, l.Pairwise (· < ·) → t ∉ l → (ins t l).Pairwise (· < ·)
  | [], _, _ => by simp [ins]
  | x :: xs, h, hn => by
    have h2 := List.pairwise_cons.1 h
    have hnx : t ≠ x ∧ t ∉ xs := by simpa using hn
    unfold ins
    split
    · rw [List.pairwise_cons]
      refine ⟨fun u hu => ?_, ins_sorted h2.2 hnx.2⟩
      rcases mem_ins.1 hu with rfl | hu
      · assumption
      · exact h2.1 u hu
    · rw [List.pairwise_cons]
      refine ⟨fun u hu => ?_, h⟩
      rcases List.mem_cons.1 hu with rfl | hu
      · omega
      · have := h2.1 u hu
        omega
theorem fb_pos {F : Nat → Node} : ∀ {n i : Nat}, i < fb F n → 0 < (F (2 * i)).pub
  | 0, i, h => by simp [fb] at h
  | n + 1, i, h => by
    have hle := fb_le F n
    rw [fb] at h
    split at h
    · exact fb_pos h
    · rename_i hf
      have e : fb F n = n := by omega
      by_cases e2 : i = n
      · subst e2
        split at h
        · assumption
        · omega
      · exact fb_pos (by
          rw [e]
          split at h <;> omega)
theorem fb_neg {F : Nat → Node} : ∀ {n : Nat}, fb F n < n → ¬ 0 < (F (2 * fb F n)).pub
  | 0, h => by omega
  | n + 1, h => by
    have hle := fb_le F n
    rw [fb] at h ⊢
    split
    · exact fb_neg (by assumption)
    · rename_i hf
      have e : fb F n = n := by omega
      split
      · rename_i h2
        rw [if_neg hf, if_pos h2] at h
        omega
      · rename_i h2
        exact h2
theorem findM_no {F : Nat → Node} {m : Int} : ∀ {n i : Nat}, findM F m n < 0 → i < n → 0 < (F (2 * i)).pub → (F (2 * i)).mem ≠ m
  | 0, i, _, hi, _ => by omega
  | n + 1, i, h, hi, hp => by
    intro e
    have hr := findM_range F m n
    by_cases e2 : i = n
    · subst e2
      unfold findM at h
      split at h
      · omega
      · rename_i h3
        rw [if_pos ⟨hp, e⟩] at h
        omega
    · refine findM_no (n := n) (i := i) ?_ (by omega) hp e
      unfold findM at h
      split at h
      · exact h
      · omega
theorem memL_count {F : Nat → Node} : ∀ n, (memL F n).length = n ↔ ∀ i, i < n → 0 < (F (2 * i)).pub
  | 0 => by simp [memL]
  | n + 1 => by
    have ih := memL_count (F := F) n
    have hl := memL_length F n
    unfold memL
    by_cases h : 0 < (F (2 * n)).pub
    · rw [if_pos h, List.length_append, List.length_singleton]
      constructor
      · intro h1 i hi
        by_cases e : i = n
        · rw [e]; exact h
        · exact ih.1 (by omega) i (by omega)
      · intro h1
        rw [ih.2 (fun i hi => h1 i (by omega))]
    · rw [if_neg h]
      constructor
      · intro h1; omega
      · intro h1; exact absurd (h1 n (by omega)) h
theorem fb_full {F : Nat → Node} {n : Nat} : fb F n = n ↔ ∀ i, i < n → 0 < (F (2 * i)).pub := by
  have hle := fb_le F n
  constructor
  · intro h i hi
    exact fb_pos (by rw [h]; exact hi)
  · intro h
    by_cases e : fb F n = n
    · exact e
    · exact absurd (h (fb F n) (by omega)) (fb_neg (by omega))
theorem Ok.pub_blank {d n : Nat} {F : Nat → Node} (h : Ok d n F) {i : Nat} (hi : i < 2 ^ d) : 0 < (F (2 * i)).pub ↔ (F (2 * i)).blank = false := by
  rcases h.leaf i hi with h1 | h1
  · rw [h1, Node.blank_iff.1 h1]
    simp [zeroN]
  · have : (F (2 * i)).blank = false := by
      cases hb : (F (2 * i)).blank with
      | false => rfl
      | true =>
        rw [Node.blank_iff.1 hb] at h1
        exact absurd h1.1 (by decide)
    rw [this]
    simp
    omega
/-- What stands behind an Add that was done. -/
theorem add_facts {n : Nat} {F : Nat → Node} {a : Addx} (h : addE n F a = 0) : ∃ d, d ≤ 3 ∧ addN n F = 2 ^ d ∧ lg (addN n F) = d ∧ fb F (lvs n) < 2 ^ d ∧ n ≤ 2 ^ (d + 1) - 1 ∧
    ((fb F (lvs n) = lvs n ∧ 2 ^ d / 2 ≤ lvs n ∧ lvs n < 2 ^ d) ∨ (fb F (lvs n) < lvs n ∧ lvs n = 2 ^ d)) := by
  obtain ⟨hz, -, -, -, -, hok⟩ := chk_false_add h
  rcases chk_iff.1 hz with rfl | ⟨d, hO⟩
  · exact ⟨0, by decide, rfl, rfl, by show 0 < 1; decide, by decide, .inl ⟨rfl, by decide, by decide⟩⟩
  · have hl := hO.lvs
    have hle := fb_le F (lvs n)
    have hd := hO.hd
    have hn := hO.hn
    have h2 := two_pos d
    have h3 := two_succ d
    have h4 := two_succ (d + 1)
    unfold addN
    by_cases hf : fb F (lvs n) = lvs n
    · have hd3 : d ≠ 3 := fun e => hok ⟨hf, by rw [hl, e]⟩
      have e1 : max 1 (2 * lvs n) = 2 ^ (d + 1) := by omega
      rw [if_pos hf, e1]
      exact ⟨d + 1, by omega, rfl, lg_pow (by omega), by omega, by omega, .inl ⟨hf, by omega, by omega⟩⟩
    · rw [if_neg hf]
      exact ⟨d, hd, hl, by rw [hl]; exact lg_pow hd, by omega, by omega, .inr ⟨by omega, hl⟩⟩
/-- Of a padded tree that may be. -/
theorem pad_leaf {n : Nat} {F : Nat → Node} (hz : chk n F = true) (i : Nat) : (pad n F (2 * i)).blank = true ∨ (1 ≤ (pad n F (2 * i)).pub ∧ 0 ≤ (pad n F (2 * i)).mem ∧ 0 ≤ (pad n F (2 * i)).ep ∧ (pad n F (2 * i)).un = []) := by
  unfold pad
  by_cases h : 2 * i < n
  · rw [if_pos h]
    rcases chk_iff.1 hz with rfl | ⟨d, hO⟩
    · omega
    · exact hO.leaf i (by have := hO.hn; have := two_succ d; omega)
  · rw [if_neg h]
    exact .inl rfl
theorem pad_par {n : Nat} {F : Nat → Node} (hz : chk n F = true) {x : Nat} (hx : x % 2 = 1) : (pad n F x).blank = true ∨ (x < n ∧ 1 ≤ (pad n F x).pub ∧ (pad n F x).mem = 0 ∧ (pad n F x).ep = 0 ∧ (∀ u ∈ (pad n F x).un, (lo x : Int) ≤ u ∧ u ≤ hi x ∧ (pad n F (2 * u).toNat).pub ≠ 0) ∧ (pad n F x).un.Pairwise (· < ·)) := by
  by_cases h : x < n
  · rcases chk_iff.1 hz with rfl | ⟨d, hO⟩
    · omega
    · have e : pad n F x = F x := by unfold pad; rw [if_pos h]
      rw [e]
      rcases hO.par x h hx with h1 | ⟨h1, h2, h3, h4, h5⟩
      · exact .inl h1
      · refine .inr ⟨h, h1, h2, h3, fun u hu => ?_, h5⟩
        obtain ⟨g1, g2, g3⟩ := h4 u hu
        have := hi2 hO.lvs_ne h
        refine ⟨g1, g2, ?_⟩
        unfold pad
        rw [if_pos (by omega)]
        exact g3
  · unfold pad
    rw [if_neg h]
    exact .inl rfl
/-- A tree with one more may be. -/
theorem add_ok {n : Nat} {F : Nat → Node} {a : Addx} (h : addE n F a = 0) : ∃ d, lg (addN n F) = d ∧ addN n F = 2 ^ d ∧ Ok d (2 * addN n F - 1) (addF n F d (fb F (lvs n)) a) := by
  obtain ⟨d, hd, hN, hlg, hat, hn, hcase⟩ := add_facts h
  obtain ⟨hz, hm, he, hp, hf, -⟩ := chk_false_add h
  have h3 := two_succ d
  have h2 := two_pos d
  refine ⟨d, hlg, hN, ?_⟩
  rw [hN]
  obtain ⟨i, hi⟩ : ∃ i, i = fb F (lvs n) := ⟨_, rfl⟩
  rw [← hi] at hat hcase ⊢
  -- the leaf that was blank
  have hblank : (pad n F (2 * i)).blank = true := by
    rcases pad_leaf hz i with h1 | h1
    · exact h1
    · rcases hcase with ⟨e1, -, -⟩ | ⟨e1, -⟩
      · unfold pad at h1 ⊢
        have hni : ¬ 2 * i < n := by
          rcases chk_iff.1 hz with rfl | ⟨d', hO⟩
          · omega
          · have := hO.lvs; have := hO.hn; have := two_succ d'; omega
        rw [if_neg hni]
        rfl
      · have := fb_neg (F := F) (n := lvs n) (by rw [← hi]; exact e1)
        rw [← hi] at this
        unfold pad at h1
        split at h1
        · omega
        · exact absurd h1.1 (by decide)
  have hpad0 : pad n F (2 * i) = zeroN := Node.blank_iff.1 hblank
  have hG : ∀ j, addF n F d i a (2 * j) = if j = i then ⟨a.pub, a.mem, a.ep, []⟩ else pad n F (2 * j) := fun j => by
    unfold addF
    by_cases e : j = i
    · subst e; simp
    · rw [if_neg (by omega), if_neg (fun hh => by have := (dirs_odd hd hat hh.1).1; omega), if_neg e]
  refine ⟨hd, by omega, fun x hx ho => ?_, fun j hj => ?_, fun j k hjk hk bj bk => ?_, ?_⟩
  · have hx2 : x ≠ 2 * i := by omega
    have hxn : x < 2 ^ (d + 1) - 1 := by omega
    rcases pad_par hz ho with h1 | ⟨h0, h1, h4, h5, h6, h7⟩
    · have e : addF n F d i a x = pad n F x := by
        unfold addF
        rw [if_neg hx2, if_neg]
        rw [Node.blank_iff.1 h1]
        rintro ⟨-, hh⟩
        exact absurd hh (by decide)
      rw [e]
      exact .inl h1
    · have hpub : ∀ u : Int, 0 ≤ u → (pad n F (2 * u).toNat).pub ≠ 0 → (addF n F d i a (2 * u).toNat).pub ≠ 0 := fun u hu hne => by
        obtain ⟨j, rfl⟩ : ∃ j : Nat, u = j := ⟨u.toNat, by omega⟩
        rw [show (2 * (j : Int)).toNat = 2 * j by omega] at hne ⊢
        rw [hG]
        split
        · show a.pub ≠ 0; omega
        · exact hne
      right
      by_cases hxd : x ∈ dirs d i
      · have e : addF n F d i a x = { pad n F x with un := ins i (pad n F x).un } := by
          unfold addF
          rw [if_neg hx2, if_pos ⟨hxd, by omega⟩]
        rw [e]
        obtain ⟨-, l1, l2⟩ := (dirs_iff hd hat hxn).1 hxd
        refine ⟨h1, h4, h5, fun u hu => ?_, ins_sorted h7 (fun hm2 => ?_)⟩
        · rcases mem_ins.1 hu with rfl | hu
          · refine ⟨by omega, by omega, ?_⟩
            rw [show (2 * (i : Int)).toNat = 2 * i by omega, hG, if_pos rfl]
            show a.pub ≠ 0
            omega
          · obtain ⟨g1, g2, g3⟩ := h6 u hu
            exact ⟨g1, g2, hpub u (by omega) g3⟩
        · have := (h6 _ hm2).2.2
          rw [show (2 * (i : Int)).toNat = 2 * i by omega, hpad0] at this
          exact this rfl
      · have e : addF n F d i a x = pad n F x := by
          unfold addF
          rw [if_neg hx2, if_neg (fun hh => hxd hh.1)]
        rw [e]
        refine ⟨h1, h4, h5, fun u hu => ?_, h7⟩
        obtain ⟨g1, g2, g3⟩ := h6 u hu
        exact ⟨g1, g2, hpub u (by omega) g3⟩
  · rw [hG]
    split
    · exact .inr ⟨hp, hm, he, rfl⟩
    · exact pad_leaf hz j
  · have hmem : ∀ j, j ≠ i → (pad n F (2 * j)).blank = false → (pad n F (2 * j)).mem ≠ a.mem := fun j _ hb => by
      have hjn : 2 * j < n := by
        by_cases hh : 2 * j < n
        · exact hh
        · unfold pad at hb
          rw [if_neg hh] at hb
          cases hb
      rcases chk_iff.1 hz with rfl | ⟨d', hO⟩
      · omega
      · have hl := hO.lvs
        have hjl : j < 2 ^ d' := by have := hO.hn; have := two_succ d'; omega
        have hs : sizeM n F = 2 ^ d' := by unfold sizeM; rw [hz, if_pos rfl, hl]
        unfold pad at hb ⊢
        rw [if_pos hjn] at hb ⊢
        rw [hs] at hf
        exact findM_no hf hjl ((hO.pub_blank hjl).2 hb)
    rw [hG] at bj bk ⊢
    rw [hG]
    by_cases ej : j = i
    · rw [if_pos ej]
      have ek : k ≠ i := by omega
      rw [if_neg ek] at bk ⊢
      exact fun e => hmem k ek bk e.symm
    · rw [if_neg ej] at bj ⊢
      by_cases ek : k = i
      · rw [if_pos ek]
        exact hmem j ej bj
      · rw [if_neg ek] at bk ⊢
        have hkn : 2 * k < n := by
          by_cases hh : 2 * k < n
          · exact hh
          · unfold pad at bk
            rw [if_neg hh] at bk
            cases bk
        rcases chk_iff.1 hz with rfl | ⟨d', hO⟩
        · omega
        · unfold pad at bj bk ⊢
          rw [if_pos (by omega)] at bj ⊢
          rw [if_pos hkn] at bk ⊢
          exact hO.dist j k hjk (by have := hO.hn; have := two_succ d'; omega) bj bk
  · rcases hcase with ⟨e1, e2, e3⟩ | ⟨e1, e2⟩
    · refine ⟨i, by omega, hat, ?_⟩
      rw [hG, if_pos rfl]
      cases hb : (⟨a.pub, a.mem, a.ep, []⟩ : Node).blank with
      | false => rfl
      | true =>
        have := Node.blank_iff.1 hb
        injection this with h1
        omega
    · rcases chk_iff.1 hz with rfl | ⟨d', hO⟩
      · have e0 : lvs 0 = 0 := rfl
        omega
      · have hl := hO.lvs
        obtain ⟨j, j1, j2, j3⟩ := hO.last
        have hdd : 2 ^ d' = 2 ^ d := by omega
        have hjn : 2 * j < n := by have := hO.hn; have := two_succ d'; omega
        refine ⟨j, by omega, by omega, ?_⟩
        rw [hG]
        have hji : j ≠ i := fun e => by
          subst e
          unfold pad at hblank
          rw [if_pos hjn, j3] at hblank
          cases hblank
        rw [if_neg hji]
        unfold pad
        rw [if_pos hjn]
        exact j3
end Go.Proofs.YtopkanokpfhmmaaDoor
