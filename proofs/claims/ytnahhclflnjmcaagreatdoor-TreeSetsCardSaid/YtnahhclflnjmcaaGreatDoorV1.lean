import Derived.Test.YtnahhclflnjmcaaGreatDoorA7
import Derived.Test.YtnahhclflnjmcaaGreatDoorA4
import Derived.Test.YtnahhclflnjmcaaGreatDoorA5
/- SameNode; names. -/
namespace Go.Proofs.YtnahhclflnjmcaaGreatDoor
open Go Go.RowKit
set_option linter.unusedVariables false
set_option linter.unusedSimpArgs false
set_option maxRecDepth 100000

def sameN (a b : Node) : Bool := a.pub == b.pub && (a.mem == b.mem && (a.ep == b.ep && sameB a.un b.un))
theorem sameN_self (a : Node) : sameN a a = true := by simp [sameN, sameB]
set_option maxHeartbeats 2000000 in
set_option maxRecDepth 100000 in
theorem same21 (a b : Node) (A B : Option Addr) (c c' : Nat) (w : World) (ha : Ints w (.slice A a.un.length c) a.un) (hb : Ints w (.slice B b.un.length c') b.un) :
    Calls Tryz.prog 255 #[.agg #[.int .i64 a.pub, .int .i64 a.mem, .int .i64 a.ep, .slice A a.un.length c], .agg #[.int .i64 b.pub, .int .i64 b.mem, .int .i64 b.ep, .slice B b.un.length c']] w
      fun e w' => e = .returned (.bool (sameN a b)) ∧ Below w.heap.size w w' := by
  have hbw : Below w.heap.size w ((w.alloc (.cells #[.int .i64 a.pub, .int .i64 a.mem, .int .i64 a.ep, .slice A a.un.length c] 95)).alloc (.cells #[.int .i64 b.pub, .int .i64 b.mem, .int .i64 b.ep, .slice B b.un.length c'] 95)) := ((Below.refl _ _).alloc (Nat.le_refl _) _).alloc (by simp) _
  have hs := same _ _ a.un b.un _ (ha.below hbw) (hb.below hbw)
  have HB := Lib.hid hbw
  unfold sameN
  cases e1 : (a.pub == b.pub) with
  | false =>
    go_enter Tryz.func255, Tryz.ntmps255
    go_wp2_with fail
    go_ret
    exact ⟨rfl, HB.out⟩
  | true =>
    cases e2 : (a.mem == b.mem) with
    | false =>
      go_enter Tryz.func255, Tryz.ntmps255
      go_wp2_with fail
      go_ret
      exact ⟨rfl, HB.out⟩
    | true =>
      cases e3 : (a.ep == b.ep) with
      | false =>
        go_enter Tryz.func255, Tryz.ntmps255
        go_wp2_with fail
        go_ret
        exact ⟨rfl, HB.out⟩
      | true =>
        generalize sameB a.un b.un = z at *
        go_enter Tryz.func255, Tryz.ntmps255
        go_wp2_with fail
        refine hs.mono ?_
        rintro e w' ⟨rfl, nd, rfl⟩
        go_wp2_with fail
        go_ret
        exact ⟨by simp, Below.quiet HB.out _⟩
/-- How often a node of a list names a leaf. -/
def nm1 (F : Nat → Node) (i : Nat) (x : Int) : Nat := if x = 2 * (i : Int) then 1 else if x % 2 = 1 ∧ wi i x.toNat = true ∧ (F x.toNat).un.contains (i : Int) = false then 1 else 0
def nmL (F : Nat → Node) (i : Nat) (l : List Int) : Nat := (l.map (nm1 F i)).foldl (· + ·) 0
theorem wi_iff {i x : Nat} (hi : i < 8) (hx : x < 31) (w : World) : Calls Tryz.prog 265 #[.int .i64 (2 * (i : Int)), .int .i64 x] w fun e w' => e = .returned (.bool (wi i x)) ∧ w = w' := by
  have hN : Nd (2 * i) 0 i := by unfold Nd; simp
  have hM := nd_lv hx
  have hk : lvN x ≤ 62 := by have := hM.level_lt (n := 5) (by omega); omega
  have := rwithin_yes (2 * i) 0 i x (lvN x) _ hN hM (by omega) (by omega) hk w
  rw [show ((2 * i : Nat) : Int) = 2 * (i : Int) by omega] at this
  have e : decide (0 ≤ lvN x ∧ anc (2 * i) (lvN x) = x) = wi i x := by
    unfold wi
    rw [Bool.eq_iff_iff, decide_eq_true_eq, beq_iff_eq]
    simp
  rw [e] at this
  exact this
end Go.Proofs.YtnahhclflnjmcaaGreatDoor

/- Plain laws of Add and Remove: what they make may be. No program is walked here. -/
namespace Go.Proofs.YtnahhclflnjmcaaGreatDoor
set_option linter.unusedVariables false
set_option linter.unusedSimpArgs false
set_option maxRecDepth 100000

set_option maxRecDepth 100000 in
theorem dirs_fin : ∀ d : Fin 4, ∀ i : Fin 8, ∀ y : Fin 16, i.val < 2 ^ d.val → (y.val ∈ dirs d.val i.val ↔ (y.val < 2 ^ (d.val + 1) - 1 ∧ y.val % 2 = 1 ∧ lo y.val ≤ i.val ∧ i.val ≤ hi y.val)) := by decide +kernel
theorem pow3 {d : Nat} (hd : d ≤ 3) : 2 ^ d ≤ 8 ∧ 2 ^ (d + 1) ≤ 16 :=
  ⟨(Nat.pow_le_pow_right (by decide) hd : 2 ^ d ≤ 2 ^ 3), (Nat.pow_le_pow_right (by decide) (by omega) : 2 ^ (d + 1) ≤ 2 ^ 4)⟩
theorem dirs_iff {d i y : Nat} (hd : d ≤ 3) (hil : i < 2 ^ d) (hy : y < 2 ^ (d + 1) - 1) : y ∈ dirs d i ↔ (y % 2 = 1 ∧ lo y ≤ i ∧ i ≤ hi y) := by
  have hp := pow3 hd
  have := dirs_fin ⟨d, by omega⟩ ⟨i, by omega⟩ ⟨y, by omega⟩ hil
  simp only at this
  rw [this]
  exact ⟨fun h => h.2, fun h => ⟨hy, h⟩⟩
theorem dirs_odd {d i y : Nat} (hd : d ≤ 3) (hi : i < 2 ^ d) (h : y ∈ dirs d i) : y % 2 = 1 ∧ y < 2 ^ (d + 1) - 1 := by
  obtain ⟨k, hk⟩ := List.mem_iff_getElem?.1 h
  have hkd : k < d := by have := (List.getElem?_eq_some_iff.1 hk).1; rw [dirs_length] at this; exact this
  obtain ⟨x, hx, h1, h2, -, -⟩ := dirs_at hd hi hkd
  obtain rfl : y = x := Option.some.inj (hk.symm.trans hx)
  exact ⟨h2, h1⟩
theorem mem_ins {t u : Int} : ∀ {l : List Int}, u ∈ ins t l ↔ u = t ∨ u ∈ l
  | [] => by simp [ins]
  | x :: xs => by
    unfold ins
    split
    · rw [List.mem_cons, mem_ins, List.mem_cons]
      constructor
      · rintro (h | h | h)
        · exact .inr (.inl h)
        · exact .inl h
        · exact .inr (.inr h)
      · rintro (h | h | h)
        · exact .inr (.inl h)
        · exact .inl h
        · exact .inr (.inr h)
    · rw [List.mem_cons]
theorem ins_sorted {t : Int} : ∀ {l : List Int}, l.Pairwise (· < ·) → t ∉ l → (ins t l).Pairwise (· < ·)
  | [], _, _ => by simp [ins]
  | x :: xs, h, hn => by
    have h2 := List.pairwise_cons.1 h
    have hnx : t ≠ x ∧ t ∉ xs := by simpa using hn
    unfold ins
    split
    · rw [List.pairwise_cons]
      refine ⟨fun u hu => ?_, ins_sorted h2.2 hnx.2⟩
      rcases mem_ins.1 hu with rfl | hu
      · assumption
      · exact h2.1 u hu
    · rw [List.pairwise_cons]
      refine ⟨fun u hu => ?_, h⟩
      rcases List.mem_cons.1 hu with rfl | hu
      · omega
      · have := h2.1 u hu
        omega
theorem fb_pos {F : Nat → Node} : ∀ {n i : Nat}, i < fb F n → 0 < (F (2 * i)).pub
  | 0, i, h => by simp [fb] at h
  | n + 1, i, h => by
    have hle := fb_le F n
    rw [fb] at h
    split at h
    · exact fb_pos h
    · rename_i hf
      have e : fb F n = n := by omega
      by_cases e2 : i = n
      · subst e2
        split at h
        · assumption
        · omega
      · exact fb_pos (by
          rw [e]
          split at h <;> omega)
theorem fb_neg {F : Nat → Node} : ∀ {n : Nat}, fb F n < n → ¬ 0 < (F (2 * fb F n)).pub
  | 0, h => by omega
  | n + 1, h => by
    have hle := fb_le F n
    rw [fb] at h ⊢
    split
    · exact fb_neg (by assumption)
    · rename_i hf
      have e : fb F n = n := by omega
      split
      · rename_i h2
        rw [if_neg hf, if_pos h2] at h
        omega
      · rename_i h2
        exact h2
theorem findM_no {F : Nat → Node} {m : Int} : ∀ {n i : Nat}, findM F m n < 0 → i < n → 0 < (F (2 * i)).pub → (F (2 * i)).mem ≠ m
  | 0, i, _, hi, _ => by omega
  | n + 1, i, h, hi, hp => by
    intro e
    have hr := findM_range F m n
    by_cases e2 : i = n
    · subst e2
      unfold findM at h
      split at h
      · omega
      · rename_i h3
        rw [if_pos ⟨hp, e⟩] at h
        omega
    · refine findM_no (n := n) (i := i) ?_ (by omega) hp e
      unfold findM at h
      split at h
      · exact h
      · omega
theorem memL_count {F : Nat → Node} : ∀ n, (memL F n).length = n ↔ ∀ i, i < n → 0 < (F (2 * i)).pub
  | 0 => by simp [memL]
  | n + 1 => by
    have ih := memL_count (F := F) n
    have hl := memL_length F n
    unfold memL
    by_cases h : 0 < (F (2 * n)).pub
    · rw [if_pos h, List.length_append, List.length_singleton]
      constructor
      · intro h1 i hi
        by_cases e : i = n
        · rw [e]; exact h
        · exact ih.1 (by omega) i (by omega)
      · intro h1
        rw [ih.2 (fun i hi => h1 i (by omega))]
    · rw [if_neg h]
      constructor
      · intro h1; omega
      · intro h1; exact absurd (h1 n (by omega)) h
theorem fb_full {F : Nat → Node} {n : Nat} : fb F n = n ↔ ∀ i, i < n → 0 < (F (2 * i)).pub := by
  have hle := fb_le F n
  constructor
  · intro h i hi
    exact fb_pos (by rw [h]; exact hi)
  · intro h
    by_cases e : fb F n = n
    · exact e
    · exact absurd (h (fb F n) (by omega)) (fb_neg (by omega))
theorem Ok.pub_blank {d n : Nat} {F : Nat → Node} (h : Ok d n F) {i : Nat} (hi : i < 2 ^ d) : 0 < (F (2 * i)).pub ↔ (F (2 * i)).blank = false := by
  rcases h.leaf i hi with h1 | h1
  · rw [h1, Node.blank_iff.1 h1]
    simp [zeroN]
  · have : (F (2 * i)).blank = false := by
      cases hb : (F (2 * i)).blank with
      | false => rfl
      | true =>
        rw [Node.blank_iff.1 hb] at h1
        exact absurd h1.1 (by decide)
    rw [this]
    simp
    omega
/-- What stands behind an Add that was done. -/
theorem add_facts {n : Nat} {F : Nat → Node} {a : Addx} (h : addE n F a = 0) : ∃ d, d ≤ 3 ∧ addN n F = 2 ^ d ∧ lg (addN n F) = d ∧ fb F (lvs n) < 2 ^ d ∧ n ≤ 2 ^ (d + 1) - 1 ∧
    ((fb F (lvs n) = lvs n ∧ 2 ^ d / 2 ≤ lvs n ∧ lvs n < 2 ^ d) ∨ (fb F (lvs n) < lvs n ∧ lvs n = 2 ^ d)) := by
  obtain ⟨hz, -, -, -, -, hok⟩ := chk_false_add h
  rcases chk_iff.1 hz with rfl | ⟨d, hO⟩
  · exact ⟨0, by decide, rfl, rfl, by show 0 < 1; decide, by decide, .inl ⟨rfl, by decide, by decide⟩⟩
  · have hl := hO.lvs
    have hle := fb_le F (lvs n)
    have hd := hO.hd
    have hn := hO.hn
    have h2 := two_pos d
    have h3 := two_succ d
    have h4 := two_succ (d + 1)
    unfold addN
    by_cases hf : fb F (lvs n) = lvs n
    · have hd3 : d ≠ 3 := fun e => hok ⟨hf, by rw [hl, e]⟩
      have e1 : max 1 (2 * lvs n) = 2 ^ (d + 1) := by omega
      rw [if_pos hf, e1]
      exact ⟨d + 1, by omega, rfl, lg_pow (by omega), by omega, by omega, .inl ⟨hf, by omega, by omega⟩⟩
    · rw [if_neg hf]
      exact ⟨d, hd, hl, by rw [hl]; exact lg_pow hd, by omega, by omega, .inr ⟨by omega, hl⟩⟩
/-- Of a padded tree that may be. -/
theorem pad_leaf {n : Nat} {F : Nat → Node} (hz : chk n F = true) (i : Nat) : (pad n F (2 * i)).blank = true ∨ (1 ≤ (pad n F (2 * i)).pub ∧ 0 ≤ (pad n F (2 * i)).mem ∧ 0 ≤ (pad n F (2 * i)).ep ∧ (pad n F (2 * i)).un = []) := by
  unfold pad
  by_cases h : 2 * i < n
  · rw [if_pos h]
    rcases chk_iff.1 hz with rfl | ⟨d, hO⟩
    · omega
    · exact hO.leaf i (by have := hO.hn; have := two_succ d; omega)
  · rw [if_neg h]
    exact .inl rfl
theorem pad_par {n : Nat} {F : Nat → Node} (hz : chk n F = true) {x : Nat} (hx : x % 2 = 1) : (pad n F x).blank = true ∨ (x < n ∧ 1 ≤ (pad n F x).pub ∧ (pad n F x).mem = 0 ∧ (pad n F x).ep = 0 ∧ (∀ u ∈ (pad n F x).un, (lo x : Int) ≤ u ∧ u ≤ hi x ∧ (pad n F (2 * u).toNat).pub ≠ 0) ∧ (pad n F x).un.Pairwise (· < ·)) := by
  by_cases h : x < n
  · rcases chk_iff.1 hz with rfl | ⟨d, hO⟩
    · omega
    · have e : pad n F x = F x := by unfold pad; rw [if_pos h]
      rw [e]
      rcases hO.par x h hx with h1 | ⟨h1, h2, h3, h4, h5⟩
      · exact .inl h1
      · refine .inr ⟨h, h1, h2, h3, fun u hu => ?_, h5⟩
        obtain ⟨g1, g2, g3⟩ := h4 u hu
        have := hi2 hO.lvs_ne h
        refine ⟨g1, g2, ?_⟩
        unfold pad
        rw [if_pos (by omega)]
        exact g3
  · unfold pad
    rw [if_neg h]
    exact .inl rfl
/-- A tree with one more may be. -/
theorem add_ok {n : Nat} {F : Nat → Node} {a : Addx} (h : addE n F a = 0) : ∃ d, lg (addN n F) = d ∧ addN n F = 2 ^ d ∧ Ok d (2 * addN n F - 1) (addF n F d (fb F (lvs n)) a) := by
  obtain ⟨d, hd, hN, hlg, hat, hn, hcase⟩ := add_facts h
  obtain ⟨hz, hm, he, hp, hf, -⟩ := chk_false_add h
  have h3 := two_succ d
  have h2 := two_pos d
  refine ⟨d, hlg, hN, ?_⟩
  rw [hN]
  obtain ⟨i, hi⟩ : ∃ i, i = fb F (lvs n) := ⟨_, rfl⟩
  rw [← hi] at hat hcase ⊢
  -- the leaf that was blank
  have hblank : (pad n F (2 * i)).blank = true := by
    rcases pad_leaf hz i with h1 | h1
    · exact h1
    · rcases hcase with ⟨e1, -, -⟩ | ⟨e1, -⟩
      · unfold pad at h1 ⊢
        have hni : ¬ 2 * i < n := by
          rcases chk_iff.1 hz with rfl | ⟨d', hO⟩
          · omega
          · have := hO.lvs; have := hO.hn; have := two_succ d'; omega
        rw [if_neg hni]
        rfl
      · have := fb_neg (F := F) (n := lvs n) (by rw [← hi]; exact e1)
        rw [← hi] at this
        unfold pad at h1
        split at h1
        · omega
        · exact absurd h1.1 (by decide)
  have hpad0 : pad n F (2 * i) = zeroN := Node.blank_iff.1 hblank
  have hG : ∀ j, addF n F d i a (2 * j) = if j = i then ⟨a.pub, a.mem, a.ep, []⟩ else pad n F (2 * j) := fun j => by
    unfold addF
    by_cases e : j = i
    · subst e; simp
    · rw [if_neg (by omega), if_neg (fun hh => by have := (dirs_odd hd hat hh.1).1; omega), if_neg e]
  refine ⟨hd, by omega, fun x hx ho => ?_, fun j hj => ?_, fun j k hjk hk bj bk => ?_, ?_⟩
  · have hx2 : x ≠ 2 * i := by omega
    have hxn : x < 2 ^ (d + 1) - 1 := by omega
    rcases pad_par hz ho with h1 | ⟨h0, h1, h4, h5, h6, h7⟩
    · have e : addF n F d i a x = pad n F x := by
        unfold addF
        rw [if_neg hx2, if_neg]
        rw [Node.blank_iff.1 h1]
        rintro ⟨-, hh⟩
        exact absurd hh (by decide)
      rw [e]
      exact .inl h1
    · have hpub : ∀ u : Int, 0 ≤ u → (pad n F (2 * u).toNat).pub ≠ 0 → (addF n F d i a (2 * u).toNat).pub ≠ 0 := fun u hu hne => by
        obtain ⟨j, rfl⟩ : ∃ j : Nat, u = j := ⟨u.toNat, by omega⟩
        rw [show (2 * (j : Int)).toNat = 2 * j by omega] at hne ⊢
        rw [hG]
        split
        · show a.pub ≠ 0; omega
        · exact hne
      right
      by_cases hxd : x ∈ dirs d i
      · have e : addF n F d i a x = { pad n F x with un := ins i (pad n F x).un } := by
          unfold addF
          rw [if_neg hx2, if_pos ⟨hxd, by omega⟩]
        rw [e]
        obtain ⟨-, l1, l2⟩ := (dirs_iff hd hat hxn).1 hxd
        refine ⟨h1, h4, h5, fun u hu => ?_, ins_sorted h7 (fun hm2 => ?_)⟩
        · rcases mem_ins.1 hu with rfl | hu
          · refine ⟨by omega, by omega, ?_⟩
            rw [show (2 * (i : Int)).toNat = 2 * i by omega, hG, if_pos rfl]
            show a.pub ≠ 0
            omega
          · obtain ⟨g1, g2, g3⟩ := h6 u hu
            exact ⟨g1, g2, hpub u (by omega) g3⟩
        · have := (h6 _ hm2).2.2
          rw [show (2 * (i : Int)).toNat = 2 * i by omega, hpad0] at this
          exact this rfl
      · have e : addF n F d i a x = pad n F x := by
          unfold addF
          rw [if_neg hx2, if_neg (fun hh => hxd hh.1)]
        rw [e]
        refine ⟨h1, h4, h5, fun u hu => ?_, h7⟩
        obtain ⟨g1, g2, g3⟩ := h6 u hu
        exact ⟨g1, g2, hpub u (by omega) g3⟩
  · rw [hG]
    split
    · exact .inr ⟨hp, hm, he, rfl⟩
    · exact pad_leaf hz j
  · have hmem : ∀ j, j ≠ i → (pad n F (2 * j)).blank = false → (pad n F (2 * j)).mem ≠ a.mem := fun j _ hb => by
      have hjn : 2 * j < n := by
        by_cases hh : 2 * j < n
        · exact hh
        · unfold pad at hb
          rw [if_neg hh] at hb
          cases hb
      rcases chk_iff.1 hz with rfl | ⟨d', hO⟩
      · omega
      · have hl := hO.lvs
        have hjl : j < 2 ^ d' := by have := hO.hn; have := two_succ d'; omega
        have hs : sizeM n F = 2 ^ d' := by unfold sizeM; rw [hz, if_pos rfl, hl]
        unfold pad at hb ⊢
        rw [if_pos hjn] at hb ⊢
        rw [hs] at hf
        exact findM_no hf hjl ((hO.pub_blank hjl).2 hb)
    rw [hG] at bj bk ⊢
    rw [hG]
    by_cases ej : j = i
    · rw [if_pos ej]
      have ek : k ≠ i := by omega
      rw [if_neg ek] at bk ⊢
      exact fun e => hmem k ek bk e.symm
    · rw [if_neg ej] at bj ⊢
      by_cases ek : k = i
      · rw [if_pos ek]
        exact hmem j ej bj
      · rw [if_neg ek] at bk ⊢
        have hkn : 2 * k < n := by
          by_cases hh : 2 * k < n
          · exact hh
          · unfold pad at bk
            rw [if_neg hh] at bk
            cases bk
        rcases chk_iff.1 hz with rfl | ⟨d', hO⟩
        · omega
        · unfold pad at bj bk ⊢
          rw [if_pos (by omega)] at bj ⊢
          rw [if_pos hkn] at bk ⊢
          exact hO.dist j k hjk (by have := hO.hn; have := two_succ d'; omega) bj bk
  · rcases hcase with ⟨e1, e2, e3⟩ | ⟨e1, e2⟩
    · refine ⟨i, by omega, hat, ?_⟩
      rw [hG, if_pos rfl]
      cases hb : (⟨a.pub, a.mem, a.ep, []⟩ : Node).blank with
      | false => rfl
      | true =>
        have := Node.blank_iff.1 hb
        injection this with h1
        omega
    · rcases chk_iff.1 hz with rfl | ⟨d', hO⟩
      · have e0 : lvs 0 = 0 := rfl
        omega
      · have hl := hO.lvs
        obtain ⟨j, j1, j2, j3⟩ := hO.last
        have hdd : 2 ^ d' = 2 ^ d := by omega
        have hjn : 2 * j < n := by have := hO.hn; have := two_succ d'; omega
        refine ⟨j, by omega, by omega, ?_⟩
        rw [hG]
        have hji : j ≠ i := fun e => by
          subst e
          unfold pad at hblank
          rw [if_pos hjn, j3] at hblank
          cases hblank
        rw [if_neg hji]
        unfold pad
        rw [if_pos hjn]
        exact j3
end Go.Proofs.YtnahhclflnjmcaaGreatDoor

/- TreeFills, plainly; the boxes of a law with a tree and a member. -/
namespace Go.Proofs.YtnahhclflnjmcaaGreatDoor
open Go Go.RowKit
set_option linter.unusedVariables false
set_option linter.unusedSimpArgs false
set_option maxRecDepth 100000

/-- The boxes of the tree and of who comes in. -/
structure FB (w : World) (v : Value) (m e p : Int) (W : World) : Prop where
  bel : Below w.heap.size w W
  c0 : W.cell? ⟨w.heap.size, 0, none⟩ = some v
  a0 : W.cell? ⟨w.heap.size + 1, 0, none⟩ = some (.int .i64 m)
  a1 : W.cell? ⟨w.heap.size + 1, 1, none⟩ = some (.int .i64 e)
  a2 : W.cell? ⟨w.heap.size + 1, 2, none⟩ = some (.int .i64 p)
  lt : w.heap.size + 1 < W.heap.size
theorem FB.start (w : World) (v : Value) (m e p : Int) : FB w v m e p ((w.alloc (.cells #[v] 24)).alloc (.cells #[.int .i64 m, .int .i64 e, .int .i64 p] 75)) := by
  have h0 : ((w.alloc (.cells #[v] 24)).alloc (.cells #[.int .i64 m, .int .i64 e, .int .i64 p] 75)).heap[w.heap.size]? = some (.cells #[v] 24 (0, 0)) := by
    rw [Below.heap_alloc _ _ _ (by simp)]
    exact heap_alloc_new _ _
  have h1 : ((w.alloc (.cells #[v] 24)).alloc (.cells #[.int .i64 m, .int .i64 e, .int .i64 p] 75)).heap[w.heap.size + 1]? = some (.cells #[.int .i64 m, .int .i64 e, .int .i64 p] 75 (0, 0)) := by
    have := heap_alloc_new (w.alloc (.cells #[v] 24)) (.cells #[.int .i64 m, .int .i64 e, .int .i64 p] 75)
    rw [show (w.alloc (.cells #[v] 24)).heap.size = w.heap.size + 1 by simp] at this
    exact this
  refine ⟨((Below.refl _ _).alloc (Nat.le_refl _) _).alloc (by simp) _, ?_, ?_, ?_, ?_, by simp⟩
  · rw [cell_of_row _ _ _ _ _ _ h0]; rfl
  · rw [cell_of_row _ _ _ _ _ _ h1]; rfl
  · rw [cell_of_row _ _ _ _ _ _ h1]; rfl
  · rw [cell_of_row _ _ _ _ _ _ h1]; rfl
theorem FB.under {w : World} {v : Value} {m e p : Int} {W W' : World} (h : FB w v m e p W) (hb : Below W.heap.size W W') : FB w v m e p W' := by
  have hl := h.lt
  refine ⟨h.bel.trans (hb.mono h.bel.size), ?_, ?_, ?_, ?_, Nat.lt_of_lt_of_le h.lt hb.size⟩
  · rw [hb.cell (by show w.heap.size < _; omega)]; exact h.c0
  · rw [hb.cell (by show w.heap.size + 1 < _; omega)]; exact h.a0
  · rw [hb.cell (by show w.heap.size + 1 < _; omega)]; exact h.a1
  · rw [hb.cell (by show w.heap.size + 1 < _; omega)]; exact h.a2
theorem sizeM_ok {d n : Nat} {F : Nat → Node} (h : Ok d n F) : sizeM n F = 2 ^ d := by
  unfold sizeM
  rw [chk_iff.2 (.inr ⟨d, h⟩), if_pos rfl, h.lvs]
/-- What the law says. -/
structure FillsP (n : Nat) (F : Nat → Node) (a : Addx) (L N k i : Nat) (G : Nat → Node) : Prop where
  size : sizeM (2 * N - 1) G = N
  small : L ≤ 8 ∧ N ≤ 8 ∧ i < N ∧ i ≤ L ∧ 2 * L ≤ n + 1 ∧ n ≤ 15
  full : (k = L ∧ L < N ∧ i = k) ∨ (k < L ∧ N = L)
  taken : ∀ j, j < i → 2 * j < n ∧ (F (2 * j)).pub ≠ 0
  others : ∀ j, j < L → j ≠ i → 2 * j < n ∧ 2 * j < 2 * N - 1 ∧ G (2 * j) = F (2 * j)
  it : G (2 * i) = ⟨a.pub, a.mem, a.ep, []⟩
theorem fillsP {n : Nat} {F : Nat → Node} {a : Addx} (h : addE n F a = 0) :
    FillsP n F a (sizeM n F) (addN n F) (memL F (sizeM n F)).length (fb F (lvs n)) (addF n F (lg (addN n F)) (fb F (lvs n)) a) := by
  obtain ⟨d, hd, hN, hlg, hat, hn, hcase⟩ := add_facts h
  obtain ⟨hz, -, -, -, -, -⟩ := chk_false_add h
  obtain ⟨d', hlg', hN', hO⟩ := add_ok h
  have hp := pow3 hd
  have h3 := two_succ d
  have hL : sizeM n F = lvs n := by unfold sizeM; rw [hz, if_pos rfl]
  have hle := fb_le F (lvs n)
  have hlen := memL_length F (lvs n)
  have hcnt := memL_count (F := F) (lvs n)
  have hfull := fb_full (F := F) (n := lvs n)
  have hnl : 2 * lvs n ≤ n + 1 ∧ n ≤ 2 * lvs n ∧ n ≤ 15 := by
    rcases chk_iff.1 hz with rfl | ⟨d2, hO2⟩
    · exact ⟨by decide, by decide, by decide⟩
    · have := hO2.lvs; have := hO2.hn; have := two_succ d2; have := pow3 hO2.hd; omega
  rw [hL]
  refine ⟨?_, ⟨by omega, by omega, by omega, hle, hnl.1, hnl.2.2⟩, ?_, fun j hj => ⟨by omega, by have := fb_pos hj; omega⟩, fun j hj hne => ⟨by omega, by omega, ?_⟩, ?_⟩
  · rw [hlg', sizeM_ok hO, hN']
  · rcases hcase with ⟨c1, c2, c3⟩ | ⟨c1, c2⟩
    · have := hcnt.2 (hfull.1 c1)
      exact .inl ⟨this, by omega, by omega⟩
    · refine .inr ⟨?_, by omega⟩
      by_cases e : (memL F (lvs n)).length = lvs n
      · have := hfull.2 (hcnt.1 e); omega
      · omega
  · unfold addF
    rw [if_neg (by omega), if_neg (fun hc => by rw [hlg] at hc; have := (dirs_odd hd hat hc.1).1; omega)]
    unfold pad
    rw [if_pos (by omega)]
  · unfold addF
    rw [if_pos rfl]
end Go.Proofs.YtnahhclflnjmcaaGreatDoor

/- What is left behind a Remove, plainly; which nodes a Resolution names. -/
namespace Go.Proofs.YtnahhclflnjmcaaGreatDoor
open Go Go.RowKit
set_option linter.unusedVariables false
set_option linter.unusedSimpArgs false
set_option maxRecDepth 100000

theorem cut_le (F : Nat → Node) : ∀ d, cut F d ≤ d
  | 0 => Nat.le_refl _
  | d + 1 => by
    have := cut_le F d
    unfold cut
    split <;> omega
theorem cut_off {F : Nat → Node} : ∀ {d i : Nat}, 2 ^ cut F d ≤ i → i < 2 ^ d → (F (2 * i)).blank = true
  | 0, i, h1, h2 => by have : cut F 0 = 0 := rfl; rw [this] at h1; omega
  | d + 1, i, h1, h2 => by
    unfold cut at h1
    by_cases ht : takenB F d = true
    · rw [if_pos ht] at h1; omega
    · rw [if_neg ht] at h1
      by_cases hi : i < 2 ^ d
      · exact cut_off h1 hi
      · have h3 := two_succ d
        cases hb : (F (2 * i)).blank with
        | true => rfl
        | false =>
          exfalso
          refine ht ((takenB_iff F d).2 ⟨i - 2 ^ d, by omega, ?_⟩)
          rw [show 2 ^ d + (i - 2 ^ d) = i by omega]
          exact hb
theorem cut_last {F : Nat → Node} : ∀ {d : Nat}, 0 < cut F d → ∃ i, 2 ^ cut F d / 2 ≤ i ∧ i < 2 ^ cut F d ∧ (F (2 * i)).blank = false
  | 0, h => by have : cut F 0 = 0 := rfl; omega
  | d + 1, h => by
    unfold cut at h ⊢
    by_cases ht : takenB F d = true
    · rw [if_pos ht]
      obtain ⟨i, h1, h2⟩ := (takenB_iff F d).1 ht
      have h3 := two_succ d
      exact ⟨2 ^ d + i, by omega, by omega, h2⟩
    · rw [if_neg ht] at h ⊢
      exact cut_last h
theorem memL_nil {F : Nat → Node} : ∀ {n : Nat}, (∀ j, j < n → ¬ 0 < (F (2 * j)).pub) → memL F n = []
  | 0, h => rfl
  | n + 1, h => by
    unfold memL
    rw [if_neg (h n (by omega)), memL_nil fun j hj => h j (by omega)]
theorem memL_one {F : Nat → Node} {i : Nat} : ∀ {n : Nat}, i < n → 0 < (F (2 * i)).pub → (∀ j, j < n → j ≠ i → ¬ 0 < (F (2 * j)).pub) → (memL F n).length = 1
  | 0, h, _, _ => by omega
  | n + 1, h, hp, ho => by
    unfold memL
    by_cases e : i = n
    · subst e
      rw [if_pos hp, memL_nil fun j hj => ho j (by omega) (by omega)]
      rfl
    · rw [if_neg (ho n (by omega) (by omega))]
      exact memL_one (by omega) hp fun j hj hne => ho j (by omega) hne
theorem findM_at {F : Nat → Node} {m : Int} : ∀ {n : Nat}, 0 ≤ findM F m n → ∃ i : Nat, findM F m n = i ∧ i < n ∧ 0 < (F (2 * i)).pub ∧ (F (2 * i)).mem = m
  | 0, h => by simp [findM] at h
  | n + 1, h => by
    unfold findM at h ⊢
    by_cases h1 : 0 ≤ findM F m n
    · rw [if_pos h1]
      obtain ⟨i, h2, h3, h4⟩ := findM_at h1
      exact ⟨i, h2, by omega, h4⟩
    · rw [if_neg h1] at h ⊢
      by_cases h2 : 0 < (F (2 * n)).pub ∧ (F (2 * n)).mem = m
      · rw [if_pos h2]
        exact ⟨n, rfl, by omega, h2⟩
      · rw [if_neg h2] at h; simp at h
theorem wi_fin : ∀ i : Fin 8, ∀ x : Fin 16, wi i.val x.val = true ↔ (lo x.val ≤ i.val ∧ i.val ≤ hi x.val) := by decide +kernel
theorem wi_lohi {i x : Nat} (hi8 : i < 8) (hx : x < 16) : wi i x = true ↔ lo x ≤ i ∧ i ≤ hi x := wi_fin ⟨i, hi8⟩ ⟨x, hx⟩
theorem hi_fin : ∀ d : Fin 4, ∀ x : Fin 16, x.val < 2 ^ (d.val + 1) - 1 → hi x.val < 2 ^ d.val := by decide +kernel
theorem hi_lt {d x : Nat} (hd : d ≤ 3) (hx : x < 2 ^ (d + 1) - 1) : hi x < 2 ^ d := hi_fin ⟨d, by omega⟩ ⟨x, by have := pow3 hd; omega⟩ hx
theorem blankF_leaf {F : Nat → Node} {d i j : Nat} (hd : d ≤ 3) (hi : i < 2 ^ d) : blankF F d i (2 * j) = if j = i then zeroN else F (2 * j) := by
  unfold blankF
  by_cases e : j = i
  · rw [if_pos (.inl (by rw [e])), if_pos e]
  · rw [if_neg e, if_neg]
    rintro (h | h)
    · omega
    · have := (dirs_odd hd hi h).1; omega
/-- The tree behind a Remove may be. -/
theorem rem_ok {d n i : Nat} {F : Nat → Node} (hO : Ok d n F) (hi : i < 2 ^ d) (hj : ∃ j, j < 2 ^ d ∧ j ≠ i ∧ (F (2 * j)).blank = false) :
    Ok (cut (blankF F d i) d) (2 ^ (cut (blankF F d i) d + 1) - 1) (blankF F d i) := by
  have hd := hO.hd
  have hle := cut_le (blankF F d i) d
  have hpl : 2 ^ cut (blankF F d i) d ≤ 2 ^ d := Nat.pow_le_pow_right (by decide) hle
  have hpl2 : 2 ^ (cut (blankF F d i) d + 1) ≤ 2 ^ (d + 1) := Nat.pow_le_pow_right (by decide) (by omega)
  have hn := hO.hn
  refine ⟨by omega, rfl, fun x hx ho => ?_, fun j hj => ?_, fun j k hjk hk bj bk => ?_, ?_⟩
  · by_cases hxd : x ∈ dirs d i
    · left
      unfold blankF
      rw [if_pos (.inr hxd)]
      rfl
    · have e : blankF F d i x = F x := by
        unfold blankF
        rw [if_neg]
        rintro (h | h)
        · omega
        · exact hxd h
      rw [e]
      rcases hO.par x (by omega) ho with h1 | ⟨h1, h2, h3, h4, h5⟩
      · exact .inl h1
      · refine .inr ⟨h1, h2, h3, fun u hu => ?_, h5⟩
        obtain ⟨u1, u2, u3⟩ := h4 u hu
        obtain ⟨v, rfl⟩ : ∃ v : Nat, u = v := ⟨u.toNat, by omega⟩
        refine ⟨u1, u2, ?_⟩
        have e2 : (2 * (v : Int)).toNat = 2 * v := by omega
        rw [e2] at u3 ⊢
        rw [blankF_leaf hd hi]
        by_cases ev : v = i
        · exfalso
          subst ev
          exact hxd ((dirs_iff hd hi (by omega)).2 ⟨ho, by omega, by omega⟩)
        · rw [if_neg ev]
          exact u3
  · rw [blankF_leaf hd hi]
    by_cases e : j = i
    · rw [if_pos e]; exact .inl rfl
    · rw [if_neg e]; exact hO.leaf j (by omega)
  · rw [blankF_leaf hd hi] at bj bk
    rw [blankF_leaf hd hi, blankF_leaf hd hi]
    by_cases e1 : j = i
    · rw [if_pos e1] at bj; cases bj
    · by_cases e2 : k = i
      · rw [if_pos e2] at bk; cases bk
      · rw [if_neg e1, if_neg e2] at *
        exact hO.dist j k hjk (by omega) bj bk
  · by_cases h0 : 0 < cut (blankF F d i) d
    · exact cut_last h0
    · have e0 : cut (blankF F d i) d = 0 := by omega
      obtain ⟨j, h1, h2, h3⟩ := hj
      have hjz : j = 0 := by
        by_cases hz : j = 0
        · exact hz
        · exfalso
          have := cut_off (F := blankF F d i) (d := d) (i := j) (by rw [e0]; omega) h1
          rw [blankF_leaf hd hi, if_neg h2, h3] at this
          cases this
      subst hjz
      rw [e0]
      exact ⟨0, by decide, by decide, by rw [blankF_leaf hd hi, if_neg h2]; exact h3⟩
/-- What a Resolution names has a key. -/
theorem resM_pub {d n : Nat} {F : Nat → Node} (hO : Ok d n F) : ∀ (k x j : Nat), Nd x k j → x < n → ∀ z ∈ resM F k x, ∃ y : Nat, z = y ∧ y < n ∧ 0 < (F y).pub := by
  have hd := hO.hd
  have hn := hO.hn
  have one : ∀ x, x < n → 0 < (F x).pub → ∀ z ∈ (x : Int) :: (F x).un.map (2 * ·), ∃ y : Nat, z = y ∧ y < n ∧ 0 < (F y).pub := by
    intro x hx hp z hz
    rcases List.mem_cons.1 hz with rfl | hz
    · exact ⟨x, rfl, hx, hp⟩
    · obtain ⟨u, hu, rfl⟩ := List.mem_map.1 hz
      by_cases ho : x % 2 = 1
      · rcases hO.par x hx ho with h1 | ⟨_, _, _, h4, _⟩
        · rw [Node.blank_iff.1 h1] at hu; cases hu
        · obtain ⟨u1, u2, u3⟩ := h4 u hu
          have hh := hi_lt hd (x := x) (by omega)
          obtain ⟨v, rfl⟩ : ∃ v : Nat, u = v := ⟨u.toNat, by omega⟩
          have e2 : (2 * (v : Int)).toNat = 2 * v := by omega
          have h2 := two_succ d
          rw [e2] at u3
          refine ⟨2 * v, by omega, by omega, ?_⟩
          rcases hO.leaf v (by omega) with h5 | h5
          · rw [Node.blank_iff.1 h5] at u3; exact absurd rfl u3
          · omega
      · obtain ⟨i, rfl⟩ : ∃ i, x = 2 * i := ⟨x / 2, by omega⟩
        have h2 := two_succ d
        rcases hO.leaf i (by omega) with h1 | ⟨_, _, _, h1⟩
        · rw [Node.blank_iff.1 h1] at hu; cases hu
        · rw [h1] at hu; cases hu
  intro k
  induction k with
  | zero =>
    intro x j h hx z hz
    unfold resM at hz
    by_cases hp : 0 < (F x).pub
    · rw [if_pos hp] at hz; exact one x hx hp z hz
    · rw [if_neg hp] at hz; cases hz
  | succ k ih =>
    intro x j h hx z hz
    unfold resM at hz
    by_cases hp : 0 < (F x).pub
    · rw [if_pos hp] at hz; exact one x hx hp z hz
    · rw [if_neg hp] at hz
      obtain ⟨h1, h2⟩ := kid_lt hO.lvs_ne hx h
      obtain ⟨n1, n2⟩ := h.kids
      rcases List.mem_append.1 hz with hz | hz
      · exact ih (x - 2 ^ k) _ n1 (Nat.lt_of_le_of_lt (Nat.sub_le _ _) hx) z hz
      · exact ih (x + 2 ^ k) _ n2 h1 z hz
/-- What TreeForgets says. -/
structure ForgetsP (n : Nat) (F : Nat → Node) (d i e n' : Nat) (G : Nat → Node) : Prop where
  ok : Ok e n' G
  small : n' ≤ n ∧ n ≤ 15 ∧ i < 8 ∧ 2 ^ e ≤ 8 ∧ 2 * 2 ^ e = n' + 1
  res : ∀ x : Nat, x < n' → resE n' G x = 0 ∧ (resL n' G x).contains (2 * (i : Int)) = false
  un : ∀ x, x < n' → (G x).un.contains (i : Int) = false
  nam : ∀ x, x < n' → x % 2 = 1 → 0 < (G x).pub → wi i x = false
  others : ∀ j, j < 2 ^ e → j ≠ i → G (2 * j) = F (2 * j)
theorem rem_facts {n : Nat} {F : Nat → Node} {m : Int} (h : remE n F m = 0) : ∃ d i : Nat, Ok d n F ∧ findM F m (sizeM n F) = i ∧ i < 2 ^ d ∧ 0 < (F (2 * i)).pub ∧ (F (2 * i)).mem = m ∧ (memL F (sizeM n F)).length ≠ 1 ∧ (∃ j, j < 2 ^ d ∧ j ≠ i ∧ (F (2 * j)).blank = false) := by
  unfold remE at h
  by_cases h1 : chk n F = false
  · rw [if_pos h1] at h; cases h
  rw [if_neg h1] at h
  by_cases h2 : findM F m (sizeM n F) < 0
  · rw [if_pos h2] at h; cases h
  rw [if_neg h2] at h
  by_cases h3 : (memL F (sizeM n F)).length = 1
  · rw [if_pos h3] at h; cases h
  rcases chk_iff.1 (by simpa using h1) with rfl | ⟨d, hO⟩
  · exfalso
    apply h2
    have : sizeM 0 F = 0 := by have := sizeM_lt (n := 0) (F := F) (i := 0); omega
    rw [this]
    show (-1 : Int) < 0
    decide
  · have hs := sizeM_ok hO
    obtain ⟨i, e1, e2, e3, e4⟩ := findM_at (F := F) (m := m) (n := sizeM n F) (by omega)
    rw [hs] at e2
    refine ⟨d, i, hO, e1, e2, e3, e4, h3, ?_⟩
    refine Classical.byContradiction fun hc => h3 ?_
    rw [hs]
    refine memL_one e2 e3 fun j hj hne hp => hc ⟨j, hj, hne, (hO.pub_blank hj).1 hp⟩
theorem resE_ok {d n x : Nat} {F : Nat → Node} (hO : Ok d n F) (hx : x < n) : resE n F x = 0 := by
  unfold resE
  rw [if_neg (by rw [chk_iff.2 (.inr ⟨d, hO⟩)]; decide), if_neg (by omega)]
theorem forgetsP {d n i : Nat} {F : Nat → Node} (hO : Ok d n F) (hi : i < 2 ^ d) (hj : ∃ j, j < 2 ^ d ∧ j ≠ i ∧ (F (2 * j)).blank = false) :
    ForgetsP n F d i (cut (blankF F d i) d) (2 ^ (cut (blankF F d i) d + 1) - 1) (blankF F d i) := by
  have hR := rem_ok hO hi hj
  have hd := hO.hd
  have hle := cut_le (blankF F d i) d
  have hpl : 2 ^ cut (blankF F d i) d ≤ 2 ^ d := Nat.pow_le_pow_right (by decide) hle
  have hpl2 : 2 ^ (cut (blankF F d i) d + 1) ≤ 2 ^ (d + 1) := Nat.pow_le_pow_right (by decide) (by omega)
  have hp3 := pow3 hd
  have hn := hO.hn
  have h2 := two_succ (cut (blankF F d i) d)
  have h20 := two_pos (cut (blankF F d i) d)
  have hzero : (blankF F d i (2 * i)).pub = 0 := by rw [blankF_leaf hd hi, if_pos rfl]; rfl
  generalize he : cut (blankF F d i) d = e at *
  refine ⟨hR, ⟨by omega, by omega, by omega, by omega, by omega⟩, fun x hx => ?_, fun x hx => ?_, fun x hx ho hp => ?_, fun j hj hne => by rw [blankF_leaf hd hi, if_neg hne]⟩
  · have hE := resE_ok hR hx
    refine ⟨hE, ?_⟩
    unfold resL
    rw [if_pos hE, Int.toNat_natCast]
    cases hc : (resM (blankF F d i) (lvN x) x).contains (2 * (i : Int)) with
    | false => rfl
    | true =>
      exfalso
      obtain ⟨y, e1, e2, e3⟩ := resM_pub hR (lvN x) x _ (nd_lv (by omega)) hx _ (by simpa using hc)
      obtain rfl : y = 2 * i := by omega
      omega
  · cases hc : (blankF F d i x).un.contains (i : Int) with
    | false => rfl
    | true =>
      exfalso
      have hm : (i : Int) ∈ (blankF F d i x).un := by simpa using hc
      by_cases ho : x % 2 = 1
      · rcases hR.par x hx ho with h1 | ⟨_, _, _, h4, _⟩
        · rw [Node.blank_iff.1 h1] at hm; cases hm
        · have h5 := (h4 _ hm).2.2
          have e2 : (2 * (i : Int)).toNat = 2 * i := by omega
          rw [e2] at h5
          exact h5 hzero
      · obtain ⟨j, rfl⟩ : ∃ j, x = 2 * j := ⟨x / 2, by omega⟩
        rcases hR.leaf j (by omega) with h1 | ⟨_, _, _, h1⟩
        · rw [Node.blank_iff.1 h1] at hm; cases hm
        · rw [h1] at hm; cases hm
  · cases hw : wi i x with
    | false => rfl
    | true =>
      exfalso
      have hl := (wi_lohi (by omega) (by omega)).1 hw
      have hxd := (dirs_iff hd hi (y := x) (by omega)).2 ⟨ho, hl.1, hl.2⟩
      have e : blankF F d i x = zeroN := by unfold blankF; rw [if_pos (.inr hxd)]
      rw [e] at hp
      exact absurd hp (by decide)
end Go.Proofs.YtnahhclflnjmcaaGreatDoor
