import Derived.Test.YtnahhclflnjmcaaGreatDoorA2
import Derived.BigQuiet
/- Chapter 08's own Check, plainly: it says the same. -/
namespace Go.Proofs.YtnahhclflnjmcaaGreatDoor
open Go Go.RowKit
set_option linter.unusedVariables false
set_option linter.unusedSimpArgs false

theorem pairwise_adj : ∀ {us : List Int}, (∀ i p u, us[i]? = some p → us[i + 1]? = some u → p < u) → us.Pairwise (· < ·)
  | [], _ => List.Pairwise.nil
  | [x], _ => List.pairwise_singleton _ _
  | x :: y :: us, h => by
    have ih := pairwise_adj (us := y :: us) fun i p u h1 h2 => h (i + 1) p u (by simpa using h1) (by simpa using h2)
    have hxy : x < y := h 0 x y rfl rfl
    refine List.pairwise_cons.2 ⟨fun z hz => ?_, ih⟩
    rcases List.mem_cons.1 hz with rfl | hz
    · exact hxy
    · have := (List.pairwise_cons.1 ih).1 z hz
      omega
theorem adj_of_pairwise {us : List Int} (h : us.Pairwise (· < ·)) {i : Nat} {p u : Int} (h1 : us[i]? = some p) (h2 : us[i + 1]? = some u) : p < u := by
  obtain ⟨a1, e1⟩ := List.getElem?_eq_some_iff.1 h1
  obtain ⟨a2, e2⟩ := List.getElem?_eq_some_iff.1 h2
  have := List.pairwise_iff_getElem.1 h i (i + 1) a1 a2 (by omega)
  rw [e1, e2] at this
  exact this
/-- A parent that is not blank may be: one by one. -/
theorem parB_yes {F : Nat → Node} {x : Nat} (h1 : 1 ≤ (F x).pub) (h2 : (F x).mem = 0) (h3 : (F x).ep = 0) (h : ∀ i u, (F x).un[i]? = some u → ((lo x : Int) ≤ u ∧ u ≤ hi x ∧ (F (2 * u).toNat).pub ≠ 0) ∧ ∀ p, 0 < i → (F x).un[i - 1]? = some p → p < u) : parB F x = true := by
  refine (parB_iff F x).2 (.inr ⟨h1, h2, h3, fun u hu => ?_, pairwise_adj fun i p u hp hu => (h (i + 1) u hu).2 p (by omega) hp⟩)
  obtain ⟨i, hi⟩ := List.mem_iff_getElem?.1 hu
  exact (h i u hi).1
theorem parB_not {F : Nat → Node} {x : Nat} (hb : (F x).blank = false) {i : Nat} {u : Int} (hu : (F x).un[i]? = some u) (h : u < (lo x : Int) ∨ (hi x : Int) < u ∨ (F (2 * u).toNat).pub = 0 ∨ (∃ p, 0 < i ∧ (F x).un[i - 1]? = some p ∧ u ≤ p)) : parB F x = false := by
  cases hc : parB F x with
  | false => rfl
  | true =>
    exfalso
    rcases (parB_iff F x).1 hc with h1 | ⟨_, _, _, h4, h5⟩
    · rw [h1] at hb; cases hb
    · have := h4 u (List.mem_of_getElem? hu)
      rcases h with h | h | h | ⟨p, hp0, hp, h⟩
      · omega
      · omega
      · exact this.2.2 h
      · have := adj_of_pairwise h5 hp (by rw [show i - 1 + 1 = i by omega]; exact hu)
        omega
theorem parB_head {F : Nat → Node} {x : Nat} (hb : (F x).blank = false) (h : (F x).pub ≤ 0 ∨ (F x).mem ≠ 0 ∨ (F x).ep ≠ 0) : parB F x = false := by
  unfold parB
  rw [if_pos (by omega), hb]
/-- Have two leaves one member? -/
def twiceP (n : Nat) (F : Nat → Node) : Prop := ∃ i k : Nat, k < i ∧ 2 * i < n ∧ (F (2 * i)).pub ≠ 0 ∧ (F (2 * k)).pub ≠ 0 ∧ (F (2 * i)).mem = (F (2 * k)).mem
/-- Is a leaf from a number on not blank? -/
def someP (n : Nat) (F : Nat → Node) (j : Nat) : Prop := ∃ i, j ≤ i ∧ 2 * i < n ∧ (F (2 * i)).pub ≠ 0
theorem leaf_pub {a : Node} (h : (a.blank || leafB a) = true) : a.pub ≠ 0 ↔ a.blank = false := by
  cases hb : a.blank with
  | true => rw [Node.blank_iff.1 hb]; simp [zeroN]
  | false =>
    rw [hb, Bool.false_or] at h
    have := (leafB_iff.1 h).1
    simp
    omega
theorem pow_inj3 {a b : Nat} (ha : a ≤ 3) (hb : b ≤ 3) (h : 2 ^ a = 2 ^ b) : a = b := by
  have : ∀ a b : Fin 4, 2 ^ a.val = 2 ^ b.val → a = b := by decide
  have := this ⟨a, by omega⟩ ⟨b, by omega⟩ h
  simpa using this
/-- Check, from what the chapter's loops find. -/
theorem chk_ref {d n : Nat} {F : Nat → Node} (hd : d ≤ 3) (hn : n = 2 ^ (d + 1) - 1) (hpar : ∀ x, x < n → x % 2 = 1 → parB F x = true) (hleaf : ∀ i, 2 * i < n → ((F (2 * i)).blank || leafB (F (2 * i))) = true) :
    chk n F = true ↔ (¬ twiceP n F ∧ someP n F 0 ∧ (0 < d → someP n F (2 ^ d / 2))) := by
  have h2 := two_succ d
  have h20 := two_pos d
  rw [chk_iff]
  constructor
  · rintro (h | ⟨d', h⟩)
    · omega
    · obtain rfl : d' = d := by
        have e : 2 ^ d' = 2 ^ d := by rw [← h.lvs, hn, lvs_pow hd]
        exact pow_inj3 h.hd hd e
      obtain ⟨i, i1, i2, i3⟩ := h.last
      have ip := (leaf_pub (hleaf i (by omega))).2 i3
      refine ⟨?_, ⟨i, by omega, by omega, ip⟩, fun _ => ⟨i, i1, by omega, ip⟩⟩
      rintro ⟨i, k, hk, hi, p1, p2, e⟩
      exact h.dist k i hk (by omega) ((leaf_pub (hleaf k (by omega))).1 p2) ((leaf_pub (hleaf i hi)).1 p1) e.symm
  · rintro ⟨ht, hs0, hs⟩
    refine .inr ⟨d, hd, hn, fun x hx ho => (parB_iff F x).1 (hpar x hx ho), fun i hi => ?_, fun i j hij hj bi bj e => ?_, ?_⟩
    · have := hleaf i (by omega)
      rw [Bool.or_eq_true] at this
      exact this.imp id leafB_iff.1
    · exact ht ⟨j, i, hij, by omega, (leaf_pub (hleaf j (by omega))).2 bj, (leaf_pub (hleaf i (by omega))).2 bi, e.symm⟩
    · by_cases h0 : 0 < d
      · obtain ⟨i, i1, i2, i3⟩ := hs h0
        exact ⟨i, i1, by omega, (leaf_pub (hleaf i (by omega))).1 i3⟩
      · obtain rfl : d = 0 := by omega
        obtain ⟨i, i1, i2, i3⟩ := hs0
        exact ⟨i, by simp, by simp at h2 hn ⊢; omega, (leaf_pub (hleaf i (by omega))).1 i3⟩
theorem chk_bad {d n : Nat} {F : Nat → Node} (hd : d ≤ 3) (hn : n = 2 ^ (d + 1) - 1) {x : Nat} (hx : x < n) (h : (x % 2 = 1 ∧ parB F x = false) ∨ (∃ i, x = 2 * i ∧ ((F (2 * i)).blank || leafB (F (2 * i))) = false)) : chk n F = false := by
  have h2 := two_succ d
  have h20 := two_pos d
  cases hc : chk n F with
  | false => rfl
  | true =>
    exfalso
    rcases chk_iff.1 hc with h0 | ⟨d', hO⟩
    · omega
    · obtain rfl : d' = d := by
        have e : 2 ^ d' = 2 ^ d := by rw [← hO.lvs, hn, lvs_pow hd]
        exact pow_inj3 hO.hd hd e
      rcases h with ⟨ho, hp⟩ | ⟨i, rfl, hl⟩
      · rw [(parB_iff F x).2 (hO.par x hx ho)] at hp; cases hp
      · rw [Bool.or_eq_false_iff] at hl
        rcases hO.leaf i (by omega) with h1 | h1
        · rw [h1] at hl; cases hl.1
        · rw [leafB_iff.2 h1] at hl; cases hl.2
end Go.Proofs.YtnahhclflnjmcaaGreatDoor

/- Chapter 08's own functions: blank, leaf, leaves, some, Span, parent. -/
namespace Go.Proofs.YtnahhclflnjmcaaGreatDoor
open Go Go.RowKit
set_option linter.unusedVariables false
set_option linter.unusedSimpArgs false

set_option maxHeartbeats 1000000 in
theorem rblank (p m e : Int) (A : Option Addr) (n c : Nat) (w : World) :
    Calls Tryz.prog 182 #[.agg #[.int .i64 p, .int .i64 m, .int .i64 e, .slice A n c]] w fun x w' => x = .returned (.bool (p == 0 && (m == 0 && (e == 0 && n == 0)))) ∧ Below w.heap.size w w' := by
  have hn : ((n : Int) == 0) = (n == 0) := by
    rw [Bool.eq_iff_iff, beq_iff_eq, beq_iff_eq]; omega
  cases e1 : (p == 0) with
  | false =>
    go_enter Tryz.func182, Tryz.ntmps182
    go_wp2
    go_ret
    exact ⟨rfl, (Below.refl _ _).alloc (Nat.le_refl _) _⟩
  | true =>
    cases e2 : (m == 0) with
    | false =>
      go_enter Tryz.func182, Tryz.ntmps182
      go_wp2
      go_ret
      exact ⟨rfl, (Below.refl _ _).alloc (Nat.le_refl _) _⟩
    | true =>
      cases e3 : (e == 0) with
      | false =>
        go_enter Tryz.func182, Tryz.ntmps182
        go_wp2
        go_ret
        exact ⟨rfl, (Below.refl _ _).alloc (Nat.le_refl _) _⟩
      | true =>
        go_enter Tryz.func182, Tryz.ntmps182
        go_wp2
        go_ret
        exact ⟨by simp [hn], (Below.refl _ _).alloc (Nat.le_refl _) _⟩
theorem rblankN (a : Node) (A : Option Addr) (c : Nat) (w : World) :
    Calls Tryz.prog 182 #[.agg #[.int .i64 a.pub, .int .i64 a.mem, .int .i64 a.ep, .slice A a.un.length c]] w fun x w' => x = .returned (.bool a.blank) ∧ Below w.heap.size w w' := by
  have := rblank a.pub a.mem a.ep A a.un.length c w
  rw [blank_bool] at this
  exact this
theorem TrR.at' {w : World} {A : Option Addr} {c n y : Nat} {F : Nat → Node} (h : TrR w (.slice A n c) n F) (hy : y < n) : ∃ b o, A = some ⟨b, o, none⟩ ∧ NdAt w b (o + y * 4) (F y) := by
  obtain ⟨A', c', e, -, -, h3⟩ := h
  obtain ⟨rfl, -, rfl⟩ : A = A' ∧ n = n ∧ c = c' := by simpa using e
  obtain ⟨b, o, rfl, h4⟩ := h3 (by omega)
  exact ⟨b, o, rfl, h4 y hy⟩
theorem i64_two (i : Nat) (h : i < 1000000) : IntKind.i64.wrap (2 * (i : Int)) = 2 * (i : Int) := by
  have := i64_small (2 * i) (by omega)
  rw [show ((2 * i : Nat) : Int) = 2 * (i : Int) by omega] at this
  exact this
/-- The box of a node. -/
structure NB (w : World) (a : Node) (A : Option Addr) (c : Nat) (W : World) : Prop where
  bel : Below w.heap.size w W
  c0 : W.cell? ⟨w.heap.size, 0, none⟩ = some (.int .i64 a.pub)
  c1 : W.cell? ⟨w.heap.size, 1, none⟩ = some (.int .i64 a.mem)
  c2 : W.cell? ⟨w.heap.size, 2, none⟩ = some (.int .i64 a.ep)
  c3 : W.cell? ⟨w.heap.size, 3, none⟩ = some (.slice A a.un.length c)
  lt : w.heap.size < W.heap.size
theorem NB.start (w : World) (a : Node) (A : Option Addr) (c : Nat) : NB w a A c (w.alloc (.cells #[.int .i64 a.pub, .int .i64 a.mem, .int .i64 a.ep, .slice A a.un.length c] 95)) := by
  have h := heap_alloc_new w (.cells #[.int .i64 a.pub, .int .i64 a.mem, .int .i64 a.ep, .slice A a.un.length c] 95)
  exact ⟨(Below.refl _ _).alloc (Nat.le_refl _) _, by rw [cell_of_row _ _ _ _ _ _ h]; rfl, by rw [cell_of_row _ _ _ _ _ _ h]; rfl, by rw [cell_of_row _ _ _ _ _ _ h]; rfl, by rw [cell_of_row _ _ _ _ _ _ h]; rfl, by simp⟩
theorem NB.under {w : World} {a : Node} {A : Option Addr} {c : Nat} {W W' : World} (h : NB w a A c W) (hb : Below W.heap.size W W') : NB w a A c W' :=
  ⟨h.bel.trans (hb.mono h.bel.size), (hb.cell h.lt).trans h.c0, (hb.cell h.lt).trans h.c1, (hb.cell h.lt).trans h.c2, (hb.cell h.lt).trans h.c3, Nat.lt_of_lt_of_le h.lt hb.size⟩
set_option maxHeartbeats 2000000 in
theorem rleaf (a : Node) (A : Option Addr) (c : Nat) (w : World) :
    Calls Tryz.prog 48 #[.agg #[.int .i64 a.pub, .int .i64 a.mem, .int .i64 a.ep, .slice A a.un.length c]] w fun x w' => x = .returned (.bool (a.blank || leafB a)) ∧ Below w.heap.size w w' := by
  have hB := fun W => rblankN a A c W
  have HN := Lib.hid (NB.start w a A c)
  obtain ⟨-, b0, b1, b2, b3, -⟩ := NB.start w a A c
  cases hb : a.blank with
  | true =>
    rw [hb] at hB
    clear hb
    obtain ⟨p, m, e, u⟩ := a
    simp only at *
    generalize u.length = k at *
    go_enter Tryz.func48, Tryz.ntmps48
    go_wp2_with fail
    refine (hB _).mono ?_
    rintro x w1 ⟨rfl, h1⟩
    have hb1 := (HN.out.under h1).bel
    go_wp2_with fail
    go_ret
    exact ⟨by simp, hb1⟩
  | false =>
    rw [hb] at hB
    have HL := Lib.hid (show leafB a = (decide (1 ≤ a.pub) && (decide (0 ≤ a.mem) && (decide (0 ≤ a.ep) && a.un.isEmpty))) from rfl)
    have hu : a.un.isEmpty = (((a.un.length : Nat) : Int) == 0) := by
      cases a.un with
      | nil => rfl
      | cons x l => rw [List.isEmpty_cons, eq_comm, beq_eq_false_iff_ne]; simp; omega
    have HU := Lib.hid hu
    clear hb hu b0 b1 b2 b3
    have key : ∀ q : Bool, (decide (0 < a.pub) && decide (0 ≤ a.mem) && decide (0 ≤ a.ep) && (((a.un.length : Nat) : Int) == 0)) = q → (false || leafB a) = q := fun q hq => by
      rw [HL.out, HU.out, ← hq]
      have : decide (1 ≤ a.pub) = decide (0 < a.pub) := by rw [Bool.eq_iff_iff, decide_eq_true_eq, decide_eq_true_eq]; omega
      rw [this, Bool.false_or, Bool.and_assoc, Bool.and_assoc]
    have HK := Lib.hid key
    clear key
    obtain ⟨q, hq⟩ : ∃ q, (false || leafB a) = q := ⟨_, rfl⟩
    rw [hq]
    have HQ := Lib.hid hq
    clear hq
    go_enter Tryz.func48, Tryz.ntmps48
    go_wp2_with fail
    refine (hB _).mono ?_
    rintro x w1 ⟨rfl, h1⟩
    have HN1 := Lib.hid (HN.out.under h1)
    obtain ⟨-, b0, b1, b2, b3, bl⟩ := HN.out.under h1
    clear h1 hB
    cases t1 : decide (0 < a.pub) with
    | false =>
      have e := HK.out false (by rw [t1]; rfl)
      obtain rfl := HQ.out.symm.trans e
      go_wp2_with fail
      go_ret
      exact ⟨rfl, HN1.out.bel⟩
    | true =>
      cases t2 : decide (0 ≤ a.mem) with
      | false =>
        have e := HK.out false (by rw [t1, t2]; rfl)
        obtain rfl := HQ.out.symm.trans e
        go_wp2_with fail
        go_ret
        exact ⟨rfl, HN1.out.bel⟩
      | true =>
        cases t3 : decide (0 ≤ a.ep) with
        | false =>
          have e := HK.out false (by rw [t1, t2, t3]; rfl)
          obtain rfl := HQ.out.symm.trans e
          go_wp2_with fail
          go_ret
          exact ⟨rfl, HN1.out.bel⟩
        | true =>
          have e := HK.out (((a.un.length : Nat) : Int) == 0) (by rw [t1, t2, t3]; simp)
          obtain rfl := HQ.out.symm.trans e
          go_wp2_with fail
          go_ret
          exact ⟨by simp, HN1.out.bel⟩
set_option maxHeartbeats 2000000 in
theorem rleaves (A : Option Addr) (n c : Nat) (w : World) :
    Calls Tryz.prog 47 #[.agg #[.slice A n c]] w fun x w' => x = .returned (.int .i64 (lvs n : Nat)) ∧ Below w.heap.size w w' := by
  have hb : Below w.heap.size w (w.alloc (.cells #[.slice A n c] 24)) := (Below.refl _ _).alloc (Nat.le_refl _) _
  have HB := Lib.hid hb
  clear hb
  by_cases h1 : n = 1
  · subst h1
    go_enter Tryz.func47, Tryz.ntmps47
    go_wp2_with fail
    refine wp_loop_rounds 2 ?_
    rw [rounds_succ]
    go_wp2_with fail
    go_ret
    exact ⟨rfl, HB.out⟩
  by_cases h3 : n = 3
  · subst h3
    clear h1
    go_enter Tryz.func47, Tryz.ntmps47
    go_wp2_with fail
    refine wp_loop_rounds 3 ?_
    rw [rounds_succ]
    go_wp2_with fail
    rw [rounds_succ]
    go_wp2_with fail
    go_ret
    exact ⟨rfl, HB.out⟩
  by_cases h7 : n = 7
  · subst h7
    clear h1 h3
    go_enter Tryz.func47, Tryz.ntmps47
    go_wp2_with fail
    refine wp_loop_rounds 4 ?_
    rw [rounds_succ]
    go_wp2_with fail
    rw [rounds_succ]
    go_wp2_with fail
    rw [rounds_succ]
    go_wp2_with fail
    go_ret
    exact ⟨rfl, HB.out⟩
  by_cases h15 : n = 15
  · subst h15
    clear h1 h3 h7
    go_enter Tryz.func47, Tryz.ntmps47
    go_wp2_with fail
    refine wp_loop_rounds 5 ?_
    rw [rounds_succ]
    go_wp2_with fail
    rw [rounds_succ]
    go_wp2_with fail
    rw [rounds_succ]
    go_wp2_with fail
    rw [rounds_succ]
    go_wp2_with fail
    go_ret
    exact ⟨rfl, HB.out⟩
  have hl : lvs n = 0 := by unfold lvs; rw [if_neg h1, if_neg h3, if_neg h7, if_neg h15]
  rw [hl]
  have t1 : ((n : Int) == 1) = false := by rw [beq_eq_false_iff_ne]; omega
  have t3 : ((n : Int) == 3) = false := by rw [beq_eq_false_iff_ne]; omega
  have t7 : ((n : Int) == 7) = false := by rw [beq_eq_false_iff_ne]; omega
  have t15 : ((n : Int) == 15) = false := by rw [beq_eq_false_iff_ne]; omega
  clear h1 h3 h7 h15 hl
  go_enter Tryz.func47, Tryz.ntmps47
  go_wp2_with fail
  refine wp_loop_rounds 5 ?_
  rw [rounds_succ]
  go_wp2_with fail
  rw [rounds_succ]
  go_wp2_with fail
  rw [rounds_succ]
  go_wp2_with fail
  rw [rounds_succ]
  go_wp2_with fail
  rw [rounds_succ]
  go_wp2_with fail
  go_ret
  exact ⟨rfl, HB.out⟩
/-- A truth that stands for a proposition. -/
structure BoolP (P : Prop) (w : World) (e : Ending) (w' : World) : Prop where
  out : ∃ b, e = .returned (.bool b) ∧ (b = true ↔ P)
  bel : Below w.heap.size w w'
set_option maxHeartbeats 2000000 in
theorem rsome (v : Value) (n : Nat) (F : Nat → Node) (j : Nat) (w : World) (hR : TrR w v n F) (hn : n ≤ 15) (hj : j ≤ 15) :
    Calls Tryz.prog 51 #[.agg #[v], .int .i64 j] w fun e w' => BoolP (someP n F j) w e w' := by
  have hb0 : Below w.heap.size w (w.alloc (.cells #[v] 24)) := (Below.refl _ _).alloc (Nat.le_refl _) _
  obtain ⟨A, c, rfl, -, -, -⟩ := id hR
  obtain ⟨W0, hW0⟩ : ∃ W0, W0 = w.alloc (.cells #[.slice A n c] 24) := ⟨_, rfl⟩
  have hx0 : W0.cell? ⟨w.heap.size, 0, none⟩ = some (.slice A n c) := by rw [hW0]; exact cell_one_new w _ 24 0 _ rfl
  have HR := Lib.hid (by have := hR.below hb0; rw [← hW0] at this; exact this)
  have HB := Lib.hid (by have := hb0; rw [← hW0] at this; exact this)
  clear hb0 hR
  have jw := i64_two j (by omega)
  go_enter Tryz.func51, Tryz.ntmps51
  go_wp2_with fail
  rw [← hW0]
  clear hW0
  go_loopg [5] 40 (fun g v5 wr => ∃ i : Nat, j ≤ i ∧ i ≤ 15 ∧ i + g = 40 + j ∧ v5 = .int .i64 (2 * (i : Int)) ∧ (∀ k, j ≤ k → k < i → 2 * k < n → (F (2 * k)).pub = 0) ∧ wr = W0)
  case atStart => exact ⟨j, by omega, by omega, by omega, rfl, fun k h1 h2 => by omega, rfl⟩
  case round =>
    obtain ⟨i, hji, hi15, hg, rfl, hall, rfl⟩ := hrel
    have HG := Lib.hid (And.intro hg hall)
    clear hg hall
    by_cases hlt : 2 * i < n
    · obtain ⟨b, o, rfl, hN⟩ := HR.out.at' hlt
      obtain ⟨y0, -, -, -, -⟩ := hN
      have hbl := World.block_lt_of_cell? _ _ y0
      have j1 : (0 : Int) ≤ 2 * (i : Int) := by omega
      have j2 : 2 * (i : Int) < (n : Int) := by omega
      have jt : (2 * (i : Int)).toNat = 2 * i := by omega
      have HN := Lib.hid hlt
      by_cases hp : (F (2 * i)).pub = 0
      · rw [hp] at y0
        have HP := Lib.hid hp
        clear hp hlt
        go_wp2_with fail
        go_roundg (gk - 1)
        case rel => exact ⟨i + 1, by omega, by omega, by have := HG.out.1; omega, by go_num, fun k h1 h2 h3 => by
          by_cases e : k = i
          · rw [e]; exact HP.out
          · exact HG.out.2 k h1 (by omega) h3, rfl⟩
        case measure => have := HG.out.1; omega
      · have HP := Lib.hid hp
        generalize (F (2 * i)).pub = p at y0 hp
        have t1 : (p != 0) = true := by rw [bne_iff_ne]; exact hp
        clear hp hlt
        go_wp2_with fail
        go_ret
        exact ⟨⟨true, rfl, (fun _ => ⟨i, hji, HN.out, HP.out⟩), fun _ => rfl⟩, HB.out⟩
    · have t1 : decide (2 * (i : Int) < (n : Int)) = false := decide_eq_false (by omega)
      have HN := Lib.hid hlt
      clear hlt
      go_wp2_with fail
      go_ret
      exact ⟨⟨false, rfl, (fun h => by cases h), fun ⟨k, h1, h2, h3⟩ => absurd (HG.out.2 k h1 (by have := HN.out; omega) h2) h3⟩, HB.out⟩
end Go.Proofs.YtnahhclflnjmcaaGreatDoor

/- Chapter 08's own parent; chapter 02's Span. -/
namespace Go.Proofs.YtnahhclflnjmcaaGreatDoor
open Go Go.RowKit
set_option linter.unusedVariables false
set_option linter.unusedSimpArgs false
set_option maxRecDepth 100000

theorem rspan_1 (w : World) : Calls Tryz.prog 183 #[.int .i64 1] w fun e w' => e = .returned (.tuple #[.int .i64 (lo 1 : Nat), .int .i64 (hi 1 : Nat)]) ∧ w = w' := by
  have hc : ∀ w, Calls Tryz.prog 268 #[.int .i64 1] w fun e w' => e = .returned (.int .i64 1) ∧ w = w' := fun w => by
    have := rhalf 1 1 0 (by unfold Nd; decide) (by decide) w
    exact this
  go_enter Tryz.func183, Tryz.ntmps183
  go_wp2_with fail
  refine (hc _).mono ?_
  rintro e w' ⟨rfl, rfl⟩
  go_wp2_with fail
  go_ret2
  exact ⟨rfl, rfl⟩
theorem rspan_3 (w : World) : Calls Tryz.prog 183 #[.int .i64 3] w fun e w' => e = .returned (.tuple #[.int .i64 (lo 3 : Nat), .int .i64 (hi 3 : Nat)]) ∧ w = w' := by
  have hc : ∀ w, Calls Tryz.prog 268 #[.int .i64 3] w fun e w' => e = .returned (.int .i64 2) ∧ w = w' := fun w => by
    have := rhalf 3 2 0 (by unfold Nd; decide) (by decide) w
    exact this
  go_enter Tryz.func183, Tryz.ntmps183
  go_wp2_with fail
  refine (hc _).mono ?_
  rintro e w' ⟨rfl, rfl⟩
  go_wp2_with fail
  go_ret2
  exact ⟨rfl, rfl⟩
theorem rspan_5 (w : World) : Calls Tryz.prog 183 #[.int .i64 5] w fun e w' => e = .returned (.tuple #[.int .i64 (lo 5 : Nat), .int .i64 (hi 5 : Nat)]) ∧ w = w' := by
  have hc : ∀ w, Calls Tryz.prog 268 #[.int .i64 5] w fun e w' => e = .returned (.int .i64 1) ∧ w = w' := fun w => by
    have := rhalf 5 1 1 (by unfold Nd; decide) (by decide) w
    exact this
  go_enter Tryz.func183, Tryz.ntmps183
  go_wp2_with fail
  refine (hc _).mono ?_
  rintro e w' ⟨rfl, rfl⟩
  go_wp2_with fail
  go_ret2
  exact ⟨rfl, rfl⟩
theorem rspan_7 (w : World) : Calls Tryz.prog 183 #[.int .i64 7] w fun e w' => e = .returned (.tuple #[.int .i64 (lo 7 : Nat), .int .i64 (hi 7 : Nat)]) ∧ w = w' := by
  have hc : ∀ w, Calls Tryz.prog 268 #[.int .i64 7] w fun e w' => e = .returned (.int .i64 4) ∧ w = w' := fun w => by
    have := rhalf 7 3 0 (by unfold Nd; decide) (by decide) w
    exact this
  go_enter Tryz.func183, Tryz.ntmps183
  go_wp2_with fail
  refine (hc _).mono ?_
  rintro e w' ⟨rfl, rfl⟩
  go_wp2_with fail
  go_ret2
  exact ⟨rfl, rfl⟩
theorem rspan_9 (w : World) : Calls Tryz.prog 183 #[.int .i64 9] w fun e w' => e = .returned (.tuple #[.int .i64 (lo 9 : Nat), .int .i64 (hi 9 : Nat)]) ∧ w = w' := by
  have hc : ∀ w, Calls Tryz.prog 268 #[.int .i64 9] w fun e w' => e = .returned (.int .i64 1) ∧ w = w' := fun w => by
    have := rhalf 9 1 2 (by unfold Nd; decide) (by decide) w
    exact this
  go_enter Tryz.func183, Tryz.ntmps183
  go_wp2_with fail
  refine (hc _).mono ?_
  rintro e w' ⟨rfl, rfl⟩
  go_wp2_with fail
  go_ret2
  exact ⟨rfl, rfl⟩
theorem rspan_11 (w : World) : Calls Tryz.prog 183 #[.int .i64 11] w fun e w' => e = .returned (.tuple #[.int .i64 (lo 11 : Nat), .int .i64 (hi 11 : Nat)]) ∧ w = w' := by
  have hc : ∀ w, Calls Tryz.prog 268 #[.int .i64 11] w fun e w' => e = .returned (.int .i64 2) ∧ w = w' := fun w => by
    have := rhalf 11 2 1 (by unfold Nd; decide) (by decide) w
    exact this
  go_enter Tryz.func183, Tryz.ntmps183
  go_wp2_with fail
  refine (hc _).mono ?_
  rintro e w' ⟨rfl, rfl⟩
  go_wp2_with fail
  go_ret2
  exact ⟨rfl, rfl⟩
theorem rspan_13 (w : World) : Calls Tryz.prog 183 #[.int .i64 13] w fun e w' => e = .returned (.tuple #[.int .i64 (lo 13 : Nat), .int .i64 (hi 13 : Nat)]) ∧ w = w' := by
  have hc : ∀ w, Calls Tryz.prog 268 #[.int .i64 13] w fun e w' => e = .returned (.int .i64 1) ∧ w = w' := fun w => by
    have := rhalf 13 1 3 (by unfold Nd; decide) (by decide) w
    exact this
  go_enter Tryz.func183, Tryz.ntmps183
  go_wp2_with fail
  refine (hc _).mono ?_
  rintro e w' ⟨rfl, rfl⟩
  go_wp2_with fail
  go_ret2
  exact ⟨rfl, rfl⟩
theorem rspan (x : Nat) (hx : x < 15) (ho : x % 2 = 1) (w : World) : Calls Tryz.prog 183 #[.int .i64 x] w fun e w' => e = .returned (.tuple #[.int .i64 (lo x : Nat), .int .i64 (hi x : Nat)]) ∧ w = w' := by
  have : x = 1 ∨ x = 3 ∨ x = 5 ∨ x = 7 ∨ x = 9 ∨ x = 11 ∨ x = 13 := by omega
  rcases this with rfl | rfl | rfl | rfl | rfl | rfl | rfl
  · exact rspan_1 w
  · exact rspan_3 w
  · exact rspan_5 w
  · exact rspan_7 w
  · exact rspan_9 w
  · exact rspan_11 w
  · exact rspan_13 w
end Go.Proofs.YtnahhclflnjmcaaGreatDoor

/- Chapter 08's own parent, twice. -/
namespace Go.Proofs.YtnahhclflnjmcaaGreatDoor
open Go Go.RowKit
set_option linter.unusedVariables false
set_option linter.unusedSimpArgs false
set_option maxRecDepth 100000

/-- The boxes of a tree and of a node of it. -/
structure PB (w : World) (v : Value) (a : Node) (u : Value) (W : World) : Prop where
  bel : Below w.heap.size w W
  t0 : W.cell? ⟨w.heap.size, 0, none⟩ = some v
  c0 : W.cell? ⟨w.heap.size + 1, 0, none⟩ = some (.int .i64 a.pub)
  c1 : W.cell? ⟨w.heap.size + 1, 1, none⟩ = some (.int .i64 a.mem)
  c2 : W.cell? ⟨w.heap.size + 1, 2, none⟩ = some (.int .i64 a.ep)
  c3 : W.cell? ⟨w.heap.size + 1, 3, none⟩ = some u
  lt : w.heap.size + 1 < W.heap.size
theorem PB.start (w : World) (v : Value) (a : Node) (u : Value) : PB w v a u ((w.alloc (.cells #[v] 24)).alloc (.cells #[.int .i64 a.pub, .int .i64 a.mem, .int .i64 a.ep, u] 95)) := by
  have h0 : ((w.alloc (.cells #[v] 24)).alloc (.cells #[.int .i64 a.pub, .int .i64 a.mem, .int .i64 a.ep, u] 95)).heap[w.heap.size]? = some (.cells #[v] 24 (0, 0)) := by
    rw [Below.heap_alloc _ _ _ (by simp)]
    exact heap_alloc_new _ _
  have h1 : ((w.alloc (.cells #[v] 24)).alloc (.cells #[.int .i64 a.pub, .int .i64 a.mem, .int .i64 a.ep, u] 95)).heap[w.heap.size + 1]? = some (.cells #[.int .i64 a.pub, .int .i64 a.mem, .int .i64 a.ep, u] 95 (0, 0)) := by
    have := heap_alloc_new (w.alloc (.cells #[v] 24)) (.cells #[.int .i64 a.pub, .int .i64 a.mem, .int .i64 a.ep, u] 95)
    rw [show (w.alloc (.cells #[v] 24)).heap.size = w.heap.size + 1 by simp] at this
    exact this
  exact ⟨((Below.refl _ _).alloc (Nat.le_refl _) _).alloc (by simp) _, by rw [cell_of_row _ _ _ _ _ _ h0]; rfl, by rw [cell_of_row _ _ _ _ _ _ h1]; rfl, by rw [cell_of_row _ _ _ _ _ _ h1]; rfl, by rw [cell_of_row _ _ _ _ _ _ h1]; rfl, by rw [cell_of_row _ _ _ _ _ _ h1]; rfl, by simp⟩
theorem PB.under {w : World} {v : Value} {a : Node} {u : Value} {W W' : World} (h : PB w v a u W) (hb : Below W.heap.size W W') : PB w v a u W' := by
  have hl := h.lt
  refine ⟨h.bel.trans (hb.mono h.bel.size), ?_, ?_, ?_, ?_, ?_, Nat.lt_of_lt_of_le h.lt hb.size⟩
  · rw [hb.cell (by show w.heap.size < _; omega)]; exact h.t0
  all_goals rw [hb.cell (by show w.heap.size + 1 < _; omega)]
  · exact h.c0
  · exact h.c1
  · exact h.c2
  · exact h.c3
theorem hi_fin2 : ∀ d : Fin 4, ∀ x : Fin 16, x.val < 2 ^ (d.val + 1) - 1 → 2 * hi x.val < 2 ^ (d.val + 1) - 1 := by decide +kernel
set_option maxHeartbeats 4000000 in
theorem rparent (v : Value) (n d : Nat) (F : Nat → Node) (x : Nat) (w : World) (hR : TrR w v n F) (hd : d ≤ 3) (hn : n = 2 ^ (d + 1) - 1) (hx : x < n) (ho : x % 2 = 1) (hl : (F x).un.length ≤ 1000000) :
    Calls Tryz.prog 49 #[.agg #[v], .int .i64 x] w fun e w' => e = .returned (.bool (parB F x)) ∧ Below w.heap.size w w' := by
  have h16 : 2 ^ (d + 1) ≤ 2 ^ 4 := Nat.pow_le_pow_right (by decide) (by omega)
  have hhi : 2 * hi x < n := by rw [hn]; exact hi_fin2 ⟨d, by omega⟩ ⟨x, by omega⟩ (by rw [hn] at hx; exact hx)
  have hsp := fun w => rspan x (by omega) ho w
  have HR := Lib.hid hR
  obtain ⟨A, c, rfl, -, -, -⟩ := id hR
  obtain ⟨b, o, rfl, hN⟩ := hR.at' hx
  obtain ⟨y0, y1, y2, ⟨Au, cu, y3, hI⟩, -⟩ := hN
  have HP0 := Lib.hid (PB.start w (.slice (some ⟨b, o, none⟩) n c) (F x) (.slice Au (F x).un.length cu))
  have hB := fun W => rblankN (F x) Au cu W
  have hbl := World.block_lt_of_cell? _ _ y0
  have j1 : (0 : Int) ≤ (x : Int) := by omega
  have j2 : (x : Int) < (n : Int) := by omega
  have HI := Lib.hid hI
  have HE := Lib.hid (And.intro (parB_yes (F := F) (x := x)) (And.intro (parB_head (F := F) (x := x)) (And.intro (parB_not (F := F) (x := x)) (show (F x).blank = true → parB F x = true from fun h => (parB_iff F x).2 (.inl h)))))
  generalize hpb : parB F x = q at *
  have hn15 : n ≤ 15 := by omega
  clear hR hI hpb h16 hn
  generalize hpub : (F x).pub = pub at *
  generalize hmem : (F x).mem = mem at *
  generalize hep : (F x).ep = ep at *
  generalize hun : (F x).un = us at *
  have HF := Lib.hid (And.intro hpub (And.intro hmem (And.intro hep hun)))
  generalize hul : us.length = ul at *
  have HU := Lib.hid hul
  clear hpub hmem hep hun hul
  obtain ⟨-, b0, b1, b2, b3, b4, b5⟩ := HP0.out
  simp only [HF.out.1, HF.out.2.1, HF.out.2.2.1] at b1 b2 b3
  go_enter Tryz.func49, Tryz.ntmps49
  go_wp2_with fail
  obtain ⟨W1, hW1⟩ : ∃ W1, W1 = ((w.alloc (.cells #[.slice (some ⟨b, o, none⟩) n c] 24)).alloc (.cells #[.int .i64 pub, .int .i64 mem, .int .i64 ep, .slice Au ul cu] 95)) := ⟨_, rfl⟩
  have hP1 := HP0.out
  rw [← hW1] at hP1
  rw [← hW1]
  have HP1 := Lib.hid hP1
  clear hW1 HP0 b0 b1 b2 b3 b4 b5 hP1
  refine (hB W1).mono ?_
  rintro e w2 ⟨rfl, hb2⟩
  have HP2 := Lib.hid (HP1.out.under hb2)
  obtain ⟨-, b0, b1, b2, b3, b4, b5⟩ := HP1.out.under hb2
  rw [HF.out.1] at b1
  rw [HF.out.2.1] at b2
  rw [HF.out.2.2.1] at b3
  clear hb2 hB HP1
  cases hb : (F x).blank with
  | true =>
    obtain rfl : q = true := HE.out.2.2.2 hb
    clear hb
    go_wp2_with fail
    go_ret
    exact ⟨rfl, HP2.out.bel⟩
  | false =>
    have HBF := Lib.hid hb
    clear hb
    by_cases h1 : pub ≤ 0
    · obtain rfl : q = false := HE.out.2.1 HBF.out (.inl h1)
      have t1 : decide (pub ≤ 0) = true := decide_eq_true h1
      clear h1
      go_wp2_with fail
      go_ret
      exact ⟨rfl, HP2.out.bel⟩
    have t1 : decide (pub ≤ 0) = false := decide_eq_false h1
    by_cases h2 : mem = 0
    case neg =>
      obtain rfl : q = false := HE.out.2.1 HBF.out (.inr (.inl h2))
      have t2 : (mem != 0) = true := by rw [bne_iff_ne]; exact h2
      clear h1 h2
      go_wp2_with fail
      go_ret
      exact ⟨rfl, HP2.out.bel⟩
    have t2 : (mem != 0) = false := by rw [bne_eq_false_iff_eq]; exact h2
    by_cases h3 : ep = 0
    case neg =>
      obtain rfl : q = false := HE.out.2.1 HBF.out (.inr (.inr h3))
      have t3 : (ep != 0) = true := by rw [bne_iff_ne]; exact h3
      clear h1 h2 h3
      go_wp2_with fail
      go_ret
      exact ⟨rfl, HP2.out.bel⟩
    have t3 : (ep != 0) = false := by rw [bne_eq_false_iff_eq]; exact h3
    have HH := Lib.hid (HE.out.1 (by omega) h2 h3)
    clear h1 h2 h3
    go_wp2_with fail
    refine (hsp _).mono ?_
    rintro e w3 ⟨rfl, rfl⟩
    generalize hlo : lo x = l0 at *
    generalize hhi0 : hi x = h0 at *
    clear hlo hhi0 t1 t2 t3 hsp
    go_wp2_with fail
    go_loopg [8] (ul + 1) (fun g v8 wr => ∃ i : Nat, i ≤ ul ∧ i + g = ul + 1 ∧ v8 = .int .i64 i ∧ (∀ k u, k < i → us[k]? = some u → ((l0 : Int) ≤ u ∧ u ≤ h0 ∧ (F (2 * u).toNat).pub ≠ 0) ∧ ∀ p, 0 < k → us[k - 1]? = some p → p < u) ∧ wr = w2)
    case atStart => exact ⟨0, by omega, by omega, rfl, fun k u hk => by omega, rfl⟩
    case round =>
      obtain ⟨i, hi, hg, rfl, hall, rfl⟩ := hrel
      have HG := Lib.hid (And.intro hg hall)
      clear hg hall
      by_cases hlt : i < ul
      · obtain ⟨u, hu⟩ : ∃ u, us[i]? = some u := ⟨us[i]'(by have := HU.out; omega), List.getElem?_eq_getElem _⟩
        have hI1 := HI.out.below HP2.out.bel
        obtain ⟨bu, ou, rfl, cu0⟩ := hI1.at hu
        have hbu := World.block_lt_of_cell? _ _ cu0
        have HUU := Lib.hid hu
        have q1 : (0 : Int) ≤ (i : Int) := by omega
        have q2 : (i : Int) < (ul : Int) := by omega
        have HNOT := Lib.hid (fun h => HE.out.2.2.1 HBF.out (i := i) hu h)
        clear hlt
        by_cases c1 : u < (l0 : Int)
        · obtain rfl : q = false := HNOT.out (.inl c1)
          have s1 : decide (u < (l0 : Int)) = true := decide_eq_true c1
          clear c1 hu hI1
          go_wp2_with fail
          go_ret
          exact ⟨rfl, HP2.out.bel⟩
        have s1 : decide (u < (l0 : Int)) = false := decide_eq_false c1
        by_cases c2 : (h0 : Int) < u
        · obtain rfl : q = false := HNOT.out (.inr (.inl c2))
          have s2 : decide ((h0 : Int) < u) = true := decide_eq_true c2
          clear c1 c2 hu hI1
          go_wp2_with fail
          go_ret
          exact ⟨rfl, HP2.out.bel⟩
        have s2 : decide ((h0 : Int) < u) = false := decide_eq_false c2
        obtain ⟨y, rfl⟩ : ∃ y : Nat, u = y := ⟨u.toNat, by omega⟩
        have hyn : 2 * y < n := by omega
        obtain ⟨b', o', e', hN2⟩ := (HR.out.below HP2.out.bel).at' hyn
        obtain ⟨rfl, rfl⟩ : b = b' ∧ o = o' := by simpa using e'
        have z0 := hN2.c0
        have hz0 := World.block_lt_of_cell? _ _ z0
        have iw := i64_two y (by omega)
        have k1 : (0 : Int) ≤ 2 * (y : Int) := by omega
        have k2 : 2 * (y : Int) < (n : Int) := by omega
        have kt : (2 * (y : Int)).toNat = 2 * y := by omega
        have HT := Lib.hid kt
        have hle1 : (l0 : Int) ≤ y := by omega
        have hle2 : (y : Int) ≤ h0 := by omega
        clear hN2 e' c1 c2
        by_cases c3 : (F (2 * y)).pub = 0
        · obtain rfl : q = false := HNOT.out (.inr (.inr (.inl (by rw [HT.out]; exact c3))))
          rw [c3] at z0
          clear c3 hu hI1
          go_wp2_with fail
          go_ret
          exact ⟨rfl, HP2.out.bel⟩
        have HC3 := Lib.hid c3
        generalize (F (2 * y)).pub = yp at z0 c3
        have s3 : (yp == 0) = false := by rw [beq_eq_false_iff_ne]; exact c3
        clear c3
        by_cases c4 : i = 0
        · subst c4
          rw [Nat.add_zero] at cu0
          clear hu hI1
          go_wp2_with fail
          go_roundg (gk - 1)
          case rel => exact ⟨1, by omega, by have := HG.out.1; omega, rfl, fun k u hk hu => by
            obtain rfl : k = 0 := by omega
            obtain rfl : (y : Int) = u := by have := HUU.out; rw [this] at hu; exact Option.some.inj hu
            exact ⟨⟨hle1, hle2, by rw [HT.out]; exact HC3.out⟩, fun p h0 => by omega⟩, rfl⟩
          case measure => have := HG.out.1; omega
        · obtain ⟨i', rfl⟩ : ∃ i', i = i' + 1 := ⟨i - 1, by omega⟩
          obtain ⟨p, hp⟩ : ∃ p, us[i']? = some p := ⟨us[i']'(by have := HU.out; omega), List.getElem?_eq_getElem _⟩
          obtain ⟨b'', o'', e'', cp0⟩ := hI1.at hp
          obtain ⟨rfl, rfl⟩ : bu = b'' ∧ ou = o'' := by simpa using e''
          have HPP := Lib.hid hp
          have s4 : decide ((0 : Int) < ((i' + 1 : Nat) : Int)) = true := decide_eq_true (by omega)
          have k3 : (0 : Int) ≤ ((i' + 1 : Nat) : Int) - 1 := by omega
          have k4 : ((i' + 1 : Nat) : Int) - 1 < (ul : Int) := by omega
          have k5 : (((i' + 1 : Nat) : Int) - 1) = (i' : Int) := by omega
          have k6 : (0 : Int) ≤ (i' : Int) := by omega
          have k7 : (i' : Int) < (ul : Int) := by omega
          by_cases c5 : (y : Int) ≤ p
          · obtain rfl : q = false := HNOT.out (.inr (.inr (.inr ⟨p, by omega, by rw [Nat.add_sub_cancel]; exact hp, c5⟩)))
            have s5 : decide ((y : Int) ≤ p) = true := decide_eq_true c5
            clear c5 hp e'' c4 hu hI1
            go_wp2_with fail
            go_ret
            exact ⟨rfl, HP2.out.bel⟩
          · have s5 : decide ((y : Int) ≤ p) = false := decide_eq_false c5
            have HC5 := Lib.hid c5
            clear c5 hp e'' c4 hu hI1
            go_wp2_with fail
            go_roundg (gk - 1)
            case rel => exact ⟨i' + 2, by omega, by have := HG.out.1; omega, by go_num, fun k u hk hu => by
              by_cases e : k = i' + 1
              · subst e
                obtain rfl : (y : Int) = u := by have := HUU.out; rw [this] at hu; exact Option.some.inj hu
                refine ⟨⟨hle1, hle2, by rw [HT.out]; exact HC3.out⟩, fun p' _ hp' => ?_⟩
                rw [Nat.add_sub_cancel, HPP.out] at hp'
                rw [← Option.some.inj hp']
                have := HC5.out
                omega
              · exact HG.out.2 k u (by omega) hu, rfl⟩
            case measure => have := HG.out.1; omega
      · obtain rfl : i = ul := by omega
        obtain rfl : q = true := HH.out fun k u hu => by
          have hk : k < i := by have := (List.getElem?_eq_some_iff.1 hu).1; have := HU.out; omega
          exact HG.out.2 k u hk hu
        go_wp2_with fail
        go_ret
        exact ⟨rfl, HP2.out.bel⟩
end Go.Proofs.YtnahhclflnjmcaaGreatDoor
