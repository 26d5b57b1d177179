/- Resolution; the rows above a leaf. -/
import Derived.Test.YtopkanokpfhmmaaDoorTQ
import Derived.Deep.RegionHeld3
namespace Go.Proofs.YtopkanokpfhmmaaDoor
open Go Go.RowKit
set_option linter.unusedVariables false
set_option linter.unusedSimpArgs false

theorem resM_pad {n : Nat} {F : Nat → Node} (hnl : lvs n ≠ 0) : ∀ (k x j : Nat), Nd x k j → x < n → resM (pad n F) k x = resM F k x
  | 0, x, j, h, hx => by
    unfold resM pad
    rw [if_pos hx]
  | k + 1, x, j, h, hx => by
    obtain ⟨h1, h2⟩ := kid_lt hnl hx h
    obtain ⟨n1, n2⟩ := h.kids
    unfold resM
    rw [resM_pad hnl k (x - 2 ^ k) _ n1 (Nat.lt_of_le_of_lt (Nat.sub_le _ _) hx), resM_pad hnl k (x + 2 ^ k) _ n2 h1]
    unfold pad
    rw [if_pos hx]
theorem Ok.un_rng {d n : Nat} {F : Nat → Node} (h : Ok d n F) {y : Nat} (hy : y < n) : ∀ u ∈ (F y).un, 0 ≤ u ∧ u ≤ 15 := by
  by_cases ho : y % 2 = 1
  · rcases h.par y hy ho with h1 | ⟨_, _, _, h1, h2⟩
    · rw [Node.blank_iff.1 h1]; intro u hu; cases hu
    · have h3 := hi2 h.lvs_ne hy
      have h4 := h.n_le
      intro u hu
      have := h1 u hu
      omega
  · obtain ⟨i, rfl⟩ : ∃ i, y = 2 * i := ⟨y / 2, by omega⟩
    have := h.hn
    have := two_succ d
    rcases h.leaf i (by omega) with h1 | ⟨_, _, _, h1⟩
    · rw [Node.blank_iff.1 h1]; intro u hu; cases hu
    · rw [h1]; intro u hu; cases hu
/-- resolution of a node of a tree that may be, onto no list. -/
theorem res_new {b o n c d : Nat} {F : Nat → Node} {w0 w : World} (hO : Ok d n F) (hT : Tab w0) (hN : ∀ y, y < n → NdAt w0 b (o + y * 4) (F y)) (hw : Below w0.heap.size w0 w) {k x j : Nat} (hx : Nd x k j) (hxn : x < n) :
    Calls Tryd.prog 37 #[.slice none 0 0, .agg #[.slice (some ⟨b, o, none⟩) n c], .int .i64 x] w fun e w' => ∃ v', e = .returned v' ∧ OwnI w' w.heap.size v' (resM F k x) ∧ Below w.heap.size w w' := by
  have hk : k < 5 := hx.level_lt (by have := hO.n_le; omega)
  have hl : 2 ^ (k + 1) ≤ 2 ^ 5 := Nat.pow_le_pow_right (by decide) (by omega)
  refine (res37 b o n c (pad n F) w0 w.heap.size hT hO.lvs_ne (fun y hy => by unfold pad; rw [if_pos hy]; exact hN y hy) (fun y => ?_) (fun y hy => by unfold pad; rw [if_pos hy]; exact hO.un_rng hy) hw.size k x j hx hxn w (.slice none 0 0) [] hw (Nat.le_refl _) (World.ownsRow_nil _ _ _ _) (by simp; omega)).mono ?_
  · unfold pad
    split
    · exact hO.un_len (by assumption)
    · decide
  · rintro e w' ⟨⟨v', rfl, ho, hl⟩, hg⟩
    rw [List.nil_append, resM_pad hO.lvs_ne k x j hx hxn] at ho
    exact ⟨v', rfl, ho, (Below.refl _ _).grown hg (Nat.le_refl _) (fun q hq => by cases hq)⟩
def resE (n : Nat) (F : Nat → Node) (x : Int) : Int := if chk n F = false then 1 else if x < 0 ∨ (n : Int) ≤ x then 7 else 0
def resL (n : Nat) (F : Nat → Node) (x : Int) : List Int := if resE n F x = 0 then resM F (lvN x.toNat) x.toNat else []
/-- What Resolution answers. -/
structure ResA (w : World) (l : List Int) (c : Int) (e : Ending) (w' : World) : Prop where
  out : ∃ v', e = .returned (.tuple #[v', .int .i64 c]) ∧ OwnI w' w.heap.size v' l
  bel : Below w.heap.size w w'
set_option maxHeartbeats 2000000 in
set_option maxRecDepth 100000 in
theorem res19 (v : Value) (n : Nat) (F : Nat → Node) (x : Int) (w : World) (hT : Tab w) (hR : TrR w v n F) (hn : n ≤ 262144) :
    Calls Tryd.prog 19 #[.agg #[v], .int .i64 x] w fun e w' => ResA w (resL n F x) (resE n F x) e w' := by
  have hC : ∀ W, Below w.heap.size w W → Calls Tryd.prog 10 #[.agg #[v]] W fun e w' => e = .returned (.int .i64 (errB (chk n F))) ∧ Below W.heap.size W w' := fun W hW =>
    check10 v n F W (hT.below hT.pos hW) (hR.below hW) (by omega)
  have hbA : Below w.heap.size w (w.alloc (.cells #[v] 24)) := (Below.refl _ _).alloc (Nat.le_refl _) _
  cases hz : chk n F with
  | false =>
    have hE : resE n F x = 1 := by unfold resE; rw [if_pos hz]
    have hL : resL n F x = [] := by unfold resL; rw [hE]; rfl
    rw [hE, hL]
    rw [hz, errB_false] at hC
    obtain ⟨A, c, rfl, -, -, -⟩ := hR
    go_enter Tryd.func19, Tryd.ntmps19
    go_wp2_with (go_at_call 10; refine (hC _ hbA).mono ?_; rintro e' w1 ⟨rfl, hb1⟩)
    go_ret2
    exact ⟨⟨_, rfl, World.ownsRow_nil _ _ _ _⟩, below_box hb1⟩
  | true =>
    rw [hz, errB_true] at hC
    by_cases h1 : x < 0
    · have hE : resE n F x = 7 := by unfold resE; rw [hz, if_neg (by decide), if_pos (.inl h1)]
      have hL : resL n F x = [] := by unfold resL; rw [hE]; rfl
      have t1 : decide (x < 0) = true := decide_eq_true h1
      rw [hE, hL]
      obtain ⟨A, c, rfl, -, -, -⟩ := hR
      clear h1
      go_enter Tryd.func19, Tryd.ntmps19
      go_wp2_with (go_at_call 10; refine (hC _ hbA).mono ?_; rintro e' w1 ⟨rfl, hb1⟩; obtain ⟨hbox, hs1⟩ := box_keep hb1)
      go_ret2
      exact ⟨⟨_, rfl, World.ownsRow_nil _ _ _ _⟩, below_box hb1⟩
    · by_cases h2 : (n : Int) ≤ x
      · have hE : resE n F x = 7 := by unfold resE; rw [hz, if_neg (by decide), if_pos (.inr h2)]
        have hL : resL n F x = [] := by unfold resL; rw [hE]; rfl
        have t1 : decide (x < 0) = false := decide_eq_false h1
        have t2 : decide ((n : Int) ≤ x) = true := decide_eq_true h2
        rw [hE, hL]
        obtain ⟨A, c, rfl, -, -, -⟩ := hR
        clear h1 h2
        go_enter Tryd.func19, Tryd.ntmps19
        go_wp2_with (go_at_call 10; refine (hC _ hbA).mono ?_; rintro e' w1 ⟨rfl, hb1⟩; obtain ⟨hbox, hs1⟩ := box_keep hb1)
        go_ret2
        exact ⟨⟨_, rfl, World.ownsRow_nil _ _ _ _⟩, below_box hb1⟩
      · obtain ⟨y, rfl⟩ : ∃ y : Nat, x = y := ⟨x.toNat, by omega⟩
        have hE : resE n F (y : Int) = 0 := by unfold resE; rw [hz, if_neg (by decide), if_neg (by omega)]
        have hL : resL n F (y : Int) = resM F (lvN y) y := by unfold resL; rw [hE, if_pos rfl, Int.toNat_natCast]
        rw [hE, hL]
        have t2 : (n ≤ y) = False := eq_false (by omega)
        rcases chk_iff.1 hz with h0 | ⟨d, hO⟩
        · omega
        · obtain ⟨A, c, rfl, -, -, h3⟩ := hR
          obtain ⟨b, o, rfl, hN⟩ := h3 (by omega)
          have hRN : ∀ W, Below w.heap.size w W → Calls Tryd.prog 37 #[.slice none 0 0, .agg #[.slice (some ⟨b, o, none⟩) n c], .int .i64 y] W fun e w' => ∃ v', e = .returned v' ∧ OwnI w' W.heap.size v' (resM F (lvN y) y) ∧ Below W.heap.size W w' := fun W hW =>
            res_new hO hT hN hW (nd_lv (by have := hO.n_le; omega)) (by omega)
          generalize resM F (lvN y) y = l at *
          clear h1 h2 h3 hN hO hz hE hL
          go_enter Tryd.func19, Tryd.ntmps19
          go_wp2_with (first
            | (go_at_call 10; refine (hC _ hbA).mono ?_; rintro e' w1 ⟨rfl, hb1⟩; obtain ⟨hbox, hs1⟩ := box_keep hb1)
            | (go_at_call 37; refine (hRN _ (below_box hb1)).mono ?_; rintro e' w2 ⟨v', rfl, ho, hb2⟩))
          go_ret2
          have hb := below_box hb1
          exact ⟨⟨_, rfl, own_lower hb.size ho⟩, hb.trans (hb2.mono hb.size)⟩
end Go.Proofs.YtopkanokpfhmmaaDoor
