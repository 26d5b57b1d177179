/- Sibling and Copath of the document's package; Direct with its memory. -/
import Derived.Test.YtenaljhkdnhgpaaGreatDoorLive
import Derived.Test.YtenaljhkdnhgpaaGreatDoorBkAptN
import Derived.Test.YtenaljhkdnhgpaaGreatDoorBkKeepN
namespace Go.Proofs.YtenaljhkdnhgpaaGreatDoor
open Go Go.RowKit
set_option linter.unusedVariables false
set_option linter.unusedSimpArgs false

theorem rsibling_no (x l : Int) (w : World) (hp : Calls Tryz.prog 19 #[.int .i64 x, .int .i64 l] w fun e w' => e = .returned (.tuple #[.int .i64 0, .bool false]) ∧ w = w') :
    Calls Tryz.prog 20 #[.int .i64 x, .int .i64 l] w fun e w' => e = .returned (.tuple #[.int .i64 0, .bool false]) ∧ w = w' := by
  go_enter Tryz.func20, Tryz.ntmps20
  go_wp2_with (go_at_call 19; refine hp.mono ?_; rintro e w' ⟨rfl, rfl⟩)
  go_ret2
  exact ⟨rfl, rfl⟩
set_option maxHeartbeats 1000000 in
theorem rsibling_yes (x c j d : Nat) (hd : d ≤ 30) (hN : Nd x c j) (hx : x + 1 < 2 ^ (d + 1)) (hc : c < d) (w : World) :
    Calls Tryz.prog 20 #[.int .i64 x, .int .i64 (2 ^ d : Nat)] w fun e w' => e = .returned (.tuple #[.int .i64 (2 * (anc x (c + 1) : Nat) - x), .bool true]) ∧ w = w' := by
  have hp := rparent_yes x c j d hd hN hx hc w
  have hlt := anc_lt hx (show c + 1 ≤ d by omega)
  have hpw := pow_le hd
  have hts := two_succ d
  have hl := rleft_yes (anc x (c + 1)) (c + 1) _ (anc_nd x (c + 1)) (by omega) (by omega) w
  have hr := rright_yes (anc x (c + 1)) (c + 1) _ (anc_nd x (c + 1)) (by omega) (by omega) (by omega) w
  obtain ⟨hd0, hd1, hd2⟩ := anc_down x c j c hN (Nat.le_refl c)
  rw [hN.anc_self] at hd1 hd2
  have hge := (anc_nd x (c + 1)).ge
  have htc := two_succ c
  have htp := two_pos c
  rw [Nat.add_sub_cancel] at hl hr
  generalize ((2 ^ d : Nat) : Int) = l at *
  by_cases hxp : x < anc x (c + 1)
  · have e := hd1 hxp
    have e2 : (((anc x (c + 1) - 2 ^ c : Nat) : Int) != (x : Int)) = false := by simp; omega
    have e3 : ((anc x (c + 1) + 2 ^ c : Nat) : Int) = 2 * ((anc x (c + 1) : Nat) : Int) - (x : Int) := by omega
    rw [e3] at hr
    generalize anc x (c + 1) = p at *
    generalize ((p - 2 ^ c : Nat) : Int) = q at *
    generalize 2 * ((p : Nat) : Int) - (x : Int) = z at *
    clear hd0 hd1 hd2 hge htc htp e3 e hlt hxp hN hx
    go_enter Tryz.func20, Tryz.ntmps20
    go_wp2_with (first | (go_at_call 19; refine hp.mono ?_; rintro e w' ⟨rfl, rfl⟩) | (go_at_call 141; refine hl.mono ?_; rintro e w' ⟨rfl, rfl⟩) | (go_at_call 142; refine hr.mono ?_; rintro e w' ⟨rfl, rfl⟩))
    go_ret2
    exact ⟨rfl, rfl⟩
  · have e := hd2 (by omega)
    have e2 : (((anc x (c + 1) - 2 ^ c : Nat) : Int) != (x : Int)) = true := by simp; omega
    have e3 : ((anc x (c + 1) - 2 ^ c : Nat) : Int) = 2 * ((anc x (c + 1) : Nat) : Int) - (x : Int) := by omega
    rw [e3] at hl e2
    generalize anc x (c + 1) = p at *
    generalize 2 * ((p : Nat) : Int) - (x : Int) = z at *
    clear hd0 hd1 hd2 hge htc htp e3 e hlt hxp hN hx hr
    go_enter Tryz.func20, Tryz.ntmps20
    go_wp2_with (first | (go_at_call 19; refine hp.mono ?_; rintro e w' ⟨rfl, rfl⟩) | (go_at_call 141; refine hl.mono ?_; rintro e w' ⟨rfl, rfl⟩))
    go_ret2
    exact ⟨rfl, rfl⟩
/-- A list of numbers that may be held. -/
def HeldI (w : World) (B : Nat) (v : Value) (l : List Int) : Prop := Ints w v l ∧ ∀ m, Bk.OwnH Bk.kdNumber w B v m l.length 0
theorem OwnI.held {w : World} {B : Nat} {v : Value} {l : List Int} (h : OwnI w B v l) : HeldI w B v l :=
  ⟨h.ints, fun m => Bk.OwnH.of_row h (Nat.le_refl _) fun j hj => by rw [Nat.zero_min] at hj; omega⟩
theorem HeldI.nil (w : World) (B : Nat) : HeldI w B (.slice none 0 0) [] := ⟨Ints.nil w, fun m => .inl rfl⟩
theorem HeldI.below {w w' : World} {B : Nat} {v : Value} {l : List Int} (h : HeldI w B v l) (hb : Below w.heap.size w w') : HeldI w' B v l :=
  ⟨h.1.below hb, fun m => (h.2 m).keep fun b hb' => hb.block b ((h.2 m).lt hb').1⟩
theorem HeldI.lower {w : World} {B B' : Nat} {v : Value} {l : List Int} (h : HeldI w B v l) (hB : B' ≤ B) : HeldI w B' v l :=
  ⟨h.1, fun m => by
    rcases h.2 m with h1 | ⟨g, o, n, cap, cur, e, h3, h4, h5⟩
    · exact .inl h1
    · exact .inr ⟨g, o, n, cap, cur, e, ⟨h3.blk, Nat.le_trans hB h3.hB, h3.le, h3.mx, h3.fit, h3.kind⟩, h4, h5⟩⟩
set_option maxHeartbeats 1000000 in
theorem direct_held (x l : Int) (y : Int) (L : List Int) (hL : 0 < L.length) (w : World) (hu : Calls Tryz.prog 139 #[.int .i64 x, .int .i64 l] w fun e w' => ∃ v, e = .returned v ∧ OwnI w' w.heap.size v (y :: L) ∧ Below w.heap.size w w') :
    Calls Tryz.prog 17 #[.int .i64 x, .int .i64 l] w fun e w' => ∃ v, e = .returned v ∧ HeldI w' w.heap.size v L ∧ Below w.heap.size w w' := by
  go_enter Tryz.func17, Tryz.ntmps17
  go_wp2_with (go_at_call 139; refine hu.mono ?_)
  rintro e w1 ⟨v, rfl, ho, hb⟩
  rcases ho.2 with ⟨_, h0⟩ | ⟨g, cap, cur, rfl, hg, hbk, hle, hmx, hsz, htk⟩
  · simp at h0
  have hi := ho.ints
  have HO := Lib.hid (And.intro hi (And.intro hg (And.intro hbk (And.intro hle (And.intro hmx hsz)))))
  obtain ⟨n, hn⟩ : ∃ n, n = (y :: L).length := ⟨_, rfl⟩
  rw [← hn] at hle ⊢
  have HN := Lib.hid hn
  have q0 : 2 ≤ n := by rw [hn]; simp; omega
  have q1 : n ≤ 9223372036854775807 := by unfold maxLen at hmx; omega
  clear hn hi hg hbk hsz htk ho hu hmx
  have q : decide ((n : Int) < 2) = false := decide_eq_false (by omega)
  go_wp2
  go_ret
  obtain ⟨⟨A, c, e, hc, hm, hr⟩, hg, hbk, _, hmx, hsz⟩ := HO.out
  have hn1 : n - 1 = L.length := by have := HN.out; simp at this; omega
  obtain ⟨b, off, e2, hcell⟩ := hr (by simp)
  injection e with e1 _ _
  rw [e2] at e1
  injection e1 with e1
  injection e1 with e1 e3
  subst e1 e3

  refine ⟨_, rfl, ⟨⟨_, L.length, by rw [hn1]; rfl, Nat.le_refl _, by unfold maxLen; omega, fun _ => ⟨_, 1, rfl, fun i z hz => ?_⟩⟩, fun m => .inr ⟨g, 1, n - 1, n - 1, cur, rfl, ⟨hbk, hg, Nat.le_refl _, by omega, (show 1 + (n - 1) * 1 ≤ cur.size by omega), .inr rfl⟩, by omega, fun j hj => by rw [Nat.zero_min] at hj; omega⟩⟩, hb⟩
  have := hcell (i + 1) z (by simpa using hz)
  rw [show 0 + (i + 1) = 1 + i by omega] at this
  exact this
set_option maxHeartbeats 1000000 in
theorem rcopath_no (x l : Int) (w : World) (hp : ∀ w, Calls Tryz.prog 19 #[.int .i64 x, .int .i64 l] w fun e w' => e = .returned (.tuple #[.int .i64 0, .bool false]) ∧ w = w') :
    Calls Tryz.prog 22 #[.int .i64 x, .int .i64 l] w fun e w' => ∃ v, e = .returned v ∧ OwnI w' w.heap.size v [] ∧ Below w.heap.size w w' := by
  have hd := rdirect_no x l (w.alloc (.cells #[.int .i64 x] 3)) (hp _)
  have hs := fun w => rsibling_no x l w (hp w)
  go_enter Tryz.func22, Tryz.ntmps22
  go_wp2_with fail
  refine hd.mono ?_
  rintro e w2 ⟨v, rfl, ho, hb⟩
  obtain ⟨o1, o2, o3⟩ := own_one hb
  have hi := ho.ints
  have O1 := Lib.hid o1
  clear o1 hd hb
  go_wp2_with (at_builtin; refine append_ints rfl _ _ rfl rfl rfl O1 hi o2 o3 ?c1 ?_)
  case c1 => simp
  intro v' w' h1 h2 h3
  obtain ⟨A, cc, rfl, hc, hm, hr⟩ := h1.ints
  obtain ⟨b1, off, rfl, hcell⟩ := hr (by simp)
  have hc0 := hcell 0 x (by simp)
  have H2 := Lib.hid h2
  clear O1 ho hi o2 o3 h1 hr hcell hc hm h2 h3
  simp only [List.cons_append, List.nil_append, List.length_cons, List.length_nil, Nat.add_zero] at *
  go_wp2_with fail
  go_loopg [5, 7] 1 (fun k v5 v7 wr => ∃ n : Nat, v7 = .int .i64 (n : Int) ∧ n + k = 1 ∧ v5 = .slice none 0 0 ∧ wr = w')
  case atStart => exact ⟨0, rfl, rfl, rfl, rfl⟩
  case round =>
    obtain ⟨n, rfl, hnk, rfl, rfl⟩ := hrel
    by_cases hn : n = 0
    · subst hn
      go_wp2_with (go_at_call 20; refine (hs _).mono ?_; rintro e w' ⟨rfl, rfl⟩)
      go_roundg 0
      case measure => omega
      case rel => exact ⟨1, by go_num, by omega, rfl, rfl⟩
    · obtain rfl : n = 1 := by omega
      go_wp2_with fail
      go_ret
      exact ⟨_, rfl, World.ownsRow_nil _ _ _ _, H2.out⟩
set_option maxHeartbeats 2000000 in
theorem rcopath_yes (x c j d : Nat) (hd : d ≤ 30) (hN : Nd x c j) (hx : x + 1 < 2 ^ (d + 1)) (w : World) :
    Calls Tryz.prog 22 #[.int .i64 x, .int .i64 (2 ^ d : Nat)] w fun e w' => ∃ v, e = .returned v ∧ OwnI w' w.heap.size v (coL x c (d - c)) ∧ Below w.heap.size w w' := by
  have hu := rdirect_yes x c j d hd hN hx (w.alloc (.cells #[.int .i64 x] 3)) (by simp)
  have hcd : c ≤ d := by have := hN.level_lt hx; omega
  have hS : ∀ n, n < d - c → ∀ w, Calls Tryz.prog 20 #[.int .i64 (anc x (c + n) : Nat), .int .i64 (2 ^ d : Nat)] w fun e w' => e = .returned (.tuple #[.int .i64 (2 * (anc x (c + n + 1) : Nat) - (anc x (c + n) : Nat)), .bool true]) ∧ w = w' := fun n hn w => by
    have := rsibling_yes (anc x (c + n)) (c + n) _ d hd (anc_nd x (c + n)) (anc_lt hx (by omega)) (by omega) w
    rw [anc_anc _ _ _ (by omega)] at this
    exact this
  have hR : ∀ w, Calls Tryz.prog 20 #[.int .i64 (anc x d : Nat), .int .i64 (2 ^ d : Nat)] w fun e w' => e = .returned (.tuple #[.int .i64 0, .bool false]) ∧ w = w' := fun w => by
    have hp := pow_le hd
    have hp0 := two_pos d
    have e : ((anc x d : Nat) : Int) = ((2 ^ d : Nat) : Int) - 1 := by rw [anc_root x d (by omega)]; omega
    rw [e]
    refine rsibling_no _ _ w (rparent_root _ w (by omega) (by omega) ?_)
    rw [← e]
    exact inT_nd hd (anc_lt hx (Nat.le_refl d))
  have HC1 := Lib.hid (upL_cons x c j (d - c) hN)
  generalize ((2 ^ d : Nat) : Int) = l at *
  clear hN hx
  go_enter Tryz.func22, Tryz.ntmps22
  go_wp2_with fail
  refine hu.mono ?_
  rintro e w2 ⟨v, rfl, ho, hb⟩
  obtain ⟨o1, o2, o3⟩ := own_one hb
  have hi := ho.ints
  have O1 := Lib.hid o1
  clear o1 hu hb
  go_wp2_with (at_builtin; refine append_ints rfl _ _ rfl rfl rfl O1 hi o2 o3 ?c1 ?_)
  case c1 => rw [upL_length]; simp; omega
  intro v' w1 h1 h2 h3
  rw [HC1.out] at h1
  clear O1 ho hi o2 o3
  obtain ⟨A, cc, rfl, hc, hm, hr⟩ := h1.ints
  rw [upL_length] at hc hr ⊢
  obtain ⟨b, off, rfl, hcell⟩ := hr (by omega)
  have HC := Lib.hid hcell
  have hbw : b < w1.heap.size := World.block_lt_of_cell? w1 _ (hcell 0 _ (upL_get x c _ 0 (by omega)))
  have HB1 := Lib.hid h2
  clear hr hcell h1 hc hm h2
  go_wp2_with fail
  go_loopw [5, 7] (fun v5 v7 wr => ∃ n : Nat, n ≤ d - c + 1 ∧ v7 = .int .i64 n ∧ OwnI wr w1.heap.size v5 (coL x c (min n (d - c))) ∧ Below w1.heap.size w1 wr) (fun _ v7 _ => d - c + 1 - (intOf v7).toNat)
  case atStart => exact ⟨0, by omega, rfl, by rw [Nat.zero_min]; exact World.ownsRow_nil _ _ _ _, Below.refl _ _⟩
  case round =>
    obtain ⟨n, hn, rfl, hown, hb1⟩ := hrel
    have hB := hb1.size
    by_cases hlt : n < d - c + 1
    · have hcn : wr.cell? ⟨b, off + n, none⟩ = some (.int .i64 (anc x (c + n) : Nat)) := (hb1.cell (p := ⟨b, off + n, none⟩) hbw).trans (HC.out n _ (upL_get x c _ n hlt))
      by_cases hlast : n < d - c
      · rw [Nat.min_eq_left (by omega)] at hown
        have hown' := Lib.hid hown
        clear hown
        obtain ⟨p5, hp5⟩ : ∃ p, p = coL x c n := ⟨_, rfl⟩
        rw [← hp5] at hown'
        have HP5 := Lib.hid hp5
        clear hp5
        have HLEN := Lib.hid (show p5.length = n by rw [HP5.out]; exact coL_length _ _ _)
        go_wp2_with (first | (go_at_call 20; refine (hS n hlast _).mono ?_; rintro e w' ⟨rfl, rfl⟩) | (at_builtin; refine push rfl _ _ rfl rfl rfl hown' hb1 hB ?c1 ?_))
        case c1 => have := HLEN.out; omega
        intro v' w' h1 h2 h3
        have h1' : OwnI w' w1.heap.size v' (coL x c (n + 1)) := by rw [coL_succ, ← HP5.out]; exact h1
        have H1 := Lib.hid h1'
        clear h1 h1' hown'
        go_wp2
        go_roundw
        case rel => exact ⟨n + 1, by omega, by go_num, by rw [Nat.min_eq_left (by omega)]; exact H1.out, h2⟩
        case measure => simp [intOf]; omega
      · obtain rfl : n = d - c := by omega
        rw [Nat.min_self] at hown
        have H1 := Lib.hid hown
        rw [show c + (d - c) = d by omega] at hcn
        go_wp2_with (go_at_call 20; refine (hR _).mono ?_; rintro e w' ⟨rfl, rfl⟩)
        go_roundw
        case rel => exact ⟨d - c + 1, by omega, by go_num, by rw [Nat.min_eq_right (by omega)]; exact H1.out, hb1⟩
        case measure => simp [intOf]
    · obtain rfl : n = d - c + 1 := by omega
      rw [Nat.min_eq_right (by omega)] at hown
      have H1 := Lib.hid hown
      go_wp2
      go_ret
      exact ⟨_, rfl, by obtain ⟨h1, h2⟩ := H1.out; exact own_lower h3 ⟨h1, h2⟩, HB1.out.trans (hb1.mono h3)⟩
end Go.Proofs.YtenaljhkdnhgpaaGreatDoor
