/- The walk of the law IndexPaths. -/
import Derived.Test.YtglfcgaoadoamaaDoorNodes
import Derived.Deep.RegionHeld3
import Derived.Deep.DrawnRows
namespace Go.Proofs.YtglfcgaoadoamaaDoor
open Go.RowKit

theorem Ints.drop {w : World} {b off n c : Nat} {l : List Int} (k : Nat) (hk : k ≤ l.length) (hl : l.length = n) (hn : n ≤ c) (hc : c ≤ maxLen)
    (h : ∀ i x, l[i]? = some x → w.cell? ⟨b, off + i, none⟩ = some (.int .i64 x)) (A : Option Addr) (hA : k < n → A = some ⟨b, off + k, none⟩) : Ints w (.slice A (n - k) (c - k)) (l.drop k) := by
  refine ⟨A, c - k, by rw [List.length_drop, hl], by rw [List.length_drop]; omega, by omega, fun h0 => ⟨b, off + k, hA (by rw [List.length_drop] at h0; omega), fun i x hi => ?_⟩⟩
  rw [Nat.add_assoc]
  exact h _ x (by rw [← hi, List.getElem?_drop])

/-- The levels above a from ca: the first k of them are below where the two meet. -/
theorem meet_spec (a b cb : Nat) : ∀ n k, k ≤ meet a b cb n k ∧ meet a b cb n k ≤ k + n ∧ (∀ m, k ≤ m → m < meet a b cb n k → ¬ (cb ≤ m ∧ anc b m = anc a m)) ∧ (cb ≤ k + n ∧ anc b (k + n) = anc a (k + n) → cb ≤ meet a b cb n k ∧ anc b (meet a b cb n k) = anc a (meet a b cb n k)) := by
  intro n
  induction n with
  | zero => intro k; exact ⟨Nat.le_refl _, Nat.le_refl _, fun m h1 h2 => by simp [meet] at h2; omega, fun h => h⟩
  | succ n ih =>
    intro k
    unfold meet
    split
    · rename_i h
      exact ⟨Nat.le_refl _, by omega, fun m h1 h2 => by omega, fun _ => h⟩
    · rename_i h
      obtain ⟨i1, i2, i3, i4⟩ := ih (k + 1)
      refine ⟨by omega, by omega, fun m h1 h2 => ?_, fun hh => i4 (by rw [show k + 1 + n = k + (n + 1) by omega]; exact hh)⟩
      by_cases e : m = k
      · rw [e]; exact h
      · exact i3 m (by omega) h2
theorem direct_all (x c j d : Nat) (hd : d ≤ 30) (hN : Nd x c j) (hx : x + 1 < 2 ^ (d + 1)) (w : World) (hT : Tab w) :
    Calls Tryd.prog 13 #[.int .i64 x, .int .i64 (2 ^ d : Nat)] w fun e w' => ∃ v, e = .returned v ∧ Ints w' v (upL x (c + 1) (d - c)) ∧ Below w.heap.size w w' := by
  have hu := up_yes x c j d hd hN hx w hT
  rw [← upL_cons x c j (d - c) hN] at hu
  by_cases h : d - c = 0
  · rw [h] at hu ⊢
    rw [show upL x (c + 1) 0 = [] from rfl] at hu ⊢
    exact direct_short x _ [(x : Int)] (by simp) w hu
  · exact direct_long x _ x (upL x (c + 1) (d - c)) (by rw [upL_length]; omega) w hu
theorem upL_drop (x c n k : Nat) : (upL x c n).drop k = upL x (c + k) (n - k) := by
  apply List.ext_getElem?
  intro i
  rw [List.getElem?_drop]
  by_cases h : k + i < n
  · rw [upL_get _ _ _ _ h, upL_get _ _ _ _ (by omega), Nat.add_assoc]
  · rw [List.getElem?_eq_none (by rw [upL_length]; omega), List.getElem?_eq_none (by rw [upL_length]; omega)]
theorem anc_inj {x m k : Nat} (h : anc x m = anc x k) : m = k := (anc_nd x m).unique (h ▸ anc_nd x k)
/-- From where they meet on, two rows are one. -/
theorem upL_meet (a b M n : Nat) (h : anc b M = anc a M) : upL a M n = upL b M n := by
  unfold upL
  apply List.map_congr_left
  intro i _
  rw [← anc_anc a M (M + i) (by omega), ← anc_anc b M (M + i) (by omega), h]

def Good (w w' : World) : Prop := Tab w' ∧ Below w.heap.size w w'
theorem Good.call {w w' w'' : World} (h : Good w w') (hpos : 0 < w.heap.size) (hb : Below w'.heap.size w' w'') : Good w w'' :=
  have hc := h.2.trans (hb.mono h.2.size)
  ⟨Tab.below (w := w') h.1 (by have := h.2.size; omega) hb, hc⟩
theorem Good.drewN {w w' : World} (h : Good w w') (n : Nat) : Good w (w'.drewN n) := ⟨h.1.drewN n, below_drewN h.2 n⟩
theorem Good.drew {w w' : World} (h : Good w w') : Good w w'.drew := h.drewN 1
theorem held_drew {w w' : World} {A : Addr} {z : Value} (h : w'.cell? A = some z ∧ Good w w') : w'.drew.cell? A = some z ∧ Good w w'.drew := ⟨h.1, h.2.drew⟩
theorem held_tab {w w' : World} {A : Addr} {z : Value} (h : w'.cell? A = some z ∧ Good w w') : Tab w' := h.2.1
theorem held_call {w w' w'' : World} {A : Addr} {z : Value} (hpos : 0 < w.heap.size) (h : w'.cell? A = some z ∧ Good w w') (hb : Below w'.heap.size w' w'') : w''.cell? A = some z ∧ Good w w'' :=
  ⟨(hb.cell (World.block_lt_of_cell? w' _ h.1)).trans h.1, h.2.call hpos hb⟩
set_option maxHeartbeats 1000000 in
theorem paths_out (a b l : Int) (w : World) (hT : Tab w) (hc : Calls Tryd.prog 8 #[.int .i64 a, .int .i64 b, .int .i64 l] w fun e w' => e = .returned (.int .i64 (-1)) ∧ w = w') :
    Calls Tryd.prog 4 #[.int .i64 a, .int .i64 b, .int .i64 l] w fun e w' => e = .returned (.bool true) ∧ Below w.heap.size w w' := by
  go_enter Tryd.func4, Tryd.ntmps4
  go_wp2_with (go_at_call 8; refine hc.mono ?_; rintro e w' ⟨rfl, rfl⟩)
  refine (alive w hT).mono ?_
  rintro e w' ⟨rfl, hb⟩
  go_wp2
  go_ret
  exact ⟨rfl, hb⟩
set_option hygiene false in
local macro "tail" : tactic => `(tactic| (
  go_wp2_with fail
  go_loopw [12] (fun v12 wr => ∃ k m : Nat, k = m + 1 ∧ k ≤ N8 ∧ v12 = .int .i64 (k : Nat) ∧ ∃ j, wr = w5.drewN j) (fun v12 _ => N8 + 1 - (intOf v12).toNat)
  case atStart => exact ⟨1, 0, rfl, by omega, rfl, _, rfl⟩
  case round =>
    obtain ⟨t, m, ht, hm, rfl, jj, rfl⟩ := hrel
    have H8o := H8.out.1
    obtain ⟨wr, hwr⟩ : ∃ wr, wr = w5.drewN jj := ⟨_, rfl⟩
    have hTr : Tab wr := by rw [hwr]; exact g5.1.drewN jj
    have hGr : Good w wr := by rw [hwr]; exact g5.drewN jj
    have hk1 : (t : Int) - 1 = m := by omega
    have hw1 : IntKind.i64.wrap (m : Int) = m := i64_small m (by omega)
    have i4 : (0 : Int) ≤ (m : Int) := by omega
    have i3 : (m : Int) < N8 := by omega
    have i5 : m < N8 := by omega
    by_cases hlt : t < N8
    · have c1 : wr.cell? ⟨b8, o8 + t, none⟩ = some (.int .i64 (anc a (ca + (m + 1)) : Nat)) := by rw [hwr, ← ht]; exact C8.out t _ (upL_get a ca _ _ (by omega))
      have c2 : wr.cell? ⟨b8, o8 + m, none⟩ = some (.int .i64 (anc a (ca + m) : Nat)) := by rw [hwr]; exact C8.out m _ (upL_get a ca _ _ (by omega))
      have L1 := HLev.out (m + 1) (by omega)
      have L2 := HLev.out m (by omega)
      rw [show ((ca + (m + 1) : Nat) : Int) = ((ca + m : Nat) : Int) + 1 by omega] at L1
      obtain ⟨z, hz⟩ : ∃ z, z = ca + m := ⟨_, rfl⟩
      have z1 : z < 4294967296 := by omega
      have HZ := Lib.hid hz
      rw [← hz] at L1 L2 c2
      generalize anc a (ca + (m + 1)) = p1 at *
      generalize anc a z = p2 at *
      have i1 : (t : Int) < N8 := by omega
      have i2 : (0 : Int) ≤ (t : Int) := by omega
      have HWR := Lib.hid hwr
      have HT' := Lib.hid ht
      rw [← hwr]
      clear hwr hz H8o ht
      go_wp2_with fail
      have M1 : ∀ n, Calls Tryd.prog 15 #[.int .i64 p1] (wr.drewN n) fun e w' => e = .returned (.int .i64 ((z : Int) + 1)) ∧ w' = wr.drewN n := fun n => (L1 _ (hTr.drewN n)).mono (fun e w' h => ⟨h.1, h.2.symm⟩)
      have M2 : ∀ n, Calls Tryd.prog 15 #[.int .i64 p2] (wr.drewN n) fun e w' => e = .returned (.int .i64 (z : Int)) ∧ w' = wr.drewN n := fun n => (L2 _ (hTr.drewN n)).mono (fun e w' h => ⟨h.1, h.2.symm⟩)
      have hzz : (((z : Int) + 1) != ((z : Int) + 1)) = false := by simp
      clear L1 L2
      go_quiet ((go_at_call 15; (first | (with_reducible exact Calls.quiet_of_same (M1 _)) | (with_reducible exact Calls.quiet_of_same (M2 _)))))
      go_wp2_with fail
      go_roundw
      case rel => exact ⟨t + 1, t, rfl, by omega, by go_num, _, by rw [HWR.out]; exact World.drewN_drewN ..⟩
      case measure => simp [intOf]; omega
    · have ht8 : t = N8 := by omega
      have cN : wr.cell? ⟨b8, o8 + m, none⟩ = some (.int .i64 (anc a d : Nat)) := by
        rw [hwr, show d = ca + m by omega]; exact C8.out m _ (upL_get a ca _ _ (by omega))
      have hq : d - ca = m := by omega
      rw [hq] at h17
      have hk2 : (N8 : Int) - 1 = m := by omega
      have hf : decide ((t : Int) < (N8 : Int)) = false := decide_eq_false (by omega)
      have hH : wr.cell? ⟨b8, o8 + m, none⟩ = some (.int .i64 (anc a d : Nat)) ∧ Good w wr := ⟨cN, hGr⟩
      rw [← hwr]
      clear hwr H8o hq ht ht8
      go_wp2_with fail
      go_region_held3 (fun w' => w'.cell? ⟨b8, o8 + m, none⟩ = some (.int .i64 (anc a d : Nat)) ∧ Good w w') (first | assumption | exact held_drew (by assumption) | exact held_call hpos (by assumption) (by assumption)) (first
        | (go_at_call 16; with_reducible refine (h16 _).mono ?_; rintro e w' ⟨rfl, rfl⟩)
        | (go_at_call 17; with_reducible refine (h17 _ (held_tab (w := w) (by assumption))).mono ?_; rintro e w' ⟨⟨A, c, rfl⟩, hbb⟩)
        | (go_at_call 10; with_reducible refine (hW1 _ (held_tab (w := w) (by assumption))).mono ?_; rintro e w' ⟨rfl, hbb⟩)
        | (go_at_call 10; with_reducible refine (hW2 _ (held_tab (w := w) (by assumption))).mono ?_; rintro e w' ⟨rfl, hbb⟩)
        | (go_at_call 12; with_reducible refine (hAl _ (held_tab (w := w) (by assumption))).mono ?_; rintro e w' ⟨rfl, hbb⟩))
      all_goals go_wp2
      all_goals go_ret
      all_goals exact ⟨rfl, (And.right (And.right (by assumption)))⟩))
set_option maxHeartbeats 4000000 in
set_option maxRecDepth 100000 in
theorem paths_in (a ca ja b cb jb d : Nat) (hd : d ≤ 30) (hN : Nd a ca ja) (hM : Nd b cb jb) (ha : a + 1 < 2 ^ (d + 1)) (hb : b + 1 < 2 ^ (d + 1)) (w : World) (hT : Tab w) :
    Calls Tryd.prog 4 #[.int .i64 a, .int .i64 b, .int .i64 (2 ^ d : Nat)] w fun e w' => e = .returned (.bool true) ∧ Below w.heap.size w w' := by
  have h8 := common_yes a ca ja b cb jb d hd hN hM ha hb w hT
  have hca : ca ≤ d := by have := hN.level_lt ha; omega
  have hcb : cb ≤ d := by have := hM.level_lt hb; omega
  have hroot : anc b d = anc a d := by rw [anc_root a d (by omega), anc_root b d (by omega)]
  obtain ⟨m1, m2, m3, m4⟩ := meet_spec a b cb (d - ca) ca
  rw [show ca + (d - ca) = d by omega] at m2 m4
  obtain ⟨m4, m5⟩ := m4 ⟨hcb, hroot⟩
  generalize meet a b cb (d - ca) ca = M at *
  have hD1 := fun w hT => direct_all a ca ja d hd hN ha w hT
  have hD2 := fun w hT => direct_all b cb jb d hd hM hb w hT
  have HC1 := Lib.hid (upL_cons a ca ja (d - ca) hN)
  have HC2 := Lib.hid (upL_cons b cb jb (d - cb) hM)
  have hlt : anc a M < 4294967296 := by have := anc_lt ha m2; have := pow_le hd; have := two_succ d; omega
  have hpos := hT.pos
  have hap := pow_le hd
  have hts := two_succ d
  have hLev : ∀ m, ca + m ≤ d → ∀ w, Tab w → Calls Tryd.prog 15 #[.int .i64 (anc a (ca + m) : Nat)] w fun e w' => e = .returned (.int .i64 ((ca + m : Nat) : Int)) ∧ w = w' := fun m hm w hT =>
    level_at _ _ _ (anc_nd a (ca + m)) (by have := anc_lt ha hm; omega) w hT
  have h16 : ∀ w, Calls Tryd.prog 16 #[.int .i64 (2 ^ d : Nat)] w fun e w' => e = .returned (.int .i64 (anc a d : Nat)) ∧ w = w' := fun w => by
    have := root ((2 ^ d : Nat) : Int) w (by omega)
    rw [rootOf, if_pos (isT_pow d hd)] at this
    rw [anc_root a d (by omega), show ((2 ^ d - 1 : Nat) : Int) = ((2 ^ d : Nat) : Int) - 1 by have := two_pos d; omega]
    exact this
  have h17 : ∀ w, Tab w → Calls Tryd.prog 17 #[.int .i64 a, .int .i64 (2 ^ d : Nat)] w fun e w' => (∃ A c, e = .returned (.slice A (d - ca) c)) ∧ Below w.heap.size w w' := fun w hT =>
    (copath_yes a ca ja d hd hN ha w hT).mono fun e w' h => by
      obtain ⟨v, rfl, ho, hb⟩ := h
      obtain ⟨A, c, rfl, _⟩ := ho.ints
      rw [coL_length]
      exact ⟨⟨A, c, rfl⟩, hb⟩
  have hW1 : ∀ w, Tab w → Calls Tryd.prog 10 #[.int .i64 a, .int .i64 (anc a M : Nat)] w fun e w' => e = .returned (.bool true) ∧ Below w.heap.size w w' := fun w hT =>
    (within_at a ca ja _ _ _ hN (anc_nd a M) (by omega) (by omega) w hT m1 (by omega)).mono fun e w' h => by
      obtain ⟨rfl, n, rfl⟩ := h
      exact ⟨by rw [decide_eq_true rfl], below_drewN (Below.refl _ _) n⟩
  have hW2 : ∀ w, Tab w → Calls Tryd.prog 10 #[.int .i64 b, .int .i64 (anc a M : Nat)] w fun e w' => e = .returned (.bool true) ∧ Below w.heap.size w w' := fun w hT =>
    (within_at b cb jb _ _ _ hM (anc_nd a M) (by omega) (by omega) w hT m4 (by omega)).mono fun e w' h => by
      obtain ⟨rfl, n, rfl⟩ := h
      exact ⟨by rw [decide_eq_true m5], below_drewN (Below.refl _ _) n⟩
  have hAl := alive
  have HLev := Lib.hid hLev
  clear hLev hap hts
  generalize hl : ((2 ^ d : Nat) : Int) = l at *
  go_enter Tryd.func4, Tryd.ntmps4
  go_wp2_with (go_at_call 8; refine h8.mono ?_; rintro e w1 ⟨rfl, b1⟩)
  have g1 : Good w w1 := ⟨hT.below hpos b1, b1⟩
  have hp1 : 0 < w1.heap.size := by have := b1.size; omega
  clear h8 b1
  refine (hD1 _ (g1.1.below hp1 ((Below.refl _ _).alloc (Nat.le_refl _) _))).mono ?_
  rintro e w2 ⟨v, rfl, hi, hb2⟩
  obtain ⟨o1, o2, o3⟩ := own_one hb2
  have O1 := Lib.hid o1
  clear o1 hb2
  go_wp2_with (at_builtin; refine append_ints rfl _ _ rfl rfl rfl O1 hi o2 o3 ?c1 ?_)
  case c1 => rw [upL_length]; simp; omega
  intro v8 w3 h1 h2 h3
  rw [HC1.out] at h1
  have I8 := h1.ints
  have g3 := g1.call hpos h2
  clear O1 hi o2 o3 h1 h2 h3 hD1 g1 hp1
  go_wp2_with fail
  have hp3 : 0 < w3.heap.size := by have := g3.2.size; omega
  refine (hD2 _ (g3.1.below hp3 ((Below.refl _ _).alloc (Nat.le_refl _) _))).mono ?_
  rintro e w4 ⟨v', rfl, hi, hb2⟩
  obtain ⟨o1, o2, o3⟩ := own_one hb2
  have O1 := Lib.hid o1
  clear o1 hb2
  go_wp2_with (at_builtin; refine append_ints rfl _ _ rfl rfl rfl O1 hi o2 o3 ?c1 ?_)
  case c1 => rw [upL_length]; simp; omega
  intro v9 w5 h1 h2 h3
  rw [HC2.out] at h1
  have I9 := h1.ints
  have I8' := I8.below h2
  have g5 := g3.call hpos h2
  clear O1 hi o2 o3 h1 h2 h3 hD2 I8 g3 hp3
  obtain ⟨A8, c8, rfl, k8, l8, r8⟩ := I8'
  obtain ⟨A9, c9, rfl, k9, l9, r9⟩ := I9
  rw [upL_length] at k8 r8 k9 r9 ⊢
  rw [upL_length]
  obtain ⟨b8, o8, rfl, cell8⟩ := r8 (by omega)
  obtain ⟨b9, o9, rfl, cell9⟩ := r9 (by omega)
  have C8 := Lib.hid cell8
  have C9 := Lib.hid cell9
  clear r8 r9 cell8 cell9
  obtain ⟨N8, hN8⟩ : ∃ n, n = d - ca + 1 := ⟨_, rfl⟩
  obtain ⟨N9, hN9⟩ : ∃ n, n = d - cb + 1 := ⟨_, rfl⟩
  rw [← hN8] at C8 k8 ⊢
  rw [← hN9] at C9 k9 ⊢
  obtain ⟨i8, hi8⟩ : ∃ n, n = M - ca := ⟨_, rfl⟩
  obtain ⟨i9, hi9⟩ : ∃ n, n = M - cb := ⟨_, rfl⟩
  have x8 : i8 < N8 := by omega
  have x9 : i9 < N9 := by omega
  unfold maxLen at l8 l9
  have y8 : N8 ≤ 9223372036854775807 := by omega
  have y9 : N9 ≤ 9223372036854775807 := by omega
  have H8 := Lib.hid (And.intro hN8 hi8)
  have H9 := Lib.hid (And.intro hN9 hi9)
  have HM5 := Lib.hid m5
  have HRT := Lib.hid hroot
  clear hN8 hN9 hi8 hi9 m5 hroot HC1 HC2
  go_wp2_with fail
  go_loop [10] (fun v10 => ∃ n : Nat, n ≤ i8 ∧ v10 = .int .i64 n) (fun v10 => i8 + 1 - (intOf v10).toNat)
  case atStart => exact ⟨0, by omega, rfl⟩
  case round =>
    obtain ⟨n, hn, rfl⟩ := hrel
    have cn : w5.cell? ⟨b8, o8 + n, none⟩ = some (.int .i64 (anc a (ca + n) : Nat)) := C8.out n _ (upL_get a ca _ n (by omega))
    have q1 : decide (n < N8) = true := decide_eq_true (by omega)
    by_cases hne : n < i8
    · have q2 : (((anc a (ca + n) : Nat) : Int) != ((anc a M : Nat) : Int)) = true := by
        rw [bne_iff_ne]
        intro e
        have := anc_inj (show anc a (ca + n) = anc a M by omega)
        have := H8.out.2
        omega
      generalize anc a (ca + n) = z at *
      go_wp2
      go_round
      case rel => exact ⟨n + 1, by omega, by go_num⟩
      case measure => simp [intOf]; omega
    obtain rfl : n = i8 := by omega
    rw [show ca + n = M by have := H8.out.2; omega] at cn
    have q2 : (((anc a M : Nat) : Int) != ((anc a M : Nat) : Int)) = false := by simp
    clear hne hn
    go_wp2_with fail
    go_loop [11] (fun v11 => ∃ n : Nat, n ≤ i9 ∧ v11 = .int .i64 n) (fun v11 => i9 + 1 - (intOf v11).toNat)
    case atStart => exact ⟨0, by omega, rfl⟩
    case round =>
      obtain ⟨k, hk, rfl⟩ := hrel
      have ck : w5.cell? ⟨b9, o9 + k, none⟩ = some (.int .i64 (anc b (cb + k) : Nat)) := C9.out k _ (upL_get b cb _ k (by omega))
      have r1 : decide (k < N9) = true := decide_eq_true (by omega)
      by_cases hne : k < i9
      · have r2 : (((anc b (cb + k) : Nat) : Int) != ((anc a M : Nat) : Int)) = true := by
          rw [bne_iff_ne]
          intro e
          have := anc_inj (show anc b (cb + k) = anc b M by rw [HM5.out]; omega)
          have := H9.out.2
          omega
        generalize anc b (cb + k) = z at *
        go_wp2
        go_round
        case rel => exact ⟨k + 1, by omega, by go_num⟩
        case measure => simp [intOf]; omega
      obtain rfl : k = i9 := by omega
      rw [show cb + k = M by have := H9.out.2; omega, HM5.out] at ck
      have r2 : (((anc a M : Nat) : Int) != ((anc a M : Nat) : Int)) = false := by simp
      clear hne hk
      go_wp2_with fail
      have hS : ∀ w', (∃ j, w' = w5.drewN j) → Calls Tryd.prog 14 #[.slice (some ⟨b8, o8 + n, none⟩) (N8 - n) (c8 - n), .slice (some ⟨b9, o9 + k, none⟩) (N9 - k) (c9 - k)] w' fun e w'' => e = .returned (.bool true) ∧ ∃ j, w'' = w'.drewN j := by
        rintro w' ⟨j, rfl⟩
        have h1 : Ints (w5.drewN j) (.slice (some ⟨b8, o8 + n, none⟩) (N8 - n) (c8 - n)) ((upL a ca N8).drop n) := Ints.drop n (by rw [upL_length]; omega) (upL_length _ _ _) k8 (by unfold maxLen; omega) C8.out _ (fun _ => rfl)
        have h2 : Ints (w5.drewN j) (.slice (some ⟨b9, o9 + k, none⟩) (N9 - k) (c9 - k)) ((upL b cb N9).drop k) := Ints.drop k (by rw [upL_length]; omega) (upL_length _ _ _) k9 (by unfold maxLen; omega) C9.out _ (fun _ => rfl)
        have := same _ _ _ _ _ h1 h2
        have he : sameB ((upL a ca N8).drop n) ((upL b cb N9).drop k) = true := by
          rw [upL_drop, upL_drop, show ca + n = M by have := H8.out.2; omega, show cb + k = M by have := H9.out.2; omega, upL_meet a b M _ HM5.out, show N8 - n = N9 - k by have := H8.out; have := H9.out; omega]
          exact decide_eq_true rfl
        rw [he] at this
        exact this
      have F3 : ∀ n' k', n = n' + 1 → k = k' + 1 → w5.cell? ⟨b8, o8 + n', none⟩ = some (.int .i64 (anc a (M - 1) : Nat)) ∧ w5.cell? ⟨b9, o9 + k', none⟩ = some (.int .i64 (anc b (M - 1) : Nat)) ∧ (((anc a (M - 1) : Nat) : Int) == ((anc b (M - 1) : Nat) : Int)) = false := by
        intro n' k' e1 e2
        have e8 := H8.out
        have e9 := H9.out
        have q1 := C8.out n' _ (upL_get a ca _ n' (by omega))
        have q2 := C9.out k' _ (upL_get b cb _ k' (by omega))
        rw [show ca + n' = M - 1 by omega] at q1
        rw [show cb + k' = M - 1 by omega] at q2
        refine ⟨q1, q2, ?_⟩
        rw [beq_eq_false_iff_ne]
        intro e
        exact m3 (M - 1) (by omega) (by omega) ⟨by omega, by omega⟩
      have t1 : ((n : Int) == (N8 : Int)) = false := by rw [beq_eq_false_iff_ne]; omega
      have t2 : ((k : Int) == (N9 : Int)) = false := by rw [beq_eq_false_iff_ne]; omega
      have t3 : (0 : Int) ≤ n := by omega
      have t4 : (n : Int) ≤ N8 := by omega
      have t5 : (0 : Int) ≤ k := by omega
      have t6 : (k : Int) ≤ N9 := by omega
      have t7 : n < c8 := by omega
      have t8 : k < c9 := by omega
      clear m1 m2 m3 m4 cn ck q1 q2 r1 r2
      have h3 : n = 0 ∨ (∃ n', n = n' + 1 ∧ k = 0) ∨ (∃ n' k', n = n' + 1 ∧ k = k' + 1) := by
        cases n with
        | zero => exact .inl rfl
        | succ n => cases k with
          | zero => exact .inr (.inl ⟨n, rfl, rfl⟩)
          | succ k => exact .inr (.inr ⟨n, k, rfl, rfl⟩)
      rcases h3 with rfl | ⟨n', rfl, rfl⟩ | ⟨n', k', rfl, rfl⟩
      · clear F3
        have t1' : ((0 : Int) == (N8 : Int)) = false := t1
        go_quiet ((go_at_call 14; (with_reducible exact Calls.quiet_of (hS _ ⟨_, rfl⟩))))
        tail
      · clear F3
        have t1' : (((n' : Int) + 1) == (N8 : Int)) = false := t1
        have t2' : ((0 : Int) == (N9 : Int)) = false := t2
        have t3' : (0 : Int) ≤ (n' : Int) + 1 := t3
        have t4' : (n' : Int) + 1 ≤ (N8 : Int) := t4
        go_quiet ((go_at_call 14; (with_reducible exact Calls.quiet_of (hS _ ⟨_, rfl⟩))))
        tail
      · obtain ⟨u1, u2, u3⟩ := F3 _ _ rfl rfl
        clear F3
        have t1' : (((n' : Int) + 1) == (N8 : Int)) = false := t1
        have t2' : (((k' : Int) + 1) == (N9 : Int)) = false := t2
        have t3' : (0 : Int) ≤ (n' : Int) + 1 := t3
        have t4' : (n' : Int) + 1 ≤ (N8 : Int) := t4
        have t5' : (0 : Int) ≤ (k' : Int) + 1 := t5
        have t6' : (k' : Int) + 1 ≤ (N9 : Int) := t6
        go_quiet ((go_at_call 14; (with_reducible exact Calls.quiet_of (hS _ ⟨_, rfl⟩))))
        tail
theorem paths (a b l : Int) (_ : a ≤ 9223372036854775807) (_ : b ≤ 9223372036854775807) (hl : l ≤ 9223372036854775807) (w : World) (hT : Tab w) :
    Calls Tryd.prog 4 #[.int .i64 a, .int .i64 b, .int .i64 l] w fun e w' => e = .returned (.bool true) ∧ Below w.heap.size w w' := by
  by_cases h : inT a l = true ∧ inT b l = true
  · obtain ⟨n, d, hd, rfl, rfl, hx⟩ := inT_iff.1 h.1
    obtain ⟨m, d', hd', he, rfl, hy⟩ := inT_iff.1 h.2
    have he' : 2 ^ d = 2 ^ d' := by omega
    obtain rfl : d = d' := (Nat.pow_right_inj (by decide)).1 he'
    obtain ⟨ca, ja, hN⟩ := Nd.make n
    obtain ⟨cb, jb, hM⟩ := Nd.make m
    exact paths_in n ca ja m cb jb d hd hN hM hx hy w hT
  · exact paths_out a b l w hT (common_no a b l w hl (by
      cases h1 : inT a l
      · exact .inl rfl
      · cases h2 : inT b l
        · exact .inr rfl
        · exact absurd ⟨h1, h2⟩ h))
end Go.Proofs.YtglfcgaoadoamaaDoor
