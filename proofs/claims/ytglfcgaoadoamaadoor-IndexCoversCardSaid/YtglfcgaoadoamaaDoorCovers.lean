/- The walk of the law IndexCovers. -/
import Derived.Test.YtglfcgaoadoamaaDoorPaths
import Derived.Test.YtglfcgaoadoamaaDoorCov
namespace Go.Proofs.YtglfcgaoadoamaaDoor
open Go.RowKit

theorem OwnI.below {w w' : World} {B : Nat} {v : Value} {l : List Int} (ho : OwnI w B v l) (hb : Below w.heap.size w w') : OwnI w' B v l := by
  have hlt := World.ownsRow.lt ho
  refine ⟨ho.1, ?_⟩
  rcases ho.2 with h1 | ⟨g, cap, cur, rfl, h2, h3, h4⟩
  · exact .inl h1
  · refine .inr ⟨g, cap, cur, rfl, h2, ?_, h4⟩
    rw [hb.block g (hlt g rfl).2]
    exact h3
theorem OwnI.drewN {w : World} {B : Nat} {v : Value} {l : List Int} (ho : OwnI w B v l) (n : Nat) : OwnI (w.drewN n) B v l := ho
theorem OwnI.cell {w : World} {B g n cap : Nat} {f : Nat → Int} (ho : OwnI w B (.slice (some ⟨g, 0, none⟩) n cap) (ML n f)) (i : Nat) (hi : i < n) : w.cell? ⟨g, i, none⟩ = some (.int .i64 (f i)) := by
  have h : w.ownsRow B 3 1 (.slice (some ⟨g, 0, none⟩) n cap) n ((ML n f).map (Value.int .i64)) := by
    have h0 : w.ownsRow B 3 1 (.slice (some ⟨g, 0, none⟩) n cap) (ML n f).length ((ML n f).map (Value.int .i64)) := ho
    rwa [ML_length] at h0
  rw [h.cellAt i (by omega), List.getElem?_map, ML_get _ _ _ hi]
  rfl
theorem OwnI.frozen {w : World} {B g n cap : Nat} {f : Nat → Int} (ho : OwnI w B (.slice (some ⟨g, 0, none⟩) n cap) (ML n f)) (i : Nat) : w.frozen? ⟨g, i, none⟩ = false := by
  have h : w.ownsRow B 3 1 (.slice (some ⟨g, 0, none⟩) n cap) n ((ML n f).map (Value.int .i64)) := by
    have h0 : w.ownsRow B 3 1 (.slice (some ⟨g, 0, none⟩) n cap) (ML n f).length ((ML n f).map (Value.int .i64)) := ho
    rwa [ML_length] at h0
  exact h.frozenAt i
theorem OwnI.set {w : World} {B g n cap : Nat} {f : Nat → Int} (ho : OwnI w B (.slice (some ⟨g, 0, none⟩) n cap) (ML n f)) (i : Nat) (u : Int) :
    OwnI (w.setCell ⟨g, i, none⟩ (.int .i64 u)) B (.slice (some ⟨g, 0, none⟩) n cap) (ML n fun q => if q = i then u else f q) := by
  have h : w.ownsRow B 3 1 (.slice (some ⟨g, 0, none⟩) n cap) n ((ML n f).map (Value.int .i64)) := by
    have h0 : w.ownsRow B 3 1 (.slice (some ⟨g, 0, none⟩) n cap) (ML n f).length ((ML n f).map (Value.int .i64)) := ho
    rwa [ML_length] at h0
  show World.ownsRow _ B 3 1 _ (ML n _).length _
  rw [ML_length, ← ML_set, List.map_set]
  exact (h.stored i _).1
theorem OwnI.ext {w : World} {B n : Nat} {v : Value} {f f' : Nat → Int} (ho : OwnI w B v (ML n f)) (h : ∀ q, q < n → f q = f' q) : OwnI w B v (ML n f') := ML_ext h ▸ ho

theorem Good.set {w w' : World} (h : Good w w') {g i : Nat} (hpos : 0 < w.heap.size) (hg : w.heap.size ≤ g) (u : Value) : Good w (w'.setCell ⟨g, i, none⟩ u) :=
  have hb := h.2.setCell (p := ⟨g, i, none⟩) hg u
  ⟨h.1.below (w := w') (B := g) (by omega) ((Below.refl g w').setCell (p := ⟨g, i, none⟩) (Nat.le_refl _) u), hb⟩
theorem pathL_len (x c n : Nat) : ((x : Int) :: coL x c n).length = n + 1 := by simp [coL_length]

/-- What the walk of covers holds at i nodes done. -/
structure Cov (w : World) (g n b o : Nat) (P : List Int) (f : Nat → Int) (wr : World) : Prop where
  own : OwnI wr g (.slice (some ⟨g, 0, none⟩) n n) (ML n f)
  cells : ∀ i y, P[i]? = some y → wr.cell? ⟨b, o + i, none⟩ = some (.int .i64 y)
  good : Good w wr
theorem Cov.drewN {w : World} {g n b o : Nat} {P : List Int} {f : Nat → Int} {wr : World} (h : Cov w g n b o P f wr) (k : Nat) : Cov w g n b o P f (wr.drewN k) := ⟨h.own.drewN k, h.cells, h.good.drewN k⟩
theorem Cov.ext {w : World} {g n b o : Nat} {P : List Int} {f f' : Nat → Int} {wr : World} (h : Cov w g n b o P f wr) (he : ∀ q, q < n → f q = f' q) : Cov w g n b o P f' wr := ⟨h.own.ext he, h.cells, h.good⟩
theorem Cov.set {w : World} {g n b o : Nat} {P : List Int} {f f' : Nat → Int} {wr : World} (h : Cov w g n b o P f wr) (hpos : 0 < w.heap.size) (hg : w.heap.size ≤ g) (hbg : b ≠ g) (t : Nat) (u : Int) (he : ∀ q, q < n → (if q = t then u else f q) = f' q) :
    Cov w g n b o P f' (wr.setCell ⟨g, t, none⟩ (.int .i64 u)) :=
  ⟨(h.own.set t u).ext he, fun i y hi => by
    exact (World.cell?_setCell_far wr ⟨g, t, none⟩ ⟨b, o + i, none⟩ _ (fun e => hbg e.symm)).trans (h.cells i y hi), h.good.set hpos hg _⟩

set_option maxHeartbeats 2000000 in
theorem covers_in (x c j d : Nat) (hd : d ≤ 10) (hN : Nd x c j) (hx : x + 1 < 2 ^ (d + 1)) (w : World) (hT : Tab w) :
    Calls Tryd.prog 5 #[.int .i64 x, .int .i64 (2 ^ d : Nat)] w fun e w' => e = .returned (.bool true) ∧ Below w.heap.size w w' := by
  have hpos := hT.pos
  have hc : c ≤ d := by have := hN.level_lt hx; omega
  have h17 := fun w hT => copath_yes x c j d (by omega) hN hx w hT
  have hn1 : 2 ^ d ≤ 1024 := Nat.le_trans (Nat.pow_le_pow_right (by decide) hd) (by decide)
  have hts := two_succ d
  have hpd := two_pos d
  have h18 : ∀ w, Calls Tryd.prog 18 #[.int .i64 (2 ^ d : Nat)] w fun e w' => e = .returned (.int .i64 (2 * ((2 ^ d : Nat) : Int) - 1)) ∧ w = w' := fun w => by
    have := width ((2 ^ d : Nat) : Int) w (by omega)
    rwa [widthOf, if_pos (isT_pow d (by omega))] at this
  have h19 : ∀ i, i ≤ d - c → ∃ lo z : Nat, lo ≤ z ∧ z < 2 ^ d ∧ (∀ q, mine x c j i q = if lo ≤ q ∧ q < z + 1 then 1 else 0) ∧ ∀ w, Tab w → Calls Tryd.prog 19 #[.int .i64 (ndAt x c i : Nat)] w fun e w' => e = .returned (.tuple #[.int .i64 lo, .int .i64 z]) ∧ ∃ n, w' = w.drewN n := fun i hi => by
    have hnd := ndAt_nd x c j hN i
    have h1 := span_in x c j d i hN hx hc hi
    have h2 := two_pos (lvAt c i)
    have h3 := node_lt x c j d i hN hx hc hi
    have h4 := lvAt_le c d i hc hi
    refine ⟨ixAt x c j i * 2 ^ lvAt c i, ixAt x c j i * 2 ^ lvAt c i + 2 ^ lvAt c i - 1, by omega, by omega, fun q => ?_, fun w hT => ?_⟩
    · rw [mine_iff, show ixAt x c j i * 2 ^ lvAt c i + 2 ^ lvAt c i - 1 + 1 = ixAt x c j i * 2 ^ lvAt c i + 2 ^ lvAt c i by omega]
    · have := span_yes (ndAt x c i) _ _ hnd (by omega) (by omega) w hT
      rwa [show (((ixAt x c j i * 2 ^ lvAt c i : Nat) : Int) + ((2 ^ lvAt c i : Nat) : Int) - 1) = ((ixAt x c j i * 2 ^ lvAt c i + 2 ^ lvAt c i - 1 : Nat) : Int) by omega] at this
  have hAll : ∀ q, q < 2 ^ d → met x c (d - c + 1) q = 1 := fun q hq => met_all x c d q hc hq hx
  have hMet : ∀ i q, met x c (i + 1) q = met x c i q + mine x c j i q := fun i q => met_succ x c j i q hN
  have hMz : ∀ i q, mine x c j i q = 1 → met x c i q = 0 := fun i q => met_zero x c j i q hN
  generalize mine x c j = mn at *
  have hget := fun i (hi : i < d - c + 1) => pathL_get x c (d - c) i hi
  have hlen := pathL_len x c (d - c)
  have hln := coL_length x c (d - c)
  obtain ⟨n, hn⟩ : ∃ n, n = 2 ^ d := ⟨_, rfl⟩
  rw [← hn] at hn1 hts hpd h17 h18 h19 hAll ⊢
  obtain ⟨W, hW⟩ : ∃ W : Int, W = 2 * (n : Int) - 1 := ⟨_, rfl⟩
  rw [← hW] at h18
  have t1 : decide ((1024 : Int) < (n : Int)) = false := decide_eq_false (by omega)
  have t1' : decide (1024 < n) = false := decide_eq_false (by omega)
  have t2 : (W == 0) = false := by rw [beq_eq_false_iff_ne]; omega
  have t3 : decide ((x : Int) < 0) = false := by simp
  have t4 : decide (W ≤ (x : Int)) = false := decide_eq_false (by omega)
  obtain ⟨N6, hN6⟩ : ∃ k, k = d - c + 1 := ⟨_, rfl⟩
  have HN6 := Lib.hid hN6
  rw [← hN6] at hAll hget hlen
  have n6l : N6 ≤ 11 := by omega
  have n6p : 0 < N6 := by omega
  clear hN6
  have H19 := Lib.hid h19
  have HM := Lib.hid (And.intro hAll (And.intro hMet hMz))
  have HG := Lib.hid (And.intro hget (And.intro hlen hln))
  have hm0 : ∀ q, met x c 0 q = 0 := fun q => rfl
  clear h19 hAll hMet hMz hget hlen hln hN hx hts hW hn
  generalize coL x c (d - c) = cl at *
  generalize met x c = mt at *
  generalize ndAt x c = na at *
  obtain ⟨i0, hinf, hz0, hz1, hz2⟩ := info_parts info3
  obtain ⟨w1, hmk, ho, hg⟩ := run_make_full (P := Tryd.prog) w w.heap.size 26 3 i0 (.int .i64 0) 1 Tryd.underlying26 hinf hz0 hz1 .i64 .i64 n (by rw [hz2]; omega) (by unfold maxLen; omega) (Nat.le_refl _)
  have ho1 : OwnI w1 w.heap.size (.slice (some ⟨w.heap.size, 0, none⟩) n n) (ML n (mt 0)) := by
    have e : (madeCells (Value.cells (.int .i64 0)) (n * 1)).toList = (ML n (mt 0)).map (Value.int .i64) := by
      rw [Nat.mul_one, show Value.cells (.int .i64 0) = #[.int .i64 0] from rfl, toList_madeCells_one]
      unfold ML
      rw [List.map_map]
      apply List.ext_getElem?
      intro k
      by_cases hk : k < n <;> simp [hk, hm0]
    rw [e] at ho
    show World.ownsRow _ _ 3 1 _ (ML n _).length _
    rw [ML_length]
    exact ho
  have b1 : Below w.heap.size w w1 := (Below.refl _ _).grown hg (Nat.le_refl _) (fun k h => nomatch h)
  have hlt1 : w.heap.size < w1.heap.size := (World.ownsRow.lt ho w.heap.size rfl).2
  have g1 : Good w w1 := ⟨hT.below hpos b1, b1⟩
  have HO1 := Lib.hid ho1
  clear ho hg ho1 b1
  go_enter Tryd.func5, Tryd.ntmps5
  go_wp2_with (go_at_call 18; refine (h18 _).mono ?_; rintro e w' ⟨rfl, rfl⟩)
  have hp1 : 0 < w1.heap.size := by omega
  refine (h17 _ (g1.1.below hp1 ((Below.refl _ _).alloc (Nat.le_refl _) _))).mono ?_
  rintro e w2 ⟨v, rfl, hi, hb2⟩
  obtain ⟨o1, o2, o3⟩ := own_one hb2
  have O1 := Lib.hid o1
  have hi' := hi.ints
  clear o1 hb2 hi
  go_wp2_with (at_builtin; refine append_ints rfl _ _ rfl rfl rfl O1 hi' o2 o3 ?c1 ?_)
  case c1 => have := HG.out.2.2; simp; omega
  intro v6 w3 h1 h2 h3
  have hlt6 := World.ownsRow.lt h1
  have i6 := h1.ints
  have own3 := HO1.out.below h2
  have g3 := g1.call hpos h2
  clear O1 hi' o2 o3 h1 h2 h3 h17
  obtain ⟨A6, c6, rfl, k6, l6, r6⟩ := i6
  have e61 : ([(x : Int)] ++ cl).length = N6 := HG.out.2.1
  rw [HG.out.2.1] at k6 r6
  first | rw [HG.out.2.1] | rw [e61]
  obtain ⟨b6, o6, rfl, cell6⟩ := r6 n6p
  have hb6 := (hlt6 b6 rfl).1
  have C3 : Cov w w.heap.size n b6 o6 ((x : Int) :: cl) (mt 0) w3 := ⟨own3, cell6, g3⟩
  have hbg : b6 ≠ w.heap.size := by omega
  have HC3 := Lib.hid C3
  unfold maxLen at l6
  clear C3 own3 cell6 g3 hlt6 r6 hb6 HO1
  go_wp2_with fail
  go_loopw [7] (fun v7 wr => ∃ i : Nat, i ≤ N6 ∧ v7 = .int .i64 i ∧ Hid (Cov w w.heap.size n b6 o6 ((x : Int) :: cl) (mt i) wr)) (fun v7 _ => N6 + 1 - (intOf v7).toNat)
  case atStart => exact ⟨0, by omega, rfl, HC3⟩
  case round =>
    obtain ⟨i, hi, rfl, HCi⟩ := hrel
    by_cases hlt : i < N6
    · have c1 : wr.cell? ⟨b6, o6 + i, none⟩ = some (.int .i64 (na i : Nat)) := HCi.out.cells i _ (HG.out.1 i hlt)
      obtain ⟨lo, z, e1, e2, e3, e4⟩ := H19.out i (by have := HN6.out; omega)
      have hTr := HCi.out.good.1
      have HE3 := Lib.hid e3
      clear e3
      generalize na i = y at *
      have s1 : decide ((lo : Int) < 0) = false := by simp
      have s2 : decide ((n : Int) ≤ (z : Int)) = false := decide_eq_false (by omega)
      have s3 : decide (n ≤ z) = false := decide_eq_false (by omega)
      go_wp2_with (go_at_call 19; refine (e4 _ hTr).mono ?_; rintro e w' ⟨rfl, nd, rfl⟩)
      have C0 := HCi.out.drewN nd
      have HD := Lib.hid (C0.ext (f' := fun q => mt i q + if lo ≤ q ∧ q < lo then 1 else 0) (fun q _ => by rw [if_neg (by omega)]; omega))
      clear c1 hTr HCi C0 e4
      go_loopw [10] (fun v10 ws => ∃ t : Nat, lo ≤ t ∧ t ≤ z + 1 ∧ v10 = .int .i64 t ∧ Hid (Cov w w.heap.size n b6 o6 ((x : Int) :: cl) (fun q => mt i q + if lo ≤ q ∧ q < t then 1 else 0) ws)) (fun v10 _ => z + 2 - (intOf v10).toNat)
      case atStart => exact ⟨lo, by omega, by omega, rfl, HD⟩
      case round =>
        obtain ⟨t, j1, j2, rfl, HCt⟩ := hrel
        by_cases hlt2 : t ≤ z
        · have hz : mt i t = 0 := HM.out.2.2 i t (by rw [HE3.out, if_pos (by omega)])
          have ct := HCt.out.own.cell t (by omega)
          simp only [hz, show ¬ (lo ≤ t ∧ t < t) by omega, if_false, Int.add_zero] at ct
          have ft := HCt.out.own.frozen t
          have q1 : (0 : Int) ≤ (t : Int) := by omega
          have q2 : (t : Int) < (n : Int) := by omega
          have q3 : (t : Int) ≤ (z : Int) := by omega
          have q4 : t < n := by omega
          have HZ := Lib.hid hz
          clear hz
          go_wp2
          go_roundw
          case rel =>
            refine ⟨t + 1, by omega, by omega, by go_num, Lib.hid (HCt.out.set hpos (Nat.le_refl _) hbg t 1 (fun q hq => ?_))⟩
            by_cases e : q = t
            · subst e
              rw [if_pos rfl, if_pos (by omega), HZ.out]
              rfl
            · rw [if_neg e]
              congr 1
              by_cases e2 : lo ≤ q ∧ q < t
              · rw [if_pos e2, if_pos (by omega)]
              · rw [if_neg e2, if_neg (by omega)]
          case measure => simp [intOf]; omega
        · obtain rfl : t = z + 1 := by omega
          have q3 : decide ((z : Int) + 1 ≤ (z : Int)) = false := decide_eq_false (by omega)
          go_wp2
          go_roundw
          case rel => exact ⟨i + 1, by omega, by go_num, Lib.hid (HCt.out.ext fun q hq => by rw [HM.out.2.1, HE3.out])⟩
          case measure => simp [intOf]; omega
    · obtain rfl : i = N6 := by omega
      clear hlt hi
      have hG := HCi.out.good
      go_wp2_with fail
      go_loop [11] (fun v11 => ∃ t : Nat, t ≤ n ∧ v11 = .int .i64 t) (fun v11 => n + 1 - (intOf v11).toNat)
      case atStart => exact ⟨0, by omega, rfl⟩
      case round =>
        obtain ⟨t, ht, rfl⟩ := hrel
        by_cases hlt2 : t < n
        · have ct := HCi.out.own.cell t hlt2
          rw [HM.out.1 t hlt2] at ct
          have q1 : (0 : Int) ≤ (t : Int) := by omega
          have q2 : (t : Int) < (n : Int) := by omega
          go_wp2
          go_round
          case rel => exact ⟨t + 1, by omega, by go_num⟩
          case measure => simp [intOf]; omega
        · obtain rfl : t = n := by omega
          go_wp2_with (go_at_call 12; refine (alive _ hG.1).mono ?_; rintro e w' ⟨rfl, hb⟩)
          go_ret
          exact ⟨rfl, (hG.call hpos hb).2⟩
theorem covers_out (x l : Int) (w : World) (hl : l ≤ 9223372036854775807) (hT : Tab w) (h : 1024 < l ∨ widthOf l = 0 ∨ x < 0 ∨ widthOf l ≤ x) :
    Calls Tryd.prog 5 #[.int .i64 x, .int .i64 l] w fun e w' => e = .returned (.bool true) ∧ Below w.heap.size w w' := by
  have h18 := fun w => width l w hl
  generalize widthOf l = W at *
  have h12 := alive w hT
  clear hT hl
  by_cases h1 : (1024 : Int) < l
  · have t1 : decide ((1024 : Int) < l) = true := decide_eq_true h1
    clear h h1
    go_enter Tryd.func5, Tryd.ntmps5
    go_wp2_with (first | (go_at_call 18; refine (h18 _).mono ?_; rintro e w' ⟨rfl, rfl⟩) | (go_at_call 12; refine h12.mono ?_; rintro e w' ⟨rfl, hb⟩))
    go_ret
    exact ⟨rfl, hb⟩
  have t1 : decide ((1024 : Int) < l) = false := decide_eq_false h1
  by_cases h2 : W = 0
  · have t2 : (W == 0) = true := by rw [beq_iff_eq]; exact h2
    clear h h1 h2
    go_enter Tryd.func5, Tryd.ntmps5
    go_wp2_with (first | (go_at_call 18; refine (h18 _).mono ?_; rintro e w' ⟨rfl, rfl⟩) | (go_at_call 12; refine h12.mono ?_; rintro e w' ⟨rfl, hb⟩))
    go_ret
    exact ⟨rfl, hb⟩
  have t2 : (W == 0) = false := by rw [beq_eq_false_iff_ne]; exact h2
  by_cases h3 : x < 0
  · have t3 : decide (x < 0) = true := decide_eq_true h3
    clear h h1 h2 h3
    go_enter Tryd.func5, Tryd.ntmps5
    go_wp2_with (first | (go_at_call 18; refine (h18 _).mono ?_; rintro e w' ⟨rfl, rfl⟩) | (go_at_call 12; refine h12.mono ?_; rintro e w' ⟨rfl, hb⟩))
    go_ret
    exact ⟨rfl, hb⟩
  have t3 : decide (x < 0) = false := decide_eq_false h3
  have h4 : W ≤ x := by omega
  have t4 : decide (W ≤ x) = true := decide_eq_true h4
  clear h h1 h2 h3 h4
  go_enter Tryd.func5, Tryd.ntmps5
  go_wp2_with (first | (go_at_call 18; refine (h18 _).mono ?_; rintro e w' ⟨rfl, rfl⟩) | (go_at_call 12; refine h12.mono ?_; rintro e w' ⟨rfl, hb⟩))
  go_ret
  exact ⟨rfl, hb⟩
theorem covers (x l : Int) (_ : x ≤ 9223372036854775807) (hl : l ≤ 9223372036854775807) (w : World) (hT : Tab w) :
    Calls Tryd.prog 5 #[.int .i64 x, .int .i64 l] w fun e w' => e = .returned (.bool true) ∧ Below w.heap.size w w' := by
  by_cases h : 1024 < l ∨ widthOf l = 0 ∨ x < 0 ∨ widthOf l ≤ x
  · exact covers_out x l w hl hT h
  · unfold widthOf at h
    by_cases ht : isT l = true
    · rw [if_pos ht] at h
      obtain ⟨d, hd, rfl⟩ := isT_iff.1 ht
      obtain ⟨m, rfl⟩ : ∃ m : Nat, x = m := ⟨x.toNat, by omega⟩
      obtain ⟨c, j, hN⟩ := Nd.make m
      have hd10 : d ≤ 10 := by
        rcases Nat.lt_or_ge 10 d with h11 | h11
        · have : 2 ^ 11 ≤ 2 ^ d := Nat.pow_le_pow_right (by decide) h11
          omega
        · exact h11
      have hts := two_succ d
      exact covers_in m c j d hd10 hN (by omega) w hT
    · rw [if_neg ht] at h
      exact absurd (.inr (.inl rfl)) h
end Go.Proofs.YtglfcgaoadoamaaDoor
