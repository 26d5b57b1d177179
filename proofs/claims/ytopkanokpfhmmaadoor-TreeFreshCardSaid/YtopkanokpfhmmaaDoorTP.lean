/- parent: may a parent be? -/
import Derived.Test.YtopkanokpfhmmaaDoorTR
namespace Go.Proofs.YtopkanokpfhmmaaDoor
open Go Go.RowKit
set_option linter.unusedVariables false
set_option linter.unusedSimpArgs false

theorem hi2 {n x : Nat} (hn : lvs n ≠ 0) (hx : x < n) : 2 * hi x < n := by
  obtain ⟨d, hd, rfl⟩ := lvs_iff.1 hn
  have : ∀ d : Fin 4, ∀ x : Fin 16, x.val < 2 ^ (d.val + 1) - 1 → 2 * hi x.val < 2 ^ (d.val + 1) - 1 := by decide
  have h4 : 2 ^ (d + 1) ≤ 2 ^ 4 := Nat.pow_le_pow_right (by decide) (by omega)
  exact this ⟨d, by omega⟩ ⟨x, by omega⟩ hx
theorem lvs_le {n : Nat} (hn : lvs n ≠ 0) : 0 < n ∧ n ≤ 15 := by
  obtain ⟨d, hd, rfl⟩ := lvs_iff.1 hn
  have h4 : 2 ^ (d + 1) ≤ 2 ^ 4 := Nat.pow_le_pow_right (by decide) (by omega)
  have := two_pos d
  have := two_succ d
  omega
theorem span43 (x : Nat) (hx : x < 31) (w : World) (hT : Tab w) : Calls Tryd.prog 43 #[.int .i64 x] w fun e w' => e = .returned (.tuple #[.int .i64 (lo x : Nat), .int .i64 (hi x : Nat)]) ∧ ∃ n, w' = w.drewN n := by
  have hN := nd_lv hx
  have h5 : lvN x ≤ 62 := by
    have : ∀ x : Fin 31, lvN x.val ≤ 62 := by decide
    exact this ⟨x, hx⟩
  have := span_yes x _ _ hN (by omega) h5 w hT
  have hp := two_pos (lvN x)
  have e : (((x / 2 ^ (lvN x + 1) * 2 ^ lvN x : Nat) : Int) + ((2 ^ lvN x : Nat) : Int) - 1) = (hi x : Nat) := by
    unfold hi lo
    omega
  rw [e] at this
  exact this
theorem Ints.at {w : World} {A : Option Addr} {n c : Nat} {l : List Int} (h : Ints w (.slice A n c) l) {k : Nat} {u : Int} (hu : l[k]? = some u) : ∃ b o, A = some ⟨b, o, none⟩ ∧ w.cell? ⟨b, o + k, none⟩ = some (.int .i64 u) := by
  obtain ⟨A', c', e, h1, h2, h3⟩ := h
  injection e with e1 e2 e3
  subst e1
  obtain ⟨b, o, rfl, h4⟩ := h3 (by have := (List.getElem?_eq_some_iff.1 hu).1; omega)
  exact ⟨b, o, rfl, h4 k u hu⟩
set_option maxHeartbeats 1000000 in
theorem parent_low (b o n c : Nat) (F : Nat → Node) (x : Nat) (hx : x < n) (hcm : n ≤ 15) (w : World) (hN : NdAt w b (o + x * 4) (F x)) (hq : (F x).pub < 1 ∨ (F x).mem ≠ 0 ∨ (F x).ep ≠ 0) :
    Calls Tryd.prog 27 #[.agg #[.slice (some ⟨b, o, none⟩) n c], .int .i64 x] w fun e w' => e = .returned (.bool (parB F x)) ∧ Below w.heap.size w w' := by
  have hpb : parB F x = (F x).blank := by unfold parB; rw [if_pos hq]
  rw [hpb]
  obtain ⟨c0, c1, c2, ⟨A, cc, c3, hI⟩, hr⟩ := hN
  have hb0 : b < w.heap.size := World.block_lt_of_cell? w _ c0
  have q1 : (0 : Int) ≤ (x : Int) := by omega
  have q2 : (x : Int) < n := by omega
  have hB : ∀ w, Calls Tryd.prog 28 #[.agg #[.int .i64 (F x).pub, .int .i64 (F x).mem, .int .i64 (F x).ep, .slice A (F x).un.length cc]] w fun e w' => e = .returned (.bool (F x).blank) ∧ Below w.heap.size w w' := fun w => blankN _ _ _ w
  clear hI
  generalize (F x).blank = z at *
  generalize hp : (F x).pub = p at *
  generalize hm : (F x).mem = m at *
  generalize he : (F x).ep = e at *
  generalize hu : (F x).un.length = k at *
  clear hpb
  by_cases t1 : p < 1
  · have t1' : decide (p < 1) = true := decide_eq_true t1
    clear hq t1
    go_enter Tryd.func27, Tryd.ntmps27
    go_wp2_with (go_at_call 28; refine (hB _).mono ?_; rintro e w' ⟨rfl, hb2⟩)
    go_ret
    exact ⟨rfl, (((Below.refl _ _).alloc (Nat.le_refl _) _).alloc (by simp) _).trans (hb2.mono (by simp; omega))⟩
  · have t1' : decide (p < 1) = false := decide_eq_false t1
    by_cases t2 : m = 0
    · have t2' : (m != 0) = false := by simp [t2]
      have t3' : (e != 0) = true := by rw [bne_iff_ne]; omega
      clear hq t2 t1
      go_enter Tryd.func27, Tryd.ntmps27
      go_wp2_with (go_at_call 28; refine (hB _).mono ?_; rintro e w' ⟨rfl, hb2⟩)
      go_ret
      exact ⟨rfl, (((Below.refl _ _).alloc (Nat.le_refl _) _).alloc (by simp) _).trans (hb2.mono (by simp; omega))⟩
    · have t2' : (m != 0) = true := by rw [bne_iff_ne]; exact t2
      clear hq t2 t1
      go_enter Tryd.func27, Tryd.ntmps27
      go_wp2_with (go_at_call 28; refine (hB _).mono ?_; rintro e w' ⟨rfl, hb2⟩)
      go_ret
      exact ⟨rfl, (((Below.refl _ _).alloc (Nat.le_refl _) _).alloc (by simp) _).trans (hb2.mono (by simp; omega))⟩
theorem upB_step (F : Nat → Node) (first last : Int) (us : List Int) (k : Nat) (u : Int) (hu : us[k]? = some u) :
    upB F first last (us.drop k) = if u < first ∨ last < u then false else if (F (2 * u).toNat).pub = 0 then false else upB F (u + 1) last (us.drop (k + 1)) := by
  have : us.drop k = u :: us.drop (k + 1) := by
    have h := (List.getElem?_eq_some_iff.1 hu)
    rw [List.drop_eq_getElem_cons h.1, h.2]
  rw [this]
  rfl
set_option maxHeartbeats 2000000 in
theorem parent_high (b o n c : Nat) (F : Nat → Node) (x : Nat) (hx : x < n) (hn : lvs n ≠ 0) (w : World) (hT : Tab w) (hN : ∀ y, y < n → NdAt w b (o + y * 4) (F y)) (hq : ¬ ((F x).pub < 1 ∨ (F x).mem ≠ 0 ∨ (F x).ep ≠ 0)) :
    Calls Tryd.prog 27 #[.agg #[.slice (some ⟨b, o, none⟩) n c], .int .i64 x] w fun e w' => e = .returned (.bool (parB F x)) ∧ Below w.heap.size w w' := by
  have hpb : parB F x = upB F (lo x) (hi x) (F x).un := by unfold parB; rw [if_neg hq]
  rw [hpb]
  have hn15 := (lvs_le hn).2
  obtain ⟨c0, c1, c2, ⟨A, cc, c3, hI⟩, hr⟩ := hN x hx
  have hb0 : b < w.heap.size := World.block_lt_of_cell? w _ c0
  have q1 : (0 : Int) ≤ (x : Int) := by omega
  have q2 : (x : Int) < n := by omega
  have t1 : decide ((F x).pub < 1) = false := decide_eq_false (by omega)
  have t2 : ((F x).mem != 0) = false := by rw [bne_eq_false_iff_eq]; omega
  have t3 : ((F x).ep != 0) = false := by rw [bne_eq_false_iff_eq]; omega
  have hpos := hT.pos
  have hS : ∀ w, Tab w → Calls Tryd.prog 43 #[.int .i64 x] w fun e w' => e = .returned (.tuple #[.int .i64 (lo x : Nat), .int .i64 (hi x : Nat)]) ∧ ∃ n, w' = w.drewN n := fun w hT => span43 x (by omega) w hT
  have hhi := hi2 hn hx
  have hlen : (F x).un.length ≤ 9223372036854775807 := by
    obtain ⟨A', c', e', h1, h2, _⟩ := hI
    unfold maxLen at h2
    omega
  have hA1 : Below w.heap.size w (w.alloc (.cells #[.slice (some ⟨b, o, none⟩) n c] 24)) := (Below.refl _ _).alloc (Nat.le_refl _) _
  have HN := Lib.hid hN
  have HI := Lib.hid hI
  clear hN hI hq hpb
  generalize hp : (F x).pub = p at *
  generalize hm : (F x).mem = m at *
  generalize he : (F x).ep = e at *
  generalize hU : (F x).un = us at *
  generalize hL : us.length = k at *
  have HL := Lib.hid hL
  clear hL hp hm he hU
  generalize hlo : lo x = l0 at *
  generalize hhi' : hi x = h0 at *
  clear hlo hhi'
  go_enter Tryd.func27, Tryd.ntmps27
  go_wp2_with (go_at_call 43; refine (hS _ (hT.below hpos (((Below.refl _ _).alloc (Nat.le_refl _) _).alloc (by simp) _))).mono ?_)
  rintro e w1 ⟨rfl, nd, rfl⟩
  go_wp2_with fail
  have hw1 : Below w.heap.size w ((((w.alloc (.cells #[.slice (some ⟨b, o, none⟩) n c] 24)).alloc (.cells #[.int .i64 p, .int .i64 m, .int .i64 e, .slice A k cc] 45)).drewN nd)) := Below.quiet (((Below.refl _ _).alloc (Nat.le_refl _) _).alloc (by simp) _) _
  go_loopg [6, 38] (k + 1) (fun g v6 v38 wr => ∃ (i : Nat) (f : Int), i ≤ k ∧ i + g = k + 1 ∧ v38 = .int .i64 i ∧ v6 = .int .i64 f ∧ 0 ≤ f ∧ upB F f h0 (us.drop i) = upB F l0 h0 us ∧ wr = (((w.alloc (.cells #[.slice (some ⟨b, o, none⟩) n c] 24)).alloc (.cells #[.int .i64 p, .int .i64 m, .int .i64 e, .slice A k cc] 45)).drewN nd))
  case atStart => exact ⟨0, l0, by omega, by omega, rfl, rfl, by omega, rfl, rfl⟩
  case round =>
    obtain ⟨i, f, hi, hg, rfl, rfl, hf0, hup, rfl⟩ := hrel
    have HUP := Lib.hid hup
    have HG := Lib.hid hg
    clear hup hg hS
    by_cases hlt : i < k
    · obtain ⟨u, hu⟩ : ∃ u, us[i]? = some u := ⟨us[i]'(by have := HL.out; omega), List.getElem?_eq_getElem _⟩
      obtain ⟨bu, ou, rfl, cu⟩ := HI.out.at hu
      have hbu : bu < w.heap.size := World.block_lt_of_cell? w _ cu
      have HS := Lib.hid (upB_step F f h0 us i u hu)
      have i1 : (0 : Int) ≤ i := by omega
      have i2 : (i : Int) < k := by omega
      have i3 : ((i : Int) < k) = True := eq_true i2
      clear hu
      by_cases a1 : u < f
      · have a1' : decide (u < f) = true := decide_eq_true a1
        have hres : upB F l0 h0 us = false := by rw [← HUP.out, HS.out, if_pos (.inl a1)]
        have HRES := Lib.hid hres
        clear hres a1 HS HUP
        go_wp2
        go_ret
        rw [HRES.out]
        exact ⟨rfl, hw1⟩
      · have a1' : decide (u < f) = false := decide_eq_false a1
        by_cases a2 : (h0 : Int) < u
        · have a2' : decide ((h0 : Int) < u) = true := decide_eq_true a2
          have hres : upB F l0 h0 us = false := by rw [← HUP.out, HS.out, if_pos (.inr a2)]
          have HRES := Lib.hid hres
          clear hres a1 a2 HS HUP
          go_wp2
          go_ret
          rw [HRES.out]
          exact ⟨rfl, hw1⟩
        · have a2' : decide ((h0 : Int) < u) = false := decide_eq_false a2
          obtain ⟨y, rfl⟩ : ∃ y : Nat, u = y := ⟨u.toNat, by omega⟩
          have hy : 2 * y < n := by omega
          obtain ⟨d0, -, -, -, -⟩ := HN.out (2 * y) hy
          have j1 : (0 : Int) ≤ 2 * (y : Int) := by omega
          have j2 : 2 * (y : Int) < n := by omega
          have j3 : (y : Int) ≤ 15 := by omega
          have j4 : y ≤ h0 := by omega
          clear a2'
          have HS2 := Lib.hid (show upB F f h0 (us.drop i) = if (F (2 * y)).pub = 0 then false else upB F ((y : Int) + 1) h0 (us.drop (i + 1)) by
            rw [HS.out, if_neg (by omega), show (2 * (y : Int)).toNat = 2 * y by omega])
          have HY := Lib.hid (show 0 ≤ (y : Int) + 1 by omega)
          clear HS
          generalize hpp : (F (2 * y)).pub = pp at *
          by_cases a3 : pp = 0
          · have a3' : (pp == 0) = true := by simp [a3]
            have hres : upB F l0 h0 us = false := by rw [← HUP.out, HS2.out, if_pos a3]
            have HRES := Lib.hid hres
            clear hres a1 a2 a3 HS2 HUP hpp hy
            go_wp2
            go_ret
            rw [HRES.out]
            exact ⟨rfl, hw1⟩
          · have a3' : (pp == 0) = false := by simp [a3]
            have hres : upB F ((y : Int) + 1) h0 (us.drop (i + 1)) = upB F l0 h0 us := by rw [← HUP.out, HS2.out, if_neg a3]
            have HR := Lib.hid hres
            clear hres a1 a2 a3 HS2 HUP hpp hy
            go_wp2
            go_roundg (gk - 1)
            case rel => exact ⟨i + 1, (y : Int) + 1, by omega, by have := HG.out; omega, by go_num, rfl, HY.out, HR.out, rfl⟩
            case measure => have := HG.out; omega
    · obtain rfl : i = k := by omega
      have hres : upB F l0 h0 us = true := by
        rw [← HUP.out, List.drop_eq_nil_of_le (by have := HL.out; omega)]
        rfl
      have HRES := Lib.hid hres
      clear hres HUP
      go_wp2
      go_ret
      rw [HRES.out]
      exact ⟨rfl, hw1⟩
end Go.Proofs.YtopkanokpfhmmaaDoor
