import Derived.Test.YtnahhclflnjmcaaGreatDoorA1
import Derived.Maps.Own
import Derived.Maps.Views
/- parent: may a parent be? -/
namespace Go.Proofs.YtnahhclflnjmcaaGreatDoor
open Go Go.RowKit
set_option linter.unusedVariables false
set_option linter.unusedSimpArgs false

theorem hi2 {n x : Nat} (hn : lvs n ≠ 0) (hx : x < n) : 2 * hi x < n := by
  obtain ⟨d, hd, rfl⟩ := lvs_iff.1 hn
  have : ∀ d : Fin 4, ∀ x : Fin 16, x.val < 2 ^ (d.val + 1) - 1 → 2 * hi x.val < 2 ^ (d.val + 1) - 1 := by decide
  have h4 : 2 ^ (d + 1) ≤ 2 ^ 4 := Nat.pow_le_pow_right (by decide) (by omega)
  exact this ⟨d, by omega⟩ ⟨x, by omega⟩ hx
theorem lvs_le {n : Nat} (hn : lvs n ≠ 0) : 0 < n ∧ n ≤ 15 := by
  obtain ⟨d, hd, rfl⟩ := lvs_iff.1 hn
  have h4 : 2 ^ (d + 1) ≤ 2 ^ 4 := Nat.pow_le_pow_right (by decide) (by omega)
  have := two_pos d
  have := two_succ d
  omega
theorem span43 (x : Nat) (hx : x < 31) (w : World) (hT : Tab w) : Calls Tryz.prog 181 #[.int .i64 x] w fun e w' => e = .returned (.tuple #[.int .i64 (lo x : Nat), .int .i64 (hi x : Nat)]) ∧ ∃ n, w' = w.drewN n := by
  have hN := nd_lv hx
  have h5 : lvN x ≤ 62 := by
    have : ∀ x : Fin 31, lvN x.val ≤ 62 := by decide
    exact this ⟨x, hx⟩
  have := span_yes x _ _ hN (by omega) h5 w hT
  have hp := two_pos (lvN x)
  have e : (((x / 2 ^ (lvN x + 1) * 2 ^ lvN x : Nat) : Int) + ((2 ^ lvN x : Nat) : Int) - 1) = (hi x : Nat) := by
    unfold hi lo
    omega
  rw [e] at this
  exact this
theorem Ints.at {w : World} {A : Option Addr} {n c : Nat} {l : List Int} (h : Ints w (.slice A n c) l) {k : Nat} {u : Int} (hu : l[k]? = some u) : ∃ b o, A = some ⟨b, o, none⟩ ∧ w.cell? ⟨b, o + k, none⟩ = some (.int .i64 u) := by
  obtain ⟨A', c', e, h1, h2, h3⟩ := h
  injection e with e1 e2 e3
  subst e1
  obtain ⟨b, o, rfl, h4⟩ := h3 (by have := (List.getElem?_eq_some_iff.1 hu).1; omega)
  exact ⟨b, o, rfl, h4 k u hu⟩
set_option maxHeartbeats 1000000 in
theorem parent_low (b o n c : Nat) (F : Nat → Node) (x : Nat) (hx : x < n) (hcm : n ≤ 15) (w : World) (hN : NdAt w b (o + x * 4) (F x)) (hq : (F x).pub < 1 ∨ (F x).mem ≠ 0 ∨ (F x).ep ≠ 0) :
    Calls Tryz.prog 45 #[.agg #[.slice (some ⟨b, o, none⟩) n c], .int .i64 x] w fun e w' => e = .returned (.bool (parB F x)) ∧ Below w.heap.size w w' := by
  have hpb : parB F x = (F x).blank := by unfold parB; rw [if_pos hq]
  rw [hpb]
  obtain ⟨c0, c1, c2, ⟨A, cc, c3, hI⟩, hr⟩ := hN
  have hb0 : b < w.heap.size := World.block_lt_of_cell? w _ c0
  have q1 : (0 : Int) ≤ (x : Int) := by omega
  have q2 : (x : Int) < n := by omega
  have hB : ∀ w, Calls Tryz.prog 46 #[.agg #[.int .i64 (F x).pub, .int .i64 (F x).mem, .int .i64 (F x).ep, .slice A (F x).un.length cc]] w fun e w' => e = .returned (.bool (F x).blank) ∧ Below w.heap.size w w' := fun w => blankN _ _ _ w
  clear hI
  generalize (F x).blank = z at *
  generalize hp : (F x).pub = p at *
  generalize hm : (F x).mem = m at *
  generalize he : (F x).ep = e at *
  generalize hu : (F x).un.length = k at *
  clear hpb
  by_cases t1 : p < 1
  · have t1' : decide (p < 1) = true := decide_eq_true t1
    clear hq t1
    go_enter Tryz.func45, Tryz.ntmps45
    go_wp2_with (go_at_call 46; refine (hB _).mono ?_; rintro e w' ⟨rfl, hb2⟩)
    go_ret
    exact ⟨rfl, (((Below.refl _ _).alloc (Nat.le_refl _) _).alloc (by simp) _).trans (hb2.mono (by simp; omega))⟩
  · have t1' : decide (p < 1) = false := decide_eq_false t1
    by_cases t2 : m = 0
    · have t2' : (m != 0) = false := by simp [t2]
      have t3' : (e != 0) = true := by rw [bne_iff_ne]; omega
      clear hq t2 t1
      go_enter Tryz.func45, Tryz.ntmps45
      go_wp2_with (go_at_call 46; refine (hB _).mono ?_; rintro e w' ⟨rfl, hb2⟩)
      go_ret
      exact ⟨rfl, (((Below.refl _ _).alloc (Nat.le_refl _) _).alloc (by simp) _).trans (hb2.mono (by simp; omega))⟩
    · have t2' : (m != 0) = true := by rw [bne_iff_ne]; exact t2
      clear hq t2 t1
      go_enter Tryz.func45, Tryz.ntmps45
      go_wp2_with (go_at_call 46; refine (hB _).mono ?_; rintro e w' ⟨rfl, hb2⟩)
      go_ret
      exact ⟨rfl, (((Below.refl _ _).alloc (Nat.le_refl _) _).alloc (by simp) _).trans (hb2.mono (by simp; omega))⟩
theorem upB_step (F : Nat → Node) (first last : Int) (us : List Int) (k : Nat) (u : Int) (hu : us[k]? = some u) :
    upB F first last (us.drop k) = if u < first ∨ last < u then false else if (F (2 * u).toNat).pub = 0 then false else upB F (u + 1) last (us.drop (k + 1)) := by
  have : us.drop k = u :: us.drop (k + 1) := by
    have h := (List.getElem?_eq_some_iff.1 hu)
    rw [List.drop_eq_getElem_cons h.1, h.2]
  rw [this]
  rfl
set_option maxHeartbeats 2000000 in
theorem parent_high (b o n c : Nat) (F : Nat → Node) (x : Nat) (hx : x < n) (hn : lvs n ≠ 0) (w : World) (hT : Tab w) (hN : ∀ y, y < n → NdAt w b (o + y * 4) (F y)) (hq : ¬ ((F x).pub < 1 ∨ (F x).mem ≠ 0 ∨ (F x).ep ≠ 0)) :
    Calls Tryz.prog 45 #[.agg #[.slice (some ⟨b, o, none⟩) n c], .int .i64 x] w fun e w' => e = .returned (.bool (parB F x)) ∧ Below w.heap.size w w' := by
  have hpb : parB F x = upB F (lo x) (hi x) (F x).un := by unfold parB; rw [if_neg hq]
  rw [hpb]
  have hn15 := (lvs_le hn).2
  obtain ⟨c0, c1, c2, ⟨A, cc, c3, hI⟩, hr⟩ := hN x hx
  have hb0 : b < w.heap.size := World.block_lt_of_cell? w _ c0
  have q1 : (0 : Int) ≤ (x : Int) := by omega
  have q2 : (x : Int) < n := by omega
  have t1 : decide ((F x).pub < 1) = false := decide_eq_false (by omega)
  have t2 : ((F x).mem != 0) = false := by rw [bne_eq_false_iff_eq]; omega
  have t3 : ((F x).ep != 0) = false := by rw [bne_eq_false_iff_eq]; omega
  have hpos := hT.pos
  have hS : ∀ w, Tab w → Calls Tryz.prog 181 #[.int .i64 x] w fun e w' => e = .returned (.tuple #[.int .i64 (lo x : Nat), .int .i64 (hi x : Nat)]) ∧ ∃ n, w' = w.drewN n := fun w hT => span43 x (by omega) w hT
  have hhi := hi2 hn hx
  have hlen : (F x).un.length ≤ 9223372036854775807 := by
    obtain ⟨A', c', e', h1, h2, _⟩ := hI
    unfold maxLen at h2
    omega
  have hA1 : Below w.heap.size w (w.alloc (.cells #[.slice (some ⟨b, o, none⟩) n c] 24)) := (Below.refl _ _).alloc (Nat.le_refl _) _
  have HN := Lib.hid hN
  have HI := Lib.hid hI
  clear hN hI hq hpb
  generalize hp : (F x).pub = p at *
  generalize hm : (F x).mem = m at *
  generalize he : (F x).ep = e at *
  generalize hU : (F x).un = us at *
  generalize hL : us.length = k at *
  have HL := Lib.hid hL
  clear hL hp hm he hU
  generalize hlo : lo x = l0 at *
  generalize hhi' : hi x = h0 at *
  clear hlo hhi'
  go_enter Tryz.func45, Tryz.ntmps45
  go_wp2_with (go_at_call 181; refine (hS _ (hT.below hpos (((Below.refl _ _).alloc (Nat.le_refl _) _).alloc (by simp) _))).mono ?_)
  rintro e w1 ⟨rfl, nd, rfl⟩
  go_wp2_with fail
  have hw1 : Below w.heap.size w ((((w.alloc (.cells #[.slice (some ⟨b, o, none⟩) n c] 24)).alloc (.cells #[.int .i64 p, .int .i64 m, .int .i64 e, .slice A k cc] 95)).drewN nd)) := Below.quiet (((Below.refl _ _).alloc (Nat.le_refl _) _).alloc (by simp) _) _
  go_loopg [6, 38] (k + 1) (fun g v6 v38 wr => ∃ (i : Nat) (f : Int), i ≤ k ∧ i + g = k + 1 ∧ v38 = .int .i64 i ∧ v6 = .int .i64 f ∧ 0 ≤ f ∧ upB F f h0 (us.drop i) = upB F l0 h0 us ∧ wr = (((w.alloc (.cells #[.slice (some ⟨b, o, none⟩) n c] 24)).alloc (.cells #[.int .i64 p, .int .i64 m, .int .i64 e, .slice A k cc] 95)).drewN nd))
  case atStart => exact ⟨0, l0, by omega, by omega, rfl, rfl, by omega, rfl, rfl⟩
  case round =>
    obtain ⟨i, f, hi, hg, rfl, rfl, hf0, hup, rfl⟩ := hrel
    have HUP := Lib.hid hup
    have HG := Lib.hid hg
    clear hup hg hS
    by_cases hlt : i < k
    · obtain ⟨u, hu⟩ : ∃ u, us[i]? = some u := ⟨us[i]'(by have := HL.out; omega), List.getElem?_eq_getElem _⟩
      obtain ⟨bu, ou, rfl, cu⟩ := HI.out.at hu
      have hbu : bu < w.heap.size := World.block_lt_of_cell? w _ cu
      have HS := Lib.hid (upB_step F f h0 us i u hu)
      have i1 : (0 : Int) ≤ i := by omega
      have i2 : (i : Int) < k := by omega
      have i3 : ((i : Int) < k) = True := eq_true i2
      clear hu
      by_cases a1 : u < f
      · have a1' : decide (u < f) = true := decide_eq_true a1
        have hres : upB F l0 h0 us = false := by rw [← HUP.out, HS.out, if_pos (.inl a1)]
        have HRES := Lib.hid hres
        clear hres a1 HS HUP
        go_wp2
        go_ret
        rw [HRES.out]
        exact ⟨rfl, hw1⟩
      · have a1' : decide (u < f) = false := decide_eq_false a1
        by_cases a2 : (h0 : Int) < u
        · have a2' : decide ((h0 : Int) < u) = true := decide_eq_true a2
          have hres : upB F l0 h0 us = false := by rw [← HUP.out, HS.out, if_pos (.inr a2)]
          have HRES := Lib.hid hres
          clear hres a1 a2 HS HUP
          go_wp2
          go_ret
          rw [HRES.out]
          exact ⟨rfl, hw1⟩
        · have a2' : decide ((h0 : Int) < u) = false := decide_eq_false a2
          obtain ⟨y, rfl⟩ : ∃ y : Nat, u = y := ⟨u.toNat, by omega⟩
          have hy : 2 * y < n := by omega
          obtain ⟨d0, -, -, -, -⟩ := HN.out (2 * y) hy
          have j1 : (0 : Int) ≤ 2 * (y : Int) := by omega
          have j2 : 2 * (y : Int) < n := by omega
          have j3 : (y : Int) ≤ 15 := by omega
          have j4 : y ≤ h0 := by omega
          clear a2'
          have HS2 := Lib.hid (show upB F f h0 (us.drop i) = if (F (2 * y)).pub = 0 then false else upB F ((y : Int) + 1) h0 (us.drop (i + 1)) by
            rw [HS.out, if_neg (by omega), show (2 * (y : Int)).toNat = 2 * y by omega])
          have HY := Lib.hid (show 0 ≤ (y : Int) + 1 by omega)
          clear HS
          generalize hpp : (F (2 * y)).pub = pp at *
          by_cases a3 : pp = 0
          · have a3' : (pp == 0) = true := by simp [a3]
            have hres : upB F l0 h0 us = false := by rw [← HUP.out, HS2.out, if_pos a3]
            have HRES := Lib.hid hres
            clear hres a1 a2 a3 HS2 HUP hpp hy
            go_wp2
            go_ret
            rw [HRES.out]
            exact ⟨rfl, hw1⟩
          · have a3' : (pp == 0) = false := by simp [a3]
            have hres : upB F ((y : Int) + 1) h0 (us.drop (i + 1)) = upB F l0 h0 us := by rw [← HUP.out, HS2.out, if_neg a3]
            have HR := Lib.hid hres
            clear hres a1 a2 a3 HS2 HUP hpp hy
            go_wp2
            go_roundg (gk - 1)
            case rel => exact ⟨i + 1, (y : Int) + 1, by omega, by have := HG.out; omega, by go_num, rfl, HY.out, HR.out, rfl⟩
            case measure => have := HG.out; omega
    · obtain rfl : i = k := by omega
      have hres : upB F l0 h0 us = true := by
        rw [← HUP.out, List.drop_eq_nil_of_le (by have := HL.out; omega)]
        rfl
      have HRES := Lib.hid hres
      clear hres HUP
      go_wp2
      go_ret
      rw [HRES.out]
      exact ⟨rfl, hw1⟩
end Go.Proofs.YtnahhclflnjmcaaGreatDoor

/- A map from numbers to numbers. -/
namespace Go.Proofs.YtnahhclflnjmcaaGreatDoor
open Go.RowKit Go.Maps
set_option linter.unusedVariables false
set_option linter.unusedSimpArgs false
set_option maxRecDepth 100000

theorem zero3 (w : World) : (zeroValue 3).run Tryz.prog w = .ok (.int .i64 0) w := by kernel_rfl
theorem lt_of_some {w : World} {g : Nat} {o : Obj} (h : w.heap[g]? = some o) : g < w.heap.size := (Array.getElem?_eq_some_iff.1 h).1
theorem key3 : Keyed Tryz.prog 3 := int_keyed Tryz.underlying3
/-- A map from numbers to numbers. -/
def MapI (w : World) (b n : Nat) (f : Int → Option Int) : Prop :=
  ∃ D : DataW Unit, w.ownsMap Tryz.prog 3 (plainElem Tryz.prog 3) b n D ∧ ∀ t kl, keyOf Tryz.prog 3 (.int .i64 t) = some kl → match f t with
    | none => ∀ z, D.atKey kl z = z
    | some x => ∀ z, D.atKey kl z = .lit (.int .i64 x)
theorem keyI (x : Int) (h : (Lit.int .i64 x).wf = true) : keyOf Tryz.prog 3 (.int .i64 x) = some (.int .i64 x) := by
  simp [keyOf, mapKey, Tryz.underlying3, h]
theorem MapI.look {w : World} {b n : Nat} {f : Int → Option Int} (h : MapI w b n f) (t : Int) (hk : (Lit.int .i64 t).wf = true) :
    (Instr.lookup 97 (.map (some b)) (.int .i64 t) true).run Tryz.prog w = .ok (.tuple #[.int .i64 ((f t).getD 0), .bool (f t).isSome]) w := by
  have hkey := keyI t hk
  obtain ⟨D, ⟨es, clock, hb, F, _, rfl⟩, hf⟩ := h
  have hf := hf t _ hkey
  rcases fit_look true key3 Tryz.underlying97 (zero3 w) hb F hkey with ⟨hrun, _, hat⟩ | ⟨e0, y, _, _, hrun, hRv, hat, _⟩
  · rw [hrun]
    cases e : f t with
    | none => rfl
    | some x =>
      rw [e] at hf
      have h1 := hf .nil
      rw [hat] at h1
      cases h1
  · rw [hrun]
    cases e : f t with
    | none =>
      rw [e] at hf
      have h1 := hf .nil
      have h2 := hf (.lit (.int .i64 0))
      rw [hat] at h1 h2
      rw [h1] at h2
      cases h2
    | some x =>
      rw [e] at hf
      have h1 := hf .nil
      rw [hat] at h1
      obtain ⟨a, ha, hz, _⟩ := plainElem_int_inv Tryz.underlying3 hRv
      rw [hz] at h1
      rw [ha]
      simp only [DataW.lit.injEq, Lit.int.injEq, true_and] at h1
      rw [h1]
      rfl
theorem MapI.look1 {w : World} {b n : Nat} {f : Int → Option Int} (h : MapI w b n f) (t : Int) (hk : (Lit.int .i64 t).wf = true) :
    (Instr.lookup 97 (.map (some b)) (.int .i64 t) false).run Tryz.prog w = .ok (.int .i64 ((f t).getD 0)) w := by
  have hkey := keyI t hk
  obtain ⟨D, ⟨es, clock, hb, F, _, rfl⟩, hf⟩ := h
  have hf := hf t _ hkey
  rcases fit_look false key3 Tryz.underlying97 (zero3 w) hb F hkey with ⟨hrun, _, hat⟩ | ⟨e0, y, _, _, hrun, hRv, hat, _⟩
  · rw [hrun]
    cases e : f t with
    | none => rfl
    | some x =>
      rw [e] at hf
      have h1 := hf .nil
      rw [hat] at h1
      cases h1
  · rw [hrun]
    cases e : f t with
    | none =>
      rw [e] at hf
      have h1 := hf .nil
      have h2 := hf (.lit (.int .i64 0))
      rw [hat] at h1 h2
      rw [h1] at h2
      cases h2
    | some x =>
      rw [e] at hf
      have h1 := hf .nil
      rw [hat] at h1
      obtain ⟨a, ha, hz, _⟩ := plainElem_int_inv Tryz.underlying3 hRv
      rw [hz] at h1
      rw [ha]
      simp only [DataW.lit.injEq, Lit.int.injEq, true_and] at h1
      rw [h1]
      rfl
def upd (f : Int → Option Int) (x v : Int) : Int → Option Int := fun y => if y = x then some v else f y
theorem MapI.put {w : World} {b n : Nat} {f : Int → Option Int} (h : MapI w b n f) (hn : n < maxLen) (t x : Int) (hk : (Lit.int .i64 t).wf = true) (hx : (Lit.int .i64 x).wf = true) :
    ∃ w', (Instr.mapUpdate 97 (.map (some b)) (.int .i64 t) (.int .i64 x)).run Tryz.prog w = .ok () w' ∧ w.grownBy w' (some b) ∧ MapI w' b (n + 1) (upd f t x) := by
  have hkey := keyI t hk
  obtain ⟨D, ho, hf⟩ := h
  have hD : IsMap D := by obtain ⟨es, clock, _, _, _, rfl⟩ := ho; exact ⟨_, rfl⟩
  obtain ⟨w', hrun, ho', hg⟩ := ho.update key3 Tryz.underlying97 hn hkey (plainElem_int Tryz.underlying3 hx)
  refine ⟨w', hrun, hg, ⟨_, ho', fun u ku hu => ?_⟩⟩
  unfold upd
  by_cases e : u = t
  · subst e
    obtain rfl : ku = _ := Option.some.inj (hu.symm.trans hkey)
    rw [if_pos rfl]
    exact fun z => atKey_put_same hD (key3.key hkey) _ z
  · have hne : ku ≠ .int .i64 t := fun e1 => e (by
      subst e1
      have := key3.inj hu hkey
      simpa using this)
    rw [if_neg e]
    have h3 := hf u ku hu
    cases e3 : f u with
    | none => rw [e3] at h3; exact fun z => (atKey_put_other hne _ z).trans (h3 z)
    | some y => rw [e3] at h3; exact fun z => (atKey_put_other hne _ z).trans (h3 z)
theorem MapI.below {w w' : World} {b n : Nat} {f : Int → Option Int} (h : MapI w b n f) (hb : w'.heap[b]? = w.heap[b]?) : MapI w' b n f := by
  obtain ⟨D, ⟨es, clock, h1, h2⟩, h3⟩ := h
  exact ⟨D, ⟨es, clock, hb.trans h1, h2⟩, h3⟩
theorem MapI.isMap {w : World} {b n : Nat} {f : Int → Option Int} (h : MapI w b n f) : ∃ es clock, w.heap[b]? = some (.map es clock) := by
  obtain ⟨D, ⟨es, clock, h1, h2⟩, h3⟩ := h
  exact ⟨es, clock, h1⟩
theorem MapI.under {w w' : World} {b n : Nat} {f : Int → Option Int} (h : MapI w b n f) (hb : Below w.heap.size w w') : MapI w' b n f := by
  obtain ⟨es, clock, hm⟩ := h.isMap
  exact h.below (hb.block b (lt_of_some hm))
theorem MapI.made (w : World) : MapI (w.alloc (.map #[] 0)) w.heap.size 0 (fun _ => none) := ⟨_, w.ownsMap_made Tryz.prog 3 _, fun t kl _ z => rfl⟩
theorem MapI.congr {w : World} {b n : Nat} {f g : Int → Option Int} (h : MapI w b n f) (he : ∀ t, f t = g t) : MapI w b n g := by
  rw [show g = f from (funext fun t => (he t).symm)]
  exact h
end Go.Proofs.YtnahhclflnjmcaaGreatDoor

/- Check: may a tree be? -/
namespace Go.Proofs.YtnahhclflnjmcaaGreatDoor
open Go Go.RowKit
set_option linter.unusedVariables false
set_option linter.unusedSimpArgs false

theorem parent27 (b o n c : Nat) (F : Nat → Node) (x : Nat) (hx : x < n) (hn : lvs n ≠ 0) (w : World) (hT : Tab w) (hN : ∀ y, y < n → NdAt w b (o + y * 4) (F y)) :
    Calls Tryz.prog 45 #[.agg #[.slice (some ⟨b, o, none⟩) n c], .int .i64 x] w fun e w' => e = .returned (.bool (parB F x)) ∧ Below w.heap.size w w' := by
  by_cases hq : (F x).pub < 1 ∨ (F x).mem ≠ 0 ∨ (F x).ep ≠ 0
  · exact parent_low b o n c F x hx (lvs_le hn).2 w (hN x hx) hq
  · exact parent_high b o n c F x hx hn w hT hN hq
theorem below_box {w w' : World} {o : Obj} (h : Below (w.alloc o).heap.size (w.alloc o) w') : Below w.heap.size w w' :=
  ((Below.refl _ _).alloc (Nat.le_refl _) o).trans (h.mono (by simp))
theorem box_keep {w w' : World} {v : Value} {t : TypeId} (h : Below (w.alloc (.cells #[v] t)).heap.size (w.alloc (.cells #[v] t)) w') : w'.cell? ⟨w.heap.size, 0, none⟩ = some v ∧ w.heap.size < w'.heap.size := by
  have h1 := h.size
  simp at h1
  refine ⟨?_, by omega⟩
  rw [h.cell (by simp)]
  exact cell_one_new w v t 0 v rfl
/-- What Check looks at in a tree of a right size. -/
def restB (n : Nat) (F : Nat → Node) : Bool := goodsB F n && decide (((lvs n / 2 : Nat) : Int) ≤ lastM F n)
/-- The error of a test. -/
def errB (b : Bool) : Int := if b then 0 else 1
set_option maxHeartbeats 1000000 in
theorem check_none (A : Option Addr) (c : Nat) (w : World) :
    Calls Tryz.prog 10 #[.agg #[.slice A 0 c]] w fun e w' => e = .returned (.int .i64 0) ∧ Below w.heap.size w w' := by
  go_enter Tryz.func10, Tryz.ntmps10
  go_wp2
  go_ret
  exact ⟨rfl, (Below.refl _ _).alloc (Nat.le_refl _) _⟩
set_option maxHeartbeats 1000000 in
theorem check_odd (A : Option Addr) (n c : Nat) (w : World) (h0 : n ≠ 0) (hn : n ≤ 9223372036854775806) (hl : lvs n = 0) :
    Calls Tryz.prog 10 #[.agg #[.slice A n c]] w fun e w' => e = .returned (.int .i64 1) ∧ Below w.heap.size w w' := by
  have t0 : ((n : Int) == 0) = false := by rw [beq_eq_false_iff_ne]; omega
  have hL := fun w => leaves26 A n c w hn
  rw [hl] at hL
  go_enter Tryz.func10, Tryz.ntmps10
  go_wp2_with (go_at_call 44; refine (hL _).mono ?_; rintro e w1 ⟨rfl, hb1⟩)
  go_ret
  exact ⟨rfl, below_box hb1⟩
/-- What the loop of Check holds. -/
structure ChkI (w : World) (b o n c mb : Nat) (F : Nat → Node) (x : Nat) (wr : World) : Prop where
  bel : Below w.heap.size w wr
  box : wr.cell? ⟨w.heap.size, 0, none⟩ = some (.slice (some ⟨b, o, none⟩) n c)
  hmb : w.heap.size < mb
  map : ∃ k, k ≤ x ∧ MapI wr mb k (fun t => if t ∈ prior F x then some 1 else none)
theorem ChkI.under {w wr w' : World} {b o n c mb x : Nat} {F : Nat → Node} (h : ChkI w b o n c mb F x wr) (hb : Below wr.heap.size wr w') : ChkI w b o n c mb F x w' := by
  obtain ⟨k, hk, hm⟩ := h.map
  exact ⟨h.bel.trans (hb.mono h.bel.size), by rw [hb.cell (World.block_lt_of_cell? _ _ h.box)]; exact h.box, h.hmb, k, hk, hm.under hb⟩
theorem ChkI.next {w wr : World} {b o n c mb x : Nat} {F : Nat → Node} (h : ChkI w b o n c mb F x wr) (hx : ¬ (x % 2 = 0 ∧ (F x).blank = false)) : ChkI w b o n c mb F (x + 1) wr := by
  obtain ⟨k, hk, hm⟩ := h.map
  refine ⟨h.bel, h.box, h.hmb, k, by omega, ?_⟩
  have e : prior F (x + 1) = prior F x := by rw [prior, if_neg hx]
  rw [e]
  exact hm
theorem cells4 {wr w2 : World} {a0 a1 a2 a3 : Value} {t : TypeId} (hb2 : Below (wr.alloc (.cells #[a0, a1, a2, a3] t)).heap.size (wr.alloc (.cells #[a0, a1, a2, a3] t)) w2) :
    w2.cell? ⟨wr.heap.size, 0, none⟩ = some a0 ∧ w2.cell? ⟨wr.heap.size, 1, none⟩ = some a1 ∧ w2.cell? ⟨wr.heap.size, 2, none⟩ = some a2 ∧ w2.cell? ⟨wr.heap.size, 3, none⟩ = some a3 ∧ wr.heap.size < w2.heap.size := by
  have hs := hb2.size
  simp at hs
  have key : ∀ j u, (#[a0, a1, a2, a3] : Array Value)[j]? = some u → w2.cell? ⟨wr.heap.size, j, none⟩ = some u := fun j u hj => by
    rw [hb2.cell (by simp), cell_of_row _ _ _ _ _ _ (heap_alloc_new wr _)]
    exact hj
  exact ⟨key 0 _ rfl, key 1 _ rfl, key 2 _ rfl, key 3 _ rfl, by omega⟩
/-- One member more in the map. -/
theorem chk_put {w wr w2 : World} {b o n c mb x : Nat} {F : Nat → Node} {a0 a2 a3 : Value} {m v : Int} (h : ChkI w b o n c mb F x wr)
    (hb2 : Below (wr.alloc (.cells #[a0, .int .i64 m, a2, a3] 95)).heap.size (wr.alloc (.cells #[a0, .int .i64 m, a2, a3] 95)) w2) (hm : (Lit.int .i64 m).wf = true) (hv : (if m ∈ prior F x then (1 : Int) else 0) = v) (hx : x ≤ 15) :
    (Instr.lookup 97 (.map (some mb)) (.int .i64 m) false).run Tryz.prog w2 = .ok (.int .i64 v) w2 ∧
    (w2.cell? ⟨wr.heap.size, 0, none⟩ = some a0 ∧ w2.cell? ⟨wr.heap.size, 1, none⟩ = some (.int .i64 m) ∧ w2.cell? ⟨wr.heap.size, 2, none⟩ = some a2 ∧ w2.cell? ⟨wr.heap.size, 3, none⟩ = some a3) ∧
    ∃ w3, (Instr.mapUpdate 97 (.map (some mb)) (.int .i64 m) (.int .i64 (v + 1))).run Tryz.prog w2 = .ok () w3 ∧
    (w3.cell? ⟨wr.heap.size, 0, none⟩ = some a0 ∧ w3.cell? ⟨wr.heap.size, 1, none⟩ = some (.int .i64 m) ∧ w3.cell? ⟨wr.heap.size, 2, none⟩ = some a2 ∧ w3.cell? ⟨wr.heap.size, 3, none⟩ = some a3) ∧
    (Instr.lookup 97 (.map (some mb)) (.int .i64 m) false).run Tryz.prog w3 = .ok (.int .i64 (v + 1)) w3 ∧
    Below w.heap.size w w3 ∧ w3.cell? ⟨w.heap.size, 0, none⟩ = some (.slice (some ⟨b, o, none⟩) n c) ∧ ∃ k, k ≤ x + 1 ∧ MapI w3 mb k (upd (fun t => if t ∈ prior F x then some 1 else none) m (v + 1)) := by
  obtain ⟨x0, x1, x2, x3, hs⟩ := cells4 hb2
  have h2 := h.under (below_box hb2)
  obtain ⟨k, hk, hmap⟩ := h.map
  obtain ⟨es, ck, hmb⟩ := hmap.isMap
  have hmlt := lt_of_some hmb
  have hmap2 := hmap.under (below_box hb2)
  have hv2 : v = 0 ∨ v = 1 := by rw [← hv]; split <;> simp
  have hg : ((fun t => if t ∈ prior F x then some (1 : Int) else none) m).getD 0 = v := by
    rw [← hv]
    by_cases hp : m ∈ prior F x
    · simp [hp]
    · simp [hp]
  have hwf : (Lit.int .i64 (v + 1)).wf = true := by
    rcases hv2 with rfl | rfl <;> decide
  have hl := hmap2.look1 m hm
  rw [hg] at hl
  obtain ⟨w3, hrun, hgr, hm3⟩ := hmap2.put (by unfold maxLen; omega) m (v + 1) hm hwf
  have hl3 := hm3.look1 m hm
  have e3 : ((upd (fun t => if t ∈ prior F x then some (1 : Int) else none) m (v + 1)) m).getD 0 = v + 1 := by simp [upd]
  rw [e3] at hl3
  have stay : ∀ g, g < w2.heap.size → g ≠ mb → ∀ j u, w2.cell? ⟨g, j, none⟩ = some u → w3.cell? ⟨g, j, none⟩ = some u := fun g h1 h2 j u hc => by
    rw [World.cell?_of_block (a := ⟨g, j, none⟩) (hgr.block g h1 (fun e => h2 (by injection e)))]
    exact hc
  have hne : wr.heap.size ≠ mb := by omega
  have s0 := h.bel.size
  have s2 := h2.bel.size
  have hmbp := h.hmb
  refine ⟨hl, ⟨x0, x1, x2, x3⟩, w3, hrun, ⟨stay _ hs hne _ _ x0, stay _ hs hne _ _ x1, stay _ hs hne _ _ x2, stay _ hs hne _ _ x3⟩, hl3, ?_, ?_, k + 1, by omega, hm3⟩
  · exact h2.bel.grown hgr h2.bel.size (fun g hg => by have := Option.some.inj hg; omega)
  · exact stay w.heap.size (World.block_lt_of_cell? _ _ h2.box) (by omega) _ _ h2.box
theorem goodsB_stop {F : Nat → Node} {x : Nat} (h : goodB F x = false) : ∀ {n : Nat}, x < n → goodsB F n = false
  | 0, hx => by omega
  | n + 1, hx => by
    rw [goodsB]
    by_cases e : x = n
    · rw [← e, h, Bool.and_false]
    · rw [goodsB_stop h (by omega), Bool.false_and]
theorem rest_stop {F : Nat → Node} {x n : Nat} (h : goodB F x = false) (hx : x < n) : restB n F = false := by unfold restB; rw [goodsB_stop h hx, Bool.false_and]
set_option maxHeartbeats 4000000 in
set_option maxRecDepth 100000 in
theorem check_loop (b o n c : Nat) (F : Nat → Node) (w : World) (hT : Tab w) (hn : lvs n ≠ 0) (hN : ∀ y, y < n → NdAt w b (o + y * 4) (F y)) :
    Calls Tryz.prog 10 #[.agg #[.slice (some ⟨b, o, none⟩) n c]] w fun e w' => e = .returned (.int .i64 (errB (restB n F))) ∧ Below w.heap.size w w' := by
  have hn15 := lvs_le hn
  have t0 : ((n : Int) == 0) = false := by rw [beq_eq_false_iff_ne]; omega
  have hL := fun w => leaves26 (some ⟨b, o, none⟩) n c w (by omega)
  have hlv : lvs n ≤ 8 := by
    unfold lvs
    repeat' split
    all_goals omega
  generalize hl : lvs n = l at *
  have t1 : ((l : Int) == 0) = false := by rw [beq_eq_false_iff_ne]; omega
  have hpos := hT.pos
  have hmk : ∀ w, (Instr.makeMap 97 none).run Tryz.prog w = .ok (.map (some w.heap.size)) (w.alloc (.map #[] 0)) := fun w => by
    simp [Instr.makeMap, go_sem]
  have HN := Lib.hid hN
  have HLV := Lib.hid hl
  clear hN hl
  go_enter Tryz.func10, Tryz.ntmps10
  go_wp2_with (go_at_call 44; refine (hL _).mono ?_; rintro e w1 ⟨rfl, hb1⟩; obtain ⟨hbox, hs1⟩ := box_keep hb1)
  have hw1 := below_box hb1
  have hI0 : ChkI w b o n c w1.heap.size F 0 (w1.alloc (.map #[] 0)) :=
    ⟨hw1.alloc hw1.size _, by rw [World.cell?_alloc_lt _ _ _ hs1]; exact hbox, hs1, 0, Nat.le_refl _, (MapI.made w1).congr fun t => by simp [prior]⟩
  have HI0 := Lib.hid hI0
  clear hI0
  generalize hmb : w1.heap.size = mb at *
  go_loopg [5, 20] (n + 1) (fun g v5 v20 wr => ∃ x : Nat, x ≤ n ∧ x + g = n + 1 ∧ v20 = .int .i64 x ∧ v5 = .int .i64 (lastM F x) ∧ goodsB F x = true ∧ ChkI w b o n c mb F x wr)
  case atStart => exact ⟨0, by omega, by omega, rfl, rfl, rfl, HI0.out⟩
  case round =>
    obtain ⟨x, hx, hg, rfl, rfl, hgood, hI⟩ := hrel
    have HG := Lib.hid (And.intro hg hgood)
    have HI := Lib.hid hI
    have hbox2 := hI.box
    have hbs := World.block_lt_of_cell? _ _ hI.box
    clear hg hgood hI HI0 hL hmk hbox hb1
    by_cases hlt : x < n
    · obtain ⟨c0, c1, c2, ⟨A, cc, c3, hIn⟩, hr⟩ := (HN.out x hlt).below HI.out.bel
      have hb0 : b < wr.heap.size := World.block_lt_of_cell? _ _ c0
      have q1 : (0 : Int) ≤ (x : Int) := by omega
      have q2 : (x : Int) < n := by omega
      clear hIn
      generalize hp : (F x).pub = p at *
      generalize hm : (F x).mem = m at *
      generalize he : (F x).ep = e at *
      generalize hU : (F x).un.length = k at *
      by_cases hodd : x % 2 = 1
      · have a1 : ((x : Int) % 2 == 1) = true := by rw [beq_iff_eq]; omega
        have HP : Hid (∀ W, Below wr.heap.size wr W → Calls Tryz.prog 45 #[.agg #[.slice (some ⟨b, o, none⟩) n c], .int .i64 x] W fun e w' => e = .returned (.bool (parB F x)) ∧ Below W.heap.size W w') := Lib.hid fun W hW =>
          parent27 b o n c F x hlt (by rw [HLV.out]; exact hn) W (hT.below hpos (HI.out.bel.trans (hW.mono HI.out.bel.size))) (fun y hy => ((HN.out y hy).below HI.out.bel).below hW)
        clear hp hm he hU
        have hgx : goodB F x = parB F x := by unfold goodB; rw [if_pos hodd]
        have hnx : ¬ (x % 2 = 0 ∧ (F x).blank = false) := by omega
        have HNX := Lib.hid hnx
        cases hz : parB F x with
        | false =>
          have HZ := Lib.hid (rest_stop (hgx.trans hz) hlt)
          rw [hz] at HP
          clear hz hgx hnx hodd
          go_wp2_with (go_at_call 45; refine (HP.out _ ((Below.refl _ _).alloc (Nat.le_refl _) _)).mono ?_; rintro e w2 ⟨rfl, hb2⟩)
          go_ret
          rw [HZ.out]
          exact ⟨rfl, HI.out.bel.trans ((below_box hb2).mono HI.out.bel.size)⟩
        | true =>
          have HZ := Lib.hid (show goodsB F (x + 1) = true by rw [goodsB, HG.out.2, hgx, hz]; rfl)
          rw [hz] at HP
          clear hz hgx hnx hodd
          go_wp2_with (go_at_call 45; refine (HP.out _ ((Below.refl _ _).alloc (Nat.le_refl _) _)).mono ?_; rintro e w2 ⟨rfl, hb2⟩)
          go_roundg (gk - 1)
          case rel => exact ⟨x + 1, by omega, by have := HG.out.1; omega, by go_num, by rw [lastM, if_neg HNX.out], HZ.out, (HI.out.under (below_box hb2)).next HNX.out⟩
          case measure => have := HG.out.1; omega
      · have a1 : ((x : Int) % 2 == 1) = false := by rw [beq_eq_false_iff_ne]; omega
        have HB : ∀ W, Calls Tryz.prog 46 #[.agg #[.int .i64 p, .int .i64 m, .int .i64 e, .slice A k cc]] W fun e w' => e = .returned (.bool (F x).blank) ∧ Below W.heap.size W w' := fun W => by
          have := blankN (F x) A cc W
          rw [hp, hm, he, hU] at this
          exact this
        cases hz : (F x).blank with
        | true =>
          have hnx : ¬ (x % 2 = 0 ∧ (F x).blank = false) := by simp [hz]
          have HNX := Lib.hid hnx
          have HZ := Lib.hid (show goodsB F (x + 1) = true by rw [goodsB, HG.out.2]; unfold goodB; rw [if_neg hodd, hz]; rfl)
          rw [hz] at HB
          clear hz hnx hodd hp hm he hU
          go_wp2_with (go_at_call 46; refine (HB _).mono ?_; rintro e w2 ⟨rfl, hb2⟩)
          go_roundg (gk - 1)
          case rel => exact ⟨x + 1, by omega, by have := HG.out.1; omega, by go_num, by rw [lastM, if_neg HNX.out], HZ.out, (HI.out.under (below_box hb2)).next HNX.out⟩
          case measure => have := HG.out.1; omega
        | false =>
          have hgx : goodB F x = (leafB (F x) && !(prior F x).contains (F x).mem) := by unfold goodB; rw [if_neg hodd, hz]; rfl
          have hx0 : x % 2 = 0 := by omega
          have HX := Lib.hid (And.intro hx0 hz)
          have HM := Lib.hid hm
          have hx15 : x ≤ 15 := by omega
          rw [hz] at HB
          unfold leafB at hgx
          have hlen : (F x).un.isEmpty = decide (k = 0) := by
            rw [← hU]
            cases (F x).un <;> simp
          rw [hp, hm, he, hlen] at hgx
          clear hz hodd hp hm he hU
          have HGX := Lib.hid hgx
          clear hgx hlen
          obtain ⟨v, hv, hv0, hv1⟩ : ∃ v, (if m ∈ prior F x then (1 : Int) else 0) = v ∧ 0 ≤ v ∧ v ≤ 1 := ⟨_, rfl, by split <;> decide, by split <;> decide⟩
          have HV := Lib.hid hv
          clear hv
          by_cases d_p : p < 1
          · have dd_p : decide (p < 1) = true := decide_eq_true d_p
            have HZ := Lib.hid (rest_stop (show goodB F x = false by rw [HGX.out]; simp; omega) hlt)
            clear HGX
            go_wp2_with (go_at_call 46; refine (HB _).mono ?_; rintro e w2 ⟨rfl, hb2⟩; obtain ⟨hl2, ⟨x0, x1, x2, x3⟩, w3, hrun, ⟨y0, y1, y2, y3⟩, hl3, hbel3, hbox3, hmap3⟩ := chk_put HI.out hb2 hr HV.out hx15)
            go_ret
            rw [HZ.out]
            exact ⟨rfl, hbel3⟩
          · have dd_p : decide (p < 1) = false := decide_eq_false d_p
            by_cases d_m : m < 0
            · have dd_m : decide (m < 0) = true := decide_eq_true d_m
              have HZ := Lib.hid (rest_stop (show goodB F x = false by rw [HGX.out]; simp; omega) hlt)
              clear HGX
              go_wp2_with (go_at_call 46; refine (HB _).mono ?_; rintro e w2 ⟨rfl, hb2⟩; obtain ⟨hl2, ⟨x0, x1, x2, x3⟩, w3, hrun, ⟨y0, y1, y2, y3⟩, hl3, hbel3, hbox3, hmap3⟩ := chk_put HI.out hb2 hr HV.out hx15)
              go_ret
              rw [HZ.out]
              exact ⟨rfl, hbel3⟩
            · have dd_m : decide (m < 0) = false := decide_eq_false d_m
              by_cases d_e : e < 0
              · have dd_e : decide (e < 0) = true := decide_eq_true d_e
                have HZ := Lib.hid (rest_stop (show goodB F x = false by rw [HGX.out]; simp; omega) hlt)
                clear HGX
                go_wp2_with (go_at_call 46; refine (HB _).mono ?_; rintro e w2 ⟨rfl, hb2⟩; obtain ⟨hl2, ⟨x0, x1, x2, x3⟩, w3, hrun, ⟨y0, y1, y2, y3⟩, hl3, hbel3, hbox3, hmap3⟩ := chk_put HI.out hb2 hr HV.out hx15)
                go_ret
                rw [HZ.out]
                exact ⟨rfl, hbel3⟩
              · have dd_e : decide (e < 0) = false := decide_eq_false d_e
                by_cases d_k : 0 < k
                · have dd_k : decide (0 < k) = true := decide_eq_true d_k
                  have HZ := Lib.hid (rest_stop (show goodB F x = false by rw [HGX.out]; simp; omega) hlt)
                  clear HGX
                  go_wp2_with (go_at_call 46; refine (HB _).mono ?_; rintro e w2 ⟨rfl, hb2⟩; obtain ⟨hl2, ⟨x0, x1, x2, x3⟩, w3, hrun, ⟨y0, y1, y2, y3⟩, hl3, hbel3, hbox3, hmap3⟩ := chk_put HI.out hb2 hr HV.out hx15)
                  go_ret
                  rw [HZ.out]
                  exact ⟨rfl, hbel3⟩
                · have dd_k : decide (0 < k) = false := decide_eq_false d_k
                  by_cases hmem : m ∈ prior F x
                  · have d5 : decide (1 < v + 1) = true := decide_eq_true (by rw [← HV.out, if_pos hmem]; decide)
                    have HMEM := Lib.hid hmem
                    have HZ := Lib.hid (rest_stop (show goodB F x = false by rw [HGX.out]; simp [hmem]) hlt)
                    clear HGX hmem
                    go_wp2_with (go_at_call 46; refine (HB _).mono ?_; rintro e w2 ⟨rfl, hb2⟩; obtain ⟨hl2, ⟨x0, x1, x2, x3⟩, w3, hrun, ⟨y0, y1, y2, y3⟩, hl3, hbel3, hbox3, hmap3⟩ := chk_put HI.out hb2 hr HV.out hx15)
                    go_ret
                    rw [HZ.out]
                    exact ⟨rfl, hbel3⟩
                  · have d5 : decide (1 < v + 1) = false := decide_eq_false (by rw [← HV.out, if_neg hmem]; decide)
                    have HV0 := Lib.hid (show v = 0 by rw [← HV.out, if_neg hmem])
                    have HMEM := Lib.hid hmem
                    have HZ := Lib.hid (show goodsB F (x + 1) = true by
                      rw [goodsB, HG.out.2, HGX.out]
                      simp [hmem]
                      omega)
                    clear HGX hmem
                    go_wp2_with (go_at_call 46; refine (HB _).mono ?_; rintro e w2 ⟨rfl, hb2⟩; obtain ⟨hl2, ⟨x0, x1, x2, x3⟩, w3, hrun, ⟨y0, y1, y2, y3⟩, hl3, hbel3, hbox3, hmap3⟩ := chk_put HI.out hb2 hr HV.out hx15)
                    go_roundg (gk - 1)
                    case rel =>
                      refine ⟨x + 1, by omega, by have := HG.out.1; omega, by go_num, by rw [lastM, if_pos HX.out]; go_num, HZ.out, ?_⟩
                      obtain ⟨j, hj, hmj⟩ := hmap3
                      refine ⟨hbel3, hbox3, HI.out.hmb, j, hj, hmj.congr fun t => ?_⟩
                      rw [prior, if_pos HX.out, HM.out]
                      unfold upd
                      rw [HV0.out]
                      by_cases e : t = m
                      · simp [e]
                      · simp [e]
                    case measure => have := HG.out.1; omega
    · obtain rfl : x = n := by omega
      have HQ := Lib.hid HG.out.2
      by_cases hq : ((l / 2 : Nat) : Int) ≤ lastM F x
      · have a1 : decide (lastM F x < (l : Int) / 2) = false := decide_eq_false (by omega)
        have HR := Lib.hid (show errB (restB x F) = 0 by unfold restB; rw [HQ.out, HLV.out, decide_eq_true hq]; rfl)
        clear hq
        go_wp2
        go_ret
        rw [HR.out]
        exact ⟨rfl, HI.out.bel⟩
      · have a1 : decide (lastM F x < (l : Int) / 2) = true := decide_eq_true (by omega)
        have HR := Lib.hid (show errB (restB x F) = 1 by unfold restB; rw [HQ.out, HLV.out, decide_eq_false hq]; rfl)
        clear hq
        go_wp2
        go_ret
        rw [HR.out]
        exact ⟨rfl, HI.out.bel⟩
theorem chk_rest {n : Nat} {F : Nat → Node} (h : lvs n ≠ 0) : chk n F = restB n F := by
  unfold chk restB
  have h0 : (n == 0) = false := by rw [beq_eq_false_iff_ne]; intro e; subst e; exact h rfl
  rw [h0, Bool.false_or, bne_iff_ne.2 h, Bool.true_and]
theorem TrR.n_le {w : World} {v : Value} {n : Nat} {F : Nat → Node} (h : TrR w v n F) : n ≤ 9223372036854775807 := by
  obtain ⟨A, c, e, h1, h2, _⟩ := h
  unfold maxLen at h2
  omega
theorem check10 (v : Value) (n : Nat) (F : Nat → Node) (w : World) (hT : Tab w) (hR : TrR w v n F) (hn : n ≤ 9223372036854775806) :
    Calls Tryz.prog 10 #[.agg #[v]] w fun e w' => e = .returned (.int .i64 (errB (chk n F))) ∧ Below w.heap.size w w' := by
  obtain ⟨A, c, rfl, h1, h2, h3⟩ := hR
  by_cases h0 : n = 0
  · subst h0
    exact check_none A c w
  · by_cases hl : lvs n = 0
    · have : chk n F = false := by unfold chk; simp [h0, hl]
      rw [this]
      exact check_odd A n c w h0 hn hl
    · obtain ⟨b, o, rfl, h4⟩ := h3 (by omega)
      rw [chk_rest hl]
      exact check_loop b o n c F w hT hl h4
end Go.Proofs.YtnahhclflnjmcaaGreatDoor

/- Size, Members, Find, taken. -/
namespace Go.Proofs.YtnahhclflnjmcaaGreatDoor
open Go Go.RowKit
set_option linter.unusedVariables false
set_option linter.unusedSimpArgs false

theorem errB_true : errB true = 0 := rfl
theorem errB_false : errB false = 1 := rfl
theorem OwnI.below {w w' : World} {B : Nat} {v : Value} {l : List Int} (h : OwnI w B v l) (hb : Below w.heap.size w w') : OwnI w' B v l := by
  have hlt := World.ownsRow.lt h
  refine ⟨h.1, ?_⟩
  rcases h.2 with h1 | ⟨g, cap, cur, rfl, h2, h3, h4⟩
  · exact .inl h1
  · refine .inr ⟨g, cap, cur, rfl, h2, ?_, h4⟩
    rw [hb.block g (hlt g rfl).2]
    exact h3
theorem OwnI.slice {w : World} {B : Nat} {v : Value} {l : List Int} (h : OwnI w B v l) : ∃ A c, v = .slice A l.length c := by
  obtain ⟨A, c, e, _⟩ := h.ints
  exact ⟨A, c, e⟩
theorem pushg {ops : Array Oper} {rest : List Oper} {o : Oper} {a : Act} {Q : Exit → Act → World → Prop} {w0 w : World} {B g : Nat} {v : Value} {l : List Int} {u : Int}
    (hgd : o.guard = none) (s x : Operand) (ho : o.op = .call { callee := .builtin .append, args := #[s, x], argTypes := #[31, 31] })
    (hs : a.eval s = v) (hx : a.eval x = .slice (some ⟨g, 0, none⟩) 1 1) (hown : Hid (OwnI w B v l)) (hb : Below B w0 w) (hB : B ≤ w.heap.size) (hg : g = w.heap.size) (hl : l.length < 4294967296)
    (h : ∀ v' w', OwnI w' B v' (l ++ [u]) → Below B w0 w' → B ≤ w'.heap.size → wpList Tryz.prog ops Q rest (a.put o.dst v') w') :
    wpList Tryz.prog ops Q (o :: rest) a (w.alloc (.cells #[.int .i64 u] 3)) := by
  subst hg
  exact push hgd s x ho hs hx hown hb hB hl h
theorem memL_length (F : Nat → Node) : ∀ j, (memL F j).length ≤ j
  | 0 => Nat.le_refl _
  | j + 1 => by
    have := memL_length F j
    unfold memL
    split
    · simp; omega
    · omega
theorem lvs_lt {n i : Nat} (h : i < lvs n) : 2 * i < n ∧ i < 8 := by
  by_cases h0 : lvs n = 0
  · omega
  · obtain ⟨d, hd, rfl⟩ := lvs_iff.1 h0
    rw [lvs_pow hd] at h
    have := two_succ d
    have : 2 ^ d ≤ 2 ^ 3 := Nat.pow_le_pow_right (by decide) hd
    omega
theorem sizeM_lt {n i : Nat} {F : Nat → Node} (h : i < sizeM n F) : 2 * i < n ∧ i < 8 := by
  unfold sizeM at h
  split at h
  · exact lvs_lt h
  · omega
theorem sizeM_le (n : Nat) (F : Nat → Node) : sizeM n F ≤ 8 := by
  by_cases h : sizeM n F = 0
  · omega
  · have := (sizeM_lt (n := n) (F := F) (i := sizeM n F - 1) (by omega)).2
    omega
set_option maxHeartbeats 1000000 in
theorem size20 (v : Value) (n : Nat) (F : Nat → Node) (w : World) (hT : Tab w) (hR : TrR w v n F) (hn : n ≤ 262144) :
    Calls Tryz.prog 11 #[.agg #[v]] w fun e w' => e = .returned (.int .i64 (sizeM n F : Nat)) ∧ Below w.heap.size w w' := by
  have hC : ∀ W, Below w.heap.size w W → Calls Tryz.prog 10 #[.agg #[v]] W fun e w' => e = .returned (.int .i64 (errB (chk n F))) ∧ Below W.heap.size W w' := fun W hW =>
    check10 v n F W (hT.below hT.pos hW) (hR.below hW) (by omega)
  obtain ⟨A, c, rfl, -, -, -⟩ := hR
  unfold sizeM
  cases hz : chk n F with
  | false =>
    rw [hz, errB_false] at hC
    rw [if_neg (by decide)]
    go_enter Tryz.func11, Tryz.ntmps11
    go_wp2_with (go_at_call 10; refine (hC _ ((Below.refl _ _).alloc (Nat.le_refl _) _)).mono ?_; rintro e w1 ⟨rfl, hb1⟩)
    go_ret
    exact ⟨rfl, below_box hb1⟩
  | true =>
    rw [hz, errB_true] at hC
    rw [if_pos rfl]
    have hL := fun w => leaves26 A n c w (by omega)
    go_enter Tryz.func11, Tryz.ntmps11
    go_wp2_with (first | (go_at_call 10; refine (hC _ ((Below.refl _ _).alloc (Nat.le_refl _) _)).mono ?_; rintro e w1 ⟨rfl, hb1⟩; obtain ⟨hbox, hs1⟩ := box_keep hb1) | (go_at_call 44; refine (hL _).mono ?_; rintro e w2 ⟨rfl, hb2⟩))
    go_ret
    exact ⟨rfl, (below_box hb1).trans (hb2.mono (by have := (below_box hb1).size; omega))⟩
set_option maxHeartbeats 2000000 in
set_option maxRecDepth 100000 in
theorem members12 (v : Value) (n : Nat) (F : Nat → Node) (w : World) (hT : Tab w) (hR : TrR w v n F) (hn : n ≤ 262144) :
    Calls Tryz.prog 13 #[.agg #[v]] w fun e w' => ∃ v', e = .returned v' ∧ OwnI w' w.heap.size v' (memL F (sizeM n F)) ∧ Below w.heap.size w w' := by
  have hS : ∀ W, Below w.heap.size w W → Calls Tryz.prog 11 #[.agg #[v]] W fun e w' => e = .returned (.int .i64 (sizeM n F : Nat)) ∧ Below W.heap.size W w' := fun W hW =>
    size20 v n F W (hT.below hT.pos hW) (hR.below hW) hn
  have HSZ := Lib.hid (fun i (h : i < sizeM n F) => sizeM_lt h)
  have hs8 := sizeM_le n F
  obtain ⟨A, c, rfl, -, -, h3⟩ := hR
  have H3 := Lib.hid h3
  clear h3
  generalize sizeM n F = s at *
  go_enter Tryz.func13, Tryz.ntmps13
  go_wp2_with (go_at_call 11; refine (hS _ ((Below.refl _ _).alloc (Nat.le_refl _) _)).mono ?_; rintro e w1 ⟨rfl, hb1⟩; obtain ⟨hbox, hs1⟩ := box_keep hb1)
  have hw1 := below_box hb1
  obtain ⟨B, hB⟩ : ∃ B, B = w.heap.size + 1 := ⟨_, rfl⟩
  have hBs : B ≤ w1.heap.size := by omega
  have HW1 : Hid (∀ W, Below B w1 W → Below w.heap.size w W ∧ W.cell? ⟨w.heap.size, 0, none⟩ = some (.slice A n c)) := Lib.hid fun W hW =>
    ⟨hw1.trans (hW.mono (by omega)), by rw [hW.cell (show w.heap.size < B by omega)]; exact hbox⟩
  have HB := Lib.hid hB
  clear hb1 hS hB hw1 hbox hs1
  go_loopg [3, 8] (s + 1) (fun g v3 v8 wr => ∃ i : Nat, i ≤ s ∧ i + g = s + 1 ∧ v8 = .int .i64 i ∧ OwnI wr B v3 (memL F i) ∧ Below B w1 wr ∧ B ≤ wr.heap.size)
  case atStart => exact ⟨0, by omega, by omega, rfl, World.ownsRow_nil _ _ _ _, Below.refl _ _, hBs⟩
  case round =>
    obtain ⟨i, hi, hg, rfl, hown, hbel, hBr⟩ := hrel
    have HG := Lib.hid hg
    obtain ⟨hbelw, hbox2⟩ := HW1.out wr hbel
    have hbs := World.block_lt_of_cell? _ _ hbox2
    have HOWN := Lib.hid hown
    clear hg hown
    by_cases hlt : i < s
    · obtain ⟨hin, hi8⟩ := HSZ.out i hlt
      obtain ⟨b, o, rfl, hN⟩ := H3.out (by omega)
      obtain ⟨c0, c1, c2, ⟨A', cc, c3, hIn⟩, hr⟩ := (hN (2 * i) hin).below hbelw
      have hb0 : b < wr.heap.size := World.block_lt_of_cell? _ _ c0
      have j1 : (0 : Int) ≤ 2 * (i : Int) := by omega
      have j2 : 2 * (i : Int) < n := by omega
      have j3 : (i : Int) < s := by omega
      have hown2 := Lib.hid (HOWN.out.below ((Below.refl _ _).alloc (Nat.le_refl _) (.cells #[.int .i64 (F (2 * i)).pub, .int .i64 (F (2 * i)).mem, .int .i64 (F (2 * i)).ep, .slice A' (F (2 * i)).un.length cc] 95)))
      have hbel2 := hbel.alloc hBr (.cells #[.int .i64 (F (2 * i)).pub, .int .i64 (F (2 * i)).mem, .int .i64 (F (2 * i)).ep, .slice A' (F (2 * i)).un.length cc] 95)
      have hB2 : B ≤ (wr.alloc (.cells #[.int .i64 (F (2 * i)).pub, .int .i64 (F (2 * i)).mem, .int .i64 (F (2 * i)).ep, .slice A' (F (2 * i)).un.length cc] 95)).heap.size := by simp; omega
      clear hIn hN HOWN
      by_cases hp : 0 < (F (2 * i)).pub
      · have t1 : decide (0 < (F (2 * i)).pub) = true := decide_eq_true hp
        have HM := Lib.hid (show memL F (i + 1) = memL F i ++ [(F (2 * i)).mem] by rw [memL, if_pos hp])
        have HLEN := Lib.hid (memL_length F i)
        clear hp
        generalize (F (2 * i)).pub = p at *
        generalize (F (2 * i)).mem = m at *
        generalize (F (2 * i)).ep = e at *
        generalize (F (2 * i)).un.length = k at *
        go_wp2_with (at_builtin; refine pushg rfl _ _ rfl rfl rfl hown2 hbel2 hB2 ?c0 ?c1 ?_)
        case c1 => have := HLEN.out; omega
        intro v' w' h1 h2 h3
        have H1 := Lib.hid h1
        clear h1 hown2
        go_wp2_with fail
        go_roundg (gk - 1)
        case rel => exact ⟨i + 1, by omega, by have := HG.out; omega, by go_num, by rw [HM.out]; exact H1.out, h2, h3⟩
        case measure => have := HG.out; omega
      · have t1 : decide (0 < (F (2 * i)).pub) = false := decide_eq_false hp
        have HM := Lib.hid (show memL F (i + 1) = memL F i by rw [memL, if_neg hp])
        clear hp
        generalize (F (2 * i)).pub = p at *
        generalize (F (2 * i)).mem = m at *
        generalize (F (2 * i)).ep = e at *
        generalize (F (2 * i)).un.length = k at *
        go_wp2_with fail
        go_roundg (gk - 1)
        case rel => exact ⟨i + 1, by omega, by have := HG.out; omega, by go_num, by rw [HM.out]; exact hown2.out, hbel2, hB2⟩
        case measure => have := HG.out; omega
    · obtain rfl : i = s := by omega
      go_wp2
      go_ret
      exact ⟨_, rfl, own_lower (by have := HB.out; omega) HOWN.out, hbelw⟩
theorem findM_range (F : Nat → Node) (m : Int) : ∀ i, findM F m i = -1 ∨ (0 ≤ findM F m i ∧ findM F m i < i)
  | 0 => .inl rfl
  | i + 1 => by
    have := findM_range F m i
    unfold findM
    split
    · right; omega
    · split
      · right; omega
      · left; rfl
theorem findM_hit {F : Nat → Node} {m : Int} {i : Nat} (h : findM F m i = -1) (hp : 0 < (F (2 * i)).pub) (hm : (F (2 * i)).mem = m) : ∀ {s : Nat}, i < s → findM F m s = i
  | 0, hs => by omega
  | s + 1, hs => by
    unfold findM
    by_cases e : i = s
    · subst e
      rw [if_neg (by omega), if_pos ⟨hp, hm⟩]
    · rw [findM_hit h hp hm (by omega), if_pos (by omega)]
set_option maxHeartbeats 2000000 in
set_option maxRecDepth 100000 in
theorem find15 (v : Value) (n : Nat) (F : Nat → Node) (m : Int) (w : World) (hT : Tab w) (hR : TrR w v n F) (hn : n ≤ 262144) :
    Calls Tryz.prog 12 #[.agg #[v], .int .i64 m] w fun e w' => e = .returned (.int .i64 (findM F m (sizeM n F))) ∧ Below w.heap.size w w' := by
  have hS : ∀ W, Below w.heap.size w W → Calls Tryz.prog 11 #[.agg #[v]] W fun e w' => e = .returned (.int .i64 (sizeM n F : Nat)) ∧ Below W.heap.size W w' := fun W hW =>
    size20 v n F W (hT.below hT.pos hW) (hR.below hW) hn
  have HSZ := Lib.hid (fun i (h : i < sizeM n F) => sizeM_lt h)
  have hs8 := sizeM_le n F
  obtain ⟨A, c, rfl, -, -, h3⟩ := hR
  have H3 := Lib.hid h3
  clear h3
  generalize sizeM n F = s at *
  go_enter Tryz.func12, Tryz.ntmps12
  go_wp2_with (go_at_call 11; refine (hS _ ((Below.refl _ _).alloc (Nat.le_refl _) _)).mono ?_; rintro e w1 ⟨rfl, hb1⟩; obtain ⟨hbox, hs1⟩ := box_keep hb1)
  have hw1 := below_box hb1
  obtain ⟨B, hB⟩ : ∃ B, B = w.heap.size + 1 := ⟨_, rfl⟩
  have hBs : B ≤ w1.heap.size := by omega
  have HW1 : Hid (∀ W, Below B w1 W → Below w.heap.size w W ∧ W.cell? ⟨w.heap.size, 0, none⟩ = some (.slice A n c)) := Lib.hid fun W hW =>
    ⟨hw1.trans (hW.mono (by omega)), by rw [hW.cell (show w.heap.size < B by omega)]; exact hbox⟩
  clear hb1 hS hB hw1 hbox hs1
  go_loopg [9] (s + 1) (fun g v9 wr => ∃ i : Nat, i ≤ s ∧ i + g = s + 1 ∧ v9 = .int .i64 i ∧ findM F m i = -1 ∧ Below B w1 wr ∧ B ≤ wr.heap.size)
  case atStart => exact ⟨0, by omega, by omega, rfl, rfl, Below.refl _ _, hBs⟩
  case round =>
    obtain ⟨i, hi, hg, rfl, hfi, hbel, hBr⟩ := hrel
    have HG := Lib.hid (And.intro hg hfi)
    obtain ⟨hbelw, hbox2⟩ := HW1.out wr hbel
    have hbs := World.block_lt_of_cell? _ _ hbox2
    clear hg hfi
    by_cases hlt : i < s
    · obtain ⟨hin, hi8⟩ := HSZ.out i hlt
      obtain ⟨b, o, rfl, hN⟩ := H3.out (by omega)
      obtain ⟨c0, c1, c2, ⟨A', cc, c3, hIn⟩, hr⟩ := (hN (2 * i) hin).below hbelw
      have hb0 : b < wr.heap.size := World.block_lt_of_cell? _ _ c0
      have j1 : (0 : Int) ≤ 2 * (i : Int) := by omega
      have j2 : 2 * (i : Int) < n := by omega
      have j3 : (i : Int) < s := by omega
      have hbel2 := hbel.alloc hBr (.cells #[.int .i64 (F (2 * i)).pub, .int .i64 (F (2 * i)).mem, .int .i64 (F (2 * i)).ep, .slice A' (F (2 * i)).un.length cc] 95)
      have hbelw2 := (HW1.out _ hbel2).1
      have hB2 : B ≤ (wr.alloc (.cells #[.int .i64 (F (2 * i)).pub, .int .i64 (F (2 * i)).mem, .int .i64 (F (2 * i)).ep, .slice A' (F (2 * i)).un.length cc] 95)).heap.size := by simp; omega
      clear hIn hN
      by_cases hp : 0 < (F (2 * i)).pub
      · have t1 : decide (0 < (F (2 * i)).pub) = true := decide_eq_true hp
        by_cases hm : (F (2 * i)).mem = m
        · have t2 : ((F (2 * i)).mem == m) = true := by rw [beq_iff_eq]; exact hm
          have HR := Lib.hid (findM_hit HG.out.2 hp hm hlt)
          clear hp hm
          generalize (F (2 * i)).pub = p at *
          generalize (F (2 * i)).mem = m' at *
          generalize (F (2 * i)).ep = e at *
          generalize (F (2 * i)).un.length = k at *
          go_wp2_with fail
          go_ret
          rw [HR.out]
          exact ⟨rfl, hbelw2⟩
        · have t2 : ((F (2 * i)).mem == m) = false := by rw [beq_eq_false_iff_ne]; exact hm
          have HM := Lib.hid (show findM F m (i + 1) = -1 by rw [findM, if_neg (by have := HG.out.2; omega), if_neg (fun h => hm h.2)])
          clear hp hm
          generalize (F (2 * i)).pub = p at *
          generalize (F (2 * i)).mem = m' at *
          generalize (F (2 * i)).ep = e at *
          generalize (F (2 * i)).un.length = k at *
          go_wp2_with fail
          go_roundg (gk - 1)
          case rel => exact ⟨i + 1, by omega, by have := HG.out.1; omega, by go_num, HM.out, hbel2, hB2⟩
          case measure => have := HG.out.1; omega
      · have t1 : decide (0 < (F (2 * i)).pub) = false := decide_eq_false hp
        have HM := Lib.hid (show findM F m (i + 1) = -1 by rw [findM, if_neg (by have := HG.out.2; omega), if_neg (fun h => hp h.1)])
        clear hp
        generalize (F (2 * i)).pub = p at *
        generalize (F (2 * i)).mem = m' at *
        generalize (F (2 * i)).ep = e at *
        generalize (F (2 * i)).un.length = k at *
        go_wp2_with fail
        go_roundg (gk - 1)
        case rel => exact ⟨i + 1, by omega, by have := HG.out.1; omega, by go_num, HM.out, hbel2, hB2⟩
        case measure => have := HG.out.1; omega
    · obtain rfl : i = s := by omega
      go_wp2
      go_ret
      rw [HG.out.2]
      exact ⟨rfl, hbelw⟩
end Go.Proofs.YtnahhclflnjmcaaGreatDoor
