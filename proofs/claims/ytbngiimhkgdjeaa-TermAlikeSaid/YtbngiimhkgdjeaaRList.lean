/- The document's List and Data: as the program's. -/
import Derived.Test.YtbngiimhkgdjeaaRMake
namespace Go.Proofs.Ytbngiimhkgdjeaa
open Go.RowKit

/-- A row of numbers that can be read. -/
def IRd (w : World) (v : Value) (l : List Int) : Prop := ∃ A c, v = .slice A l.length c ∧ l.length ≤ 9223372036854775807 ∧ (l ≠ [] → ∃ b o, A = some ⟨b, o, none⟩ ∧ ∀ i x, l[i]? = some x → w.cell? ⟨b, o + i, none⟩ = some (.int .i64 x))
theorem OI.rd {w : World} {B : Nat} {v : Value} {l : List Int} (h : OI w B v l) : IRd w v l := by
  obtain ⟨A, c, rfl, hA⟩ := h.slice
  refine ⟨A, c, rfl, ?_, fun h0 => ?_⟩
  · rcases h.2 with ⟨h1, h2⟩ | ⟨b, cap, cur, h1, h2, h3, h4, h5, _⟩
    · omega
    · unfold maxLen at h5; omega
  · obtain ⟨b, rfl⟩ := hA (List.length_pos_iff.2 h0)
    exact ⟨b, 0, rfl, fun i x hi => by rw [Nat.zero_add]; exact h.il.cell rfl i x hi⟩
theorem OI.kr {w w' : World} {B : Nat} {v : Value} {l : List Int} (h : OI w B v l) (hk : KR w w') : OI w' B v l := by
  refine ⟨h.1, ?_⟩
  rcases h.2 with h1 | ⟨b, cap, cur, h1, h2, h3, h4⟩
  · exact .inl h1
  · exact .inr ⟨b, cap, cur, h1, h2, hk b cur 3 _ h3 (by decide) (by decide), h4⟩
theorem rlist_nil (p : Value) (A : Option Addr) (c : Nat) (w : World) : Calls Try.prog 18 #[p, .slice A 0 c] w fun e w' => e = .returned (.tuple #[.int .i64 0, .int .i64 0]) ∧ w = w' := by
  go_enter Try.func18, Try.ntmps18
  go_wp2
  refine wp_loop_rounds 1 ?_
  rw [rounds_succ]
  go_wp2
  go_ret2
  exact ⟨rfl, rfl⟩
set_option maxHeartbeats 2000000 in
set_option maxRecDepth 100000 in
theorem rlist (B g : Nat) (L : List Tm) (v s : Value) (l : List Int) (hsm : l.length ≤ 1048576) (hlen : L.length ≤ 1048576) (w : World) (h : RSt w B g L v) (hl : IRd w s l) (hst : ∀ w', Below B w w' → KR w w' → IRd w' s l) :
    Calls Try.prog 18 #[.pointer (some ⟨g, 0, none⟩), s] w fun e w' => ∃ v', e = .returned (.tuple #[.int .i64 (listS L l).1, .int .i64 (listS L l).2.1]) ∧ RSt w' B g (listS L l).2.2 v' ∧ Below B w w' ∧ KR w w' ∧ Fr w w' g v v' := by
  obtain ⟨AA, c, rfl, _, hA⟩ := hl
  obtain ⟨A, cv, hv⟩ := h.slice
  have hT : ∀ x, Calls Try.prog 34 #[.pointer (some ⟨g, 0, none⟩), .int .i64 x] w fun e w' => e = .returned (.bool (thereB L.length x)) ∧ w = w' := fun x => rthere g L.length cv A x w (by rw [h.c0, hv])
  obtain ⟨R, hR⟩ : ∃ R, R = listS L l := ⟨_, rfl⟩
  rw [← hR]
  have HR := Lib.hid hR
  have HH := Lib.hid h
  have HSTA := Lib.hid hst
  obtain ⟨N, hN⟩ : ∃ N, N = l.length := ⟨_, rfl⟩
  rw [← hN]
  have HN := Lib.hid hN
  rw [← hN] at hsm
  clear hR h hst hv
  by_cases h0 : l = []
  · subst h0
    have hN0 : N = 0 := HN.out
    clear hA hT
    subst hN0
    refine (rlist_nil _ AA c w).mono ?_
    rintro e w' ⟨rfl, rfl⟩
    have e : R = (0, 0, L) := by rw [HR.out]; rfl
    rw [e]
    exact ⟨_, rfl, HH.out, Below.refl _ _, KR.refl _, Fr.refl _ _ _⟩
  · have hp : 0 < N := by have := List.length_pos_iff.2 h0; omega
    obtain ⟨b, o, rfl, hcl⟩ := hA h0
    have HL := Lib.hid hcl
    have HRD : Hid (∀ w', Below B w w' → KR w w' → ∀ i x, l[i]? = some x → w'.cell? ⟨b, o + i, none⟩ = some (.int .i64 x)) := Lib.hid fun w' h1 h2 => by
      obtain ⟨A', c', e1, _, e2⟩ := HSTA.out w' h1 h2
      obtain ⟨b', o', e3, e4⟩ := e2 h0
      rw [e3] at e1
      injection e1 with e1
      injection e1 with e1
      injection e1 with e5 e6
      subst e5 e6
      exact e4
    have hN0 : (N == 0) = false := by rw [beq_eq_false_iff_ne]; omega
    have hN0' : ((N : Int) == 0) = false := by rw [beq_eq_false_iff_ne]; omega
    clear hcl hA hN h0 HSTA
    go_enter Try.func18, Try.ntmps18
    go_wp2_with fail
    go_loop [6] (fun v6 => ∃ k : Nat, k ≤ N ∧ v6 = .int .i64 k ∧ Hid ((l.take k).all (thereB L.length) = true)) (fun v6 => N - (intOf v6).toNat)
    case atStart => exact ⟨0, by omega, rfl, Lib.hid (by simp)⟩
    case round =>
      obtain ⟨k, hk, rfl, HA⟩ := hrel
      by_cases hlt : k < N
      · obtain ⟨x, hx⟩ : ∃ x, l[k]? = some x := ⟨l[k]'(by have := HN.out; omega), List.getElem?_eq_getElem _⟩
        have c1 := HL.out k x hx
        have hTx := hT x
        have i1 : (0 : Int) ≤ k := by omega
        have i2 : (k : Int) < N := by omega
        have HXX := Lib.hid hx
        clear hx hT
        obtain ⟨y, hy⟩ : ∃ y, y = thereB L.length x := ⟨_, rfl⟩
        rw [← hy] at hTx
        have HY := Lib.hid hy
        clear hy
        cases y with
        | false =>
          go_wp2_with (go_at_call 34; with_reducible refine hTx.mono ?_; rintro e w' ⟨rfl, rfl⟩)
          go_ret2
          have e : R = (0, 1, L) := by
            rw [HR.out]
            unfold listS
            rw [if_neg]
            intro hall
            rw [List.all_eq_true] at hall
            have := hall x (List.mem_of_getElem? HXX.out)
            rw [← HY.out] at this
            cases this
          rw [e]
          exact ⟨_, rfl, HH.out, Below.refl _ _, KR.refl _, Fr.refl _ _ _⟩
        | true =>
          go_wp2_with (go_at_call 34; with_reducible refine hTx.mono ?_; rintro e w' ⟨rfl, rfl⟩)
          go_round
          case rel =>
            refine ⟨k + 1, by omega, by go_num, Lib.hid ?_⟩
            rw [List.take_add_one, List.all_append, HA.out, HXX.out]
            simp [← HY.out]
          case measure => simp [intOf]; omega
      · obtain rfl : k = N := by omega
        obtain ⟨N', rfl⟩ : ∃ N', k = N' + 1 := ⟨k - 1, by omega⟩
        have hLL := HN.out
        obtain ⟨xl, hx⟩ : ∃ x, l[N']? = some x := ⟨l[N']'(by omega), List.getElem?_eq_getElem _⟩
        have c1 := HL.out N' xl hx
        have hall : ∀ (i : Nat) (x : Int), l[i]? = some x → 1 ≤ x ∧ x ≤ 1048576 := fun i x hi => by
          have h1 := HA.out
          rw [List.take_of_length_le (by omega), List.all_eq_true] at h1
          have h2 := h1 x (List.mem_of_getElem? hi)
          unfold thereB at h2
          rw [Bool.and_eq_true, decide_eq_true_eq, decide_eq_true_eq] at h2
          omega
        have hst : pairs L xl (l.take N').reverse = R := by
          rw [HR.out]
          unfold listS
          have h1 := HA.out
          rw [List.take_of_length_le (by omega)] at h1
          rw [if_pos h1]
          have h2 : l = l.take N' ++ [xl] := by
            have h3 := List.take_add_one (l := l) (i := N')
            rw [List.take_of_length_le (by omega), hx] at h3
            exact h3
          have h4 : l.reverse = xl :: (l.take N').reverse := by
            conv => lhs; rw [h2]
            simp
          rw [h4]
        have hxl := hall N' xl hx
        have HST := Lib.hid (And.intro hst (And.intro HH.out (And.intro (Below.refl B w) (And.intro (And.intro (KR.refl w) (Fr.refl w g v)) (And.intro (show 0 ≤ xl by omega) (And.intro hxl.2 hlen))))))
        have HALL := Lib.hid hall
        have i1 : (0 : Int) ≤ N' := by omega
        have i2 : (N' : Int) < (N' : Int) + 1 := by omega
        have i5 : (N' : Int) ≤ 1048576 := by omega
        clear hLL hx hall hst hxl hT hlt hk hp
        go_wp2_with fail
        clear hsm hlen hN0 hN0'
        go_loopw [7, 8] (fun v8 v9 wr => ∃ (k : Nat) (nn : Int) (L1 : List Tm) (v1 : Value) (j : Int), j = (k : Int) - 1 ∧ k ≤ N' ∧ v9 = .int .i64 j ∧ v8 = .int .i64 nn ∧ Hid (pairs L1 nn (l.take k).reverse = R ∧ RSt wr B g L1 v1 ∧ Below B w wr ∧ (KR w wr ∧ Fr w wr g v v1) ∧ 0 ≤ nn ∧ nn ≤ 1048576 ∧ L1.length ≤ 1048576)) (fun _ v9 _ => (intOf v9 + 1).toNat)
        case atStart => exact ⟨N', xl, L, v, (N' : Int) - 1, rfl, Nat.le_refl _, by go_num, rfl, HST⟩
        case round =>
          obtain ⟨k, nn, L1, v1, j, hj, hk, rfl, rfl, HI⟩ := hrel
          cases k with
          | zero =>
            obtain rfl : j = -1 := by omega
            clear i5 i1 i2 c1 hj hk
            go_wp2
            go_ret2
            have e : R = (nn, 0, L1) := HI.out.1.symm
            rw [e]
            exact ⟨_, rfl, HI.out.2.1, HI.out.2.2.1, HI.out.2.2.2.1⟩
          | succ k =>
            obtain rfl : j = (k : Int) := by omega
            obtain ⟨x, hx⟩ : ∃ x, l[k]? = some x := ⟨l[k]'(by have := HN.out; omega), List.getElem?_eq_getElem _⟩
            have c1 := HRD.out wr HI.out.2.2.1 HI.out.2.2.2.1.1 k x hx
            have hxb := HALL.out k x hx
            have hP := HI.out.1
            have e1 : (l.take (k + 1)).reverse = x :: (l.take k).reverse := by rw [List.take_add_one, hx]; simp
            rw [e1] at hP
            unfold pairs at hP
            have hMk := rmake B g L1 v1 3 0 x nn HI.out.2.2.2.2.2.2 wr HI.out.2.1
            have hrg := mk_range L1 ⟨3, 0, x, nn⟩ HI.out.2.2.2.2.2.2
            generalize mk L1 ⟨3, 0, x, nn⟩ = q at *
            obtain ⟨q1, q2, q3⟩ := q
            simp only at hMk hP hrg
            have HRG := Lib.hid hrg
            have i3 : (0 : Int) ≤ (k : Int) := by omega
            have i4 : (k : Int) < (N' : Int) + 1 := by omega
            by_cases he : q2 = 0
            · rw [if_pos he] at hP
              subst he
              have HP := Lib.hid hP
              clear hP hx hxb e1 hrg hj i1 i2
              go_wp2_with (go_at_call 27; with_reducible refine hMk.mono ?_; rintro e w' ⟨v', rfl, S', B', K', F'⟩)
              go_roundw
              case rel => exact ⟨k, q1, q3, v', (k : Int) - 1, rfl, by omega, by go_num, rfl, Lib.hid ⟨HP.out, S', HI.out.2.2.1.trans B', ⟨HI.out.2.2.2.1.1.trans K', HI.out.2.2.2.1.2.trans F' HI.out.2.2.1.size⟩, by have := HRG.out; omega, by have := HRG.out; omega, HRG.out.2.2⟩⟩
              case measure => simp [intOf] <;> omega
            · rw [if_neg he] at hP
              have t1 : (q2 != 0) = true := by rw [bne_iff_ne]; exact he
              have HP := Lib.hid hP
              clear hP hx hxb e1 hrg he hj i1 i2
              go_wp2_with (go_at_call 27; with_reducible refine hMk.mono ?_; rintro e w' ⟨v', rfl, S', B', K', F'⟩)
              go_ret2
              rw [← HP.out]
              exact ⟨_, rfl, S', HI.out.2.2.1.trans B', HI.out.2.2.2.1.1.trans K', HI.out.2.2.2.1.2.trans F' HI.out.2.2.1.size⟩
end Go.Proofs.Ytbngiimhkgdjeaa
