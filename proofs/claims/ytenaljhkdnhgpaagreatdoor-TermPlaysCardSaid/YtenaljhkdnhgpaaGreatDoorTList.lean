/- List: pairs of pairs. -/
import Derived.Test.YtenaljhkdnhgpaaGreatDoorTGet
namespace Go.Proofs.YtenaljhkdnhgpaaGreatDoor.T
open Go.RowKit

theorem num_range (L : List Tm) (t : Tm) (x : Int) (h : num L t = some x) : 1 ≤ x ∧ x ≤ L.length := by
  unfold num at h
  rw [Option.map_eq_some_iff] at h
  obtain ⟨i, hi, rfl⟩ := h
  have := (List.findIdx?_eq_some_iff_getElem.1 hi).1
  omega
theorem mk_range (L : List Tm) (t : Tm) (hl : L.length ≤ 1048576) : 0 ≤ (mk L t).1 ∧ (mk L t).1 ≤ (mk L t).2.2.length ∧ (mk L t).2.2.length ≤ 1048576 := by
  unfold mk
  split
  · exact ⟨by simp, by simp, hl⟩
  · cases e : num L t with
    | some x => have := num_range L t x e; exact ⟨by simp; omega, by simp; omega, hl⟩
    | none =>
      simp only
      split
      · exact ⟨by simp, by simp, hl⟩
      · refine ⟨by simp; omega, by simp, by simp; omega⟩
/-- A row of ints, in a block of its own kind. -/
def IL (w : World) (s : Value) (l : List Int) : Prop := w.ownsRow 0 3 1 s l.length (l.map (Value.int .i64))
theorem IL.kp {w w' : World} {B g m : Nat} {L : List Tm} {v s : Value} {l : List Int} (h : IL w s l) (hS : St w B g m L v) (hk : Kp w w' g m v) : IL w' s l := by
  refine ⟨h.1, ?_⟩
  rcases h.2 with h1 | ⟨b, cap, cur, rfl, h2, h3, h4⟩
  · exact .inl h1
  · refine .inr ⟨b, cap, cur, rfl, h2, ?_, h4⟩
    rw [hk b (lt_of_some h3) ?_ ?_ ?_]
    · exact h3
    · rintro rfl
      rw [hS.blk] at h3
      cases h3
    · rintro rfl
      obtain ⟨D, ⟨es, clock, hm, _⟩, _⟩ := hS.map
      rw [hm] at h3
      cases h3
    · intro e
      rcases hS.row.2 with ⟨z1, z2⟩ | ⟨g', cap', cur', z1, _, z3, _⟩
      · rw [z1] at e
        cases e
      · rw [z1] at e
        obtain rfl : b = g' := by simpa [Value.ownBlock] using e
        rw [z3] at h3
        cases h3
theorem IL.cell {w : World} {b n c : Nat} {l : List Int} (h : IL w (.slice (some ⟨b, 0, none⟩) n c) l) (hn : n = l.length) (i : Nat) (x : Int) (hi : l[i]? = some x) : w.cell? ⟨b, i, none⟩ = some (.int .i64 x) := by
  subst hn
  have hlt : i < l.length := (List.getElem?_eq_some_iff.1 hi).1
  have h : w.ownsRow 0 3 1 (.slice (some ⟨b, 0, none⟩) l.length c) l.length (l.map (Value.int .i64)) := h
  rw [h.cellAt i (by omega), List.getElem?_map, hi]
  rfl
def pairs (L : List Tm) (n : Int) : List Int → Int × Int × List Tm
  | [] => (n, 0, L)
  | x :: r => if (mk L ⟨3, 0, x, n⟩).2.1 = 0 then pairs (mk L ⟨3, 0, x, n⟩).2.2 (mk L ⟨3, 0, x, n⟩).1 r else (0, (mk L ⟨3, 0, x, n⟩).2.1, (mk L ⟨3, 0, x, n⟩).2.2)
def listS (L : List Tm) (l : List Int) : Int × Int × List Tm :=
  if l.all (thereB L.length) then match l.reverse with
    | [] => (0, 0, L)
    | n :: r => pairs L n r
  else (0, 1, L)
/-- All rows of ints stay. -/
def KT (w w' : World) : Prop := ∀ s l, IL w s l → IL w' s l
theorem KT.refl (w : World) : KT w w := fun _ _ h => h
theorem KT.trans {a b c : World} (h : KT a b) (k : KT b c) : KT a c := fun s l x => k s l (h s l x)
theorem list_nil (B g m : Nat) (L : List Tm) (v : Value) (A : Option Addr) (c : Nat) (w : World) (h : St w B g m L v) :
    Calls Tryz.prog 136 #[.pointer (some ⟨g, 0, none⟩), .slice A 0 c] w fun e w' => e = .returned (.tuple #[.int .i64 0, .int .i64 0]) ∧ w = w' := by
  have hM := made_yes g m w h.c1
  clear h
  go_enter Tryz.func136, Tryz.ntmps136
  go_wp2_with (go_at_call 30; with_reducible refine hM.mono ?_; rintro e w' ⟨rfl, rfl⟩)
  refine wp_loop_rounds 1 ?_
  rw [rounds_succ]
  go_wp2
  go_ret2
  exact ⟨rfl, rfl⟩
set_option maxHeartbeats 1000000 in
theorem list_cons (B g m : Nat) (L : List Tm) (v : Value) (b c N : Nat) (l : List Int) (hN : N = l.length) (h0 : 0 < N) (hsm : N ≤ 1048576) (hlen : L.length ≤ 1048576) (w : World) (h : St w B g m L v) (hl : IL w (.slice (some ⟨b, 0, none⟩) N c) l) :
    Calls Tryz.prog 136 #[.pointer (some ⟨g, 0, none⟩), .slice (some ⟨b, 0, none⟩) N c] w fun e w' => ∃ v', e = .returned (.tuple #[.int .i64 (listS L l).1, .int .i64 (listS L l).2.1]) ∧ St w' B g m (listS L l).2.2 v' ∧ Below B w w' ∧ KT w w' ∧ Fs w w' g m v v' := by
  have hM := made_yes g m w h.c1
  obtain ⟨A, cv, hv⟩ := h.slice
  have hT : ∀ x, Calls Tryz.prog 31 #[.pointer (some ⟨g, 0, none⟩), .int .i64 x] w fun e w' => e = .returned (.bool (thereB L.length x)) ∧ w = w' := fun x => there g L.length cv A x w (by rw [h.c0, hv])
  obtain ⟨R, hR⟩ : ∃ R, R = listS L l := ⟨_, rfl⟩
  rw [← hR]
  have HR := Lib.hid hR
  have HH := Lib.hid h
  have HL := Lib.hid hl
  have HN := Lib.hid hN
  clear hR h hl hN hv
  go_enter Tryz.func136, Tryz.ntmps136
  go_wp2_with (go_at_call 30; with_reducible refine hM.mono ?_; rintro e w' ⟨rfl, rfl⟩)
  go_loop [17] (fun v17 => ∃ k : Nat, k ≤ N ∧ v17 = .int .i64 k ∧ Hid ((l.take k).all (thereB L.length) = true)) (fun v17 => N - (intOf v17).toNat)
  case atStart => exact ⟨0, by omega, rfl, Lib.hid (by simp)⟩
  case round =>
    obtain ⟨k, hk, rfl, HA⟩ := hrel
    by_cases hlt : k < N
    · obtain ⟨x, hx⟩ : ∃ x, l[k]? = some x := ⟨l[k]'(by have := HN.out; omega), List.getElem?_eq_getElem _⟩
      have c1 := HL.out.cell HN.out k x hx
      have hTx := hT x
      have i1 : (0 : Int) ≤ k := by omega
      have i2 : (k : Int) < N := by omega
      have HXX := Lib.hid hx
      clear hx hT hM
      obtain ⟨y, hy⟩ : ∃ y, y = thereB L.length x := ⟨_, rfl⟩
      rw [← hy] at hTx
      have HY := Lib.hid hy
      clear hy
      cases y with
      | false =>
        go_wp2_with (go_at_call 31; with_reducible refine hTx.mono ?_; rintro e w' ⟨rfl, rfl⟩)
        go_ret2
        have e : R = (0, 1, L) := by
          rw [HR.out]
          unfold listS
          rw [if_neg]
          intro hall
          rw [List.all_eq_true] at hall
          have := hall x (List.mem_of_getElem? HXX.out)
          rw [← HY.out] at this
          cases this
        rw [e]
        exact ⟨_, rfl, HH.out, Below.refl _ _, KT.refl _, Fs.refl _ _ _ _⟩
      | true =>
        go_wp2_with (go_at_call 31; with_reducible refine hTx.mono ?_; rintro e w' ⟨rfl, rfl⟩)
        go_round
        case rel =>
          refine ⟨k + 1, by omega, by go_num, Lib.hid ?_⟩
          rw [List.take_add_one, List.all_append, HA.out, HXX.out]
          simp [← HY.out]
        case measure => simp [intOf]; omega
    · obtain rfl : k = N := by omega
      obtain ⟨N', rfl⟩ : ∃ N', k = N' + 1 := ⟨k - 1, by omega⟩
      have hLL := HN.out
      obtain ⟨xl, hx⟩ : ∃ x, l[N']? = some x := ⟨l[N']'(by omega), List.getElem?_eq_getElem _⟩
      have c1 := HL.out.cell HN.out N' xl hx
      have hall : ∀ (i : Nat) (x : Int), l[i]? = some x → 1 ≤ x ∧ x ≤ 1048576 := fun i x hi => by
        have h1 := HA.out
        rw [List.take_of_length_le (by omega), List.all_eq_true] at h1
        have h2 := h1 x (List.mem_of_getElem? hi)
        unfold thereB at h2
        rw [Bool.and_eq_true, decide_eq_true_eq, decide_eq_true_eq] at h2
        omega
      have hst : pairs L xl (l.take N').reverse = R := by
        rw [HR.out]
        unfold listS
        have h1 := HA.out
        rw [List.take_of_length_le (by omega)] at h1
        rw [if_pos h1]
        have h2 : l = l.take N' ++ [xl] := by
          have h3 := List.take_add_one (l := l) (i := N')
          rw [List.take_of_length_le (by omega), hx] at h3
          exact h3
        have h4 : l.reverse = xl :: (l.take N').reverse := by
          conv => lhs; rw [h2]
          simp
        rw [h4]
      have hxl := hall N' xl hx
      have HST := Lib.hid (And.intro hst (And.intro HH.out (And.intro (Below.refl B w) (And.intro (And.intro (KT.refl w) (Fs.refl w g m v)) (And.intro (show 0 ≤ xl by omega) (And.intro hxl.2 hlen))))))
      have HALL := Lib.hid hall
      have i1 : (0 : Int) ≤ N' := by omega
      have i2 : (N' : Int) < (N' : Int) + 1 := by omega
      clear hLL hx hall hst hxl hT hM hlt hk h0
      go_wp2_with fail
      have i5 : (N' : Int) ≤ 1048576 := by omega
      clear hsm hlen
      go_loopw [8, 9] (fun v8 v9 wr => ∃ (k : Nat) (nn : Int) (L1 : List Tm) (v1 : Value) (j : Int), j = (k : Int) - 1 ∧ k ≤ N' ∧ v9 = .int .i64 j ∧ v8 = .int .i64 nn ∧ Hid (pairs L1 nn (l.take k).reverse = R ∧ St wr B g m L1 v1 ∧ Below B w wr ∧ (KT w wr ∧ Fs w wr g m v v1) ∧ 0 ≤ nn ∧ nn ≤ 1048576 ∧ L1.length ≤ 1048576)) (fun _ v9 _ => (intOf v9 + 1).toNat)
      case atStart => exact ⟨N', xl, L, v, (N' : Int) - 1, rfl, Nat.le_refl _, by go_num, rfl, HST⟩
      case round =>
        obtain ⟨k, nn, L1, v1, j, hj, hk, rfl, rfl, HI⟩ := hrel
        cases k with
        | zero =>
          obtain rfl : j = -1 := by omega
          clear i5 i1 i2 c1 hj hk
          go_wp2
          go_ret2
          have e : R = (nn, 0, L1) := HI.out.1.symm
          rw [e]
          exact ⟨_, rfl, HI.out.2.1, HI.out.2.2.1, HI.out.2.2.2.1⟩
        | succ k =>
          obtain rfl : j = (k : Int) := by omega
          obtain ⟨x, hx⟩ : ∃ x, l[k]? = some x := ⟨l[k]'(by have := HN.out; omega), List.getElem?_eq_getElem _⟩
          have c1 := (HI.out.2.2.2.1.1 _ _ HL.out).cell HN.out k x hx
          have hxb := HALL.out k x hx
          have hP := HI.out.1
          have e1 : (l.take (k + 1)).reverse = x :: (l.take k).reverse := by rw [List.take_add_one, hx]; simp
          rw [e1] at hP
          unfold pairs at hP
          have hwf : Tm.wf ⟨3, 0, x, nn⟩ := by
            have h5 := HI.out.2.2.2.2.1
            have h6 := HI.out.2.2.2.2.2.1
            show (Lit.int .u8 3).wf = true ∧ (Lit.int .i64 0).wf = true ∧ (Lit.int .i64 x).wf = true ∧ (Lit.int .i64 nn).wf = true
            exact ⟨by decide, by decide, wf_small _ (by omega) (by omega), wf_small _ (by omega) (by omega)⟩
          have hMk := make B g m L1 v1 3 0 x nn hwf HI.out.2.2.2.2.2.2 wr HI.out.2.1
          have hrg := mk_range L1 ⟨3, 0, x, nn⟩ HI.out.2.2.2.2.2.2
          generalize mk L1 ⟨3, 0, x, nn⟩ = q at *
          obtain ⟨q1, q2, q3⟩ := q
          simp only at hMk hP hrg
          have HRG := Lib.hid hrg
          have i3 : (0 : Int) ≤ (k : Int) := by omega
          have i4 : (k : Int) < (N' : Int) + 1 := by omega
          by_cases he : q2 = 0
          · rw [if_pos he] at hP
            subst he
            have HP := Lib.hid hP
            clear hP hx hxb e1 hrg hj i1 i2
            go_wp2_with (go_at_call 28; with_reducible refine hMk.mono ?_; rintro e w' ⟨v', rfl, S', B', K'⟩)
            go_roundw
            case rel => exact ⟨k, q1, q3, v', (k : Int) - 1, rfl, by omega, by go_num, rfl, Lib.hid ⟨HP.out, S', HI.out.2.2.1.trans B', ⟨HI.out.2.2.2.1.1.trans (fun s l h => h.kp HI.out.2.1 K'.1), HI.out.2.2.2.1.2.trans K' HI.out.2.2.1.size⟩, by have := HRG.out; omega, by have := HRG.out; omega, HRG.out.2.2⟩⟩
            case measure => simp [intOf] <;> omega
          · rw [if_neg he] at hP
            have t1 : (q2 != 0) = true := by rw [bne_iff_ne]; exact he
            have HP := Lib.hid hP
            clear hP hx hxb e1 hrg he hj i1 i2
            go_wp2_with (go_at_call 28; with_reducible refine hMk.mono ?_; rintro e w' ⟨v', rfl, S', B', K'⟩)
            go_ret2
            rw [← HP.out]
            exact ⟨_, rfl, S', HI.out.2.2.1.trans B', HI.out.2.2.2.1.1.trans (fun s l h => h.kp HI.out.2.1 K'.1), HI.out.2.2.2.1.2.trans K' HI.out.2.2.1.size⟩
end Go.Proofs.YtenaljhkdnhgpaaGreatDoor.T
