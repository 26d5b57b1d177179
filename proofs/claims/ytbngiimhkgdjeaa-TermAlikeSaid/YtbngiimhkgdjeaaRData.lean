/- The document's Data: as the program's. -/
import Derived.Test.YtbngiimhkgdjeaaRList
namespace Go.Proofs.Ytbngiimhkgdjeaa
open Go.RowKit

theorem RSt.pushed {w w' : World} {B B' g : Nat} {L : List Tm} {v s : Value} {l : List Int} {o : Obj} (h : RSt w B g L v) (ho : OI w B' s l) (hg : (w.alloc o).grownBy w' s.ownBlock) : RSt w' B g L v := by
  have hb : Below w.heap.size w (w.alloc o) := (Below.refl _ _).alloc (Nat.le_refl _) _
  have h1 := h.below hb
  have ho1 : OI (w.alloc o) B' s l := World.ownsRow.alloc ho o
  exact ⟨h.lo, Nat.le_trans h1.hB hg.size, block_row h1.blk (fun _ e => by injection e with _ e; cases e) ho1 hg, row_row h1.row ho1 (by decide) hg⟩
set_option maxHeartbeats 2000000 in
set_option maxRecDepth 100000 in
theorem rdata (B g : Nat) (L : List Tm) (v s : Value) (l : List Int) (hsm : l.length ≤ 4096) (hlen : L.length ≤ 1048576) (w : World) (h : RSt w B g L v) (hst : ∀ w', Below B w w' → IRd w' s l) :
    Calls Try.prog 20 #[.pointer (some ⟨g, 0, none⟩), s] w fun e w' => ∃ v', e = .returned (.tuple #[.int .i64 (dataS L [] l).1, .int .i64 (dataS L [] l).2.1]) ∧ RSt w' B g (dataS L [] l).2.2 v' ∧ Below B w w' ∧ Fr w w' g v v' := by
  obtain ⟨AA, c, rfl, _, _⟩ := hst w (Below.refl _ _)
  obtain ⟨R, hR⟩ : ∃ R, R = dataS L [] l := ⟨_, rfl⟩
  rw [← hR]
  have HSTA := Lib.hid hst
  obtain ⟨N, hN⟩ : ∃ N, N = l.length := ⟨_, rfl⟩
  rw [← hN] at hsm ⊢
  have HN := Lib.hid hN
  have HLO := Lib.hid h.hB
  have HST : Hid (dataS L [] (l.drop 0) = R ∧ RSt w B g L v ∧ OI w w.heap.size (.slice none 0 0) [] ∧ (Below B w w ∧ Fr w w g v v) ∧ ([] : List Int).length ≤ 0 ∧ L.length ≤ 1048576) := Lib.hid ⟨hR.symm, h, World.ownsRow_nil _ _ _ _, ⟨Below.refl _ _, Fr.refl _ _ _⟩, Nat.le_refl _, hlen⟩
  clear hR h hst hlen hN
  go_enter Try.func20, Try.ntmps20
  go_wp2_with fail
  go_loopw [6, 7] (fun v6 v7 wr => ∃ (k : Nat) (out : List Int) (L1 : List Tm) (v1 : Value), k ≤ N ∧ v7 = .int .i64 k ∧ Hid (dataS L1 out (l.drop k) = R ∧ RSt wr B g L1 v1 ∧ OI wr w.heap.size v6 out ∧ (Below B w wr ∧ Fr w wr g v v1) ∧ out.length ≤ k ∧ L1.length ≤ 1048576)) (fun _ v7 _ => N - (intOf v7).toNat)
  case atStart => exact ⟨0, [], L, v, by omega, rfl, HST⟩
  case round =>
    clear HST
    obtain ⟨k, out, L1, v1, hk, rfl, HI⟩ := hrel
    by_cases hlt : k < N
    · obtain ⟨x, hx⟩ : ∃ x, l[k]? = some x := ⟨l[k]'(by have := HN.out; omega), List.getElem?_eq_getElem _⟩
      have hne : l ≠ [] := fun e => by rw [e] at hx; simp at hx
      obtain ⟨AA', c', e1, _, hA⟩ := HSTA.out wr HI.out.2.2.2.1.1
      obtain ⟨b, o, rfl, hcl⟩ := hA hne
      injection e1 with e2 e3 e4
      subst e2
      have c1 := hcl k x hx
      have hP := HI.out.1
      have e1 : l.drop k = x :: l.drop (k + 1) := by
        have h1 : k < l.length := (List.getElem?_eq_some_iff.1 hx).1
        rw [List.drop_eq_getElem_cons h1]
        have := (List.getElem?_eq_some_iff.1 hx).2
        rw [this]
      rw [e1] at hP
      unfold dataS at hP
      have hMk := rmake B g L1 v1 2 x 0 0 HI.out.2.2.2.2.2 wr HI.out.2.1
      have hrg := mk_range L1 ⟨2, x, 0, 0⟩ HI.out.2.2.2.2.2
      generalize mk L1 ⟨2, x, 0, 0⟩ = q at *
      obtain ⟨q1, q2, q3⟩ := q
      simp only at hMk hP hrg
      have HRG := Lib.hid hrg
      have i1 : (0 : Int) ≤ (k : Int) := by omega
      have i2 : (k : Int) < (N : Int) := by omega
      clear e3 e4 hcl hA hne
      by_cases he : q2 = 0
      · rw [if_pos he] at hP
        subst he
        have HP := Lib.hid hP
        clear hP hx e1 hrg
        go_wp2_with fail
        with_reducible refine hMk.mono ?_
        rintro e w2 ⟨v', rfl, S', B', K', F'⟩
        have O2 := Lib.hid (HI.out.2.2.1.kr K')
        have hB2 : w.heap.size ≤ w2.heap.size := Nat.le_trans HI.out.2.2.2.1.1.size B'.size
        have hBB := S'.hB
        have hlo := HLO.out
        go_wp2_with (at_builtin; refine push rfl _ _ rfl rfl rfl O2 hB2 ?c1 ?_)
        case c1 => have := HI.out.2.2.2.2.1; omega
        intro v6' w3 o1 o2
        have S3 := S'.pushed O2.out o2
        have B3 : Below B w w3 := ((HI.out.2.2.2.1.1.trans B').alloc hBB _).grown o2 (by simp; omega) (fun j hj => Nat.le_trans hlo (World.ownsRow.lt O2.out j hj).1)
        have F3 := (HI.out.2.2.2.1.2.trans F' HI.out.2.2.2.1.1.size).pushed O2.out o2 hB2
        go_wp2_with fail
        go_roundw
        case rel => exact ⟨k + 1, out ++ [q1], q3, v', by omega, by go_num, Lib.hid ⟨HP.out, S3, o1, ⟨B3, F3⟩, by have := HI.out.2.2.2.2.1; simp; omega, HRG.out.2.2⟩⟩
        case measure => simp [intOf] <;> omega
      · rw [if_neg he] at hP
        have t1 : (q2 != 0) = true := by rw [bne_iff_ne]; exact he
        have HP := Lib.hid hP
        clear hP hx e1 hrg he
        go_wp2_with (go_at_call 27; with_reducible refine hMk.mono ?_; rintro e w2 ⟨v', rfl, S', B', K', F'⟩)
        go_ret2
        rw [← HP.out]
        exact ⟨_, rfl, S', HI.out.2.2.2.1.1.trans B', HI.out.2.2.2.1.2.trans F' HI.out.2.2.2.1.1.size⟩
    · obtain rfl : k = N := by omega
      have hP := HI.out.1
      rw [List.drop_of_length_le (by have := HN.out; omega)] at hP
      unfold dataS at hP
      have hLi := rlist B g L1 v1 _ out (by have := HI.out.2.2.2.2.1; omega) HI.out.2.2.2.2.2 wr HI.out.2.1 HI.out.2.2.1.rd (fun w' h1 h2 => (HI.out.2.2.1.kr h2).rd)
      rw [hP] at hLi
      clear hP
      go_wp2_with (go_at_call 18; with_reducible refine hLi.mono ?_; rintro e w2 ⟨v', rfl, S', B', K', F'⟩)
      go_ret2
      exact ⟨_, rfl, S', HI.out.2.2.2.1.1.trans B', HI.out.2.2.2.1.2.trans F' HI.out.2.2.2.1.1.size⟩
end Go.Proofs.Ytbngiimhkgdjeaa
