/- post.Has. -/
import Derived.Test.YthahadhdhpcndaaPostB
namespace Go.Proofs.Ythahadhdhpcndaa
open Go Go.RowKit
set_option linter.unusedVariables false
set_option linter.unusedSimpArgs false

/-- What Has answers. -/
structure HasP (L : List BoxD) (dev : Int) (w : World) (e : Ending) (w' : World) : Prop where
  out : Below w.heap.size w w' ∧ ((e = .returned (.tuple #[.bool false, .bool false]) ∧ (chk 0 L = false ∨ ∀ d ∈ L, d.d ≠ dev)) ∨ (chk 0 L = true ∧ ∃ (i : Nat) (d : BoxD), L[i]? = some d ∧ d.d = dev ∧ e = .returned (.tuple #[.bool true, .bool d.o])))
set_option maxHeartbeats 4000000 in
set_option maxRecDepth 100000 in
theorem has33 {ok : Nat → Prop} (v : Value) (L : List BoxD) (dev : Int) (w : World) (h : elemB.RdL ok w v L) (hL : L.length ≤ 17592186044416) (hdev : -9223372036854775808 ≤ dev ∧ dev ≤ 9223372036854775807) :
    Calls Try.prog 33 #[v, .int .i64 dev] w fun e w' => HasP L dev w e w' := by
  have M1 := check29 v L w h hL
  obtain ⟨A, c, rfl⟩ := h.slice
  have HH := Lib.hid (And.intro (h.mono (ok' := fun _ => True) fun _ _ _ => trivial) (And.intro hL hdev))
  clear h
  go_enter Try.func33, Try.ntmps33
  go_wp2_with fail
  refine M1.mono ?_
  rintro e w2 ⟨hC, B2⟩
  have hC := hC.out
  cases hc : chk 0 L with
  | false =>
    rw [hc] at hC
    subst hC
    have HB := Lib.hid (And.intro hc B2)
    clear M1 B2 hc
    go_wp2_with fail
    go_ret2
    exact ⟨⟨HB.out.2, .inl ⟨rfl, .inl HB.out.1⟩⟩⟩
  | true =>
    rw [hc, if_pos rfl] at hC
    subst hC
    have M2 := place54 (.slice A L.length c) L dev w2 (HH.out.1.keep (Kn.of_below B2)) HH.out.2.1 hc HH.out.2.2
    have HB2 := Lib.hid (And.intro B2 hc)
    clear M1 B2 hc
    go_wp2_with fail
    refine M2.mono ?_
    rintro e w3 ⟨hP, B3⟩
    obtain ⟨i, b, rfl, h1, h2, h3, -⟩ := hP.out
    have HB3 := Lib.hid (And.intro (HB2.out.1.trans (B3.mono HB2.out.1.size)) (And.intro h1 (And.intro h2 h3)))
    clear M2 B3 hP h1 h2 h3
    cases b with
    | false =>
      go_wp2_with fail
      go_ret2
      refine ⟨⟨HB3.out.1, .inl ⟨rfl, .inr fun d hd hdd => ?_⟩⟩⟩
      obtain ⟨j, hj, e⟩ := List.getElem_of_mem hd
      have hj2 : L[j]? = some d := by rw [List.getElem?_eq_getElem hj, e]
      have := HB3.out.2.2.2 j d hj2 hdd
      subst this
      exact absurd (HB3.out.2.2.1.2 ⟨d, hj2, hdd⟩) (by decide)
    | true =>
      obtain ⟨d, hd, hdd⟩ := HB3.out.2.2.1.1 rfl
      have hi := (List.getElem?_eq_some_iff.1 hd).1
      obtain ⟨A', n', c', e, k1, _, k3⟩ := (HH.out.1.keep (Kn.of_below HB3.out.1)).boxes
      injection e with e1 e2 e3
      subst e1 e2 e3
      obtain ⟨b0, o0, rfl, _, hb, hx⟩ := k3 (by omega)
      have k0 := (hx i d hd).2.1
      have i1 : (0 : Int) ≤ (i : Int) := by omega
      have i2 : (i : Int) < (L.length : Int) := by omega
      have HD := Lib.hid (And.intro hd hdd)
      clear hd hdd hi k1 k3 hb hx
      go_wp2_with fail
      go_quiet (fail)
      go_wp2
      go_ret2
      exact ⟨⟨below_drewN HB3.out.1 _, .inr ⟨HB2.out.2, i, d, HD.out.1, HD.out.2, rfl⟩⟩⟩
end Go.Proofs.Ythahadhdhpcndaa
