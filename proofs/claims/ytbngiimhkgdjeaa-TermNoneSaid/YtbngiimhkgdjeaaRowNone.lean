/- A store that is not there, or that no call made, has no terms and says so, for every term and every number. No condition. -/
import Derived.Test.YtbngiimhkgdjeaaRows
import Derived.Test.YtbngiimhkgdjeaaLives
import Derived.WalkKit
import Derived.ProofKit
import Derived.OpenShut
import Derived.ChangeOld
import Derived.Below
import Derived.SizedLaws
import Derived.Carry
import Derived.Lib.SmallJoins
import Derived.Deep.Fields
namespace Go.Proofs.Ytbngiimhkgdjeaa.termNone
open Go.ChangeShapes Go.WideShapes Go.ChangeAt Go.RowKit Go.Deep Go.Joins
theorem own : ownKnob Try.prog.godebug = none := by kernel_rfl
theorem laidOut : laidOutB Try.prog = true := by kernel_rfl
set_option maxRecDepth 100000 in
theorem lifted (os : Os) (started : os.Started) (H : Type) (enc : TypeId × Value → H) :
    ReturnsInHanded {} Try.checked os 5 .any (Rows.termNoneSpec.pre6 enc Try.prog Try.f5 Rows.termNoneRow.domain false) (Rows.termNoneSpec.post enc Try.prog Try.f5 false true false false) := by
  refine returnsInHanded_of_change_sized (C := Try.checked) own started (by kernel_rfl) Try.func5
    (ChangeSpec.witness6 (enc := enc) (C := Try.checked) false ⟨#[], #[.agg #[.int .u8 0, .int .i64 0, .int .i64 0, .int .i64 0], .int .i64 0], []⟩ 8 (by kernel_rfl) (by kernel_rfl) (by kernel_rfl) (by kernel_rfl)) ?_
  intro W base args ds gs before hval0 hW hcnd hsz0 _
  have hval : ∀ (j : Nat) t v, Try.f5.params[j]? = some t → args[j]? = some v → Value.okWide Try.prog W .any base t v := hval0
  have hW' := hW
  obtain ⟨p, q, hA0, hV, rfl, hfz, hnd⟩ := hW
  have hA : DataW.TrodAll enc Try.prog W 0 (fun _ => true) true Try.f5.params.toList args.toList ds p := hA0
  rw [Try.params5] at hA hval
  obtain ⟨v0, vs0, d0, ds0, p0, q0, hargs, rfl, rfl, h0, r0⟩ := trodAll_cons hA
  obtain ⟨v1, vs1, d1, ds1, p1, q1, rfl, rfl, rfl, h1, r1⟩ := trodAll_cons r0
  obtain ⟨rfl, rfl, rfl⟩ := trodAll_nil r1
  obtain rfl : args = #[v0, v1] := by cases args; simp_all
  obtain ⟨rfl, rfl⟩ := trodVars_none hV
  have hv0 := hval 0 30 v0 rfl rfl
  have k0 := h0
  have lt0 : ∀ x ∈ p0, x.block < W.heap.size := by obtain ⟨m, hm⟩ := k0; exact DataW.trod_lt m _ _ _ hm
  obtain ⟨x0_0, x1_0, x2_0, x3_0, y0_0, y1_0, y2_0, y3_0, n0, rfl, rfl, rfl, t0_0, t1_0, t2_0, t3_0⟩ := open_agg4 Try.underlying30 (by kernel_rfl) (by kernel_rfl) hv0 h0
  obtain ⟨b0_0, e0_0, rfl, w0_0⟩ := DataW.trod_int Try.underlying28 t0_0
  obtain rfl : x0_0 = _ := by simpa using e0_0
  obtain ⟨b1_0, e1_0, rfl, w1_0⟩ := DataW.trod_int Try.underlying2 t1_0
  obtain rfl : x1_0 = _ := by simpa using e1_0
  obtain ⟨b2_0, e2_0, rfl, w2_0⟩ := DataW.trod_int Try.underlying3 t2_0
  obtain rfl : x2_0 = _ := by simpa using e2_0
  obtain ⟨b3_0, e3_0, rfl, w3_0⟩ := DataW.trod_int Try.underlying3 t3_0
  obtain rfl : x3_0 = _ := by simpa using e3_0
  have hv1 := hval 1 3 v1 rfl rfl
  have k1 := h1
  have lt1 : ∀ x ∈ p1, x.block < W.heap.size := by obtain ⟨m, hm⟩ := k1; exact DataW.trod_lt m _ _ _ hm
  obtain ⟨a1, rfl, rfl, rfl, w1⟩ := open_int Try.underlying3 hv1 h1
  clear hA0 hval0 hsz0 hval
  refine (termNone b0_0 b1_0 b2_0 b3_0 a1 lives W).mono fun e W' ⟨he, bel⟩ => ?_
  subst he
  exact ⟨_, rfl, _, _, _, [], _, [], hW', trodAll_mk1 (shut_bool Try.underlying4 _), (trodAll_cons_mk (Below.trod laidOut (by kernel_rfl) (of_decide_eq_true (by kernel_rfl)) k0 bel lt0) (trodAll_cons_mk (Below.trod laidOut (by kernel_rfl) (of_decide_eq_true (by kernel_rfl)) k1 bel lt1) trodAll_mk0)), rfl, bel.frame _, fun h => by cases h⟩
theorem over : Rows.termNoneRow.holds Try.pinned (OpenSpec.ofChange Rows.termNoneSpec) :=
  OpenClaim.holds_of_wide 5 Try.f5 rfl rfl rfl rfl rfl rfl rfl ⟨rfl, rfl, rfl, rfl, rfl⟩ rfl rfl rfl rfl rfl (by kernel_rfl) Try.func5 (by kernel_rfl)
    (of_decide_eq_true (by kernel_rfl)) (by unfold Func.isWrapper; first | (rw [if_pos (by decide +kernel)]; kernel_rfl) | (rw [if_neg (by decide +kernel)]; exact ⟨rfl, rfl⟩))
    (fun os started H enc _ => lifted os started H enc)
theorem proved : Rows.TermNoneSaid := over
#print axioms proved
end Go.Proofs.Ytbngiimhkgdjeaa.termNone
namespace Go.Proofs.Ytbngiimhkgdjeaa
/-- The row, under a short name, for the claim. -/
theorem termNone_holds : Rows.TermNoneSaid := termNone.proved
end Go.Proofs.Ytbngiimhkgdjeaa
