/- TermPlays: the walk. -/
import Derived.Test.YtenaljhkdnhgpaaGreatDoorPlRef
import Derived.Test.YtenaljhkdnhgpaaGreatDoorTLives
import Derived.Test.YtenaljhkdnhgpaaGreatDoorBkKeepT
import Derived.Test.YtenaljhkdnhgpaaGreatDoorBkAptT
namespace Go.Proofs.YtenaljhkdnhgpaaGreatDoor.T
open Go Go.RowKit Go.Proofs.YtenaljhkdnhgpaaGreatDoor.Bk
set_option linter.unusedVariables false
set_option linter.unusedSimpArgs false

theorem tight {K : KD} {BT : TypeId} {off : Nat} {w0 w : World} {B bb L kf N : Nat} {FP : Nat → Prop} (h : St1 K BT off w0 w B bb L kf N FP) : St1 K BT off w0 w B bb L kf N (fun b => b < w.heap.size) := by
  obtain ⟨bc, lv, hs, F, m, k1, k2, k3, k4, k5, k6, k7, k8, k9, k10⟩ := h.out
  exact ⟨⟨bc, lv, hs, F, m, k1, k2, k3, k4, k5, k6, k7, k8, fun b hb => (k8 b hb).1, k10⟩, h.hB, h.lo, h.below⟩
theorem terms12 {w0 w : World} {B bb L N s : Nat} {v : Value} (h : St1 kdTerm 66 5 w0 w B bb L 0 N (fun b => b < s)) (hN : N ≤ 1000000) (hbb : bb < s) (hs : B ≤ s) (hv : ∀ m, OwnH kdTerm w s v m L 0) :
    Calls Tryz.prog 12 #[.pointer (some ⟨bb, 0, none⟩), v] w fun e w' => e = .returned (.tuple #[]) ∧ St1 kdTerm 66 5 w0 w' B bb L 0 (N + 1) (fun b => b < w'.heap.size) := by
  obtain ⟨A, n, c, hvs⟩ : ∃ A n c, v = .slice A n c := by
    rcases hv 0 with h1 | ⟨g, o, n, cap, cur, h1, _⟩
    · exact ⟨_, _, _, h1⟩
    · exact ⟨_, _, _, h1⟩
  have hvB : ∀ m, OwnH kdTerm w B v m L 0 := fun m => by
    rcases hv m with h1 | ⟨g, o, n, cap, cur, e, h3, h4, h5⟩
    · exact .inl h1
    · exact .inr ⟨g, o, n, cap, cur, e, ⟨h3.blk, Nat.le_trans hs h3.hB, h3.le, h3.mx, h3.fit, h3.kind⟩, h4, h5⟩
  have hd : ∀ b, v.ownBlock = some b → ¬ b < s ∧ b ≠ bb := fun b hb => by
    have := ((hv 0).lt hb).2
    omega
  obtain ⟨bc, lv, hs', F, m, k1, k2, k3, k4, k5, k6, k7, k8, k9, k10⟩ := h.out
  have M := Bk.keepTerm Bk.kdTerm rfl bb bc v m k6 k1 k4 k2 k7 (hvB m) (fun b hb => ⟨fun e => (hd b hb).1 (k9 b e), (hd b hb).2⟩) (by omega) k5 (Nat.le_trans h.lo h.below.size)
  have HH := Lib.hid (And.intro h (And.intro hvB (And.intro hd (And.intro k1 (And.intro k2 (And.intro k3 (And.intro k4 (And.intro k5 (And.intro k6 (And.intro k7 (And.intro k8 (And.intro k9 k10))))))))))))
  subst hvs
  clear h hv hvB hd k1 k2 k3 k4 k5 k6 k7 k8 k9 k10
  go_enter Tryz.func12, Tryz.ntmps12
  go_wp2_with fail
  refine M.mono ?_
  rintro e w' ⟨rfl, hP⟩
  have HP := Lib.hid hP
  clear M hP
  go_wp2_with fail
  go_end0
  obtain ⟨h, hv, hd, k1, k2, k3, k4, k5, k6, k7, k8, k9, k10⟩ := HH.out
  obtain ⟨lv', h1, h2⟩ := HP.out.out
  have hch := HP.out.chg
  have hbb := Bk.lt_of_some k1
  refine ⟨rfl, tight (FP := fun _ => True) ⟨⟨_, lv', _, _, wrap64 (m + 1), h2, ?_, ?_, ?_, ?_, h1, ?_, ?_, fun _ _ => trivial, by rw [List.length_append, List.length_singleton]; omega⟩, h.hB, h.lo, h.below.trans (hch.below (Nat.le_trans h.lo h.below.size) fun b _ hb => ?_)⟩⟩
  · rw [Array.getElem?_setIfInBounds_ne (by decide), Array.getElem?_setIfInBounds_self_of_lt (Array.getElem?_eq_some_iff.1 k2).1]
  · intro j hj1 hj2 hj3
    rw [Array.getElem?_setIfInBounds_ne (by omega), Array.getElem?_setIfInBounds_ne (by omega)]
    exact k3 j hj1 hj2 hj3
  · rw [Array.getElem?_setIfInBounds_self_of_lt (by rw [Array.size_setIfInBounds]; exact (Array.getElem?_eq_some_iff.1 k4).1)]
  · unfold wrap64; omega
  · rintro (e | e | e)
    · exact k7 e
    · exact (hd bb e).2 rfl
    · omega
  · rintro b (e | e | e)
    · exact ⟨Nat.lt_of_lt_of_le (k8 b e).1 hch.size, (k8 b e).2⟩
    · exact ⟨Nat.lt_of_lt_of_le ((hv 0).lt e).1 hch.size, ((hv 0).lt e).2⟩
    · exact ⟨e.2, Nat.le_trans (Nat.le_trans h.lo h.below.size) e.1⟩
  · rcases hb with e | e
    · exact (k8 b e).2
    · rw [e]; exact h.hB
/-- An argument that is a row of numbers. -/
def AI (w : World) (v : Value) : Prop := ∃ A n c, v = .slice A n c ∧ ∀ i, i < n → ∃ b o, A = some ⟨b, o, none⟩ ∧ b < w.heap.size ∧ ∃ x : Int, w.cell? ⟨b, o + i, none⟩ = some (.int .i64 x)
theorem AI.below {w w' : World} {v : Value} (h : AI w v) (hb : Below w.heap.size w w') : AI w' v := by
  obtain ⟨A, n, c, e, h⟩ := h
  refine ⟨A, n, c, e, fun i hi => ?_⟩
  obtain ⟨b, o, h1, h2, x, h3⟩ := h i hi
  exact ⟨b, o, h1, Nat.lt_of_lt_of_le h2 hb.size, x, (hb.cell (p := ⟨b, o + i, none⟩) h2).trans h3⟩
theorem st0 (w2 W : World) (hW : W = w2.alloc (.cells #[.int .i64 0, .slice none 0 0, .slice none 0 0, .slice none 0 0, .slice none 0 0, .slice none 0 0, .slice none 0 0, .slice none 0 0, .slice none 0 0, .slice none 0 0, .slice none 0 0, .slice none 0 0, .slice none 0 0, .slice none 0 0, .slice none 0 0, .slice none 0 0, .slice none 0 0, .slice none 0 0, .slice none 0 0, .slice none 0 0, .slice none 0 0, .slice none 0 0, .slice none 0 0, .slice none 0 0, .slice none 0 0, .slice none 0 0, .slice none 0 0, .slice none 0 0, .slice none 0 0, .slice none 0 0, .slice none 0 0, .slice none 0 0, .slice none 0 0, .slice none 0 0, .slice none 0 0] 66)) : St1 kdTerm 66 5 w2 W w2.heap.size w2.heap.size 2000 0 0 (fun b => b < W.heap.size) := by
  obtain ⟨z, hz⟩ : ∃ z : Array Value, z = #[.int .i64 0, .slice none 0 0, .slice none 0 0, .slice none 0 0, .slice none 0 0, .slice none 0 0, .slice none 0 0, .slice none 0 0, .slice none 0 0, .slice none 0 0, .slice none 0 0, .slice none 0 0, .slice none 0 0, .slice none 0 0, .slice none 0 0, .slice none 0 0, .slice none 0 0, .slice none 0 0, .slice none 0 0, .slice none 0 0, .slice none 0 0, .slice none 0 0, .slice none 0 0, .slice none 0 0, .slice none 0 0, .slice none 0 0, .slice none 0 0, .slice none 0 0, .slice none 0 0, .slice none 0 0, .slice none 0 0, .slice none 0 0, .slice none 0 0, .slice none 0 0, .slice none 0 0] := ⟨_, rfl⟩
  rw [← hz] at hW
  have hx : W.heap[w2.heap.size]? = some (.cells z 66 (0, 0)) := by rw [hW]; exact heap_alloc_new w2 _
  have hb : Below w2.heap.size w2 W := by rw [hW]; exact (Below.refl _ _).alloc (Nat.le_refl _) _
  have hnil : ∀ j, 1 ≤ j → j < 35 → z[j]? = some (.slice none 0 0) := fun j h1 h2 => by
    obtain ⟨k, rfl⟩ : ∃ k, j = k + 1 := ⟨j - 1, by omega⟩
    rw [hz]
    simp only [List.getElem?_toArray, List.getElem?_cons_succ]
    show (List.replicate 34 (Value.slice none 0 0))[k]? = _
    rw [List.getElem?_replicate, if_pos (by omega)]
  exact ⟨⟨z, .slice none 0 0, [], fun _ => False, 0, hx, hnil 5 (by decide) (by decide), fun j h1 h2 _ => hnil j h1 h2, by rw [hz]; rfl, by omega, Bk.HL.nil _ _ _ _ _ _, id, fun b h => h.elim, fun b h => h.elim, Nat.le_refl _⟩, Nat.le_refl _, Nat.le_refl _, hb⟩
set_option maxHeartbeats 8000000 in
set_option maxRecDepth 100000 in
theorem plays_walk (l : List Tm) (v va : Value) (w : World) (hat : AT w v l) (hwf : ∀ t ∈ l, Tm.wf t) (hai : AI w va) :
    Calls Tryz.prog 3 #[v, va] w fun e w' => e = .returned (.bool true) ∧ Below w.heap.size w w' := by
  obtain ⟨A, n, c, rfl, hn⟩ : ∃ A n c, v = .slice A n c ∧ n = l.length := by
    rcases hat with ⟨h1, h2⟩ | ⟨a, c, h1, _⟩
    · exact ⟨_, _, _, h1, by rw [h2]; rfl⟩
    · exact ⟨_, _, _, h1, rfl⟩
  obtain ⟨Aa, na, ca, rfl, _⟩ := id hai
  by_cases h1 : 2000 < n
  · have q1 : decide ((2000 : Int) < (n : Int)) = true := decide_eq_true (by omega)
    have q2 : decide (2000 < n) = true := decide_eq_true h1
    clear hat hwf hai hn h1
    go_enter Tryz.func3, Tryz.ntmps3
    go_wp2
    go_ret
    exact ⟨rfl, Below.refl _ _⟩
  by_cases h2 : 50 < na
  · have q1 : decide ((2000 : Int) < (n : Int)) = false := decide_eq_false (by omega)
    have q2 : decide (2000 < n) = false := decide_eq_false h1
    have q3 : decide ((50 : Int) < (na : Int)) = true := decide_eq_true (by omega)
    have q4 : decide (50 < na) = true := decide_eq_true h2
    clear hat hwf hai hn h1 h2
    go_enter Tryz.func3, Tryz.ntmps3
    go_wp2
    go_ret
    exact ⟨rfl, Below.refl _ _⟩
  have q1 : decide ((2000 : Int) < (n : Int)) = false := decide_eq_false (by omega)
  have q2 : decide (2000 < n) = false := decide_eq_false h1
  have q3 : decide ((50 : Int) < (na : Int)) = false := decide_eq_false (by omega)
  have q4 : decide (50 < na) = false := decide_eq_false h2
  have M := build l (.slice A n c) w hat hwf (by omega)
  have HI := Lib.hid (And.intro hai (And.intro hn (And.intro h1 h2)))
  clear hat hwf hai hn h1 h2
  go_enter Tryz.func3, Tryz.ntmps3
  go_wp2_with fail
  refine M.mono ?_
  rintro e w1 ⟨g, m, gr, L, v1, vr, rfl, hT, hF, hL, hb⟩
  have ML := fun w' (hw : Below w1.heap.size w1 w') => len w.heap.size g m L v1 w' (hT.below hw).st
  have c0 : w1.cell? ⟨gr, 0, none⟩ = some vr := hT.rst.c0
  obtain ⟨Ar, cr, hvr⟩ := hT.rst.slice
  subst hvr
  have HT := Lib.hid (And.intro hT (And.intro hF (And.intro hL hb)))
  clear M hT hF hL hb q1 q2 q3 q4
  have hlq : (L.length : Int) ≤ 9223372036854775807 := by have := HT.out.1.st.len_le; omega
  go_wp2_with fail
  go_quiet ((go_at_call 6; exact Calls.quiet_of_same ((ML _ (by first | exact Below.refl _ _ | exact (Below.refl _ _).drew | exact below_drewN (Below.refl _ _) _)).mono (fun e w' h => ⟨h.1, h.2.symm⟩))))
  have HT2 : Hid (Two (w1.drewN nq) w.heap.size g m gr L v1 L (.slice Ar L.length cr) ∧ T.Full L ∧ L.length ≤ l.length ∧ Below w.heap.size w (w1.drewN nq)) :=
    Lib.hid ⟨HT.out.1.below (below_drewN (Below.refl _ _) _), HT.out.2.1, HT.out.2.2.1, below_drewN HT.out.2.2.2 _⟩
  clear ML c0 HT
  generalize w1.drewN nq = w2 at *
  have H0 := fun W hW => Lib.hid (st0 w2 W hW)
  go_wp2_with fail
  generalize hW : w2.alloc (.cells #[.int .i64 0, .slice none 0 0, .slice none 0 0, .slice none 0 0, .slice none 0 0, .slice none 0 0, .slice none 0 0, .slice none 0 0, .slice none 0 0, .slice none 0 0, .slice none 0 0, .slice none 0 0, .slice none 0 0, .slice none 0 0, .slice none 0 0, .slice none 0 0, .slice none 0 0, .slice none 0 0, .slice none 0 0, .slice none 0 0, .slice none 0 0, .slice none 0 0, .slice none 0 0, .slice none 0 0, .slice none 0 0, .slice none 0 0, .slice none 0 0, .slice none 0 0, .slice none 0 0, .slice none 0 0, .slice none 0 0, .slice none 0 0, .slice none 0 0, .slice none 0 0, .slice none 0 0] 66) = W0
  have HS0 := H0 _ hW.symm
  clear H0 hW
  have hi0 : (0 : Int) ≤ (na : Int) := by omega
  go_loopg [9] na (fun k v9 wr => ∃ i : Nat, v9 = .int .i64 (i : Int) ∧ i + k = na ∧ Hid (St1 kdTerm 66 5 w2 wr w2.heap.size w2.heap.size 2000 0 i (fun b => b < wr.heap.size)))
  case atStart => exact ⟨0, rfl, by simp, HS0⟩
  case round =>
    clear HS0
    obtain ⟨i, rfl, hik, HS⟩ := hrel
    by_cases hi : i < na
    · have hTr := HT2.out.1.below HS.out.below
      have hB0 : Below w.heap.size w wr := HT2.out.2.2.2.trans (HS.out.below.mono HT2.out.2.2.2.size)
      obtain ⟨Ab, nb, cb, hsl, hix⟩ := HI.out.1
      injection hsl with e1 e2 e3
      subst e1 e2 e3
      obtain ⟨b, o, rfl, hbw, x, hx⟩ := hix i hi
      have hcx : ∀ w', Below w.heap.size w w' → w'.cell? ⟨b, o + i, none⟩ = some (.int .i64 x) := fun w' hw => (hw.cell (p := ⟨b, o + i, none⟩) hbw).trans hx
      have HCX := Lib.hid hcx
      have x1 := hcx wr hB0
      obtain ⟨⟨⟨tk, tn, ta, tb⟩, ib⟩, hX⟩ : ∃ X, X = getX L x := ⟨_, rfl⟩
      have M := get_any w.heap.size g m L v1 x wr hTr.st
      have M8 := fun w' (hw : Below wr.heap.size wr w') => rget_any w.heap.size gr L _ x w' (hTr.below hw).rst
      rw [← hX] at M M8
      simp only [Tm.v] at M M8
      have HI2 := Lib.hid (And.intro hi (And.intro hTr hB0))
      have i1 : (0 : Int) ≤ (i : Int) := by omega
      have i2 : (i : Int) < (na : Int) := by omega
      clear hix hx hcx hX hi hTr hB0
      go_wp2_with fail
      refine M.mono ?_
      rintro e w3 ⟨rfl, b3⟩
      have y1 : (w3.alloc (.cells #[.int .u8 0, .int .i64 0, .int .i64 0, .int .i64 0] 69)).heap[w3.heap.size]? = some (.cells #[.int .u8 0, .int .i64 0, .int .i64 0, .int .i64 0] 69 (0, 0)) := heap_alloc_new w3 _
      obtain ⟨w4, hww4⟩ : ∃ W, W = (w3.alloc (.cells #[.int .u8 0, .int .i64 0, .int .i64 0, .int .i64 0] 69)).setRow w3.heap.size (over #[.int .u8 0, .int .i64 0, .int .i64 0, .int .i64 0] 0 #[.int .u8 tk, .int .i64 tn, .int .i64 ta, .int .i64 tb]) := ⟨_, rfl⟩
      have y2 : w4.heap[w3.heap.size]? = some (.cells #[.int .u8 tk, .int .i64 tn, .int .i64 ta, .int .i64 tb] 69 (0, 0)) := by
        rw [hww4]
        exact (setRow_same y1).trans (congrArg (fun z => some (Obj.cells z 69 (0, 0))) (over_full rfl))
      have hbw4 : Below wr.heap.size wr w4 := by
        rw [hww4]
        exact Bk.below_setRow (b3.alloc b3.size _) b3.size
      have x1 := HCX.out w4 (HI2.out.2.2.trans (hbw4.mono HI2.out.2.2.size))
      have HYw4 := Lib.hid (And.intro y1 (And.intro hww4 (And.intro y2 hbw4)))
      clear y1 hww4 y2 hbw4
      clear M b3
      have M := M8 w4 HYw4.out.2.2.2
      go_wp2_with (first | (rw [← HYw4.out.2.1]) | (with_reducible refine wpList_store_part rfl 69 _ _ rfl rfl w3.heap.size 0 4 rfl 69 _ _ rfl HYw4.out.1 cells69 rfl (by simp) (by simp [Value.oneCell']) ?_))
      refine M.mono ?_
      rintro e w5 ⟨rfl, b5⟩
      have b5o := b5
      have b5 := HYw4.out.2.2.2.trans (b5.mono HYw4.out.2.2.2.size)
      clear x1
      have y1 : (w5.alloc (.cells #[.int .u8 0, .int .i64 0, .int .i64 0, .int .i64 0] 69)).heap[w5.heap.size]? = some (.cells #[.int .u8 0, .int .i64 0, .int .i64 0, .int .i64 0] 69 (0, 0)) := heap_alloc_new w5 _
      obtain ⟨w6, hww6⟩ : ∃ W, W = (w5.alloc (.cells #[.int .u8 0, .int .i64 0, .int .i64 0, .int .i64 0] 69)).setRow w5.heap.size (over #[.int .u8 0, .int .i64 0, .int .i64 0, .int .i64 0] 0 #[.int .u8 tk, .int .i64 tn, .int .i64 ta, .int .i64 tb]) := ⟨_, rfl⟩
      have y2 : w6.heap[w5.heap.size]? = some (.cells #[.int .u8 tk, .int .i64 tn, .int .i64 ta, .int .i64 tb] 69 (0, 0)) := by
        rw [hww6]
        exact (setRow_same y1).trans (congrArg (fun z => some (Obj.cells z 69 (0, 0))) (over_full rfl))
      have hbw6 : Below wr.heap.size wr w6 := by
        rw [hww6]
        exact Bk.below_setRow (b5.alloc b5.size _) b5.size
      have x1 := HCX.out w6 (HI2.out.2.2.trans (hbw6.mono HI2.out.2.2.size))
      have hb46 : Below w4.heap.size w4 w6 := by
        rw [hww6]
        exact Bk.below_setRow (b5o.alloc b5o.size _) b5o.size
      have z3 : w6.heap[w3.heap.size]? = some (.cells #[.int .u8 tk, .int .i64 tn, .int .i64 ta, .int .i64 tb] 69 (0, 0)) := (hb46.block _ (lt_of_some HYw4.out.2.2.1)).trans HYw4.out.2.2.1
      have HZ3 := Lib.hid z3
      clear hb46 z3 b5o
      have HYw6 := Lib.hid (And.intro y1 (And.intro hww6 (And.intro y2 hbw6)))
      clear y1 hww6 y2 hbw6
      clear M b5
      have M := dag_any w.heap.size g m L v1 x HT2.out.2.1.1 w6 (HI2.out.2.1.below HYw6.out.2.2.2).st
      go_wp2_with (first | (rw [← HYw6.out.2.1]) | (with_reducible refine wpList_store_part rfl 69 _ _ rfl rfl w5.heap.size 0 4 rfl 69 _ _ rfl HYw6.out.1 cells69 rfl (by simp) (by simp [Value.oneCell']) ?_))
      refine M.mono ?_
      rintro e w7 ⟨vd, rfl, od, b7⟩
      have hb7 := HYw6.out.2.2.2.trans (b7.mono HYw6.out.2.2.2.size)
      have S6 := (tight (HS.out.keep HYw6.out.2.2.2)).keep b7
      have hbw2 : w2.heap.size < w6.heap.size := by
        obtain ⟨bc, lv, hs, F, m, k1, _⟩ := (HS.out.keep HYw6.out.2.2.2).out
        exact lt_of_some k1
      obtain ⟨Ad, cd, rfl, _⟩ := (RT.of_own' od).slice
      have x1 := HCX.out w7 (HI2.out.2.2.trans (hb7.mono HI2.out.2.2.size))
      have L1 : w7.heap[w3.heap.size]? = some (.cells #[.int .u8 tk, .int .i64 tn, .int .i64 ta, .int .i64 tb] 69 (0, 0)) := (b7.block _ (lt_of_some HZ3.out)).trans HZ3.out
      have L2 : w7.heap[w5.heap.size]? = some (.cells #[.int .u8 tk, .int .i64 tn, .int .i64 ta, .int .i64 tb] 69 (0, 0)) := (b7.block _ (lt_of_some HYw6.out.2.2.1)).trans HYw6.out.2.2.1
      have hsz : 0 + 4 ≤ (#[.int .u8 tk, .int .i64 tn, .int .i64 ta, .int .i64 tb] : Array Value).size := by simp
      have hex : (#[.int .u8 tk, .int .i64 tn, .int .i64 ta, .int .i64 tb] : Array Value).extract 0 (0 + 4) = #[.int .u8 tk, .int .i64 tn, .int .i64 ta, .int .i64 tb] := by simp
      have HLD := Lib.hid (And.intro L1 (And.intro L2 (And.intro hsz hex)))
      have M11 := rdag_any w.heap.size gr L _ x HT2.out.2.1.1 w7 (HI2.out.2.1.below hb7).rst
      have HD := Lib.hid (And.intro od (And.intro S6 (And.intro hbw2 hb7)))
      clear M L1 L2 hsz hex od S6 hbw2 hb7 b7
      go_wp2_with (first
        | (with_reducible refine wpList_load_part' rfl 69 _ rfl w3.heap.size 0 4 rfl 69 _ _ _ HLD.out.1 Tryz.underlying69 rfl cells69 HLD.out.2.2.1 _ HLD.out.2.2.2 ?_)
        | (with_reducible refine wpList_load_part' rfl 69 _ rfl w5.heap.size 0 4 rfl 69 _ _ _ HLD.out.2.1 Tryz.underlying69 rfl cells69 HLD.out.2.2.1 _ HLD.out.2.2.2 ?_))
      refine M11.mono ?_
      rintro e w8 ⟨ve, rfl, oe, b8⟩
      obtain ⟨Ae, ce, rfl, _⟩ := (RT.of_own' oe).slice
      have hdl : (dagX L x).length ≤ 2000 := by
        have h1 := dagX_len HT2.out.2.1.1 x
        have h2 := HT2.out.2.2.1
        have h3 := HI.out.2.1
        have h4 := HI.out.2.2.1
        omega
      have M10 := same_dec (RT.of_own' (own_below HD.out.1 b8)) (RT.of_own' oe) (by omega)
      rw [show decide (dagX L x = dagX L x) = true from decide_eq_true rfl] at M10
      have HE := Lib.hid (And.intro b8 hdl)
      clear M11 oe b8 hdl x1
      go_wp2_with fail
      refine M10.mono ?_
      rintro e w9 ⟨rfl, nq9, hw9⟩
      have b9 : Below w7.heap.size w7 w9 := by rw [hw9]; exact below_drewN HE.out.1 _
      have od9 := own_below HD.out.1 b9
      have ov : ∀ m, OwnH kdTerm w9 w6.heap.size (.slice Ad (dagX L x).length cd) m 2000 0 := fun m => OwnH.of_row (K := kdTerm) od9 HE.out.2 (fun j hj => by rw [Nat.zero_min] at hj; omega)
      have M12 := terms12 (HD.out.2.1.keep b9) (by have := HI.out.2.2.2; have := HI2.out.1; omega) HD.out.2.2.1 (Nat.le_of_lt HD.out.2.2.1) ov
      clear M10 hw9 b9 od9 ov
      go_wp2_with fail
      refine M12.mono ?_
      rintro e w10 ⟨rfl, S10⟩
      have HS10 := Lib.hid S10
      clear M12 S10
      go_wp2_with fail
      go_roundg (na - (i + 1))
      case measure => have := HI2.out.1; omega
      case rel => exact ⟨i + 1, by have h1 := HI2.out.1; have h2 := HI.out.2.2.2; first | (congr 1; unfold wrap64; omega) | go_num | (congr 1; go_arith), by have := HI2.out.1; omega, HS10⟩
    · obtain rfl : i = na := by omega
      have M := apartTerm HS.out (by have := HI.out.2.2.2; omega) (by omega)
      clear hi
      go_wp2_with fail
      refine M.mono ?_
      rintro e w3 ⟨rfl, hb3⟩
      have hB3 : Below w.heap.size w w3 := HT2.out.2.2.2.trans (hb3.mono HT2.out.2.2.2.size)
      have ML := lives w3
      have HB3 := Lib.hid hB3
      clear M hb3 hB3
      go_wp2_with fail
      refine ML.mono ?_
      rintro e w4 ⟨rfl, hb4⟩
      have HB4 := Lib.hid (HB3.out.trans (hb4.mono HB3.out.size))
      clear ML hb4
      go_wp2_with fail
      go_ret
      exact ⟨rfl, HB4.out⟩
end Go.Proofs.YtenaljhkdnhgpaaGreatDoor.T
