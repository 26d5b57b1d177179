/- IndexUp: the walk. -/
import Derived.Test.YtenaljhkdnhgpaaGreatDoorUpRef
namespace Go.Proofs.YtenaljhkdnhgpaaGreatDoor
open Go Go.RowKit Go.Proofs.YtenaljhkdnhgpaaGreatDoor.Bk
set_option linter.unusedVariables false
set_option linter.unusedSimpArgs false

theorem numbers24 {w0 w : World} {B bb L N : Nat} {FP : Nat → Prop} {v : Value} (h : Bk.St1 Bk.kdNumber 66 2 w0 w B bb L 0 N FP) (hN : N ≤ 1000000) (hv : ∀ m, Bk.OwnH Bk.kdNumber w B v m L 0) (hd : ∀ b, v.ownBlock = some b → ¬ FP b ∧ b ≠ bb) :
    Calls Tryz.prog 24 #[.pointer (some ⟨bb, 0, none⟩), v] w fun e w' => e = .returned (.tuple #[]) ∧ Bk.St1 Bk.kdNumber 66 2 w0 w' B bb L 0 (N + 1) (fun b => FP b ∨ v.ownBlock = some b ∨ w.heap.size ≤ b) ∧ Bk.Chg (fun b => FP b ∨ b = bb) w w' := by
  obtain ⟨A, n, c, hvs⟩ : ∃ A n c, v = .slice A n c := by
    rcases hv 0 with h1 | ⟨g, o, n, cap, cur, h1, _⟩
    · exact ⟨_, _, _, h1⟩
    · exact ⟨_, _, _, h1⟩
  obtain ⟨bc, lv, hs, F, m, k1, k2, k3, k4, k5, k6, k7, k8, k9, k10⟩ := h.out
  have M := Bk.keepNumber Bk.kdNumber rfl bb bc v m k6 k1 k4 k2 k7 (hv m) (fun b hb => ⟨fun e => (hd b hb).1 (k9 b e), (hd b hb).2⟩) (by omega) k5 (Nat.le_trans h.lo h.below.size)
  have HH := Lib.hid (And.intro h (And.intro hv (And.intro hd (And.intro k1 (And.intro k2 (And.intro k3 (And.intro k4 (And.intro k5 (And.intro k6 (And.intro k7 (And.intro k8 (And.intro k9 k10))))))))))))
  subst hvs
  clear h hv hd k1 k2 k3 k4 k5 k6 k7 k8 k9 k10
  go_enter Tryz.func24, Tryz.ntmps24
  go_wp2_with fail
  refine M.mono ?_
  rintro e w' ⟨rfl, hP⟩
  have HP := Lib.hid hP
  clear M hP
  go_wp2_with fail
  go_end0
  obtain ⟨h, hv, hd, k1, k2, k3, k4, k5, k6, k7, k8, k9, k10⟩ := HH.out
  obtain ⟨lv', h1, h2⟩ := HP.out.out
  have hch := HP.out.chg
  have hbb := Bk.lt_of_some k1
  refine ⟨rfl, ⟨⟨_, lv', _, _, wrap64 (m + 1), h2, ?_, ?_, ?_, ?_, h1, ?_, ?_, ?_, by rw [List.length_append, List.length_singleton]; omega⟩, h.hB, h.lo, h.below.trans (hch.below (Nat.le_trans h.lo h.below.size) fun b _ hb => ?_)⟩, hch.mono fun b _ hb => hb.imp (k9 b) id⟩
  · rw [Array.getElem?_setIfInBounds_ne (by decide), Array.getElem?_setIfInBounds_self_of_lt (Array.getElem?_eq_some_iff.1 k2).1]
  · intro j hj1 hj2 hj3
    rw [Array.getElem?_setIfInBounds_ne (by omega), Array.getElem?_setIfInBounds_ne (by omega)]
    exact k3 j hj1 hj2 hj3
  · rw [Array.getElem?_setIfInBounds_self_of_lt (by rw [Array.size_setIfInBounds]; exact (Array.getElem?_eq_some_iff.1 k4).1)]
  · unfold wrap64; omega
  · rintro (e | e | e)
    · exact k7 e
    · exact (hd bb e).2 rfl
    · omega
  · rintro b (e | e | e)
    · exact ⟨Nat.lt_of_lt_of_le (k8 b e).1 hch.size, (k8 b e).2⟩
    · exact ⟨Nat.lt_of_lt_of_le ((hv 0).lt e).1 hch.size, ((hv 0).lt e).2⟩
    · exact ⟨e.2, Nat.le_trans (Nat.le_trans h.lo h.below.size) e.1⟩
  · rintro b (e | e | e)
    · exact .inl (k9 b e)
    · exact .inr (.inl e)
    · exact .inr (.inr e.1)
  · rcases hb with e | e
    · exact (k8 b e).2
    · rw [e]; exact h.hB
theorem ownH_lower {K : KD} {w : World} {B B' : Nat} {v : Value} {m : Int} {l k : Nat} (h : OwnH K w B v m l k) (hB : B' ≤ B) : OwnH K w B' v m l k := by
  rcases h with h1 | ⟨g, o, n, cap, cur, e, h3, h4, h5⟩
  · exact .inl h1
  · exact .inr ⟨g, o, n, cap, cur, e, ⟨h3.blk, Nat.le_trans hB h3.hB, h3.le, h3.mx, h3.fit, h3.kind⟩, h4, h5⟩
theorem keepS {w0 w : World} {B bb L N s t : Nat} {v : Value} (h : St1 kdNumber 66 2 w0 w B bb L 0 N (fun b => b < s ∨ bb ≤ b)) (hN : N ≤ 1000000) (hBs : B ≤ s) (hs : s ≤ t) (ht : t ≤ bb) (hv : ∀ m, OwnH kdNumber w s v m L 0) (hlt : ∀ b, v.ownBlock = some b → b < t) :
    Calls Tryz.prog 24 #[.pointer (some ⟨bb, 0, none⟩), v] w fun e w' => e = .returned (.tuple #[]) ∧ St1 kdNumber 66 2 w0 w' B bb L 0 (N + 1) (fun b => b < t ∨ bb ≤ b) ∧ ∀ u, (∀ b, u.ownBlock = some b → t ≤ b ∧ b < bb) → (∀ m, OwnH kdNumber w t u m L 0) → ∀ m, OwnH kdNumber w' t u m L 0 := by
  have hbb : bb < w.heap.size := by
    obtain ⟨bc, lv, hs, F, m, k1, _⟩ := h.out
    exact lt_of_some k1
  refine (numbers24 h hN (fun m => ownH_lower (hv m) hBs) fun b hb => ?_).mono ?_
  · have h1 := ((hv 0).lt hb).2
    have h2 := hlt b hb
    exact ⟨fun e => by rcases e with e | e <;> omega, by omega⟩
  · rintro e w' ⟨rfl, h1, h2⟩
    refine ⟨rfl, ?_, fun u hu ho m => (ho m).keep fun b hb => h2.block b ((ho m).lt hb).1 fun e => ?_⟩
    · obtain ⟨bc, lv, hs', F, m, k1, k2, k3, k4, k5, k6, k7, k8, k9, k10⟩ := h1.out
      exact ⟨⟨bc, lv, hs', F, m, k1, k2, k3, k4, k5, k6, k7, k8, fun b hb => by
        rcases k9 b hb with (e | e) | e | e
        · exact .inl (by omega)
        · exact .inr e
        · exact .inl (hlt b e)
        · exact .inr (by omega), k10⟩, h1.hB, h1.lo, h1.below⟩
    · have := hu b hb
      rcases e with (e | e) | e <;> omega
theorem cells66 : (Tryz.prog.info? 66).map (·.size) = some 35 := by kernel_rfl
theorem built66 : Tryz.prog.built 66 [] = some #[.int .i64 0, .slice none 0 0, .slice none 0 0, .slice none 0 0, .slice none 0 0, .slice none 0 0, .slice none 0 0, .slice none 0 0, .slice none 0 0, .slice none 0 0, .slice none 0 0, .slice none 0 0, .slice none 0 0, .slice none 0 0, .slice none 0 0, .slice none 0 0, .slice none 0 0, .slice none 0 0, .slice none 0 0, .slice none 0 0, .slice none 0 0, .slice none 0 0, .slice none 0 0, .slice none 0 0, .slice none 0 0, .slice none 0 0, .slice none 0 0, .slice none 0 0, .slice none 0 0, .slice none 0 0, .slice none 0 0, .slice none 0 0, .slice none 0 0, .slice none 0 0, .slice none 0 0] := by kernel_rfl
theorem build66 (w : World) : (Instr.build 66 #[]).run Tryz.prog w = .ok (.agg #[.int .i64 0, .slice none 0 0, .slice none 0 0, .slice none 0 0, .slice none 0 0, .slice none 0 0, .slice none 0 0, .slice none 0 0, .slice none 0 0, .slice none 0 0, .slice none 0 0, .slice none 0 0, .slice none 0 0, .slice none 0 0, .slice none 0 0, .slice none 0 0, .slice none 0 0, .slice none 0 0, .slice none 0 0, .slice none 0 0, .slice none 0 0, .slice none 0 0, .slice none 0 0, .slice none 0 0, .slice none 0 0, .slice none 0 0, .slice none 0 0, .slice none 0 0, .slice none 0 0, .slice none 0 0, .slice none 0 0, .slice none 0 0, .slice none 0 0, .slice none 0 0, .slice none 0 0]) w := Go.run_build w 66 #[] _ built66
theorem wpList_build_eq {P : Program} {ops : Array Oper} {rest : List Oper} {o : Oper} {a : Act} {w : World} {Q : Exit → Act → World → Prop} (hgd : o.guard = none) (ty : TypeId) (ho : o.op = .build ty #[]) (v : Value) (hr : (Instr.build ty #[]).run P w = .ok v w)
    (h : wpList P ops Q rest (a.put o.dst v) w) : wpList P ops Q (o :: rest) a w := by
  refine wpList_plain hgd fun K hK => ?_
  unfold Oper.wp execOp
  simp only [ho, List.map_toArray, List.map_nil, Sem.run_bind, hr, Result.andThen_ok, Sem.run_pure]
  exact hK _ _ h
set_option maxHeartbeats 8000000 in
set_option maxRecDepth 100000 in
theorem indexUp_walk (x l P S : Int) (pb sb : Bool) (D C : List Int) (hD : D.length ≤ 1000) (hC : C.length ≤ 1000)
    (h15 : ∀ w, Tab w → Calls Tryz.prog 15 #[.int .i64 x, .int .i64 l] w fun e w' => e = .returned (.tuple #[.int .i64 P, .bool pb]) ∧ w = w')
    (h16 : ∀ w, Tab w → Calls Tryz.prog 16 #[.int .i64 x, .int .i64 l] w fun e w' => e = .returned (.tuple #[.int .i64 S, .bool sb]) ∧ w = w')
    (h17 : ∀ w, Tab w → Calls Tryz.prog 17 #[.int .i64 x, .int .i64 l] w fun e w' => ∃ v, e = .returned v ∧ HeldI w' w.heap.size v D ∧ Below w.heap.size w w')
    (h18 : ∀ w, Tab w → Calls Tryz.prog 18 #[.int .i64 x, .int .i64 l] w fun e w' => ∃ v, e = .returned v ∧ HeldI w' w.heap.size v C ∧ Below w.heap.size w w')
    (h19 : ∀ w, Calls Tryz.prog 19 #[.int .i64 x, .int .i64 l] w fun e w' => e = .returned (.tuple #[.int .i64 P, .bool pb]) ∧ w = w')
    (h20 : ∀ w, Calls Tryz.prog 20 #[.int .i64 x, .int .i64 l] w fun e w' => e = .returned (.tuple #[.int .i64 S, .bool sb]) ∧ w = w')
    (h21 : ∀ w, 0 < w.heap.size → Calls Tryz.prog 21 #[.int .i64 x, .int .i64 l] w fun e w' => ∃ v, e = .returned v ∧ OwnI w' w.heap.size v D ∧ Below w.heap.size w w')
    (h22 : ∀ w, Calls Tryz.prog 22 #[.int .i64 x, .int .i64 l] w fun e w' => ∃ v, e = .returned v ∧ OwnI w' w.heap.size v C ∧ Below w.heap.size w w') (w : World) (hT : Tab w) :
    Calls Tryz.prog 4 #[.int .i64 x, .int .i64 l] w fun e w' => e = .returned (.bool true) ∧ Below w.heap.size w w' := by
  have hpos := hT.pos
  have hTb : ∀ w', Below w.heap.size w w' → Tab w' := fun w' hb => hT.below hpos hb
  have M15 := h15 w hT
  have M16 := h16 w hT
  have M17 := h17 w hT
  go_enter Tryz.func4, Tryz.ntmps4
  go_wp2_with (first | (go_at_call 15; refine M15.mono ?_; rintro e w' ⟨rfl, rfl⟩) | (go_at_call 16; refine M16.mono ?_; rintro e w' ⟨rfl, rfl⟩))
  refine M17.mono ?_
  rintro e w1 ⟨vd, rfl, hd, b1⟩
  have M17 := h17 w1 (hTb _ b1)
  obtain ⟨Ad, nd, cd, hvd⟩ : ∃ A n c, vd = .slice A n c := by obtain ⟨A, c, h, _⟩ := hd.1; exact ⟨_, _, _, h⟩
  clear M15 M16
  subst hvd
  go_wp2_with fail
  refine M17.mono ?_
  rintro e w2 ⟨ve, rfl, he, b2⟩
  have B2 := b1.trans (b2.mono b1.size)
  have M18 := h18 w2 (hTb _ B2)
  obtain ⟨Ae, ne, ce, hve⟩ : ∃ A n c, ve = .slice A n c := by obtain ⟨A, c, h, _⟩ := he.1; exact ⟨_, _, _, h⟩
  subst hve
  clear M17
  go_wp2_with fail
  refine M18.mono ?_
  rintro e w3 ⟨vc, rfl, hc, b3⟩
  have B3 := B2.trans (b3.mono B2.size)
  have M18 := h18 w3 (hTb _ B3)
  obtain ⟨Ac, nc, cc, hvc⟩ : ∃ A n c, vc = .slice A n c := by obtain ⟨A, c, h, _⟩ := hc.1; exact ⟨_, _, _, h⟩
  subst hvc
  go_wp2_with fail
  refine M18.mono ?_
  rintro e w4 ⟨vf, rfl, hf, b4⟩
  have B4 := B3.trans (b4.mono B3.size)
  have M19 := h19 w4
  have M20 := h20 w4
  have M21 := h21 w4 (Nat.lt_of_lt_of_le hpos B4.size)
  obtain ⟨Af, nf, cf, hvf⟩ : ∃ A n c, vf = .slice A n c := by obtain ⟨A, c, h, _⟩ := hf.1; exact ⟨_, _, _, h⟩
  subst hvf
  have HD := Lib.hid (And.intro hd (And.intro he (And.intro hc (And.intro hf (And.intro b1 (And.intro b2 (And.intro b3 b4)))))))
  have HB4 := Lib.hid B4
  clear M18 hd he hc hf b1 b2 b3 b4 B2 B3 B4
  go_wp2_with (first | (go_at_call 19; refine M19.mono ?_; rintro e w' ⟨rfl, rfl⟩) | (go_at_call 20; refine M20.mono ?_; rintro e w' ⟨rfl, rfl⟩))
  refine M21.mono ?_
  rintro e w5 ⟨vx, rfl, hx, b5⟩
  have M22 := h22 w5
  obtain ⟨Ax, nx, cx, hvx⟩ : ∃ A n c, vx = .slice A n c := by obtain ⟨A, c, h, _⟩ := hx.ints; exact ⟨_, _, _, h⟩
  subst hvx
  clear M19 M20 M21
  go_wp2_with fail
  refine M22.mono ?_
  rintro e w6 ⟨vy, rfl, hy, b6⟩
  obtain ⟨Ay, ny, cy, hvy⟩ : ∃ A n c, vy = .slice A n c := by obtain ⟨A, c, h, _⟩ := hy.ints; exact ⟨_, _, _, h⟩
  subst hvy
  obtain ⟨hd, he, hc, hf, b1, b2, b3, b4⟩ := HD.out
  have b56 : Below w4.heap.size w4 w6 := b5.trans (b6.mono b5.size)
  have b26 : Below w3.heap.size w3 w6 := b4.trans (b56.mono b4.size)
  have b16 : Below w2.heap.size w2 w6 := b3.trans (b26.mono b3.size)
  have b06 : Below w1.heap.size w1 w6 := b2.trans (b16.mono b2.size)
  have HX := Lib.hid (And.intro (hd.below b06) (And.intro (he.below b16) (And.intro (hc.below b26) (And.intro (hf.below b56) (And.intro (hx.ints.below b6) hy.ints)))))
  have HL := Lib.hid (And.intro (fun b (e : (Value.slice Ad nd cd).ownBlock = some b) => ((hd.2 0).lt e).1) (And.intro (fun b (e : (Value.slice Ae ne ce).ownBlock = some b) => ((he.2 0).lt e)) (And.intro (fun b (e : (Value.slice Ac nc cc).ownBlock = some b) => ((hc.2 0).lt e)) (And.intro (fun b (e : (Value.slice Af nf cf).ownBlock = some b) => ((hf.2 0).lt e)) (And.intro b1.size (And.intro b2.size (And.intro b3.size (And.intro b4.size (And.intro b56.size (HB4.out.trans (b56.mono HB4.out.size)))))))))))
  have S1 := fun (w' : World) (hb : Below w6.heap.size w6 w') => same (.slice Ad nd cd) (.slice Ax nx cx) D D w' (HX.out.1.1.below hb) (HX.out.2.2.2.2.1.below hb)
  have S2 := fun (w' : World) (hb : Below w6.heap.size w6 w') => same (.slice Ae ne ce) (.slice Ax nx cx) D D w' (HX.out.2.1.1.below hb) (HX.out.2.2.2.2.1.below hb)
  have S3 := fun (w' : World) (hb : Below w6.heap.size w6 w') => same (.slice Ac nc cc) (.slice Ay ny cy) C C w' (HX.out.2.2.1.1.below hb) (HX.out.2.2.2.2.2.below hb)
  have S4 := fun (w' : World) (hb : Below w6.heap.size w6 w') => same (.slice Af nf cf) (.slice Ay ny cy) C C w' (HX.out.2.2.2.1.1.below hb) (HX.out.2.2.2.2.2.below hb)
  have eD : sameB D D = true := decide_eq_true rfl
  have eC : sameB C C = true := decide_eq_true rfl
  simp only [eD, eC] at S1 S2 S3 S4
  have HS := Lib.hid (And.intro S1 (And.intro S2 (And.intro S3 S4)))
  clear M22 hx hy b5 b6 hd he hc hf b1 b2 b3 b4 b56 b26 b16 b06 HD HB4 S1 S2 S3 S4 eD eC h15 h16 h17 h18 h19 h20 h21 h22
  have M := HS.out.1 w6 (Below.refl _ _)
  go_wp2_with fail
  refine M.mono ?_
  rintro e v0 ⟨rfl, n0, hv0⟩
  have q0 : Below w6.heap.size w6 v0 := by rw [hv0]; exact below_drewN (Below.refl _ _) _
  have M := HS.out.2.1 v0 q0
  clear hv0
  go_wp2_with fail
  refine M.mono ?_
  rintro e v1 ⟨rfl, n1, hv1⟩
  have q1 : Below w6.heap.size w6 v1 := by rw [hv1]; exact below_drewN q0 _
  have M := HS.out.2.2.1 v1 q1
  clear hv1
  go_wp2_with fail
  refine M.mono ?_
  rintro e v2 ⟨rfl, n2, hv2⟩
  have q2 : Below w6.heap.size w6 v2 := by rw [hv2]; exact below_drewN q1 _
  have M := HS.out.2.2.2 v2 q2
  clear hv2
  go_wp2_with fail
  refine M.mono ?_
  rintro e v3 ⟨rfl, n3, hv3⟩
  have q3 : Below w6.heap.size w6 v3 := by rw [hv3]; exact below_drewN q2 _
  clear hv3
  obtain ⟨z, hz⟩ : ∃ z : Array Value, z = #[.int .i64 0, .slice none 0 0, .slice none 0 0, .slice none 0 0, .slice none 0 0, .slice none 0 0, .slice none 0 0, .slice none 0 0, .slice none 0 0, .slice none 0 0, .slice none 0 0, .slice none 0 0, .slice none 0 0, .slice none 0 0, .slice none 0 0, .slice none 0 0, .slice none 0 0, .slice none 0 0, .slice none 0 0, .slice none 0 0, .slice none 0 0, .slice none 0 0, .slice none 0 0, .slice none 0 0, .slice none 0 0, .slice none 0 0, .slice none 0 0, .slice none 0 0, .slice none 0 0, .slice none 0 0, .slice none 0 0, .slice none 0 0, .slice none 0 0, .slice none 0 0, .slice none 0 0] := ⟨_, rfl⟩
  have hbu := build66 v3
  rw [← hz] at hbu
  have HBU := Lib.hid hbu
  clear hbu
  obtain ⟨W0, hW0⟩ : ∃ W, W = (v3.alloc (.cells z 66)).setRow v3.heap.size (over z 0 z) := ⟨_, rfl⟩
  have hx0 : (v3.alloc (.cells z 66)).heap[v3.heap.size]? = some (.cells z 66 (0, 0)) := heap_alloc_new v3 _
  have hzs : z.size = 35 := by rw [hz]; rfl
  have hzo : ∀ u ∈ z.toList, u.oneCell' = true := by rw [hz]; simp [Value.oneCell']
  have hfit : 0 + 35 ≤ z.size := by omega
  have HW := Lib.hid (And.intro hz (And.intro hW0 (And.intro hx0 (And.intro hzs (And.intro hzo hfit)))))
  clear hz hW0 hx0 hzs hzo hfit
  go_wp2_with (first | (with_reducible refine wpList_build_eq rfl 66 rfl _ HBU.out ?_) | (rw [← HW.out.1]; with_reducible refine wpList_store_part rfl 66 _ _ rfl rfl v3.heap.size 0 35 rfl 66 _ _ rfl HW.out.2.2.1 cells66 HW.out.2.2.2.1 HW.out.2.2.2.2.2 HW.out.2.2.2.2.1 ?_))
  have hsw : w.heap.size ≤ w1.heap.size := HL.out.2.2.2.2.1
  have hs1 : w1.heap.size ≤ w2.heap.size := HL.out.2.2.2.2.2.1
  have hs2 : w2.heap.size ≤ w3.heap.size := HL.out.2.2.2.2.2.2.1
  have hs3 : w3.heap.size ≤ w4.heap.size := HL.out.2.2.2.2.2.2.2.1
  have hs4 : w4.heap.size ≤ w6.heap.size := HL.out.2.2.2.2.2.2.2.2.1
  have hs5 : w6.heap.size ≤ v3.heap.size := q3.size
  have hbw6 : Below w.heap.size w w6 := HL.out.2.2.2.2.2.2.2.2.2
  have hbW : Below w6.heap.size w6 W0 := by
    rw [HW.out.2.1]
    exact Bk.below_setRow (q3.alloc hs5 _) hs5
  have hxW : W0.heap[v3.heap.size]? = some (.cells z 66 (0, 0)) := by
    rw [HW.out.2.1]
    exact (setRow_same HW.out.2.2.1).trans (congrArg (fun y => some (Obj.cells y 66 (0, 0))) (over_full rfl))
  have hnil : ∀ j, 1 ≤ j → j < 35 → j ≠ 2 ∨ True → z[j]? = some (.slice none 0 0) := fun j h1 h2 _ => by
    obtain ⟨k, rfl⟩ : ∃ k, j = k + 1 := ⟨j - 1, by omega⟩
    rw [HW.out.1]
    simp only [List.getElem?_toArray, List.getElem?_cons_succ]
    show (List.replicate 34 (Value.slice none 0 0))[k]? = _
    rw [List.getElem?_replicate, if_pos (by omega)]
  have hSt : St1 kdNumber 66 2 w W0 w.heap.size v3.heap.size 1000 0 0 (fun b => b < w.heap.size ∨ v3.heap.size ≤ b) :=
    ⟨⟨z, .slice none 0 0, [], fun _ => False, 0, hxW, hnil 2 (by decide) (by decide) (.inr trivial), fun j h1 h2 _ => hnil j h1 h2 (.inr trivial), by rw [HW.out.1]; rfl, by omega, Bk.HL.nil _ _ _ _ _ _, id, fun b h => h.elim, fun b h => h.elim, Nat.le_refl _⟩, by omega, Nat.le_refl _, hbw6.trans (hbW.mono hbw6.size)⟩
  have hov : ∀ {B : Nat} {u : Value} {l : List Int}, HeldI w6 B u l → l.length ≤ 1000 → ∀ m, OwnH kdNumber W0 B u m 1000 0 := fun hu hl m => ((hu.below hbW).2 m).mono hl (Nat.le_refl _)
  have od := hov HX.out.1 hD
  have oe := hov HX.out.2.1 hD
  have oc := hov HX.out.2.2.1 hC
  have of := hov HX.out.2.2.2.1 hC
  have ld := HL.out.1
  have le := HL.out.2.1
  have lc := HL.out.2.2.1
  have lf := HL.out.2.2.2.1
  have M := keepS hSt (by decide) (Nat.le_refl _) hsw (by omega) od (fun b hb => ld b hb)
  have HA := Lib.hid (And.intro od (And.intro oe (And.intro oc (And.intro of (And.intro ld (And.intro le (And.intro lc lf)))))))
  clear od oe oc of ld le lc lf hov hSt hnil hxW hbW hbw6 HX HL HBU q0 q1 q2 q3 HS
  rw [← HW.out.2.1]
  have HSZ := Lib.hid (And.intro hsw (And.intro hs1 (And.intro hs2 (And.intro hs3 (And.intro hs4 hs5)))))
  clear hsw hs1 hs2 hs3 hs4 hs5 HW
  refine M.mono ?_
  rintro e u1 ⟨rfl, hSt, hfr⟩
  obtain ⟨hsw, hs1, hs2, hs3, hs4, hs5⟩ := HSZ.out
  obtain ⟨od, oe, oc, of, ld, le, lc, lf⟩ := HA.out
  have oe1 := hfr (.slice Ae ne ce) (fun b hb => ⟨(le b hb).2, by have := (le b hb).1; omega⟩) oe
  have oc1 := hfr (.slice Ac nc cc) (fun b hb => ⟨by have := (lc b hb).2; omega, by have := (lc b hb).1; omega⟩) (fun m => ownH_lower (oc m) hs1)
  have of1 := hfr (.slice Af nf cf) (fun b hb => ⟨by have := (lf b hb).2; omega, by have := (lf b hb).1; omega⟩) (fun m => ownH_lower (of m) (by omega))
  have M := keepS hSt (by decide) hsw hs1 (by omega) oe1 (fun b hb => (le b hb).1)
  have HA1 := Lib.hid (And.intro oc1 of1)
  clear od oe oc of ld le lc lf oe1 oc1 of1 hSt hfr hsw hs1 hs2 hs3 hs4 hs5
  go_wp2_with fail
  refine M.mono ?_
  rintro e u2 ⟨rfl, hSt, hfr⟩
  obtain ⟨hsw, hs1, hs2, hs3, hs4, hs5⟩ := HSZ.out
  obtain ⟨od, oe, oc, of, ld, le, lc, lf⟩ := HA.out
  obtain ⟨oc1, of1⟩ := HA1.out
  have oc2 := hfr (.slice Ac nc cc) (fun b hb => ⟨(lc b hb).2, by have := (lc b hb).1; omega⟩) (fun m => by
    rcases oc1 m with h1 | ⟨g, o, n, cap, cur, e, h3, h4, h5⟩
    · exact .inl h1
    · exact .inr ⟨g, o, n, cap, cur, e, ⟨h3.blk, (lc g (by rw [e]; rfl)).2, h3.le, h3.mx, h3.fit, h3.kind⟩, h4, h5⟩)
  have of2 := hfr (.slice Af nf cf) (fun b hb => ⟨by have := (lf b hb).2; omega, by have := (lf b hb).1; omega⟩) (fun m => by
    rcases of1 m with h1 | ⟨g, o, n, cap, cur, e, h3, h4, h5⟩
    · exact .inl h1
    · exact .inr ⟨g, o, n, cap, cur, e, ⟨h3.blk, by have := (lf g (by rw [e]; rfl)).2; omega, h3.le, h3.mx, h3.fit, h3.kind⟩, h4, h5⟩)
  have M := keepS hSt (by decide) (Nat.le_trans hsw hs1) hs2 (by omega) oc2 (fun b hb => (lc b hb).1)
  have HA2 := Lib.hid of2
  clear od oe oc of ld le lc lf oc1 of1 oc2 of2 hSt hfr hsw hs1 hs2 hs3 hs4 hs5 HA1
  go_wp2_with fail
  refine M.mono ?_
  rintro e u3 ⟨rfl, hSt, hfr⟩
  obtain ⟨hsw, hs1, hs2, hs3, hs4, hs5⟩ := HSZ.out
  obtain ⟨od, oe, oc, of, ld, le, lc, lf⟩ := HA.out
  have of3 := hfr (.slice Af nf cf) (fun b hb => ⟨(lf b hb).2, by have := (lf b hb).1; omega⟩) (fun m => by
    rcases HA2.out m with h1 | ⟨g, o, n, cap, cur, e, h3, h4, h5⟩
    · exact .inl h1
    · exact .inr ⟨g, o, n, cap, cur, e, ⟨h3.blk, (lf g (by rw [e]; rfl)).2, h3.le, h3.mx, h3.fit, h3.kind⟩, h4, h5⟩)
  have M := keepS hSt (by decide) (Nat.le_trans hsw (Nat.le_trans hs1 hs2)) hs3 (by omega) of3 (fun b hb => (lf b hb).1)
  clear od oe oc of ld le lc lf of3 hSt hfr hsw hs1 hs2 hs3 hs4 hs5 HA2
  go_wp2_with fail
  refine M.mono ?_
  rintro e u4 ⟨rfl, hSt, hfr⟩
  have M := apartNumber hSt (by decide) (by decide)
  clear hSt hfr
  go_wp2_with fail
  refine M.mono ?_
  rintro e u5 ⟨rfl, hb5⟩
  have MA := alive u5 (hTb _ hb5)
  have HB5 := Lib.hid hb5
  clear M hb5
  go_wp2_with fail
  refine MA.mono ?_
  rintro e u6 ⟨rfl, hb6⟩
  have HB6 := Lib.hid (HB5.out.trans (hb6.mono HB5.out.size))
  clear MA hb6
  go_wp2_with fail
  go_ret
  exact ⟨rfl, HB6.out⟩
theorem direct_none (x l : Int) (L : List Int) (hL : L.length < 2) (w : World) (hu : Calls Tryz.prog 139 #[.int .i64 x, .int .i64 l] w fun e w' => ∃ v, e = .returned v ∧ OwnI w' w.heap.size v L ∧ Below w.heap.size w w') :
    Calls Tryz.prog 17 #[.int .i64 x, .int .i64 l] w fun e w' => ∃ v, e = .returned v ∧ HeldI w' w.heap.size v [] ∧ Below w.heap.size w w' := by
  go_enter Tryz.func17, Tryz.ntmps17
  go_wp2_with (go_at_call 139; refine hu.mono ?_)
  rintro e w1 ⟨v, rfl, ho, hb⟩
  obtain ⟨A, c, rfl, hc, hm, hr⟩ := ho.ints
  have q : decide ((L.length : Int) < 2) = true := decide_eq_true (by omega)
  go_wp2
  go_ret
  exact ⟨_, rfl, HeldI.nil _ _, hb⟩
/-- Whatever node, whatever tree. -/
theorem indexUp (x l : Int) (hx : x ≤ 9223372036854775807) (hl : l ≤ 9223372036854775807) (w : World) (hT : Tab w) :
    Calls Tryz.prog 4 #[.int .i64 x, .int .i64 l] w fun e w' => e = .returned (.bool true) ∧ Below w.heap.size w w' := by
  cases h : inT x l with
  | false =>
    have hp := fun w => parent_no x l w hl h
    have hr := fun w => rparent_no x l w h
    exact indexUp_walk x l 0 0 false false [] [] (by decide) (by decide) (fun w _ => hp w) (fun w _ => sibling_no x l w (hp w))
      (fun w _ => direct_none x l [] (by decide) w (up_no x l w hl h))
      (fun w _ => (copath_no x l w (up_no x l w hl h)).mono fun e w' ⟨v, e1, h1, h2⟩ => ⟨v, e1, OwnI.held h1, h2⟩)
      hr (fun w => rsibling_no x l w (hr w)) (fun w _ => rdirect_no x l w (hr w)) (fun w => rcopath_no x l w hr) w hT
  | true =>
    obtain ⟨n, d, hd, rfl, rfl, hn⟩ := inT_iff.1 h
    obtain ⟨c, j, hN⟩ := Nd.make n
    have hcd : c ≤ d := by have := hN.level_lt hn; omega
    have hpw := pow_le hd
    have hp0 := two_pos d
    by_cases hlt : c < d
    · exact indexUp_walk _ _ (anc n (c + 1) : Nat) (2 * (anc n (c + 1) : Nat) - n) true true (upL n (c + 1) (d - c)) (coL n c (d - c)) (by rw [upL_length]; omega) (by rw [coL_length]; omega)
        (fun w hT => parent_yes n c j d hd hN hn hlt w hT) (fun w hT => sibling_yes n c j d hd hN hn hlt w hT)
        (fun w hT => direct_held _ _ (n : Int) _ (by rw [upL_length]; omega) w (by rw [upL_cons n c j (d - c) hN]; exact up_yes n c j d hd hN hn w hT))
        (fun w hT => (copath_yes n c j d hd hN hn w hT).mono fun e w' ⟨v, e1, h1, h2⟩ => ⟨v, e1, OwnI.held h1, h2⟩)
        (fun w => rparent_yes n c j d hd hN hn hlt w) (fun w => rsibling_yes n c j d hd hN hn hlt w) (fun w hp => rdirect_yes n c j d hd hN hn w hp) (fun w => rcopath_yes n c j d hd hN hn w) w hT
    · obtain rfl : c = d := by omega
      have hroot : n = 2 ^ c - 1 := by
        have e := hN.anc_self
        rw [anc_root n c (by omega)] at e
        exact e.symm
      have e : ((n : Nat) : Int) = ((2 ^ c : Nat) : Int) - 1 := by omega
      have hp : ∀ w, Calls Tryz.prog 15 #[.int .i64 (n : Int), .int .i64 (2 ^ c : Nat)] w fun e w' => e = .returned (.tuple #[.int .i64 0, .bool false]) ∧ w = w' := fun w => by
        rw [e]
        refine parent_root _ w (by omega) (by omega) ?_
        rw [← e]; exact h
      have hr : ∀ w, Calls Tryz.prog 19 #[.int .i64 (n : Int), .int .i64 (2 ^ c : Nat)] w fun e w' => e = .returned (.tuple #[.int .i64 0, .bool false]) ∧ w = w' := fun w => by
        rw [e]
        refine rparent_root _ w (by omega) (by omega) ?_
        rw [← e]; exact h
      have u0 : upL n (c + 1) (c - c) = [] := by rw [Nat.sub_self]; rfl
      have c0 : coL n c (c - c) = [] := by rw [Nat.sub_self]; rfl
      exact indexUp_walk _ _ 0 0 false false [] [] (by decide) (by decide) (fun w _ => hp w) (fun w _ => sibling_no _ _ w (hp w))
        (fun w hT => direct_none _ _ (upL n c (c - c + 1)) (by rw [upL_length]; omega) w (up_yes n c j c hd hN hn w hT))
        (fun w hT => (copath_yes n c j c hd hN hn w hT).mono fun e w' ⟨v, e1, h1, h2⟩ => ⟨v, e1, by rw [c0] at h1; exact OwnI.held h1, h2⟩)
        hr (fun w => rsibling_no _ _ w (hr w))
        (fun w hp => (rdirect_yes n c j c hd hN hn w hp).mono fun e w' ⟨v, e1, h1, h2⟩ => ⟨v, e1, by rw [u0] at h1; exact h1, h2⟩)
        (fun w => (rcopath_yes n c j c hd hN hn w).mono fun e w' ⟨v, e1, h1, h2⟩ => ⟨v, e1, by rw [c0] at h1; exact h1, h2⟩) w hT
end Go.Proofs.YtenaljhkdnhgpaaGreatDoor
