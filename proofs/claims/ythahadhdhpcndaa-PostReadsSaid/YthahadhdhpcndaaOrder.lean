/- NetOrder. -/
import Derived.Test.YthahadhdhpcndaaFull
import Derived.Test.YthahadhdhpcndaaPhase
namespace Go.Proofs.Ythahadhdhpcndaa
open Go Go.RowKit
set_option linter.unusedVariables false
set_option linter.unusedSimpArgs false

theorem SendP.tookAll {B g : Nat} {v : Value} {cs : List (Array Value)} {L : List PackD} {d : PackD} {w w' : World} {e : Ending} (h : SendP B g v cs L d w e w') (h1 : d.Ok) (h2 : L.length ≠ 4096) :
    e = .returned (.int .i64 0) ∧ ∃ v' c', NetI w' B g v' (cs ++ [c']) (L ++ [d]) ∧ Fr B w w' g v v' ∧ RdP (fun b => w.heap.size ≤ b ∧ v'.ownBlock ≠ some b) w' c' d := by
  rcases h.out with h | h | h
  · exact absurd h1 h.1
  · exact absurd h.2.1 h2
  · exact h.2.2
set_option maxHeartbeats 8000000 in
set_option maxRecDepth 100000 in
theorem netOrder (v : Value) (L : List PackD) (back : Bool) (w : World) (h : elemP.RdL (fun _ => True) w v L) (hL : L.length ≤ 17592186044416) (hb : ∀ d ∈ L, BdF d.d) (hnum : ∀ d ∈ L, NumF d.d) :
    Calls Try.prog 4 #[v, .bool back] w fun e w' => e = .returned (.bool true) ∧ Below w.heap.size w w' := by
  have M1 := psize19 v L w h hL hb
  have hS := h.mono (ok' := fun b => b < w.heap.size) fun b hb _ => hb
  obtain ⟨A, n, c, rfl, rfl, g2, g3⟩ := hS
  obtain ⟨z44, hz44⟩ : ∃ z : Array Value, z = #[.int .i64 0, .int .i64 0, .bool false, .int .i64 0, .int .u8 0, .int .i64 0, .int .i64 0, .int .i64 0, .int .i64 0, .int .i64 0, .int .i64 0, .int .i64 0, .bool false, .slice none 0 0, .slice none 0 0, .slice none 0 0, .slice none 0 0, .int .i64 0, .int .i64 0, .slice none 0 0, .int .i64 0, .int .i64 0, .int .u8 0, .int .i64 0, .int .i64 0, .int .i64 0, .int .i64 0, .int .i64 0, .bool false, .slice none 0 0, .slice none 0 0, .slice none 0 0, .slice none 0 0, .int .i64 0, .int .i64 0, .slice none 0 0, .int .i64 0, .int .i64 0, .int .i64 0, .int .i64 0, .int .i64 0, .int .i64 0, .int .i64 0, .int .i64 0, .int .i64 0, .slice none 0 0, .int .i64 0, .int .i64 0, .int .i64 0, .int .i64 0, .int .i64 0, .int .i64 0, .int .i64 0, .int .i64 0, .int .i64 0, .int .i64 0, .int .i64 0] := ⟨_, rfl⟩
  have hzs : z44.size = 57 := by rw [hz44]; rfl
  have HZ := Lib.hid (And.intro hz44 hzs)
  have HL := Lib.hid (And.intro g3 hnum)
  clear hz44 hzs g2 g3 h hb hnum
  go_enter Try.func4, Try.ntmps4
  go_wp2_with fail
  refine M1.mono ?_
  rintro e w2 ⟨n, rfl, q1, q2, B1⟩
  have M2 := beyond9 (.slice (some ⟨w2.heap.size, 0, none⟩) 1 1) [n] (w2.alloc (.cells #[.int .i64 n] 3)) (one_int (fun _ => True) w2 n trivial) (by simp)
  have b3 : Below w.heap.size w (w2.alloc (.cells #[.int .i64 n] 3)) := B1.alloc B1.size _
  have HB3 := Lib.hid (And.intro b3 q2)
  clear M1 B1 b3 q2
  go_wp2_with fail
  refine M2.mono ?_
  rintro e w3 ⟨rfl, b, rfl, hbey⟩
  clear M2
  cases b with
  | true =>
    clear hbey
    go_wp2_with fail
    go_ret
    exact ⟨rfl, HB3.out.1⟩
  | false =>
    have hle := (hbey rfl n (by simp)).2
    have HSZ := Lib.hid (HB3.out.2 hle)
    clear hbey hle
    by_cases h500 : (L.length : Int) > 500
    · have t1 : decide ((L.length : Int) > 500) = true := decide_eq_true h500
      go_wp2_with fail
      go_ret
      exact ⟨rfl, HB3.out.1⟩
    have t1 : decide ((L.length : Int) > 500) = false := decide_eq_false h500
    have hlen : L.length ≤ 500 := by omega
    clear h500
    go_wp2_with fail
    generalize hwB : w2.alloc (.cells #[.int .i64 n] 3) = wB at *
    clear hwB
    refine (new13 wB).mono ?_
    rintro e w6 ⟨rfl, n6, b6⟩
    have H6 : Hid (∃ v cs scs, LoopS w.heap.size wB w6 v cs [] (.slice none 0 0) scs []) := Lib.hid ⟨_, [], [], ⟨n6, fun j c d hc => by simp at hc⟩, Sent.nil _ _ _, (fun k hk => by simp [Value.ownBlock] at hk), b6⟩
    clear n6 b6
    go_wp2_with fail
    go_loopg [6, 7] L.length (fun k v6 v7 wr => ∃ i : Nat, v7 = .int .i64 (i : Int) ∧ i + k = L.length ∧ Hid (∃ v cs scs T, LoopS w.heap.size wB wr v cs T v6 scs T ∧ T.length ≤ i ∧ ∀ d ∈ T, d ∈ L))
    case atStart => exact ⟨0, rfl, by simp, Lib.hid (by obtain ⟨v, cs, scs, h⟩ := H6.out; exact ⟨v, cs, scs, [], h, by simp, fun d hd => by cases hd⟩)⟩
    case round =>
      clear H6
      obtain ⟨i, rfl, hik, HE⟩ := hrel
      obtain ⟨v, cs, scs, T, hE, hTl, hTm⟩ := HE.out
      obtain ⟨A5, c5, rfl⟩ := hE.row.slice
      by_cases hi : i < L.length
      · obtain ⟨d, hd⟩ : ∃ d, L[i]? = some d := ⟨L[i], List.getElem?_eq_getElem hi⟩
        obtain ⟨b, o, cur, tt, fr, rfl, p1, p2, p3⟩ := HL.out.1 (by omega)
        obtain ⟨p4, p5⟩ := p3 i d hd
        change o + i * 57 + 57 ≤ cur.size at p4
        change RdP _ w (cur.extract (o + i * 57) (o + i * 57 + 57)) d at p5
        have hwr : ∀ w', Below wB.heap.size wB w' → w'.heap[b]? = some (.cells cur tt fr) ∧ RdP (· < w.heap.size) w' (cur.extract (o + i * 57) (o + i * 57 + 57)) d := fun w' hw => by
          have hb := HB3.out.1.trans (hw.mono HB3.out.1.size)
          exact ⟨(hb.block b p1).trans p2, p5.keep (Kn.of_below hb)⟩
        have hex : cur.extract (o + i * 57) (o + i * 57 + 57) = cur.extract (o + i * 57) (o + i * 57 + 57) := rfl
        generalize hx : cur.extract (o + i * 57) (o + i * 57 + 57) = c0 at hwr hex
        have HW := Lib.hid (And.intro hwr (And.intro p4 hx))
        have HM := Lib.hid (List.mem_of_getElem? hd)
        have HI := Lib.hid hi
        have i1 : (0 : Int) ≤ (i : Int) := by omega
        have i2 : (i : Int) < (L.length : Int) := by omega
        have t2 : decide ((i : Int) < (L.length : Int)) = true := decide_eq_true i2
        clear hd p1 p2 p3 p4 p5 hwr hx hex hi
        have HV := Lib.hid (And.intro hE (And.intro hTl hTm))
        have M3 := may11 c0 d wr (HW.out.1 wr hE.below).2
        have hbk := (HW.out.1 wr hE.below).1
        have HBK := Lib.hid hbk
        clear hE hTl hTm HE hbk
        go_wp2_with (with_reducible refine wpList_load_part' rfl 44 _ rfl b (o + i * 57) 57 rfl _ cur _ _ HBK.out Try.underlying44 rfl cells44 HW.out.2.1 c0 HW.out.2.2 ?_)
        refine M3.mono ?_
        rintro e w7 ⟨⟨bb, rfl, hmay⟩, B7⟩
        clear M3
        have h7 := HV.out.1.stay B7
        cases bb with
        | false =>
          have H7 := Lib.hid h7
          clear h7 hmay B7
          go_wp2_with fail
          go_roundg (L.length - (i + 1))
          case measure => have := HI.out; omega
          case rel => exact ⟨i + 1, by simp, by have := HI.out; omega, Lib.hid ⟨v, cs, scs, T, H7.out, by have := HV.out.2.1; omega, HV.out.2.2⟩⟩
        | true =>
          have HOK := Lib.hid (hmay.1 rfl)
          have H7 := Lib.hid (And.intro h7 (HW.out.1 w7 h7.below))
          have hO := h7.row.row.alloc (.cells c0 44)
          have HO := Lib.hid (And.intro hO (And.intro h7.below.size (And.intro (H7.out.2.2.size) (And.intro H7.out.2.2.one HV.out.2.1))))
          obtain ⟨i0, hinf, hz0, hz1, hz2⟩ := info_parts info44
          clear h7 hmay B7 hO
          go_wp2_with (first | (with_reducible refine wpList_load_part' rfl 44 _ rfl b (o + i * 57) 57 rfl _ cur _ _ H7.out.2.1 Try.underlying44 rfl cells44 HW.out.2.1 c0 HW.out.2.2 ?_) | (with_reducible refine wpList_buildSlice_one rfl 59 44 _ rfl 57 _ i0 Try.underlying59 hinf hz0 hz1 rfl c0 rfl HO.out.2.2.1 (by decide) (by decide) ?_) | (at_builtin; refine wpList_append_lies _ rfl _ _ 59 rfl wB.heap.size 44 i0 _ 57 632 Try.underlying59 hinf hz0 hz1 hz2 rfl (by decide) (.slice A5 T.length c5) T.length (prow scs) rfl HO.out.1 ⟨w7.heap.size, 0, none⟩ 1 1 c0.toList rfl (by rw [Array.length_toList]; exact HO.out.2.2.1) (World.news_of_block (heap_alloc_new _ _)) HO.out.2.2.2.1 (by decide) (by have := HO.out.2.2.2.2; unfold maxLen; omega) (by have := HO.out.2.2.2.2; omega) (by have := HO.out.2.1; simp; omega) (w7.heap.size + 1) (by simp) ?_))
          intro g cap w8 o1 o2 o3 _
          have h8 := H7.out.1.append (d := d) (by have := HB3.out.1.size; omega) H7.out.2.2 o1 o2 o3
          have M4 := send14 h8.net.1 (by have := HV.out.2.1; omega) (HW.out.1 w8 h8.below).2 (fun _ => HSZ.out d HM.out)
          have H8 := Lib.hid (And.intro h8 (HW.out.1 w8 h8.below).1)
          clear o1 o2 o3 hinf hz0 hz1 hz2 h8
          go_wp2_with (with_reducible refine wpList_load_part' rfl 44 _ rfl b (o + i * 57) 57 rfl _ cur _ _ H8.out.2 Try.underlying44 rfl cells44 HW.out.2.1 c0 HW.out.2.2 ?_)
          refine M4.mono ?_
          intro e w9 hS
          obtain ⟨rfl, v9, c9, n9, f9, r9⟩ := hS.tookAll HOK.out (by have := HV.out.2.1; omega)
          have H9 := Lib.hid (H8.out.1.sent (by have := HB3.out.1.size; omega) n9 f9 r9)
          clear M4 hS n9 f9 r9
          go_wp2_with fail
          go_roundg (L.length - (i + 1))
          case measure => have := HI.out; omega
          case rel => exact ⟨i + 1, by simp, by have := HI.out; omega, Lib.hid ⟨v9, _, _, _, H9.out, by have := HV.out.2.1; simp; omega, fun x hx => by
            rcases List.mem_append.1 hx with hx | hx
            · exact HV.out.2.2 x hx
            · obtain rfl : x = d := by simpa using hx
              exact HM.out⟩⟩
      · obtain rfl : i = L.length := by omega
        have HV := Lib.hid (And.intro hE (And.intro hTl hTm))
        clear hE hTl hTm HE hi
        have hT5 : T.length ≤ 500 := by have := HV.out.2.1; omega
        go_wp2_with fail
        go_loopw [8] (fun v8 wq => ∃ k : Nat, k ≤ T.length ∧ v8 = .int .i64 k ∧ Hid (∃ v cs, LoopD w.heap.size wB wq v cs (if back = true then T.take (T.length - k) else T.drop k) (.slice A5 T.length c5) scs T)) (fun v8 _ => T.length - (intOf v8).toNat)
        case atStart => exact ⟨0, by omega, rfl, Lib.hid ⟨v, cs, by cases back <;> simpa using HV.out.1.toD⟩⟩
        case round =>
          obtain ⟨k, hk, rfl, HE⟩ := hrel
          obtain ⟨v, cs, hD⟩ := HE.out
          have k0 : (0 : Int) ≤ (k : Int) := by omega
          by_cases hlt : k < T.length
          · have t3 : decide ((k : Int) < (T.length : Int)) = true := decide_eq_true (by omega)
            have k1 : (k : Int) < (T.length : Int) := by omega
            obtain ⟨b, cap, cur, c0, d0, hsl, hb, hd0, hf0, hx0, hr0⟩ := hD.row.at hlt
            injection hsl with hA5 _ hc5
            subst hA5 hc5
            have hkeep : ∀ w', Below wr.heap.size wr w' → (loadVar 44 ⟨b, k * 57, none⟩).run Try.prog w' = .ok (.agg c0) w' ∧ Below wr.heap.size wr w' := fun w' hw => by
              have := run_loadVar_part (P := Try.prog) w' b (k * 57) 57 44 44 cur (0, 0) _ ((hw.block b (lt_of_some hb)).trans hb) Try.underlying44 rfl cells44 hf0
              rw [hx0] at this
              exact ⟨this, hw⟩
            obtain ⟨l1, _⟩ := hkeep _ (Below.refl _ _)
            have HKP := Lib.hid hkeep
            have HD := Lib.hid (And.intro hD (And.intro hr0 hd0))
            have HLT := Lib.hid hlt
            have x0 : (wr.drew.alloc (.cells z44 44)).heap[wr.heap.size]? = some (.cells z44 44 (0, 0)) := heap_alloc_new wr.drew _
            have HX0 := Lib.hid (And.intro x0 (And.intro hr0.size hr0.one))
            clear x0
            clear hD HE hkeep hb hd0 hf0 hx0 hr0 hlt
            go_wp2_with fail
            refine Go.Proofs.Phase.wp_region_ph (S := (fun w' => (loadVar 44 ⟨b, k * 57, none⟩).run Try.prog w' = .ok (.agg c0) w' ∧ Below wr.heap.size wr w')) 6 (by kernel_rfl) ?_ (fun hHeld => ?_)
            · ((try dsimp only) <;> (first | exact HKP.out _ (by assumption) | exact HKP.out _ (Below.refl _ _).drew | exact HKP.out _ ((Below.refl _ _).drew.alloc (Nat.le_refl _) _) | exact HKP.out _ (below_drewN (Below.refl _ _) _)))
            refine Go.Proofs.Phase.wpPh_take' (i := 0) (by simp only [List.getElem?_toArray, List.getElem?_cons_succ, List.getElem?_cons_zero]; rfl) ?_
            refine ⟨?_, ⟨by kernel_rfl, by kernel_rfl, by kernel_rfl, by kernel_rfl⟩, fun _ _ _ h => h, Or.inl ⟨by rfl, ?_⟩, by assumption, ?_⟩
            rotate_left
            · (intro w hSw; (try dsimp only at hSw); go_simp; with_reducible rfl)
            try simp only [Act.put, List.setIfInBounds_toArray, List.set_cons_zero, List.set_cons_succ]
            refine Go.Proofs.Phase.wpPh_take' (i := 1) (by simp only [List.getElem?_toArray, List.getElem?_cons_succ, List.getElem?_cons_zero]; rfl) ?_
            refine ⟨?_, ⟨by kernel_rfl, by kernel_rfl, by kernel_rfl, by kernel_rfl⟩, fun _ _ _ h => h, Or.inl ⟨by rfl, ?_⟩, by assumption, ?_⟩
            rotate_left
            · (intro w hSw; (try dsimp only at hSw); go_simp; with_reducible rfl)
            try simp only [Act.put, List.setIfInBounds_toArray, List.set_cons_zero, List.set_cons_succ]
            refine Go.Proofs.Phase.wpPh_take' (i := 2) (by simp only [List.getElem?_toArray, List.getElem?_cons_succ, List.getElem?_cons_zero]; rfl) ?_
            refine ⟨?_, ⟨by kernel_rfl, by kernel_rfl, by kernel_rfl, by kernel_rfl⟩, fun _ _ _ h => h, Or.inl ⟨by rfl, ?_⟩, by assumption, ?_⟩
            rotate_left
            · (intro w hSw; (try dsimp only at hSw); go_simp; with_reducible rfl)
            try simp only [Act.put, List.setIfInBounds_toArray, List.set_cons_zero, List.set_cons_succ]
            refine Go.Proofs.Phase.wpPh_take' (i := 3) (by simp only [List.getElem?_toArray, List.getElem?_cons_succ, List.getElem?_cons_zero]; rfl) ?_
            refine ⟨?_, ⟨by kernel_rfl, by kernel_rfl, by kernel_rfl, by kernel_rfl⟩, fun _ _ _ h => h, Or.inl ⟨by rfl, ?_⟩, by assumption, ?_⟩
            rotate_left
            · (intro w hSw; (try dsimp only at hSw); first | (refine (Go.Proofs.Phase.exec_load _ _ rfl _ rfl _ hSw.1).trans ?_; with_reducible rfl) | (refine (Go.Proofs.Phase.exec_load _ _ rfl _ rfl _ hSw.2.1).trans ?_; with_reducible rfl) | (refine (Go.Proofs.Phase.exec_load _ _ rfl _ rfl _ hSw.2.2.1).trans ?_; with_reducible rfl))
            try simp only [Act.put, List.setIfInBounds_toArray, List.set_cons_zero, List.set_cons_succ]
            refine Go.Proofs.Phase.wpPh_before (i := 4) (by kernel_rfl) (by simp only [List.getElem?_toArray, List.getElem?_cons_succ, List.getElem?_cons_zero]; rfl) (fun K hK => ?_)
            go_simp
            refine hK.out _ _ ?_ (fun hHeldN => ?_)
            · ((try dsimp only) <;> (first | exact HKP.out _ (by assumption) | exact HKP.out _ (Below.refl _ _).drew | exact HKP.out _ ((Below.refl _ _).drew.alloc (Nat.le_refl _) _) | exact HKP.out _ (below_drewN (Below.refl _ _) _)))
            clear hHeld
            have hHeld := hHeldN
            clear hHeldN
            clear hK K
            try simp only [Act.put, List.setIfInBounds_toArray, List.set_cons_zero, List.set_cons_succ]
            refine Go.Proofs.Phase.wpPh_take' (i := 5) (by simp only [List.getElem?_toArray, List.getElem?_cons_succ, List.getElem?_cons_zero]; rfl) ?_
            refine ⟨?_, ⟨by kernel_rfl, by kernel_rfl, by kernel_rfl, by kernel_rfl⟩, fun _ _ _ h => h, Or.inl ⟨by rfl, ?_⟩, by assumption, ?_⟩
            rotate_left
            · (intro w hSw; (try dsimp only at hSw); go_simp; with_reducible rfl)
            try simp only [Act.put, List.setIfInBounds_toArray, List.set_cons_zero, List.set_cons_succ]
            refine Go.Proofs.Phase.wpPh_behind (i := 6) (by kernel_rfl) (by simp only [List.getElem?_toArray, List.getElem?_cons_succ, List.getElem?_cons_zero]; rfl) (by kernel_rfl) (fun K hK => ?_)
            ((rw [← HZ.out.1]; with_reducible refine step_store_part rfl 44 _ _ rfl rfl _ 0 57 rfl 44 _ _ rfl HX0.out.1 cells44 HX0.out.2.1 (by rw [HZ.out.2]; decide) HX0.out.2.2 ?_))
            refine hK.out _ _ ?_
            clear hK K
            try simp only [Act.put, List.setIfInBounds_toArray, List.set_cons_zero, List.set_cons_succ]
            refine Go.Proofs.Phase.wpPh_done (by kernel_rfl) ?_ _
            have hW0 : ∃ W1, W1 = (wr.alloc (.cells z44 44)).drew.setRow wr.heap.size (over z44 0 c0) := ⟨_, rfl⟩
            obtain ⟨W1, hW1⟩ := hW0
            have b1 : Below wr.heap.size wr W1 := by rw [hW1]; exact below_setRow ((Below.refl _ _).alloc (Nat.le_refl _) _).drew (Nat.le_refl _)
            have y1 : W1.heap[wr.heap.size]? = some (.cells c0 44 (0, 0)) := by
              rw [hW1]
              have x1 : (wr.alloc (.cells z44 44)).drew.heap[wr.heap.size]? = some (.cells z44 44 (0, 0)) := heap_alloc_new wr _
              exact (setRow_same x1).trans (congrArg (fun z => some (Obj.cells z 44 (0, 0))) (over_full (by rw [HZ.out.2, HX0.out.2.1])))
            have hl1 := HLT.out
            have hvb : v.ownBlock ≠ some wr.heap.size := fun e => Nat.lt_irrefl _ (HD.out.1.net.vb _ e).2
            have hlg := lt_of_some HD.out.1.net.blk
            have hmem : d0 ∈ L := HV.out.2.2 d0 (List.mem_of_getElem? HD.out.2.2)
            cases back with
            | false =>
              obtain ⟨cw, hcw⟩ : ∃ cw, cw = c0 := ⟨_, rfl⟩
              obtain ⟨dw, hdw⟩ : ∃ dw, dw = d0 := ⟨_, rfl⟩
              have hd1 := HD.out.1.stay b1
              simp only [Bool.false_eq_true, if_false] at hd1
              have HT := Lib.hid (And.intro hd1 (And.intro y1 (And.intro (HD.out.2.1.keep (Kn.of_below b1)) (And.intro hmem (And.intro (show (T.drop k).length ≤ 500 by rw [List.length_drop]; omega) (And.intro (show 0 < (T.drop k).length by rw [List.length_drop]; omega) (And.intro (show (T.drop k)[0]? = some d0 by rw [List.getElem?_drop]; exact HD.out.2.2) (And.intro (show wr.heap.size < W1.heap.size ∧ wr.heap.size ≠ wB.heap.size ∧ v.ownBlock ≠ some wr.heap.size from ⟨lt_of_some y1, by omega, hvb⟩) trivial))))))))
              rw [← hcw, ← hdw] at HT
              clear hd1 y1 b1 hmem hcw hdw hvb hlg
              have HW1 := Lib.hid hW1
              clear hW1
              go_wp2_with fail
              rw [← HW1.out]
              refine (deliver17 HT.out.1.net (by have := HT.out.2.2.2.2.1; omega) (i := 0) HT.out.2.2.2.2.2.1).mono ?_
              intro e w10 hDl
              obtain ⟨c1, d1, v10, hc, hd, rfl, n10, r10, f10⟩ := hDl.out
              obtain rfl : dw = d1 := by
                have := HT.out.2.2.2.2.2.2.1.symm.trans hd
                injection this
              have X10 : (w10.alloc (.cells z44 44)).heap[w10.heap.size]? = some (.cells z44 44 (0, 0)) := heap_alloc_new w10 _
              obtain ⟨W11, hW11⟩ : ∃ W, W = (w10.alloc (.cells z44 44)).setRow w10.heap.size (over z44 0 c1) := ⟨_, rfl⟩
              have b11 : Below w10.heap.size w10 W11 := by rw [hW11]; exact below_setRow ((Below.refl _ _).alloc (Nat.le_refl _) _) (Nat.le_refl _)
              have y11 : W11.heap[w10.heap.size]? = some (.cells c1 44 (0, 0)) := by
                rw [hW11]; exact (setRow_same X10).trans (congrArg (fun z => some (Obj.cells z 44 (0, 0))) (over_full (by rw [HZ.out.2, r10.size])))
              obtain ⟨a1, _, a3⟩ := f10.at HT.out.2.2.2.2.2.2.2.1.1 HT.out.2.2.2.2.2.2.2.1.2.1 HT.out.2.2.2.2.2.2.2.1.2.2
              have y12 : W11.heap[wr.heap.size]? = some (.cells cw 44 (0, 0)) := (b11.block _ a3).trans (a1.trans HT.out.2.1)
              have h10 := (HT.out.1.deliver (by have := HB3.out.1.size; omega) n10 f10).stay b11
              have rw11 : RdP (· < w.heap.size) W11 cw dw := HT.out.2.2.1.keep ⟨Nat.le_trans f10.size b11.size, fun b hb hp => by
                have hN : w.heap.size ≤ wB.heap.size := HB3.out.1.size
                exact (b11.block b (Nat.lt_of_lt_of_le hb f10.size)).trans (f10.below.block b (by omega))⟩
              have all1 : c1.extract 0 (0 + 57) = c1 := by rw [show 0 + 57 = c1.size by rw [r10.size]]; exact Array.extract_size
              have all2 : cw.extract 0 (0 + 57) = cw := by rw [show 0 + 57 = cw.size by rw [rw11.size]]; exact Array.extract_size
              have M5 := same18 c1 cw dw W11 (r10.keep (Kn.of_below b11)) rw11 (HL.out.2 dw HT.out.2.2.2.1) (HSZ.out dw HT.out.2.2.2.1)
              have H10 := Lib.hid (And.intro X10 (And.intro r10.size (And.intro r10.one (And.intro y11 (And.intro y12 (And.intro all1 (And.intro all2 (And.intro rw11.size h10))))))))
              have HW11 := Lib.hid hW11
              clear hDl hc hd n10 r10 f10 X10 hW11 b11 y11 y12 a1 a3 h10 rw11 all1 all2
              go_wp2_with (first | (rw [← HZ.out.1]; with_reducible refine wpList_store_part rfl 44 _ _ rfl rfl _ 0 57 rfl 44 _ _ rfl H10.out.1 cells44 H10.out.2.1 (by rw [HZ.out.2]; decide) H10.out.2.2.1 ?_; rw [← HW11.out]) | (with_reducible refine wpList_load_partg (by simp [Region.wanted, yielded, Act.put]) 44 _ rfl w10.heap.size 0 57 rfl 44 c1 (0, 0) _ H10.out.2.2.2.1 Try.underlying44 rfl cells44 (by rw [H10.out.2.1]; decide) c1 H10.out.2.2.2.2.2.1 ?_) | (with_reducible refine wpList_load_partg (by simp [Region.wanted, yielded, Act.put]) 44 _ rfl wr.heap.size 0 57 rfl 44 cw (0, 0) _ H10.out.2.2.2.2.1 Try.underlying44 rfl cells44 (by rw [H10.out.2.2.2.2.2.2.2.1]; decide) cw H10.out.2.2.2.2.2.2.1 ?_))
              refine M5.mono ?_
              rintro e w12 ⟨rfl, b12⟩
              have H12 := Lib.hid (H10.out.2.2.2.2.2.2.2.2.stay b12)
              clear M5 b12
              go_wp2_with fail
              go_roundw
              case rel => exact ⟨k + 1, by have := HLT.out; omega, by simp, Lib.hid ⟨v10, _, by have h9 := H12.out; have e0 : (T.drop k).eraseIdx 0 = T.drop (k + 1) := (by rw [List.eraseIdx_zero, List.tail_drop]); rw [e0] at h9; simpa only [Bool.false_eq_true, if_false] using h9⟩⟩
              case measure => have := HLT.out; simp [intOf]; omega
            | true =>
              obtain ⟨m1, hm1⟩ : ∃ m1, m1 = T.length - k := ⟨_, rfl⟩
              obtain ⟨n1, hn1⟩ : ∃ n1, n1 = T.length - 1 := ⟨_, rfl⟩
              obtain ⟨j2, hj2⟩ : ∃ j2, j2 = T.length - 1 - k := ⟨_, rfl⟩
              have hd1 := HD.out.1.stay b1
              simp only [if_true] at hd1
              rw [← hm1] at hd1
              have hlm : (T.take m1).length = m1 := by rw [List.length_take]; omega
              have ML := len16 (hd1.net.below (Below.refl W1.heap.size W1).drew)
              rw [hlm] at ML
              obtain ⟨b', cap', cur', c2, d2, hsl, hb, hd2, hf2, hx2, hr2⟩ := hd1.row.at (i := j2) (by omega)
              injection hsl with hA5 _ hc5
              injection hA5 with hA5
              injection hA5 with hA5
              subst hA5 hc5
              have hkeep : ∀ w', Below W1.heap.size W1 w' → (loadVar 44 ⟨b, j2 * 57, none⟩).run Try.prog w' = .ok (.agg c2) w' ∧ Below W1.heap.size W1 w' := fun w' hw => by
                have := run_loadVar_part (P := Try.prog) w' b (j2 * 57) 57 44 44 cur' (0, 0) _ ((hw.block b (lt_of_some hb)).trans hb) Try.underlying44 rfl cells44 hf2
                rw [hx2] at this
                exact ⟨this, hw⟩
              obtain ⟨l2, _⟩ := hkeep _ (Below.refl _ _)
              have HKP2 := Lib.hid hkeep
              have hmem2 : d2 ∈ L := HV.out.2.2 d2 (List.mem_of_getElem? hd2)
              have f1 : (m1 : Int) - 1 = (j2 : Int) := by omega
              have f2 : (T.length : Int) - 1 = (n1 : Int) := by omega
              have f3 : (n1 : Int) - (k : Int) = (j2 : Int) := by omega
              have f4 : (j2 : Int) < (T.length : Int) := by omega
              have f5 : (0 : Int) ≤ (j2 : Int) := by omega
              have f6 : IntKind.i64.wrap (n1 : Int) = (n1 : Int) := wrapi _ (by omega)
              have f7 : IntKind.i64.wrap (j2 : Int) = (j2 : Int) := wrapi _ (by omega)
              have HT0 := Lib.hid (And.intro hd1 (And.intro y1 (And.intro hr2 (And.intro hmem2 (And.intro hlm (And.intro hd2 (And.intro hvb (And.intro hm1 hj2))))))))
              clear hd1 y1 hr2 hmem2 hlm hd2 hvb hm1 hn1 hj2 hb hf2 hx2 hkeep l1
              have HW1 := Lib.hid hW1
              clear hW1 hmem
              go_wp2_with fail
              rw [← HW1.out]
              refine Go.Proofs.Phase.wp_region_ph (S := (fun w' => (loadVar 44 ⟨b, j2 * 57, none⟩).run Try.prog w' = .ok (.agg c2) w' ∧ Below W1.heap.size W1 w')) 12 (by kernel_rfl) ?_ (fun hHeld => ?_)
              · ((try dsimp only) <;> (first | exact HKP2.out _ (by assumption) | exact HKP2.out _ (Below.refl _ _).drew | exact HKP2.out _ (below_drewN (Below.refl _ _) _)))
              refine Go.Proofs.Phase.wpPh_take' (i := 0) (by simp only [List.getElem?_toArray, List.getElem?_cons_succ, List.getElem?_cons_zero]; rfl) ?_
              refine ⟨?_, ⟨by kernel_rfl, by kernel_rfl, by kernel_rfl, by kernel_rfl⟩, fun _ _ _ h => h, Or.inl ⟨by rfl, ?_⟩, by assumption, ?_⟩
              rotate_left
              · (intro w hSw; (try dsimp only at hSw); go_simp; with_reducible rfl)
              try simp only [Act.put, List.setIfInBounds_toArray, List.set_cons_zero, List.set_cons_succ]
              refine Go.Proofs.Phase.wpPh_take' (i := 3) (by simp only [List.getElem?_toArray, List.getElem?_cons_succ, List.getElem?_cons_zero]; rfl) ?_
              refine ⟨?_, ⟨by kernel_rfl, by kernel_rfl, by kernel_rfl, by kernel_rfl⟩, fun _ _ _ h => h, Or.inl ⟨by rfl, ?_⟩, by assumption, ?_⟩
              rotate_left
              · (intro w hSw; (try dsimp only at hSw); go_simp; with_reducible rfl)
              try simp only [Act.put, List.setIfInBounds_toArray, List.set_cons_zero, List.set_cons_succ]
              refine Go.Proofs.Phase.wpPh_take' (i := 4) (by simp only [List.getElem?_toArray, List.getElem?_cons_succ, List.getElem?_cons_zero]; rfl) ?_
              refine ⟨?_, ⟨by kernel_rfl, by kernel_rfl, by kernel_rfl, by kernel_rfl⟩, fun _ _ _ h => h, Or.inl ⟨by rfl, ?_⟩, by assumption, ?_⟩
              rotate_left
              · (intro w hSw; (try dsimp only at hSw); go_simp; with_reducible rfl)
              try simp only [Act.put, List.setIfInBounds_toArray, List.set_cons_zero, List.set_cons_succ]
              refine Go.Proofs.Phase.wpPh_take' (i := 5) (by simp only [List.getElem?_toArray, List.getElem?_cons_succ, List.getElem?_cons_zero]; rfl) ?_
              refine ⟨?_, ⟨by kernel_rfl, by kernel_rfl, by kernel_rfl, by kernel_rfl⟩, fun _ _ _ h => h, Or.inl ⟨by rfl, ?_⟩, by assumption, ?_⟩
              rotate_left
              · (intro w hSw; (try dsimp only at hSw); go_simp; with_reducible rfl)
              try simp only [Act.put, List.setIfInBounds_toArray, List.set_cons_zero, List.set_cons_succ]
              refine Go.Proofs.Phase.wpPh_take' (i := 6) (by simp only [List.getElem?_toArray, List.getElem?_cons_succ, List.getElem?_cons_zero]; rfl) ?_
              refine ⟨?_, ⟨by kernel_rfl, by kernel_rfl, by kernel_rfl, by kernel_rfl⟩, fun _ _ _ h => h, Or.inl ⟨by rfl, ?_⟩, by assumption, ?_⟩
              rotate_left
              · (intro w hSw; (try dsimp only at hSw); go_simp; with_reducible rfl)
              try simp only [Act.put, List.setIfInBounds_toArray, List.set_cons_zero, List.set_cons_succ]
              refine Go.Proofs.Phase.wpPh_take' (i := 7) (by simp only [List.getElem?_toArray, List.getElem?_cons_succ, List.getElem?_cons_zero]; rfl) ?_
              refine ⟨?_, ⟨by kernel_rfl, by kernel_rfl, by kernel_rfl, by kernel_rfl⟩, fun _ _ _ h => h, Or.inl ⟨by rfl, ?_⟩, by assumption, ?_⟩
              rotate_left
              · (intro w hSw; (try dsimp only at hSw); go_simp; with_reducible rfl)
              try simp only [Act.put, List.setIfInBounds_toArray, List.set_cons_zero, List.set_cons_succ]
              refine Go.Proofs.Phase.wpPh_take' (i := 8) (by simp only [List.getElem?_toArray, List.getElem?_cons_succ, List.getElem?_cons_zero]; rfl) ?_
              refine ⟨?_, ⟨by kernel_rfl, by kernel_rfl, by kernel_rfl, by kernel_rfl⟩, fun _ _ _ h => h, Or.inl ⟨by rfl, ?_⟩, by assumption, ?_⟩
              rotate_left
              · (intro w hSw; (try dsimp only at hSw); go_simp; with_reducible rfl)
              try simp only [Act.put, List.setIfInBounds_toArray, List.set_cons_zero, List.set_cons_succ]
              refine Go.Proofs.Phase.wpPh_take' (i := 9) (by simp only [List.getElem?_toArray, List.getElem?_cons_succ, List.getElem?_cons_zero]; rfl) ?_
              refine ⟨?_, ⟨by kernel_rfl, by kernel_rfl, by kernel_rfl, by kernel_rfl⟩, fun _ _ _ h => h, Or.inl ⟨by rfl, ?_⟩, by assumption, ?_⟩
              rotate_left
              · (intro w hSw; (try dsimp only at hSw); go_simp; with_reducible rfl)
              try simp only [Act.put, List.setIfInBounds_toArray, List.set_cons_zero, List.set_cons_succ]
              refine Go.Proofs.Phase.wpPh_take' (i := 10) (by simp only [List.getElem?_toArray, List.getElem?_cons_succ, List.getElem?_cons_zero]; rfl) ?_
              refine ⟨?_, ⟨by kernel_rfl, by kernel_rfl, by kernel_rfl, by kernel_rfl⟩, fun _ _ _ h => h, Or.inl ⟨by rfl, ?_⟩, by assumption, ?_⟩
              rotate_left
              · (intro w hSw; (try dsimp only at hSw); first | (refine (Go.Proofs.Phase.exec_load _ _ rfl _ rfl _ hSw.1).trans ?_; with_reducible rfl) | (refine (Go.Proofs.Phase.exec_load _ _ rfl _ rfl _ hSw.2.1).trans ?_; with_reducible rfl) | (refine (Go.Proofs.Phase.exec_load _ _ rfl _ rfl _ hSw.2.2.1).trans ?_; with_reducible rfl))
              try simp only [Act.put, List.setIfInBounds_toArray, List.set_cons_zero, List.set_cons_succ]
              refine Go.Proofs.Phase.wpPh_before (i := 1) (by kernel_rfl) (by simp only [List.getElem?_toArray, List.getElem?_cons_succ, List.getElem?_cons_zero]; rfl) (fun K hK => ?_)
              go_simp
              ((first | (with_reducible refine step_store_part rfl 44 _ _ rfl rfl _ 0 57 rfl 44 _ _ rfl HT0.out.2.1 cells44 HT0.out.2.2.1.size (by rw [HX0.out.2.1]; decide) HT0.out.2.2.1.one ?_) | (go_at_call 16; with_reducible refine ML.mono ?_; rintro e w' ⟨rfl, rfl⟩)))
              go_wp2_with fail
              refine hK.out _ _ ?_ (fun hHeldN => ?_)
              · ((try dsimp only) <;> (first | exact HKP2.out _ (by assumption) | exact HKP2.out _ (Below.refl _ _).drew | exact HKP2.out _ (below_drewN (Below.refl _ _) _)))
              clear hHeld
              have hHeld := hHeldN
              clear hHeldN
              clear hK K
              try simp only [Act.put, List.setIfInBounds_toArray, List.set_cons_zero, List.set_cons_succ]
              refine Go.Proofs.Phase.wpPh_take' (i := 2) (by simp only [List.getElem?_toArray, List.getElem?_cons_succ, List.getElem?_cons_zero]; rfl) ?_
              refine ⟨?_, ⟨by kernel_rfl, by kernel_rfl, by kernel_rfl, by kernel_rfl⟩, fun _ _ _ h => h, Or.inl ⟨by rfl, ?_⟩, by assumption, ?_⟩
              rotate_left
              · (intro w hSw; (try dsimp only at hSw); go_simp; with_reducible rfl)
              try simp only [Act.put, List.setIfInBounds_toArray, List.set_cons_zero, List.set_cons_succ]
              refine Go.Proofs.Phase.wpPh_take' (i := 11) (by simp only [List.getElem?_toArray, List.getElem?_cons_succ, List.getElem?_cons_zero]; rfl) ?_
              refine ⟨?_, ⟨by kernel_rfl, by kernel_rfl, by kernel_rfl, by kernel_rfl⟩, fun _ _ _ h => h, Or.inl ⟨by rfl, ?_⟩, by assumption, ?_⟩
              rotate_left
              · (intro w hSw; (try dsimp only at hSw); go_simp; with_reducible rfl)
              try simp only [Act.put, List.setIfInBounds_toArray, List.set_cons_zero, List.set_cons_succ]
              refine Go.Proofs.Phase.wpPh_behind (i := 12) (by kernel_rfl) (by simp only [List.getElem?_toArray, List.getElem?_cons_succ, List.getElem?_cons_zero]; rfl) (by kernel_rfl) (fun K hK => ?_)
              ((first | (with_reducible refine step_store_part rfl 44 _ _ rfl rfl _ 0 57 rfl 44 _ _ rfl HT0.out.2.1 cells44 HT0.out.2.2.1.size (by rw [HX0.out.2.1]; decide) HT0.out.2.2.1.one ?_) | (go_at_call 16; with_reducible refine ML.mono ?_; rintro e w' ⟨rfl, rfl⟩)))
              refine hK.out _ _ ?_
              clear hK K
              try simp only [Act.put, List.setIfInBounds_toArray, List.set_cons_zero, List.set_cons_succ]
              refine Go.Proofs.Phase.wpPh_done (by kernel_rfl) ?_ _
              obtain ⟨W2, hW2⟩ : ∃ W2, W2 = W1.drew.setRow wr.heap.size (over c0 0 c2) := ⟨_, rfl⟩
              have hvb := HT0.out.2.2.2.2.2.2.1
              have hm1 := HT0.out.2.2.2.2.2.2.2.1
              have hj2 := HT0.out.2.2.2.2.2.2.2.2
              have b2 : Below wr.heap.size wr W2 := by rw [hW2]; exact below_setRow b1.drew (Nat.le_refl _)
              have y2 : W2.heap[wr.heap.size]? = some (.cells c2 44 (0, 0)) := by
                rw [hW2]
                have x1 : W1.drew.heap[wr.heap.size]? = some (.cells c0 44 (0, 0)) := HT0.out.2.1
                exact (setRow_same x1).trans (congrArg (fun z => some (Obj.cells z 44 (0, 0))) (over_full (by rw [HX0.out.2.1, HT0.out.2.2.1.size])))
              have r2 : RdP (· < w.heap.size) W2 c2 d2 := by
                have hN1 : w.heap.size ≤ wB.heap.size := HB3.out.1.size
                have hN2 : wB.heap.size ≤ wr.heap.size := HD.out.1.below.size
                rw [hW2]
                exact (HT0.out.2.2.1.keep (Kn.of_below (Below.refl W1.heap.size W1).drew)).keep (Kn.setRow _ _ _ (by omega))
              have hd3 := HD.out.1.stay b2
              simp only [if_true] at hd3
              rw [← hm1] at hd3
              obtain ⟨cw, hcw⟩ : ∃ cw, cw = c2 := ⟨_, rfl⟩
              obtain ⟨dw, hdw⟩ : ∃ dw, dw = d2 := ⟨_, rfl⟩
              have HT := Lib.hid (And.intro hd3 (And.intro y2 (And.intro r2 (And.intro HT0.out.2.2.2.1 (And.intro (show (T.take m1).length ≤ 500 by rw [HT0.out.2.2.2.2.1]; omega) (And.intro (show j2 < (T.take m1).length by rw [HT0.out.2.2.2.2.1]; omega) (And.intro (show (T.take m1)[j2]? = some d2 by rw [List.getElem?_take_of_lt (by omega)]; exact HT0.out.2.2.2.2.2.1) (And.intro (show wr.heap.size < W2.heap.size ∧ wr.heap.size ≠ wB.heap.size ∧ v.ownBlock ≠ some wr.heap.size from ⟨lt_of_some y2, by omega, hvb⟩) trivial))))))))
              rw [← hcw, ← hdw] at HT
              have he : (T.take m1).eraseIdx j2 = T.take (T.length - (k + 1)) := by
                rw [List.eraseIdx_eq_take_drop_succ, List.take_take, List.drop_of_length_le (by rw [HT0.out.2.2.2.2.1]; omega), List.append_nil]
                congr 1
                omega
              have HEQ := Lib.hid he
              have HW2 := Lib.hid hW2
              clear hd3 y2 b2 b1 r2 hcw hdw hvb hlg hm1 hj2 hW2 he
              go_wp2_with fail
              rw [← HW2.out]
              refine (deliver17 HT.out.1.net (by have := HT.out.2.2.2.2.1; omega) (i := j2) HT.out.2.2.2.2.2.1).mono ?_
              intro e w10 hDl
              obtain ⟨c1, d1, v10, hc, hd, rfl, n10, r10, f10⟩ := hDl.out
              obtain rfl : dw = d1 := by
                have := HT.out.2.2.2.2.2.2.1.symm.trans hd
                injection this
              have X10 : (w10.alloc (.cells z44 44)).heap[w10.heap.size]? = some (.cells z44 44 (0, 0)) := heap_alloc_new w10 _
              obtain ⟨W11, hW11⟩ : ∃ W, W = (w10.alloc (.cells z44 44)).setRow w10.heap.size (over z44 0 c1) := ⟨_, rfl⟩
              have b11 : Below w10.heap.size w10 W11 := by rw [hW11]; exact below_setRow ((Below.refl _ _).alloc (Nat.le_refl _) _) (Nat.le_refl _)
              have y11 : W11.heap[w10.heap.size]? = some (.cells c1 44 (0, 0)) := by
                rw [hW11]; exact (setRow_same X10).trans (congrArg (fun z => some (Obj.cells z 44 (0, 0))) (over_full (by rw [HZ.out.2, r10.size])))
              obtain ⟨a1, _, a3⟩ := f10.at HT.out.2.2.2.2.2.2.2.1.1 HT.out.2.2.2.2.2.2.2.1.2.1 HT.out.2.2.2.2.2.2.2.1.2.2
              have y12 : W11.heap[wr.heap.size]? = some (.cells cw 44 (0, 0)) := (b11.block _ a3).trans (a1.trans HT.out.2.1)
              have h10 := (HT.out.1.deliver (by have := HB3.out.1.size; omega) n10 f10).stay b11
              have rw11 : RdP (· < w.heap.size) W11 cw dw := HT.out.2.2.1.keep ⟨Nat.le_trans f10.size b11.size, fun b hb hp => by
                have hN : w.heap.size ≤ wB.heap.size := HB3.out.1.size
                exact (b11.block b (Nat.lt_of_lt_of_le hb f10.size)).trans (f10.below.block b (by omega))⟩
              have all1 : c1.extract 0 (0 + 57) = c1 := by rw [show 0 + 57 = c1.size by rw [r10.size]]; exact Array.extract_size
              have all2 : cw.extract 0 (0 + 57) = cw := by rw [show 0 + 57 = cw.size by rw [rw11.size]]; exact Array.extract_size
              have M5 := same18 c1 cw dw W11 (r10.keep (Kn.of_below b11)) rw11 (HL.out.2 dw HT.out.2.2.2.1) (HSZ.out dw HT.out.2.2.2.1)
              have H10 := Lib.hid (And.intro X10 (And.intro r10.size (And.intro r10.one (And.intro y11 (And.intro y12 (And.intro all1 (And.intro all2 (And.intro rw11.size h10))))))))
              have HW11 := Lib.hid hW11
              clear hDl hc hd n10 r10 f10 X10 hW11 b11 y11 y12 a1 a3 h10 rw11 all1 all2
              go_wp2_with (first | (rw [← HZ.out.1]; with_reducible refine wpList_store_part rfl 44 _ _ rfl rfl _ 0 57 rfl 44 _ _ rfl H10.out.1 cells44 H10.out.2.1 (by rw [HZ.out.2]; decide) H10.out.2.2.1 ?_; rw [← HW11.out]) | (with_reducible refine wpList_load_partg (by simp [Region.wanted, yielded, Act.put]) 44 _ rfl w10.heap.size 0 57 rfl 44 c1 (0, 0) _ H10.out.2.2.2.1 Try.underlying44 rfl cells44 (by rw [H10.out.2.1]; decide) c1 H10.out.2.2.2.2.2.1 ?_) | (with_reducible refine wpList_load_partg (by simp [Region.wanted, yielded, Act.put]) 44 _ rfl wr.heap.size 0 57 rfl 44 cw (0, 0) _ H10.out.2.2.2.2.1 Try.underlying44 rfl cells44 (by rw [H10.out.2.2.2.2.2.2.2.1]; decide) cw H10.out.2.2.2.2.2.2.1 ?_))
              refine M5.mono ?_
              rintro e w12 ⟨rfl, b12⟩
              have H12 := Lib.hid (H10.out.2.2.2.2.2.2.2.2.stay b12)
              clear M5 b12
              go_wp2_with fail
              go_roundw
              case rel => exact ⟨k + 1, by have := HLT.out; omega, by simp, Lib.hid ⟨v10, _, by have h9 := H12.out; rw [HEQ.out] at h9; simpa only [if_true] using h9⟩⟩
              case measure => have := HLT.out; simp [intOf]; omega
          · obtain rfl : k = T.length := by omega
            have hnil : (if back = true then T.take (T.length - T.length) else T.drop T.length) = [] := by cases back <;> simp
            rw [hnil] at hD
            have ML := len16 hD.net
            have HD := Lib.hid hD
            clear hD HE hlt hnil
            go_wp2_with fail
            refine ML.mono ?_
            rintro e w' ⟨rfl, rfl⟩
            go_wp2_with fail
            refine (alive12 _).mono ?_
            rintro e w12 ⟨rfl, b12⟩
            have HF := Lib.hid ((HB3.out.1.trans (HD.out.below.mono HB3.out.1.size)).trans (b12.mono (Nat.le_trans HB3.out.1.size HD.out.below.size)))
            clear b12
            go_wp2_with fail
            go_ret
            exact ⟨rfl, HF.out⟩
end Go.Proofs.Ythahadhdhpcndaa
