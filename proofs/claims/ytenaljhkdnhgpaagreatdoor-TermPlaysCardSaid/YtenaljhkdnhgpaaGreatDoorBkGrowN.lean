/- The book: all lists of numbers grow. -/
import Derived.Test.YtenaljhkdnhgpaaGreatDoorBkFillN
import Derived.Test.YtenaljhkdnhgpaaGreatDoorPhase
namespace Go.Proofs.YtenaljhkdnhgpaaGreatDoor.Bk
open Go Go.RowKit
set_option linter.unusedVariables false
set_option linter.unusedSimpArgs false

theorem info3 : (Tryz.prog.info? 3).map (fun i => (i.zero, i.size, i.bytes)) = some (some (.int .i64 0), 1, 8) := by kernel_rfl
/-- How far the growing has come. -/
structure GrowI (K : KD) (w : World) (B : Nat) (F : Nat → Prop) (lv : Value) (N L i q : Nat) (wr : World) : Prop where
  out : ∃ hs : List (Value × Int), hs.length = N ∧ HL K wr B (fun b => F b ∨ (w.heap.size ≤ b ∧ b < wr.heap.size)) lv hs (fun j => if j < i then L + 3 else if j = i then L + q else L) (fun _ => 4000000)
  chg : Chg (fun b => F b ∨ w.heap.size ≤ b) w wr
set_option maxHeartbeats 4000000 in
set_option maxRecDepth 100000 in
theorem growNumber {w : World} {B : Nat} {F : Nat → Prop} {lv : Value} {hs0 : List (Value × Int)} {L : Nat} (bb : Nat) (bc : Array Value) (h : HL kdNumber w B F lv hs0 (fun _ => L) (fun _ => 4000000)) (hb : w.heap[bb]? = some (.cells bc 66 (0, 0))) (hl : bc[2]? = some lv) (hFb : ¬ F bb) (hn : hs0.length ≤ 1000000) (hlim : L ≤ 2000000) (hB : B ≤ w.heap.size) :
    Calls Tryz.prog 68 #[.pointer (some ⟨bb, 0, none⟩)] w fun e w' => e = .returned (.tuple #[]) ∧ ∃ hs', hs'.length = hs0.length ∧ HL kdNumber w' B (fun b => F b ∨ (w.heap.size ≤ b ∧ b < w'.heap.size)) lv hs' (fun _ => L + 3) (fun _ => 4000000) ∧ Chg F w w' := by
  obtain ⟨N, hN⟩ : ∃ N, N = hs0.length := ⟨_, rfl⟩
  obtain ⟨A0, c0, e⟩ := h.slice
  rw [← hN] at e hn ⊢
  subst e
  have l1 : w.cell? ⟨bb, 2, none⟩ = some (.slice A0 N c0) := (cell_of_row w bb _ _ _ _ hb).trans hl
  have hlt := lt_of_some hb
  have H0 : Hid (GrowI kdNumber w B F (.slice A0 N c0) N L 0 0 w) := Lib.hid ⟨⟨hs0, hN.symm, (h.weak fun b hb _ => .inl hb).lims fun j _ => by
    show L ≤ if j < 0 then L + 3 else if j = 0 then L + 0 else L
    rw [if_neg (Nat.not_lt_zero _)]; split <;> exact Nat.le_refl _⟩, Chg.refl _ _⟩
  have hFb2 : ¬ (F bb ∨ w.heap.size ≤ bb) := fun e => by
    rcases e with e | e
    · exact hFb e
    · omega
  have HC := Lib.hid (And.intro hb (And.intro hl (And.intro hFb2 hlim)))
  have hi0 : (0 : Int) ≤ (N : Int) := by omega
  have HNN := Lib.hid hN
  clear h hb hl hFb hFb2 hlim hN hlt
  go_enter Tryz.func68, Tryz.ntmps68
  go_wp2_with fail
  go_loopg [10] N (fun k v10 wr => ∃ i : Nat, v10 = .int .i64 (i : Int) ∧ i + k = N ∧ Hid (GrowI kdNumber w B F (.slice A0 N c0) N L i 0 wr))
  case atStart => exact ⟨0, rfl, by simp, H0⟩
  case round =>
    clear H0 l1
    obtain ⟨i, rfl, hik, HT⟩ := hrel
    have l1 : wr.cell? ⟨bb, 2, none⟩ = some (.slice A0 N c0) := (cell_of_row wr bb _ _ _ _ (HT.out.chg.keep HC.out.1 HC.out.2.2.1)).trans HC.out.2.1
    by_cases hi : i < N
    · obtain ⟨hs, hsl, hHL⟩ := HT.out.out
      obtain ⟨⟨v, m⟩, hvm⟩ : ∃ x, hs[i]? = some x := ⟨hs[i]'(by omega), List.getElem?_eq_getElem _⟩
      obtain ⟨gl, capl, curl, e, k1, k2, k3, k4, k5⟩ := hHL.at hvm
      injection e with e1 e2 e3
      clear e2
      subst e1 e3
      have i1 : (0 : Int) ≤ (i : Int) := by omega
      have i2 : (i : Int) < (N : Int) := by omega
      have HI := Lib.hid hi
      clear hvm k1 k2 k3 k4 k5 hi hHL hsl
      go_wp2_with fail
      go_loopg [4] 3 (fun k v4 wr => ∃ q : Nat, v4 = .int .i64 (q : Int) ∧ q + k = 3 ∧ Hid (GrowI kdNumber w B F (.slice (some ⟨gl, 0, none⟩) N c0) N L i q wr))
      case atStart => exact ⟨0, rfl, rfl, HT⟩
      case round =>
        clear HT l1
        obtain ⟨q, rfl, hqk, HQ⟩ := hrel
        by_cases hq : q < 3
        · obtain ⟨hs, hsl, hHL⟩ := HQ.out.out
          obtain ⟨⟨v, m⟩, hvm⟩ : ∃ x, hs[i]? = some x := ⟨hs[i]'(by have := HI.out; omega), List.getElem?_eq_getElem _⟩
          obtain ⟨n, xs, ⟨A, c, rfl⟩, hrow, hnl, hfull⟩ := (hHL.held i v m hvm).row
          obtain ⟨gl', capl', curl, e, p1, p2, p3, p4, p5⟩ := hHL.at hvm
          have hg0 := hHL.apart0 i _ m gl hvm
          injection e with e1 e2 e3
          clear e2
          injection e1 with e1
          injection e1 with e1
          subst e1 e3
          have hnl2 : n ≤ L + q := by
            rw [if_neg (Nat.lt_irrefl i), if_pos rfl] at hnl
            exact hnl
          have hgl := lt_of_some p1
          have hcc : ∀ w' : World, w'.heap[gl]? = wr.heap[gl]? → w'.cell? ⟨gl, i * 2, none⟩ = some (.slice A n c) ∧ w'.cell? ⟨gl, i * 2 + 1, none⟩ = some (.int .i64 m) := fun w' e1 =>
            ⟨(cell_of_row w' gl _ _ _ _ (e1.trans p1)).trans p3, (cell_of_row w' gl _ _ _ _ (e1.trans p1)).trans p4⟩
          obtain ⟨c1, c2⟩ := hcc wr rfl
          have hBr : B ≤ wr.heap.size := Nat.le_trans hB HQ.out.chg.size
          have hvgl : (Value.slice A n c).ownBlock ≠ some gl := fun e => hg0 e rfl
          have HH := Lib.hid (And.intro hcc (And.intro hgl (And.intro hvgl (And.intro p1 (And.intro hrow (And.intro hfull (And.intro hvm (And.intro hsl hHL))))))))
          obtain ⟨y, hy⟩ : ∃ y, y = wrap64 (-1000 - m) := ⟨_, rfl⟩
          have HRW : Hid (HeldRow ((wr.alloc (.cells #[.int .i64 y] 3)).drew) B 3 1 (.slice A n c) n xs) := Lib.hid (hrow.keep (((Below.refl _ _).alloc (Nat.le_refl _) (.cells #[.int .i64 y] 3)).drew))
          have HNW : Hid (([.int .i64 y] : List Value).length = 1 * 1 ∧ (∀ j u, ([.int .i64 y] : List Value)[j]? = some u → ((wr.alloc (.cells #[.int .i64 y] 3)).drew).cell? ((⟨wr.heap.size, 0, none⟩ : Addr).add j) = some u) ∧ ∀ u ∈ ([.int .i64 y] : List Value), u.oneCell' = true) :=
            Lib.hid ⟨rfl, World.news_of_block (w := (wr.alloc (.cells #[.int .i64 y] 3)).drew) (cs := #[.int .i64 y]) (t := 3) (fr := (0, 0)) (heap_alloc_new wr _), by simp [Value.oneCell']⟩
          have HSD : Hid (B ≤ ((wr.alloc (.cells #[.int .i64 y] 3)).drew).heap.size) := Lib.hid (by simp; exact Nat.le_succ_of_le hBr)
          have HLT : Hid (gl < ((wr.alloc (.cells #[.int .i64 y] 3)).drew).heap.size) := Lib.hid (by simp; exact Nat.lt_succ_of_lt hgl)
          have HY := Lib.hid hy
          have HQL := Lib.hid hq
          have hL := HC.out.2.2.2
          obtain ⟨i0, hinf, hz0, hz1, hz2⟩ := info_parts info3
          have i4 : (0 : Int) ≤ (q : Int) := by omega
          have i5 : (q : Int) < 3 := by omega
          clear hvm p1 p2 p3 p4 p5 hcc hrow hfull hg0 hHL hsl hnl hvgl hy hgl
          go_wp2_with fail
          refine Go.Proofs.Phase.wp_region_ph (S := (fun w' => w'.cell? ⟨gl, i * 2, none⟩ = some (.slice A n c) ∧ w'.cell? ⟨gl, i * 2 + 1, none⟩ = some (.int .i64 m))) 14 (by kernel_rfl) ?_ (fun hHeld => ?_)
          · ((try dsimp only) <;> (first | assumption | exact HH.out.1 _ rfl | exact HH.out.1 _ (Below.heap_alloc _ _ _ HH.out.2.1)))
          refine Go.Proofs.Phase.wpPh_take' (i := 0) (by simp only [List.getElem?_toArray, List.getElem?_cons_succ, List.getElem?_cons_zero]; rfl) ?_
          refine ⟨?_, ⟨by kernel_rfl, by kernel_rfl, by kernel_rfl, by kernel_rfl⟩, fun _ _ _ h => h, Or.inl ⟨by rfl, ?_⟩, by assumption, ?_⟩
          rotate_left
          · (intro w hSw; (try dsimp only at hSw); go_simp; with_reducible rfl)
          try simp only [Act.put, List.setIfInBounds_toArray, List.set_cons_zero, List.set_cons_succ]
          refine Go.Proofs.Phase.wpPh_take' (i := 1) (by simp only [List.getElem?_toArray, List.getElem?_cons_succ, List.getElem?_cons_zero]; rfl) ?_
          refine ⟨?_, ⟨by kernel_rfl, by kernel_rfl, by kernel_rfl, by kernel_rfl⟩, fun _ _ _ h => h, Or.inl ⟨by rfl, ?_⟩, by assumption, ?_⟩
          rotate_left
          · (intro w hSw; (try dsimp only at hSw); go_simp; with_reducible rfl)
          try simp only [Act.put, List.setIfInBounds_toArray, List.set_cons_zero, List.set_cons_succ]
          refine Go.Proofs.Phase.wpPh_take' (i := 2) (by simp only [List.getElem?_toArray, List.getElem?_cons_succ, List.getElem?_cons_zero]; rfl) ?_
          refine ⟨?_, ⟨by kernel_rfl, by kernel_rfl, by kernel_rfl, by kernel_rfl⟩, fun _ _ _ h => h, Or.inl ⟨by rfl, ?_⟩, by assumption, ?_⟩
          rotate_left
          · (intro w hSw; (try dsimp only at hSw); go_simp; with_reducible rfl)
          try simp only [Act.put, List.setIfInBounds_toArray, List.set_cons_zero, List.set_cons_succ]
          refine Go.Proofs.Phase.wpPh_take' (i := 3) (by simp only [List.getElem?_toArray, List.getElem?_cons_succ, List.getElem?_cons_zero]; rfl) ?_
          refine ⟨?_, ⟨by kernel_rfl, by kernel_rfl, by kernel_rfl, by kernel_rfl⟩, fun _ _ _ h => h, Or.inl ⟨by rfl, ?_⟩, by assumption, ?_⟩
          rotate_left
          · (intro w hSw; (try dsimp only at hSw); go_simp; with_reducible rfl)
          try simp only [Act.put, List.setIfInBounds_toArray, List.set_cons_zero, List.set_cons_succ]
          refine Go.Proofs.Phase.wpPh_take' (i := 4) (by simp only [List.getElem?_toArray, List.getElem?_cons_succ, List.getElem?_cons_zero]; rfl) ?_
          refine ⟨?_, ⟨by kernel_rfl, by kernel_rfl, by kernel_rfl, by kernel_rfl⟩, fun _ _ _ h => h, Or.inl ⟨by rfl, ?_⟩, by assumption, ?_⟩
          rotate_left
          · (intro w hSw; (try dsimp only at hSw); go_simp; with_reducible rfl)
          try simp only [Act.put, List.setIfInBounds_toArray, List.set_cons_zero, List.set_cons_succ]
          refine Go.Proofs.Phase.wpPh_take' (i := 5) (by simp only [List.getElem?_toArray, List.getElem?_cons_succ, List.getElem?_cons_zero]; rfl) ?_
          refine ⟨?_, ⟨by kernel_rfl, by kernel_rfl, by kernel_rfl, by kernel_rfl⟩, fun _ _ _ h => h, Or.inl ⟨by rfl, ?_⟩, by assumption, ?_⟩
          rotate_left
          · (intro w hSw; (try dsimp only at hSw); go_simp; with_reducible rfl)
          try simp only [Act.put, List.setIfInBounds_toArray, List.set_cons_zero, List.set_cons_succ]
          refine Go.Proofs.Phase.wpPh_take' (i := 6) (by simp only [List.getElem?_toArray, List.getElem?_cons_succ, List.getElem?_cons_zero]; rfl) ?_
          refine ⟨?_, ⟨by kernel_rfl, by kernel_rfl, by kernel_rfl, by kernel_rfl⟩, fun _ _ _ h => h, Or.inl ⟨by rfl, ?_⟩, by assumption, ?_⟩
          rotate_left
          · (intro w hSw; (try dsimp only at hSw); go_simp; with_reducible rfl)
          try simp only [Act.put, List.setIfInBounds_toArray, List.set_cons_zero, List.set_cons_succ]
          refine Go.Proofs.Phase.wpPh_take' (i := 7) (by simp only [List.getElem?_toArray, List.getElem?_cons_succ, List.getElem?_cons_zero]; rfl) ?_
          refine ⟨?_, ⟨by kernel_rfl, by kernel_rfl, by kernel_rfl, by kernel_rfl⟩, fun _ _ _ h => h, Or.inl ⟨by rfl, ?_⟩, by assumption, ?_⟩
          rotate_left
          · (intro w hSw; (try dsimp only at hSw); go_simp; with_reducible rfl)
          try simp only [Act.put, List.setIfInBounds_toArray, List.set_cons_zero, List.set_cons_succ]
          refine Go.Proofs.Phase.wpPh_take' (i := 8) (by simp only [List.getElem?_toArray, List.getElem?_cons_succ, List.getElem?_cons_zero]; rfl) ?_
          refine ⟨?_, ⟨by kernel_rfl, by kernel_rfl, by kernel_rfl, by kernel_rfl⟩, fun _ _ _ h => h, Or.inl ⟨by rfl, ?_⟩, by assumption, ?_⟩
          rotate_left
          · (intro w hSw; (try dsimp only at hSw); go_simp; with_reducible rfl)
          try simp only [Act.put, List.setIfInBounds_toArray, List.set_cons_zero, List.set_cons_succ]
          refine Go.Proofs.Phase.wpPh_before (i := 9) (by kernel_rfl) (by simp only [List.getElem?_toArray, List.getElem?_cons_succ, List.getElem?_cons_zero]; rfl) (fun K hK => ?_)
          go_simp
          ((first
              | ((with_reducible refine (markNumber m _).mono ?_); rintro e w' ⟨rfl, rfl⟩; rw [← HY.out])
              | ((with_reducible refine step_append_held rfl _ _ 23 rfl B 3 i0 _ 1 8 Tryz.underlying23 hinf hz0 hz1 hz2 rfl (by decide) (.slice A n c) n xs rfl HRW.out ⟨wr.heap.size, 0, none⟩ 1 1 [.int .i64 y] rfl HNW.out.1 HNW.out.2.1 HNW.out.2.2 (by decide) (by unfold maxLen; omega) (by omega) HSD.out ?_); intro g' cap' w4 o1 o2 o3 o4; have y4 := (o2.block gl HLT.out (fun e => HH.out.2.2.1 e.symm)).trans (Below.heap_alloc _ _ _ HH.out.2.1); have K9 := HH.out.1 w4 y4; have f1 : w4.frozen? ⟨gl, i * 2, none⟩ = false := frozen_of_row w4 gl _ _ _ (y4.trans HH.out.2.2.2.1))))
          go_wp2_with fail
          refine hK.out _ _ ?_ (fun hHeldN => ?_)
          · ((try dsimp only) <;> (first | assumption | exact HH.out.1 _ rfl | exact HH.out.1 _ (Below.heap_alloc _ _ _ HH.out.2.1)))
          clear hHeld
          have hHeld := hHeldN
          clear hHeldN
          clear hK K
          try simp only [Act.put, List.setIfInBounds_toArray, List.set_cons_zero, List.set_cons_succ]
          refine Go.Proofs.Phase.wpPh_before (i := 10) (by kernel_rfl) (by simp only [List.getElem?_toArray, List.getElem?_cons_succ, List.getElem?_cons_zero]; rfl) (fun K hK => ?_)
          go_simp
          refine hK.out _ _ ?_ (fun hHeldN => ?_)
          · ((try dsimp only) <;> (first | assumption | exact HH.out.1 _ rfl | exact HH.out.1 _ (Below.heap_alloc _ _ _ HH.out.2.1)))
          clear hHeld
          have hHeld := hHeldN
          clear hHeldN
          clear hK K
          try simp only [Act.put, List.setIfInBounds_toArray, List.set_cons_zero, List.set_cons_succ]
          refine Go.Proofs.Phase.wpPh_before (i := 11) (by kernel_rfl) (by simp only [List.getElem?_toArray, List.getElem?_cons_succ, List.getElem?_cons_zero]; rfl) (fun K hK => ?_)
          ((first
              | ((with_reducible refine (markNumber m _).mono ?_); rintro e w' ⟨rfl, rfl⟩; rw [← HY.out])
              | ((with_reducible refine step_append_held rfl _ _ 23 rfl B 3 i0 _ 1 8 Tryz.underlying23 hinf hz0 hz1 hz2 rfl (by decide) (.slice A n c) n xs rfl HRW.out ⟨wr.heap.size, 0, none⟩ 1 1 [.int .i64 y] rfl HNW.out.1 HNW.out.2.1 HNW.out.2.2 (by decide) (by unfold maxLen; omega) (by omega) HSD.out ?_); intro g' cap' w4 o1 o2 o3 o4; have y4 := (o2.block gl HLT.out (fun e => HH.out.2.2.1 e.symm)).trans (Below.heap_alloc _ _ _ HH.out.2.1); have K9 := HH.out.1 w4 y4; have f1 : w4.frozen? ⟨gl, i * 2, none⟩ = false := frozen_of_row w4 gl _ _ _ (y4.trans HH.out.2.2.2.1))))
          refine hK.out _ _ ?_ (fun hHeldN => ?_)
          · ((try dsimp only) <;> (first | assumption | exact HH.out.1 _ rfl | exact HH.out.1 _ (Below.heap_alloc _ _ _ HH.out.2.1)))
          clear hHeld
          have hHeld := hHeldN
          clear hHeldN
          clear hK K
          try simp only [Act.put, List.setIfInBounds_toArray, List.set_cons_zero, List.set_cons_succ]
          refine Go.Proofs.Phase.wpPh_before (i := 12) (by kernel_rfl) (by simp only [List.getElem?_toArray, List.getElem?_cons_succ, List.getElem?_cons_zero]; rfl) (fun K hK => ?_)
          go_simp
          refine hK.out _ _ ?_ (fun hHeldN => ?_)
          · ((try dsimp only) <;> (first | assumption | exact HH.out.1 _ rfl | exact HH.out.1 _ (Below.heap_alloc _ _ _ HH.out.2.1)))
          clear hHeld
          have hHeld := hHeldN
          clear hHeldN
          clear hK K
          try simp only [Act.put, List.setIfInBounds_toArray, List.set_cons_zero, List.set_cons_succ]
          refine Go.Proofs.Phase.wpPh_take' (i := 13) (by simp only [List.getElem?_toArray, List.getElem?_cons_succ, List.getElem?_cons_zero]; rfl) ?_
          refine ⟨?_, ⟨by kernel_rfl, by kernel_rfl, by kernel_rfl, by kernel_rfl⟩, fun _ _ _ h => h, Or.inl ⟨by rfl, ?_⟩, by assumption, ?_⟩
          rotate_left
          · (intro w hSw; (try dsimp only at hSw); go_simp; with_reducible rfl)
          try simp only [Act.put, List.setIfInBounds_toArray, List.set_cons_zero, List.set_cons_succ]
          refine Go.Proofs.Phase.wpPh_behind (i := 14) (by kernel_rfl) (by simp only [List.getElem?_toArray, List.getElem?_cons_succ, List.getElem?_cons_zero]; rfl) (by kernel_rfl) (fun K hK => ?_)
          go_simp
          refine hK.out _ _ ?_
          clear hK K
          try simp only [Act.put, List.setIfInBounds_toArray, List.set_cons_zero, List.set_cons_succ]
          refine Go.Proofs.Phase.wpPh_done (by kernel_rfl) ?_ _
          have HNEXT : Hid (GrowI kdNumber w B F (.slice (some ⟨gl, 0, none⟩) N c0) N L i (q + 1) (w4.setCell ⟨gl, i * 2, none⟩ (.slice (some ⟨g', 0, none⟩) (n + 1) cap'))) := Lib.hid (by
            obtain ⟨hcc, hgl, hvgl, p1, hrow, hfull, hvm, hsl, hHL⟩ := HH.out
            have hB1 : Below wr.heap.size wr ((wr.alloc (.cells #[.int .i64 y] 3)).drew) := ((Below.refl _ _).alloc (Nat.le_refl _) _).drew
            have hs1 : ((wr.alloc (.cells #[.int .i64 y] 3)).drew).heap.size = wr.heap.size + 1 := by simp
            have hws := HQ.out.chg.size
            have hL1 := hHL.keep (X := fun _ => False) (Chg.of_below hB1) (fun _ _ h => h)
            have hmin : min 4000000 n = n := Nat.min_eq_right (by have := HC.out.2.2.2; have := HQL.out; omega)
            have ho4 : g' < w4.heap.size := o4
            have hP := hL1.grow (F' := fun b => F b ∨ (w.heap.size ≤ b ∧ b < w4.heap.size)) (cap := c0) (n := n) (c := c) (A := A) (m := m) (v' := .slice (some ⟨g', 0, none⟩) (n + 1) cap') (i := i) (gl := gl) (xs := xs) (Nat.le_trans hBr hB1.size) hvm (by rw [hsl]) ((hB1.block gl hgl).trans p1) (fun j hj => hfull j (by rw [hmin]; exact hj)) hrow.len (by rw [if_neg (Nat.lt_irrefl i), if_pos rfl]; omega)
              (by
                have := o1
                rw [HY.out] at this
                exact this) o2 (fun b hb => by
                have hb : g' = b := by simpa [Value.ownBlock] using hb
                subst hb
                exact o3) rfl
              (fun b hb => by
                rcases hb with hb | hb
                · exact .inl hb
                · exact .inr ⟨hb.1, Nat.lt_of_lt_of_le hb.2 (Nat.le_trans hB1.size o2.size)⟩) (fun b hb hge => .inr ⟨by rw [hs1] at hge; omega, by
                have e : g' = b := by simpa [Value.ownBlock] using hb
                rw [← e]; exact o4⟩)
            refine ⟨⟨hs.set i (.slice (some ⟨g', 0, none⟩) (n + 1) cap', m), by rw [List.length_set]; exact hsl, ?_⟩, ?_⟩
            · have hP2 := hP.fin (i := i) (A := some ⟨g', 0, none⟩) (n := n + 1) (c := cap') (m := m) (kf' := fun _ => 4000000) (by rw [List.getElem?_set_self (by have := HI.out; omega)]) (by rw [if_pos rfl]; exact Nat.le_refl _) (fun j hj => by rw [if_neg hj])
              refine (hP2.lims fun j _ => ?_).weak fun b hb _ => ?_
              · show (if j = i then (if i < i then L + 3 else if i = i then L + q else L) + 1 else if j < i then L + 3 else if j = i then L + q else L) ≤ if j < i then L + 3 else if j = i then L + (q + 1) else L
                by_cases e : j = i
                · subst e; simp; omega
                · rw [if_neg e, if_neg e, if_neg e]; exact Nat.le_refl _
              · rcases hb with hb | hb
                · exact .inl hb
                · exact .inr ⟨hb.1, by simpa using hb.2⟩
            · have hglF := hHL.inF gl (by rfl)
              refine ((HQ.out.chg.trans (Chg.of_below hB1)).trans (Chg.grown o2 fun k hk => ?_)).trans (Chg.setCell w4 ⟨gl, i * 2, none⟩ _ ?_)
              · rcases hHL.inF' i _ m k hvm hk with h1 | h1
                · exact .inl h1
                · exact .inr h1.1
              · rcases hglF with h1 | h1
                · exact .inl h1
                · exact .inr h1.1)
          clear o1 o2 o3 o4 y4 K9 f1
          go_wp2_with fail
          go_roundg (3 - (q + 1))
          case measure => have := HQL.out; omega
          case rel => exact ⟨q + 1, by go_num, by have := HQL.out; omega, HNEXT⟩
        · obtain rfl : q = 3 := by omega
          have HE : Hid (GrowI kdNumber w B F (.slice (some ⟨gl, 0, none⟩) N c0) N L (i + 1) 0 wr) := Lib.hid (by
            obtain ⟨hs, hsl, hHL⟩ := HQ.out.out
            refine ⟨⟨hs, hsl, hHL.lims fun j _ => ?_⟩, HQ.out.chg⟩
            show (if j < i then L + 3 else if j = i then L + 3 else L) ≤ if j < i + 1 then L + 3 else if j = i + 1 then L + 0 else L
            by_cases h1 : j < i + 1
            · rw [if_pos h1]; split
              · exact Nat.le_refl _
              · split <;> omega
            · rw [if_neg h1, if_neg (by omega), if_neg (by omega)]; split <;> exact Nat.le_refl _)
          clear hq HQ
          go_wp2_with fail
          go_roundg (N - (i + 1))
          case measure => have := HI.out; omega
          case rel => exact ⟨i + 1, by go_num, by have := HI.out; omega, HE⟩
    · obtain rfl : i = N := by omega
      go_wp2_with fail
      go_end0
      obtain ⟨hs, hsl, hHL⟩ := HT.out.out
      exact ⟨rfl, hs, hsl, hHL.lims fun j hj => by rw [if_pos (by omega)]; exact Nat.le_refl _, HT.out.chg.mono fun b hb hx => by
        rcases hx with hx | hx
        · exact hx
        · omega⟩
end Go.Proofs.YtenaljhkdnhgpaaGreatDoor.Bk
