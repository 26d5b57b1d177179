import Derived.Test.YtnahhclflnjmcaaGreatDoorB2
import Derived.Test.YtnahhclflnjmcaaGreatDoorA2
/- Chapter 08's own twice, Check, Size, Members, Find. -/
namespace Go.Proofs.YtnahhclflnjmcaaGreatDoor
open Go Go.RowKit
set_option linter.unusedVariables false
set_option linter.unusedSimpArgs false
set_option maxRecDepth 100000

set_option maxHeartbeats 4000000 in
theorem rtwice (v : Value) (n : Nat) (F : Nat → Node) (w : World) (hR : TrR w v n F) (hn : n ≤ 15) :
    Calls Tryz.prog 50 #[.agg #[v]] w fun e w' => BoolP (twiceP n F) w e w' := by
  have hb0 : Below w.heap.size w (w.alloc (.cells #[v] 24)) := (Below.refl _ _).alloc (Nat.le_refl _) _
  obtain ⟨A, c, rfl, -, -, -⟩ := id hR
  obtain ⟨W0, hW0⟩ : ∃ W0, W0 = w.alloc (.cells #[.slice A n c] 24) := ⟨_, rfl⟩
  have hx0 : W0.cell? ⟨w.heap.size, 0, none⟩ = some (.slice A n c) := by rw [hW0]; exact cell_one_new w _ 24 0 _ rfl
  have HR := Lib.hid (by have := hR.below hb0; rw [← hW0] at this; exact this)
  have HB := Lib.hid (by have := hb0; rw [← hW0] at this; exact this)
  have hxl := World.block_lt_of_cell? _ _ hx0
  clear hb0 hR
  go_enter Tryz.func50, Tryz.ntmps50
  go_wp2_with fail
  rw [← hW0]
  clear hW0
  go_loopg [3] 40 (fun g v3 wr => ∃ i : Nat, i ≤ 15 ∧ i + g = 40 ∧ v3 = .int .i64 (2 * (i : Int)) ∧ (∀ i' k, i' < i → k < i' → 2 * i' < n → ¬ ((F (2 * i')).pub ≠ 0 ∧ (F (2 * k)).pub ≠ 0 ∧ (F (2 * i')).mem = (F (2 * k)).mem)) ∧ Below W0.heap.size W0 wr)
  case atStart => exact ⟨0, by omega, by omega, rfl, fun i' k h => by omega, Below.refl _ _⟩
  case round =>
    obtain ⟨i, hi15, hg, rfl, hall, hbel⟩ := hrel
    have HG := Lib.hid (And.intro hg hall)
    have HBo := Lib.hid hbel
    have hxr := (hbel.cell (p := ⟨w.heap.size, 0, none⟩) hxl).trans hx0
    clear hg hall
    by_cases hlt : 2 * i < n
    · have t1 : decide (2 * (i : Int) < (n : Int)) = true := decide_eq_true (by omega)
      have HN := Lib.hid hlt
      clear hbel
      go_wp2_with fail
      go_loopg [4] 40 (fun g v4 W => ∃ k : Nat, k ≤ i ∧ k + g = 40 ∧ v4 = .int .i64 (2 * (k : Int)) ∧ (∀ k', k' < k → ¬ ((F (2 * i)).pub ≠ 0 ∧ (F (2 * k')).pub ≠ 0 ∧ (F (2 * i)).mem = (F (2 * k')).mem)) ∧ Below W0.heap.size W0 W)
      case atStart => exact ⟨0, by omega, by omega, rfl, fun k h => by omega, HBo.out⟩
      case round =>
        obtain ⟨k, hk, hg2, rfl, hall2, hbel⟩ := hrel
        have HG2 := Lib.hid (And.intro hg2 hall2)
        have HBi := Lib.hid hbel
        have hxi := (hbel.cell (p := ⟨w.heap.size, 0, none⟩) hxl).trans hx0
        have hxil := World.block_lt_of_cell? _ _ hxi
        clear hg2 hall2
        by_cases hlk : k < i
        · have t2 : (k < i) = True := eq_true hlk
          obtain ⟨b, o, rfl, hN⟩ := (HR.out.below hbel).at' HN.out
          obtain ⟨b', o', e', hM⟩ := (HR.out.below hbel).at' (show 2 * k < n by omega)
          obtain ⟨rfl, rfl⟩ : b = b' ∧ o = o' := by simpa using e'
          have y0 := hN.c0
          have y1 := hN.c1
          have z0 := hM.c0
          have z1 := hM.c1
          have hbl := World.block_lt_of_cell? _ _ y0
          have j1 : (0 : Int) ≤ 2 * (i : Int) := by omega
          have j2 : 2 * (i : Int) < (n : Int) := by omega
          have j3 : (0 : Int) ≤ 2 * (k : Int) := by omega
          have j4 : 2 * (k : Int) < (n : Int) := by omega
          have jt : (2 * (i : Int)).toNat = 2 * i := by omega
          have kt : (2 * (k : Int)).toNat = 2 * k := by omega
          clear hN hM e' hbel
          have HP := Lib.hid (fun (h : ¬ ((F (2 * i)).pub ≠ 0 ∧ (F (2 * k)).pub ≠ 0 ∧ (F (2 * i)).mem = (F (2 * k)).mem)) => show ∀ k', k' < k + 1 → ¬ ((F (2 * i)).pub ≠ 0 ∧ (F (2 * k')).pub ≠ 0 ∧ (F (2 * i)).mem = (F (2 * k')).mem) from fun k' hk' => by
            by_cases e : k' = k
            · rw [e]; exact h
            · exact HG2.out.2 k' (by omega))
          have HT := Lib.hid (fun (h : (F (2 * i)).pub ≠ 0 ∧ (F (2 * k)).pub ≠ 0 ∧ (F (2 * i)).mem = (F (2 * k)).mem) => show twiceP n F from ⟨i, k, hlk, HN.out, h⟩)
          generalize hp1 : (F (2 * i)).pub = p1 at y0 HP HT
          generalize hp2 : (F (2 * k)).pub = p2 at z0 HP HT
          generalize hm1 : (F (2 * i)).mem = m1 at y1 HP HT
          generalize hm2 : (F (2 * k)).mem = m2 at z1 HP HT
          have HE := Lib.hid (And.intro hp1 hm1)
          clear hp1 hp2 hm1 hm2 hlt
          by_cases c1 : p1 = 0
          · have HQ := Lib.hid (HP.out (fun h => h.1 c1))
            have s1 : (p1 != 0) = false := by rw [bne_eq_false_iff_eq]; exact c1
            clear c1
            go_wp2_with fail
            go_quiet (fail)
            go_wp2_with fail
            go_roundg (gk - 1)
            case rel => exact ⟨k + 1, by omega, by have := HG2.out.1; omega, by go_num, fun k' hk' => by rw [HE.out.1, HE.out.2]; exact HQ.out k' hk', Below.quiet HBi.out _⟩
            case measure => have := HG2.out.1; omega
          have s1 : (p1 != 0) = true := by rw [bne_iff_ne]; exact c1
          by_cases c2 : p2 = 0
          · have HQ := Lib.hid (HP.out (fun h => h.2.1 c2))
            have s2 : (p2 != 0) = false := by rw [bne_eq_false_iff_eq]; exact c2
            clear c1 c2
            go_wp2_with fail
            go_quiet (fail)
            go_wp2_with fail
            go_roundg (gk - 1)
            case rel => exact ⟨k + 1, by omega, by have := HG2.out.1; omega, by go_num, fun k' hk' => by rw [HE.out.1, HE.out.2]; exact HQ.out k' hk', Below.quiet HBi.out _⟩
            case measure => have := HG2.out.1; omega
          have s2 : (p2 != 0) = true := by rw [bne_iff_ne]; exact c2
          by_cases c3 : m1 = m2
          · have HQ := Lib.hid (HT.out ⟨c1, c2, c3⟩)
            have s3 : (m1 == m2) = true := by rw [beq_iff_eq]; exact c3
            clear c1 c2 c3
            go_wp2_with fail
            go_quiet (fail)
            go_wp2_with fail
            go_ret
            exact ⟨⟨true, rfl, (fun _ => HQ.out), fun _ => rfl⟩, Below.quiet (HB.out.trans (HBi.out.mono HB.out.size)) _⟩
          · have HQ := Lib.hid (HP.out (fun h => c3 h.2.2))
            have s3 : (m1 == m2) = false := by rw [beq_eq_false_iff_ne]; exact c3
            clear c1 c2 c3
            go_wp2_with fail
            go_quiet (fail)
            go_wp2_with fail
            go_roundg (gk - 1)
            case rel => exact ⟨k + 1, by omega, by have := HG2.out.1; omega, by go_num, fun k' hk' => by rw [HE.out.1, HE.out.2]; exact HQ.out k' hk', Below.quiet HBi.out _⟩
            case measure => have := HG2.out.1; omega
        · obtain rfl : k = i := by omega
          have HQ := Lib.hid HG2.out.2
          clear hlk hbel
          go_wp2_with fail
          go_roundg (39 - k)
          case rel => exact ⟨k + 1, by omega, by omega, by go_num, fun i' k' h1 h2 h3 => by
            by_cases e : i' = k
            · rw [e]; exact HQ.out k' (by omega)
            · exact HG.out.2 i' k' (by omega) h2 h3, HBi.out⟩
          case measure => have := HG.out.1; omega
    · have t1 : decide (2 * (i : Int) < (n : Int)) = false := decide_eq_false (by omega)
      have HN := Lib.hid hlt
      have hB := HB.out.trans (hbel.mono HB.out.size)
      clear hlt hbel
      go_wp2_with fail
      go_ret
      exact ⟨⟨false, rfl, (fun h => by cases h), fun ⟨i', k', h1, h2, h3⟩ => absurd h3 (HG.out.2 i' k' (by have := HN.out; omega) h1 h2)⟩, hB⟩
end Go.Proofs.YtnahhclflnjmcaaGreatDoor

/- Chapter 08's own Check. -/
namespace Go.Proofs.YtnahhclflnjmcaaGreatDoor
open Go Go.RowKit
set_option linter.unusedVariables false
set_option linter.unusedSimpArgs false
set_option maxRecDepth 100000

set_option maxHeartbeats 8000000 in
theorem rcheck (v : Value) (n : Nat) (F : Nat → Node) (w : World) (hR : TrR w v n F) (hun : ∀ y, y < n → (F y).un.length ≤ 1000000) :
    Calls Tryz.prog 15 #[.agg #[v]] w fun e w' => e = .returned (.int .i64 (errB (chk n F))) ∧ Below w.heap.size w w' := by
  have hb0 : Below w.heap.size w (w.alloc (.cells #[v] 24)) := (Below.refl _ _).alloc (Nat.le_refl _) _
  obtain ⟨A, c, rfl, -, -, -⟩ := id hR
  obtain ⟨W0, hW0⟩ : ∃ W0, W0 = w.alloc (.cells #[.slice A n c] 24) := ⟨_, rfl⟩
  have hx0 : W0.cell? ⟨w.heap.size, 0, none⟩ = some (.slice A n c) := by rw [hW0]; exact cell_one_new w _ 24 0 _ rfl
  have HR := Lib.hid hR
  have HB := Lib.hid (by have := hb0; rw [← hW0] at this; exact this)
  have hxl := World.block_lt_of_cell? _ _ hx0
  have HW0 := Lib.hid hW0
  clear hb0 hR hW0
  by_cases h0 : n = 0
  · subst h0
    rw [show chk 0 F = true from rfl, errB_true]
    go_enter Tryz.func15, Tryz.ntmps15
    go_wp2_with fail
    go_ret
    rw [← HW0.out]
    exact ⟨rfl, HB.out⟩
  have t0 : ((n : Int) == 0) = false := by rw [beq_eq_false_iff_ne]; omega
  by_cases hl : lvs n = 0
  · have hz : chk n F = false := by
      cases hc : chk n F with
      | false => rfl
      | true =>
        rcases chk_iff.1 hc with h | ⟨d, hO⟩
        · exact absurd h h0
        · exact absurd hl (by rw [hO.lvs]; have := two_pos d; omega)
    rw [hz, errB_false]
    have hL := fun W => rleaves A n c W
    rw [hl] at hL
    clear h0 hl hz hun
    go_enter Tryz.func15, Tryz.ntmps15
    go_wp2_with fail
    rw [← HW0.out]
    refine (hL W0).mono ?_
    rintro e w1 ⟨rfl, hb1⟩
    have hB1 := HB.out.trans (hb1.mono HB.out.size)
    go_wp2_with fail
    go_ret
    exact ⟨rfl, hB1⟩
  obtain ⟨d, hd, hn⟩ := lvs_iff.1 hl
  have hL := fun W => rleaves A n c W
  have hlv : lvs n = 2 ^ d := by rw [hn]; exact lvs_pow hd
  rw [hlv] at hL
  have h2 := two_succ d
  have h20 := two_pos d
  have h16 : 2 ^ (d + 1) ≤ 2 ^ 4 := Nat.pow_le_pow_right (by decide) (by omega)
  have hn15 : n ≤ 15 := by omega
  have HUN := Lib.hid hun
  have HBAD := Lib.hid (fun (x : Nat) (hx : x < n) h => chk_bad (F := F) hd hn hx h)
  have HREF := Lib.hid (fun hp hl => chk_ref (F := F) hd hn hp hl)
  obtain ⟨L, hLd⟩ : ∃ L, L = 2 ^ d := ⟨_, rfl⟩
  rw [← hLd] at hL h2 h20
  have HD := Lib.hid (And.intro hd (And.intro hn hLd))
  have h2L : 2 * L = n + 1 := by omega
  have tl : ((L : Int) == 0) = false := by rw [beq_eq_false_iff_ne]; omega
  obtain ⟨q, hq⟩ : ∃ q, q = chk n F := ⟨_, rfl⟩
  have HQ := Lib.hid hq
  rw [← hq]
  clear h0 hl hun hn hlv h2 h16 hLd hd hq
  go_enter Tryz.func15, Tryz.ntmps15
  go_wp2_with fail
  rw [← HW0.out]
  refine (hL W0).mono ?_
  rintro e w1 ⟨rfl, hb1⟩
  have hx1 := (hb1.cell (p := ⟨w.heap.size, 0, none⟩) hxl).trans hx0
  have hx1l := World.block_lt_of_cell? _ _ hx1
  have HB1 := Lib.hid (HB.out.trans (hb1.mono HB.out.size))
  clear hb1 hL hx0 hxl HW0 HB
  go_wp2_with fail
  go_loopg [4] (n + 1) (fun g v4 wr => ∃ i : Nat, i ≤ n ∧ i + g = n + 1 ∧ v4 = .int .i64 i ∧ (∀ x, x < i → (x % 2 = 1 → parB F x = true) ∧ ∀ j, x = 2 * j → ((F (2 * j)).blank || leafB (F (2 * j))) = true) ∧ Below w1.heap.size w1 wr)
  case atStart => exact ⟨0, by omega, by omega, rfl, fun x hx => by omega, Below.refl _ _⟩
  case round =>
    obtain ⟨i, hi, hg, rfl, hall, hbel⟩ := hrel
    have HG := Lib.hid (And.intro hg hall)
    have HBo := Lib.hid hbel
    have hxr := (hbel.cell (p := ⟨w.heap.size, 0, none⟩) hx1l).trans hx1
    have hxrl := World.block_lt_of_cell? _ _ hxr
    have HBw := Lib.hid (HB1.out.trans (hbel.mono HB1.out.size))
    clear hg hall
    by_cases hlt : i < n
    · have hRr := HR.out.below HBw.out
      obtain ⟨b, o, rfl, hN⟩ := hRr.at' hlt
      obtain ⟨y0, y1, y2, ⟨Au, cu, y3, -⟩, -⟩ := hN
      have hbl := World.block_lt_of_cell? _ _ y0
      have j1 : (0 : Int) ≤ (i : Int) := by omega
      have j2 : (i : Int) < (n : Int) := by omega
      have HLT := Lib.hid hlt
      by_cases ho : i % 2 = 1
      · have hp := rparent (.slice (some ⟨b, o, none⟩) n c) n d F i _ hRr HD.out.1 HD.out.2.1 hlt ho (HUN.out i hlt)
        have s1 : ((i : Int) % 2 == 0) = false := by rw [beq_eq_false_iff_ne]; omega
        have s2 : ((i : Int) % 2 == 1) = true := by rw [beq_iff_eq]; omega
        have s1' : ((i : Int).tmod 2 == 0) = false := by rw [Int.tmod_eq_emod_of_nonneg (by omega)]; exact s1
        have s2' : ((i : Int).tmod 2 == 1) = true := by rw [Int.tmod_eq_emod_of_nonneg (by omega)]; exact s2
        have HO := Lib.hid ho
        clear y0 y1 y2 y3 hRr hlt ho hbel
        cases hpb : parB F i with
        | true =>
          rw [hpb] at hp
          have HP := Lib.hid hpb
          clear hpb
          go_wp2_with fail
          refine hp.mono ?_
          rintro e w2 ⟨rfl, hb2⟩
          have hB2 := HBo.out.trans (hb2.mono HBo.out.size)
          clear hb2 hp
          go_wp2_with fail
          go_roundg (gk - 1)
          case rel => exact ⟨i + 1, by omega, by have := HG.out.1; omega, by go_num, fun x hx => by
            by_cases e : x = i
            · subst e
              exact ⟨fun _ => HP.out, fun j hj => by have := HO.out; omega⟩
            · exact HG.out.2 x (by omega), hB2⟩
          case measure => have := HG.out.1; omega
        | false =>
          rw [hpb] at hp
          obtain rfl : q = false := by rw [HQ.out]; exact HBAD.out i HLT.out (.inl ⟨HO.out, hpb⟩)
          clear hpb
          go_wp2_with fail
          refine hp.mono ?_
          rintro e w2 ⟨rfl, hb2⟩
          have hB2 := HBw.out.trans (hb2.mono HBw.out.size)
          clear hb2 hp
          go_wp2_with fail
          go_ret
          exact ⟨rfl, hB2⟩
      · obtain ⟨j, hj⟩ : ∃ j, i = 2 * j := ⟨i / 2, by omega⟩
        have hp := fun W => rleaf (F i) Au cu W
        have s1 : ((i : Int) % 2 == 0) = true := by rw [beq_iff_eq]; omega
        have s2 : ((i : Int) % 2 == 1) = false := by rw [beq_eq_false_iff_ne]; omega
        have s1' : ((i : Int).tmod 2 == 0) = true := by rw [Int.tmod_eq_emod_of_nonneg (by omega)]; exact s1
        have s2' : ((i : Int).tmod 2 == 1) = false := by rw [Int.tmod_eq_emod_of_nonneg (by omega)]; exact s2
        have HJ := Lib.hid hj
        clear hRr hlt ho hbel hj
        obtain ⟨z, hz⟩ : ∃ z, z = ((F i).blank || leafB (F i)) := ⟨_, rfl⟩
        rw [← hz] at hp
        generalize (F i).pub = p at *
        generalize (F i).mem = m at *
        generalize (F i).ep = ep at *
        generalize (F i).un.length = ul at *
        have HZ := Lib.hid hz
        clear hz
        cases z with
        | true =>
          go_wp2_with fail
          refine (hp _).mono ?_
          rintro e w2 ⟨rfl, hb2⟩
          have hB2 := HBo.out.trans (hb2.mono HBo.out.size)
          clear hb2 hp
          go_wp2_with fail
          go_roundg (gk - 1)
          case rel => exact ⟨i + 1, by omega, by have := HG.out.1; omega, by go_num, fun x hx => by
            by_cases e : x = i
            · subst e
              refine ⟨fun h => by have := HJ.out; omega, fun j' hj' => ?_⟩
              rw [← hj']
              exact HZ.out.symm
            · exact HG.out.2 x (by omega), hB2⟩
          case measure => have := HG.out.1; omega
        | false =>
          obtain rfl : q = false := by
            rw [HQ.out]
            refine HBAD.out i HLT.out (.inr ⟨j, HJ.out, ?_⟩)
            rw [← HJ.out]
            exact HZ.out.symm
          go_wp2_with fail
          refine (hp _).mono ?_
          rintro e w2 ⟨rfl, hb2⟩
          have hB2 := HBw.out.trans (hb2.mono HBw.out.size)
          clear hb2 hp
          go_wp2_with fail
          go_ret
          exact ⟨rfl, hB2⟩
    · obtain rfl : i = n := by omega
      have HREF' := Lib.hid (HREF.out (fun x hx ho => (HG.out.2 x hx).1 ho) (fun j hj => (HG.out.2 (2 * j) hj).2 j rfl))
      have hRr := HR.out.below HBw.out
      have hT2 := fun W (hW : Below wr.heap.size wr W) => rtwice (.slice A i c) i F W (hRr.below hW) hn15
      have hS0 : ∀ W, Below wr.heap.size wr W → Calls Tryz.prog 51 #[.agg #[.slice A i c], .int .i64 0] W fun e w' => BoolP (someP i F 0) W e w' := fun W hW => rsome (.slice A i c) i F 0 W (hRr.below hW) hn15 (by decide)
      have hS1 := fun W (hW : Below wr.heap.size wr W) => rsome (.slice A i c) i F (L / 2) W (hRr.below hW) hn15 (by omega)
      have hHeld := hxr
      clear hlt hi hbel hRr
      go_wp2_with fail
      refine (hT2 wr (Below.refl _ _)).mono ?_
      rintro e w2 ⟨⟨b1, rfl, hb1⟩, hbel2⟩
      have hx2 := (hbel2.cell (p := ⟨w.heap.size, 0, none⟩) hxrl).trans hxr
      have hx2l := World.block_lt_of_cell? _ _ hx2
      have HB2 := Lib.hid hbel2
      have HT1 := Lib.hid hb1
      clear hb1 hbel2 hT2 hHeld
      cases b1 with
      | true =>
        obtain rfl : q = false := by
          rw [HQ.out]
          cases hc : chk i F with
          | false => rfl
          | true => exact absurd (HT1.out.1 rfl) (HREF'.out.1 hc).1
        clear hS0 hS1
        go_wp2_with fail
        go_ret
        exact ⟨rfl, HBw.out.trans (HB2.out.mono HBw.out.size)⟩
      | false =>
        go_wp2_with fail
        refine (hS0 w2 HB2.out).mono ?_
        rintro e w3 ⟨⟨b2, rfl, hb2⟩, hbel3⟩
        have hx3 := (hbel3.cell (p := ⟨w.heap.size, 0, none⟩) hx2l).trans hx2
        have hx3l := World.block_lt_of_cell? _ _ hx3
        have HB3 := Lib.hid (HB2.out.trans (hbel3.mono HB2.out.size))
        have HT2 := Lib.hid hb2
        clear hb2 hbel3 hS0
        cases b2 with
        | false =>
          obtain rfl : q = false := by
            rw [HQ.out]
            cases hc : chk i F with
            | false => rfl
            | true => have := HT2.out.2 (HREF'.out.1 hc).2.1; cases this
          clear hS1
          go_wp2_with fail
          go_ret
          exact ⟨rfl, HBw.out.trans (HB3.out.mono HBw.out.size)⟩
        | true =>
          by_cases hd0 : L = 1
          · obtain rfl : q = true := by
              rw [HQ.out]
              refine HREF'.out.2 ⟨(fun h => by have := HT1.out.2 h; cases this), HT2.out.1 rfl, fun h => ?_⟩
              have e := HD.out.2.2
              rw [hd0] at e
              have : 2 ^ 1 ≤ 2 ^ d := Nat.pow_le_pow_right (by decide) h
              omega
            have t1 : decide ((1 : Int) < (L : Int)) = false := decide_eq_false (by omega)
            clear hd0 hS1
            go_wp2_with fail
            go_ret
            exact ⟨rfl, HBw.out.trans (HB3.out.mono HBw.out.size)⟩
          · have t1 : decide ((1 : Int) < (L : Int)) = true := decide_eq_true (by omega)
            have e6 : wrap64 ((L : Int).tdiv 2) = ((L / 2 : Nat) : Int) := by rw [Int.tdiv_eq_ediv_of_nonneg (by omega)]; unfold wrap64; omega
            have E6 := Lib.hid e6
            have HL1 := Lib.hid hd0
            have hS2 := hS1 w3 HB3.out
            have HL2 := Lib.hid (show L / 2 = 2 ^ d / 2 by rw [← HD.out.2.2])
            generalize L / 2 = L2 at *
            clear hd0 e6 hS1 h20 h2L tl
            generalize (L : Int) = z at *
            go_wp2_with (simp only [E6.out])
            refine hS2.mono ?_
            rintro e w4 ⟨⟨b3, rfl, hb3⟩, hbel4⟩
            have hB4 := HBw.out.trans ((HB3.out.trans (hbel4.mono HB3.out.size)).mono HBw.out.size)
            have HT3 := Lib.hid hb3
            clear hb3 hbel4 hS2
            obtain rfl : q = b3 := by
              rw [HQ.out]
              cases b3 with
              | true => exact HREF'.out.2 ⟨(fun h => by have := HT1.out.2 h; cases this), (by have := HT2.out; simpa using this), fun h => by rw [← HL2.out]; have := HT3.out; simpa using this⟩
              | false =>
                cases hc : chk i F with
                | false => rfl
                | true =>
                  have hd1 : 0 < d := by
                    by_cases h : 0 < d
                    · exact h
                    · exfalso
                      apply HL1.out
                      rw [HD.out.2.2, show d = 0 by omega]
                  have := (HREF'.out.1 hc).2.2 hd1
                  rw [← HL2.out] at this
                  have := HT3.out.2 this
                  cases this
            cases q with
            | true =>
              go_wp2_with fail
              go_ret
              exact ⟨rfl, hB4⟩
            | false =>
              go_wp2_with fail
              go_ret
              exact ⟨rfl, hB4⟩
end Go.Proofs.YtnahhclflnjmcaaGreatDoor

/- Chapter 08's own Size, Members, Find. -/
namespace Go.Proofs.YtnahhclflnjmcaaGreatDoor
open Go Go.RowKit
set_option linter.unusedVariables false
set_option linter.unusedSimpArgs false
set_option maxRecDepth 100000

theorem rsize (v : Value) (n : Nat) (F : Nat → Node) (w : World) (hR : TrR w v n F) (hun : ∀ y, y < n → (F y).un.length ≤ 1000000) :
    Calls Tryz.prog 16 #[.agg #[v]] w fun e w' => e = .returned (.int .i64 (sizeM n F : Nat)) ∧ Below w.heap.size w w' := by
  have hb0 : Below w.heap.size w (w.alloc (.cells #[v] 24)) := (Below.refl _ _).alloc (Nat.le_refl _) _
  obtain ⟨A, c, rfl, -, -, -⟩ := id hR
  obtain ⟨W0, hW0⟩ : ∃ W0, W0 = w.alloc (.cells #[.slice A n c] 24) := ⟨_, rfl⟩
  have hx0 : W0.cell? ⟨w.heap.size, 0, none⟩ = some (.slice A n c) := by rw [hW0]; exact cell_one_new w _ 24 0 _ rfl
  have hxl := World.block_lt_of_cell? _ _ hx0
  have HB := Lib.hid (by have := hb0; rw [← hW0] at this; exact this)
  have hC := rcheck (.slice A n c) n F W0 (hR.below HB.out) hun
  have hL := fun W => rleaves A n c W
  have HS := Lib.hid (show sizeM n F = if chk n F then lvs n else 0 from rfl)
  obtain ⟨s, hs⟩ : ∃ s, s = sizeM n F := ⟨_, rfl⟩
  rw [← hs] at HS ⊢
  clear hb0 hun hs
  go_enter Tryz.func16, Tryz.ntmps16
  go_wp2_with fail
  rw [← hW0]
  clear hW0
  refine hC.mono ?_
  rintro e w1 ⟨rfl, hb1⟩
  have hx1 := (hb1.cell (p := ⟨w.heap.size, 0, none⟩) hxl).trans hx0
  have HB1 := Lib.hid (HB.out.trans (hb1.mono HB.out.size))
  clear hb1 hx0 hxl hC hR
  cases hz : chk n F with
  | false =>
    obtain rfl : s = 0 := by rw [HS.out, hz]; rfl
    rw [errB_false]
    clear hz HS
    go_wp2_with fail
    go_ret
    exact ⟨rfl, HB1.out⟩
  | true =>
    obtain rfl : s = lvs n := by rw [HS.out, hz]; rfl
    rw [errB_true]
    clear hz HS
    go_wp2_with fail
    refine (hL _).mono ?_
    rintro e w2 ⟨rfl, hb2⟩
    have hB2 := HB1.out.trans (hb2.mono HB1.out.size)
    clear hL
    go_wp2_with fail
    go_ret
    exact ⟨rfl, hB2⟩
theorem size_cases {n : Nat} {F : Nat → Node} (h : chk n F = true) : (∀ i, 2 * i < n ↔ i < sizeM n F) ∧ sizeM n F ≤ 8 ∧ n ≤ 15 ∧ ∀ i, i < sizeM n F → ((F (2 * i)).pub ≠ 0 ↔ 0 < (F (2 * i)).pub) := by
  have hs : sizeM n F = lvs n := by unfold sizeM; rw [h, if_pos rfl]
  rcases chk_iff.1 h with rfl | ⟨d, hO⟩
  · rw [hs]
    have : lvs 0 = 0 := rfl
    refine ⟨fun i => by omega, by omega, by omega, fun i hi => by omega⟩
  · have hd := hO.hd
    have h1 := hO.lvs
    have h2 := two_succ d
    have h3 := hO.hn
    have h4 := two_pos d
    have h16 : 2 ^ (d + 1) ≤ 2 ^ 4 := Nat.pow_le_pow_right (by decide) (by omega)
    rw [hs, h1]
    refine ⟨fun i => by omega, by omega, by omega, fun i hi => ?_⟩
    rcases hO.leaf i hi with h | h
    · rw [Node.blank_iff.1 h]; simp [zeroN]
    · have := h.1
      constructor
      · intro _; omega
      · intro _; omega
set_option maxHeartbeats 4000000 in
theorem rmembers (v : Value) (n : Nat) (F : Nat → Node) (w : World) (hR : TrR w v n F) (hun : ∀ y, y < n → (F y).un.length ≤ 1000000) :
    Calls Tryz.prog 14 #[.agg #[v]] w fun e w' => ∃ v', e = .returned v' ∧ OwnI w' w.heap.size v' (memL F (sizeM n F)) ∧ Below w.heap.size w w' := by
  have hb0 : Below w.heap.size w (w.alloc (.cells #[v] 24)) := (Below.refl _ _).alloc (Nat.le_refl _) _
  obtain ⟨A, c, rfl, -, -, -⟩ := id hR
  obtain ⟨W0, hW0⟩ : ∃ W0, W0 = w.alloc (.cells #[.slice A n c] 24) := ⟨_, rfl⟩
  have hx0 : W0.cell? ⟨w.heap.size, 0, none⟩ = some (.slice A n c) := by rw [hW0]; exact cell_one_new w _ 24 0 _ rfl
  have hxl := World.block_lt_of_cell? _ _ hx0
  have HB := Lib.hid (by have := hb0; rw [← hW0] at this; exact this)
  have HR := Lib.hid hR
  have hC := rcheck (.slice A n c) n F W0 (hR.below HB.out) hun
  have HS := Lib.hid (show sizeM n F = if chk n F then lvs n else 0 from rfl)
  have HSC := Lib.hid (size_cases (n := n) (F := F))
  obtain ⟨s, hs⟩ : ∃ s, s = sizeM n F := ⟨_, rfl⟩
  rw [← hs] at HS HSC ⊢
  clear hb0 hun hs hR
  go_enter Tryz.func14, Tryz.ntmps14
  go_wp2_with fail
  rw [← hW0]
  clear hW0
  refine hC.mono ?_
  rintro e w1 ⟨rfl, hb1⟩
  have hx1 := (hb1.cell (p := ⟨w.heap.size, 0, none⟩) hxl).trans hx0
  have hx1l := World.block_lt_of_cell? _ _ hx1
  have HB1 := Lib.hid (HB.out.trans (hb1.mono HB.out.size))
  clear hb1 hx0 hxl hC HB
  cases hz : chk n F with
  | false =>
    obtain rfl : s = 0 := by rw [HS.out, hz]; rfl
    rw [errB_false]
    clear hz HS HSC
    go_wp2_with fail
    go_ret
    exact ⟨_, rfl, World.ownsRow_nil _ _ _ _, HB1.out⟩
  | true =>
    rw [errB_true]
    obtain ⟨f1, f2, f3, f4⟩ := HSC.out hz
    have HF := Lib.hid (And.intro f1 f4)
    have hSw : w.heap.size ≤ w1.heap.size := HB1.out.size
    clear hz HS HSC f1 f4
    go_wp2_with fail
    go_loopg [3, 4] (s + 1) (fun g v3 v4 wr => ∃ i : Nat, i ≤ s ∧ i + g = s + 1 ∧ v4 = .int .i64 (2 * (i : Int)) ∧ OwnI wr w1.heap.size v3 (memL F i) ∧ Below w1.heap.size w1 wr ∧ w1.heap.size ≤ wr.heap.size)
    case atStart => exact ⟨0, by omega, by omega, rfl, World.ownsRow_nil _ _ _ _, Below.refl _ _, Nat.le_refl _⟩
    case round =>
      obtain ⟨i, hi, hg, rfl, hown, hbel, hSr⟩ := hrel
      have HG := Lib.hid hg
      have HOWN := Lib.hid hown
      have hxr := (hbel.cell (p := ⟨w.heap.size, 0, none⟩) hx1l).trans hx1
      have hxrl := World.block_lt_of_cell? _ _ hxr
      have HBw := Lib.hid (HB1.out.trans (hbel.mono HB1.out.size))
      have HBL1 := Lib.hid hbel
      clear hg
      by_cases hlt : i < s
      · have hin : 2 * i < n := (HF.out.1 i).2 hlt
        have hpp := HF.out.2 i hlt
        obtain ⟨b, o, rfl, hN⟩ := (HR.out.below HBw.out).at' hin
        obtain ⟨y0, y1, -, -, -⟩ := hN
        have hbl := World.block_lt_of_cell? _ _ y0
        have j1 : (0 : Int) ≤ 2 * (i : Int) := by omega
        have j2 : 2 * (i : Int) < (n : Int) := by omega
        have jt : (2 * (i : Int)).toNat = 2 * i := by omega
        have HM := Lib.hid (show memL F (i + 1) = if 0 < (F (2 * i)).pub then memL F i ++ [(F (2 * i)).mem] else memL F i from rfl)
        have hml := memL_length F i
        have HPP := Lib.hid hpp
        generalize memL F i = ml at *
        generalize (F (2 * i)).pub = p at *
        generalize (F (2 * i)).mem = m at *
        obtain ⟨A3, c3, rfl⟩ := hown.slice
        clear hpp hown
        by_cases hp : p = 0
        · subst hp
          have HI := Lib.hid hi
          have HLT := Lib.hid hin
          clear hbel
          go_wp2_with fail
          go_roundg (gk - 1)
          case rel => exact ⟨i + 1, by omega, by have := HG.out; omega, by go_num, by rw [HM.out, if_neg (by decide)]; exact HOWN.out, HBL1.out, hSr⟩
          case measure => have := HG.out; omega
        · have t1 : (p != 0) = true := by rw [bne_iff_ne]; exact hp
          have HP := Lib.hid (HPP.out.1 hp)
          have hlen2 : ml.length < 4294967296 := by omega
          clear hp
          go_wp2_with (at_builtin; refine pushg rfl _ _ rfl rfl rfl HOWN hbel hSr rfl hlen2 ?_)
          intro v' w' h1 h2 h3
          have H1 := Lib.hid h1
          clear h1 HOWN
          go_wp2_with fail
          go_roundg (gk - 1)
          case rel => exact ⟨i + 1, by omega, by have := HG.out; omega, by go_num, by rw [HM.out, if_pos HP.out]; exact H1.out, h2, h3⟩
          case measure => have := HG.out; omega
      · obtain rfl : i = s := by omega
        have hnn : ¬ 2 * i < n := fun h => by have := (HF.out.1 i).1 h; omega
        have t1 : decide (2 * (i : Int) < (n : Int)) = false := decide_eq_false (by omega)
        obtain ⟨A3, c3, rfl⟩ := hown.slice
        clear hnn hown hbel hlt
        go_wp2_with fail
        go_ret
        exact ⟨_, rfl, own_lower HB1.out.size HOWN.out, HBw.out⟩
end Go.Proofs.YtnahhclflnjmcaaGreatDoor

/- Chapter 08's own Find. -/
namespace Go.Proofs.YtnahhclflnjmcaaGreatDoor
open Go Go.RowKit
set_option linter.unusedVariables false
set_option linter.unusedSimpArgs false
set_option maxRecDepth 100000

theorem findM_stay {F : Nat → Node} {m : Int} {i0 : Nat} : ∀ {n i : Nat}, i ≤ n → findM F m i = (i0 : Nat) → findM F m n = (i0 : Nat)
  | 0, i, h, h1 => by obtain rfl : i = 0 := by omega
                      exact h1
  | n + 1, i, h, h1 => by
    by_cases e : i = n + 1
    · rw [← e]; exact h1
    · have := findM_stay (n := n) (i := i) (by omega) h1
      unfold findM
      rw [this, if_pos (by omega)]
set_option maxHeartbeats 4000000 in
theorem rfind (v : Value) (n : Nat) (F : Nat → Node) (m : Int) (w : World) (hR : TrR w v n F) (hun : ∀ y, y < n → (F y).un.length ≤ 1000000) :
    Calls Tryz.prog 17 #[.agg #[v], .int .i64 m] w fun e w' => e = .returned (.int .i64 (findM F m (sizeM n F))) ∧ Below w.heap.size w w' := by
  have hb0 : Below w.heap.size w (w.alloc (.cells #[v] 24)) := (Below.refl _ _).alloc (Nat.le_refl _) _
  obtain ⟨A, c, rfl, -, -, -⟩ := id hR
  obtain ⟨W0, hW0⟩ : ∃ W0, W0 = w.alloc (.cells #[.slice A n c] 24) := ⟨_, rfl⟩
  have hx0 : W0.cell? ⟨w.heap.size, 0, none⟩ = some (.slice A n c) := by rw [hW0]; exact cell_one_new w _ 24 0 _ rfl
  have hxl := World.block_lt_of_cell? _ _ hx0
  have HB := Lib.hid (by have := hb0; rw [← hW0] at this; exact this)
  have HR := Lib.hid hR
  have hC := rcheck (.slice A n c) n F W0 (hR.below HB.out) hun
  have HS := Lib.hid (show sizeM n F = if chk n F then lvs n else 0 from rfl)
  have HSC := Lib.hid (size_cases (n := n) (F := F))
  obtain ⟨s, hs⟩ : ∃ s, s = sizeM n F := ⟨_, rfl⟩
  rw [← hs] at HS HSC ⊢
  obtain ⟨z, hz0⟩ : ∃ z, z = findM F m s := ⟨_, rfl⟩
  rw [← hz0]
  have HZ := Lib.hid hz0
  clear hb0 hun hs hR hz0
  go_enter Tryz.func17, Tryz.ntmps17
  go_wp2_with fail
  rw [← hW0]
  clear hW0
  refine hC.mono ?_
  rintro e w1 ⟨rfl, hb1⟩
  have hx1 := (hb1.cell (p := ⟨w.heap.size, 0, none⟩) hxl).trans hx0
  have hx1l := World.block_lt_of_cell? _ _ hx1
  have HB1 := Lib.hid (HB.out.trans (hb1.mono HB.out.size))
  clear hb1 hx0 hxl hC HB
  cases hz : chk n F with
  | false =>
    obtain rfl : s = 0 := by rw [HS.out, hz]; rfl
    obtain rfl : z = -1 := HZ.out
    rw [errB_false]
    clear hz HS HSC
    go_wp2_with fail
    go_ret
    exact ⟨rfl, HB1.out⟩
  | true =>
    rw [errB_true]
    obtain ⟨f1, f2, f3, f4⟩ := HSC.out hz
    have HF := Lib.hid (And.intro f1 f4)
    clear hz HS HSC f1 f4
    go_wp2_with fail
    go_loopg [5] (s + 1) (fun g v5 wr => ∃ i : Nat, i ≤ s ∧ i + g = s + 1 ∧ v5 = .int .i64 (2 * (i : Int)) ∧ findM F m i = -1 ∧ wr = w1)
    case atStart => exact ⟨0, by omega, by omega, rfl, rfl, rfl⟩
    case round =>
      obtain ⟨i, hi, hg, rfl, hfm, rfl⟩ := hrel
      have HG := Lib.hid (And.intro hg hfm)
      clear hg hfm
      by_cases hlt : i < s
      · have hin : 2 * i < n := (HF.out.1 i).2 hlt
        have hpp := HF.out.2 i hlt
        obtain ⟨b, o, rfl, hN⟩ := (HR.out.below HB1.out).at' hin
        obtain ⟨y0, y1, -, -, -⟩ := hN
        have hbl := World.block_lt_of_cell? _ _ y0
        have j1 : (0 : Int) ≤ 2 * (i : Int) := by omega
        have j2 : 2 * (i : Int) < (n : Int) := by omega
        have jt : (2 * (i : Int)).toNat = 2 * i := by omega
        have HM := Lib.hid (show findM F m (i + 1) = if 0 < (F (2 * i)).pub ∧ (F (2 * i)).mem = m then (i : Int) else -1 by
          show (if 0 ≤ findM F m i then findM F m i else if 0 < (F (2 * i)).pub ∧ (F (2 * i)).mem = m then (i : Int) else -1) = _
          rw [HG.out.2, if_neg (by decide)])
        have HPP := Lib.hid hpp
        generalize (F (2 * i)).pub = p at *
        generalize (F (2 * i)).mem = mm at *
        clear hpp
        by_cases hp : p = 0
        · subst hp
          go_wp2_with fail
          go_roundg (gk - 1)
          case rel => exact ⟨i + 1, by omega, by have := HG.out.1; omega, by go_num, by rw [HM.out, if_neg (fun h => by have := h.1; omega)], rfl⟩
          case measure => have := HG.out.1; omega
        · have t1 : (p != 0) = true := by rw [bne_iff_ne]; exact hp
          have HP := Lib.hid (HPP.out.1 hp)
          clear hp
          by_cases hm : mm = m
          · have t2 : (mm == m) = true := by rw [beq_iff_eq]; exact hm
            have hzi : z = (i : Int) := by
              rw [HZ.out]
              refine findM_stay (i := i + 1) hlt ?_
              rw [HM.out, if_pos ⟨HP.out, hm⟩]
            have e6 : wrap64 ((2 * (i : Int)).tdiv 2) = (i : Int) := by rw [Int.tdiv_eq_ediv_of_nonneg (by omega)]; unfold wrap64; omega
            have E6 := Lib.hid e6
            have e8 : 2 * (i : Int) / 2 = (i : Int) := Int.mul_ediv_cancel_left _ (by decide)
            have E8 := Lib.hid e8
            have HZI := Lib.hid hzi
            clear hm hzi e6 e8 hin
            generalize 2 * (i : Int) = y2 at *
            go_wp2_with (simp only [E6.out])
            go_ret
            rw [HZI.out]
            refine ⟨?_, HB1.out⟩
            show Ending.returned (Value.int IntKind.i64 (y2 / 2)) = _
            rw [E8.out]
          · have t2 : (mm == m) = false := by rw [beq_eq_false_iff_ne]; exact hm
            have HMM := Lib.hid hm
            clear hm
            go_wp2_with fail
            go_roundg (gk - 1)
            case rel => exact ⟨i + 1, by omega, by have := HG.out.1; omega, by go_num, by rw [HM.out, if_neg (fun h => HMM.out h.2)], rfl⟩
            case measure => have := HG.out.1; omega
      · obtain rfl : i = s := by omega
        have hnn : ¬ 2 * i < n := fun h => by have := (HF.out.1 i).1 h; omega
        have t1 : decide (2 * (i : Int) < (n : Int)) = false := decide_eq_false (by omega)
        obtain rfl : z = -1 := by rw [HZ.out]; exact HG.out.2
        clear hnn hlt
        go_wp2_with fail
        go_ret
        exact ⟨rfl, HB1.out⟩
end Go.Proofs.YtnahhclflnjmcaaGreatDoor
