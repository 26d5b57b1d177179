/- alive. -/
import Derived.Test.YtopkanokpfhmmaaDoorTZ
import Derived.Test.YtopkanokpfhmmaaDoorUB
namespace Go.Proofs.YtopkanokpfhmmaaDoor
open Go Go.RowKit
set_option linter.unusedVariables false
set_option linter.unusedSimpArgs false

theorem ok_of_chk {d n : Nat} {F : Nat → Node} (h : chk n F = true) (hn : n = 2 ^ (d + 1) - 1) (hd : d ≤ 3) : Ok d n F := by
  rcases chk_iff.1 h with h0 | ⟨d', hO⟩
  · have := two_succ d; have := two_pos d; omega
  · have h1 := hO.hn
    have h2 := two_succ d; have h3 := two_succ d'
    have e : 2 ^ d' = 2 ^ d := by have := two_pos d; have := two_pos d'; omega
    have key : ∀ a b : Fin 4, 2 ^ a.val = 2 ^ b.val → a.val = b.val := by decide
    have e2 : d' = d := key ⟨d', by have := hO.hd; omega⟩ ⟨d, by omega⟩ e
    rw [← e2]
    exact hO
def aF1 : Nat → Node := addF 0 (fun _ => zeroN) 0 0 ⟨5, 0, 1⟩
def aF2 : Nat → Node := addF 1 aF1 1 1 ⟨6, 0, 2⟩
def aF3 : Nat → Node := setF aF2 1 0 1 3 [(1, 4)]
def aF4 : Nat → Node := addF 3 aF3 2 2 ⟨7, 0, 5⟩
def aF5 : Nat → Node := blankF aF4 2 1
theorem a2_chk : chk 1 aF1 = true := by decide +kernel
theorem a2_find : findM aF1 6 (sizeM 1 aF1) < 0 := by decide +kernel
theorem a2_fb : fb aF1 (lvs 1) = 1 := by decide +kernel
theorem a2_n : addN 1 aF1 = 2 := by decide +kernel
theorem a3_chk : chk 3 aF2 = true := by decide +kernel
theorem a3_pub : 1 ≤ (aF2 (2 * 0)).pub := by decide +kernel
theorem a3_rows : (rowsM aF2 1 0).map (·.1) = [1] := by decide +kernel
theorem a4_chk : chk 3 aF3 = true := by decide +kernel
theorem a4_find : findM aF3 7 (sizeM 3 aF3) < 0 := by decide +kernel
theorem a4_fb : fb aF3 (lvs 3) = 2 := by decide +kernel
theorem a4_n : addN 3 aF3 = 4 := by decide +kernel
theorem a5_chk : chk 7 aF4 = true := by decide +kernel
theorem a5_res : resL 7 aF4 3 = [1, 4] := by decide +kernel
theorem a5_resE : resE 7 aF4 3 = 0 := by decide +kernel
theorem a5_find : findM aF4 6 (sizeM 7 aF4) = 1 := by decide +kernel
theorem a5_mem : (memL aF4 (sizeM 7 aF4)).length ≠ 1 := by decide +kernel
theorem a6_cut : cut aF5 2 = 2 := by decide +kernel
theorem a6_mem : memL aF5 (sizeM 7 aF5) = [5, 7] := by decide +kernel
theorem box3 {w w' : World} {t : TypeId} {z : Value} (h : Below (w.alloc (.cells #[z] t)).heap.size (w.alloc (.cells #[z] t)) w') : w'.cell? ⟨w.heap.size, 0, none⟩ = some z ∧ w'.frozen? ⟨w.heap.size, 0, none⟩ = false ∧ w.heap.size < w'.heap.size := box_first' h
theorem box4 {w w' : World} {g : Nat} {z : Value} (h : Below w.heap.size w w') (h1 : w.cell? ⟨g, 0, none⟩ = some z) (h2 : w.frozen? ⟨g, 0, none⟩ = false) (h3 : g < w.heap.size) : w'.cell? ⟨g, 0, none⟩ = some z ∧ w'.frozen? ⟨g, 0, none⟩ = false ∧ g < w'.heap.size := box_next h h1 h2 h3
theorem ints2 (w : World) (a b : Int) : Ints (w.alloc (.cells #[.int .i64 a, .int .i64 b] 3)) (.slice (some ⟨w.heap.size, 0, none⟩) 2 2) [a, b] :=
  ⟨_, _, rfl, Nat.le_refl 2, by decide, fun _ => ⟨w.heap.size, 0, rfl, fun i x hi => by
    rw [Nat.zero_add, cell_of_row _ _ _ _ _ _ (heap_alloc_new w _)]
    have hlt := (List.getElem?_eq_some_iff.1 hi).1
    have : i = 0 ∨ i = 1 := by simp at hlt; omega
    rcases this with rfl | rfl
    · obtain rfl : a = x := by simpa using hi
      rfl
    · obtain rfl : b = x := by simpa using hi
      rfl⟩⟩
set_option maxHeartbeats 8000000 in
set_option maxRecDepth 100000 in
theorem alive11 (w : World) (hT : Tab w) : Calls Tryd.prog 11 #[] w fun e w' => e = .returned (.bool true) ∧ Below w.heap.size w w' := by
  have hpos := hT.pos
  have HT := Lib.hid hT
  go_enter Tryd.func11, Tryd.ntmps11
  go_wp2_with fail
  refine (new29 ⟨5, 0, 1⟩ w hT (by decide) (by decide) (by decide) (by decide)).mono ?_
  rintro e w1 ⟨⟨v1, rfl, h1⟩, b1⟩
  obtain ⟨A1, c1, rfl, -, -, -⟩ := id h1
  have H1 := Lib.hid (h1.alloc (.cells #[.slice A1 1 c1] 24))
  have hbA := Lib.hid (b1.alloc b1.size (.cells #[.slice A1 1 c1] 24))
  clear h1
  go_wp2_with fail
  refine (add_yes (.slice A1 1 c1) 1 aF1 ⟨6, 0, 2⟩ _ (hT.below hpos hbA.out) H1.out a2_chk (by decide) (by decide) (by decide) (by decide) a2_find (by rw [a2_fb]; decide)).mono ?_
  rintro e w2 ⟨⟨v2, rfl, h2⟩, b2⟩
  rw [a2_fb, a2_n] at h2
  rw [a2_fb]
  obtain ⟨A2, c2, rfl, -, -, -⟩ := id h2
  obtain ⟨x0, xf, xl⟩ := box3 b2
  have s2 := (World.cell?_setCell_same w2 ⟨w1.heap.size, 0, none⟩ (.slice A2 3 c2) x0)
  have f2 : (w2.setCell ⟨w1.heap.size, 0, none⟩ (.slice A2 3 c2)).frozen? ⟨w1.heap.size, 0, none⟩ = false := by rw [World.frozen?_setCell]; exact xf
  have l2 : w1.heap.size < (w2.setCell ⟨w1.heap.size, 0, none⟩ (.slice A2 3 c2)).heap.size := by simp; exact xl
  have bw2 := Lib.hid ((hbA.out.trans (b2.mono hbA.out.size)).setCell (p := ⟨w1.heap.size, 0, none⟩) (by exact b1.size) (.slice A2 3 c2))
  have H2 := Lib.hid (h2.setBox x0 (u := .slice A2 3 c2))
  have HB1 := Lib.hid b1
  clear h2 b2 b1 H1 hbA
  go_wp2_with fail
  have bw2a := Lib.hid (bw2.out.alloc bw2.out.size (.cells #[.int .i64 4] 3))
  have hI4 : Ints ((w2.setCell ⟨w1.heap.size, 0, none⟩ (.slice A2 3 c2)).alloc (.cells #[.int .i64 4] 3)) (.slice (some ⟨w2.heap.size, 0, none⟩) ([4] : List Int).length 1) [4] :=
    ⟨_, _, rfl, by decide, by decide, fun _ => ⟨w2.heap.size, 0, rfl, fun i x hi => by
      have hi0 : i = 0 := by have := (List.getElem?_eq_some_iff.1 hi).1; simp at this; omega
      subst hi0
      have hx : x = 4 := by simpa using hi.symm
      have := cell_one_new (w2.setCell ⟨w1.heap.size, 0, none⟩ (.slice A2 3 c2)) (.int .i64 4) 3 0 _ rfl
      rw [show (w2.setCell ⟨w1.heap.size, 0, none⟩ (.slice A2 3 c2)).heap.size = w2.heap.size by simp] at this
      rw [hx]
      simpa [Addr.add] using this⟩⟩
  have hO3 : Ok 1 3 aF2 := ok_of_chk a3_chk (by decide) (by decide)
  have hset := set_some (.slice A2 3 c2) 3 1 0 aF2 1 3 _ [4] _ (hT.below hpos bw2a.out) (H2.out.alloc _) hO3 (by decide) a3_pub (by decide) (by decide) hI4 (by have := congrArg List.length a3_rows; rw [List.length_map] at this; rw [this]; rfl) (by decide) (by decide)
  rw [a3_rows] at hset
  refine hset.mono ?_
  rintro e w3 ⟨⟨v3, rfl, h3⟩, b3⟩
  obtain ⟨A3, c3, rfl, -, -, -⟩ := id h3
  have s2a : ((w2.setCell ⟨w1.heap.size, 0, none⟩ (.slice A2 3 c2)).alloc (.cells #[.int .i64 4] 3)).cell? ⟨w1.heap.size, 0, none⟩ = some (.slice A2 3 c2) := by rw [World.cell?_alloc_lt _ _ _ l2]; exact s2
  have f2a : ((w2.setCell ⟨w1.heap.size, 0, none⟩ (.slice A2 3 c2)).alloc (.cells #[.int .i64 4] 3)).frozen? ⟨w1.heap.size, 0, none⟩ = false := by
    rw [World.frozen?_of_block (a := ⟨w1.heap.size, 0, none⟩) (Below.heap_alloc _ _ _ l2)]
    exact f2
  obtain ⟨y0, yf, yl⟩ := box4 b3 s2a f2a (by simp; omega)
  have s3 := (World.cell?_setCell_same w3 ⟨w1.heap.size, 0, none⟩ (.slice A3 3 c3) y0)
  have f3 : (w3.setCell ⟨w1.heap.size, 0, none⟩ (.slice A3 3 c3)).frozen? ⟨w1.heap.size, 0, none⟩ = false := by rw [World.frozen?_setCell]; exact yf
  have l3 : w1.heap.size < (w3.setCell ⟨w1.heap.size, 0, none⟩ (.slice A3 3 c3)).heap.size := by simp; exact yl
  have bw3 := Lib.hid ((bw2a.out.trans (b3.mono bw2a.out.size)).setCell (p := ⟨w1.heap.size, 0, none⟩) (by exact HB1.out.size) (.slice A3 3 c3))
  have H3 := Lib.hid (h3.setBox y0 (u := .slice A3 3 c3))
  clear h3 b3 hset hI4 hO3 s2a f2a s2 f2 l2 x0 xf xl H2 bw2 bw2a
  go_wp2_with fail
  refine (add_yes (.slice A3 3 c3) 3 aF3 ⟨7, 0, 5⟩ _ (hT.below hpos bw3.out) H3.out a4_chk (by decide) (by decide) (by decide) (by decide) a4_find (by rw [a4_fb]; decide)).mono ?_
  rintro e w4 ⟨⟨v4, rfl, h4⟩, b4⟩
  rw [a4_fb, a4_n] at h4
  rw [a4_fb]
  obtain ⟨A4, c4, rfl, -, -, -⟩ := id h4
  obtain ⟨z0, zf, zl⟩ := box4 b4 s3 f3 l3
  have s4 := (World.cell?_setCell_same w4 ⟨w1.heap.size, 0, none⟩ (.slice A4 7 c4) z0)
  have f4 : (w4.setCell ⟨w1.heap.size, 0, none⟩ (.slice A4 7 c4)).frozen? ⟨w1.heap.size, 0, none⟩ = false := by rw [World.frozen?_setCell]; exact zf
  have l4 : w1.heap.size < (w4.setCell ⟨w1.heap.size, 0, none⟩ (.slice A4 7 c4)).heap.size := by simp; exact zl
  have bw4 := Lib.hid ((bw3.out.trans (b4.mono bw3.out.size)).setCell (p := ⟨w1.heap.size, 0, none⟩) (by exact HB1.out.size) (.slice A4 7 c4))
  have H4 := Lib.hid (h4.setBox z0 (u := .slice A4 7 c4))
  clear h4 b4 s3 f3 l3 y0 yf yl H3 bw3
  go_wp2_with fail
  have hres := res19 (.slice A4 7 c4) 7 aF4 3 _ (hT.below hpos bw4.out) H4.out (by decide)
  rw [a5_res, a5_resE] at hres
  refine hres.mono ?_
  rintro e w5 ⟨⟨v5, rfl, ho5⟩, b5⟩
  obtain ⟨A5, c5, rfl⟩ := ho5.slice
  obtain ⟨s5, f5, l5⟩ := box4 b5 s4 f4 l4
  have H5 := Lib.hid (H4.out.below b5)
  have bw5 := Lib.hid (bw4.out.trans (b5.mono bw4.out.size))
  have HO5 := Lib.hid ho5.ints
  clear hres ho5 s4 f4 l4 z0 zf zl b5 H4 bw4
  go_wp2_with fail
  have hO5 : Ok 2 7 aF4 := ok_of_chk a5_chk (by decide) (by decide)
  refine (rem_yes (.slice A4 7 c4) 7 2 1 aF4 6 w5 (hT.below hpos bw5.out) H5.out hO5 a5_find (by decide) a5_mem).mono ?_
  rintro e w6 ⟨⟨v6, rfl, h6⟩, b6⟩
  rw [show blankF aF4 2 1 = aF5 from rfl, a6_cut] at h6
  obtain ⟨A6, c6, rfl, -, -, -⟩ := id h6
  have H6 := Lib.hid (h6.alloc (.cells #[.slice A6 7 c6] 24))
  have bw6 := Lib.hid ((bw5.out.trans (b6.mono bw5.out.size)).alloc (by have := (bw5.out.trans (b6.mono bw5.out.size)).size; exact this) (.cells #[.slice A6 7 c6] 24))
  have HO6 := Lib.hid ((HO5.out.below b6).below ((Below.refl _ _).alloc (Nat.le_refl _) (.cells #[.slice A6 7 c6] 24)))
  clear h6 b6 hO5 H5 bw5 HO5 s5 f5 l5
  go_wp2_with fail
  obtain ⟨W6, hW6⟩ : ∃ W6, W6 = w6.alloc (.cells #[.slice A6 7 c6] 24) := ⟨_, rfl⟩
  have hs6 : w6.heap.size + 1 = W6.heap.size := by rw [hW6]; simp
  have hx6 : W6.cell? ⟨w6.heap.size, 0, none⟩ = some (.slice A6 7 c6) := by rw [hW6]; exact cell_one_new w6 _ 24 0 _ rfl
  rw [← hW6] at H6 bw6 HO6 ⊢
  rw [hs6]
  have hl6 : w6.heap.size < W6.heap.size := by omega
  have hb6a : Below W6.heap.size W6 (W6.alloc (.cells #[.int .i64 1, .int .i64 4] 3)) := (Below.refl _ _).alloc (Nat.le_refl _) _
  refine (same _ _ [1, 4] [1, 4] _ (HO6.out.below hb6a) (ints2 W6 1 4)).mono ?_
  rintro e w7 ⟨rfl, nd, hw7⟩
  rw [show sameB [1, 4] [1, 4] = true from rfl]
  have hb7 : Below W6.heap.size W6 w7 := by rw [hw7]; exact Below.quiet hb6a nd
  have hx7 := (hb7.cell (p := ⟨w6.heap.size, 0, none⟩) hl6).trans hx6
  have hl7 : w6.heap.size < w7.heap.size := Nat.lt_of_lt_of_le hl6 hb7.size
  have H7 := Lib.hid (H6.out.below hb7)
  have bw7 := Lib.hid (bw6.out.trans (hb7.mono bw6.out.size))
  clear hw7 hb6a hW6 hs6 hx6 hl6 H6 HO6 bw6
  go_wp2_with fail
  refine (members12 (.slice A6 7 c6) 7 aF5 w7 (hT.below hpos bw7.out) H7.out (by decide)).mono ?_
  rintro e w8 ⟨vm, rfl, hom, hb8⟩
  rw [a6_mem] at hom
  obtain ⟨Am, cm, rfl⟩ := hom.slice
  have bw8 := Lib.hid (bw7.out.trans (hb8.mono bw7.out.size))
  have HOM := Lib.hid hom.ints
  clear hom hb8 H7 bw7
  go_wp2_with fail
  have hb8a : Below w8.heap.size w8 (w8.alloc (.cells #[.int .i64 5, .int .i64 7] 3)) := (Below.refl _ _).alloc (Nat.le_refl _) _
  refine (same _ _ [5, 7] [5, 7] _ (HOM.out.below hb8a) (ints2 w8 5 7)).mono ?_
  rintro e w9 ⟨rfl, nd2, hw9⟩
  rw [show sameB [5, 7] [5, 7] = true from rfl]
  have bw9 := Lib.hid (show Below w.heap.size w w9 by rw [hw9]; exact Below.quiet (bw8.out.trans (hb8a.mono bw8.out.size)) nd2)
  obtain ⟨i0, hinf, hz0, hz1, hz2⟩ := info_parts info45
  have hmk := run_make (P := Tryd.prog) (w := w9) 22 45 i0 _ Tryd.underlying22 hinf hz0 .i64 .i64 2 2 (by decide) (Int.le_refl _) (by rw [hz2]; decide) (by decide)
  obtain ⟨WM, hWM⟩ : ∃ WM, WM = w9.alloc (.cells (madeCells (Value.agg #[.int .i64 0, .int .i64 0, .int .i64 0, .slice none 0 0]).cells ((2 : Int).toNat * i0.size)) 45) := ⟨_, rfl⟩
  rw [← hWM] at hmk
  have hbM := Lib.hid (show Below w.heap.size w WM by rw [hWM]; exact bw9.out.alloc bw9.out.size _)
  have hCh := check_odd (some ⟨w9.heap.size, 0, none⟩) 2 2 WM (by decide) (by decide) rfl
  clear hw9 hb8a HOM bw8 hWM hinf hz0 hz1 hz2
  go_wp2_with fail
  refine hCh.mono ?_
  rintro e w10 ⟨rfl, hb10⟩
  go_wp2_with fail
  go_ret
  exact ⟨rfl, hbM.out.trans (hb10.mono hbM.out.size)⟩
end Go.Proofs.YtopkanokpfhmmaaDoor
