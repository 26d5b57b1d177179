/- SameNodes, SameTree: of trees that read alike. -/
import Derived.Test.YtnahhclflnjmcaaGreatDoorB1
import Derived.Test.YtnahhclflnjmcaaGreatDoorV1
import Derived.Deep.RegionHeld3
namespace Go.Proofs.YtnahhclflnjmcaaGreatDoor
open Go Go.RowKit
set_option linter.unusedVariables false
set_option linter.unusedSimpArgs false
set_option maxRecDepth 100000

set_option maxHeartbeats 8000000 in
theorem sameNodes (n c c2 : Nat) (A A2 : Option Addr) (F : Nat → Node) (w : World) (hR : TrR w (.slice A n c) n F) (hR2 : TrR w (.slice A2 n c2) n F) (hn : n ≤ 262144) :
    Calls Tryz.prog 163 #[.slice A n c, .slice A2 n c2] w fun e w' => e = .returned (.bool true) ∧ Below w.heap.size w w' := by
  have HR := Lib.hid hR
  have HR2 := Lib.hid hR2
  have hi1 : (0 : Int) ≤ (n : Int) := by omega
  clear hR hR2
  go_enter Tryz.func163, Tryz.ntmps163
  go_wp2_with fail
  go_loopg [13] (n + 1) (fun g v13 wr => ∃ i : Nat, i ≤ n ∧ i + g = n + 1 ∧ v13 = .int .i64 (i : Int) ∧ Below w.heap.size w wr)
  case atStart => exact ⟨0, by omega, by omega, rfl, Below.refl _ _⟩
  case round =>
    obtain ⟨i, hi, hg, rfl, hB⟩ := hrel
    have HG := Lib.hid (And.intro hg hB)
    clear hg
    by_cases hlt : i < n
    · obtain ⟨bA, oA, rfl, hN⟩ := (HR.out.below hB).at' hlt
      obtain ⟨bB, oB, rfl, hN2⟩ := (HR2.out.below hB).at' hlt
      obtain ⟨y0, y1, y2, ⟨Au, cu, y3, hI⟩, -⟩ := hN
      obtain ⟨x0, x1, x2, ⟨Bu, du, x3, hJ⟩, -⟩ := hN2
      have hsame : ∀ W, Below wr.heap.size wr W → Calls Tryz.prog 255 #[.agg #[.int .i64 (F i).pub, .int .i64 (F i).mem, .int .i64 (F i).ep, .slice Au (F i).un.length cu], .agg #[.int .i64 (F i).pub, .int .i64 (F i).mem, .int .i64 (F i).ep, .slice Bu (F i).un.length du]] W
          fun e w' => e = .returned (.bool true) ∧ Below W.heap.size W w' := fun W hW => by
        have := same21 (F i) (F i) Au Bu cu du W (hI.below hW) (hJ.below hW)
        rw [sameN_self] at this
        exact this
      have hbl := World.block_lt_of_cell? _ _ y0
      have hbt := World.block_lt_of_cell? _ _ x0
      have i1 : (0 : Int) ≤ (i : Int) := by omega
      have i2 : (i : Int) < (n : Int) := by omega
      have HL := Lib.hid hlt
      generalize (F i).pub = p at *
      generalize (F i).mem = m at *
      generalize (F i).ep = ep at *
      generalize (F i).un.length = ul at *
      have hHeld : wr.cell? ⟨bA, oA + i * 4, none⟩ = some (.int .i64 p) ∧ wr.cell? ⟨bA, oA + i * 4 + 1, none⟩ = some (.int .i64 m) ∧ wr.cell? ⟨bA, oA + i * 4 + 2, none⟩ = some (.int .i64 ep) ∧ wr.cell? ⟨bA, oA + i * 4 + 3, none⟩ = some (.slice Au ul cu) ∧ wr.cell? ⟨bB, oB + i * 4, none⟩ = some (.int .i64 p) ∧ wr.cell? ⟨bB, oB + i * 4 + 1, none⟩ = some (.int .i64 m) ∧ wr.cell? ⟨bB, oB + i * 4 + 2, none⟩ = some (.int .i64 ep) ∧ wr.cell? ⟨bB, oB + i * 4 + 3, none⟩ = some (.slice Bu ul du) ∧ Below wr.heap.size wr wr := ⟨y0, y1, y2, y3, x0, x1, x2, x3, Below.refl _ _⟩
      clear hB x0 x1 x2 x3 y0 y1 y2 y3 hI hJ hlt
      go_wp2_with fail
      go_region_held3 (fun w' => w'.cell? ⟨bA, oA + i * 4, none⟩ = some (.int .i64 p) ∧ w'.cell? ⟨bA, oA + i * 4 + 1, none⟩ = some (.int .i64 m) ∧ w'.cell? ⟨bA, oA + i * 4 + 2, none⟩ = some (.int .i64 ep) ∧ w'.cell? ⟨bA, oA + i * 4 + 3, none⟩ = some (.slice Au ul cu) ∧ w'.cell? ⟨bB, oB + i * 4, none⟩ = some (.int .i64 p) ∧ w'.cell? ⟨bB, oB + i * 4 + 1, none⟩ = some (.int .i64 m) ∧ w'.cell? ⟨bB, oB + i * 4 + 2, none⟩ = some (.int .i64 ep) ∧ w'.cell? ⟨bB, oB + i * 4 + 3, none⟩ = some (.slice Bu ul du) ∧ Below wr.heap.size wr w')
        (first | assumption | exact held8_drew (by assumption) | exact held8_call (by assumption) (by assumption)) (first
        | (go_at_call 255; with_reducible refine (hsame _ (held8_mid (by assumption))).mono ?_; rintro e' wz ⟨rfl, hbz⟩))
      clear hsame
      go_wp2_with fail
      go_roundg (gk - 1)
      case measure => have := HG.out.1; omega
      case rel => exact ⟨i + 1, by have := HL.out; omega, by have := HG.out.1; omega, by go_num, HG.out.2.drew.trans (hbz.mono HG.out.2.drew.size)⟩
    · obtain rfl : i = n := by omega
      clear hlt hi hB
      go_wp2_with fail
      go_ret
      exact ⟨rfl, HG.out.2⟩
set_option maxHeartbeats 2000000 in
theorem sameTree (n : Nat) (v v2 : Value) (F : Nat → Node) (w : World) (hR : TrR w v n F) (hR2 : TrR w v2 n F) (hn : n ≤ 262144) :
    Calls Tryz.prog 29 #[.agg #[v], .agg #[v2]] w fun e w' => e = .returned (.bool true) ∧ Below w.heap.size w w' := by
  obtain ⟨A, c, rfl, -, -, -⟩ := id hR
  obtain ⟨A2, c2, rfl, -, -, -⟩ := id hR2
  have hbw : Below w.heap.size w ((w.alloc (.cells #[.slice A n c] 24)).alloc (.cells #[.slice A2 n c2] 24)) := ((Below.refl _ _).alloc (Nat.le_refl _) _).alloc (by simp) _
  have M := sameNodes n c c2 A A2 F _ (hR.below hbw) (hR2.below hbw) hn
  have HB := Lib.hid hbw
  clear hbw hR hR2
  go_enter Tryz.func29, Tryz.ntmps29
  go_wp2_with fail
  refine M.mono ?_
  rintro e w' ⟨rfl, hb⟩
  have hB := HB.out.trans (hb.mono HB.out.size)
  go_wp2_with fail
  go_ret
  exact ⟨rfl, hB⟩
end Go.Proofs.YtnahhclflnjmcaaGreatDoor
