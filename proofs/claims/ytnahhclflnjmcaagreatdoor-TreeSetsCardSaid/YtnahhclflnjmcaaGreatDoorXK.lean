/- Add, Remove, New, whatever they answer: a tree of the call's own, or none. -/
import Derived.Test.YtnahhclflnjmcaaGreatDoorA7
import Derived.Test.YtnahhclflnjmcaaGreatDoorV1
namespace Go.Proofs.YtnahhclflnjmcaaGreatDoor
open Go Go.RowKit
set_option linter.unusedVariables false
set_option linter.unusedSimpArgs false
set_option maxRecDepth 100000

/-- A tree that is answered: none, or one of the call's own. -/
def TrY (w : World) (B : Nat) (v : Value) (n : Nat) (F : Nat → Node) : Prop := (v = .slice none 0 0 ∧ n = 0) ∨ TrO w B v n F
theorem TrY.trR {w : World} {B n : Nat} {v : Value} {F : Nat → Node} (h : TrY w B v n F) : TrR w v n F := by
  rcases h with ⟨rfl, rfl⟩ | h
  · exact TrR.nil _ _
  · exact h.trR
theorem TrY.below {w w' : World} {B n : Nat} {v : Value} {F : Nat → Node} (h : TrY w B v n F) (hb : Below w.heap.size w w') : TrY w' B v n F := h.imp id fun h => h.below hb
theorem TrY.lower {w : World} {B B' n : Nat} {v : Value} {F : Nat → Node} (hB : B' ≤ B) (h : TrY w B v n F) : TrY w B' v n F := h.imp id fun h => h.lower hB
theorem TrY.slice {w : World} {B n : Nat} {v : Value} {F : Nat → Node} (h : TrY w B v n F) : ∃ A c, v = .slice A n c := by
  obtain ⟨A, c, e, -⟩ := h.trR
  exact ⟨A, c, e⟩
def F0 : Nat → Node := fun _ => zeroN
/-- What an Add comes to: how many nodes, which, the leaf's number. -/
def addRn (n : Nat) (F : Nat → Node) (a : Addx) : Nat := if addE n F a = 0 then 2 * addN n F - 1 else 0
def addRF (n : Nat) (F : Nat → Node) (a : Addx) : Nat → Node := if addE n F a = 0 then addF n F (lg (addN n F)) (fb F (lvs n)) a else F0
def addRat (n : Nat) (F : Nat → Node) (a : Addx) : Int := if addE n F a = 0 then (fb F (lvs n) : Nat) else 0
def remRn (n : Nat) (F : Nat → Node) (m : Int) : Nat := if remE n F m = 0 then 2 ^ (cut (blankF F (lg (lvs n)) (findM F m (sizeM n F)).toNat) (lg (lvs n)) + 1) - 1 else 0
def remRF (n : Nat) (F : Nat → Node) (m : Int) : Nat → Node := if remE n F m = 0 then blankF F (lg (lvs n)) (findM F m (sizeM n F)).toNat else F0
structure AddQ (w : World) (n : Nat) (F : Nat → Node) (a : Addx) (e : Ending) (w' : World) : Prop where
  out : ∃ v', e = .returned (.tuple #[.agg #[v'], .int .i64 (addRat n F a), .int .i64 (addE n F a)]) ∧ TrY w' w.heap.size v' (addRn n F a) (addRF n F a)
  bel : Below w.heap.size w w'
theorem add_q (v : Value) (n : Nat) (F : Nat → Node) (a : Addx) (w : World) (hT : Tab w) (hR : TrR w v n F) (hn : n ≤ 262144) (hwf : (Lit.int .i64 a.mem).wf = true) :
    Calls Tryz.prog 23 #[.agg #[v], a.v] w fun e w' => AddQ w n F a e w' := by
  refine (add13 v n F a w hT hR hn hwf).mono fun e w' h => ?_
  by_cases h0 : addE n F a = 0
  · obtain ⟨⟨v', h1, h2⟩, h3⟩ := h.yes h0
    refine ⟨⟨v', ?_, .inr ?_⟩, h3⟩
    · rw [h1, h0, show addRat n F a = (fb F (lvs n) : Nat) from if_pos h0]
    · rw [show addRn n F a = 2 * addN n F - 1 from if_pos h0, show addRF n F a = addF n F (lg (addN n F)) (fb F (lvs n)) a from if_pos h0]
      exact h2
  · obtain ⟨h1, h3⟩ := h.no h0
    exact ⟨⟨.slice none 0 0, by rw [h1, show addRat n F a = 0 from if_neg h0], .inl ⟨rfl, if_neg h0⟩⟩, h3⟩
structure RemQ (w : World) (n : Nat) (F : Nat → Node) (m : Int) (e : Ending) (w' : World) : Prop where
  out : ∃ v', e = .returned (.tuple #[.agg #[v'], .int .i64 (remE n F m)]) ∧ TrY w' w.heap.size v' (remRn n F m) (remRF n F m)
  bel : Below w.heap.size w w'
theorem remR_eq {n d i : Nat} {F : Nat → Node} {m : Int} (h0 : remE n F m = 0) (hO : Ok d n F) (hfi : findM F m (sizeM n F) = i) : remRn n F m = 2 ^ (cut (blankF F d i) d + 1) - 1 ∧ remRF n F m = blankF F d i := by
  have h1 : lg (lvs n) = d := by rw [hO.lvs]; exact lg_pow hO.hd
  unfold remRn remRF
  rw [if_pos h0, if_pos h0, h1, hfi, Int.toNat_natCast]
  exact ⟨rfl, rfl⟩
theorem rem_q (v : Value) (n : Nat) (F : Nat → Node) (m : Int) (w : World) (hT : Tab w) (hR : TrR w v n F) (hn : n ≤ 262144) :
    Calls Tryz.prog 24 #[.agg #[v], .int .i64 m] w fun e w' => RemQ w n F m e w' := by
  by_cases h0 : remE n F m = 0
  · obtain ⟨d, i, hO, hfi, hid, hip, him, hml, hoth⟩ := rem_facts h0
    refine (rem_yes v n d i F m w hT hR hO hfi hid hml).mono fun e w' h => ?_
    obtain ⟨⟨v', h1, h2⟩, h3⟩ := h
    obtain ⟨e1, e2⟩ := remR_eq h0 hO hfi
    exact ⟨⟨v', by rw [h1, h0], .inr (by rw [e1, e2]; exact h2)⟩, h3⟩
  · refine (rem_no v n F m w hT hR hn h0).mono fun e w' h => ?_
    exact ⟨⟨.slice none 0 0, h.out, .inl ⟨rfl, if_neg h0⟩⟩, h.bel⟩
structure NewQ (w : World) (a : Addx) (e : Ending) (w' : World) : Prop where
  out : ∃ v', e = .returned (.tuple #[.agg #[v'], .int .i64 (addE 0 F0 a)]) ∧ TrY w' w.heap.size v' (addRn 0 F0 a) (addRF 0 F0 a)
  bel : Below w.heap.size w w'
theorem TrY.elsewhere {w : World} {B : Nat} {v : Value} {n : Nat} {F : Nat → Node} (h : TrY w B v n F) {a : Addr} (ha : a.block < B) (u : Value) : TrY (w.setCell a u) B v n F := h.imp id fun h => h.elsewhere ha u
set_option maxHeartbeats 2000000 in
theorem new_q (a : Addx) (w : World) (hT : Tab w) (hwf : (Lit.int .i64 a.mem).wf = true) :
    Calls Tryz.prog 25 #[a.v] w fun e w' => NewQ w a e w' := by
  obtain ⟨WA, hWA⟩ : ∃ WA, WA = ((w.alloc (.cells #[.int .i64 a.mem, .int .i64 a.ep, .int .i64 a.pub] 75)).alloc (.cells #[.slice none 0 0] 24)) := ⟨_, rfl⟩
  have hbA : Below w.heap.size w WA := by rw [hWA]; exact ((Below.refl _ _).alloc (Nat.le_refl _) _).alloc (by simp) _
  have hsA : WA.heap.size = w.heap.size + 2 := by rw [hWA]; simp
  have hadd := add_q (.slice none 0 0) 0 F0 a WA (hT.below hT.pos hbA) (TrR.nil _ _) (by decide) hwf
  have hr0 : WA.cell? ⟨w.heap.size + 1, 0, none⟩ = some (.slice none 0 0) ∧ WA.frozen? ⟨w.heap.size + 1, 0, none⟩ = false ∧ w.heap.size + 1 < WA.heap.size := by
    have := heap_alloc_new (w.alloc (.cells #[.int .i64 a.mem, .int .i64 a.ep, .int .i64 a.pub] 75)) (.cells #[.slice none 0 0] 24)
    rw [show (w.alloc (.cells #[.int .i64 a.mem, .int .i64 a.ep, .int .i64 a.pub] 75)).heap.size = w.heap.size + 1 by simp, ← hWA] at this
    exact ⟨by rw [cell_of_row _ _ _ _ _ _ this]; rfl, frozen_of_row _ _ _ _ _ this, (Array.getElem?_eq_some_iff.1 this).1⟩
  have HA := Lib.hid (And.intro hbA (And.intro hr0 hsA))
  have HYES : Hid (∀ (e : Ending) (w' : World) (v' : Value), e = .returned (.tuple #[.agg #[v'], .int .i64 (addE 0 F0 a)]) → TrY w' w.heap.size v' (addRn 0 F0 a) (addRF 0 F0 a) → Below w.heap.size w w' → NewQ w a e w') := Lib.hid fun e w' v' h1 h2 h3 => ⟨⟨v', h1, h2⟩, h3⟩
  obtain ⟨er, her⟩ : ∃ er, er = addE 0 F0 a := ⟨_, rfl⟩
  rw [← her] at HYES
  have hadd2 : Calls Tryz.prog 23 #[.agg #[.slice none 0 0], a.v] WA fun e w' => ∃ v' at', e = .returned (.tuple #[.agg #[v'], .int .i64 at', .int .i64 er]) ∧ Hid (TrY w' WA.heap.size v' (addRn 0 F0 a) (addRF 0 F0 a)) ∧ Below WA.heap.size WA w' := hadd.mono fun e w' h => by
    obtain ⟨⟨v', h1, h2⟩, h3⟩ := h
    exact ⟨v', addRat 0 F0 a, by rw [h1, her], Lib.hid h2, h3⟩
  clear hadd her
  generalize addRn 0 F0 a = rn at *
  generalize addRF 0 F0 a = rF at *
  obtain ⟨m, e, p⟩ := a
  unfold Addx.v at hadd2 ⊢
  simp only at hWA hadd2 ⊢
  clear hbA hr0 hsA hwf
  go_enter Tryz.func25, Tryz.ntmps25
  go_wp2_with fail
  rw [← hWA]
  refine hadd2.mono ?_
  rintro e' w1 ⟨v', at', rfl, hTR, hb1⟩
  obtain ⟨A', c', hv'⟩ := hTR.out.slice
  obtain ⟨hbA, ⟨r0, rf, rlt⟩, hsA⟩ := HA.out
  have s0 := (hb1.cell (p := ⟨w.heap.size + 1, 0, none⟩) rlt).trans r0
  have sf := (hb1.frozen (p := ⟨w.heap.size + 1, 0, none⟩) rlt).trans rf
  have sl : w.heap.size + 1 < w1.heap.size := World.block_lt_of_cell? _ _ s0
  have HB1 := Lib.hid (hbA.trans (hb1.mono hbA.size))
  subst hv'
  have HAL : Hid (w.heap.size + 1 < WA.heap.size) := Lib.hid rlt
  have HAS : Hid (w.heap.size ≤ WA.heap.size) := Lib.hid (by omega)
  clear hb1 hbA r0 rf rlt hWA HA hadd2
  have q9 : ∀ o u, ((w1.setCell ⟨w.heap.size + 1, 0, none⟩ u).alloc o).cell? ⟨w.heap.size + 1, 0, none⟩ = some u := fun o u => by
    rw [World.cell?_alloc_lt _ _ _ (by simp; exact sl)]
    apply World.cell?_setCell_same
    exact s0
  go_wp2_with fail
  refine bodyPost_ret (by simp [results, Tryz.results25, go_sem, q9]; rfl) rfl (HYES.out _ _ _ rfl ?_ ?_)
  · exact ((hTR.out.elsewhere (a := ⟨w.heap.size + 1, 0, none⟩) HAL.out _).lower HAS.out).below ((Below.refl _ _).alloc (Nat.le_refl _) _)
  · exact (HB1.out.setCell (p := ⟨w.heap.size + 1, 0, none⟩) (by show w.heap.size ≤ w.heap.size + 1; omega) _).alloc (by simp; have := HB1.out.size; omega) _
end Go.Proofs.YtnahhclflnjmcaaGreatDoor
