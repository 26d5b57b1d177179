/- TreeTurns: the walk. -/
import Derived.Test.YtnahhclflnjmcaaGreatDoorXI
import Derived.Test.YtnahhclflnjmcaaGreatDoorXT
import Derived.Test.YtnahhclflnjmcaaGreatDoorXG
import Derived.Test.YtnahhclflnjmcaaGreatDoorB1
import Derived.Test.YtnahhclflnjmcaaGreatDoorA7
import Derived.Test.YtnahhclflnjmcaaGreatDoorK2
import Derived.Deep.DeepCutAuto
import Derived.Deep.RegionWith
namespace Go.Proofs.YtnahhclflnjmcaaGreatDoor
open Go Go.RowKit Go.Proofs.YtnahhclflnjmcaaGreatDoor.Bk
set_option linter.unusedVariables false
set_option linter.unusedSimpArgs false
set_option maxRecDepth 100000

/-- Boxes and what they hold. -/
def Cl (W : World) (l : List (Addr × Value)) : Prop := ∀ x ∈ l, W.cell? x.1 = some x.2
theorem Cl.below {W W' : World} {l : List (Addr × Value)} (h : Cl W l) (hb : Below W.heap.size W W') : Cl W' l := fun x hx => (hb.cell (World.block_lt_of_cell? _ _ (h x hx))).trans (h x hx)
theorem Cl.box {W : World} {l : List (Addr × Value)} (h : Cl W l) (v : Value) (t : TypeId) : Cl (W.alloc (.cells #[v] t)) ((⟨W.heap.size, 0, none⟩, v) :: l) := fun x hx => by
  rcases List.mem_cons.1 hx with rfl | hx
  · exact cell_one_new W v t 0 _ rfl
  · exact (h.below ((Below.refl _ _).alloc (Nat.le_refl _) _)) x hx
theorem _root_.Go.Proofs.YtnahhclflnjmcaaGreatDoor.Bk.TrB.under {w w' : World} {s t : Nat} {v : Value} {n L : Nat} (h : TrB w s t v n L) (hb : Below w.heap.size w w') : TrB w' s t v n L := h.keep (Chg.of_below hb)
theorem startM2 {w W0 : World} {B bb L s : Nat} {z : Array Value} (hx : W0.heap[bb]? = some (.cells z 70 (0, 0))) (hz : z.size = 35) (h0 : z[0]? = some (.int .i64 0)) (hn : ∀ j, 1 ≤ j → j < 35 → z[j]? = some (.slice none 0 0)) (hB : B ≤ bb) (hlo : B ≤ w.heap.size) (hb : Below B w W0) :
    StM ksOf2 70 w W0 B bb (fun _ => L) (fun _ => 0) 0 (fun b => b < s ∨ bb ≤ b) :=
  ⟨⟨z, 0, fun _ => .slice none 0 0, fun _ => [], fun _ _ => False, hx, h0, by omega, hz, hn, fun j _ => rfl, fun j K _ => Bk.HL.nil _ _ _ _ _ _, fun i j b _ h => h.elim, fun j h => h, fun j b h => h.elim, fun j b h => h.elim, fun j => Nat.le_refl _⟩, hB, hlo, hb⟩
/-- One more tree is kept. -/
theorem keepT {w0 w : World} {B bb L N s0 s t n : Nat} {v : Value} (h : StM ksOf2 70 w0 w B bb (fun _ => L) (fun _ => 0) N (fun b => b < s0 ∨ bb ≤ b)) (hs : s0 ≤ s) (hN : N + n ≤ 1000000) (hBs : B ≤ s) (hst : s ≤ t) (ht : t ≤ bb) (hT : TrB w s t v n L) (hnL : n ≤ L) :
    Calls Tryz.prog 30 #[.pointer (some ⟨bb, 0, none⟩), .agg #[v]] w fun e w' => e = .returned (.tuple #[]) ∧ NodesP w0 w B bb L (N + n + 1) t w' :=
  tree2 (h.weak (Nat.le_refl _) fun b hb _ => by rcases hb with hb | hb <;> omega) hN hBs hst ht hT hnL
theorem _root_.Go.Proofs.YtnahhclflnjmcaaGreatDoor.Bk.NodesP.tree {w0 w w' : World} {B bb L N t s t2 n L2 : Nat} {v : Value} (h : NodesP w0 w B bb L N t w') (hs : t ≤ s) (ht : t2 ≤ bb) (hT : TrB w s t2 v n L2) : TrB w' s t2 v n L2 :=
  hT.keep (h.chg.mono fun b _ hb => by rcases hb with hb | hb <;> omega)
theorem _root_.Go.Proofs.YtnahhclflnjmcaaGreatDoor.Bk.NodesP.box {w0 w w' : World} {B bb L N t g : Nat} {v : Value} (h : NodesP w0 w B bb L N t w') (hs : t ≤ g) (ht : g < bb) (hc : w.cell? ⟨g, 0, none⟩ = some v) : w'.cell? ⟨g, 0, none⟩ = some v :=
  (World.cell?_of_block (a := ⟨g, 0, none⟩) (h.chg.block g (World.block_lt_of_cell? _ _ hc) (by omega))).trans hc
/-- What the six calls answer. -/
theorem turns_say (n : Nat) (F : Nat → Node) (a : Addx) (m : Int) (hn : n ≤ 262144) (hun : ∀ y, y < n → (F y).un.length ≤ 1000000) (hwf : (Lit.int .i64 a.mem).wf = true) :
    ∃ (nX nY nZ : Nat) (FX FY FZ : Nat → Node) (at1 e1 e2 e3 : Int), (nX ≤ 15 ∧ nY ≤ 15 ∧ nZ ≤ 15 ∧ (∀ y, y < nX → (FX y).un.length ≤ 8) ∧ (∀ y, y < nY → (FY y).un.length ≤ 8) ∧ (∀ y, y < nZ → (FZ y).un.length ≤ 8)) ∧
      (∀ W v, Tab W → TrR W v n F → Calls Tryz.prog 23 #[.agg #[v], a.v] W fun e w' => ∃ v', e = .returned (.tuple #[.agg #[v'], .int .i64 at1, .int .i64 e1]) ∧ TrY w' W.heap.size v' nX FX ∧ Below W.heap.size W w') ∧
      (∀ W v, Tab W → TrR W v n F → Calls Tryz.prog 24 #[.agg #[v], .int .i64 m] W fun e w' => ∃ v', e = .returned (.tuple #[.agg #[v'], .int .i64 e2]) ∧ TrY w' W.heap.size v' nY FY ∧ Below W.heap.size W w') ∧
      (∀ W, Tab W → Calls Tryz.prog 25 #[a.v] W fun e w' => ∃ v', e = .returned (.tuple #[.agg #[v'], .int .i64 e3]) ∧ TrY w' W.heap.size v' nZ FZ ∧ Below W.heap.size W w') ∧
      (∀ W v, TrR W v n F → Calls Tryz.prog 26 #[.agg #[v], a.v] W fun e w' => ∃ v', e = .returned (.tuple #[.agg #[v'], .int .i64 at1, .int .i64 e1]) ∧ TrR w' v' nX FX ∧ Below W.heap.size W w') ∧
      (∀ W v, TrR W v n F → Calls Tryz.prog 27 #[.agg #[v], .int .i64 m] W fun e w' => ∃ v', e = .returned (.tuple #[.agg #[v'], .int .i64 e2]) ∧ TrR w' v' nY FY ∧ Below W.heap.size W w') ∧
      (∀ W, Calls Tryz.prog 28 #[a.v] W fun e w' => ∃ v', e = .returned (.tuple #[.agg #[v'], .int .i64 e3]) ∧ TrR w' v' nZ FZ ∧ Below W.heap.size W w') := by
  refine ⟨addRn n F a, remRn n F m, addRn 0 F0 a, addRF n F a, remRF n F m, addRF 0 F0 a, addRat n F a, addE n F a, remE n F m, addE 0 F0 a,
    ⟨(addR_len n F a).1, (remR_len n F m).1, (addR_len 0 F0 a).1, (addR_len n F a).2, (remR_len n F m).2, (addR_len 0 F0 a).2⟩, fun W v hT hR => ?_, fun W v hT hR => ?_, fun W hT => ?_, fun W v hR => ?_, fun W v hR => ?_, fun W => ?_⟩
  · exact (add_q v n F a W hT hR hn hwf).mono fun e w' h => by obtain ⟨⟨v', h1, h2⟩, h3⟩ := h; exact ⟨v', h1, h2, h3⟩
  · exact (rem_q v n F m W hT hR hn).mono fun e w' h => by obtain ⟨⟨v', h1, h2⟩, h3⟩ := h; exact ⟨v', h1, h2, h3⟩
  · exact (new_q a W hT hwf).mono fun e w' h => by obtain ⟨⟨v', h1, h2⟩, h3⟩ := h; exact ⟨v', h1, h2, h3⟩
  · exact (radd_q v n F a W hR hn hun hwf).mono fun e w' h => by obtain ⟨⟨v', h1, h2⟩, h3⟩ := h; exact ⟨v', h1, h2, h3⟩
  · exact (rrem_q v n F m W hR hun).mono fun e w' h => by obtain ⟨⟨v', h1, h2⟩, h3⟩ := h; exact ⟨v', h1, h2, h3⟩
  · exact (rnew_q a W hwf).mono fun e w' h => by obtain ⟨⟨v', h1, h2⟩, h3⟩ := h; exact ⟨v', h1, h2, h3⟩
theorem TrR.wf {w : World} {v : Value} {n : Nat} {F : Nat → Node} (h : TrR w v n F) : ∀ y, y < n → (Lit.int .i64 (F y).mem).wf = true := fun y hy => by
  obtain ⟨A, c, rfl, _, _, h3⟩ := h
  obtain ⟨b, o, _, h4⟩ := h3 (by omega)
  exact (h4 y hy).r1
set_option maxHeartbeats 16000000 in
theorem turns (v : Value) (n : Nat) (F : Nat → Node) (a : Addx) (m0 : Int) (w : World) (hT : Tab w) (hR : TrR w v n F) (hub : ∀ y, y < n → (F y).un.length ≤ 17592186044416) (hwa : (Lit.int .i64 a.mem).wf = true) (hwm : (Lit.int .i64 m0).wf = true) :
    Calls Tryz.prog 4 #[.agg #[v], a.v, .int .i64 m0] w fun e w' => e = .returned (.bool true) ∧ Below w.heap.size w w' := by
  have hpos := hT.pos
  have HT := Lib.hid hT
  clear hwm
  have HUB := Lib.hid hub
  have HWA := Lib.hid hwa
  have HWF := Lib.hid hR.wf
  obtain ⟨A, c, rfl, -, -, -⟩ := id hR
  obtain ⟨m, e, p⟩ := a
  have hav : (Addx.mk m e p).v = .agg #[.int .i64 m, .int .i64 e, .int .i64 p] := rfl
  rw [hav]
  obtain ⟨W0, hW0⟩ : ∃ W0, W0 = (w.alloc (.cells #[.slice A n c] 24)).alloc (.cells #[.int .i64 m, .int .i64 e, .int .i64 p] 75) := ⟨_, rfl⟩
  have hb0 : Below w.heap.size w W0 := by rw [hW0]; exact ((Below.refl _ _).alloc (Nat.le_refl _) _).alloc (by simp) _
  have h0 : W0.heap[w.heap.size]? = some (.cells #[.slice A n c] 24 (0, 0)) := by
    rw [hW0, Below.heap_alloc _ _ _ (by simp)]
    exact heap_alloc_new _ _
  have h1 : W0.heap[w.heap.size + 1]? = some (.cells #[.int .i64 m, .int .i64 e, .int .i64 p] 75 (0, 0)) := by
    rw [hW0]
    have := heap_alloc_new (w.alloc (.cells #[.slice A n c] 24)) (.cells #[.int .i64 m, .int .i64 e, .int .i64 p] 75)
    rw [show (w.alloc (.cells #[.slice A n c] 24)).heap.size = w.heap.size + 1 by simp] at this
    exact this
  have C0 : Hid (Cl W0 [(⟨w.heap.size, 0, none⟩, .slice A n c), (⟨w.heap.size + 1, 0, none⟩, .int .i64 m), (⟨w.heap.size + 1, 1, none⟩, .int .i64 e), (⟨w.heap.size + 1, 2, none⟩, .int .i64 p)]) := Lib.hid fun x hx => by
    simp only [List.mem_cons, List.not_mem_nil, or_false] at hx
    rcases hx with rfl | rfl | rfl | rfl
    · exact (cell_of_row _ _ _ _ _ _ h0).trans rfl
    · exact (cell_of_row _ _ _ _ _ _ h1).trans rfl
    · exact (cell_of_row _ _ _ _ _ _ h1).trans rfl
    · exact (cell_of_row _ _ _ _ _ _ h1).trans rfl
  have R0 := Lib.hid (hR.below hb0)
  have B0 := Lib.hid hb0
  have M0 := size9u (.slice A n c) n F W0 R0.out HUB.out
  clear hR hub hwa h0 h1 hb0
  go_enter Tryz.func4, Tryz.ntmps4
  go_wp2_with fail
  rw [← hW0]
  clear hW0
  refine M0.mono ?_
  rintro e' w1 ⟨s, rfl, hs, hb1⟩
  have HS := Lib.hid hs
  have C1 := Lib.hid (C0.out.below hb1)
  have R1 := Lib.hid (R0.out.below hb1)
  have B1 := Lib.hid (B0.out.trans (hb1.mono B0.out.size))
  clear hs hb1 HUB M0 C0 R0 B0
  go_wp2_with fail
  refine (beyond8 w1.heap.size 0 s _ (cell_one_new w1 (.int .i64 s) 3 0 _ rfl)).mono ?_
  rintro e' w2 ⟨rfl, rfl⟩
  obtain ⟨W2, hW2⟩ : ∃ W2, W2 = w1.alloc (.cells #[.int .i64 s] 3) := ⟨_, rfl⟩
  have hz : Below w1.heap.size w1 W2 := by rw [hW2]; exact (Below.refl _ _).alloc (Nat.le_refl _) _
  rw [← hW2]
  have C2 := Lib.hid (C1.out.below hz)
  have R2 := Lib.hid (R1.out.below hz)
  have B2 := Lib.hid (B1.out.trans (hz.mono B1.out.size))
  clear hW2 hz C1 R1 B1
  cases hbd : (decide (s < 0) || decide (262144 < s)) with
  | true =>
    clear HS hbd
    go_wp2_with fail
    go_ret
    exact ⟨rfl, B2.out⟩
  | false =>
    obtain ⟨hn, hu⟩ := HS.out (by simp at hbd; omega)
    have HU := Lib.hid (fun y hy => Nat.le_trans (hu y hy) (by decide : 262144 ≤ 1000000))
    obtain ⟨nX, nY, nZ, FX, FY, FZ, at1, e1, e2, e3, hbnd, kA, kR, kN, rA, rR, rN⟩ := turns_say n F ⟨m, e, p⟩ m0 hn HU.out HWA.out
    rw [hav] at kA kN rA rN
    have KA := Lib.hid kA
    have KR := Lib.hid kR
    have KN := Lib.hid kN
    have RA := Lib.hid rA
    have RR := Lib.hid rR
    have RN := Lib.hid rN
    have HBND := Lib.hid hbnd
    have hn2 : n ≤ 262144 := hn
    clear HS hbd hu kA kR kN rA rR rN hav hbnd
    have x0 : W2.cell? ⟨w.heap.size, 0, none⟩ = some (.slice A n c) := C2.out _ ((.head _))
    have l0 := World.block_lt_of_cell? _ _ x0
    go_wp2_with fail
    refine (twinTree (.slice A n c) n F W2 R2.out hn2 HU.out).mono ?_
    rintro e' w3x ⟨rfl, hit, hb⟩
    obtain ⟨ub, hTw⟩ := hit
    obtain ⟨b, hbb⟩ : ∃ b, b = W2.heap.size + 2 := ⟨_, rfl⟩
    rw [← hbb] at hTw ⊢
    have hwb : w.heap.size ≤ b := by have := B2.out.size; omega
    clear x0 l0 hbb
    go_upto_region 4 with fail
    obtain ⟨W3, hW⟩ : ∃ W, W = w3x.alloc (.cells #[.slice (some ⟨b, 0, none⟩) n (n + 2)] 24) := ⟨_, rfl⟩
    have hq : Below w3x.heap.size w3x W3 := by rw [hW]; exact (Below.refl _ _).alloc (Nat.le_refl _) _
    have hz : Below W2.heap.size W2 W3 := hb.trans (hq.mono hb.size)
    have hC := (C2.out.below hb).box (.slice (some ⟨b, 0, none⟩) n (n + 2)) 24
    rw [← hW] at hC ⊢
    have TB3 := Lib.hid ((hTw.trB (t := w3x.heap.size) (L := 1000000) (Nat.le_refl _) hn2 HU.out (Nat.le_refl _)).under hq)
    have TI3 := Lib.hid (hTw.below hq)
    have TR3 := Lib.hid ((hTw.below hq).trR hn2 HU.out HWF.out)
    have O3 : Hid (w.heap.size ≤ b ∧ b ≤ w3x.heap.size ∧ w3x.heap.size < W3.heap.size) := Lib.hid ⟨hwb, by have := hTw.row.lt; omega, by rw [hW]; simp⟩
    have R3 := Lib.hid (R2.out.below hz)
    have B3 := Lib.hid (B2.out.trans (hz.mono B2.out.size))
    obtain ⟨s3, hs⟩ : ∃ s, s = w3x.heap.size := ⟨_, rfl⟩
    rw [← hs] at hC O3 TB3 ⊢
    have C3 := Lib.hid hC
    clear hW hs hq hz hC hb hTw hwb C2 B2 R2
    have x0 : W3.cell? ⟨s3, 0, none⟩ = some (.slice (some ⟨b, 0, none⟩) n (n + 2)) := C3.out _ ((.head _))
    have x1 : W3.cell? ⟨w.heap.size + 1, 0, none⟩ = some (.int .i64 m) := C3.out _ ((.tail _ (.tail _ (.head _))))
    have x2 : W3.cell? ⟨w.heap.size + 1, 1, none⟩ = some (.int .i64 e) := C3.out _ ((.tail _ (.tail _ (.tail _ (.head _)))))
    have x3 : W3.cell? ⟨w.heap.size + 1, 2, none⟩ = some (.int .i64 p) := C3.out _ ((.tail _ (.tail _ (.tail _ (.tail _ (.head _))))))
    have l0 := World.block_lt_of_cell? _ _ x0
    have l1 := World.block_lt_of_cell? _ _ x1
    have l2 := World.block_lt_of_cell? _ _ x2
    have l3 := World.block_lt_of_cell? _ _ x3
    go_wp2_with fail
    refine (KA.out W3 _ (HT.out.below hpos B3.out) TR3.out).mono ?_
    rintro e' w4x ⟨v', rfl, hY, hb⟩
    obtain ⟨A4, c4, rfl⟩ := hY.slice
    clear x0 l0 x1 l1 x2 l2 x3 l3
    go_upto_region 5 with fail
    obtain ⟨W4, hW⟩ : ∃ W, W = w4x.alloc (.cells #[.slice A4 nX c4] 24) := ⟨_, rfl⟩
    have hq : Below w4x.heap.size w4x W4 := by rw [hW]; exact (Below.refl _ _).alloc (Nat.le_refl _) _
    have hz : Below W3.heap.size W3 W4 := hb.trans (hq.mono hb.size)
    have hC := (C3.out.below hb).box (.slice A4 nX c4) 24
    rw [← hW] at hC ⊢
    have O4 : Hid (W3.heap.size ≤ w4x.heap.size ∧ w4x.heap.size < W4.heap.size) := Lib.hid ⟨hb.size, by rw [hW]; simp⟩
    have R4 := Lib.hid (R3.out.below hz)
    have TI4 := Lib.hid (TI3.out.below hz)
    have TR4 := Lib.hid (TR3.out.below hz)
    have TB4 := Lib.hid (TB3.out.under hz)
    have XR4 := Lib.hid (hY.trR.below hq)
    have XB4 := Lib.hid ((hY.trB (t := w4x.heap.size) (L := 1000000) (Nat.le_refl _) (fun y hy => Nat.le_trans (HBND.out.2.2.2.1 y hy) (by decide))).under hq)
    have B4 := Lib.hid (B3.out.trans (hz.mono B3.out.size))
    obtain ⟨s4, hs⟩ : ∃ s, s = w4x.heap.size := ⟨_, rfl⟩
    rw [← hs] at hC O4 ⊢
    rw [← hs] at XB4
    have C4 := Lib.hid hC
    clear hW hs hq hz hC hb hY C3 B3 R3 TI3 TR3 TB3
    have x0 : W4.cell? ⟨s3, 0, none⟩ = some (.slice (some ⟨b, 0, none⟩) n (n + 2)) := C4.out _ ((.tail _ (.head _)))
    have l0 := World.block_lt_of_cell? _ _ x0
    go_wp2_with fail
    refine (KR.out W4 _ (HT.out.below hpos B4.out) TR4.out).mono ?_
    rintro e' w5x ⟨v', rfl, hY, hb⟩
    obtain ⟨A5, c5, rfl⟩ := hY.slice
    clear x0 l0
    go_upto_region 6 with fail
    obtain ⟨W5, hW⟩ : ∃ W, W = w5x.alloc (.cells #[.slice A5 nY c5] 24) := ⟨_, rfl⟩
    have hq : Below w5x.heap.size w5x W5 := by rw [hW]; exact (Below.refl _ _).alloc (Nat.le_refl _) _
    have hz : Below W4.heap.size W4 W5 := hb.trans (hq.mono hb.size)
    have hC := (C4.out.below hb).box (.slice A5 nY c5) 24
    rw [← hW] at hC ⊢
    have O5 : Hid (W4.heap.size ≤ w5x.heap.size ∧ w5x.heap.size < W5.heap.size) := Lib.hid ⟨hb.size, by rw [hW]; simp⟩
    have R5 := Lib.hid (R4.out.below hz)
    have TI5 := Lib.hid (TI4.out.below hz)
    have TR5 := Lib.hid (TR4.out.below hz)
    have TB5 := Lib.hid (TB4.out.under hz)
    have XR5 := Lib.hid (XR4.out.below hz)
    have XB5 := Lib.hid (XB4.out.under hz)
    have YR5 := Lib.hid (hY.trR.below hq)
    have YB5 := Lib.hid ((hY.trB (t := w5x.heap.size) (L := 1000000) (Nat.le_refl _) (fun y hy => Nat.le_trans (HBND.out.2.2.2.2.1 y hy) (by decide))).under hq)
    have B5 := Lib.hid (B4.out.trans (hz.mono B4.out.size))
    obtain ⟨s5, hs⟩ : ∃ s, s = w5x.heap.size := ⟨_, rfl⟩
    rw [← hs] at hC O5 ⊢
    rw [← hs] at YB5
    have C5 := Lib.hid hC
    clear hW hs hq hz hC hb hY C4 B4 R4 TI4 TR4 TB4 XR4 XB4
    have x0 : W5.cell? ⟨w.heap.size + 1, 0, none⟩ = some (.int .i64 m) := C5.out _ ((.tail _ (.tail _ (.tail _ (.tail _ (.head _))))))
    have x1 : W5.cell? ⟨w.heap.size + 1, 1, none⟩ = some (.int .i64 e) := C5.out _ ((.tail _ (.tail _ (.tail _ (.tail _ (.tail _ (.head _)))))))
    have x2 : W5.cell? ⟨w.heap.size + 1, 2, none⟩ = some (.int .i64 p) := C5.out _ ((.tail _ (.tail _ (.tail _ (.tail _ (.tail _ (.tail _ (.head _))))))))
    have l0 := World.block_lt_of_cell? _ _ x0
    have l1 := World.block_lt_of_cell? _ _ x1
    have l2 := World.block_lt_of_cell? _ _ x2
    go_wp2_with fail
    refine (KN.out W5 (HT.out.below hpos B5.out)).mono ?_
    rintro e' w6x ⟨v', rfl, hY, hb⟩
    obtain ⟨A6, c6, rfl⟩ := hY.slice
    clear x0 l0 x1 l1 x2 l2
    go_upto_region 7 with fail
    obtain ⟨W6, hW⟩ : ∃ W, W = w6x.alloc (.cells #[.slice A6 nZ c6] 24) := ⟨_, rfl⟩
    have hq : Below w6x.heap.size w6x W6 := by rw [hW]; exact (Below.refl _ _).alloc (Nat.le_refl _) _
    have hz : Below W5.heap.size W5 W6 := hb.trans (hq.mono hb.size)
    have hC := (C5.out.below hb).box (.slice A6 nZ c6) 24
    rw [← hW] at hC ⊢
    have O6 : Hid (W5.heap.size ≤ w6x.heap.size ∧ w6x.heap.size < W6.heap.size) := Lib.hid ⟨hb.size, by rw [hW]; simp⟩
    have R6 := Lib.hid (R5.out.below hz)
    have TI6 := Lib.hid (TI5.out.below hz)
    have TR6 := Lib.hid (TR5.out.below hz)
    have TB6 := Lib.hid (TB5.out.under hz)
    have XR6 := Lib.hid (XR5.out.below hz)
    have XB6 := Lib.hid (XB5.out.under hz)
    have YR6 := Lib.hid (YR5.out.below hz)
    have YB6 := Lib.hid (YB5.out.under hz)
    have ZR6 := Lib.hid (hY.trR.below hq)
    have ZB6 := Lib.hid ((hY.trB (t := w6x.heap.size) (L := 1000000) (Nat.le_refl _) (fun y hy => Nat.le_trans (HBND.out.2.2.2.2.2 y hy) (by decide))).under hq)
    have B6 := Lib.hid (B5.out.trans (hz.mono B5.out.size))
    obtain ⟨s6, hs⟩ : ∃ s, s = w6x.heap.size := ⟨_, rfl⟩
    rw [← hs] at hC O6 ⊢
    rw [← hs] at ZB6
    have C6 := Lib.hid hC
    clear hW hs hq hz hC hb hY C5 B5 R5 TI5 TR5 TB5 XR5 XB5 YR5 YB5
    have x0 : W6.cell? ⟨w.heap.size, 0, none⟩ = some (.slice A n c) := C6.out _ ((.tail _ (.tail _ (.tail _ (.tail _ (.head _))))))
    have x1 : W6.cell? ⟨w.heap.size + 1, 0, none⟩ = some (.int .i64 m) := C6.out _ ((.tail _ (.tail _ (.tail _ (.tail _ (.tail _ (.head _)))))))
    have x2 : W6.cell? ⟨w.heap.size + 1, 1, none⟩ = some (.int .i64 e) := C6.out _ ((.tail _ (.tail _ (.tail _ (.tail _ (.tail _ (.tail _ (.head _))))))))
    have x3 : W6.cell? ⟨w.heap.size + 1, 2, none⟩ = some (.int .i64 p) := C6.out _ ((.tail _ (.tail _ (.tail _ (.tail _ (.tail _ (.tail _ (.tail _ (.head _)))))))))
    have l0 := World.block_lt_of_cell? _ _ x0
    have l1 := World.block_lt_of_cell? _ _ x1
    have l2 := World.block_lt_of_cell? _ _ x2
    have l3 := World.block_lt_of_cell? _ _ x3
    go_wp2_with fail
    refine (RA.out W6 _ R6.out).mono ?_
    rintro e' w7x ⟨v', rfl, hY, hb⟩
    obtain ⟨A7, c7, rfl, -, -, -⟩ := id hY
    clear x0 l0 x1 l1 x2 l2 x3 l3
    go_upto_region 8 with fail
    obtain ⟨W7, hW⟩ : ∃ W, W = w7x.alloc (.cells #[.slice A7 nX c7] 24) := ⟨_, rfl⟩
    have hq : Below w7x.heap.size w7x W7 := by rw [hW]; exact (Below.refl _ _).alloc (Nat.le_refl _) _
    have hz : Below W6.heap.size W6 W7 := hb.trans (hq.mono hb.size)
    have hC := (C6.out.below hb).box (.slice A7 nX c7) 24
    rw [← hW] at hC ⊢
    have O7 : Hid (W6.heap.size ≤ w7x.heap.size ∧ w7x.heap.size < W7.heap.size) := Lib.hid ⟨hb.size, by rw [hW]; simp⟩
    have R7 := Lib.hid (R6.out.below hz)
    have TI7 := Lib.hid (TI6.out.below hz)
    have TR7 := Lib.hid (TR6.out.below hz)
    have TB7 := Lib.hid (TB6.out.under hz)
    have XR7 := Lib.hid (XR6.out.below hz)
    have XB7 := Lib.hid (XB6.out.under hz)
    have YR7 := Lib.hid (YR6.out.below hz)
    have YB7 := Lib.hid (YB6.out.under hz)
    have ZR7 := Lib.hid (ZR6.out.below hz)
    have ZB7 := Lib.hid (ZB6.out.under hz)
    have XQ7 := Lib.hid (TrR.below hY hq)
    have B7 := Lib.hid (B6.out.trans (hz.mono B6.out.size))
    obtain ⟨s7, hs⟩ : ∃ s, s = w7x.heap.size := ⟨_, rfl⟩
    rw [← hs] at hC O7 ⊢
    have C7 := Lib.hid hC
    clear hW hs hq hz hC hb hY C6 B6 R6 TI6 TR6 TB6 XR6 XB6 YR6 YB6 ZR6 ZB6
    have x0 : W7.cell? ⟨w.heap.size, 0, none⟩ = some (.slice A n c) := C7.out _ ((.tail _ (.tail _ (.tail _ (.tail _ (.tail _ (.head _)))))))
    have l0 := World.block_lt_of_cell? _ _ x0
    go_wp2_with fail
    refine (RR.out W7 _ R7.out).mono ?_
    rintro e' w8x ⟨v', rfl, hY, hb⟩
    obtain ⟨A8, c8, rfl, -, -, -⟩ := id hY
    clear x0 l0
    go_upto_region 9 with fail
    obtain ⟨W8, hW⟩ : ∃ W, W = w8x.alloc (.cells #[.slice A8 nY c8] 24) := ⟨_, rfl⟩
    have hq : Below w8x.heap.size w8x W8 := by rw [hW]; exact (Below.refl _ _).alloc (Nat.le_refl _) _
    have hz : Below W7.heap.size W7 W8 := hb.trans (hq.mono hb.size)
    have hC := (C7.out.below hb).box (.slice A8 nY c8) 24
    rw [← hW] at hC ⊢
    have O8 : Hid (W7.heap.size ≤ w8x.heap.size ∧ w8x.heap.size < W8.heap.size) := Lib.hid ⟨hb.size, by rw [hW]; simp⟩
    have R8 := Lib.hid (R7.out.below hz)
    have TI8 := Lib.hid (TI7.out.below hz)
    have TR8 := Lib.hid (TR7.out.below hz)
    have TB8 := Lib.hid (TB7.out.under hz)
    have XR8 := Lib.hid (XR7.out.below hz)
    have XB8 := Lib.hid (XB7.out.under hz)
    have YR8 := Lib.hid (YR7.out.below hz)
    have YB8 := Lib.hid (YB7.out.under hz)
    have ZR8 := Lib.hid (ZR7.out.below hz)
    have ZB8 := Lib.hid (ZB7.out.under hz)
    have XQ8 := Lib.hid (XQ7.out.below hz)
    have YQ8 := Lib.hid (TrR.below hY hq)
    have B8 := Lib.hid (B7.out.trans (hz.mono B7.out.size))
    obtain ⟨s8, hs⟩ : ∃ s, s = w8x.heap.size := ⟨_, rfl⟩
    rw [← hs] at hC O8 ⊢
    have C8 := Lib.hid hC
    clear hW hs hq hz hC hb hY C7 B7 R7 TI7 TR7 TB7 XR7 XB7 YR7 YB7 ZR7 ZB7 XQ7
    have x0 : W8.cell? ⟨w.heap.size + 1, 0, none⟩ = some (.int .i64 m) := C8.out _ ((.tail _ (.tail _ (.tail _ (.tail _ (.tail _ (.tail _ (.tail _ (.head _)))))))))
    have x1 : W8.cell? ⟨w.heap.size + 1, 1, none⟩ = some (.int .i64 e) := C8.out _ ((.tail _ (.tail _ (.tail _ (.tail _ (.tail _ (.tail _ (.tail _ (.tail _ (.head _))))))))))
    have x2 : W8.cell? ⟨w.heap.size + 1, 2, none⟩ = some (.int .i64 p) := C8.out _ ((.tail _ (.tail _ (.tail _ (.tail _ (.tail _ (.tail _ (.tail _ (.tail _ (.tail _ (.head _)))))))))))
    have l0 := World.block_lt_of_cell? _ _ x0
    have l1 := World.block_lt_of_cell? _ _ x1
    have l2 := World.block_lt_of_cell? _ _ x2
    go_wp2_with fail
    refine (RN.out W8).mono ?_
    rintro e' w9x ⟨v', rfl, hY, hb⟩
    obtain ⟨A9, c9, rfl, -, -, -⟩ := id hY
    clear x0 l0 x1 l1 x2 l2
    go_upto_region 10 with fail
    obtain ⟨W9, hW⟩ : ∃ W, W = w9x.alloc (.cells #[.slice A9 nZ c9] 24) := ⟨_, rfl⟩
    have hq : Below w9x.heap.size w9x W9 := by rw [hW]; exact (Below.refl _ _).alloc (Nat.le_refl _) _
    have hz : Below W8.heap.size W8 W9 := hb.trans (hq.mono hb.size)
    have hC := (C8.out.below hb).box (.slice A9 nZ c9) 24
    rw [← hW] at hC ⊢
    have O9 : Hid (W8.heap.size ≤ w9x.heap.size ∧ w9x.heap.size < W9.heap.size) := Lib.hid ⟨hb.size, by rw [hW]; simp⟩
    have R9 := Lib.hid (R8.out.below hz)
    have TI9 := Lib.hid (TI8.out.below hz)
    have TR9 := Lib.hid (TR8.out.below hz)
    have TB9 := Lib.hid (TB8.out.under hz)
    have XR9 := Lib.hid (XR8.out.below hz)
    have XB9 := Lib.hid (XB8.out.under hz)
    have YR9 := Lib.hid (YR8.out.below hz)
    have YB9 := Lib.hid (YB8.out.under hz)
    have ZR9 := Lib.hid (ZR8.out.below hz)
    have ZB9 := Lib.hid (ZB8.out.under hz)
    have XQ9 := Lib.hid (XQ8.out.below hz)
    have YQ9 := Lib.hid (YQ8.out.below hz)
    have ZQ9 := Lib.hid (TrR.below hY hq)
    have B9 := Lib.hid (B8.out.trans (hz.mono B8.out.size))
    obtain ⟨s9, hs⟩ : ∃ s, s = w9x.heap.size := ⟨_, rfl⟩
    rw [← hs] at hC O9 ⊢
    have C9 := Lib.hid hC
    clear hW hs hq hz hC hb hY C8 B8 R8 TI8 TR8 TB8 XR8 XB8 YR8 YB8 ZR8 ZB8 XQ8 YQ8
    have x0 : W9.cell? ⟨s4, 0, none⟩ = some (.slice A4 nX c4) := C9.out _ ((.tail _ (.tail _ (.tail _ (.tail _ (.tail _ (.head _)))))))
    have x1 : W9.cell? ⟨s7, 0, none⟩ = some (.slice A7 nX c7) := C9.out _ ((.tail _ (.tail _ (.head _))))
    have l0 := World.block_lt_of_cell? _ _ x0
    have l1 := World.block_lt_of_cell? _ _ x1
    go_wp2_with fail
    refine (sameTree nX _ _ FX W9 XR9.out XQ9.out (by have := HBND.out.1; omega)).mono ?_
    rintro e' W10 ⟨rfl, hz⟩
    have R10 := Lib.hid (R9.out.below hz)
    have TI10 := Lib.hid (TI9.out.below hz)
    have TR10 := Lib.hid (TR9.out.below hz)
    have TB10 := Lib.hid (TB9.out.under hz)
    have XR10 := Lib.hid (XR9.out.below hz)
    have XB10 := Lib.hid (XB9.out.under hz)
    have YR10 := Lib.hid (YR9.out.below hz)
    have YB10 := Lib.hid (YB9.out.under hz)
    have ZR10 := Lib.hid (ZR9.out.below hz)
    have ZB10 := Lib.hid (ZB9.out.under hz)
    have XQ10 := Lib.hid (XQ9.out.below hz)
    have YQ10 := Lib.hid (YQ9.out.below hz)
    have ZQ10 := Lib.hid (ZQ9.out.below hz)
    have C10 := Lib.hid (C9.out.below hz)
    have B10 := Lib.hid (B9.out.trans (hz.mono B9.out.size))
    have O10 : Hid (W9.heap.size ≤ W10.heap.size) := Lib.hid hz.size
    clear hz C9 B9 x0 l0 x1 l1 R9 TI9 TR9 TB9 XR9 XB9 YR9 YB9 ZR9 ZB9 XQ9 YQ9 ZQ9
    have x0 : W10.cell? ⟨s5, 0, none⟩ = some (.slice A5 nY c5) := C10.out _ ((.tail _ (.tail _ (.tail _ (.tail _ (.head _))))))
    have x1 : W10.cell? ⟨s8, 0, none⟩ = some (.slice A8 nY c8) := C10.out _ ((.tail _ (.head _)))
    have l0 := World.block_lt_of_cell? _ _ x0
    have l1 := World.block_lt_of_cell? _ _ x1
    go_wp2_with fail
    refine (sameTree nY _ _ FY W10 YR10.out YQ10.out (by have := HBND.out.2.1; omega)).mono ?_
    rintro e' W11 ⟨rfl, hz⟩
    have R11 := Lib.hid (R10.out.below hz)
    have TI11 := Lib.hid (TI10.out.below hz)
    have TR11 := Lib.hid (TR10.out.below hz)
    have TB11 := Lib.hid (TB10.out.under hz)
    have XR11 := Lib.hid (XR10.out.below hz)
    have XB11 := Lib.hid (XB10.out.under hz)
    have YR11 := Lib.hid (YR10.out.below hz)
    have YB11 := Lib.hid (YB10.out.under hz)
    have ZR11 := Lib.hid (ZR10.out.below hz)
    have ZB11 := Lib.hid (ZB10.out.under hz)
    have XQ11 := Lib.hid (XQ10.out.below hz)
    have YQ11 := Lib.hid (YQ10.out.below hz)
    have ZQ11 := Lib.hid (ZQ10.out.below hz)
    have C11 := Lib.hid (C10.out.below hz)
    have B11 := Lib.hid (B10.out.trans (hz.mono B10.out.size))
    have O11 : Hid (W10.heap.size ≤ W11.heap.size) := Lib.hid hz.size
    clear hz C10 B10 x0 l0 x1 l1 R10 TI10 TR10 TB10 XR10 XB10 YR10 YB10 ZR10 ZB10 XQ10 YQ10 ZQ10
    have x0 : W11.cell? ⟨s6, 0, none⟩ = some (.slice A6 nZ c6) := C11.out _ ((.tail _ (.tail _ (.tail _ (.head _)))))
    have x1 : W11.cell? ⟨s9, 0, none⟩ = some (.slice A9 nZ c9) := C11.out _ ((.head _))
    have l0 := World.block_lt_of_cell? _ _ x0
    have l1 := World.block_lt_of_cell? _ _ x1
    go_wp2_with fail
    refine (sameTree nZ _ _ FZ W11 ZR11.out ZQ11.out (by have := HBND.out.2.2.1; omega)).mono ?_
    rintro e' W12 ⟨rfl, hz⟩
    have R12 := Lib.hid (R11.out.below hz)
    have TI12 := Lib.hid (TI11.out.below hz)
    have TR12 := Lib.hid (TR11.out.below hz)
    have TB12 := Lib.hid (TB11.out.under hz)
    have XR12 := Lib.hid (XR11.out.below hz)
    have XB12 := Lib.hid (XB11.out.under hz)
    have YR12 := Lib.hid (YR11.out.below hz)
    have YB12 := Lib.hid (YB11.out.under hz)
    have ZR12 := Lib.hid (ZR11.out.below hz)
    have ZB12 := Lib.hid (ZB11.out.under hz)
    have XQ12 := Lib.hid (XQ11.out.below hz)
    have YQ12 := Lib.hid (YQ11.out.below hz)
    have ZQ12 := Lib.hid (ZQ11.out.below hz)
    have C12 := Lib.hid (C11.out.below hz)
    have B12 := Lib.hid (B11.out.trans (hz.mono B11.out.size))
    have O12 : Hid (W11.heap.size ≤ W12.heap.size) := Lib.hid hz.size
    clear hz C11 B11 x0 l0 x1 l1 R11 TI11 TR11 TB11 XR11 XB11 YR11 YB11 ZR11 ZB11 XQ11 YQ11 ZQ11
    have x0 : W12.cell? ⟨s3, 0, none⟩ = some (.slice (some ⟨b, 0, none⟩) n (n + 2)) := C12.out _ ((.tail _ (.tail _ (.tail _ (.tail _ (.tail _ (.tail _ (.head _))))))))
    have x1 : W12.cell? ⟨w.heap.size, 0, none⟩ = some (.slice A n c) := C12.out _ ((.tail _ (.tail _ (.tail _ (.tail _ (.tail _ (.tail _ (.tail _ (.head _)))))))))
    have l0 := World.block_lt_of_cell? _ _ x0
    have l1 := World.block_lt_of_cell? _ _ x1
    go_wp2_with fail
    refine (leftTree _ b n c A F ub W12 TI12.out R12.out hn2 HU.out).mono ?_
    rintro e' W13 ⟨rfl, hz⟩
    have R13 := Lib.hid (R12.out.below hz)
    have TI13 := Lib.hid (TI12.out.below hz)
    have TR13 := Lib.hid (TR12.out.below hz)
    have TB13 := Lib.hid (TB12.out.under hz)
    have XR13 := Lib.hid (XR12.out.below hz)
    have XB13 := Lib.hid (XB12.out.under hz)
    have YR13 := Lib.hid (YR12.out.below hz)
    have YB13 := Lib.hid (YB12.out.under hz)
    have ZR13 := Lib.hid (ZR12.out.below hz)
    have ZB13 := Lib.hid (ZB12.out.under hz)
    have XQ13 := Lib.hid (XQ12.out.below hz)
    have YQ13 := Lib.hid (YQ12.out.below hz)
    have ZQ13 := Lib.hid (ZQ12.out.below hz)
    have C13 := Lib.hid (C12.out.below hz)
    have B13 := Lib.hid (B12.out.trans (hz.mono B12.out.size))
    have O13 : Hid (W12.heap.size ≤ W13.heap.size) := Lib.hid hz.size
    clear hz C12 B12 x0 l0 x1 l1 R12 TI12 TR12 TB12 XR12 XB12 YR12 YB12 ZR12 ZB12 XQ12 YQ12 ZQ12
    obtain ⟨z, hz⟩ : ∃ z : Array Value, z = #[.int .i64 0, .slice none 0 0, .slice none 0 0, .slice none 0 0, .slice none 0 0, .slice none 0 0, .slice none 0 0, .slice none 0 0, .slice none 0 0, .slice none 0 0, .slice none 0 0, .slice none 0 0, .slice none 0 0, .slice none 0 0, .slice none 0 0, .slice none 0 0, .slice none 0 0, .slice none 0 0, .slice none 0 0, .slice none 0 0, .slice none 0 0, .slice none 0 0, .slice none 0 0, .slice none 0 0, .slice none 0 0, .slice none 0 0, .slice none 0 0, .slice none 0 0, .slice none 0 0, .slice none 0 0, .slice none 0 0, .slice none 0 0, .slice none 0 0, .slice none 0 0, .slice none 0 0] := ⟨_, rfl⟩
    have hbu := build70 W13
    rw [← hz] at hbu
    have HBU := Lib.hid hbu
    clear hbu
    obtain ⟨WB, hWB⟩ : ∃ W, W = (W13.alloc (.cells z 70)).setRow W13.heap.size (over z 0 z) := ⟨_, rfl⟩
    have hx0 : (W13.alloc (.cells z 70)).heap[W13.heap.size]? = some (.cells z 70 (0, 0)) := heap_alloc_new W13 _
    have hzs : z.size = 35 := by rw [hz]; rfl
    have hzo : ∀ u ∈ z.toList, u.oneCell' = true := by rw [hz]; simp [Value.oneCell']
    have hfit : 0 + 35 ≤ z.size := by omega
    have HW := Lib.hid (And.intro hz (And.intro hWB (And.intro hx0 (And.intro hzs (And.intro hzo hfit)))))
    clear hz hWB hx0 hzs hzo hfit
    go_upto_region 13 with (first | (with_reducible refine wpList_build_eq rfl 70 rfl _ HBU.out ?_) | (rw [← HW.out.1]; with_reducible refine wpList_store_part rfl 70 _ _ rfl rfl W13.heap.size 0 35 rfl 70 _ _ rfl HW.out.2.2.1 cells70 HW.out.2.2.2.1 HW.out.2.2.2.2.2 HW.out.2.2.2.2.1 ?_))
    rw [← HW.out.2.1]
    have hbW : Below W13.heap.size W13 WB := by
      rw [HW.out.2.1]
      exact Bk.below_setRow ((Below.refl _ _).alloc (Nat.le_refl _) _) (Nat.le_refl _)
    have hxW : WB.heap[W13.heap.size]? = some (.cells z 70 (0, 0)) := by
      rw [HW.out.2.1]
      exact (setRow_same HW.out.2.2.1).trans (congrArg (fun y => some (Obj.cells y 70 (0, 0))) (over_full rfl))
    have hnil : ∀ j, 1 ≤ j → j < 35 → z[j]? = some (.slice none 0 0) := fun j h1 h2 => by
      obtain ⟨k, rfl⟩ : ∃ k, j = k + 1 := ⟨j - 1, by omega⟩
      rw [HW.out.1]
      simp only [List.getElem?_toArray, List.getElem?_cons_succ]
      show (List.replicate 34 (Value.slice none 0 0))[k]? = _
      rw [List.getElem?_replicate, if_pos (by omega)]
    obtain ⟨bb, hbb⟩ : ∃ bb, bb = W13.heap.size := ⟨_, rfl⟩
    rw [← hbb] at hxW ⊢
    have hOrd : w.heap.size ≤ b ∧ b ≤ s3 ∧ s3 < W3.heap.size ∧ W3.heap.size ≤ s4 ∧ s4 < W4.heap.size ∧ W4.heap.size ≤ s5 ∧ s5 < W5.heap.size ∧ W5.heap.size ≤ s6 ∧ s6 < bb := by
      have h3 := O3.out
      have h4 := O4.out
      have h5 := O5.out
      have h6 := O6.out
      have h7 := O7.out
      have h8 := O8.out
      have h9 := O9.out
      have h10 := O10.out
      have h11 := O11.out
      have h12 := O12.out
      have h13 := O13.out
      rw [hbb]
      omega
    have HO := Lib.hid hOrd
    have hSt : StM ksOf2 70 w WB w.heap.size bb (fun _ => 1000000) (fun _ => 0) 0 (fun x => x < b ∨ bb ≤ x) :=
      startM2 hxW HW.out.2.2.2.1 (by rw [HW.out.1]; rfl) hnil (by omega) (Nat.le_refl _) (B13.out.trans (hbW.mono B13.out.size))
    have HC := Lib.hid (C13.out.below hbW)
    have HTB := Lib.hid (TB13.out.under hbW)
    have HXB := Lib.hid (XB13.out.under hbW)
    have HYB := Lib.hid (YB13.out.under hbW)
    have HZB := Lib.hid (ZB13.out.under hbW)
    have M := keepT hSt (Nat.le_refl _) (by omega) (by omega) (by omega) (by omega) HTB.out (by omega)
    have x0 : WB.cell? ⟨s3, 0, none⟩ = some (.slice (some ⟨b, 0, none⟩) n (n + 2)) := HC.out _ ((.tail _ (.tail _ (.tail _ (.tail _ (.tail _ (.tail _ (.head _))))))))
    have l0 := World.block_lt_of_cell? _ _ x0
    have hq8 : WB.cell? ⟨s4, 0, none⟩ = some (.slice A4 nX c4) := HC.out _ (.tail _ (.tail _ (.tail _ (.tail _ (.tail _ (.head _))))))
    have hq11 : WB.cell? ⟨s5, 0, none⟩ = some (.slice A5 nY c5) := HC.out _ (.tail _ (.tail _ (.tail _ (.tail _ (.head _)))))
    have hq13 : WB.cell? ⟨s6, 0, none⟩ = some (.slice A6 nZ c6) := HC.out _ (.tail _ (.tail _ (.tail _ (.head _))))
    have HQ := Lib.hid (And.intro hq8 (And.intro hq11 hq13))
    clear hSt hnil hxW hbW hbb hOrd hq8 hq11 hq13 HBU HW
    go_wp2_with fail
    refine M.mono ?_
    rintro e' u1 ⟨rfl, hP⟩
    obtain ⟨o1, o2, o3, o4, o5, o6, o7, o8, o9⟩ := HO.out
    have g1 := HBND.out.1
    have g2 := HBND.out.2.1
    have g3 := HBND.out.2.2.1
    have x8 := hP.box (by omega) (by omega) HQ.out.1
    have HQ1 := Lib.hid (And.intro (hP.box (by omega) (by omega) HQ.out.2.1) (hP.box (by omega) (by omega) HQ.out.2.2))
    have XB1 := Lib.hid (hP.tree (by omega) (by omega) HXB.out)
    have YB1 := Lib.hid (hP.tree (by omega) (by omega) HYB.out)
    have ZB1 := Lib.hid (hP.tree (by omega) (by omega) HZB.out)
    have M := keepT hP.st (by omega) (by omega) (by omega) (by omega) (by omega) XB1.out (by omega)
    have l8 := World.block_lt_of_cell? _ _ x8
    clear hP x0 l0 HQ HXB HYB HZB HTB HC o1 o2 o3 o4 o5 o6 o7 o8 o9
    go_wp2_with fail
    refine M.mono ?_
    rintro e' u2 ⟨rfl, hP⟩
    obtain ⟨o1, o2, o3, o4, o5, o6, o7, o8, o9⟩ := HO.out
    have x11 := hP.box (by omega) (by omega) HQ1.out.1
    have HQ2 := Lib.hid (hP.box (by omega) (by omega) HQ1.out.2)
    have YB2 := Lib.hid (hP.tree (by omega) (by omega) YB1.out)
    have ZB2 := Lib.hid (hP.tree (by omega) (by omega) ZB1.out)
    have M := keepT hP.st (by omega) (by omega) (by omega) (by omega) (by omega) YB2.out (by omega)
    have l11 := World.block_lt_of_cell? _ _ x11
    clear hP x8 l8 HQ1 XB1 YB1 ZB1 o1 o2 o3 o4 o5 o6 o7 o8 o9
    go_wp2_with fail
    refine M.mono ?_
    rintro e' u3 ⟨rfl, hP⟩
    obtain ⟨o1, o2, o3, o4, o5, o6, o7, o8, o9⟩ := HO.out
    have x13 := hP.box (by omega) (by omega) HQ2.out
    have ZB3 := Lib.hid (hP.tree (by omega) (by omega) ZB2.out)
    have M := keepT hP.st (by omega) (by omega) (by omega) (by omega) (by omega) ZB3.out (by omega)
    have l13 := World.block_lt_of_cell? _ _ x13
    clear hP x11 l11 HQ2 YB2 ZB2 o1 o2 o3 o4 o5 o6 o7 o8 o9
    go_wp2_with fail
    refine M.mono ?_
    rintro e' u4 ⟨rfl, hP⟩
    have M := apartM2 hP.st (by omega) (by decide)
    clear hP x13 l13
    go_wp2_with fail
    refine M.mono ?_
    rintro e' u5 ⟨rfl, hb5⟩
    have MA := alive11 u5 (HT.out.below hpos hb5)
    have HU5 := Lib.hid hb5
    clear M hb5
    go_wp2_with fail
    refine MA.mono ?_
    rintro e' u6 ⟨rfl, hb6⟩
    have HU6 := Lib.hid (HU5.out.trans (hb6.mono HU5.out.size))
    clear MA hb6
    go_wp2_with fail
    go_ret
    exact ⟨rfl, HU6.out⟩
end Go.Proofs.YtnahhclflnjmcaaGreatDoor
