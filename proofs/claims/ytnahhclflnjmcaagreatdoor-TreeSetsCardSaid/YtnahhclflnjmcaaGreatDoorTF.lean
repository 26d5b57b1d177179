/- Add, where it is done. -/
import Derived.Test.YtnahhclflnjmcaaGreatDoorA3
namespace Go.Proofs.YtnahhclflnjmcaaGreatDoor
open Go Go.RowKit
set_option linter.unusedVariables false
set_option linter.unusedSimpArgs false
set_option maxRecDepth 100000

variable {w0 w w' : World} {B b n i : Nat} {F : Nat → Node} {uv : Nat → Value}
/-- A whole node is anew, without a list. -/
theorem OwnK.setNode (h : OwnK w0 w B b n n F uv) {y : Nat} (hy : y < n) (p m e : Int) (hm : (Lit.int .i64 m).wf = true) :
    OwnK w0 ((((w.setCell ⟨b, y * 4, none⟩ (.int .i64 p)).setCell ⟨b, y * 4 + 1, none⟩ (.int .i64 m)).setCell ⟨b, y * 4 + 2, none⟩ (.int .i64 e)).setCell ⟨b, y * 4 + 3, none⟩ (.slice none 0 0)) B b n n
      (fun z => if z = y then ⟨p, m, e, []⟩ else F z) (fun z => if z = y then .slice none 0 0 else uv z) := by
  have hnb : ∀ z, z < n → ∀ o, (uv z).ownBlock ≠ some (⟨b, o, none⟩ : Addr).block := fun z hz o => h.nb z hz hz
  refine ⟨h.hb, ((((h.row.set (y * 4) _).set (y * 4 + 1) _).set (y * 4 + 2) _).set (y * 4 + 3) _).congr fun j hj => ?_, fun z h1 _ => ?_, fun z h1 h2 => by omega, fun z h1 _ => ?_, fun z z' h1 h2 _ _ h5 k hk => ?_, fun z h1 => ?_⟩
  · show _ = cellF _ _ j
    unfold cellF
    by_cases e2 : j / 4 = y
    · by_cases c0 : j % 4 = 0
      · rw [show j = y * 4 by omega]
        simp [show y * 4 / 4 = y by omega]
      by_cases c1 : j % 4 = 1
      · rw [show j = y * 4 + 1 by omega]
        simp [show (y * 4 + 1) / 4 = y by omega, show (y * 4 + 1) % 4 = 1 by omega]
      by_cases c2 : j % 4 = 2
      · rw [show j = y * 4 + 2 by omega]
        simp [show (y * 4 + 2) / 4 = y by omega, show (y * 4 + 2) % 4 = 2 by omega]
      · rw [show j = y * 4 + 3 by omega]
        simp [show (y * 4 + 3) / 4 = y by omega, show (y * 4 + 3) % 4 = 3 by omega]
    · have g0 : j ≠ y * 4 := by omega
      have g1 : j ≠ y * 4 + 1 := by omega
      have g2 : j ≠ y * 4 + 2 := by omega
      have g3 : j ≠ y * 4 + 3 := by omega
      simp [g0, g1, g2, g3, e2]
  · by_cases e : z = y
    · simp only [e, if_true]
      exact World.ownsRow_nil _ _ _ _
    · simp only [e, if_false]
      exact ((((h.un z h1 h1).setOther (hnb z h1 _) _).setOther (hnb z h1 _) _).setOther (hnb z h1 _) _).setOther (hnb z h1 _) _
  · by_cases e : z = y
    · simp only [e, if_true]
      intro h; cases h
    · simp only [e, if_false]; exact h.nb z h1 h1
  · by_cases e : z = y
    · simp only [e, if_true] at hk
      cases hk
    · simp only [e, if_false] at hk
      by_cases e' : z' = y
      · simp only [e', if_true]
        intro h; cases h
      · simp only [e', if_false]
        exact h.ap z z' h1 h2 h1 h2 h5 k hk
  · by_cases e : z = y
    · simp only [e, if_true]; exact hm
    · simp only [e, if_false]; exact h.wf z h1
theorem AddB.under2 {w : World} {v : Value} {m e p : Int} {W W' : World} {B : Nat} (h : AddB w v m e p W) (hb : Below B W W') (hl : w.heap.size + 2 < B) : AddB w v m e p W' := by
  refine ⟨h.bel.trans (hb.mono (by omega)), ?_, ?_, ?_, ?_, ?_, ?_, Nat.lt_of_lt_of_le h.lt hb.size⟩
  · rw [hb.cell (by show w.heap.size < _; omega)]; exact h.c0
  · rw [hb.cell (by show w.heap.size + 1 < _; omega)]; exact h.a0
  · rw [hb.cell (by show w.heap.size + 1 < _; omega)]; exact h.a1
  · rw [hb.cell (by show w.heap.size + 1 < _; omega)]; exact h.a2
  · rw [hb.cell (by show w.heap.size + 2 < _; omega)]; exact h.r0
  · rw [hb.frozen (by show w.heap.size + 2 < _; omega)]; exact h.rf
/-- What Add leaves. -/
structure AddYes (w : World) (n : Nat) (F : Nat → Node) (a : Addx) (e : Ending) (w' : World) : Prop where
  out : ∃ v', e = .returned (.tuple #[.agg #[v'], .int .i64 (fb F (lvs n) : Nat), .int .i64 0]) ∧ TrO w' w.heap.size v' (2 * addN n F - 1) (addF n F (lg (addN n F)) (fb F (lvs n)) a)
  bel : Below w.heap.size w w'
/-- The loop over the nodes above: k of them are done. -/
def addK (n : Nat) (F : Nat → Node) (d i : Nat) (a : Addx) (k y : Nat) : Node :=
  if y = 2 * i then ⟨a.pub, a.mem, a.ep, []⟩ else if y ∈ (dirs d i).take k ∧ 0 < (pad n F y).pub then { pad n F y with un := ins i (pad n F y).un } else pad n F y
theorem addK_full (n : Nat) (F : Nat → Node) (d i : Nat) (a : Addx) : addK n F d i a d = addF n F d i a := by
  funext y
  unfold addK addF
  rw [show (dirs d i).take d = dirs d i from List.take_of_length_le (by rw [dirs_length]; exact Nat.le_refl _)]
theorem dirs_facts : ∀ d : Fin 4, ∀ i : Fin 8, ∀ k : Fin 4, i.val < 2 ^ d.val → k.val < d.val → anc (2 * i.val) (k.val + 1) < 2 ^ (d.val + 1) - 1 ∧ anc (2 * i.val) (k.val + 1) % 2 = 1 ∧ ∀ j : Fin 4, j.val < k.val → anc (2 * i.val) (j.val + 1) ≠ anc (2 * i.val) (k.val + 1) := by decide
theorem dirs_at {d i k : Nat} (hd : d ≤ 3) (hi : i < 2 ^ d) (hk : k < d) : ∃ x, (dirs d i)[k]? = some x ∧ x < 2 ^ (d + 1) - 1 ∧ x % 2 = 1 ∧ x ∉ (dirs d i).take k ∧ (dirs d i).take (k + 1) = (dirs d i).take k ++ [x] := by
  have h8 : 2 ^ d ≤ 2 ^ 3 := Nat.pow_le_pow_right (by decide) hd
  have hf := dirs_facts ⟨d, by omega⟩ ⟨i, by omega⟩ ⟨k, by omega⟩ hi hk
  have hx : (dirs d i)[k]? = some (anc (2 * i) (k + 1)) := by simp [dirs, hk]
  refine ⟨_, hx, hf.1, hf.2.1, fun hm => ?_, by rw [List.take_add_one, hx]; rfl⟩
  obtain ⟨j, hj⟩ := List.mem_iff_getElem?.1 hm
  have hjk : j < k := by have := (List.getElem?_eq_some_iff.1 hj).1; simp at this; omega
  rw [List.getElem?_take_of_lt hjk] at hj
  have : (dirs d i)[j]? = some (anc (2 * i) (j + 1)) := by simp [dirs, show j < d by omega]
  rw [this] at hj
  exact hf.2.2 ⟨j, by omega⟩ hjk (Option.some.inj hj)
theorem lg_pow {d : Nat} (hd : d ≤ 3) : lg (2 ^ d) = d := by
  have : ∀ d : Fin 4, lg (2 ^ d.val) = d.val := by decide
  exact this ⟨d, by omega⟩
/-- These blocks have stayed, and those below B. -/
structure Mid (B S1 S2 : Nat) (w2 wr : World) : Prop where
  size : S2 ≤ wr.heap.size
  blk : ∀ k, k < S2 → (k < B ∨ S1 ≤ k) → wr.heap[k]? = w2.heap[k]?
  os : wr.os = w2.os
  tape : wr.tape = w2.tape
  output : wr.output = w2.output
theorem Mid.start {B S1 : Nat} (w2 : World) : Mid B S1 w2.heap.size w2 w2 := ⟨Nat.le_refl _, fun _ _ _ => rfl, rfl, rfl, rfl⟩
theorem Mid.grown {B S1 S2 : Nat} {w2 wr w3 : World} {r : Option Nat} (h : Mid B S1 S2 w2 wr) (hg : wr.grownBy w3 r) (hr : ∀ k, r = some k → (B ≤ k ∧ k < S1) ∨ S2 ≤ k) : Mid B S1 S2 w2 w3 :=
  ⟨Nat.le_trans h.size hg.size, fun k hk hc => by
    have h1 := h.size
    refine (hg.block k (by omega) (fun e => ?_)).trans (h.blk k hk hc)
    have := hr k e.symm
    omega, hg.os.trans h.os, hg.tape.trans h.tape, hg.output.trans h.output⟩
theorem Mid.below {B S1 S2 : Nat} {w2 wr : World} (h : Mid B S1 S2 w2 wr) (h1 : w2.heap.size = S2) (h2 : B ≤ S2) : Below B w2 wr := ⟨h.os, h.tape, h.output, by rw [h1]; exact h.size, fun k hk => h.blk k (by omega) (.inl hk)⟩
theorem Mid.cell {B S1 S2 : Nat} {w2 wr : World} (h : Mid B S1 S2 w2 wr) {p : Addr} (h1 : p.block < S2) (h2 : p.block < B ∨ S1 ≤ p.block) : wr.cell? p = w2.cell? p := World.cell?_of_block (h.blk _ h1 h2)
theorem Mid.frozen {B S1 S2 : Nat} {w2 wr : World} (h : Mid B S1 S2 w2 wr) {p : Addr} (h1 : p.block < S2) (h2 : p.block < B ∨ S1 ≤ p.block) : wr.frozen? p = w2.frozen? p := World.frozen?_of_block (h.blk _ h1 h2)
set_option maxHeartbeats 8000000 in
set_option maxRecDepth 100000 in
theorem add_yes (v : Value) (n : Nat) (F : Nat → Node) (a : Addx) (w : World) (hT : Tab w) (hR : TrR w v n F) (hz : chk n F = true) (hm : 0 ≤ a.mem) (he : 0 ≤ a.ep) (hp : 1 ≤ a.pub) (hwf : (Lit.int .i64 a.mem).wf = true) (hq : findM F a.mem (sizeM n F) < 0)
    (hok : ¬ (fb F (lvs n) = lvs n ∧ lvs n = 8)) :
    Calls Tryz.prog 23 #[.agg #[v], a.v] w fun e w' => AddYes w n F a e w' := by
  obtain ⟨hn15, hunl, huns⟩ := chk_len hz
  have hC : ∀ W, Below w.heap.size w W → Calls Tryz.prog 10 #[.agg #[v]] W fun e w' => e = .returned (.int .i64 (errB (chk n F))) ∧ Below W.heap.size W w' := fun W hW =>
    check10 v n F W (hT.below hT.pos hW) (hR.below hW) (by omega)
  have hF : ∀ W, Below w.heap.size w W → Calls Tryz.prog 12 #[.agg #[v], .int .i64 a.mem] W fun e w' => e = .returned (.int .i64 (findM F a.mem (sizeM n F))) ∧ Below W.heap.size W w' := fun W hW =>
    find15 v n F a.mem W (hT.below hT.pos hW) (hR.below hW) (by omega)
  have hpos := hT.pos
  have hLn : lvs n = 0 ∧ n = 0 ∨ ∃ d, d ≤ 3 ∧ lvs n = 2 ^ d ∧ n = 2 ^ (d + 1) - 1 := by
    rcases chk_iff.1 hz with h | ⟨d, h⟩
    · exact .inl ⟨by rw [h]; rfl, h⟩
    · exact .inr ⟨d, h.hd, h.lvs, h.hn⟩
  obtain ⟨d, hd, hN2, hnN⟩ : ∃ d, d ≤ 3 ∧ addN n F = 2 ^ d ∧ n ≤ 2 * 2 ^ d - 1 := by
    unfold addN
    rcases hLn with ⟨h1, h2⟩ | ⟨d, h1, h2, h3⟩
    · rw [h1]; exact ⟨0, by omega, by rfl, by omega⟩
    · have hs := two_succ d
      by_cases hf : fb F (lvs n) = lvs n
      · rw [if_pos hf]
        have : d ≠ 3 := fun e => hok ⟨hf, by rw [h2, e]⟩
        exact ⟨d + 1, by omega, by have := two_pos d; omega, by omega⟩
      · rw [if_neg hf]
        exact ⟨d, h1, h2, by omega⟩
  have hat : fb F (lvs n) < addN n F := by
    have := fb_le F (lvs n)
    unfold addN
    split
    · omega
    · omega
  have h2d := two_pos d
  have h2d3 : 2 ^ d ≤ 2 ^ 3 := Nat.pow_le_pow_right (by decide) hd
  have hlg : lg (addN n F) = d := by rw [hN2]; exact lg_pow hd
  have hTW : ∀ W, Below w.heap.size w W → ∀ l : Nat, l = addN n F → Calls Tryz.prog 154 #[.agg #[v], .int .i64 l] W fun e w' => ∃ b uv, e = .returned (.agg #[.slice (some ⟨b, 0, none⟩) (2 * l - 1) (2 * l - 1)]) ∧ OwnK W w' W.heap.size b (2 * l - 1) (2 * l - 1) (pad n F) uv ∧ Below W.heap.size W w' := fun W hW l hl =>
    twin30 v n l F W (hR.below hW) (by rw [hl, hN2]; exact hnN) (by omega) (by omega) (fun y hy => by have := hunl y; unfold pad at this; rw [if_pos hy] at this; omega)
  have HYES : Hid (∀ (e : Ending) (w' : World) (v' : Value), e = .returned (.tuple #[.agg #[v'], .int .i64 (fb F (lvs n) : Nat), .int .i64 0]) → TrO w' w.heap.size v' (2 * addN n F - 1) (addF n F d (fb F (lvs n)) a) → Below w.heap.size w w' → AddYes w n F a e w') :=
    Lib.hid fun e w' v' h1 h2 h3 => ⟨⟨v', h1, by rw [hlg]; exact h2⟩, h3⟩
  have HSZ := Lib.hid (fun i (h : i < lvs n) => lvs_lt h)
  have hl8 : lvs n ≤ 8 := by
    rcases hLn with ⟨h1, _⟩ | ⟨d, h1, h2, _⟩
    · omega
    · have : 2 ^ d ≤ 2 ^ 3 := Nat.pow_le_pow_right (by decide) h1
      omega
  have HADD := Lib.hid (show addN n F = if fb F (lvs n) = lvs n then max 1 (2 * lvs n) else lvs n from rfl)
  obtain ⟨A, c, rfl, -, -, h3⟩ := hR
  have hL := fun w => leaves26 A n c w (by omega)
  have H3 := Lib.hid h3
  have HUN := Lib.hid (And.intro hunl huns)
  have HD := Lib.hid (And.intro hd (And.intro hN2 (And.intro hwf hT)))
  obtain ⟨m, e, p⟩ := a
  unfold Addx.v
  simp only at hm he hp hq hF ⊢
  have HB0 := Lib.hid (AddB.start w (.slice A n c) m e p)
  rw [hz, errB_true] at hC
  generalize findM F m (sizeM n F) = f at *
  have t1 : decide (m < 0) = false := decide_eq_false (by omega)
  have t2 : decide (e < 0) = false := decide_eq_false (by omega)
  have t3 : decide (p < 1) = false := decide_eq_false (by omega)
  have t4 : decide (0 ≤ f) = false := decide_eq_false (by omega)
  generalize hLL : lvs n = L at *
  generalize hNN : addN n F = N2 at *
  clear hz hm he hp hq h3 hLn hlg hunl huns hwf hLL hNN hd hN2
  go_enter Tryz.func23, Tryz.ntmps23
  go_wp2_with (first
    | (go_at_call 10; refine (hC _ HB0.out.bel).mono ?_; rintro e' w1 ⟨rfl, hb1⟩; obtain ⟨d0, d1, d2, d3, d4, d5, d6, d7⟩ := HB0.out.under hb1; have HB1 := Lib.hid (HB0.out.under hb1))
    | (go_at_call 12; refine (hF _ HB1.out.bel).mono ?_; rintro e' w2 ⟨rfl, hb2⟩; obtain ⟨f0, f1, f2, f3, f4, f5, f6, f7⟩ := HB1.out.under hb2; have HB2 := Lib.hid (HB1.out.under hb2))
    | (go_at_call 44; refine (hL _).mono ?_; rintro e' w3 ⟨rfl, hb3⟩; obtain ⟨g0, g1, g2, g3, g4, g5, g6, g7⟩ := HB2.out.under hb3; have HB3 := Lib.hid (HB2.out.under hb3)))
  clear hb1 hb2 hb3 d0 d1 d2 d3 d4 d5 d6 d7 f0 f1 f2 f3 f4 f5 f6 f7 hC hF hL HB1 HB2 HB0
  have hs0 : w.heap.size < w3.heap.size := by omega
  have hs1 : w.heap.size + 1 < w3.heap.size := by omega
  go_loopg [8] (L + 1) (fun g v8 wr => ∃ i : Nat, i ≤ L ∧ i + g = L + 1 ∧ v8 = .int .i64 i ∧ fb F i = i ∧ wr = w3)
  case atStart => exact ⟨0, by omega, by omega, rfl, rfl, rfl⟩
  case round =>
    obtain ⟨i, hi, hg, rfl, hfb, rfl⟩ := hrel
    have HG := Lib.hid (And.intro hg hfb)
    by_cases hgo : i < L ∧ 0 < (F (2 * i)).pub
    · obtain ⟨hlt, hpos⟩ := hgo
      obtain ⟨hin, hi8⟩ := HSZ.out i hlt
      obtain ⟨b, o, rfl, hN⟩ := H3.out (by omega)
      obtain ⟨c0, -, -, -, -⟩ := (hN (2 * i) hin).below g0
      have hb0 : b < wr.heap.size := World.block_lt_of_cell? _ _ c0
      have j1 : (0 : Int) ≤ 2 * (i : Int) := by omega
      have j2 : 2 * (i : Int) < n := by omega
      have j3 : (i : Int) < L := by omega
      have t5 : decide (0 < (F (2 * i)).pub) = true := decide_eq_true hpos
      have HFB := Lib.hid (fb_step hfb hpos)
      clear hg hfb hpos hN
      generalize (F (2 * i)).pub = q at *
      go_wp2
      go_roundg (gk - 1)
      case rel => exact ⟨i + 1, by omega, by have := HG.out.1; omega, by go_num, HFB.out, rfl⟩
      case measure => have := HG.out.1; omega
    · by_cases hlt : i < L
      · have hnp : ¬ 0 < (F (2 * i)).pub := fun h => hgo ⟨hlt, h⟩
        have hfbs := fb_stop hfb hnp hlt
        have hN2L : N2 = L := by have := HADD.out; rw [if_neg (by omega)] at this; exact this
        obtain ⟨hin, hi8⟩ := HSZ.out i hlt
        obtain ⟨b, o, rfl, hN⟩ := H3.out (by omega)
        obtain ⟨c0, -, -, -, -⟩ := (hN (2 * i) hin).below g0
        have hb0 : b < wr.heap.size := World.block_lt_of_cell? _ _ c0
        have j1 : (0 : Int) ≤ 2 * (i : Int) := by omega
        have j2 : 2 * (i : Int) < n := by omega
        have j3 : (i : Int) < L := by omega
        have t5 : decide (0 < (F (2 * i)).pub) = false := decide_eq_false hnp
        have t6 : ((i : Int) == (L : Int)) = false := by rw [beq_eq_false_iff_ne]; omega
        clear hgo hnp hN hg hfb HADD
        subst hN2L
        rw [hfbs] at HYES hat
        generalize (F (2 * i)).pub = q at *
        obtain ⟨wo, rfl⟩ : ∃ wo, wo = wr := ⟨_, rfl⟩
        obtain ⟨NN, hNN⟩ : ∃ NN, NN = 2 * N2 - 1 := ⟨_, rfl⟩
        have hiN : 2 * i < NN := by omega
        have m1 : (0 : Int) ≤ 2 * (i : Int) := by omega
        have m2 : 2 * (i : Int) < (NN : Int) := by omega
        rw [← hNN] at HYES
        have HTW := fun W hW => hTW W hW N2 rfl
        rw [← hNN] at HTW
        have HNN := Lib.hid hNN
        clear hTW hNN
        go_wp2_with fail
        refine (HTW _ HB3.out.bel).mono ?_
        rintro e' w4 ⟨b2, uv, rfl, hK, hb4⟩
        have HK := Lib.hid hK
        obtain ⟨k0, k1, k2, k3, k4, k5, k6, k7⟩ := HB3.out.under hb4
        have HB4 := Lib.hid (HB3.out.under hb4)
        have b2lt := hK.blt
        have k8 : w.heap.size + 1 < w4.heap.size := by omega
        have k9 : w.heap.size < w4.heap.size := by omega
        obtain ⟨x0, x1, x2, x3⟩ := hK.cells hiN
        have xf0 := hK.row.frozen (2 * i * 4)
        have xf1 := hK.row.frozen (2 * i * 4 + 1)
        have xf2 := hK.row.frozen (2 * i * 4 + 2)
        have xf3 := hK.row.frozen (2 * i * 4 + 3)
        go_wp2_with fail
        obtain ⟨WB, hWB⟩ : ∃ WB, WB = (((((w4.setCell ⟨b2, 2 * i * 4, none⟩ (.int .i64 p)).setCell ⟨b2, 2 * i * 4 + 1, none⟩ (.int .i64 m)).setCell ⟨b2, 2 * i * 4 + 2, none⟩ (.int .i64 e)).setCell ⟨b2, 2 * i * 4 + 3, none⟩ (.slice none 0 0)).alloc (.cells #[.slice (some ⟨b2, 0, none⟩) NN NN] 24)) := ⟨_, rfl⟩
        rw [← hWB]
        have hsWB : WB.heap.size = w4.heap.size + 1 := by rw [hWB]; simp
        have hb4B : wo.heap.size ≤ b2 := HK.out.hb
        have hB3W : Below wo.heap.size wo WB := by
          rw [hWB]
          exact ((((hb4.setCell hb4B _).setCell hb4B _).setCell hb4B _).setCell hb4B _).alloc (by simp; exact hb4.size) _
        have hKB0 : OwnK wo WB wo.heap.size b2 NN NN (addK n F d i ⟨m, e, p⟩ 0) (fun z => if z = 2 * i then .slice none 0 0 else uv z) := by
          rw [hWB]
          refine OwnK.congr ((HK.out.setNode hiN p m e HD.out.2.2.1).below ((Below.refl _ _).alloc (Nat.le_refl _) _)) fun y hy => ?_
          unfold addK
          by_cases e1 : y = 2 * i
          · simp [e1]
          · simp [e1]
        have hboxB : WB.cell? ⟨w4.heap.size, 0, none⟩ = some (.slice (some ⟨b2, 0, none⟩) NN NN) := by
          rw [hWB]
          have := cell_one_new ((((w4.setCell ⟨b2, 2 * i * 4, none⟩ (.int .i64 p)).setCell ⟨b2, 2 * i * 4 + 1, none⟩ (.int .i64 m)).setCell ⟨b2, 2 * i * 4 + 2, none⟩ (.int .i64 e)).setCell ⟨b2, 2 * i * 4 + 3, none⟩ (.slice none 0 0)) (.slice (some ⟨b2, 0, none⟩) NN NN) 24 0 _ rfl
          simpa [Addr.add] using this
        have hapB : ∀ y, y < NN → ∀ q, ((fun z => if z = 2 * i then Value.slice none 0 0 else uv z) y).ownBlock = some q → q < w4.heap.size := fun y hy q hq => by
          by_cases e1 : y = 2 * i
          · simp only [e1, if_true] at hq
            cases hq
          · simp only [e1, if_false] at hq
            exact (World.ownsRow.lt (HK.out.un y hy hy) q hq).2
        have hTB : Tab WB := HD.out.2.2.2.below hpos (HB3.out.bel.trans (hB3W.mono HB3.out.bel.size))
        generalize (fun z => if z = 2 * i then Value.slice none 0 0 else uv z) = uv0 at hKB0 hapB
        have HKB := Lib.hid hKB0
        clear hWB hKB0 HK hb4 k0 k1 k2 k3 k4 k5 k6 k7 x0 x1 x2 x3 xf0 xf1 xf2 xf3 hK HTW HB4 m1 m2
        refine (dir31 d i N2 HD.out.1 HD.out.2.1 hat WB hTB).mono ?_
        rintro e' w5 ⟨vd, rfl, hvd, hvb, hb5⟩
        obtain ⟨Ad, cd, rfl, -, -, -⟩ := id hvd
        have hdl : (natL (dirs d i)).length = d := by unfold natL; rw [List.length_map, dirs_length]
        rw [hdl] at hvd hvb ⊢
        have hs5 := hb5.size
        have hB35 : Below wo.heap.size wo w5 := hB3W.trans (hb5.mono hB3W.size)
        have HB5 := Lib.hid (HB3.out.under hB35)
        have HK5 := Lib.hid (HKB.out.below hb5)
        have hbox5 : w5.cell? ⟨w4.heap.size, 0, none⟩ = some (.slice (some ⟨b2, 0, none⟩) NN NN) := (hb5.cell (by show w4.heap.size < _; omega)).trans hboxB
        obtain ⟨S2, hS2⟩ : ∃ S2, w5.heap.size = S2 := ⟨_, rfl⟩
        have HVD := Lib.hid (And.intro hvd hvb)
        have HAP := Lib.hid hapB
        have HB35 := Lib.hid hB35
        have hd3 : d ≤ 3 := HD.out.1
        have hN15 : NN ≤ 15 := by have := HNN.out; have := HD.out.2.1; omega
        clear hvd hvb hb5 hTB hB3W hboxB HKB hapB hB35
        go_wp2_with fail
        go_loopg [88] (d + 1) (fun g v88 wr => ∃ (k : Nat) (uv' : Nat → Value), k ≤ d ∧ k + g = d + 1 ∧ v88 = .int .i64 k ∧ OwnK wo wr wo.heap.size b2 NN NN (addK n F d i ⟨m, e, p⟩ k) uv' ∧ Mid wo.heap.size w4.heap.size S2 w5 wr ∧ ∀ y, y < NN → ∀ q, (uv' y).ownBlock = some q → q < w4.heap.size ∨ S2 ≤ q)
        case atStart => exact ⟨0, uv0, by omega, by omega, rfl, HK5.out, by rw [← hS2]; exact Mid.start _, fun y hy q hq => .inl (HAP.out y hy q hq)⟩
        case round =>
          obtain ⟨k, uv', hk, hg2, rfl, hK, hM, hAP2⟩ := hrel
          have HG2 := Lib.hid hg2
          have HK := Lib.hid hK
          have HM := Lib.hid hM
          have HAP2 := Lib.hid hAP2
          have hsr := hM.size
          have hbr : b2 < wr.heap.size := hK.blt
          have hbox : wr.cell? ⟨w4.heap.size, 0, none⟩ = some (.slice (some ⟨b2, 0, none⟩) NN NN) := (hM.cell (by show w4.heap.size < _; omega) (.inr (Nat.le_refl _))).trans hbox5
          have hb4r : w4.heap.size < wr.heap.size := by omega
          have hdr := Mid.below hM hS2 (by have := HB35.out.size; omega)
          have HBR := Lib.hid (HB5.out.under2 hdr g7)
          clear hg2 hAP2
          by_cases hlt2 : k < d
          · obtain ⟨x, hx, hxn, hxo, hxt, htk⟩ := dirs_at hd3 (show i < 2 ^ d by rw [← HD.out.2.1]; exact hat) hlt2
            have hxN : x < NN := by have := HNN.out; rw [HD.out.2.1] at this; have := two_succ d; omega
            obtain ⟨bd, od, rfl, cd0⟩ := HVD.out.1.at (natL_get hx)
            have hbd1 : w4.heap.size ≤ bd := by have := HVD.out.2 bd rfl; omega
            have hbd2 : bd < w5.heap.size := World.block_lt_of_cell? _ _ cd0
            have cdk : wr.cell? ⟨bd, od + k, none⟩ = some (.int .i64 x) := (hM.cell (by show bd < _; omega) (.inr hbd1)).trans cd0
            have hbdr : bd < wr.heap.size := by omega
            obtain ⟨x0, x1, x2, x3⟩ := hK.cells hxN
            have xf := hK.row.frozen (x * 4 + 3)
            have hx2i : x ≠ 2 * i := by omega
            have hGx : addK n F d i ⟨m, e, p⟩ k x = pad n F x := by
              unfold addK
              rw [if_neg hx2i, if_neg (fun h => hxt h.1)]
            have hown := hK.un x hxN hxN
            rw [hGx] at x0 x1 x2 hown
            obtain ⟨Ax, cx, hux⟩ := hown.slice
            rw [hux] at x3 hown
            have j1 : (0 : Int) ≤ (k : Int) := by omega
            have j2 : (k : Int) < (d : Int) := by omega
            have j4 : (0 : Int) ≤ (x : Int) := by omega
            have j5 : (x : Int) < (NN : Int) := by omega
            have HX := Lib.hid (And.intro hxt (And.intro htk (And.intro hx2i hGx)))
            have hlen8 := HUN.out.1 x
            have HOWN := Lib.hid hown
            have HUX := Lib.hid hux
            clear hx hxt htk hx2i hGx hown hux cd0 x1 x2
            by_cases hpx : 0 < (pad n F x).pub
            · have t7 : decide (0 < (pad n F x).pub) = true := decide_eq_true hpx
              have HPX := Lib.hid hpx
              clear hpx
              generalize hpxx : (pad n F x).pub = px at *
              go_wp2_with fail
              refine (search32 _ _ i wr HOWN.out.ints (by omega) (HUN.out.2 x)).mono ?_
              rintro e' w' ⟨kk, bb, rfl, ⟨hkk, hins⟩, rfl⟩
              have HINS := Lib.hid hins
              clear hins
              go_wp2_with fail
              have hwA : Below wr.heap.size wr (wr.alloc (.cells #[.int .i64 (i : Int)] 3)) := (Below.refl _ _).alloc (Nat.le_refl _) _
              have hBsz : wo.heap.size ≤ (wr.alloc (.cells #[.int .i64 (i : Int)] 3)).heap.size := by have := HB35.out.size; simp; omega
              have hlt3 := World.ownsRow.lt HOWN.out
              refine (insert33 (HOWN.out.below hwA) hBsz hkk (by omega) (heap_alloc_new _ _) (fun e2 => by have := (hlt3 _ e2).2; omega)).mono ?_
              rintro e' w6 ⟨⟨u', rfl, ho, hlie⟩, hg6⟩
              rw [HINS.out] at ho
              obtain ⟨A6, c6, rfl⟩ := ho.slice
              have hbA : b2 < (wr.alloc (.cells #[.int .i64 (i : Int)] 3)).heap.size := by simp; omega
              have hnb := HK.out.nb x hxN hxN
              rw [HUX.out] at hnb
              have hb6 := hg6.block b2 hbA (fun e2 => hnb e2.symm)
              have y3 : w6.cell? ⟨b2, x * 4 + 3, none⟩ = some (.slice Ax (pad n F x).un.length cx) := by
                rw [World.cell?_of_block (a := ⟨b2, x * 4 + 3, none⟩) hb6, World.cell?_alloc_lt _ _ _ hbr]
                exact x3
              have yf : w6.frozen? ⟨b2, x * 4 + 3, none⟩ = false := by
                rw [World.frozen?_of_block (a := ⟨b2, x * 4 + 3, none⟩) hb6]
                exact (HK.out.below hwA).row.frozen _
              have hlt6 : b2 < w6.heap.size := Nat.lt_of_lt_of_le hbA hg6.size
              go_wp2_with fail
              go_roundg (gk - 1)
              case rel =>
                have hKA := HK.out.below hwA
                have hg7 := hg6
                rw [← HUX.out] at hg7 hlie
                have hK6 := hKA.insert hxN hg7 ho hlie
                have hap2 := HAP2.out x hxN
                refine ⟨k + 1, _, by omega, by have := HG2.out; omega, by go_num, hK6.congr fun y hy => ?_, ((HM.out.grown (World.grownBy_alloc wr _ none) (fun q h => by cases h)).grown hg7 (fun q hq => ?_)).grown (grownBy_set _ _ _ _) (fun q hq => ?_), fun y hy q hq => ?_⟩
                · rw [HX.out.2.2.2]
                  unfold addK
                  rw [HX.out.2.1]
                  by_cases e2 : y = x
                  · subst e2
                    have hpp : 0 < (pad n F y).pub := by rw [hpxx]; have := HPX.out; omega
                    have h2i := HX.out.2.2.1
                    simp [hpp, h2i]
                  · simp [e2]
                · rcases hap2 q hq with h1 | h1
                  · have := (World.ownsRow.lt (HK.out.un x hxN hxN) q hq).1
                    exact .inl ⟨this, h1⟩
                  · exact .inr h1
                · obtain rfl : b2 = q := Option.some.inj hq
                  exact .inl ⟨hb4B, b2lt⟩
                · by_cases e2 : y = x
                  · simp only [e2, if_true] at hq
                    rcases hlie with h1 | h1
                    · rw [h1] at hq
                      exact hap2 q hq
                    · rw [h1] at hq
                      have := Option.some.inj hq
                      simp at this
                      omega
                  · simp only [e2, if_false] at hq
                    exact HAP2.out y hy q hq
              case measure => have := HG2.out; omega
            · have t7 : decide (0 < (pad n F x).pub) = false := decide_eq_false hpx
              have HPX := Lib.hid hpx
              clear hpx
              generalize hpxx : (pad n F x).pub = px at *
              go_wp2_with fail
              go_roundg (gk - 1)
              case rel =>
                refine ⟨k + 1, uv', by omega, by have := HG2.out; omega, by go_num, HK.out.congr fun y hy => ?_, HM.out, HAP2.out⟩
                unfold addK
                rw [HX.out.2.1]
                by_cases e2 : y = x
                · subst e2
                  have hnp : ¬ 0 < (pad n F y).pub := by rw [hpxx]; have := HPX.out; omega
                  simp [hnp]
                · simp [e2]
              case measure => have := HG2.out; omega
          · obtain rfl : k = d := by omega
            obtain ⟨q0, q1, q2, q3, q4, q5, q6, q7⟩ := HBR.out
            have q8 := HBR.out.stored
            have hKe := HK.out.elsewhere (a := ⟨w.heap.size + 2, 0, none⟩) (by show w.heap.size + 2 < _; exact g7) (.slice (some ⟨b2, 0, none⟩) NN NN)
            have hKF := Lib.hid hKe
            clear hK hM hKe
            go_wp2_with fail
            refine bodyPost_ret (by simp [results, Tryz.results23, go_sem, q8]; rfl) rfl ?_
            refine HYES.out _ _ _ rfl ?_ (q0.setCell (by show w.heap.size ≤ w.heap.size + 2; omega) _)
            rw [← addK_full]
            exact hKF.out.trO (by unfold maxLen; omega) (by omega)
      · obtain rfl : i = L := by omega
        have hN2L : N2 = max 1 (2 * i) := by have := HADD.out; rw [if_pos hfb] at this; exact this
        have hi4 : i ≠ 8 := fun h => hok ⟨hfb, h⟩
        have t6 : ((i : Int) == (8 : Int)) = false := by rw [beq_eq_false_iff_ne]; omega
        have hmx : ∀ w, (Builtin.max_ #[3, 3] 3 #[.int .i64 1, .int .i64 (2 * (i : Int))]).run Tryz.prog w = .ok (.int .i64 (N2 : Nat)) w := fun w => by
          rw [run_max_int2]
          congr 2
          split <;> omega
        rw [hfb] at HYES hat
        have HN2 := Lib.hid hN2L
        clear hgo hg hfb HADD hN2L hok
        obtain ⟨wo, rfl⟩ : ∃ wo, wo = wr := ⟨_, rfl⟩
        obtain ⟨NN, hNN⟩ : ∃ NN, NN = 2 * N2 - 1 := ⟨_, rfl⟩
        have hiN : 2 * i < NN := by omega
        have m1 : (0 : Int) ≤ 2 * (i : Int) := by omega
        have m2 : 2 * (i : Int) < (NN : Int) := by omega
        rw [← hNN] at HYES
        have HTW := fun W hW => hTW W hW N2 rfl
        rw [← hNN] at HTW
        have HNN := Lib.hid hNN
        clear hTW hNN
        go_wp2_with fail
        refine (HTW _ HB3.out.bel).mono ?_
        rintro e' w4 ⟨b2, uv, rfl, hK, hb4⟩
        have HK := Lib.hid hK
        obtain ⟨k0, k1, k2, k3, k4, k5, k6, k7⟩ := HB3.out.under hb4
        have HB4 := Lib.hid (HB3.out.under hb4)
        have b2lt := hK.blt
        have k8 : w.heap.size + 1 < w4.heap.size := by omega
        have k9 : w.heap.size < w4.heap.size := by omega
        obtain ⟨x0, x1, x2, x3⟩ := hK.cells hiN
        have xf0 := hK.row.frozen (2 * i * 4)
        have xf1 := hK.row.frozen (2 * i * 4 + 1)
        have xf2 := hK.row.frozen (2 * i * 4 + 2)
        have xf3 := hK.row.frozen (2 * i * 4 + 3)
        go_wp2_with fail
        obtain ⟨WB, hWB⟩ : ∃ WB, WB = (((((w4.setCell ⟨b2, 2 * i * 4, none⟩ (.int .i64 p)).setCell ⟨b2, 2 * i * 4 + 1, none⟩ (.int .i64 m)).setCell ⟨b2, 2 * i * 4 + 2, none⟩ (.int .i64 e)).setCell ⟨b2, 2 * i * 4 + 3, none⟩ (.slice none 0 0)).alloc (.cells #[.slice (some ⟨b2, 0, none⟩) NN NN] 24)) := ⟨_, rfl⟩
        rw [← hWB]
        have hsWB : WB.heap.size = w4.heap.size + 1 := by rw [hWB]; simp
        have hb4B : wo.heap.size ≤ b2 := HK.out.hb
        have hB3W : Below wo.heap.size wo WB := by
          rw [hWB]
          exact ((((hb4.setCell hb4B _).setCell hb4B _).setCell hb4B _).setCell hb4B _).alloc (by simp; exact hb4.size) _
        have hKB0 : OwnK wo WB wo.heap.size b2 NN NN (addK n F d i ⟨m, e, p⟩ 0) (fun z => if z = 2 * i then .slice none 0 0 else uv z) := by
          rw [hWB]
          refine OwnK.congr ((HK.out.setNode hiN p m e HD.out.2.2.1).below ((Below.refl _ _).alloc (Nat.le_refl _) _)) fun y hy => ?_
          unfold addK
          by_cases e1 : y = 2 * i
          · simp [e1]
          · simp [e1]
        have hboxB : WB.cell? ⟨w4.heap.size, 0, none⟩ = some (.slice (some ⟨b2, 0, none⟩) NN NN) := by
          rw [hWB]
          have := cell_one_new ((((w4.setCell ⟨b2, 2 * i * 4, none⟩ (.int .i64 p)).setCell ⟨b2, 2 * i * 4 + 1, none⟩ (.int .i64 m)).setCell ⟨b2, 2 * i * 4 + 2, none⟩ (.int .i64 e)).setCell ⟨b2, 2 * i * 4 + 3, none⟩ (.slice none 0 0)) (.slice (some ⟨b2, 0, none⟩) NN NN) 24 0 _ rfl
          simpa [Addr.add] using this
        have hapB : ∀ y, y < NN → ∀ q, ((fun z => if z = 2 * i then Value.slice none 0 0 else uv z) y).ownBlock = some q → q < w4.heap.size := fun y hy q hq => by
          by_cases e1 : y = 2 * i
          · simp only [e1, if_true] at hq
            cases hq
          · simp only [e1, if_false] at hq
            exact (World.ownsRow.lt (HK.out.un y hy hy) q hq).2
        have hTB : Tab WB := HD.out.2.2.2.below hpos (HB3.out.bel.trans (hB3W.mono HB3.out.bel.size))
        generalize (fun z => if z = 2 * i then Value.slice none 0 0 else uv z) = uv0 at hKB0 hapB
        have HKB := Lib.hid hKB0
        clear hWB hKB0 HK hb4 k0 k1 k2 k3 k4 k5 k6 k7 x0 x1 x2 x3 xf0 xf1 xf2 xf3 hK HTW HB4 m1 m2
        refine (dir31 d i N2 HD.out.1 HD.out.2.1 hat WB hTB).mono ?_
        rintro e' w5 ⟨vd, rfl, hvd, hvb, hb5⟩
        obtain ⟨Ad, cd, rfl, -, -, -⟩ := id hvd
        have hdl : (natL (dirs d i)).length = d := by unfold natL; rw [List.length_map, dirs_length]
        rw [hdl] at hvd hvb ⊢
        have hs5 := hb5.size
        have hB35 : Below wo.heap.size wo w5 := hB3W.trans (hb5.mono hB3W.size)
        have HB5 := Lib.hid (HB3.out.under hB35)
        have HK5 := Lib.hid (HKB.out.below hb5)
        have hbox5 : w5.cell? ⟨w4.heap.size, 0, none⟩ = some (.slice (some ⟨b2, 0, none⟩) NN NN) := (hb5.cell (by show w4.heap.size < _; omega)).trans hboxB
        obtain ⟨S2, hS2⟩ : ∃ S2, w5.heap.size = S2 := ⟨_, rfl⟩
        have HVD := Lib.hid (And.intro hvd hvb)
        have HAP := Lib.hid hapB
        have HB35 := Lib.hid hB35
        have hd3 : d ≤ 3 := HD.out.1
        have hN15 : NN ≤ 15 := by have := HNN.out; have := HD.out.2.1; omega
        clear hvd hvb hb5 hTB hB3W hboxB HKB hapB hB35
        go_wp2_with fail
        go_loopg [88] (d + 1) (fun g v88 wr => ∃ (k : Nat) (uv' : Nat → Value), k ≤ d ∧ k + g = d + 1 ∧ v88 = .int .i64 k ∧ OwnK wo wr wo.heap.size b2 NN NN (addK n F d i ⟨m, e, p⟩ k) uv' ∧ Mid wo.heap.size w4.heap.size S2 w5 wr ∧ ∀ y, y < NN → ∀ q, (uv' y).ownBlock = some q → q < w4.heap.size ∨ S2 ≤ q)
        case atStart => exact ⟨0, uv0, by omega, by omega, rfl, HK5.out, by rw [← hS2]; exact Mid.start _, fun y hy q hq => .inl (HAP.out y hy q hq)⟩
        case round =>
          obtain ⟨k, uv', hk, hg2, rfl, hK, hM, hAP2⟩ := hrel
          have HG2 := Lib.hid hg2
          have HK := Lib.hid hK
          have HM := Lib.hid hM
          have HAP2 := Lib.hid hAP2
          have hsr := hM.size
          have hbr : b2 < wr.heap.size := hK.blt
          have hbox : wr.cell? ⟨w4.heap.size, 0, none⟩ = some (.slice (some ⟨b2, 0, none⟩) NN NN) := (hM.cell (by show w4.heap.size < _; omega) (.inr (Nat.le_refl _))).trans hbox5
          have hb4r : w4.heap.size < wr.heap.size := by omega
          have hdr := Mid.below hM hS2 (by have := HB35.out.size; omega)
          have HBR := Lib.hid (HB5.out.under2 hdr g7)
          clear hg2 hAP2
          by_cases hlt2 : k < d
          · obtain ⟨x, hx, hxn, hxo, hxt, htk⟩ := dirs_at hd3 (show i < 2 ^ d by rw [← HD.out.2.1]; exact hat) hlt2
            have hxN : x < NN := by have := HNN.out; rw [HD.out.2.1] at this; have := two_succ d; omega
            obtain ⟨bd, od, rfl, cd0⟩ := HVD.out.1.at (natL_get hx)
            have hbd1 : w4.heap.size ≤ bd := by have := HVD.out.2 bd rfl; omega
            have hbd2 : bd < w5.heap.size := World.block_lt_of_cell? _ _ cd0
            have cdk : wr.cell? ⟨bd, od + k, none⟩ = some (.int .i64 x) := (hM.cell (by show bd < _; omega) (.inr hbd1)).trans cd0
            have hbdr : bd < wr.heap.size := by omega
            obtain ⟨x0, x1, x2, x3⟩ := hK.cells hxN
            have xf := hK.row.frozen (x * 4 + 3)
            have hx2i : x ≠ 2 * i := by omega
            have hGx : addK n F d i ⟨m, e, p⟩ k x = pad n F x := by
              unfold addK
              rw [if_neg hx2i, if_neg (fun h => hxt h.1)]
            have hown := hK.un x hxN hxN
            rw [hGx] at x0 x1 x2 hown
            obtain ⟨Ax, cx, hux⟩ := hown.slice
            rw [hux] at x3 hown
            have j1 : (0 : Int) ≤ (k : Int) := by omega
            have j2 : (k : Int) < (d : Int) := by omega
            have j4 : (0 : Int) ≤ (x : Int) := by omega
            have j5 : (x : Int) < (NN : Int) := by omega
            have HX := Lib.hid (And.intro hxt (And.intro htk (And.intro hx2i hGx)))
            have hlen8 := HUN.out.1 x
            have HOWN := Lib.hid hown
            have HUX := Lib.hid hux
            clear hx hxt htk hx2i hGx hown hux cd0 x1 x2
            by_cases hpx : 0 < (pad n F x).pub
            · have t7 : decide (0 < (pad n F x).pub) = true := decide_eq_true hpx
              have HPX := Lib.hid hpx
              clear hpx
              generalize hpxx : (pad n F x).pub = px at *
              go_wp2_with fail
              refine (search32 _ _ i wr HOWN.out.ints (by omega) (HUN.out.2 x)).mono ?_
              rintro e' w' ⟨kk, bb, rfl, ⟨hkk, hins⟩, rfl⟩
              have HINS := Lib.hid hins
              clear hins
              go_wp2_with fail
              have hwA : Below wr.heap.size wr (wr.alloc (.cells #[.int .i64 (i : Int)] 3)) := (Below.refl _ _).alloc (Nat.le_refl _) _
              have hBsz : wo.heap.size ≤ (wr.alloc (.cells #[.int .i64 (i : Int)] 3)).heap.size := by have := HB35.out.size; simp; omega
              have hlt3 := World.ownsRow.lt HOWN.out
              refine (insert33 (HOWN.out.below hwA) hBsz hkk (by omega) (heap_alloc_new _ _) (fun e2 => by have := (hlt3 _ e2).2; omega)).mono ?_
              rintro e' w6 ⟨⟨u', rfl, ho, hlie⟩, hg6⟩
              rw [HINS.out] at ho
              obtain ⟨A6, c6, rfl⟩ := ho.slice
              have hbA : b2 < (wr.alloc (.cells #[.int .i64 (i : Int)] 3)).heap.size := by simp; omega
              have hnb := HK.out.nb x hxN hxN
              rw [HUX.out] at hnb
              have hb6 := hg6.block b2 hbA (fun e2 => hnb e2.symm)
              have y3 : w6.cell? ⟨b2, x * 4 + 3, none⟩ = some (.slice Ax (pad n F x).un.length cx) := by
                rw [World.cell?_of_block (a := ⟨b2, x * 4 + 3, none⟩) hb6, World.cell?_alloc_lt _ _ _ hbr]
                exact x3
              have yf : w6.frozen? ⟨b2, x * 4 + 3, none⟩ = false := by
                rw [World.frozen?_of_block (a := ⟨b2, x * 4 + 3, none⟩) hb6]
                exact (HK.out.below hwA).row.frozen _
              have hlt6 : b2 < w6.heap.size := Nat.lt_of_lt_of_le hbA hg6.size
              go_wp2_with fail
              go_roundg (gk - 1)
              case rel =>
                have hKA := HK.out.below hwA
                have hg7 := hg6
                rw [← HUX.out] at hg7 hlie
                have hK6 := hKA.insert hxN hg7 ho hlie
                have hap2 := HAP2.out x hxN
                refine ⟨k + 1, _, by omega, by have := HG2.out; omega, by go_num, hK6.congr fun y hy => ?_, ((HM.out.grown (World.grownBy_alloc wr _ none) (fun q h => by cases h)).grown hg7 (fun q hq => ?_)).grown (grownBy_set _ _ _ _) (fun q hq => ?_), fun y hy q hq => ?_⟩
                · rw [HX.out.2.2.2]
                  unfold addK
                  rw [HX.out.2.1]
                  by_cases e2 : y = x
                  · subst e2
                    have hpp : 0 < (pad n F y).pub := by rw [hpxx]; have := HPX.out; omega
                    have h2i := HX.out.2.2.1
                    simp [hpp, h2i]
                  · simp [e2]
                · rcases hap2 q hq with h1 | h1
                  · have := (World.ownsRow.lt (HK.out.un x hxN hxN) q hq).1
                    exact .inl ⟨this, h1⟩
                  · exact .inr h1
                · obtain rfl : b2 = q := Option.some.inj hq
                  exact .inl ⟨hb4B, b2lt⟩
                · by_cases e2 : y = x
                  · simp only [e2, if_true] at hq
                    rcases hlie with h1 | h1
                    · rw [h1] at hq
                      exact hap2 q hq
                    · rw [h1] at hq
                      have := Option.some.inj hq
                      simp at this
                      omega
                  · simp only [e2, if_false] at hq
                    exact HAP2.out y hy q hq
              case measure => have := HG2.out; omega
            · have t7 : decide (0 < (pad n F x).pub) = false := decide_eq_false hpx
              have HPX := Lib.hid hpx
              clear hpx
              generalize hpxx : (pad n F x).pub = px at *
              go_wp2_with fail
              go_roundg (gk - 1)
              case rel =>
                refine ⟨k + 1, uv', by omega, by have := HG2.out; omega, by go_num, HK.out.congr fun y hy => ?_, HM.out, HAP2.out⟩
                unfold addK
                rw [HX.out.2.1]
                by_cases e2 : y = x
                · subst e2
                  have hnp : ¬ 0 < (pad n F y).pub := by rw [hpxx]; have := HPX.out; omega
                  simp [hnp]
                · simp [e2]
              case measure => have := HG2.out; omega
          · obtain rfl : k = d := by omega
            obtain ⟨q0, q1, q2, q3, q4, q5, q6, q7⟩ := HBR.out
            have q8 := HBR.out.stored
            have hKe := HK.out.elsewhere (a := ⟨w.heap.size + 2, 0, none⟩) (by show w.heap.size + 2 < _; exact g7) (.slice (some ⟨b2, 0, none⟩) NN NN)
            have hKF := Lib.hid hKe
            clear hK hM hKe
            go_wp2_with fail
            refine bodyPost_ret (by simp [results, Tryz.results23, go_sem, q8]; rfl) rfl ?_
            refine HYES.out _ _ _ rfl ?_ (q0.setCell (by show w.heap.size ≤ w.heap.size + 2; omega) _)
            rw [← addK_full]
            exact hKF.out.trO (by unfold maxLen; omega) (by omega)
end Go.Proofs.YtnahhclflnjmcaaGreatDoor
