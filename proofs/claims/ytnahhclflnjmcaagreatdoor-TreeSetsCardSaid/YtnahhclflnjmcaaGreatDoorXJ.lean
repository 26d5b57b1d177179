/- Chapter 08's own resolution. -/
import Derived.Test.YtnahhclflnjmcaaGreatDoorX1
import Derived.Test.YtnahhclflnjmcaaGreatDoorA4
import Derived.Deep.RegionHeld3
import Derived.Deep.DeepCutAuto
import Derived.Deep.RegionWith
namespace Go.Proofs.YtnahhclflnjmcaaGreatDoor
open Go Go.RowKit
set_option linter.unusedVariables false
set_option linter.unusedSimpArgs false
set_option maxRecDepth 100000

theorem step_append_ints {ops : Array Oper} {o : Oper} {a : Act} {w : World} {K : Act → World → Prop} {Q : Exit → Act → World → Prop} {E : Prop} {B : Nat} {v x : Value} {l m : List Int} (hgd : o.guard = none) (s y : Operand) (ho : o.op = .call { callee := .builtin .append, args := #[s, y], argTypes := #[31, 31] })
    (hs : a.eval s = v) (hy : a.eval y = x) (hown : Hid (OwnI w B v l)) (hx : Hid (Ints w x m)) (hB : B ≤ w.heap.size) (hl : l.length + m.length < 4294967296)
    (h : ∀ v' w', OwnI w' B v' (l ++ m) → Below B w w' → K (a.put o.dst v') w') : if Region.wanted o (yielded ops a.tmps) = true then Oper.wp Tryz.prog o a w K Q else E := by
  have hw : Region.wanted o (yielded ops a.tmps) = true := by simp [Region.wanted, hgd]
  rw [if_pos hw]
  obtain ⟨v', w', hr, h1, h2, h3⟩ := run_append_ints o.type hown.out hx.out (Below.refl B w) hB hl
  unfold Oper.wp
  simp [execOp, ho, resolve, invoke, builtin, hs, hy, hr, Result.andThen]
  exact h v' w' h1 h2
/-- The boxes of resolution: the tree, the node. -/
structure RsB (w : World) (v : Value) (a : Node) (u : Value) (W : World) : Prop where
  bel : Below w.heap.size w W
  sz : W.heap.size = w.heap.size + 2
  r0 : W.heap[w.heap.size]? = some (.cells #[v] 24 (0, 0))
  r1 : W.heap[w.heap.size + 1]? = some (.cells #[.int .i64 a.pub, .int .i64 a.mem, .int .i64 a.ep, u] 95 (0, 0))
theorem RsB.start (w : World) (v : Value) (a : Node) (u : Value) : RsB w v a u ((w.alloc (.cells #[v] 24)).alloc (.cells #[.int .i64 a.pub, .int .i64 a.mem, .int .i64 a.ep, u] 95)) := by
  refine ⟨((Below.refl _ _).alloc (Nat.le_refl _) _).alloc (by simp) _, by simp, ?_, ?_⟩
  · rw [Below.heap_alloc _ _ _ (by simp)]
    exact heap_alloc_new _ _
  · have := heap_alloc_new (w.alloc (.cells #[v] 24)) (.cells #[.int .i64 a.pub, .int .i64 a.mem, .int .i64 a.ep, u] 95)
    rw [show (w.alloc (.cells #[v] 24)).heap.size = w.heap.size + 1 by simp] at this
    exact this
set_option maxHeartbeats 4000000 in
theorem rres_pub (b o n c : Nat) (F : Nat → Node) (x k : Nat) (w0 w : World) (hn : n ≤ 15) (hN : ∀ y, y < n → NdAt w0 b (o + y * 4) (F y)) (hu : ∀ y, y < n → (F y).un.length ≤ 8) (hr : ∀ y, y < n → ∀ u ∈ (F y).un, 0 ≤ u ∧ u ≤ 15)
    (hx : x < n) (hw : Below w0.heap.size w0 w) (hp : 0 < (F x).pub) :
    Calls Tryz.prog 173 #[.agg #[.slice (some ⟨b, o, none⟩) n c], .int .i64 x] w fun e w' => ∃ v', e = .returned v' ∧ OwnI w' w.heap.size v' ((x : Int) :: (F x).un.map (2 * ·)) ∧ Below w.heap.size w w' := by
  obtain ⟨e0, e1, e2, ⟨A, cc, e3, hI⟩, hwf⟩ := hN x hx
  have eb := World.block_lt_of_cell? _ _ e0
  have c0 := (hw.cell (p := ⟨b, o + x * 4, none⟩) eb).trans e0
  have c1 := (hw.cell (p := ⟨b, o + x * 4 + 1, none⟩) eb).trans e1
  have c2 := (hw.cell (p := ⟨b, o + x * 4 + 2, none⟩) eb).trans e2
  have c3 := (hw.cell (p := ⟨b, o + x * 4 + 3, none⟩) eb).trans e3
  have hb0 : b < w.heap.size := World.block_lt_of_cell? _ _ c0
  have q1 : (0 : Int) ≤ (x : Int) := by omega
  have q2 : (x : Int) < n := by omega
  have t1 : ((F x).pub != 0) = true := by rw [bne_iff_ne]; omega
  have hul := hu x hx
  have HR := Lib.hid (hr x hx)
  have HI := Lib.hid (hI.below hw)
  clear hI hN hu hr hp e0 e1 e2 e3 eb
  generalize (F x).pub = p at *
  generalize (F x).mem = m at *
  generalize (F x).ep = e at *
  generalize (F x).un = us at *
  generalize hus : us.length = kk at *
  have HU := Lib.hid hus
  clear hus
  obtain ⟨W1, hW1⟩ : ∃ W1, W1 = (w.alloc (.cells #[.slice (some ⟨b, o, none⟩) n c] 24)).alloc (.cells #[.int .i64 p, .int .i64 m, .int .i64 e, .slice A kk cc] 95) := ⟨_, rfl⟩
  have hst := RsB.start w (.slice (some ⟨b, o, none⟩) n c) ⟨p, m, e, us⟩ (.slice A kk cc)
  simp only at hst
  rw [← hW1] at hst
  obtain ⟨hb1, hs1, r0, r1⟩ := hst
  have hb12 : Below W1.heap.size W1 (W1.alloc (.cells #[.int .i64 x] 3)) := (Below.refl _ _).alloc (Nat.le_refl _) _
  have how : OwnI (W1.alloc (.cells #[.int .i64 x] 3)) W1.heap.size (.slice (some ⟨W1.heap.size, 0, none⟩) 1 1) [(x : Int)] := ⟨rfl, .inr ⟨W1.heap.size, 1, #[.int .i64 x], rfl, Nat.le_refl _, heap_alloc_new _ _, Nat.le_refl _, by unfold maxLen; omega, rfl, rfl⟩⟩
  have HB := Lib.hid (And.intro hb1 (And.intro hs1 (And.intro r0 r1)))
  have HOW := Lib.hid (And.intro how hb12)
  have d0 : W1.cell? ⟨w.heap.size + 1, 0, none⟩ = some (.int .i64 p) := by rw [cell_of_row _ _ _ _ _ _ r1]; rfl
  have hs9 : w.heap.size + 1 < W1.heap.size := by omega
  clear hb1 r0 r1 how hb12
  go_enter Tryz.func173, Tryz.ntmps173
  go_upto_region 2 with fail
  rw [← hW1]
  clear hW1 c0 c1 c2 c3
  go_wp2_with fail
  go_loopg [6, 7] (kk + 1) (fun g v6 v7 wr => ∃ i : Nat, i ≤ kk ∧ i + g = kk + 1 ∧ v7 = .int .i64 (i : Int) ∧ Hid (OwnI wr W1.heap.size v6 ((x : Int) :: (us.take i).map (2 * ·)) ∧ Below W1.heap.size W1 wr))
  case atStart => exact ⟨0, by omega, by omega, rfl, Lib.hid ⟨by have := HOW.out.1; rw [HB.out.2.1] at this ⊢; simpa using this, HOW.out.2⟩⟩
  case round =>
    obtain ⟨i, hi, hg, rfl, HT⟩ := hrel
    have HG := Lib.hid hg
    have hb := HT.out.2
    have hB := hb.size
    have hown := Lib.hid HT.out.1
    have d3 : wr.cell? ⟨w.heap.size + 1, 3, none⟩ = some (.slice A kk cc) := by
      rw [hb.cell (by show w.heap.size + 1 < _; omega), cell_of_row _ _ _ _ _ _ HB.out.2.2.2]; rfl
    have hs8 : w.heap.size + 1 < wr.heap.size := World.block_lt_of_cell? _ _ d3
    clear hg
    by_cases hlt : i < kk
    · obtain ⟨u, hu⟩ : ∃ u, us[i]? = some u := ⟨us[i]'(by have := HU.out; omega), List.getElem?_eq_getElem _⟩
      obtain ⟨bu, ou, rfl, cu0⟩ := HI.out.at hu
      have hbu0 : bu < w.heap.size := World.block_lt_of_cell? _ _ cu0
      have hbw : Below w.heap.size w wr := HB.out.1.trans (hb.mono HB.out.1.size)
      have cu : wr.cell? ⟨bu, ou + i, none⟩ = some (.int .i64 u) := (hbw.cell hbu0).trans cu0
      have hbu : bu < wr.heap.size := World.block_lt_of_cell? _ _ cu
      have hru := HR.out u (List.mem_of_getElem? hu)
      have i1 : (0 : Int) ≤ i := by omega
      have i2 : (i : Int) < kk := by omega
      have v1 : IntKind.i64.wrap (2 * u) = 2 * u := by rw [IntKind.wrap_i64]; omega
      obtain ⟨TT, hTT⟩ : ∃ TT, TT = (x : Int) :: (us.take i).map (2 * ·) := ⟨_, rfl⟩
      have HTT := Lib.hid (show (x : Int) :: (us.take (i + 1)).map (2 * ·) = TT ++ [2 * u] by
        rw [hTT, List.take_add_one, hu]; simp)
      have HLEN : Hid (TT.length < 4294967296) := Lib.hid (by rw [hTT]; simp; omega)
      rw [← hTT] at hown
      clear hTT hu cu0 hbw
      go_wp2_with (at_builtin; refine push rfl _ _ rfl rfl rfl hown hb hB HLEN.out ?_)
      intro v' w' h1 h2 h3
      have H1 := Lib.hid (And.intro h1 h2)
      clear h1 h2 hown
      go_wp2_with fail
      go_roundg (gk - 1)
      case rel => exact ⟨i + 1, by omega, by have := HG.out; omega, by go_num, Lib.hid ⟨by rw [HTT.out, HB.out.2.1]; exact H1.out.1, by rw [HB.out.2.1]; exact H1.out.2⟩⟩
      case measure => have := HG.out; omega
    · obtain rfl : i = kk := by omega
      have hO := HT.out.1
      rw [show us.take i = us from List.take_of_length_le (by have := HU.out; omega)] at hO
      have HO := Lib.hid (And.intro (own_lower HB.out.1.size hO) (HB.out.1.trans (hb.mono HB.out.1.size)))
      clear hown hO hlt
      go_wp2_with fail
      go_ret
      exact ⟨_, rfl, HO.out.1, HO.out.2⟩
theorem heldb_drew {wr w' : World} {p : Addr} {x : Value} (h : w'.cell? p = some x ∧ Below wr.heap.size wr w') : w'.drew.cell? p = some x ∧ Below wr.heap.size wr w'.drew := ⟨h.1, h.2.drew⟩
theorem heldb_call {wr w' w'' : World} {p : Addr} {x : Value} {B : Nat} (h : w'.cell? p = some x ∧ Below wr.heap.size wr w') (hb : Below B w' w'') (hp : p.block < B) (hB : wr.heap.size ≤ B) : w''.cell? p = some x ∧ Below wr.heap.size wr w'' :=
  ⟨(hb.cell hp).trans h.1, h.2.trans (hb.mono hB)⟩
theorem heldc_call {wr w' w'' : World} {p : Addr} {x : Value} (h : w'.cell? p = some x ∧ Below wr.heap.size wr w') (hb : Below w'.heap.size w' w'') : w''.cell? p = some x ∧ Below wr.heap.size wr w'' :=
  ⟨(hb.cell (World.block_lt_of_cell? _ _ h.1)).trans h.1, h.2.trans (hb.mono h.2.size)⟩
theorem heldc_mid {wr w' : World} {p : Addr} {x : Value} (h : w'.cell? p = some x ∧ Below wr.heap.size wr w') : Below wr.heap.size wr w' := h.2
theorem heldc_lt {wr w' : World} {p : Addr} {x : Value} {g : Nat} (hg : g < wr.heap.size) (h : w'.cell? p = some x ∧ Below wr.heap.size wr w') : g < w'.heap.size := Nat.lt_of_lt_of_le hg h.2.size
set_option maxHeartbeats 8000000 in
theorem rres (b o n c : Nat) (F : Nat → Node) (w0 : World) (hnl : lvs n ≠ 0) (hN : ∀ y, y < n → NdAt w0 b (o + y * 4) (F y)) (hu : ∀ y, y < n → (F y).un.length ≤ 8) (hu2 : ∀ y, (F y).un.length ≤ 8) (hr : ∀ y, y < n → ∀ u ∈ (F y).un, 0 ≤ u ∧ u ≤ 15) (hpp : ∀ y, y < n → 0 ≤ (F y).pub) :
    ∀ (k x j : Nat), Nd x k j → x < n → ∀ (w : World), Below w0.heap.size w0 w →
    Calls Tryz.prog 173 #[.agg #[.slice (some ⟨b, o, none⟩) n c], .int .i64 x] w fun e w' => ∃ v', e = .returned v' ∧ OwnI w' w.heap.size v' (resM F k x) ∧ Below w.heap.size w w' := by
  have hn15 := (lvs_le hnl).2
  intro k
  induction k with
  | zero =>
    intro x j hx hxn w hw
    by_cases hp : 0 < (F x).pub
    · have := rres_pub b o n c F x 0 w0 w hn15 hN hu hr hxn hw hp
      unfold resM
      rw [if_pos hp]
      exact this
    · have hres : resM F 0 x = [] := by unfold resM; rw [if_neg hp]
      rw [hres]
      obtain ⟨e0, e1, e2, ⟨A, cc, e3, hI⟩, hwf⟩ := hN x hxn
      have eb := World.block_lt_of_cell? _ _ e0
      have c0 := (hw.cell (p := ⟨b, o + x * 4, none⟩) eb).trans e0
      have c1 := (hw.cell (p := ⟨b, o + x * 4 + 1, none⟩) eb).trans e1
      have c2 := (hw.cell (p := ⟨b, o + x * 4 + 2, none⟩) eb).trans e2
      have c3 := (hw.cell (p := ⟨b, o + x * 4 + 3, none⟩) eb).trans e3
      have hb0 : b < w.heap.size := World.block_lt_of_cell? _ _ c0
      have q1 : (0 : Int) ≤ (x : Int) := by omega
      have q2 : (x : Int) < n := by omega
      have t1 : ((F x).pub != 0) = false := by
        have := hpp x hxn
        rw [show (F x).pub = 0 by omega]; rfl
      have hodd := hx.odd
      have t2 : ((x : Int) % 2 == 0) = true := by rw [beq_iff_eq]; omega
      have HB := Lib.hid ((((Below.refl w.heap.size w).alloc (Nat.le_refl _) (.cells #[.slice (some ⟨b, o, none⟩) n c] 24)).alloc (by simp) (.cells #[.int .i64 (F x).pub, .int .i64 (F x).mem, .int .i64 (F x).ep, .slice A (F x).un.length cc] 95)))
      clear hI hN hu hu2 hr hpp hp e0 e1 e2 e3 eb hres hodd hx
      generalize (F x).pub = p at *
      generalize (F x).mem = m at *
      generalize (F x).ep = e at *
      generalize (F x).un.length = us at *
      go_enter Tryz.func173, Tryz.ntmps173
      go_wp2_with fail
      go_ret
      exact ⟨_, rfl, World.ownsRow_nil _ _ _ _, HB.out⟩
  | succ k ih =>
    intro x j hx hxn w hw
    by_cases hp : 0 < (F x).pub
    · have := rres_pub b o n c F x (k + 1) w0 w hn15 hN hu hr hxn hw hp
      unfold resM
      rw [if_pos hp]
      exact this
    · have hres : resM F (k + 1) x = resM F k (x - 2 ^ k) ++ resM F k (x + 2 ^ k) := by rw [resM, if_neg hp]
      rw [hres]
      obtain ⟨e0, e1, e2, ⟨A, cc, e3, hI⟩, hwf⟩ := hN x hxn
      have eb := World.block_lt_of_cell? _ _ e0
      have c0 := (hw.cell (p := ⟨b, o + x * 4, none⟩) eb).trans e0
      have c1 := (hw.cell (p := ⟨b, o + x * 4 + 1, none⟩) eb).trans e1
      have c2 := (hw.cell (p := ⟨b, o + x * 4 + 2, none⟩) eb).trans e2
      have c3 := (hw.cell (p := ⟨b, o + x * 4 + 3, none⟩) eb).trans e3
      have hb0 : b < w.heap.size := World.block_lt_of_cell? _ _ c0
      have q1 : (0 : Int) ≤ (x : Int) := by omega
      have q2 : (x : Int) < n := by omega
      have t1 : ((F x).pub != 0) = false := by
        have := hpp x hxn
        rw [show (F x).pub = 0 by omega]; rfl
      have hodd := hx.odd
      have t2 : ((x : Int) % 2 == 0) = false := by rw [beq_eq_false_iff_ne]; omega
      obtain ⟨kr, kl⟩ := kid_lt hnl hxn hx
      obtain ⟨n1, n2⟩ := hx.kids
      have hk60 : k + 1 ≤ 62 := by
        have := hx.level_lt (n := 5) (by omega)
        omega
      have hLf : ∀ W, Calls Tryz.prog 263 #[.int .i64 x] W fun e w' => e = .returned (.tuple #[.int .i64 (x - 2 ^ k : Nat), .bool true]) ∧ W = w' := fun W => by
        have := rleft_yes x (k + 1) j hx (by omega) (by omega) W
        rw [Nat.add_sub_cancel] at this
        exact this
      have hRt : ∀ W, Calls Tryz.prog 264 #[.int .i64 x] W fun e w' => e = .returned (.tuple #[.int .i64 (x + 2 ^ k : Nat), .bool true]) ∧ W = w' := fun W => by
        have := rright_yes x (k + 1) j hx (by omega) (by omega) hk60 W
        rw [Nat.add_sub_cancel] at this
        exact this
      obtain ⟨W1, hW1⟩ : ∃ W1, W1 = ((w.alloc (.cells #[.slice (some ⟨b, o, none⟩) n c] 24)).alloc (.cells #[.int .i64 (F x).pub, .int .i64 (F x).mem, .int .i64 (F x).ep, .slice A (F x).un.length cc] 95)) := ⟨_, rfl⟩
      have hst := RsB.start w (.slice (some ⟨b, o, none⟩) n c) (F x) (.slice A (F x).un.length cc)
      rw [← hW1] at hst
      have h01 : Below w0.heap.size w0 W1 := hw.trans (hst.bel.mono hw.size)
      have hbox : W1.cell? ⟨w.heap.size, 0, none⟩ = some (.slice (some ⟨b, o, none⟩) n c) := by rw [cell_of_row _ _ _ _ _ _ hst.r0]; rfl
      have hwW := World.block_lt_of_cell? _ _ hbox
      have d0 : W1.cell? ⟨w.heap.size + 1, 0, none⟩ = some (.int .i64 (F x).pub) := by rw [cell_of_row _ _ _ _ _ _ hst.r1]; rfl
      have hl1 := resM_length (n := n) hu2 k (x - 2 ^ k)
      have hl2 := resM_length (n := n) hu2 k (x + 2 ^ k)
      have hk3 : k ≤ 3 := by
        have := hx.level_lt (n := 5) (by omega)
        omega
      have h2k : 2 ^ k ≤ 2 ^ 3 := Nat.pow_le_pow_right (by decide) hk3
      have hlen : (resM F k (x - 2 ^ k)).length + (resM F k (x + 2 ^ k)).length < 4294967296 := by omega
      have HI1 : Hid (∀ W, Below W1.heap.size W1 W → Calls Tryz.prog 173 #[.agg #[.slice (some ⟨b, o, none⟩) n c], .int .i64 (x - 2 ^ k : Nat)] W fun e w' => ∃ v', e = .returned v' ∧ OwnI w' W1.heap.size v' (resM F k (x - 2 ^ k)) ∧ Below W.heap.size W w') := Lib.hid fun W hW => (ih (x - 2 ^ k) _ n1 (by omega) W (h01.trans (hW.mono h01.size))).mono fun e w' h => by
        obtain ⟨v', h1, h2, h3⟩ := h
        exact ⟨v', h1, own_lower hW.size h2, h3⟩
      have HI2 := Lib.hid (fun (W : World) (hW : Below W1.heap.size W1 W) => ih (x + 2 ^ k) _ n2 kr W (h01.trans (hW.mono h01.size)))
      have HST := Lib.hid hst.bel
      have hHeld : W1.cell? ⟨w.heap.size, 0, none⟩ = some (.slice (some ⟨b, o, none⟩) n c) ∧ Below W1.heap.size W1 W1 := ⟨hbox, Below.refl _ _⟩
      have HL := Lib.hid hlen
      clear ih hI hN hu hu2 hr hpp hp e0 e1 e2 e3 eb hres hodd hx kr kl n1 n2 hst h01 hl1 hl2 hlen h2k
      generalize resM F k (x - 2 ^ k) = l1 at *
      generalize resM F k (x + 2 ^ k) = l2 at *
      generalize x - 2 ^ k = xl at *
      generalize x + 2 ^ k = xr at *
      generalize (F x).pub = p at *
      generalize (F x).mem = m at *
      generalize (F x).ep = e at *
      generalize (F x).un.length = us at *
      go_enter Tryz.func173, Tryz.ntmps173
      go_upto_region 2 with fail
      rw [← hW1]
      clear hW1 c0 c1 c2 c3
      have hs9 : w.heap.size + 1 < W1.heap.size := World.block_lt_of_cell? _ _ d0
      go_wp2_with (first | (go_at_call 263; refine (hLf _).mono ?_; rintro e' w' ⟨rfl, rfl⟩) | (go_at_call 264; refine (hRt _).mono ?_; rintro e' w' ⟨rfl, rfl⟩))
      go_region_held3 (fun w' => w'.cell? ⟨w.heap.size, 0, none⟩ = some (.slice (some ⟨b, o, none⟩) n c) ∧ Below W1.heap.size W1 w') (first | assumption | exact heldb_drew (by assumption) | exact heldc_call (by assumption) (by assumption) | exact heldb_call (by assumption) hAP hwW (Nat.le_refl _)) (first
        | (go_at_call 173; with_reducible refine (HI1.out _ (heldc_mid (by assumption))).mono ?_; rintro e' wa ⟨va, rfl, hoa, hba⟩; obtain ⟨Aa, ca, rfl⟩ := hoa.slice)
        | (go_at_call 173; with_reducible refine (HI2.out _ (heldc_mid (by assumption))).mono ?_; rintro e' wb ⟨vb, rfl, hob, hbb⟩; obtain ⟨Ab, cb, rfl⟩ := hob.slice; have HAB := Lib.hid (hoa.below hbb); have HBI := Lib.hid hob.ints)
        | (with_reducible refine step_append_ints (B := W1.heap.size) (v := .slice Aa l1.length ca) (x := .slice Ab l2.length cb) rfl _ _ rfl rfl rfl HAB HBI (heldc_mid (by assumption)).size HL.out ?_; intro v' wf hof hAP))
      have HO := Lib.hid (And.intro (own_lower HST.out.size hof) (HST.out.trans ((heldc_mid (by assumption)).mono HST.out.size)))
      clear hof hAP hoa hob hba hbb
      go_wp2_with fail
      go_ret
      exact ⟨_, rfl, HO.out.1, HO.out.2⟩
end Go.Proofs.YtnahhclflnjmcaaGreatDoor
