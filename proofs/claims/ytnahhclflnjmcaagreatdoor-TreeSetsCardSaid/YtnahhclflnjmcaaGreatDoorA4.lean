import Derived.Test.YtnahhclflnjmcaaGreatDoorA3
import Derived.Deep.RegionHeld3
/- resolution. -/
namespace Go.Proofs.YtnahhclflnjmcaaGreatDoor
open Go Go.RowKit
set_option linter.unusedVariables false
set_option linter.unusedSimpArgs false
set_option maxRecDepth 100000

theorem lvN_eq {x k j : Nat} (hx : x < 31) (h : Nd x k j) : lvN x = k := (nd_lv hx).unique h
theorem kid_lt {n x k j : Nat} (hn : lvs n ≠ 0) (hx : x < n) (h : Nd x (k + 1) j) : x + 2 ^ k < n ∧ 2 ^ k ≤ x := by
  obtain ⟨d, hd, rfl⟩ := lvs_iff.1 hn
  have : ∀ d : Fin 4, ∀ x : Fin 16, ∀ k : Fin 4, x.val < 2 ^ (d.val + 1) - 1 → lvN x.val = k.val + 1 → x.val + 2 ^ k.val < 2 ^ (d.val + 1) - 1 ∧ 2 ^ k.val ≤ x.val := by decide
  have h4 : 2 ^ (d + 1) ≤ 2 ^ 4 := Nat.pow_le_pow_right (by decide) (by omega)
  have hk := h.level_lt (n := d + 1) (by omega)
  exact this ⟨d, by omega⟩ ⟨x, by omega⟩ ⟨k, by omega⟩ hx (lvN_eq (by omega) h)
theorem resM_length {F : Nat → Node} {n : Nat} (hu : ∀ y, (F y).un.length ≤ 8) : ∀ (k x : Nat), (resM F k x).length ≤ 9 * 2 ^ k
  | 0, x => by
    unfold resM
    have := hu x
    split <;> simp <;> omega
  | k + 1, x => by
    unfold resM
    have := hu x
    have h1 := resM_length (n := n) hu k (x - 2 ^ k)
    have h2 := resM_length (n := n) hu k (x + 2 ^ k)
    have h3 := two_succ k
    have h4 := two_pos k
    split
    · simp; omega
    · simp; omega
/-- A list's block is the elder one's, or new. -/
def Lies (w : World) (v v' : Value) : Prop := v'.ownBlock = v.ownBlock ∨ ∀ q, v'.ownBlock = some q → w.heap.size ≤ q
/-- What resolution leaves. -/
structure ResP (B : Nat) (v : Value) (l : List Int) (w : World) (e : Ending) (w' : World) : Prop where
  out : ∃ v', e = .returned v' ∧ OwnI w' B v' l ∧ Lies w v v'
  grown : w.grownBy w' v.ownBlock
theorem grow2 {w wr w' : World} {v v0 : Value} (h : w.grownBy wr v.ownBlock) (h2 : wr.grownBy w' v0.ownBlock) (hl : Lies w v v0) : w.grownBy w' v.ownBlock :=
  ⟨h2.os.trans h.os, h2.tape.trans h.tape, h2.output.trans h.output, Nat.le_trans h.size h2.size, fun k hk hne => by
    refine (h2.block k (Nat.lt_of_lt_of_le hk h.size) (fun e => ?_)).trans (h.block k hk hne)
    rcases hl with e2 | e2
    · exact hne (e.trans e2)
    · have := e2 k e.symm
      omega⟩
theorem lies2 {w wr : World} {v v0 v' : Value} (hs : w.heap.size ≤ wr.heap.size) (h : Lies w v v0) (h2 : Lies wr v0 v') : Lies w v v' := by
  rcases h2 with e | e
  · rcases h with e2 | e2
    · exact .inl (e.trans e2)
    · exact .inr fun q hq => e2 q (by rw [← e]; exact hq)
  · exact .inr fun q hq => Nat.le_trans hs (e q hq)
theorem grown_below {w w' : World} {B : Nat} {v : Value} {l : List Int} (ho : OwnI w B v l) (hg : w.grownBy w' v.ownBlock) (hB : B ≤ w.heap.size) : Below B w w' :=
  (Below.refl B w).grown hg hB (fun q hq => (World.ownsRow.lt ho q hq).1)
theorem lev_zero {x j : Nat} (h : Nd x 0 j) (hx : x ≤ 9223372036854775807) : lev (x : Int) < 1 := by
  unfold lev
  rw [if_neg (by omega)]
  have := lev_of x 0 j h hx
  rw [Int.toNat_natCast, this]
  decide
theorem pushx {ops : Array Oper} {rest : List Oper} {o : Oper} {a : Act} {Q : Exit → Act → World → Prop} {w : World} {B g : Nat} {v : Value} {l : List Int} {u : Int}
    (hgd : o.guard = none) (s x : Operand) (ho : o.op = .call { callee := .builtin .append, args := #[s, x], argTypes := #[31, 31] })
    (hs : a.eval s = v) (hx : a.eval x = .slice (some ⟨g, 0, none⟩) 1 1) (hown : Hid (OwnI w B v l)) (hB : B ≤ w.heap.size) (hg : g = w.heap.size) (hl : l.length < 4294967296)
    (h : ∀ v' w', OwnI w' B v' (l ++ [u]) → w.grownBy w' v.ownBlock → Lies w v v' → wpList Tryz.prog ops Q rest (a.put o.dst v') w') :
    wpList Tryz.prog ops Q (o :: rest) a (w.alloc (.cells #[.int .i64 u] 3)) := by
  subst hg
  obtain ⟨i0, hinf, hz0, hz1, hz2⟩ := info_parts info3
  have hown1 : w.ownsRow B 3 1 v l.length (l.map (Value.int .i64)) := hown.out
  refine wpList_append_lies _ hgd s x 31 ho B 3 i0 (.int .i64 0) 1 8 Tryz.underlying31 hinf hz0 hz1 hz2 rfl (by decide) v l.length (l.map (Value.int .i64)) hs (hown1.alloc _) ⟨w.heap.size, 0, none⟩ 1 1 [.int .i64 u] hx rfl (cell_one_new _ _ _)
    (by simp [Value.oneCell']) (by decide) (by unfold maxLen; omega) (by omega) (by simp; omega) (w.heap.size + 1) (by simp) (fun g cap w' h1 h2 h3 _ => h _ w' ?_ ?_ ?_)
  · show w'.ownsRow B 3 1 _ _ _
    rw [List.length_append, List.map_append]
    exact h1
  · exact (World.grownBy_alloc w _ _).trans h2
  · rcases h3 with h3 | h3
    · exact .inl (by rw [h3]; rfl)
    · exact .inr fun q hq => by
        obtain rfl : g = q := by simpa [Value.ownBlock] using hq
        omega
set_option maxHeartbeats 4000000 in
set_option maxRecDepth 100000 in
theorem res_pub (b o n c : Nat) (F : Nat → Node) (x k : Nat) (w0 w : World) (B : Nat) (v : Value) (L : List Int) (hn : n ≤ 15) (hN : ∀ y, y < n → NdAt w0 b (o + y * 4) (F y)) (hu : ∀ y, (F y).un.length ≤ 8) (hr : ∀ y, y < n → ∀ u ∈ (F y).un, 0 ≤ u ∧ u ≤ 15)
    (hx : x < n) (hw : Below w0.heap.size w0 w) (hB : w0.heap.size ≤ B) (hBw : B ≤ w.heap.size) (ho : OwnI w B v L) (hl : L.length ≤ 1000000) (hp : 0 < (F x).pub) :
    Calls Tryz.prog 168 #[v, .agg #[.slice (some ⟨b, o, none⟩) n c], .int .i64 x] w fun e w' => ResP B v (L ++ ((x : Int) :: (F x).un.map (2 * ·))) w e w' := by
  obtain ⟨e0, e1, e2, ⟨A, cc, e3, hI⟩, hwf⟩ := hN x hx
  have eb := World.block_lt_of_cell? _ _ e0
  have c0 := (hw.cell (p := ⟨b, o + x * 4, none⟩) eb).trans e0
  have c1 := (hw.cell (p := ⟨b, o + x * 4 + 1, none⟩) eb).trans e1
  have c2 := (hw.cell (p := ⟨b, o + x * 4 + 2, none⟩) eb).trans e2
  have c3 := (hw.cell (p := ⟨b, o + x * 4 + 3, none⟩) eb).trans e3
  have hb0 : b < w.heap.size := World.block_lt_of_cell? _ _ c0
  have q1 : (0 : Int) ≤ (x : Int) := by omega
  have q2 : (x : Int) < n := by omega
  have t1 : decide (0 < (F x).pub) = true := decide_eq_true hp
  have hbw0 : Below B w ((w.alloc (.cells #[.slice (some ⟨b, o, none⟩) n c] 24)).alloc (.cells #[.int .i64 (F x).pub, .int .i64 (F x).mem, .int .i64 (F x).ep, .slice A (F x).un.length cc] 95)) := ((Below.refl _ _).alloc hBw _).alloc (by simp; omega) _
  have hown := Lib.hid (ho.below (((Below.refl w.heap.size w).alloc (Nat.le_refl _) (.cells #[.slice (some ⟨b, o, none⟩) n c] 24)).alloc (by simp) (.cells #[.int .i64 (F x).pub, .int .i64 (F x).mem, .int .i64 (F x).ep, .slice A (F x).un.length cc] 95)))
  have hB2 := Nat.le_trans hBw hbw0.size
  have hul := hu x
  have HR := Lib.hid (hr x hx)
  have HO := Lib.hid ho
  have hw' := Lib.hid hI
  have HB0 := Lib.hid (And.intro hw hB)
  obtain ⟨Av, cv, rfl⟩ := ho.slice
  clear hI hN hu hr hp ho e0 e1 e2 e3 eb
  generalize (F x).pub = p at *
  generalize (F x).mem = m at *
  generalize (F x).ep = e at *
  generalize (F x).un = us at *
  generalize hus : us.length = kk at *
  have HU := Lib.hid hus
  clear hus
  have hvl := World.ownsRow.lt HO.out
  have hgw0 : w.grownBy ((w.alloc (.cells #[.slice (some ⟨b, o, none⟩) n c] 24)).alloc (.cells #[.int .i64 p, .int .i64 m, .int .i64 e, .slice A kk cc] 95)) (Value.slice Av L.length cv).ownBlock := (World.grownBy_alloc _ _ _).trans (World.grownBy_alloc _ _ _)
  go_enter Tryz.func168, Tryz.ntmps168
  go_wp2_with (at_builtin; refine pushx rfl _ _ rfl rfl rfl hown hB2 ?c0 ?c1 ?_)
  case c0 => simp
  case c1 => omega
  intro v' w2 h1 h2 hl2
  have H1 := Lib.hid h1
  have hd : w2.cell? ⟨w.heap.size + 1, 3, none⟩ = some (.slice A kk cc) := by
    refine (World.grownBy.cell h2 ?_ (fun e => ?_))
    · have := heap_alloc_new (w.alloc (.cells #[.slice (some ⟨b, o, none⟩) n c] 24)) (.cells #[.int .i64 p, .int .i64 m, .int .i64 e, .slice A kk cc] 95)
      rw [show (w.alloc (.cells #[.slice (some ⟨b, o, none⟩) n c] 24)).heap.size = w.heap.size + 1 by simp] at this
      rw [cell_of_row _ _ _ _ _ _ this]
      rfl
    · have := (hvl (w.heap.size + 1) e.symm).2
      omega
  have hd2 : w.heap.size + 1 < w2.heap.size := World.block_lt_of_cell? _ _ hd
  have hg2 := grow2 hgw0 h2 (.inl rfl)
  have hli2 : Lies w (Value.slice Av L.length cv) v' := lies2 hgw0.size (.inl rfl) hl2
  have HG2 := Lib.hid (And.intro hg2 hli2)
  clear h1 h2 hown hvl hl2 hg2 hli2 hgw0
  go_wp2_with fail
  go_loopg [0, 29] (kk + 1) (fun g v0 v29 wr => ∃ i : Nat, i ≤ kk ∧ i + g = kk + 1 ∧ v29 = .int .i64 i ∧ OwnI wr B v0 (L ++ ((x : Int) :: (us.take i).map (2 * ·))) ∧ w.grownBy wr (Value.slice Av L.length cv).ownBlock ∧ Lies w (Value.slice Av L.length cv) v0)
  case atStart => exact ⟨0, by omega, by omega, rfl, by simpa using H1.out, HG2.out.1, HG2.out.2⟩
  case round =>
    obtain ⟨i, hi, hg, rfl, hown, hgr, hlie⟩ := hrel
    have HG := Lib.hid (And.intro hg (And.intro hgr hlie))
    have HOWN := Lib.hid hown
    have hbel := grown_below HO.out hgr hBw
    have hBr : B ≤ wr.heap.size := Nat.le_trans hBw hbel.size
    clear hg hgr hlie
    by_cases hlt : i < kk
    · obtain ⟨u, hu⟩ : ∃ u, us[i]? = some u := ⟨us[i]'(by have := HU.out; omega), List.getElem?_eq_getElem _⟩
      obtain ⟨bu, ou, rfl, cu0⟩ := hw'.out.at hu
      have hbu0 : bu < w0.heap.size := World.block_lt_of_cell? _ _ cu0
      have hb0r : Below w0.heap.size w0 wr := HB0.out.1.trans (hbel.mono HB0.out.2)
      have cu : wr.cell? ⟨bu, ou + i, none⟩ = some (.int .i64 u) := (hb0r.cell hbu0).trans cu0
      have hbu : bu < wr.heap.size := World.block_lt_of_cell? _ _ cu
      have hru := HR.out u (List.mem_of_getElem? hu)
      have i1 : (0 : Int) ≤ i := by omega
      have i2 : (i : Int) < kk := by omega
      obtain ⟨TT, hTT⟩ : ∃ TT, TT = L ++ ((x : Int) :: (us.take i).map (2 * ·)) := ⟨_, rfl⟩
      have HT := Lib.hid (show L ++ ((x : Int) :: (us.take (i + 1)).map (2 * ·)) = TT ++ [2 * u] by
        rw [hTT, List.take_add_one, hu]; simp)
      have HLEN := Lib.hid (show TT.length < 4294967296 by rw [hTT]; simp; omega)
      rw [← hTT] at hown HOWN
      clear hTT hb0r
      obtain ⟨Ar, cr, rfl⟩ := hown.slice
      clear hu hown cu0
      go_wp2_with (at_builtin; refine pushx rfl _ _ rfl rfl rfl HOWN hBr ?c0 HLEN.out ?_)
      case c0 => simp
      intro v' w' h1 h2 h3
      have H1 := Lib.hid (And.intro h1 (And.intro h2 h3))
      clear h1 h2 h3
      go_wp2_with fail
      go_roundg (gk - 1)
      case rel => exact ⟨i + 1, by omega, by have := HG.out; omega, by go_num, by rw [HT.out]; exact H1.out.1, grow2 HG.out.2.1 H1.out.2.1 HG.out.2.2, lies2 HG.out.2.1.size HG.out.2.2 H1.out.2.2⟩
      case measure => have := HG.out; omega
    · obtain rfl : i = kk := by omega
      rw [show us.take i = us from List.take_of_length_le (by have := HU.out; omega)] at HOWN
      clear hown
      go_wp2_with fail
      go_ret
      exact ⟨⟨_, rfl, HOWN.out, HG.out.2.2⟩, HG.out.2.1⟩
set_option maxHeartbeats 4000000 in
set_option maxRecDepth 100000 in
theorem res37 (b o n c : Nat) (F : Nat → Node) (w0 : World) (B : Nat) (hT : Tab w0) (hnl : lvs n ≠ 0) (hN : ∀ y, y < n → NdAt w0 b (o + y * 4) (F y)) (hu : ∀ y, (F y).un.length ≤ 8) (hr : ∀ y, y < n → ∀ u ∈ (F y).un, 0 ≤ u ∧ u ≤ 15) (hB : w0.heap.size ≤ B) :
    ∀ (k x j : Nat), Nd x k j → x < n → ∀ (w : World) (v : Value) (L : List Int), Below w0.heap.size w0 w → B ≤ w.heap.size → OwnI w B v L → L.length + 9 * 2 ^ (k + 1) ≤ 1000000 →
    Calls Tryz.prog 168 #[v, .agg #[.slice (some ⟨b, o, none⟩) n c], .int .i64 x] w fun e w' => ResP B v (L ++ resM F k x) w e w' := by
  have hn15 := (lvs_le hnl).2
  have hpos := hT.pos
  intro k
  induction k with
  | zero =>
    intro x j hx hxn w v L hw hBw ho hl
    by_cases hp : 0 < (F x).pub
    · have := res_pub b o n c F x 0 w0 w B v L hn15 hN hu hr hxn hw hB hBw ho (by omega) hp
      unfold resM
      rw [if_pos hp]
      exact this
    · have hres : resM F 0 x = [] := by unfold resM; rw [if_neg hp]
      rw [hres, List.append_nil]
      obtain ⟨e0, e1, e2, ⟨A, cc, e3, hI⟩, hwf⟩ := hN x hxn
      have eb := World.block_lt_of_cell? _ _ e0
      have c0 := (hw.cell (p := ⟨b, o + x * 4, none⟩) eb).trans e0
      have c1 := (hw.cell (p := ⟨b, o + x * 4 + 1, none⟩) eb).trans e1
      have c2 := (hw.cell (p := ⟨b, o + x * 4 + 2, none⟩) eb).trans e2
      have c3 := (hw.cell (p := ⟨b, o + x * 4 + 3, none⟩) eb).trans e3
      have hb0 : b < w.heap.size := World.block_lt_of_cell? _ _ c0
      have q1 : (0 : Int) ≤ (x : Int) := by omega
      have q2 : (x : Int) < n := by omega
      have t1 : decide (0 < (F x).pub) = false := decide_eq_false hp
      have hbw0 : Below B w ((w.alloc (.cells #[.slice (some ⟨b, o, none⟩) n c] 24)).alloc (.cells #[.int .i64 (F x).pub, .int .i64 (F x).mem, .int .i64 (F x).ep, .slice A (F x).un.length cc] 95)) := ((Below.refl _ _).alloc hBw _).alloc (by simp; omega) _
      have hown := Lib.hid (ho.below (((Below.refl w.heap.size w).alloc (Nat.le_refl _) (.cells #[.slice (some ⟨b, o, none⟩) n c] 24)).alloc (by simp) (.cells #[.int .i64 (F x).pub, .int .i64 (F x).mem, .int .i64 (F x).ep, .slice A (F x).un.length cc] 95)))
      have hTa := hT.below hpos (hw.trans (hbw0.mono hB))
      have hL := left_no (x : Int) _ hTa (by omega) (lev_zero hx (by omega))
      obtain ⟨Av, cv, rfl⟩ := ho.slice
      clear hI hN hu hr hp ho e0 e1 e2 e3 eb hres hTa
      generalize (F x).pub = p at *
      generalize (F x).mem = m at *
      generalize (F x).ep = e at *
      generalize (F x).un.length = us at *
      go_enter Tryz.func168, Tryz.ntmps168
      go_wp2_with (go_at_call 258; refine hL.mono ?_; rintro e' w' ⟨rfl, rfl⟩)
      go_ret
      exact ⟨⟨_, rfl, hown.out, .inl rfl⟩, (World.grownBy_alloc _ _ _).trans (World.grownBy_alloc _ _ _)⟩
  | succ k ih =>
    intro x j hx hxn w v L hw hBw ho hl
    by_cases hp : 0 < (F x).pub
    · have := res_pub b o n c F x (k + 1) w0 w B v L hn15 hN hu hr hxn hw hB hBw ho (by omega) hp
      unfold resM
      rw [if_pos hp]
      exact this
    · have hres : resM F (k + 1) x = resM F k (x - 2 ^ k) ++ resM F k (x + 2 ^ k) := by rw [resM, if_neg hp]
      rw [hres, ← List.append_assoc]
      obtain ⟨e0, e1, e2, ⟨A, cc, e3, hI⟩, hwf⟩ := hN x hxn
      have eb := World.block_lt_of_cell? _ _ e0
      have c0 := (hw.cell (p := ⟨b, o + x * 4, none⟩) eb).trans e0
      have c1 := (hw.cell (p := ⟨b, o + x * 4 + 1, none⟩) eb).trans e1
      have c2 := (hw.cell (p := ⟨b, o + x * 4 + 2, none⟩) eb).trans e2
      have c3 := (hw.cell (p := ⟨b, o + x * 4 + 3, none⟩) eb).trans e3
      have hb0 : b < w.heap.size := World.block_lt_of_cell? _ _ c0
      have q1 : (0 : Int) ≤ (x : Int) := by omega
      have q2 : (x : Int) < n := by omega
      have t1 : decide (0 < (F x).pub) = false := decide_eq_false hp
      obtain ⟨kr, kl⟩ := kid_lt hnl hxn hx
      obtain ⟨n1, n2⟩ := hx.kids
      have hk60 : k + 1 ≤ 62 := by
        have := hx.level_lt (n := 5) (by omega)
        omega
      obtain ⟨WA, hWA⟩ : ∃ WA, WA = ((w.alloc (.cells #[.slice (some ⟨b, o, none⟩) n c] 24)).alloc (.cells #[.int .i64 (F x).pub, .int .i64 (F x).mem, .int .i64 (F x).ep, .slice A (F x).un.length cc] 95)) := ⟨_, rfl⟩
      have hbw0 : Below B w WA := by rw [hWA]; exact ((Below.refl _ _).alloc hBw _).alloc (by simp; omega) _
      have hwwA : Below w.heap.size w WA := by rw [hWA]; exact ((Below.refl w.heap.size w).alloc (Nat.le_refl _) _).alloc (by simp) _
      have hown := ho.below hwwA
      have h0A := hw.trans (hbw0.mono hB)
      have hboxA : WA.cell? ⟨w.heap.size, 0, none⟩ = some (.slice (some ⟨b, o, none⟩) n c) := by
        rw [hWA, World.cell?_alloc_lt _ _ _ (by simp)]
        have := cell_one_new w (.slice (some ⟨b, o, none⟩) n c) 24 0 _ rfl
        exact this
      have hl1 := two_succ (k + 1)
      have hl2 := two_succ k
      have hpk := two_pos k
      have hL1 := ih (x - 2 ^ k) _ n1 (by omega) WA v L h0A (Nat.le_trans hBw hbw0.size) hown (by omega)
      have hlen1 := resM_length (n := n) hu k (x - 2 ^ k)
      have HIH := Lib.hid (fun W v' h1 h2 h3 => ih (x + 2 ^ k) _ n2 kr W v' (L ++ resM F k (x - 2 ^ k)) h1 h2 h3 (by rw [List.length_append]; omega))
      have hLf : ∀ W, Below w0.heap.size w0 W → Calls Tryz.prog 258 #[.int .i64 x] W fun e w' => e = .returned (.tuple #[.int .i64 (x - 2 ^ k : Nat), .bool true]) ∧ W = w' := fun W hW => by
        have := left_yes x (k + 1) j hx (by omega) (by omega) (by omega) W (hT.below hpos hW)
        rw [Nat.add_sub_cancel] at this
        exact this
      have hRt : ∀ W, Below w0.heap.size w0 W → Calls Tryz.prog 259 #[.int .i64 x] W fun e w' => e = .returned (.tuple #[.int .i64 (x + 2 ^ k : Nat), .bool true]) ∧ W = w' := fun W hW => by
        have := right_yes x (k + 1) j hx (by omega) (by omega) hk60 W (hT.below hpos hW)
        rw [Nat.add_sub_cancel] at this
        exact this
      have hLL := hLf WA h0A
      have HO := Lib.hid ho
      obtain ⟨Av, cv, hv⟩ := ho.slice
      have hvl : ∀ q, v.ownBlock = some q → q < w.heap.size := fun q hq => (World.ownsRow.lt ho q hq).2
      have HM := Lib.hid (And.intro hw (And.intro hB (And.intro hBw hbw0)))
      generalize hxl : x - 2 ^ k = xl at *
      generalize hxr : x + 2 ^ k = xr at *
      clear hI hN hu hr hp ho e0 e1 e2 e3 eb hres hlen1 hl1 hl2 hpk n1 n2 kr kl hxl hxr ih hown hLf hk60 hx hw hB hBw
      subst hv
      generalize (F x).pub = p at *
      generalize (F x).mem = m at *
      generalize (F x).ep = e at *
      generalize (F x).un.length = us at *
      go_enter Tryz.func168, Tryz.ntmps168
      rw [hWA] at hLL hL1
      go_wp2_with (go_at_call 258; refine hLL.mono ?_; rintro e' w' ⟨rfl, rfl⟩)
      refine hL1.mono ?_
      rintro e' w2 ⟨⟨v2, rfl, ho2, hl2⟩, hg2⟩
      generalize hL2 : L ++ resM F k xl = L2 at *
      have HL2 := Lib.hid hL2
      clear hL2
      rw [← hWA] at hg2 hl2
      have hbox2 : w2.cell? ⟨w.heap.size, 0, none⟩ = some (.slice (some ⟨b, o, none⟩) n c) := World.grownBy.cell hg2 hboxA (fun e => by have : w.heap.size < w.heap.size := hvl _ e.symm; omega)
      have hbs2 := World.block_lt_of_cell? _ _ hbox2
      have hgA : w.grownBy WA (Value.slice Av L.length cv).ownBlock := by rw [hWA]; exact (World.grownBy_alloc _ _ _).trans (World.grownBy_alloc _ _ _)
      have hgw2 := grow2 hgA hg2 (.inl rfl)
      have hlw2 : Lies w (Value.slice Av L.length cv) v2 := lies2 hgA.size (.inl rfl) hl2
      have hbw2 := grown_below HO.out hgw2 HM.out.2.2.1
      have h02 : Below w0.heap.size w0 w2 := HM.out.1.trans (hbw2.mono HM.out.2.1)
      have hRR := hRt w2 h02
      have hI2 := HIH.out w2 v2 h02 (Nat.le_trans HM.out.2.2.1 hbw2.size) ho2
      have HX := Lib.hid (And.intro hgw2 hlw2)
      obtain ⟨A2, c2', rfl⟩ := ho2.slice
      clear ho2 hl2 hg2 hgw2 hlw2 hbw2 h02 hRt hWA hboxA hgA
      go_wp2_with (go_at_call 259; refine hRR.mono ?_; rintro e' w' ⟨rfl, rfl⟩)
      refine hI2.mono ?_
      rintro e' w3 ⟨⟨v3, rfl, ho3, hl3⟩, hg3⟩
      have H3 := Lib.hid (And.intro ho3 (And.intro hl3 hg3))
      clear ho3 hl3 hg3
      go_wp2_with fail
      go_ret
      rw [HL2.out]
      exact ⟨⟨_, rfl, H3.out.1, lies2 HX.out.1.size HX.out.2 H3.out.2.1⟩, grow2 HX.out.1 H3.out.2.2 HX.out.2⟩
end Go.Proofs.YtnahhclflnjmcaaGreatDoor

/- Resolution; the rows above a leaf. -/
namespace Go.Proofs.YtnahhclflnjmcaaGreatDoor
open Go Go.RowKit
set_option linter.unusedVariables false
set_option linter.unusedSimpArgs false
set_option maxRecDepth 100000

theorem resM_pad {n : Nat} {F : Nat → Node} (hnl : lvs n ≠ 0) : ∀ (k x j : Nat), Nd x k j → x < n → resM (pad n F) k x = resM F k x
  | 0, x, j, h, hx => by
    unfold resM pad
    rw [if_pos hx]
  | k + 1, x, j, h, hx => by
    obtain ⟨h1, h2⟩ := kid_lt hnl hx h
    obtain ⟨n1, n2⟩ := h.kids
    unfold resM
    rw [resM_pad hnl k (x - 2 ^ k) _ n1 (Nat.lt_of_le_of_lt (Nat.sub_le _ _) hx), resM_pad hnl k (x + 2 ^ k) _ n2 h1]
    unfold pad
    rw [if_pos hx]
theorem Ok.un_rng {d n : Nat} {F : Nat → Node} (h : Ok d n F) {y : Nat} (hy : y < n) : ∀ u ∈ (F y).un, 0 ≤ u ∧ u ≤ 15 := by
  by_cases ho : y % 2 = 1
  · rcases h.par y hy ho with h1 | ⟨_, _, _, h1, h2⟩
    · rw [Node.blank_iff.1 h1]; intro u hu; cases hu
    · have h3 := hi2 h.lvs_ne hy
      have h4 := h.n_le
      intro u hu
      have := h1 u hu
      omega
  · obtain ⟨i, rfl⟩ : ∃ i, y = 2 * i := ⟨y / 2, by omega⟩
    have := h.hn
    have := two_succ d
    rcases h.leaf i (by omega) with h1 | ⟨_, _, _, h1⟩
    · rw [Node.blank_iff.1 h1]; intro u hu; cases hu
    · rw [h1]; intro u hu; cases hu
/-- resolution of a node of a tree that may be, onto no list. -/
theorem res_new {b o n c d : Nat} {F : Nat → Node} {w0 w : World} (hO : Ok d n F) (hT : Tab w0) (hN : ∀ y, y < n → NdAt w0 b (o + y * 4) (F y)) (hw : Below w0.heap.size w0 w) {k x j : Nat} (hx : Nd x k j) (hxn : x < n) :
    Calls Tryz.prog 168 #[.slice none 0 0, .agg #[.slice (some ⟨b, o, none⟩) n c], .int .i64 x] w fun e w' => ∃ v', e = .returned v' ∧ OwnI w' w.heap.size v' (resM F k x) ∧ Below w.heap.size w w' := by
  have hk : k < 5 := hx.level_lt (by have := hO.n_le; omega)
  have hl : 2 ^ (k + 1) ≤ 2 ^ 5 := Nat.pow_le_pow_right (by decide) (by omega)
  refine (res37 b o n c (pad n F) w0 w.heap.size hT hO.lvs_ne (fun y hy => by unfold pad; rw [if_pos hy]; exact hN y hy) (fun y => ?_) (fun y hy => by unfold pad; rw [if_pos hy]; exact hO.un_rng hy) hw.size k x j hx hxn w (.slice none 0 0) [] hw (Nat.le_refl _) (World.ownsRow_nil _ _ _ _) (by simp; omega)).mono ?_
  · unfold pad
    split
    · exact hO.un_len (by assumption)
    · decide
  · rintro e w' ⟨⟨v', rfl, ho, hl⟩, hg⟩
    rw [List.nil_append, resM_pad hO.lvs_ne k x j hx hxn] at ho
    exact ⟨v', rfl, ho, (Below.refl _ _).grown hg (Nat.le_refl _) (fun q hq => by cases hq)⟩
def resE (n : Nat) (F : Nat → Node) (x : Int) : Int := if chk n F = false then 1 else if x < 0 ∨ (n : Int) ≤ x then 7 else 0
def resL (n : Nat) (F : Nat → Node) (x : Int) : List Int := if resE n F x = 0 then resM F (lvN x.toNat) x.toNat else []
/-- What Resolution answers. -/
structure ResA (w : World) (l : List Int) (c : Int) (e : Ending) (w' : World) : Prop where
  out : ∃ v', e = .returned (.tuple #[v', .int .i64 c]) ∧ OwnI w' w.heap.size v' l
  bel : Below w.heap.size w w'
set_option maxHeartbeats 2000000 in
set_option maxRecDepth 100000 in
theorem res19 (v : Value) (n : Nat) (F : Nat → Node) (x : Int) (w : World) (hT : Tab w) (hR : TrR w v n F) (hn : n ≤ 262144) :
    Calls Tryz.prog 35 #[.agg #[v], .int .i64 x] w fun e w' => ResA w (resL n F x) (resE n F x) e w' := by
  have hC : ∀ W, Below w.heap.size w W → Calls Tryz.prog 10 #[.agg #[v]] W fun e w' => e = .returned (.int .i64 (errB (chk n F))) ∧ Below W.heap.size W w' := fun W hW =>
    check10 v n F W (hT.below hT.pos hW) (hR.below hW) (by omega)
  have hbA : Below w.heap.size w (w.alloc (.cells #[v] 24)) := (Below.refl _ _).alloc (Nat.le_refl _) _
  cases hz : chk n F with
  | false =>
    have hE : resE n F x = 1 := by unfold resE; rw [if_pos hz]
    have hL : resL n F x = [] := by unfold resL; rw [hE]; rfl
    rw [hE, hL]
    rw [hz, errB_false] at hC
    obtain ⟨A, c, rfl, -, -, -⟩ := hR
    go_enter Tryz.func35, Tryz.ntmps35
    go_wp2_with (go_at_call 10; refine (hC _ hbA).mono ?_; rintro e' w1 ⟨rfl, hb1⟩)
    go_ret2
    exact ⟨⟨_, rfl, World.ownsRow_nil _ _ _ _⟩, below_box hb1⟩
  | true =>
    rw [hz, errB_true] at hC
    by_cases h1 : x < 0
    · have hE : resE n F x = 7 := by unfold resE; rw [hz, if_neg (by decide), if_pos (.inl h1)]
      have hL : resL n F x = [] := by unfold resL; rw [hE]; rfl
      have t1 : decide (x < 0) = true := decide_eq_true h1
      rw [hE, hL]
      obtain ⟨A, c, rfl, -, -, -⟩ := hR
      clear h1
      go_enter Tryz.func35, Tryz.ntmps35
      go_wp2_with (go_at_call 10; refine (hC _ hbA).mono ?_; rintro e' w1 ⟨rfl, hb1⟩; obtain ⟨hbox, hs1⟩ := box_keep hb1)
      go_ret2
      exact ⟨⟨_, rfl, World.ownsRow_nil _ _ _ _⟩, below_box hb1⟩
    · by_cases h2 : (n : Int) ≤ x
      · have hE : resE n F x = 7 := by unfold resE; rw [hz, if_neg (by decide), if_pos (.inr h2)]
        have hL : resL n F x = [] := by unfold resL; rw [hE]; rfl
        have t1 : decide (x < 0) = false := decide_eq_false h1
        have t2 : decide ((n : Int) ≤ x) = true := decide_eq_true h2
        rw [hE, hL]
        obtain ⟨A, c, rfl, -, -, -⟩ := hR
        clear h1 h2
        go_enter Tryz.func35, Tryz.ntmps35
        go_wp2_with (go_at_call 10; refine (hC _ hbA).mono ?_; rintro e' w1 ⟨rfl, hb1⟩; obtain ⟨hbox, hs1⟩ := box_keep hb1)
        go_ret2
        exact ⟨⟨_, rfl, World.ownsRow_nil _ _ _ _⟩, below_box hb1⟩
      · obtain ⟨y, rfl⟩ : ∃ y : Nat, x = y := ⟨x.toNat, by omega⟩
        have hE : resE n F (y : Int) = 0 := by unfold resE; rw [hz, if_neg (by decide), if_neg (by omega)]
        have hL : resL n F (y : Int) = resM F (lvN y) y := by unfold resL; rw [hE, if_pos rfl, Int.toNat_natCast]
        rw [hE, hL]
        have t2 : (n ≤ y) = False := eq_false (by omega)
        rcases chk_iff.1 hz with h0 | ⟨d, hO⟩
        · omega
        · obtain ⟨A, c, rfl, -, -, h3⟩ := hR
          obtain ⟨b, o, rfl, hN⟩ := h3 (by omega)
          have hRN : ∀ W, Below w.heap.size w W → Calls Tryz.prog 168 #[.slice none 0 0, .agg #[.slice (some ⟨b, o, none⟩) n c], .int .i64 y] W fun e w' => ∃ v', e = .returned v' ∧ OwnI w' W.heap.size v' (resM F (lvN y) y) ∧ Below W.heap.size W w' := fun W hW =>
            res_new hO hT hN hW (nd_lv (by have := hO.n_le; omega)) (by omega)
          generalize resM F (lvN y) y = l at *
          clear h1 h2 h3 hN hO hz hE hL
          go_enter Tryz.func35, Tryz.ntmps35
          go_wp2_with (first
            | (go_at_call 10; refine (hC _ hbA).mono ?_; rintro e' w1 ⟨rfl, hb1⟩; obtain ⟨hbox, hs1⟩ := box_keep hb1)
            | (go_at_call 168; refine (hRN _ (below_box hb1)).mono ?_; rintro e' w2 ⟨v', rfl, ho, hb2⟩))
          go_ret2
          have hb := below_box hb1
          exact ⟨⟨_, rfl, own_lower hb.size ho⟩, hb.trans (hb2.mono hb.size)⟩
end Go.Proofs.YtnahhclflnjmcaaGreatDoor

/- rows: the nodes above a leaf, each with what its other child comes to. -/
namespace Go.Proofs.YtnahhclflnjmcaaGreatDoor
open Go Go.RowKit
set_option linter.unusedVariables false
set_option linter.unusedSimpArgs false
set_option maxRecDepth 100000

theorem info71 : (Tryz.prog.info? 121).map (fun i => (i.zero, i.size, i.bytes)) = some (some (.agg #[.int .i64 0, .slice none 0 0]), 2, 32) := by kernel_rfl
/-- A row: its node, its list's value, what that is. -/
structure Rw1 where
  node : Nat
  v : Value
  l : List Int
def rwCells (L : List Rw1) : List Value := L.flatMap fun r => [.int .i64 r.node, r.v]
theorem rwCells_append (L M : List Rw1) : rwCells (L ++ M) = rwCells L ++ rwCells M := by simp [rwCells]
/-- Rows of the call's own. -/
structure RowsO (w : World) (B : Nat) (vr : Value) (L : List Rw1) : Prop where
  row : w.ownsRow B 121 2 vr L.length (rwCells L)
  own : ∀ r ∈ L, OwnI w B r.v r.l
  nb : ∀ r ∈ L, ∀ q, r.v.ownBlock = some q → vr.ownBlock ≠ some q
  ap : L.Pairwise (fun r s => ∀ q, r.v.ownBlock = some q → s.v.ownBlock ≠ some q)
theorem RowsO.nil (w : World) (B : Nat) : RowsO w B (.slice none 0 0) [] := ⟨World.ownsRow_nil _ _ _ _, fun r h => by simp at h, fun r h => by simp at h, List.Pairwise.nil⟩
theorem row_below {w w' : World} {B E s n : Nat} {v : Value} {xs : List Value} (ho : w.ownsRow B E s v n xs) (hb : Below w.heap.size w w') : w'.ownsRow B E s v n xs := by
  have hlt := World.ownsRow.lt ho
  refine ⟨ho.1, ?_⟩
  rcases ho.2 with h1 | ⟨g, cap, cur, rfl, h2, h3, h4⟩
  · exact .inl h1
  · refine .inr ⟨g, cap, cur, rfl, h2, ?_, h4⟩
    rw [hb.block g (hlt g rfl).2]
    exact h3
theorem RowsO.below {w w' : World} {B : Nat} {vr : Value} {L : List Rw1} (h : RowsO w B vr L) (hb : Below w.heap.size w w') : RowsO w' B vr L :=
  ⟨row_below h.row hb, fun r hr => (h.own r hr).below hb, h.nb, h.ap⟩
theorem RowsO.slice {w : World} {B : Nat} {vr : Value} {L : List Rw1} (h : RowsO w B vr L) : ∃ A c, vr = .slice A L.length c := by
  rcases h.row.2 with ⟨h1, h2⟩ | ⟨b, cap, cur, h1, _⟩
  · exact ⟨none, 0, by rw [h1, h2]⟩
  · exact ⟨_, _, h1⟩
theorem row_lower {w : World} {B B' E s n : Nat} {v : Value} {xs : List Value} (hB : B' ≤ B) (h : w.ownsRow B E s v n xs) : w.ownsRow B' E s v n xs := by
  refine ⟨h.1, ?_⟩
  rcases h.2 with h1 | ⟨g, cap, cur, h1, h2, h3⟩
  · exact .inl h1
  · exact .inr ⟨g, cap, cur, h1, Nat.le_trans hB h2, h3⟩
theorem RowsO.lower {w : World} {B B' : Nat} {vr : Value} {L : List Rw1} (hB : B' ≤ B) (h : RowsO w B vr L) : RowsO w B' vr L :=
  ⟨row_lower hB h.row, fun r hr => own_lower hB (h.own r hr), h.nb, h.ap⟩
/-- One row more. -/
theorem pushRow {ops : Array Oper} {rest : List Oper} {o : Oper} {a : Act} {Q : Exit → Act → World → Prop} {w : World} {B g : Nat} {vr : Value} {L : List Rw1} {x : Nat} {A : Option Addr} {m c : Nat} {l : List Int}
    (hgd : o.guard = none) (s y : Operand) (ho : o.op = .call { callee := .builtin .append, args := #[s, y], argTypes := #[117, 117] })
    (hs : a.eval s = vr) (hy : a.eval y = .slice (some ⟨g, 0, none⟩) 1 1) (hR : Hid (RowsO w B vr L)) (hl : Hid (OwnI w B (.slice A m c) l)) (hlb : Hid (∀ q, (Value.slice A m c).ownBlock = some q → vr.ownBlock ≠ some q ∧ ∀ r ∈ L, r.v.ownBlock ≠ some q)) (hB : B ≤ w.heap.size) (hg : g = w.heap.size) (hn : L.length ≤ 100)
    (h : ∀ v' w', RowsO w' B v' (L ++ [⟨x, .slice A m c, l⟩]) → Below B w w' → wpList Tryz.prog ops Q rest (a.put o.dst v') w') :
    wpList Tryz.prog ops Q (o :: rest) a (w.alloc (.cells #[.int .i64 x, .slice A m c] 121)) := by
  subst hg
  obtain ⟨i0, hinf, hz0, hz1, hz2⟩ := info_parts info71
  have hR' := hR.out
  have hal := World.grownBy_alloc w (.cells #[.int .i64 (x : Int), .slice A m c] 121) vr.ownBlock
  have hvl := World.ownsRow.lt hR'.row
  have hll := World.ownsRow.lt hl.out
  refine wpList_append_lies _ hgd s y 117 ho B 121 i0 (.agg #[.int .i64 0, .slice none 0 0]) 2 32 Tryz.underlying117 hinf hz0 hz1 hz2 rfl (by decide) vr L.length (rwCells L) hs (hR'.row.alloc _) ⟨w.heap.size, 0, none⟩ 1 1 [.int .i64 x, .slice A m c] hy rfl
    (fun j u hj => by
      rw [Addr.add_lit, Nat.zero_add, cell_of_row _ _ _ _ _ _ (heap_alloc_new w _)]
      simpa using hj)
    (by simp [Value.oneCell']) (by decide) (by unfold maxLen; omega) (by omega) (by simp; omega) (w.heap.size + 1) (by simp) (fun g cap w' h1 h2 h3 _ => h _ w' ?_ ?_)
  · have h12 := hal.trans h2
    have keep : ∀ {u : Value} {l : List Int}, OwnI w B u l → (∀ q, u.ownBlock = some q → vr.ownBlock ≠ some q) → OwnI w' B u l := fun hu hq => by
      refine World.ownsRow.kept hu h12 ?_
      rename_i u _
      cases e : u.ownBlock with
      | none => exact .inl rfl
      | some q => exact .inr fun e2 => hq q e e2.symm
    have new : ∀ q, q < w.heap.size → vr.ownBlock ≠ some q → g ≠ q := fun q hq hne e => by
      rcases h3 with e2 | e2
      · exact hne (by rw [e2, e])
      · omega
    refine ⟨?_, fun r hr => ?_, fun r hr q hq => ?_, ?_⟩
    · rw [List.length_append, rwCells_append]
      exact h1
    · rcases List.mem_append.1 hr with hr | hr
      · exact keep (hR'.own r hr) (fun q hq => hR'.nb r hr q hq)
      · obtain rfl := List.mem_singleton.1 hr
        exact keep hl.out (fun q hq => (hlb.out q hq).1)
    · show some g ≠ some q
      intro e
      have e := Option.some.inj e
      rcases List.mem_append.1 hr with hr | hr
      · exact new q (World.ownsRow.lt (hR'.own r hr) q hq).2 (hR'.nb r hr q hq) e
      · obtain rfl := List.mem_singleton.1 hr
        exact new q (hll q hq).2 (hlb.out q hq).1 e
    · rw [List.pairwise_append]
      refine ⟨hR'.ap, List.pairwise_singleton _ _, fun r hr s hs q hq e => ?_⟩
      obtain rfl := List.mem_singleton.1 hs
      exact (hlb.out q e).2 r hr hq
  · exact ((Below.refl B w).alloc hB _).grown h2 (by simp; omega) (fun q hq => (hvl q hq).1)
def rowsE (n : Nat) (F : Nat → Node) (i : Int) : Int := if chk n F = false then 1 else if i < 0 ∨ (lvs n : Int) ≤ i ∨ (F (2 * i.toNat)).pub = 0 then 7 else 0
/-- The first k rows. -/
def rowsK (F : Nat → Node) (i k : Nat) : List (Nat × List Int) := ((List.range k).map fun k => (anc (2 * i) (k + 1), resM F k (sib (2 * i) k))).filter fun r => !r.2.isEmpty
theorem rowsK_succ (F : Nat → Node) (i k : Nat) : rowsK F i (k + 1) = rowsK F i k ++ if (resM F k (sib (2 * i) k)).isEmpty then [] else [(anc (2 * i) (k + 1), resM F k (sib (2 * i) k))] := by
  unfold rowsK
  rw [List.range_succ, List.map_append, List.filter_append]
  congr 1
  simp only [List.map_cons, List.map_nil, List.filter_cons, List.filter_nil]
  cases (resM F k (sib (2 * i) k)).isEmpty <;> simp
theorem rowsK_length (F : Nat → Node) (i k : Nat) : (rowsK F i k).length ≤ k := by
  unfold rowsK
  exact Nat.le_trans (List.length_filter_le _ _) (by simp)
theorem sib_facts : ∀ d : Fin 4, ∀ i : Fin 8, ∀ k : Fin 4, i.val < 2 ^ d.val → k.val < d.val → sib (2 * i.val) k.val < 2 ^ (d.val + 1) - 1 ∧ lvN (sib (2 * i.val) k.val) = k.val ∧ anc (2 * i.val) k.val ≤ 2 * anc (2 * i.val) (k.val + 1) := by decide
theorem sib_at {d i k : Nat} (hd : d ≤ 3) (hi : i < 2 ^ d) (hk : k < d) : (coL (2 * i) 0 d)[k]? = some (sib (2 * i) k : Int) ∧ sib (2 * i) k < 2 ^ (d + 1) - 1 ∧ Nd (sib (2 * i) k) k (sib (2 * i) k / 2 ^ (k + 1)) := by
  have h8 : 2 ^ d ≤ 2 ^ 3 := Nat.pow_le_pow_right (by decide) hd
  have h16 : 2 ^ (d + 1) ≤ 2 ^ 4 := Nat.pow_le_pow_right (by decide) (by omega)
  obtain ⟨f1, f2, f3⟩ := sib_facts ⟨d, by omega⟩ ⟨i, by omega⟩ ⟨k, by omega⟩ hi hk
  simp only at f1 f2 f3
  refine ⟨?_, f1, ?_⟩
  · unfold coL
    rw [List.getElem?_map, List.getElem?_range hk]
    simp only [Option.map_some, Nat.zero_add]
    congr 1
    unfold sib
    omega
  · have := nd_lv (x := sib (2 * i) k) (by omega)
    rw [f2] at this
    exact this
/-- What rows answers. -/
structure RowsA (w : World) (L : List (Nat × List Int)) (c : Int) (e : Ending) (w' : World) : Prop where
  out : ∃ vr M, e = .returned (.tuple #[vr, .int .i64 c]) ∧ RowsO w' w.heap.size vr M ∧ M.map (fun r => (r.node, r.l)) = L
  bel : Below w.heap.size w w'
set_option maxHeartbeats 2000000 in
set_option maxRecDepth 100000 in
theorem rows_no (v : Value) (n : Nat) (F : Nat → Node) (i : Int) (w : World) (hT : Tab w) (hR : TrR w v n F) (hn : n ≤ 262144) (hq : rowsE n F i ≠ 0) :
    Calls Tryz.prog 169 #[.agg #[v], .int .i64 i] w fun e w' => RowsA w [] (rowsE n F i) e w' := by
  have hC : ∀ W, Below w.heap.size w W → Calls Tryz.prog 10 #[.agg #[v]] W fun e w' => e = .returned (.int .i64 (errB (chk n F))) ∧ Below W.heap.size W w' := fun W hW =>
    check10 v n F W (hT.below hT.pos hW) (hR.below hW) (by omega)
  have hbA : Below w.heap.size w (w.alloc (.cells #[v] 24)) := (Below.refl _ _).alloc (Nat.le_refl _) _
  cases hz : chk n F with
  | false =>
    have hE : rowsE n F i = 1 := by unfold rowsE; rw [if_pos hz]
    rw [hE]
    rw [hz, errB_false] at hC
    obtain ⟨A, c, rfl, -, -, -⟩ := hR
    clear hq
    go_enter Tryz.func169, Tryz.ntmps169
    go_wp2_with (go_at_call 10; refine (hC _ hbA).mono ?_; rintro e' w1 ⟨rfl, hb1⟩)
    go_ret2
    exact ⟨⟨_, [], rfl, RowsO.nil _ _, rfl⟩, below_box hb1⟩
  | true =>
    rw [hz, errB_true] at hC
    have hE : rowsE n F i = 7 := by
      unfold rowsE at hq ⊢
      rw [hz, if_neg (by decide)] at hq ⊢
      by_cases h : i < 0 ∨ (lvs n : Int) ≤ i ∨ (F (2 * i.toNat)).pub = 0
      · rw [if_pos h]
      · rw [if_neg h] at hq
        exact absurd rfl hq
    have hq2 : i < 0 ∨ (lvs n : Int) ≤ i ∨ (F (2 * i.toNat)).pub = 0 := by
      by_cases h : i < 0 ∨ (lvs n : Int) ≤ i ∨ (F (2 * i.toNat)).pub = 0
      · exact h
      · unfold rowsE at hq
        rw [hz, if_neg (by decide), if_neg h] at hq
        exact absurd rfl hq
    rw [hE]
    by_cases h1 : i < 0
    · have t1 : decide (i < 0) = true := decide_eq_true h1
      obtain ⟨A, c, rfl, -, -, -⟩ := hR
      clear h1 hq hq2 hE
      go_enter Tryz.func169, Tryz.ntmps169
      go_wp2_with (go_at_call 10; refine (hC _ hbA).mono ?_; rintro e' w1 ⟨rfl, hb1⟩; obtain ⟨hbox, hs1⟩ := box_keep hb1)
      go_ret2
      exact ⟨⟨_, [], rfl, RowsO.nil _ _, rfl⟩, below_box hb1⟩
    · have t1 : decide (i < 0) = false := decide_eq_false h1
      have HSZ := Lib.hid (fun i (h : i < lvs n) => lvs_lt h)
      have hTw := Lib.hid (And.intro hT hR)
      obtain ⟨A, c, rfl, -, -, h3⟩ := hR
      have hL := fun w => leaves26 A n c w (by omega)
      by_cases h2 : (lvs n : Int) ≤ i
      · have t2 : decide ((lvs n : Int) ≤ i) = true := decide_eq_true h2
        generalize lvs n = l at *
        clear h1 hq hq2 hE h3 h2
        go_enter Tryz.func169, Tryz.ntmps169
        go_wp2_with (first
          | (go_at_call 10; refine (hC _ hbA).mono ?_; rintro e' w1 ⟨rfl, hb1⟩; obtain ⟨hbox, hs1⟩ := box_keep hb1)
          | (go_at_call 44; refine (hL _).mono ?_; rintro e' w2 ⟨rfl, hb2⟩))
        go_ret2
        have hb := below_box hb1
        exact ⟨⟨_, [], rfl, RowsO.nil _ _, rfl⟩, hb.trans (hb2.mono hb.size)⟩
      · obtain ⟨y, rfl⟩ : ∃ y : Nat, i = y := ⟨i.toNat, by omega⟩
        have hp : (F (2 * y)).pub = 0 := by
          rcases hq2 with h | h | h
          · omega
          · omega
          · simpa using h
        obtain ⟨hin, hi8⟩ := HSZ.out y (by omega)
        obtain ⟨b, o, rfl, hN⟩ := h3 (by omega)
        obtain ⟨c0, -, -, -, -⟩ := hN (2 * y) hin
        rw [hp] at c0
        have hb0 : b < w.heap.size := World.block_lt_of_cell? _ _ c0
        have t2 : (lvs n ≤ y) = False := eq_false (by omega)
        have j1 : (0 : Int) ≤ 2 * (y : Int) := by omega
        have j2 : 2 * (y : Int) < n := by omega
        generalize lvs n = l at *
        clear h1 hq hq2 hE h3 h2 hN hp
        go_enter Tryz.func169, Tryz.ntmps169
        go_wp2_with (first
          | (go_at_call 10; refine (hC _ hbA).mono ?_; rintro e' w1 ⟨rfl, hb1⟩; obtain ⟨hbox, hs1⟩ := box_keep hb1; have hbw1 := below_box hb1)
          | (go_at_call 44; refine (hL _).mono ?_; rintro e' w2 ⟨rfl, hb2⟩; have hbox2 := (hb2.cell hs1).trans hbox; have hs2 : w.heap.size < w2.heap.size := Nat.lt_of_lt_of_le hs1 hb2.size; have d0 := ((hbw1.trans (hb2.mono hbw1.size)).cell (p := ⟨b, o + 2 * y * 4, none⟩) hb0).trans c0; have hb02 : b < w2.heap.size := by omega))
        go_ret2
        exact ⟨⟨_, [], rfl, RowsO.nil _ _, rfl⟩, hbw1.trans (hb2.mono hbw1.size)⟩
end Go.Proofs.YtnahhclflnjmcaaGreatDoor
