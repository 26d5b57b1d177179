/- resolution. -/
import Derived.Test.YtopkanokpfhmmaaDoorTE
namespace Go.Proofs.YtopkanokpfhmmaaDoor
open Go Go.RowKit
set_option linter.unusedVariables false
set_option linter.unusedSimpArgs false

theorem lvN_eq {x k j : Nat} (hx : x < 31) (h : Nd x k j) : lvN x = k := (nd_lv hx).unique h
theorem kid_lt {n x k j : Nat} (hn : lvs n ≠ 0) (hx : x < n) (h : Nd x (k + 1) j) : x + 2 ^ k < n ∧ 2 ^ k ≤ x := by
  obtain ⟨d, hd, rfl⟩ := lvs_iff.1 hn
  have : ∀ d : Fin 4, ∀ x : Fin 16, ∀ k : Fin 4, x.val < 2 ^ (d.val + 1) - 1 → lvN x.val = k.val + 1 → x.val + 2 ^ k.val < 2 ^ (d.val + 1) - 1 ∧ 2 ^ k.val ≤ x.val := by decide
  have h4 : 2 ^ (d + 1) ≤ 2 ^ 4 := Nat.pow_le_pow_right (by decide) (by omega)
  have hk := h.level_lt (n := d + 1) (by omega)
  exact this ⟨d, by omega⟩ ⟨x, by omega⟩ ⟨k, by omega⟩ hx (lvN_eq (by omega) h)
theorem resM_length {F : Nat → Node} {n : Nat} (hu : ∀ y, (F y).un.length ≤ 8) : ∀ (k x : Nat), (resM F k x).length ≤ 9 * 2 ^ k
  | 0, x => by
    unfold resM
    have := hu x
    split <;> simp <;> omega
  | k + 1, x => by
    unfold resM
    have := hu x
    have h1 := resM_length (n := n) hu k (x - 2 ^ k)
    have h2 := resM_length (n := n) hu k (x + 2 ^ k)
    have h3 := two_succ k
    have h4 := two_pos k
    split
    · simp; omega
    · simp; omega
/-- A list's block is the elder one's, or new. -/
def Lies (w : World) (v v' : Value) : Prop := v'.ownBlock = v.ownBlock ∨ ∀ q, v'.ownBlock = some q → w.heap.size ≤ q
/-- What resolution leaves. -/
structure ResP (B : Nat) (v : Value) (l : List Int) (w : World) (e : Ending) (w' : World) : Prop where
  out : ∃ v', e = .returned v' ∧ OwnI w' B v' l ∧ Lies w v v'
  grown : w.grownBy w' v.ownBlock
theorem grow2 {w wr w' : World} {v v0 : Value} (h : w.grownBy wr v.ownBlock) (h2 : wr.grownBy w' v0.ownBlock) (hl : Lies w v v0) : w.grownBy w' v.ownBlock :=
  ⟨h2.os.trans h.os, h2.tape.trans h.tape, h2.output.trans h.output, Nat.le_trans h.size h2.size, fun k hk hne => by
    refine (h2.block k (Nat.lt_of_lt_of_le hk h.size) (fun e => ?_)).trans (h.block k hk hne)
    rcases hl with e2 | e2
    · exact hne (e.trans e2)
    · have := e2 k e.symm
      omega⟩
theorem lies2 {w wr : World} {v v0 v' : Value} (hs : w.heap.size ≤ wr.heap.size) (h : Lies w v v0) (h2 : Lies wr v0 v') : Lies w v v' := by
  rcases h2 with e | e
  · rcases h with e2 | e2
    · exact .inl (e.trans e2)
    · exact .inr fun q hq => e2 q (by rw [← e]; exact hq)
  · exact .inr fun q hq => Nat.le_trans hs (e q hq)
theorem grown_below {w w' : World} {B : Nat} {v : Value} {l : List Int} (ho : OwnI w B v l) (hg : w.grownBy w' v.ownBlock) (hB : B ≤ w.heap.size) : Below B w w' :=
  (Below.refl B w).grown hg hB (fun q hq => (World.ownsRow.lt ho q hq).1)
theorem lev_zero {x j : Nat} (h : Nd x 0 j) (hx : x ≤ 9223372036854775807) : lev (x : Int) < 1 := by
  unfold lev
  rw [if_neg (by omega)]
  have := lev_of x 0 j h hx
  rw [Int.toNat_natCast, this]
  decide
theorem pushx {ops : Array Oper} {rest : List Oper} {o : Oper} {a : Act} {Q : Exit → Act → World → Prop} {w : World} {B g : Nat} {v : Value} {l : List Int} {u : Int}
    (hgd : o.guard = none) (s x : Operand) (ho : o.op = .call { callee := .builtin .append, args := #[s, x], argTypes := #[32, 32] })
    (hs : a.eval s = v) (hx : a.eval x = .slice (some ⟨g, 0, none⟩) 1 1) (hown : Hid (OwnI w B v l)) (hB : B ≤ w.heap.size) (hg : g = w.heap.size) (hl : l.length < 4294967296)
    (h : ∀ v' w', OwnI w' B v' (l ++ [u]) → w.grownBy w' v.ownBlock → Lies w v v' → wpList Tryd.prog ops Q rest (a.put o.dst v') w') :
    wpList Tryd.prog ops Q (o :: rest) a (w.alloc (.cells #[.int .i64 u] 3)) := by
  subst hg
  obtain ⟨i0, hinf, hz0, hz1, hz2⟩ := info_parts info3
  have hown1 : w.ownsRow B 3 1 v l.length (l.map (Value.int .i64)) := hown.out
  refine wpList_append_lies _ hgd s x 32 ho B 3 i0 (.int .i64 0) 1 8 Tryd.underlying32 hinf hz0 hz1 hz2 rfl (by decide) v l.length (l.map (Value.int .i64)) hs (hown1.alloc _) ⟨w.heap.size, 0, none⟩ 1 1 [.int .i64 u] hx rfl (cell_one_new _ _ _)
    (by simp [Value.oneCell']) (by decide) (by unfold maxLen; omega) (by omega) (by simp; omega) (w.heap.size + 1) (by simp) (fun g cap w' h1 h2 h3 _ => h _ w' ?_ ?_ ?_)
  · show w'.ownsRow B 3 1 _ _ _
    rw [List.length_append, List.map_append]
    exact h1
  · exact (World.grownBy_alloc w _ _).trans h2
  · rcases h3 with h3 | h3
    · exact .inl (by rw [h3]; rfl)
    · exact .inr fun q hq => by
        obtain rfl : g = q := by simpa [Value.ownBlock] using hq
        omega
set_option maxHeartbeats 4000000 in
set_option maxRecDepth 100000 in
theorem res_pub (b o n c : Nat) (F : Nat → Node) (x k : Nat) (w0 w : World) (B : Nat) (v : Value) (L : List Int) (hn : n ≤ 15) (hN : ∀ y, y < n → NdAt w0 b (o + y * 4) (F y)) (hu : ∀ y, (F y).un.length ≤ 8) (hr : ∀ y, y < n → ∀ u ∈ (F y).un, 0 ≤ u ∧ u ≤ 15)
    (hx : x < n) (hw : Below w0.heap.size w0 w) (hB : w0.heap.size ≤ B) (hBw : B ≤ w.heap.size) (ho : OwnI w B v L) (hl : L.length ≤ 1000000) (hp : 0 < (F x).pub) :
    Calls Tryd.prog 37 #[v, .agg #[.slice (some ⟨b, o, none⟩) n c], .int .i64 x] w fun e w' => ResP B v (L ++ ((x : Int) :: (F x).un.map (2 * ·))) w e w' := by
  obtain ⟨e0, e1, e2, ⟨A, cc, e3, hI⟩, hwf⟩ := hN x hx
  have eb := World.block_lt_of_cell? _ _ e0
  have c0 := (hw.cell (p := ⟨b, o + x * 4, none⟩) eb).trans e0
  have c1 := (hw.cell (p := ⟨b, o + x * 4 + 1, none⟩) eb).trans e1
  have c2 := (hw.cell (p := ⟨b, o + x * 4 + 2, none⟩) eb).trans e2
  have c3 := (hw.cell (p := ⟨b, o + x * 4 + 3, none⟩) eb).trans e3
  have hb0 : b < w.heap.size := World.block_lt_of_cell? _ _ c0
  have q1 : (0 : Int) ≤ (x : Int) := by omega
  have q2 : (x : Int) < n := by omega
  have t1 : decide (0 < (F x).pub) = true := decide_eq_true hp
  have hbw0 : Below B w ((w.alloc (.cells #[.slice (some ⟨b, o, none⟩) n c] 24)).alloc (.cells #[.int .i64 (F x).pub, .int .i64 (F x).mem, .int .i64 (F x).ep, .slice A (F x).un.length cc] 45)) := ((Below.refl _ _).alloc hBw _).alloc (by simp; omega) _
  have hown := Lib.hid (ho.below (((Below.refl w.heap.size w).alloc (Nat.le_refl _) (.cells #[.slice (some ⟨b, o, none⟩) n c] 24)).alloc (by simp) (.cells #[.int .i64 (F x).pub, .int .i64 (F x).mem, .int .i64 (F x).ep, .slice A (F x).un.length cc] 45)))
  have hB2 := Nat.le_trans hBw hbw0.size
  have hul := hu x
  have HR := Lib.hid (hr x hx)
  have HO := Lib.hid ho
  have hw' := Lib.hid hI
  have HB0 := Lib.hid (And.intro hw hB)
  obtain ⟨Av, cv, rfl⟩ := ho.slice
  clear hI hN hu hr hp ho e0 e1 e2 e3 eb
  generalize (F x).pub = p at *
  generalize (F x).mem = m at *
  generalize (F x).ep = e at *
  generalize (F x).un = us at *
  generalize hus : us.length = kk at *
  have HU := Lib.hid hus
  clear hus
  have hvl := World.ownsRow.lt HO.out
  have hgw0 : w.grownBy ((w.alloc (.cells #[.slice (some ⟨b, o, none⟩) n c] 24)).alloc (.cells #[.int .i64 p, .int .i64 m, .int .i64 e, .slice A kk cc] 45)) (Value.slice Av L.length cv).ownBlock := (World.grownBy_alloc _ _ _).trans (World.grownBy_alloc _ _ _)
  go_enter Tryd.func37, Tryd.ntmps37
  go_wp2_with (at_builtin; refine pushx rfl _ _ rfl rfl rfl hown hB2 ?c0 ?c1 ?_)
  case c0 => simp
  case c1 => omega
  intro v' w2 h1 h2 hl2
  have H1 := Lib.hid h1
  have hd : w2.cell? ⟨w.heap.size + 1, 3, none⟩ = some (.slice A kk cc) := by
    refine (World.grownBy.cell h2 ?_ (fun e => ?_))
    · have := heap_alloc_new (w.alloc (.cells #[.slice (some ⟨b, o, none⟩) n c] 24)) (.cells #[.int .i64 p, .int .i64 m, .int .i64 e, .slice A kk cc] 45)
      rw [show (w.alloc (.cells #[.slice (some ⟨b, o, none⟩) n c] 24)).heap.size = w.heap.size + 1 by simp] at this
      rw [cell_of_row _ _ _ _ _ _ this]
      rfl
    · have := (hvl (w.heap.size + 1) e.symm).2
      omega
  have hd2 : w.heap.size + 1 < w2.heap.size := World.block_lt_of_cell? _ _ hd
  have hg2 := grow2 hgw0 h2 (.inl rfl)
  have hli2 : Lies w (Value.slice Av L.length cv) v' := lies2 hgw0.size (.inl rfl) hl2
  have HG2 := Lib.hid (And.intro hg2 hli2)
  clear h1 h2 hown hvl hl2 hg2 hli2 hgw0
  go_wp2_with fail
  go_loopg [0, 29] (kk + 1) (fun g v0 v29 wr => ∃ i : Nat, i ≤ kk ∧ i + g = kk + 1 ∧ v29 = .int .i64 i ∧ OwnI wr B v0 (L ++ ((x : Int) :: (us.take i).map (2 * ·))) ∧ w.grownBy wr (Value.slice Av L.length cv).ownBlock ∧ Lies w (Value.slice Av L.length cv) v0)
  case atStart => exact ⟨0, by omega, by omega, rfl, by simpa using H1.out, HG2.out.1, HG2.out.2⟩
  case round =>
    obtain ⟨i, hi, hg, rfl, hown, hgr, hlie⟩ := hrel
    have HG := Lib.hid (And.intro hg (And.intro hgr hlie))
    have HOWN := Lib.hid hown
    have hbel := grown_below HO.out hgr hBw
    have hBr : B ≤ wr.heap.size := Nat.le_trans hBw hbel.size
    clear hg hgr hlie
    by_cases hlt : i < kk
    · obtain ⟨u, hu⟩ : ∃ u, us[i]? = some u := ⟨us[i]'(by have := HU.out; omega), List.getElem?_eq_getElem _⟩
      obtain ⟨bu, ou, rfl, cu0⟩ := hw'.out.at hu
      have hbu0 : bu < w0.heap.size := World.block_lt_of_cell? _ _ cu0
      have hb0r : Below w0.heap.size w0 wr := HB0.out.1.trans (hbel.mono HB0.out.2)
      have cu : wr.cell? ⟨bu, ou + i, none⟩ = some (.int .i64 u) := (hb0r.cell hbu0).trans cu0
      have hbu : bu < wr.heap.size := World.block_lt_of_cell? _ _ cu
      have hru := HR.out u (List.mem_of_getElem? hu)
      have i1 : (0 : Int) ≤ i := by omega
      have i2 : (i : Int) < kk := by omega
      obtain ⟨TT, hTT⟩ : ∃ TT, TT = L ++ ((x : Int) :: (us.take i).map (2 * ·)) := ⟨_, rfl⟩
      have HT := Lib.hid (show L ++ ((x : Int) :: (us.take (i + 1)).map (2 * ·)) = TT ++ [2 * u] by
        rw [hTT, List.take_add_one, hu]; simp)
      have HLEN := Lib.hid (show TT.length < 4294967296 by rw [hTT]; simp; omega)
      rw [← hTT] at hown HOWN
      clear hTT hb0r
      obtain ⟨Ar, cr, rfl⟩ := hown.slice
      clear hu hown cu0
      go_wp2_with (at_builtin; refine pushx rfl _ _ rfl rfl rfl HOWN hBr ?c0 HLEN.out ?_)
      case c0 => simp
      intro v' w' h1 h2 h3
      have H1 := Lib.hid (And.intro h1 (And.intro h2 h3))
      clear h1 h2 h3
      go_wp2_with fail
      go_roundg (gk - 1)
      case rel => exact ⟨i + 1, by omega, by have := HG.out; omega, by go_num, by rw [HT.out]; exact H1.out.1, grow2 HG.out.2.1 H1.out.2.1 HG.out.2.2, lies2 HG.out.2.1.size HG.out.2.2 H1.out.2.2⟩
      case measure => have := HG.out; omega
    · obtain rfl : i = kk := by omega
      rw [show us.take i = us from List.take_of_length_le (by have := HU.out; omega)] at HOWN
      clear hown
      go_wp2_with fail
      go_ret
      exact ⟨⟨_, rfl, HOWN.out, HG.out.2.2⟩, HG.out.2.1⟩
set_option maxHeartbeats 4000000 in
set_option maxRecDepth 100000 in
theorem res37 (b o n c : Nat) (F : Nat → Node) (w0 : World) (B : Nat) (hT : Tab w0) (hnl : lvs n ≠ 0) (hN : ∀ y, y < n → NdAt w0 b (o + y * 4) (F y)) (hu : ∀ y, (F y).un.length ≤ 8) (hr : ∀ y, y < n → ∀ u ∈ (F y).un, 0 ≤ u ∧ u ≤ 15) (hB : w0.heap.size ≤ B) :
    ∀ (k x j : Nat), Nd x k j → x < n → ∀ (w : World) (v : Value) (L : List Int), Below w0.heap.size w0 w → B ≤ w.heap.size → OwnI w B v L → L.length + 9 * 2 ^ (k + 1) ≤ 1000000 →
    Calls Tryd.prog 37 #[v, .agg #[.slice (some ⟨b, o, none⟩) n c], .int .i64 x] w fun e w' => ResP B v (L ++ resM F k x) w e w' := by
  have hn15 := (lvs_le hnl).2
  have hpos := hT.pos
  intro k
  induction k with
  | zero =>
    intro x j hx hxn w v L hw hBw ho hl
    by_cases hp : 0 < (F x).pub
    · have := res_pub b o n c F x 0 w0 w B v L hn15 hN hu hr hxn hw hB hBw ho (by omega) hp
      unfold resM
      rw [if_pos hp]
      exact this
    · have hres : resM F 0 x = [] := by unfold resM; rw [if_neg hp]
      rw [hres, List.append_nil]
      obtain ⟨e0, e1, e2, ⟨A, cc, e3, hI⟩, hwf⟩ := hN x hxn
      have eb := World.block_lt_of_cell? _ _ e0
      have c0 := (hw.cell (p := ⟨b, o + x * 4, none⟩) eb).trans e0
      have c1 := (hw.cell (p := ⟨b, o + x * 4 + 1, none⟩) eb).trans e1
      have c2 := (hw.cell (p := ⟨b, o + x * 4 + 2, none⟩) eb).trans e2
      have c3 := (hw.cell (p := ⟨b, o + x * 4 + 3, none⟩) eb).trans e3
      have hb0 : b < w.heap.size := World.block_lt_of_cell? _ _ c0
      have q1 : (0 : Int) ≤ (x : Int) := by omega
      have q2 : (x : Int) < n := by omega
      have t1 : decide (0 < (F x).pub) = false := decide_eq_false hp
      have hbw0 : Below B w ((w.alloc (.cells #[.slice (some ⟨b, o, none⟩) n c] 24)).alloc (.cells #[.int .i64 (F x).pub, .int .i64 (F x).mem, .int .i64 (F x).ep, .slice A (F x).un.length cc] 45)) := ((Below.refl _ _).alloc hBw _).alloc (by simp; omega) _
      have hown := Lib.hid (ho.below (((Below.refl w.heap.size w).alloc (Nat.le_refl _) (.cells #[.slice (some ⟨b, o, none⟩) n c] 24)).alloc (by simp) (.cells #[.int .i64 (F x).pub, .int .i64 (F x).mem, .int .i64 (F x).ep, .slice A (F x).un.length cc] 45)))
      have hTa := hT.below hpos (hw.trans (hbw0.mono hB))
      have hL := left_no (x : Int) _ hTa (by omega) (lev_zero hx (by omega))
      obtain ⟨Av, cv, rfl⟩ := ho.slice
      clear hI hN hu hr hp ho e0 e1 e2 e3 eb hres hTa
      generalize (F x).pub = p at *
      generalize (F x).mem = m at *
      generalize (F x).ep = e at *
      generalize (F x).un.length = us at *
      go_enter Tryd.func37, Tryd.ntmps37
      go_wp2_with (go_at_call 51; refine hL.mono ?_; rintro e' w' ⟨rfl, rfl⟩)
      go_ret
      exact ⟨⟨_, rfl, hown.out, .inl rfl⟩, (World.grownBy_alloc _ _ _).trans (World.grownBy_alloc _ _ _)⟩
  | succ k ih =>
    intro x j hx hxn w v L hw hBw ho hl
    by_cases hp : 0 < (F x).pub
    · have := res_pub b o n c F x (k + 1) w0 w B v L hn15 hN hu hr hxn hw hB hBw ho (by omega) hp
      unfold resM
      rw [if_pos hp]
      exact this
    · have hres : resM F (k + 1) x = resM F k (x - 2 ^ k) ++ resM F k (x + 2 ^ k) := by rw [resM, if_neg hp]
      rw [hres, ← List.append_assoc]
      obtain ⟨e0, e1, e2, ⟨A, cc, e3, hI⟩, hwf⟩ := hN x hxn
      have eb := World.block_lt_of_cell? _ _ e0
      have c0 := (hw.cell (p := ⟨b, o + x * 4, none⟩) eb).trans e0
      have c1 := (hw.cell (p := ⟨b, o + x * 4 + 1, none⟩) eb).trans e1
      have c2 := (hw.cell (p := ⟨b, o + x * 4 + 2, none⟩) eb).trans e2
      have c3 := (hw.cell (p := ⟨b, o + x * 4 + 3, none⟩) eb).trans e3
      have hb0 : b < w.heap.size := World.block_lt_of_cell? _ _ c0
      have q1 : (0 : Int) ≤ (x : Int) := by omega
      have q2 : (x : Int) < n := by omega
      have t1 : decide (0 < (F x).pub) = false := decide_eq_false hp
      obtain ⟨kr, kl⟩ := kid_lt hnl hxn hx
      obtain ⟨n1, n2⟩ := hx.kids
      have hk60 : k + 1 ≤ 62 := by
        have := hx.level_lt (n := 5) (by omega)
        omega
      obtain ⟨WA, hWA⟩ : ∃ WA, WA = ((w.alloc (.cells #[.slice (some ⟨b, o, none⟩) n c] 24)).alloc (.cells #[.int .i64 (F x).pub, .int .i64 (F x).mem, .int .i64 (F x).ep, .slice A (F x).un.length cc] 45)) := ⟨_, rfl⟩
      have hbw0 : Below B w WA := by rw [hWA]; exact ((Below.refl _ _).alloc hBw _).alloc (by simp; omega) _
      have hwwA : Below w.heap.size w WA := by rw [hWA]; exact ((Below.refl w.heap.size w).alloc (Nat.le_refl _) _).alloc (by simp) _
      have hown := ho.below hwwA
      have h0A := hw.trans (hbw0.mono hB)
      have hboxA : WA.cell? ⟨w.heap.size, 0, none⟩ = some (.slice (some ⟨b, o, none⟩) n c) := by
        rw [hWA, World.cell?_alloc_lt _ _ _ (by simp)]
        have := cell_one_new w (.slice (some ⟨b, o, none⟩) n c) 24 0 _ rfl
        exact this
      have hl1 := two_succ (k + 1)
      have hl2 := two_succ k
      have hpk := two_pos k
      have hL1 := ih (x - 2 ^ k) _ n1 (by omega) WA v L h0A (Nat.le_trans hBw hbw0.size) hown (by omega)
      have hlen1 := resM_length (n := n) hu k (x - 2 ^ k)
      have HIH := Lib.hid (fun W v' h1 h2 h3 => ih (x + 2 ^ k) _ n2 kr W v' (L ++ resM F k (x - 2 ^ k)) h1 h2 h3 (by rw [List.length_append]; omega))
      have hLf : ∀ W, Below w0.heap.size w0 W → Calls Tryd.prog 51 #[.int .i64 x] W fun e w' => e = .returned (.tuple #[.int .i64 (x - 2 ^ k : Nat), .bool true]) ∧ W = w' := fun W hW => by
        have := left_yes x (k + 1) j hx (by omega) (by omega) (by omega) W (hT.below hpos hW)
        rw [Nat.add_sub_cancel] at this
        exact this
      have hRt : ∀ W, Below w0.heap.size w0 W → Calls Tryd.prog 52 #[.int .i64 x] W fun e w' => e = .returned (.tuple #[.int .i64 (x + 2 ^ k : Nat), .bool true]) ∧ W = w' := fun W hW => by
        have := right_yes x (k + 1) j hx (by omega) (by omega) hk60 W (hT.below hpos hW)
        rw [Nat.add_sub_cancel] at this
        exact this
      have hLL := hLf WA h0A
      have HO := Lib.hid ho
      obtain ⟨Av, cv, hv⟩ := ho.slice
      have hvl : ∀ q, v.ownBlock = some q → q < w.heap.size := fun q hq => (World.ownsRow.lt ho q hq).2
      have HM := Lib.hid (And.intro hw (And.intro hB (And.intro hBw hbw0)))
      generalize hxl : x - 2 ^ k = xl at *
      generalize hxr : x + 2 ^ k = xr at *
      clear hI hN hu hr hp ho e0 e1 e2 e3 eb hres hlen1 hl1 hl2 hpk n1 n2 kr kl hxl hxr ih hown hLf hk60 hx hw hB hBw
      subst hv
      generalize (F x).pub = p at *
      generalize (F x).mem = m at *
      generalize (F x).ep = e at *
      generalize (F x).un.length = us at *
      go_enter Tryd.func37, Tryd.ntmps37
      rw [hWA] at hLL hL1
      go_wp2_with (go_at_call 51; refine hLL.mono ?_; rintro e' w' ⟨rfl, rfl⟩)
      refine hL1.mono ?_
      rintro e' w2 ⟨⟨v2, rfl, ho2, hl2⟩, hg2⟩
      generalize hL2 : L ++ resM F k xl = L2 at *
      have HL2 := Lib.hid hL2
      clear hL2
      rw [← hWA] at hg2 hl2
      have hbox2 : w2.cell? ⟨w.heap.size, 0, none⟩ = some (.slice (some ⟨b, o, none⟩) n c) := World.grownBy.cell hg2 hboxA (fun e => by have : w.heap.size < w.heap.size := hvl _ e.symm; omega)
      have hbs2 := World.block_lt_of_cell? _ _ hbox2
      have hgA : w.grownBy WA (Value.slice Av L.length cv).ownBlock := by rw [hWA]; exact (World.grownBy_alloc _ _ _).trans (World.grownBy_alloc _ _ _)
      have hgw2 := grow2 hgA hg2 (.inl rfl)
      have hlw2 : Lies w (Value.slice Av L.length cv) v2 := lies2 hgA.size (.inl rfl) hl2
      have hbw2 := grown_below HO.out hgw2 HM.out.2.2.1
      have h02 : Below w0.heap.size w0 w2 := HM.out.1.trans (hbw2.mono HM.out.2.1)
      have hRR := hRt w2 h02
      have hI2 := HIH.out w2 v2 h02 (Nat.le_trans HM.out.2.2.1 hbw2.size) ho2
      have HX := Lib.hid (And.intro hgw2 hlw2)
      obtain ⟨A2, c2', rfl⟩ := ho2.slice
      clear ho2 hl2 hg2 hgw2 hlw2 hbw2 h02 hRt hWA hboxA hgA
      go_wp2_with (go_at_call 52; refine hRR.mono ?_; rintro e' w' ⟨rfl, rfl⟩)
      refine hI2.mono ?_
      rintro e' w3 ⟨⟨v3, rfl, ho3, hl3⟩, hg3⟩
      have H3 := Lib.hid (And.intro ho3 (And.intro hl3 hg3))
      clear ho3 hl3 hg3
      go_wp2_with fail
      go_ret
      rw [HL2.out]
      exact ⟨⟨_, rfl, H3.out.1, lies2 HX.out.1.size HX.out.2 H3.out.2.1⟩, grow2 HX.out.1 H3.out.2.2 HX.out.2⟩
end Go.Proofs.YtopkanokpfhmmaaDoor
