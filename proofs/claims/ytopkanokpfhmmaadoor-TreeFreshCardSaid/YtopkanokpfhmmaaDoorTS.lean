/- Size, Members, Find, taken. -/
import Derived.Test.YtopkanokpfhmmaaDoorTC
namespace Go.Proofs.YtopkanokpfhmmaaDoor
open Go Go.RowKit
set_option linter.unusedVariables false
set_option linter.unusedSimpArgs false

theorem errB_true : errB true = 0 := rfl
theorem errB_false : errB false = 1 := rfl
theorem OwnI.below {w w' : World} {B : Nat} {v : Value} {l : List Int} (h : OwnI w B v l) (hb : Below w.heap.size w w') : OwnI w' B v l := by
  have hlt := World.ownsRow.lt h
  refine ⟨h.1, ?_⟩
  rcases h.2 with h1 | ⟨g, cap, cur, rfl, h2, h3, h4⟩
  · exact .inl h1
  · refine .inr ⟨g, cap, cur, rfl, h2, ?_, h4⟩
    rw [hb.block g (hlt g rfl).2]
    exact h3
theorem OwnI.slice {w : World} {B : Nat} {v : Value} {l : List Int} (h : OwnI w B v l) : ∃ A c, v = .slice A l.length c := by
  obtain ⟨A, c, e, _⟩ := h.ints
  exact ⟨A, c, e⟩
theorem pushg {ops : Array Oper} {rest : List Oper} {o : Oper} {a : Act} {Q : Exit → Act → World → Prop} {w0 w : World} {B g : Nat} {v : Value} {l : List Int} {u : Int}
    (hgd : o.guard = none) (s x : Operand) (ho : o.op = .call { callee := .builtin .append, args := #[s, x], argTypes := #[32, 32] })
    (hs : a.eval s = v) (hx : a.eval x = .slice (some ⟨g, 0, none⟩) 1 1) (hown : Hid (OwnI w B v l)) (hb : Below B w0 w) (hB : B ≤ w.heap.size) (hg : g = w.heap.size) (hl : l.length < 4294967296)
    (h : ∀ v' w', OwnI w' B v' (l ++ [u]) → Below B w0 w' → B ≤ w'.heap.size → wpList Tryd.prog ops Q rest (a.put o.dst v') w') :
    wpList Tryd.prog ops Q (o :: rest) a (w.alloc (.cells #[.int .i64 u] 3)) := by
  subst hg
  exact push hgd s x ho hs hx hown hb hB hl h
theorem memL_length (F : Nat → Node) : ∀ j, (memL F j).length ≤ j
  | 0 => Nat.le_refl _
  | j + 1 => by
    have := memL_length F j
    unfold memL
    split
    · simp; omega
    · omega
theorem lvs_lt {n i : Nat} (h : i < lvs n) : 2 * i < n ∧ i < 8 := by
  by_cases h0 : lvs n = 0
  · omega
  · obtain ⟨d, hd, rfl⟩ := lvs_iff.1 h0
    rw [lvs_pow hd] at h
    have := two_succ d
    have : 2 ^ d ≤ 2 ^ 3 := Nat.pow_le_pow_right (by decide) hd
    omega
theorem sizeM_lt {n i : Nat} {F : Nat → Node} (h : i < sizeM n F) : 2 * i < n ∧ i < 8 := by
  unfold sizeM at h
  split at h
  · exact lvs_lt h
  · omega
theorem sizeM_le (n : Nat) (F : Nat → Node) : sizeM n F ≤ 8 := by
  by_cases h : sizeM n F = 0
  · omega
  · have := (sizeM_lt (n := n) (F := F) (i := sizeM n F - 1) (by omega)).2
    omega
set_option maxHeartbeats 1000000 in
theorem size20 (v : Value) (n : Nat) (F : Nat → Node) (w : World) (hT : Tab w) (hR : TrR w v n F) (hn : n ≤ 262144) :
    Calls Tryd.prog 20 #[.agg #[v]] w fun e w' => e = .returned (.int .i64 (sizeM n F : Nat)) ∧ Below w.heap.size w w' := by
  have hC : ∀ W, Below w.heap.size w W → Calls Tryd.prog 10 #[.agg #[v]] W fun e w' => e = .returned (.int .i64 (errB (chk n F))) ∧ Below W.heap.size W w' := fun W hW =>
    check10 v n F W (hT.below hT.pos hW) (hR.below hW) (by omega)
  obtain ⟨A, c, rfl, -, -, -⟩ := hR
  unfold sizeM
  cases hz : chk n F with
  | false =>
    rw [hz, errB_false] at hC
    rw [if_neg (by decide)]
    go_enter Tryd.func20, Tryd.ntmps20
    go_wp2_with (go_at_call 10; refine (hC _ ((Below.refl _ _).alloc (Nat.le_refl _) _)).mono ?_; rintro e w1 ⟨rfl, hb1⟩)
    go_ret
    exact ⟨rfl, below_box hb1⟩
  | true =>
    rw [hz, errB_true] at hC
    rw [if_pos rfl]
    have hL := fun w => leaves26 A n c w (by omega)
    go_enter Tryd.func20, Tryd.ntmps20
    go_wp2_with (first | (go_at_call 10; refine (hC _ ((Below.refl _ _).alloc (Nat.le_refl _) _)).mono ?_; rintro e w1 ⟨rfl, hb1⟩; obtain ⟨hbox, hs1⟩ := box_keep hb1) | (go_at_call 26; refine (hL _).mono ?_; rintro e w2 ⟨rfl, hb2⟩))
    go_ret
    exact ⟨rfl, (below_box hb1).trans (hb2.mono (by have := (below_box hb1).size; omega))⟩
set_option maxHeartbeats 2000000 in
set_option maxRecDepth 100000 in
theorem members12 (v : Value) (n : Nat) (F : Nat → Node) (w : World) (hT : Tab w) (hR : TrR w v n F) (hn : n ≤ 262144) :
    Calls Tryd.prog 12 #[.agg #[v]] w fun e w' => ∃ v', e = .returned v' ∧ OwnI w' w.heap.size v' (memL F (sizeM n F)) ∧ Below w.heap.size w w' := by
  have hS : ∀ W, Below w.heap.size w W → Calls Tryd.prog 20 #[.agg #[v]] W fun e w' => e = .returned (.int .i64 (sizeM n F : Nat)) ∧ Below W.heap.size W w' := fun W hW =>
    size20 v n F W (hT.below hT.pos hW) (hR.below hW) hn
  have HSZ := Lib.hid (fun i (h : i < sizeM n F) => sizeM_lt h)
  have hs8 := sizeM_le n F
  obtain ⟨A, c, rfl, -, -, h3⟩ := hR
  have H3 := Lib.hid h3
  clear h3
  generalize sizeM n F = s at *
  go_enter Tryd.func12, Tryd.ntmps12
  go_wp2_with (go_at_call 20; refine (hS _ ((Below.refl _ _).alloc (Nat.le_refl _) _)).mono ?_; rintro e w1 ⟨rfl, hb1⟩; obtain ⟨hbox, hs1⟩ := box_keep hb1)
  have hw1 := below_box hb1
  obtain ⟨B, hB⟩ : ∃ B, B = w.heap.size + 1 := ⟨_, rfl⟩
  have hBs : B ≤ w1.heap.size := by omega
  have HW1 : Hid (∀ W, Below B w1 W → Below w.heap.size w W ∧ W.cell? ⟨w.heap.size, 0, none⟩ = some (.slice A n c)) := Lib.hid fun W hW =>
    ⟨hw1.trans (hW.mono (by omega)), by rw [hW.cell (show w.heap.size < B by omega)]; exact hbox⟩
  have HB := Lib.hid hB
  clear hb1 hS hB hw1 hbox hs1
  go_loopg [3, 8] (s + 1) (fun g v3 v8 wr => ∃ i : Nat, i ≤ s ∧ i + g = s + 1 ∧ v8 = .int .i64 i ∧ OwnI wr B v3 (memL F i) ∧ Below B w1 wr ∧ B ≤ wr.heap.size)
  case atStart => exact ⟨0, by omega, by omega, rfl, World.ownsRow_nil _ _ _ _, Below.refl _ _, hBs⟩
  case round =>
    obtain ⟨i, hi, hg, rfl, hown, hbel, hBr⟩ := hrel
    have HG := Lib.hid hg
    obtain ⟨hbelw, hbox2⟩ := HW1.out wr hbel
    have hbs := World.block_lt_of_cell? _ _ hbox2
    have HOWN := Lib.hid hown
    clear hg hown
    by_cases hlt : i < s
    · obtain ⟨hin, hi8⟩ := HSZ.out i hlt
      obtain ⟨b, o, rfl, hN⟩ := H3.out (by omega)
      obtain ⟨c0, c1, c2, ⟨A', cc, c3, hIn⟩, hr⟩ := (hN (2 * i) hin).below hbelw
      have hb0 : b < wr.heap.size := World.block_lt_of_cell? _ _ c0
      have j1 : (0 : Int) ≤ 2 * (i : Int) := by omega
      have j2 : 2 * (i : Int) < n := by omega
      have j3 : (i : Int) < s := by omega
      have hown2 := Lib.hid (HOWN.out.below ((Below.refl _ _).alloc (Nat.le_refl _) (.cells #[.int .i64 (F (2 * i)).pub, .int .i64 (F (2 * i)).mem, .int .i64 (F (2 * i)).ep, .slice A' (F (2 * i)).un.length cc] 45)))
      have hbel2 := hbel.alloc hBr (.cells #[.int .i64 (F (2 * i)).pub, .int .i64 (F (2 * i)).mem, .int .i64 (F (2 * i)).ep, .slice A' (F (2 * i)).un.length cc] 45)
      have hB2 : B ≤ (wr.alloc (.cells #[.int .i64 (F (2 * i)).pub, .int .i64 (F (2 * i)).mem, .int .i64 (F (2 * i)).ep, .slice A' (F (2 * i)).un.length cc] 45)).heap.size := by simp; omega
      clear hIn hN HOWN
      by_cases hp : 0 < (F (2 * i)).pub
      · have t1 : decide (0 < (F (2 * i)).pub) = true := decide_eq_true hp
        have HM := Lib.hid (show memL F (i + 1) = memL F i ++ [(F (2 * i)).mem] by rw [memL, if_pos hp])
        have HLEN := Lib.hid (memL_length F i)
        clear hp
        generalize (F (2 * i)).pub = p at *
        generalize (F (2 * i)).mem = m at *
        generalize (F (2 * i)).ep = e at *
        generalize (F (2 * i)).un.length = k at *
        go_wp2_with (at_builtin; refine pushg rfl _ _ rfl rfl rfl hown2 hbel2 hB2 ?c0 ?c1 ?_)
        case c1 => have := HLEN.out; omega
        intro v' w' h1 h2 h3
        have H1 := Lib.hid h1
        clear h1 hown2
        go_wp2_with fail
        go_roundg (gk - 1)
        case rel => exact ⟨i + 1, by omega, by have := HG.out; omega, by go_num, by rw [HM.out]; exact H1.out, h2, h3⟩
        case measure => have := HG.out; omega
      · have t1 : decide (0 < (F (2 * i)).pub) = false := decide_eq_false hp
        have HM := Lib.hid (show memL F (i + 1) = memL F i by rw [memL, if_neg hp])
        clear hp
        generalize (F (2 * i)).pub = p at *
        generalize (F (2 * i)).mem = m at *
        generalize (F (2 * i)).ep = e at *
        generalize (F (2 * i)).un.length = k at *
        go_wp2_with fail
        go_roundg (gk - 1)
        case rel => exact ⟨i + 1, by omega, by have := HG.out; omega, by go_num, by rw [HM.out]; exact hown2.out, hbel2, hB2⟩
        case measure => have := HG.out; omega
    · obtain rfl : i = s := by omega
      go_wp2
      go_ret
      exact ⟨_, rfl, own_lower (by have := HB.out; omega) HOWN.out, hbelw⟩
theorem findM_range (F : Nat → Node) (m : Int) : ∀ i, findM F m i = -1 ∨ (0 ≤ findM F m i ∧ findM F m i < i)
  | 0 => .inl rfl
  | i + 1 => by
    have := findM_range F m i
    unfold findM
    split
    · right; omega
    · split
      · right; omega
      · left; rfl
theorem findM_hit {F : Nat → Node} {m : Int} {i : Nat} (h : findM F m i = -1) (hp : 0 < (F (2 * i)).pub) (hm : (F (2 * i)).mem = m) : ∀ {s : Nat}, i < s → findM F m s = i
  | 0, hs => by omega
  | s + 1, hs => by
    unfold findM
    by_cases e : i = s
    · subst e
      rw [if_neg (by omega), if_pos ⟨hp, hm⟩]
    · rw [findM_hit h hp hm (by omega), if_pos (by omega)]
set_option maxHeartbeats 2000000 in
set_option maxRecDepth 100000 in
theorem find15 (v : Value) (n : Nat) (F : Nat → Node) (m : Int) (w : World) (hT : Tab w) (hR : TrR w v n F) (hn : n ≤ 262144) :
    Calls Tryd.prog 15 #[.agg #[v], .int .i64 m] w fun e w' => e = .returned (.int .i64 (findM F m (sizeM n F))) ∧ Below w.heap.size w w' := by
  have hS : ∀ W, Below w.heap.size w W → Calls Tryd.prog 20 #[.agg #[v]] W fun e w' => e = .returned (.int .i64 (sizeM n F : Nat)) ∧ Below W.heap.size W w' := fun W hW =>
    size20 v n F W (hT.below hT.pos hW) (hR.below hW) hn
  have HSZ := Lib.hid (fun i (h : i < sizeM n F) => sizeM_lt h)
  have hs8 := sizeM_le n F
  obtain ⟨A, c, rfl, -, -, h3⟩ := hR
  have H3 := Lib.hid h3
  clear h3
  generalize sizeM n F = s at *
  go_enter Tryd.func15, Tryd.ntmps15
  go_wp2_with (go_at_call 20; refine (hS _ ((Below.refl _ _).alloc (Nat.le_refl _) _)).mono ?_; rintro e w1 ⟨rfl, hb1⟩; obtain ⟨hbox, hs1⟩ := box_keep hb1)
  have hw1 := below_box hb1
  obtain ⟨B, hB⟩ : ∃ B, B = w.heap.size + 1 := ⟨_, rfl⟩
  have hBs : B ≤ w1.heap.size := by omega
  have HW1 : Hid (∀ W, Below B w1 W → Below w.heap.size w W ∧ W.cell? ⟨w.heap.size, 0, none⟩ = some (.slice A n c)) := Lib.hid fun W hW =>
    ⟨hw1.trans (hW.mono (by omega)), by rw [hW.cell (show w.heap.size < B by omega)]; exact hbox⟩
  clear hb1 hS hB hw1 hbox hs1
  go_loopg [9] (s + 1) (fun g v9 wr => ∃ i : Nat, i ≤ s ∧ i + g = s + 1 ∧ v9 = .int .i64 i ∧ findM F m i = -1 ∧ Below B w1 wr ∧ B ≤ wr.heap.size)
  case atStart => exact ⟨0, by omega, by omega, rfl, rfl, Below.refl _ _, hBs⟩
  case round =>
    obtain ⟨i, hi, hg, rfl, hfi, hbel, hBr⟩ := hrel
    have HG := Lib.hid (And.intro hg hfi)
    obtain ⟨hbelw, hbox2⟩ := HW1.out wr hbel
    have hbs := World.block_lt_of_cell? _ _ hbox2
    clear hg hfi
    by_cases hlt : i < s
    · obtain ⟨hin, hi8⟩ := HSZ.out i hlt
      obtain ⟨b, o, rfl, hN⟩ := H3.out (by omega)
      obtain ⟨c0, c1, c2, ⟨A', cc, c3, hIn⟩, hr⟩ := (hN (2 * i) hin).below hbelw
      have hb0 : b < wr.heap.size := World.block_lt_of_cell? _ _ c0
      have j1 : (0 : Int) ≤ 2 * (i : Int) := by omega
      have j2 : 2 * (i : Int) < n := by omega
      have j3 : (i : Int) < s := by omega
      have hbel2 := hbel.alloc hBr (.cells #[.int .i64 (F (2 * i)).pub, .int .i64 (F (2 * i)).mem, .int .i64 (F (2 * i)).ep, .slice A' (F (2 * i)).un.length cc] 45)
      have hbelw2 := (HW1.out _ hbel2).1
      have hB2 : B ≤ (wr.alloc (.cells #[.int .i64 (F (2 * i)).pub, .int .i64 (F (2 * i)).mem, .int .i64 (F (2 * i)).ep, .slice A' (F (2 * i)).un.length cc] 45)).heap.size := by simp; omega
      clear hIn hN
      by_cases hp : 0 < (F (2 * i)).pub
      · have t1 : decide (0 < (F (2 * i)).pub) = true := decide_eq_true hp
        by_cases hm : (F (2 * i)).mem = m
        · have t2 : ((F (2 * i)).mem == m) = true := by rw [beq_iff_eq]; exact hm
          have HR := Lib.hid (findM_hit HG.out.2 hp hm hlt)
          clear hp hm
          generalize (F (2 * i)).pub = p at *
          generalize (F (2 * i)).mem = m' at *
          generalize (F (2 * i)).ep = e at *
          generalize (F (2 * i)).un.length = k at *
          go_wp2_with fail
          go_ret
          rw [HR.out]
          exact ⟨rfl, hbelw2⟩
        · have t2 : ((F (2 * i)).mem == m) = false := by rw [beq_eq_false_iff_ne]; exact hm
          have HM := Lib.hid (show findM F m (i + 1) = -1 by rw [findM, if_neg (by have := HG.out.2; omega), if_neg (fun h => hm h.2)])
          clear hp hm
          generalize (F (2 * i)).pub = p at *
          generalize (F (2 * i)).mem = m' at *
          generalize (F (2 * i)).ep = e at *
          generalize (F (2 * i)).un.length = k at *
          go_wp2_with fail
          go_roundg (gk - 1)
          case rel => exact ⟨i + 1, by omega, by have := HG.out.1; omega, by go_num, HM.out, hbel2, hB2⟩
          case measure => have := HG.out.1; omega
      · have t1 : decide (0 < (F (2 * i)).pub) = false := decide_eq_false hp
        have HM := Lib.hid (show findM F m (i + 1) = -1 by rw [findM, if_neg (by have := HG.out.2; omega), if_neg (fun h => hp h.1)])
        clear hp
        generalize (F (2 * i)).pub = p at *
        generalize (F (2 * i)).mem = m' at *
        generalize (F (2 * i)).ep = e at *
        generalize (F (2 * i)).un.length = k at *
        go_wp2_with fail
        go_roundg (gk - 1)
        case rel => exact ⟨i + 1, by omega, by have := HG.out.1; omega, by go_num, HM.out, hbel2, hB2⟩
        case measure => have := HG.out.1; omega
    · obtain rfl : i = s := by omega
      go_wp2
      go_ret
      rw [HG.out.2]
      exact ⟨rfl, hbelw⟩
end Go.Proofs.YtopkanokpfhmmaaDoor
