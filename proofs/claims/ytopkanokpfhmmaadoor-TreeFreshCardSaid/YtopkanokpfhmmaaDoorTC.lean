/- Check: may a tree be? -/
import Derived.Test.YtopkanokpfhmmaaDoorTP
import Derived.Test.YtopkanokpfhmmaaDoorMI
namespace Go.Proofs.YtopkanokpfhmmaaDoor
open Go Go.RowKit
set_option linter.unusedVariables false
set_option linter.unusedSimpArgs false

theorem parent27 (b o n c : Nat) (F : Nat → Node) (x : Nat) (hx : x < n) (hn : lvs n ≠ 0) (w : World) (hT : Tab w) (hN : ∀ y, y < n → NdAt w b (o + y * 4) (F y)) :
    Calls Tryd.prog 27 #[.agg #[.slice (some ⟨b, o, none⟩) n c], .int .i64 x] w fun e w' => e = .returned (.bool (parB F x)) ∧ Below w.heap.size w w' := by
  by_cases hq : (F x).pub < 1 ∨ (F x).mem ≠ 0 ∨ (F x).ep ≠ 0
  · exact parent_low b o n c F x hx (lvs_le hn).2 w (hN x hx) hq
  · exact parent_high b o n c F x hx hn w hT hN hq
theorem below_box {w w' : World} {o : Obj} (h : Below (w.alloc o).heap.size (w.alloc o) w') : Below w.heap.size w w' :=
  ((Below.refl _ _).alloc (Nat.le_refl _) o).trans (h.mono (by simp))
theorem box_keep {w w' : World} {v : Value} {t : TypeId} (h : Below (w.alloc (.cells #[v] t)).heap.size (w.alloc (.cells #[v] t)) w') : w'.cell? ⟨w.heap.size, 0, none⟩ = some v ∧ w.heap.size < w'.heap.size := by
  have h1 := h.size
  simp at h1
  refine ⟨?_, by omega⟩
  rw [h.cell (by simp)]
  exact cell_one_new w v t 0 v rfl
/-- What Check looks at in a tree of a right size. -/
def restB (n : Nat) (F : Nat → Node) : Bool := goodsB F n && decide (((lvs n / 2 : Nat) : Int) ≤ lastM F n)
/-- The error of a test. -/
def errB (b : Bool) : Int := if b then 0 else 1
set_option maxHeartbeats 1000000 in
theorem check_none (A : Option Addr) (c : Nat) (w : World) :
    Calls Tryd.prog 10 #[.agg #[.slice A 0 c]] w fun e w' => e = .returned (.int .i64 0) ∧ Below w.heap.size w w' := by
  go_enter Tryd.func10, Tryd.ntmps10
  go_wp2
  go_ret
  exact ⟨rfl, (Below.refl _ _).alloc (Nat.le_refl _) _⟩
set_option maxHeartbeats 1000000 in
theorem check_odd (A : Option Addr) (n c : Nat) (w : World) (h0 : n ≠ 0) (hn : n ≤ 9223372036854775806) (hl : lvs n = 0) :
    Calls Tryd.prog 10 #[.agg #[.slice A n c]] w fun e w' => e = .returned (.int .i64 1) ∧ Below w.heap.size w w' := by
  have t0 : ((n : Int) == 0) = false := by rw [beq_eq_false_iff_ne]; omega
  have hL := fun w => leaves26 A n c w hn
  rw [hl] at hL
  go_enter Tryd.func10, Tryd.ntmps10
  go_wp2_with (go_at_call 26; refine (hL _).mono ?_; rintro e w1 ⟨rfl, hb1⟩)
  go_ret
  exact ⟨rfl, below_box hb1⟩
/-- What the loop of Check holds. -/
structure ChkI (w : World) (b o n c mb : Nat) (F : Nat → Node) (x : Nat) (wr : World) : Prop where
  bel : Below w.heap.size w wr
  box : wr.cell? ⟨w.heap.size, 0, none⟩ = some (.slice (some ⟨b, o, none⟩) n c)
  hmb : w.heap.size < mb
  map : ∃ k, k ≤ x ∧ MapI wr mb k (fun t => if t ∈ prior F x then some 1 else none)
theorem ChkI.under {w wr w' : World} {b o n c mb x : Nat} {F : Nat → Node} (h : ChkI w b o n c mb F x wr) (hb : Below wr.heap.size wr w') : ChkI w b o n c mb F x w' := by
  obtain ⟨k, hk, hm⟩ := h.map
  exact ⟨h.bel.trans (hb.mono h.bel.size), by rw [hb.cell (World.block_lt_of_cell? _ _ h.box)]; exact h.box, h.hmb, k, hk, hm.under hb⟩
theorem ChkI.next {w wr : World} {b o n c mb x : Nat} {F : Nat → Node} (h : ChkI w b o n c mb F x wr) (hx : ¬ (x % 2 = 0 ∧ (F x).blank = false)) : ChkI w b o n c mb F (x + 1) wr := by
  obtain ⟨k, hk, hm⟩ := h.map
  refine ⟨h.bel, h.box, h.hmb, k, by omega, ?_⟩
  have e : prior F (x + 1) = prior F x := by rw [prior, if_neg hx]
  rw [e]
  exact hm
theorem cells4 {wr w2 : World} {a0 a1 a2 a3 : Value} {t : TypeId} (hb2 : Below (wr.alloc (.cells #[a0, a1, a2, a3] t)).heap.size (wr.alloc (.cells #[a0, a1, a2, a3] t)) w2) :
    w2.cell? ⟨wr.heap.size, 0, none⟩ = some a0 ∧ w2.cell? ⟨wr.heap.size, 1, none⟩ = some a1 ∧ w2.cell? ⟨wr.heap.size, 2, none⟩ = some a2 ∧ w2.cell? ⟨wr.heap.size, 3, none⟩ = some a3 ∧ wr.heap.size < w2.heap.size := by
  have hs := hb2.size
  simp at hs
  have key : ∀ j u, (#[a0, a1, a2, a3] : Array Value)[j]? = some u → w2.cell? ⟨wr.heap.size, j, none⟩ = some u := fun j u hj => by
    rw [hb2.cell (by simp), cell_of_row _ _ _ _ _ _ (heap_alloc_new wr _)]
    exact hj
  exact ⟨key 0 _ rfl, key 1 _ rfl, key 2 _ rfl, key 3 _ rfl, by omega⟩
/-- One member more in the map. -/
theorem chk_put {w wr w2 : World} {b o n c mb x : Nat} {F : Nat → Node} {a0 a2 a3 : Value} {m v : Int} (h : ChkI w b o n c mb F x wr)
    (hb2 : Below (wr.alloc (.cells #[a0, .int .i64 m, a2, a3] 45)).heap.size (wr.alloc (.cells #[a0, .int .i64 m, a2, a3] 45)) w2) (hm : (Lit.int .i64 m).wf = true) (hv : (if m ∈ prior F x then (1 : Int) else 0) = v) (hx : x ≤ 15) :
    (Instr.lookup 57 (.map (some mb)) (.int .i64 m) false).run Tryd.prog w2 = .ok (.int .i64 v) w2 ∧
    (w2.cell? ⟨wr.heap.size, 0, none⟩ = some a0 ∧ w2.cell? ⟨wr.heap.size, 1, none⟩ = some (.int .i64 m) ∧ w2.cell? ⟨wr.heap.size, 2, none⟩ = some a2 ∧ w2.cell? ⟨wr.heap.size, 3, none⟩ = some a3) ∧
    ∃ w3, (Instr.mapUpdate 57 (.map (some mb)) (.int .i64 m) (.int .i64 (v + 1))).run Tryd.prog w2 = .ok () w3 ∧
    (w3.cell? ⟨wr.heap.size, 0, none⟩ = some a0 ∧ w3.cell? ⟨wr.heap.size, 1, none⟩ = some (.int .i64 m) ∧ w3.cell? ⟨wr.heap.size, 2, none⟩ = some a2 ∧ w3.cell? ⟨wr.heap.size, 3, none⟩ = some a3) ∧
    (Instr.lookup 57 (.map (some mb)) (.int .i64 m) false).run Tryd.prog w3 = .ok (.int .i64 (v + 1)) w3 ∧
    Below w.heap.size w w3 ∧ w3.cell? ⟨w.heap.size, 0, none⟩ = some (.slice (some ⟨b, o, none⟩) n c) ∧ ∃ k, k ≤ x + 1 ∧ MapI w3 mb k (upd (fun t => if t ∈ prior F x then some 1 else none) m (v + 1)) := by
  obtain ⟨x0, x1, x2, x3, hs⟩ := cells4 hb2
  have h2 := h.under (below_box hb2)
  obtain ⟨k, hk, hmap⟩ := h.map
  obtain ⟨es, ck, hmb⟩ := hmap.isMap
  have hmlt := lt_of_some hmb
  have hmap2 := hmap.under (below_box hb2)
  have hv2 : v = 0 ∨ v = 1 := by rw [← hv]; split <;> simp
  have hg : ((fun t => if t ∈ prior F x then some (1 : Int) else none) m).getD 0 = v := by
    rw [← hv]
    by_cases hp : m ∈ prior F x
    · simp [hp]
    · simp [hp]
  have hwf : (Lit.int .i64 (v + 1)).wf = true := by
    rcases hv2 with rfl | rfl <;> decide
  have hl := hmap2.look1 m hm
  rw [hg] at hl
  obtain ⟨w3, hrun, hgr, hm3⟩ := hmap2.put (by unfold maxLen; omega) m (v + 1) hm hwf
  have hl3 := hm3.look1 m hm
  have e3 : ((upd (fun t => if t ∈ prior F x then some (1 : Int) else none) m (v + 1)) m).getD 0 = v + 1 := by simp [upd]
  rw [e3] at hl3
  have stay : ∀ g, g < w2.heap.size → g ≠ mb → ∀ j u, w2.cell? ⟨g, j, none⟩ = some u → w3.cell? ⟨g, j, none⟩ = some u := fun g h1 h2 j u hc => by
    rw [World.cell?_of_block (a := ⟨g, j, none⟩) (hgr.block g h1 (fun e => h2 (by injection e)))]
    exact hc
  have hne : wr.heap.size ≠ mb := by omega
  have s0 := h.bel.size
  have s2 := h2.bel.size
  have hmbp := h.hmb
  refine ⟨hl, ⟨x0, x1, x2, x3⟩, w3, hrun, ⟨stay _ hs hne _ _ x0, stay _ hs hne _ _ x1, stay _ hs hne _ _ x2, stay _ hs hne _ _ x3⟩, hl3, ?_, ?_, k + 1, by omega, hm3⟩
  · exact h2.bel.grown hgr h2.bel.size (fun g hg => by have := Option.some.inj hg; omega)
  · exact stay w.heap.size (World.block_lt_of_cell? _ _ h2.box) (by omega) _ _ h2.box
theorem goodsB_stop {F : Nat → Node} {x : Nat} (h : goodB F x = false) : ∀ {n : Nat}, x < n → goodsB F n = false
  | 0, hx => by omega
  | n + 1, hx => by
    rw [goodsB]
    by_cases e : x = n
    · rw [← e, h, Bool.and_false]
    · rw [goodsB_stop h (by omega), Bool.false_and]
theorem rest_stop {F : Nat → Node} {x n : Nat} (h : goodB F x = false) (hx : x < n) : restB n F = false := by unfold restB; rw [goodsB_stop h hx, Bool.false_and]
set_option maxHeartbeats 4000000 in
set_option maxRecDepth 100000 in
theorem check_loop (b o n c : Nat) (F : Nat → Node) (w : World) (hT : Tab w) (hn : lvs n ≠ 0) (hN : ∀ y, y < n → NdAt w b (o + y * 4) (F y)) :
    Calls Tryd.prog 10 #[.agg #[.slice (some ⟨b, o, none⟩) n c]] w fun e w' => e = .returned (.int .i64 (errB (restB n F))) ∧ Below w.heap.size w w' := by
  have hn15 := lvs_le hn
  have t0 : ((n : Int) == 0) = false := by rw [beq_eq_false_iff_ne]; omega
  have hL := fun w => leaves26 (some ⟨b, o, none⟩) n c w (by omega)
  have hlv : lvs n ≤ 8 := by
    unfold lvs
    repeat' split
    all_goals omega
  generalize hl : lvs n = l at *
  have t1 : ((l : Int) == 0) = false := by rw [beq_eq_false_iff_ne]; omega
  have hpos := hT.pos
  have hmk : ∀ w, (Instr.makeMap 57 none).run Tryd.prog w = .ok (.map (some w.heap.size)) (w.alloc (.map #[] 0)) := fun w => by
    simp [Instr.makeMap, go_sem]
  have HN := Lib.hid hN
  have HLV := Lib.hid hl
  clear hN hl
  go_enter Tryd.func10, Tryd.ntmps10
  go_wp2_with (go_at_call 26; refine (hL _).mono ?_; rintro e w1 ⟨rfl, hb1⟩; obtain ⟨hbox, hs1⟩ := box_keep hb1)
  have hw1 := below_box hb1
  have hI0 : ChkI w b o n c w1.heap.size F 0 (w1.alloc (.map #[] 0)) :=
    ⟨hw1.alloc hw1.size _, by rw [World.cell?_alloc_lt _ _ _ hs1]; exact hbox, hs1, 0, Nat.le_refl _, (MapI.made w1).congr fun t => by simp [prior]⟩
  have HI0 := Lib.hid hI0
  clear hI0
  generalize hmb : w1.heap.size = mb at *
  go_loopg [5, 20] (n + 1) (fun g v5 v20 wr => ∃ x : Nat, x ≤ n ∧ x + g = n + 1 ∧ v20 = .int .i64 x ∧ v5 = .int .i64 (lastM F x) ∧ goodsB F x = true ∧ ChkI w b o n c mb F x wr)
  case atStart => exact ⟨0, by omega, by omega, rfl, rfl, rfl, HI0.out⟩
  case round =>
    obtain ⟨x, hx, hg, rfl, rfl, hgood, hI⟩ := hrel
    have HG := Lib.hid (And.intro hg hgood)
    have HI := Lib.hid hI
    have hbox2 := hI.box
    have hbs := World.block_lt_of_cell? _ _ hI.box
    clear hg hgood hI HI0 hL hmk hbox hb1
    by_cases hlt : x < n
    · obtain ⟨c0, c1, c2, ⟨A, cc, c3, hIn⟩, hr⟩ := (HN.out x hlt).below HI.out.bel
      have hb0 : b < wr.heap.size := World.block_lt_of_cell? _ _ c0
      have q1 : (0 : Int) ≤ (x : Int) := by omega
      have q2 : (x : Int) < n := by omega
      clear hIn
      generalize hp : (F x).pub = p at *
      generalize hm : (F x).mem = m at *
      generalize he : (F x).ep = e at *
      generalize hU : (F x).un.length = k at *
      by_cases hodd : x % 2 = 1
      · have a1 : ((x : Int) % 2 == 1) = true := by rw [beq_iff_eq]; omega
        have HP : Hid (∀ W, Below wr.heap.size wr W → Calls Tryd.prog 27 #[.agg #[.slice (some ⟨b, o, none⟩) n c], .int .i64 x] W fun e w' => e = .returned (.bool (parB F x)) ∧ Below W.heap.size W w') := Lib.hid fun W hW =>
          parent27 b o n c F x hlt (by rw [HLV.out]; exact hn) W (hT.below hpos (HI.out.bel.trans (hW.mono HI.out.bel.size))) (fun y hy => ((HN.out y hy).below HI.out.bel).below hW)
        clear hp hm he hU
        have hgx : goodB F x = parB F x := by unfold goodB; rw [if_pos hodd]
        have hnx : ¬ (x % 2 = 0 ∧ (F x).blank = false) := by omega
        have HNX := Lib.hid hnx
        cases hz : parB F x with
        | false =>
          have HZ := Lib.hid (rest_stop (hgx.trans hz) hlt)
          rw [hz] at HP
          clear hz hgx hnx hodd
          go_wp2_with (go_at_call 27; refine (HP.out _ ((Below.refl _ _).alloc (Nat.le_refl _) _)).mono ?_; rintro e w2 ⟨rfl, hb2⟩)
          go_ret
          rw [HZ.out]
          exact ⟨rfl, HI.out.bel.trans ((below_box hb2).mono HI.out.bel.size)⟩
        | true =>
          have HZ := Lib.hid (show goodsB F (x + 1) = true by rw [goodsB, HG.out.2, hgx, hz]; rfl)
          rw [hz] at HP
          clear hz hgx hnx hodd
          go_wp2_with (go_at_call 27; refine (HP.out _ ((Below.refl _ _).alloc (Nat.le_refl _) _)).mono ?_; rintro e w2 ⟨rfl, hb2⟩)
          go_roundg (gk - 1)
          case rel => exact ⟨x + 1, by omega, by have := HG.out.1; omega, by go_num, by rw [lastM, if_neg HNX.out], HZ.out, (HI.out.under (below_box hb2)).next HNX.out⟩
          case measure => have := HG.out.1; omega
      · have a1 : ((x : Int) % 2 == 1) = false := by rw [beq_eq_false_iff_ne]; omega
        have HB : ∀ W, Calls Tryd.prog 28 #[.agg #[.int .i64 p, .int .i64 m, .int .i64 e, .slice A k cc]] W fun e w' => e = .returned (.bool (F x).blank) ∧ Below W.heap.size W w' := fun W => by
          have := blankN (F x) A cc W
          rw [hp, hm, he, hU] at this
          exact this
        cases hz : (F x).blank with
        | true =>
          have hnx : ¬ (x % 2 = 0 ∧ (F x).blank = false) := by simp [hz]
          have HNX := Lib.hid hnx
          have HZ := Lib.hid (show goodsB F (x + 1) = true by rw [goodsB, HG.out.2]; unfold goodB; rw [if_neg hodd, hz]; rfl)
          rw [hz] at HB
          clear hz hnx hodd hp hm he hU
          go_wp2_with (go_at_call 28; refine (HB _).mono ?_; rintro e w2 ⟨rfl, hb2⟩)
          go_roundg (gk - 1)
          case rel => exact ⟨x + 1, by omega, by have := HG.out.1; omega, by go_num, by rw [lastM, if_neg HNX.out], HZ.out, (HI.out.under (below_box hb2)).next HNX.out⟩
          case measure => have := HG.out.1; omega
        | false =>
          have hgx : goodB F x = (leafB (F x) && !(prior F x).contains (F x).mem) := by unfold goodB; rw [if_neg hodd, hz]; rfl
          have hx0 : x % 2 = 0 := by omega
          have HX := Lib.hid (And.intro hx0 hz)
          have HM := Lib.hid hm
          have hx15 : x ≤ 15 := by omega
          rw [hz] at HB
          unfold leafB at hgx
          have hlen : (F x).un.isEmpty = decide (k = 0) := by
            rw [← hU]
            cases (F x).un <;> simp
          rw [hp, hm, he, hlen] at hgx
          clear hz hodd hp hm he hU
          have HGX := Lib.hid hgx
          clear hgx hlen
          obtain ⟨v, hv, hv0, hv1⟩ : ∃ v, (if m ∈ prior F x then (1 : Int) else 0) = v ∧ 0 ≤ v ∧ v ≤ 1 := ⟨_, rfl, by split <;> decide, by split <;> decide⟩
          have HV := Lib.hid hv
          clear hv
          by_cases d_p : p < 1
          · have dd_p : decide (p < 1) = true := decide_eq_true d_p
            have HZ := Lib.hid (rest_stop (show goodB F x = false by rw [HGX.out]; simp; omega) hlt)
            clear HGX
            go_wp2_with (go_at_call 28; refine (HB _).mono ?_; rintro e w2 ⟨rfl, hb2⟩; obtain ⟨hl2, ⟨x0, x1, x2, x3⟩, w3, hrun, ⟨y0, y1, y2, y3⟩, hl3, hbel3, hbox3, hmap3⟩ := chk_put HI.out hb2 hr HV.out hx15)
            go_ret
            rw [HZ.out]
            exact ⟨rfl, hbel3⟩
          · have dd_p : decide (p < 1) = false := decide_eq_false d_p
            by_cases d_m : m < 0
            · have dd_m : decide (m < 0) = true := decide_eq_true d_m
              have HZ := Lib.hid (rest_stop (show goodB F x = false by rw [HGX.out]; simp; omega) hlt)
              clear HGX
              go_wp2_with (go_at_call 28; refine (HB _).mono ?_; rintro e w2 ⟨rfl, hb2⟩; obtain ⟨hl2, ⟨x0, x1, x2, x3⟩, w3, hrun, ⟨y0, y1, y2, y3⟩, hl3, hbel3, hbox3, hmap3⟩ := chk_put HI.out hb2 hr HV.out hx15)
              go_ret
              rw [HZ.out]
              exact ⟨rfl, hbel3⟩
            · have dd_m : decide (m < 0) = false := decide_eq_false d_m
              by_cases d_e : e < 0
              · have dd_e : decide (e < 0) = true := decide_eq_true d_e
                have HZ := Lib.hid (rest_stop (show goodB F x = false by rw [HGX.out]; simp; omega) hlt)
                clear HGX
                go_wp2_with (go_at_call 28; refine (HB _).mono ?_; rintro e w2 ⟨rfl, hb2⟩; obtain ⟨hl2, ⟨x0, x1, x2, x3⟩, w3, hrun, ⟨y0, y1, y2, y3⟩, hl3, hbel3, hbox3, hmap3⟩ := chk_put HI.out hb2 hr HV.out hx15)
                go_ret
                rw [HZ.out]
                exact ⟨rfl, hbel3⟩
              · have dd_e : decide (e < 0) = false := decide_eq_false d_e
                by_cases d_k : 0 < k
                · have dd_k : decide (0 < k) = true := decide_eq_true d_k
                  have HZ := Lib.hid (rest_stop (show goodB F x = false by rw [HGX.out]; simp; omega) hlt)
                  clear HGX
                  go_wp2_with (go_at_call 28; refine (HB _).mono ?_; rintro e w2 ⟨rfl, hb2⟩; obtain ⟨hl2, ⟨x0, x1, x2, x3⟩, w3, hrun, ⟨y0, y1, y2, y3⟩, hl3, hbel3, hbox3, hmap3⟩ := chk_put HI.out hb2 hr HV.out hx15)
                  go_ret
                  rw [HZ.out]
                  exact ⟨rfl, hbel3⟩
                · have dd_k : decide (0 < k) = false := decide_eq_false d_k
                  by_cases hmem : m ∈ prior F x
                  · have d5 : decide (1 < v + 1) = true := decide_eq_true (by rw [← HV.out, if_pos hmem]; decide)
                    have HMEM := Lib.hid hmem
                    have HZ := Lib.hid (rest_stop (show goodB F x = false by rw [HGX.out]; simp [hmem]) hlt)
                    clear HGX hmem
                    go_wp2_with (go_at_call 28; refine (HB _).mono ?_; rintro e w2 ⟨rfl, hb2⟩; obtain ⟨hl2, ⟨x0, x1, x2, x3⟩, w3, hrun, ⟨y0, y1, y2, y3⟩, hl3, hbel3, hbox3, hmap3⟩ := chk_put HI.out hb2 hr HV.out hx15)
                    go_ret
                    rw [HZ.out]
                    exact ⟨rfl, hbel3⟩
                  · have d5 : decide (1 < v + 1) = false := decide_eq_false (by rw [← HV.out, if_neg hmem]; decide)
                    have HV0 := Lib.hid (show v = 0 by rw [← HV.out, if_neg hmem])
                    have HMEM := Lib.hid hmem
                    have HZ := Lib.hid (show goodsB F (x + 1) = true by
                      rw [goodsB, HG.out.2, HGX.out]
                      simp [hmem]
                      omega)
                    clear HGX hmem
                    go_wp2_with (go_at_call 28; refine (HB _).mono ?_; rintro e w2 ⟨rfl, hb2⟩; obtain ⟨hl2, ⟨x0, x1, x2, x3⟩, w3, hrun, ⟨y0, y1, y2, y3⟩, hl3, hbel3, hbox3, hmap3⟩ := chk_put HI.out hb2 hr HV.out hx15)
                    go_roundg (gk - 1)
                    case rel =>
                      refine ⟨x + 1, by omega, by have := HG.out.1; omega, by go_num, by rw [lastM, if_pos HX.out]; go_num, HZ.out, ?_⟩
                      obtain ⟨j, hj, hmj⟩ := hmap3
                      refine ⟨hbel3, hbox3, HI.out.hmb, j, hj, hmj.congr fun t => ?_⟩
                      rw [prior, if_pos HX.out, HM.out]
                      unfold upd
                      rw [HV0.out]
                      by_cases e : t = m
                      · simp [e]
                      · simp [e]
                    case measure => have := HG.out.1; omega
    · obtain rfl : x = n := by omega
      have HQ := Lib.hid HG.out.2
      by_cases hq : ((l / 2 : Nat) : Int) ≤ lastM F x
      · have a1 : decide (lastM F x < (l : Int) / 2) = false := decide_eq_false (by omega)
        have HR := Lib.hid (show errB (restB x F) = 0 by unfold restB; rw [HQ.out, HLV.out, decide_eq_true hq]; rfl)
        clear hq
        go_wp2
        go_ret
        rw [HR.out]
        exact ⟨rfl, HI.out.bel⟩
      · have a1 : decide (lastM F x < (l : Int) / 2) = true := decide_eq_true (by omega)
        have HR := Lib.hid (show errB (restB x F) = 1 by unfold restB; rw [HQ.out, HLV.out, decide_eq_false hq]; rfl)
        clear hq
        go_wp2
        go_ret
        rw [HR.out]
        exact ⟨rfl, HI.out.bel⟩
theorem chk_rest {n : Nat} {F : Nat → Node} (h : lvs n ≠ 0) : chk n F = restB n F := by
  unfold chk restB
  have h0 : (n == 0) = false := by rw [beq_eq_false_iff_ne]; intro e; subst e; exact h rfl
  rw [h0, Bool.false_or, bne_iff_ne.2 h, Bool.true_and]
theorem TrR.n_le {w : World} {v : Value} {n : Nat} {F : Nat → Node} (h : TrR w v n F) : n ≤ 9223372036854775807 := by
  obtain ⟨A, c, e, h1, h2, _⟩ := h
  unfold maxLen at h2
  omega
theorem check10 (v : Value) (n : Nat) (F : Nat → Node) (w : World) (hT : Tab w) (hR : TrR w v n F) (hn : n ≤ 9223372036854775806) :
    Calls Tryd.prog 10 #[.agg #[v]] w fun e w' => e = .returned (.int .i64 (errB (chk n F))) ∧ Below w.heap.size w w' := by
  obtain ⟨A, c, rfl, h1, h2, h3⟩ := hR
  by_cases h0 : n = 0
  · subst h0
    exact check_none A c w
  · by_cases hl : lvs n = 0
    · have : chk n F = false := by unfold chk; simp [h0, hl]
      rw [this]
      exact check_odd A n c w h0 hn hl
    · obtain ⟨b, o, rfl, h4⟩ := h3 (by omega)
      rw [chk_rest hl]
      exact check_loop b o n c F w hT hl h4
end Go.Proofs.YtopkanokpfhmmaaDoor
