/- SetPath, where it is done. -/
import Derived.Test.YtnahhclflnjmcaaGreatDoorA6
import Derived.Test.YtnahhclflnjmcaaGreatDoorK0
namespace Go.Proofs.YtnahhclflnjmcaaGreatDoor
open Go Go.RowKit Go.Proofs.Phase
set_option linter.unusedVariables false
set_option linter.unusedSimpArgs false
set_option maxRecDepth 100000

/-- What SetPath leaves. -/
structure SetYes (w : World) (n : Nat) (G : Nat → Node) (e : Ending) (w' : World) : Prop where
  out : ∃ v', e = .returned (.tuple #[.agg #[v'], .int .i64 0]) ∧ TrO w' w.heap.size v' n G
  bel : Below w.heap.size w w'
theorem rowsM_mem {F : Nat → Node} {d i x : Nat} (h : x ∈ (rowsM F d i).map (·.1)) : x ∈ dirs d i := by
  obtain ⟨r, hr, rfl⟩ := List.mem_map.1 h
  obtain ⟨k, hk, e⟩ := List.mem_map.1 (List.mem_filter.1 hr).1
  rw [← e]
  exact List.mem_map.2 ⟨k, hk, rfl⟩
theorem held2_drew {wr w' : World} {s s1 : Nat} {v u : Value} (h : w'.cell? ⟨s, 0, none⟩ = some v ∧ w'.cell? ⟨s1, 0, none⟩ = some u ∧ Below wr.heap.size wr w') :
    w'.drew.cell? ⟨s, 0, none⟩ = some v ∧ w'.drew.cell? ⟨s1, 0, none⟩ = some u ∧ Below wr.heap.size wr w'.drew := ⟨h.1, h.2.1, h.2.2.drew⟩
theorem held2_call {wr w' w'' : World} {s s1 : Nat} {v u : Value} (h : w'.cell? ⟨s, 0, none⟩ = some v ∧ w'.cell? ⟨s1, 0, none⟩ = some u ∧ Below wr.heap.size wr w') (hb : Below w'.heap.size w' w'') :
    w''.cell? ⟨s, 0, none⟩ = some v ∧ w''.cell? ⟨s1, 0, none⟩ = some u ∧ Below wr.heap.size wr w'' :=
  ⟨(hb.cell (World.block_lt_of_cell? _ _ h.1)).trans h.1, (hb.cell (World.block_lt_of_cell? _ _ h.2.1)).trans h.2.1, h.2.2.trans (hb.mono h.2.2.size)⟩
theorem held2_alloc {wr w' : World} {s s1 : Nat} {v u : Value} {o : Obj} (h : w'.cell? ⟨s, 0, none⟩ = some v ∧ w'.cell? ⟨s1, 0, none⟩ = some u ∧ Below wr.heap.size wr w') :
    (w'.alloc o).cell? ⟨s, 0, none⟩ = some v ∧ (w'.alloc o).cell? ⟨s1, 0, none⟩ = some u ∧ Below wr.heap.size wr (w'.alloc o) := held2_call h ((Below.refl _ _).alloc (Nat.le_refl _) _)
theorem held2_mid {w wr w' : World} {s s1 : Nat} {v u : Value} (h : Below w.heap.size w wr) (hh : w'.cell? ⟨s, 0, none⟩ = some v ∧ w'.cell? ⟨s1, 0, none⟩ = some u ∧ Below wr.heap.size wr w') : Below w.heap.size w w' := h.trans (hh.2.2.mono h.size)
theorem held2_set {wr w' : World} {s s1 g : Nat} {v u z : Value} (h : w'.cell? ⟨s, 0, none⟩ = some v ∧ w'.cell? ⟨s1, 0, none⟩ = some u ∧ Below wr.heap.size wr w') (hs : s < wr.heap.size) (hs1 : s1 < wr.heap.size) (hg : wr.heap.size ≤ g) :
    (w'.setCell ⟨g, 0, none⟩ z).cell? ⟨s, 0, none⟩ = some v ∧ (w'.setCell ⟨g, 0, none⟩ z).cell? ⟨s1, 0, none⟩ = some u ∧ Below wr.heap.size wr (w'.setCell ⟨g, 0, none⟩ z) := by
  have hb := h.2.2.setCell (p := ⟨g, 0, none⟩) hg z
  refine ⟨?_, ?_, hb⟩
  · rw [hb.cell (p := ⟨s, 0, none⟩) hs, ← h.2.2.cell (p := ⟨s, 0, none⟩) hs]; exact h.1
  · rw [hb.cell (p := ⟨s1, 0, none⟩) hs1, ← h.2.2.cell (p := ⟨s1, 0, none⟩) hs1]; exact h.2.1
def setK (F : Nat → Node) (d i : Nat) (ep pub : Int) (k y : Nat) : Node := if y = 2 * i then { F y with ep := ep, pub := pub } else if y ∈ (dirs d i).take k then zeroN else F y
theorem OwnK.setPub {w0 w : World} {B b n : Nat} {F : Nat → Node} {uv : Nat → Value} (h : OwnK w0 w B b n n F uv) {y : Nat} (hy : y < n) (p : Int) :
    OwnK w0 (w.setCell ⟨b, y * 4, none⟩ (.int .i64 p)) B b n n (fun z => if z = y then { F y with pub := p } else F z) uv := by
  refine ⟨h.hb, (h.row.set (y * 4) _).congr fun j hj => ?_, fun z h1 h2 => ?_, fun z h1 h2 => by omega, h.nb, h.ap, fun z h1 => ?_⟩
  · show _ = cellF _ _ j
    unfold cellF
    by_cases e : j = y * 4
    · subst e
      simp [show y * 4 / 4 = y by omega]
    · by_cases e2 : j / 4 = y
      · have c0 : ¬ (j % 4 = 0) := by omega
        simp [e, e2, c0]
      · simp [e, e2]
  · have := (h.un z h1 h2).setOther (a := ⟨b, y * 4, none⟩) (h.nb z h1 h2) (.int .i64 p)
    by_cases e : z = y
    · simp only [e, if_true]; rw [e] at this; exact this
    · simp only [e, if_false]; exact this
  · by_cases e : z = y
    · simp only [e, if_true]; exact h.wf y hy
    · simp only [e, if_false]; exact h.wf z h1
theorem OwnK.setEp {w0 w : World} {B b n : Nat} {F : Nat → Node} {uv : Nat → Value} (h : OwnK w0 w B b n n F uv) {y : Nat} (hy : y < n) (p : Int) :
    OwnK w0 (w.setCell ⟨b, y * 4 + 2, none⟩ (.int .i64 p)) B b n n (fun z => if z = y then { F y with ep := p } else F z) uv := by
  refine ⟨h.hb, (h.row.set (y * 4 + 2) _).congr fun j hj => ?_, fun z h1 h2 => ?_, fun z h1 h2 => by omega, h.nb, h.ap, fun z h1 => ?_⟩
  · show _ = cellF _ _ j
    unfold cellF
    by_cases e : j = y * 4 + 2
    · subst e
      simp [show (y * 4 + 2) / 4 = y by omega, show (y * 4 + 2) % 4 = 2 by omega]
    · by_cases e2 : j / 4 = y
      · have c0 : ¬ (j % 4 = 2) := by omega
        simp [e, e2, c0]
      · simp [e, e2]
  · have := (h.un z h1 h2).setOther (a := ⟨b, y * 4 + 2, none⟩) (h.nb z h1 h2) (.int .i64 p)
    by_cases e : z = y
    · simp only [e, if_true]; rw [e] at this; exact this
    · simp only [e, if_false]; exact this
  · by_cases e : z = y
    · simp only [e, if_true]; exact h.wf y hy
    · simp only [e, if_false]; exact h.wf z h1
theorem OwnK.drew {w0 w : World} {B b n i : Nat} {F : Nat → Node} {uv : Nat → Value} (h : OwnK w0 w B b n i F uv) : OwnK w0 w.drew B b n i F uv := ⟨h.hb, h.row, h.un, h.far, h.nb, h.ap, h.wf⟩
theorem _root_.Go.World.grownBy.drew' {w w' : World} {r : Option Nat} (h : w.grownBy w' r) : w.grownBy w'.drew r := ⟨h.os, h.tape, h.output, h.size, h.block⟩
theorem setF_step {F : Nat → Node} {d i : Nat} {ep pub : Int} {zs zs' : List (Nat × Int)} {x : Nat} {q : Int} {y : Nat} (hz : zs' = zs ++ [(x, q)]) (hxd : x ∈ dirs d i) (hx2 : x ≠ 2 * i) (hno : ¬ ∃ p, p ∈ zs ∧ p.1 = x) :
    (if y = x then { setF F d i ep pub zs x with pub := q } else setF F d i ep pub zs y) = setF F d i ep pub zs' y := by
  have hnf : zs.find? (fun p => p.1 == x) = none := by
    rw [List.find?_eq_none]
    intro p hp e
    exact hno ⟨p, hp, by simpa using e⟩
  by_cases e : y = x
  · subst e
    rw [if_pos rfl, hz]
    unfold setF
    rw [if_neg hx2, if_neg hx2, hnf, List.find?_append, hnf]
    simp [hxd, zeroN]
  · rw [if_neg e, hz]
    unfold setF
    by_cases e2 : y = 2 * i
    · rw [if_pos e2, if_pos e2]
    · rw [if_neg e2, if_neg e2, List.find?_append]
      have : (([(x, q)] : List (Nat × Int)).find? fun p => p.1 == y) = none := by
        have : ¬ (x = y) := fun h => e h.symm
        simp [this]
      rw [this]
      cases zs.find? (fun p => p.1 == y) <;> rfl
theorem h3_drew {w' : World} {p q : Addr} {v u : Value} (h : w'.cell? p = some v ∧ w'.cell? q = some u) : w'.drew.cell? p = some v ∧ w'.drew.cell? q = some u := h
theorem h3_set {w' : World} {g bp o o2 b : Nat} {v u z : Value} (h : w'.cell? ⟨g, 0, none⟩ = some v ∧ w'.cell? ⟨bp, o2, none⟩ = some u) (h1 : g ≠ b) (h2 : bp ≠ b) : (w'.setCell ⟨b, o, none⟩ z).cell? ⟨g, 0, none⟩ = some v ∧ (w'.setCell ⟨b, o, none⟩ z).cell? ⟨bp, o2, none⟩ = some u :=
  ⟨(World.cell?_of_block (a := ⟨g, 0, none⟩) (heap_setCell_other _ _ _ _ h1)).trans h.1, (World.cell?_of_block (a := ⟨bp, o2, none⟩) (heap_setCell_other _ _ _ _ h2)).trans h.2⟩
theorem dirs_nodup : ∀ d : Fin 4, ∀ i : Fin 8, i.val < 2 ^ d.val → (dirs d.val i.val).Nodup := by decide
theorem rowsM_nodup {F : Nat → Node} {d i : Nat} (hd : d ≤ 3) (hi : i < 2 ^ d) : ((rowsM F d i).map (·.1)).Nodup := by
  have h8 : 2 ^ d ≤ 2 ^ 3 := Nat.pow_le_pow_right (by decide) hd
  have h1 : ((rowsM F d i).map (·.1)).Sublist (dirs d i) := by
    have := (List.filter_sublist (p := fun r : Nat × List Int => !r.2.isEmpty) (l := (List.range d).map fun k => (anc (2 * i) (k + 1), resM F k (sib (2 * i) k)))).map (fun r => r.1)
    rw [List.map_map] at this
    exact this
  exact h1.nodup (dirs_nodup ⟨d, by omega⟩ ⟨i, by omega⟩ hi)
theorem nodup_take {l : List Nat} (h : l.Nodup) {j x : Nat} (hx : l[j]? = some x) : x ∉ l.take j := by
  intro hm
  obtain ⟨k, hk⟩ := List.mem_iff_getElem?.1 hm
  have hkj : k < j := by have := (List.getElem?_eq_some_iff.1 hk).1; simp at this; omega
  rw [List.getElem?_take_of_lt hkj] at hk
  obtain ⟨h1, e1⟩ := List.getElem?_eq_some_iff.1 hk
  obtain ⟨h2, e2⟩ := List.getElem?_eq_some_iff.1 hx
  have := (List.getElem_inj h).1 (e1.trans e2.symm)
  omega
theorem OwnK.base {w0 w w1 : World} {B b n : Nat} {F : Nat → Node} {uv : Nat → Value} (h : OwnK w0 w B b n n F uv) : OwnK w1 w B b n n F uv := ⟨h.hb, h.row, h.un, fun y h1 h2 => by omega, h.nb, h.ap, h.wf⟩
theorem box_first {w w' : World} {t : TypeId} {z : Value} (h : Below (w.drew.alloc (.cells #[z] t)).heap.size (w.drew.alloc (.cells #[z] t)) w') : w'.cell? ⟨w.heap.size, 0, none⟩ = some z ∧ w'.frozen? ⟨w.heap.size, 0, none⟩ = false ∧ w.heap.size < w'.heap.size := by
  have hs := h.size
  simp at hs
  refine ⟨?_, ?_, by omega⟩
  · rw [h.cell (by simp)]
    exact cell_one_new w.drew z t 0 z rfl
  · rw [h.frozen (by simp)]
    exact frozen_of_row _ _ _ _ _ (heap_alloc_new w.drew _)
theorem box_first' {w w' : World} {t : TypeId} {z : Value} (h : Below (w.alloc (.cells #[z] t)).heap.size (w.alloc (.cells #[z] t)) w') : w'.cell? ⟨w.heap.size, 0, none⟩ = some z ∧ w'.frozen? ⟨w.heap.size, 0, none⟩ = false ∧ w.heap.size < w'.heap.size := by
  have hs := h.size
  simp at hs
  refine ⟨?_, ?_, by omega⟩
  · rw [h.cell (by simp)]
    exact cell_one_new w z t 0 z rfl
  · rw [h.frozen (by simp)]
    exact frozen_of_row _ _ _ _ _ (heap_alloc_new w _)
theorem box_next {w w' : World} {g : Nat} {z : Value} (h : Below w.heap.size w w') (h1 : w.cell? ⟨g, 0, none⟩ = some z) (h2 : w.frozen? ⟨g, 0, none⟩ = false) (h3 : g < w.heap.size) : w'.cell? ⟨g, 0, none⟩ = some z ∧ w'.frozen? ⟨g, 0, none⟩ = false ∧ g < w'.heap.size :=
  ⟨(h.cell h3).trans h1, (h.frozen h3).trans h2, Nat.lt_of_lt_of_le h3 h.size⟩
theorem wpPh_two {P : Program} {ops : Array Oper} {Q : Exit → Act → World → Prop} {md : Region.Mode} {S : World → Prop} {s : Nat} {i j : Nat} {oi oj : Oper} {fuel : Nat} {listed : Array Bool} {a : Act} {w : World} (hr : Region.ready md ops listed = [i, j]) (hoi : ops[i]? = some oi) (hoj : ops[j]? = some oj)
    (hi : ∀ K' : Act → World → Prop, Shut (∀ a w, S w → (S w → wpPh P md ops Q S s fuel (listed.setIfInBounds i true) a w) → K' a w) → if Region.wanted oi (yielded ops a.tmps) = true then Oper.wp P oi a w K' Q else K' (a.put oi.dst undef) w)
    (hj : ∀ K' : Act → World → Prop, Shut (∀ a w, S w → (S w → wpPh P md ops Q S s fuel (listed.setIfInBounds j true) a w) → K' a w) → if Region.wanted oj (yielded ops a.tmps) = true then Oper.wp P oj a w K' Q else K' (a.put oj.dst undef) w) :
    wpPh P md ops Q S s (fuel + 1) listed a w := by
  refine ⟨fun e => (by rw [hr] at e; cases e), fun k hk => ?_⟩
  rw [hr] at hk
  rcases List.mem_cons.1 hk with rfl | hk
  · exact wpOp_step hoi (fun K' hK => hi K' (fun a w hS hW => hK a w ⟨fun _ => hS, hW hS⟩))
  · rw [List.mem_singleton] at hk
    subst hk
    exact wpOp_step hoj (fun K' hK => hj K' (fun a w hS hW => hK a w ⟨fun _ => hS, hW hS⟩))
set_option maxHeartbeats 8000000 in
set_option maxRecDepth 100000 in
theorem set_some (v : Value) (n d i : Nat) (F : Nat → Node) (ep pub : Int) (vp : Value) (ps : List Int) (w : World) (hT : Tab w) (hR : TrR w v n F) (hO : Ok d n F) (hi : i < 2 ^ d) (hp : 1 ≤ (F (2 * i)).pub) (hep : 0 ≤ ep) (hpub : 1 ≤ pub)
    (hps : Ints w vp ps) (hlen : ps.length = (rowsM F d i).length) (hp1 : ∀ x ∈ ps, 1 ≤ x) (hp0 : ps.length ≠ 0) :
    Calls Tryz.prog 32 #[.agg #[v], .int .i64 i, .int .i64 ep, .int .i64 pub, vp] w fun e w' => SetYes w n (setF F d i ep pub (((rowsM F d i).map (·.1)).zip ps)) e w' := by
  have hz : chk n F = true := chk_iff.2 (.inr ⟨d, hO⟩)
  have hn15 := hO.n_le
  have hC : ∀ W, Below w.heap.size w W → Calls Tryz.prog 10 #[.agg #[v]] W fun e w' => e = .returned (.int .i64 (errB (chk n F))) ∧ Below W.heap.size W w' := fun W hW =>
    check10 v n F W (hT.below hT.pos hW) (hR.below hW) (by omega)
  rw [hz, errB_true] at hC
  have hrE : rowsE n F i = 0 := by
    unfold rowsE
    rw [hz, if_neg (by decide), hO.lvs, Int.toNat_natCast, if_neg]
    omega
  have hP : ∀ W, Below w.heap.size w W → Calls Tryz.prog 36 #[.agg #[v], .int .i64 i] W fun e w' => PathA W (pathL n F i) 0 e w' := fun W hW => by
    have := path17 v n F i W (hT.below hT.pos hW) (hR.below hW) (by omega)
    rw [hrE] at this
    exact this
  have hpl : pathL n F i = (rowsM F d i).map (·.1) := by
    unfold pathL rowsL
    rw [hrE, if_pos rfl, hO.lvs, lg_pow hO.hd, Int.toNat_natCast]
  rw [hpl] at hP
  have hpos := hT.pos
  have h2d := two_pos d
  have h2d3 : 2 ^ d ≤ 2 ^ 3 := Nat.pow_le_pow_right (by decide) hO.hd
  have hs := two_succ d
  have hnd := hO.hn
  have hTW : ∀ W, Below w.heap.size w W → Calls Tryz.prog 154 #[.agg #[v], .int .i64 (2 ^ d : Nat)] W fun e w' => ∃ b uv, e = .returned (.agg #[.slice (some ⟨b, 0, none⟩) n n]) ∧ OwnK W w' W.heap.size b n n F uv ∧ Below W.heap.size W w' := fun W hW => by
    have := twin30 v n (2 ^ d) F W (hR.below hW) (by omega) (by omega) (by omega) (fun y hy => by have := hO.un_len hy; omega)
    rw [show 2 * 2 ^ d - 1 = n by omega] at this
    refine this.mono ?_
    rintro e w' ⟨b, uv, h1, h2, h3⟩
    refine ⟨b, uv, h1, h2.congr fun y hy => ?_, h3⟩
    unfold pad
    rw [if_pos hy]
  have hmin : ps.length ≠ 0 → ∀ W, Below w.heap.size w W → Calls Tryz.prog 166 #[vp] W fun e w' => ∃ m, e = .returned (.int .i64 m) ∧ (m < 1 ↔ ∃ x ∈ ps, x < 1) ∧ W = w' := fun h0 W hW =>
    min36 vp ps W (hps.below hW) (by omega) (by
      rw [hlen]
      have := rowsK_length F i d
      have := hO.hd
      show (rowsK F i d).length ≤ 1000
      omega)
  obtain ⟨A, c, rfl, -, -, -⟩ := hR
  have hL := fun w => leaves26 A n c w (by omega)
  rw [hO.lvs] at hL
  obtain ⟨L, hLd⟩ : ∃ L, L = 2 ^ d := ⟨_, rfl⟩
  rw [← hLd] at hL hTW hi h2d h2d3
  have hpn : ((rowsM F d i).map (·.1)).length ≤ 3 := by
    rw [List.length_map]
    have := rowsK_length F i d
    have := hO.hd
    show (rowsK F i d).length ≤ 3
    omega
  have hdis : ∀ x ∈ (rowsM F d i).map (·.1), x ∈ dirs d i := fun x hx => rowsM_mem hx
  have HND := Lib.hid (fun (j x : Nat) (hx : ((rowsM F d i).map (·.1))[j]? = some x) => nodup_take (rowsM_nodup hO.hd (by rw [← hLd]; exact hi)) hx)
  have hlen2 : ps.length = ((rowsM F d i).map (·.1)).length := by rw [List.length_map]; exact hlen
  generalize hPL : (rowsM F d i).map (·.1) = pl at *
  obtain ⟨Ap, cp, hvp⟩ : ∃ A c, vp = .slice A ps.length c := by
    obtain ⟨A, c, e, _⟩ := hps
    exact ⟨A, c, e⟩
  subst hvp
  have HD := Lib.hid (And.intro hO (And.intro hLd (And.intro hT (And.intro hi (And.intro hps (And.intro hp1 (And.intro hdis hPL)))))))
  have HB0 := Lib.hid (TwoB.start w (.slice A n c))
  have h2in : 2 * i < n := by omega
  have t1 : decide (ep < 0) = false := decide_eq_false (by omega)
  have t2 : decide (pub < 1) = false := decide_eq_false (by omega)
  have hpnl : pl.length ≤ 3 := hpn
  have m1 : (0 : Int) ≤ 2 * (i : Int) := by omega
  have m2 : 2 * (i : Int) < (n : Int) := by omega
  generalize hpsl : ps.length = pn at *
  have HPS := Lib.hid (And.intro hpsl hlen2)
  have t3 : ((pn : Int) != (pl.length : Int)) = false := by rw [bne_eq_false_iff_eq]; omega
  clear hz hps hlen hp1 hrE hpl hs hnd hLd hO hi hdis hp hep hpub hpsl hlen2 hpn hPL
  go_enter Tryz.func32, Tryz.ntmps32
  go_wp2_with (first
    | (go_at_call 10; refine (hC _ HB0.out.bel).mono ?_; rintro e' w1 ⟨rfl, hb1⟩; obtain ⟨d0, d1, d2, d3, d4⟩ := HB0.out.under hb1; have HB1 := Lib.hid (HB0.out.under hb1); have d5 : w.heap.size < w1.heap.size := by omega))
  refine (hP _ HB1.out.bel).mono ?_
  rintro e' w2 ⟨⟨vq, rfl, hoq⟩, hb2⟩
  obtain ⟨f0, f1, f2, f3, f4⟩ := HB1.out.under hb2
  have HB2 := Lib.hid (HB1.out.under hb2)
  have f5 : w.heap.size < w2.heap.size := by omega
  obtain ⟨Aq, cq, rfl⟩ := hoq.slice
  have hnl : (natL pl).length = pl.length := by simp [natL]
  rw [hnl] at hoq ⊢
  have HOQ := Lib.hid hoq.ints
  clear hoq hnl hb1 hb2 d0 d1 d2 d3 d4 d5
  have hS2 : w2.cell? ⟨w.heap.size, 0, none⟩ = some (.slice A n c) ∧ w2.cell? ⟨w.heap.size + 1, 0, none⟩ = some (.slice none 0 0) ∧ Below w2.heap.size w2 w2 := ⟨f1, f2, Below.refl _ _⟩
  · have t4 : decide (0 < pn) = true := decide_eq_true (by omega)
    have hMin := hmin hp0 w2 f0
    go_wp2_with fail
    refine hMin.mono ?_
    rintro e' w3 ⟨mm, rfl, hmm, rfl⟩
    have t6 : decide (mm < 1) = false := decide_eq_false (fun h => by
      obtain ⟨x, hx, hx1⟩ := hmm.1 h
      have := HD.out.2.2.2.2.2.1 x hx
      omega)
    clear hmm hMin hmin
    go_wp2_with fail
    refine wp_region_ph (S := (fun w' => w'.cell? ⟨w.heap.size, 0, none⟩ = some (.slice A n c) ∧ w'.cell? ⟨w.heap.size + 1, 0, none⟩ = some (.slice none 0 0) ∧ Below w2.heap.size w2 w')) 5 (by kernel_rfl) (held2_drew hS2) (fun hHeld => ?_)
    refine wpPh_take' (i := 0) (by simp only [List.getElem?_toArray, List.getElem?_cons_succ, List.getElem?_cons_zero]; rfl) ?_
    refine ⟨?_, ⟨by kernel_rfl, by kernel_rfl, by kernel_rfl, by kernel_rfl⟩, fun _ _ _ h => h, Or.inl ⟨by rfl, ?_⟩, by assumption, ?_⟩
    rotate_left
    · (intro w hSw; (try dsimp only at hSw); go_simp; with_reducible rfl)
    try simp only [Act.put, List.setIfInBounds_toArray, List.set_cons_zero, List.set_cons_succ]
    refine wpPh_take' (i := 1) (by simp only [List.getElem?_toArray, List.getElem?_cons_succ, List.getElem?_cons_zero]; rfl) ?_
    refine ⟨?_, ⟨by kernel_rfl, by kernel_rfl, by kernel_rfl, by kernel_rfl⟩, fun _ _ _ h => h, Or.inl ⟨by rfl, ?_⟩, by assumption, ?_⟩
    rotate_left
    · (intro w hSw; (try dsimp only at hSw); go_simp; with_reducible rfl)
    try simp only [Act.put, List.setIfInBounds_toArray, List.set_cons_zero, List.set_cons_succ]
    refine wpPh_two (i := 2) (j := 4) (by kernel_rfl) (by simp only [List.getElem?_toArray, List.getElem?_cons_succ, List.getElem?_cons_zero]; rfl) (by simp only [List.getElem?_toArray, List.getElem?_cons_succ, List.getElem?_cons_zero]; rfl) (fun K hK => ?_) (fun K hK => ?_)
    · go_simp
      with_reducible refine (hL _).mono ?_
      rintro e' w4 ⟨rfl, hb4⟩
      go_wp2_with fail
      refine hK.out _ _ ?_ (fun hHeldN => ?_)
      · exact held2_call hHeld hb4
      clear hHeld
      have hHeld := hHeldN
      clear hHeldN
      clear hK K
      try simp only [Act.put, List.setIfInBounds_toArray, List.set_cons_zero, List.set_cons_succ]
      refine wpPh_two (i := 3) (j := 4) (by kernel_rfl) (by simp only [List.getElem?_toArray, List.getElem?_cons_succ, List.getElem?_cons_zero]; rfl) (by simp only [List.getElem?_toArray, List.getElem?_cons_succ, List.getElem?_cons_zero]; rfl) (fun K hK => ?_) (fun K hK => ?_)
      · go_simp
        with_reducible refine (hTW _ (held2_mid f0 hHeld)).mono ?_
        rintro e' w5 ⟨b2, uv, rfl, hK5, hb5⟩
        have hHeld0 := Lib.hid hHeld
        go_wp2_with fail
        refine hK.out _ _ ?_ (fun hHeldN => ?_)
        · exact held2_call hHeld hb5
        clear hHeld
        have hHeld := hHeldN
        clear hHeldN
        clear hK K
        try simp only [Act.put, List.setIfInBounds_toArray, List.set_cons_zero, List.set_cons_succ]
        refine wpPh_before (i := 4) (by kernel_rfl) (by simp only [List.getElem?_toArray, List.getElem?_cons_succ, List.getElem?_cons_zero]; rfl) (fun K hK => ?_)
        go_simp
        refine hK.out _ _ ?_ (fun hHeldN => ?_)
        · exact held2_alloc hHeld
        clear hHeld
        have hHeld := hHeldN
        clear hHeldN
        clear hK K
        try simp only [Act.put, List.setIfInBounds_toArray, List.set_cons_zero, List.set_cons_succ]
        refine wpPh_behind (i := 5) (by kernel_rfl) (by simp only [List.getElem?_toArray, List.getElem?_cons_succ, List.getElem?_cons_zero]; rfl) (by kernel_rfl) (fun K hK => ?_)
        go_simp
        refine hK.out _ _ ?_
        clear hK K
        try simp only [Act.put, List.setIfInBounds_toArray, List.set_cons_zero, List.set_cons_succ]
        refine wpPh_done (by kernel_rfl) ?_ _
        have hB25 : Below w2.heap.size w2 w5 := hHeld0.out.2.2.trans (hb5.mono hHeld0.out.2.2.size)
        have hbx : (w5.alloc (.cells #[(.slice (some ⟨b2, 0, none⟩) n n)] 24)).cell? ⟨w5.heap.size, 0, none⟩ = some (.slice (some ⟨b2, 0, none⟩) n n) := cell_one_new w5 (.slice (some ⟨b2, 0, none⟩) n n) 24 0 _ rfl
        have hKF := ((hK5.lower hHeld0.out.2.2.size).base (w1 := w)).below ((Below.refl _ _).alloc (Nat.le_refl _) (.cells #[(.slice (some ⟨b2, 0, none⟩) n n)] 24))
        have hBF := hB25.alloc hB25.size (.cells #[(.slice (some ⟨b2, 0, none⟩) n n)] 24)
        have hGb : w5.heap.size ≠ b2 := by have := hK5.blt; omega
        have hb2w : w2.heap.size ≤ b2 := Nat.le_trans hHeld0.out.2.2.size hK5.hb
        obtain ⟨wF, hwF⟩ : ∃ wF, wF = w5.alloc (.cells #[(.slice (some ⟨b2, 0, none⟩) n n)] 24) := ⟨_, rfl⟩
        rw [← hwF] at hbx hKF hBF ⊢
        have hGlt := World.block_lt_of_cell? _ _ hbx
        obtain ⟨x0, x1, x2, x3⟩ := hKF.cells h2in
        have xf0 := hKF.row.frozen (2 * i * 4)
        have xf2 := hKF.row.frozen (2 * i * 4 + 2)
        have hb2F := hKF.blt
        have HBF := Lib.hid (HB2.out.under2 hBF f4)
        obtain ⟨e0, e1, e2, e3, e4⟩ := HB2.out.under2 hBF f4
        have e5 : w.heap.size < wF.heap.size := by omega
        have e6 : ¬ (b2 = w.heap.size) := by omega
        have e7 : ¬ (w.heap.size = b2) := by omega
        have HKF := Lib.hid hKF
        have HBX := Lib.hid (And.intro hBF (And.intro hGb hb2w))
        clear hwF hK5 hb5 hB25 hKF hBF hGb hb2w
        go_wp2_with fail
        obtain ⟨WB, hWB⟩ : ∃ WB, WB = ((wF.setCell ⟨b2, 2 * i * 4 + 2, none⟩ (.int .i64 ep)).setCell ⟨b2, 2 * i * 4, none⟩ (.int .i64 pub)) := ⟨_, rfl⟩
        rw [← hWB]
        have hgWB : wF.grownBy WB (some b2) := by rw [hWB]; exact (grownBy_set _ _ _ _).trans (grownBy_set _ _ _ _)
        have hKB : OwnK w WB w2.heap.size b2 n n (setK F d i ep pub 0) uv := by
          rw [hWB]
          refine ((HKF.out.setEp h2in ep).setPub h2in pub).congr fun y hy => ?_
          unfold setK
          by_cases e1 : y = 2 * i
          · simp [e1]
          · simp [e1]
        have hbB : Below w2.heap.size w2 WB := HBX.out.1.grown hgWB HBX.out.1.size (fun q hq => by obtain rfl : b2 = q := Option.some.inj hq; exact HBX.out.2.2)
        have hbxB : WB.cell? ⟨w5.heap.size, 0, none⟩ = some (.slice (some ⟨b2, 0, none⟩) n n) := hgWB.cell hbx (fun e => HBX.out.2.1 (Option.some.inj e))
        have HKB := Lib.hid hKB
        have HBB := Lib.hid hbB
        have hTB : Tab WB := HD.out.2.2.1.below hpos (f0.trans (hbB.mono f0.size))
        clear hWB hgWB hKB hbB hbx hGlt x0 x1 x2 x3 xf0 xf2 hb2F e0 e1 e2 e3 e4 e5 HKF
        refine (hL WB).mono ?_
        rintro e' w6 ⟨rfl, hb6⟩
        go_wp2_with fail
        refine (dir31 d i L HD.out.1.hd HD.out.2.1 HD.out.2.2.2.1 w6 (hTB.below (by have := hTB.pos; omega) hb6)).mono ?_
        rintro e' w7 ⟨vd, rfl, hvd, hvb, hb7⟩
        obtain ⟨Ad, cd, rfl, -, -, -⟩ := id hvd
        have hdl : (natL (dirs d i)).length = d := by unfold natL; rw [List.length_map, dirs_length]
        rw [hdl] at hvd hvb ⊢
        have hb67 : Below WB.heap.size WB w7 := hb6.trans (hb7.mono hb6.size)
        have hB27 : Below w2.heap.size w2 w7 := HBB.out.trans (hb67.mono HBB.out.size)
        have HB7 := Lib.hid (HB2.out.under2 hB27 f4)
        have HK7 := Lib.hid (HKB.out.below hb67)
        have hbx7 := (hb67.cell (World.block_lt_of_cell? _ _ hbxB)).trans hbxB
        have hb26 : b2 < w6.heap.size := Nat.lt_of_lt_of_le HKB.out.blt hb6.size
        have HVD := Lib.hid (And.intro hvd hvb)
        have HB27 := Lib.hid hB27
        have hd3 : d ≤ 3 := HD.out.1.hd
        have HGB := Lib.hid HBX.out.2
        clear hvd hvb hb6 hb7 hTB hb67 hB27 hbxB HKB HBB HBX
        go_wp2_with fail
        go_loopg [81] (d + 1) (fun g v81 wr => ∃ (k : Nat) (uv' : Nat → Value), k ≤ d ∧ k + g = d + 1 ∧ v81 = .int .i64 k ∧ OwnK w wr w2.heap.size b2 n n (setK F d i ep pub k) uv' ∧ w7.grownBy wr (some b2))
        case atStart => exact ⟨0, uv, by omega, by omega, rfl, HK7.out, World.grownBy.refl _ _⟩
        case round =>
          obtain ⟨k, uv', hk, hg2, rfl, hK, hM⟩ := hrel
          have HG2 := Lib.hid hg2
          have HK := Lib.hid hK
          have HM := Lib.hid hM
          have hsr := hM.size
          have hbr : b2 < wr.heap.size := hK.blt
          have hbox := World.grownBy.cell hM hbx7 (fun e => HGB.out.1 (Option.some.inj e))
          have hGr := World.block_lt_of_cell? _ _ hbox
          clear hg2
          by_cases hlt2 : k < d
          · obtain ⟨x, hx, hxn, hxo, hxt, htk⟩ := dirs_at hd3 (show i < 2 ^ d by rw [← HD.out.2.1]; exact HD.out.2.2.2.1) hlt2
            have hxN : x < n := by rw [HD.out.1.hn]; exact hxn
            obtain ⟨bd, od, rfl, cd0⟩ := HVD.out.1.at (natL_get hx)
            have hbd1 : w6.heap.size ≤ bd := HVD.out.2 bd rfl
            have cdk := World.grownBy.cell hM cd0 (fun e => by have : bd = b2 := Option.some.inj e; omega)
            have hbdr : bd < wr.heap.size := World.block_lt_of_cell? _ _ cdk
            obtain ⟨x0, x1, x2, x3⟩ := hK.cells hxN
            have xf0 := hK.row.frozen (x * 4)
            have xf1 := hK.row.frozen (x * 4 + 1)
            have xf2 := hK.row.frozen (x * 4 + 2)
            have xf3 := hK.row.frozen (x * 4 + 3)
            have j1 : (0 : Int) ≤ (k : Int) := by omega
            have j2 : (k : Int) < (d : Int) := by omega
            have j4 : (0 : Int) ≤ (x : Int) := by omega
            have j5 : (x : Int) < (n : Int) := by omega
            have HX := Lib.hid (And.intro htk (show x ≠ 2 * i by omega))
            clear hx hxt htk cd0 hK hM
            go_wp2_with fail
            go_roundg (gk - 1)
            case rel =>
              refine ⟨k + 1, _, by omega, by have := HG2.out; omega, by go_num, (HK.out.setNode hxN 0 0 0 (by decide)).congr fun y hy => ?_, (((HM.out.trans (grownBy_set _ _ _ _)).trans (grownBy_set _ _ _ _)).trans (grownBy_set _ _ _ _)).trans (grownBy_set _ _ _ _)⟩
              unfold setK
              rw [HX.out.1]
              by_cases e2 : y = x
              · have := HX.out.2
                simp [e2, zeroN, this]
              · simp [e2]
            case measure => have := HG2.out; omega
          · obtain rfl : k = d := by omega
            have hM8 := Lib.hid hM
            have hK8 : OwnK w wr w2.heap.size b2 n n (setF F k i ep pub []) uv' := HK.out.congr fun y hy => by
              unfold setK setF
              rw [show (dirs k i).take k = dirs k i from List.take_of_length_le (by rw [dirs_length]; exact Nat.le_refl _)]
              rfl
            have HK8 := Lib.hid hK8
            have hB28 : Below w2.heap.size w2 wr := HB27.out.grown hM HB27.out.size (fun q hq => by obtain rfl : b2 = q := Option.some.inj hq; exact HGB.out.2)
            have HB28 := Lib.hid hB28
            obtain ⟨w8, rfl⟩ : ∃ w8, w8 = wr := ⟨_, rfl⟩
            have HBOX8 := Lib.hid hbox
            clear hK hM hK8 hB28 hbox hGr hbx7 HVD
            go_wp2_with fail
            go_loopg [93] (pl.length + 1) (fun g v93 wr => ∃ (j : Nat) (uv' : Nat → Value), j ≤ pl.length ∧ j + g = pl.length + 1 ∧ v93 = .int .i64 j ∧ OwnK w wr w2.heap.size b2 n n (setF F k i ep pub ((pl.zip ps).take j)) uv' ∧ w8.grownBy wr (some b2))
            case atStart => exact ⟨0, uv', by omega, by omega, rfl, HK8.out, World.grownBy.refl _ _⟩
            case round =>
              obtain ⟨j, uv2, hj, hg3, rfl, hK, hM⟩ := hrel
              have HG3 := Lib.hid hg3
              have HK9 := Lib.hid hK
              have HM9 := Lib.hid hM
              have hbr9 : b2 < wr.heap.size := hK.blt
              have hbox := World.grownBy.cell hM HBOX8.out (fun e => HGB.out.1 (Option.some.inj e))
              have hGr := World.block_lt_of_cell? _ _ hbox
              have hB29 : Below w2.heap.size w2 wr := HB28.out.grown hM HB28.out.size (fun q hq => by obtain rfl : b2 = q := Option.some.inj hq; exact HGB.out.2)
              have HB29 := Lib.hid hB29
              clear hg3
              by_cases hlt3 : j < pl.length
              · obtain ⟨x, hx⟩ : ∃ x, pl[j]? = some x := ⟨pl[j], List.getElem?_eq_getElem hlt3⟩
                obtain ⟨q, hq⟩ : ∃ q, ps[j]? = some q := ⟨ps[j]'(by have := HPS.out.1; have := HPS.out.2; omega), List.getElem?_eq_getElem _⟩
                have hxd := HD.out.2.2.2.2.2.2.1 x (List.mem_of_getElem? hx)
                obtain ⟨kx, hkx, hkx2⟩ : ∃ kx, kx < k ∧ (dirs k i)[kx]? = some x := by
                  obtain ⟨kx, hkx⟩ := List.mem_iff_getElem?.1 hxd
                  exact ⟨kx, by have := (List.getElem?_eq_some_iff.1 hkx).1; rw [dirs_length] at this; exact this, hkx⟩
                obtain ⟨x', hx', hxn, hxo, -, -⟩ := dirs_at hd3 (show i < 2 ^ k by rw [← HD.out.2.1]; exact HD.out.2.2.2.1) hkx
                obtain rfl : x = x' := Option.some.inj (hkx2.symm.trans hx')
                have hxN : x < n := by rw [HD.out.1.hn]; exact hxn
                have hnd := HND.out j x hx
                obtain ⟨bq, oq, rfl, cq0⟩ := HOQ.out.at (natL_get hx)
                have cqk := (hB29.cell (p := ⟨bq, oq + j, none⟩) (World.block_lt_of_cell? _ _ cq0)).trans cq0
                have hbqr : bq < wr.heap.size := World.block_lt_of_cell? _ _ cqk
                have hbq2 := World.block_lt_of_cell? _ _ cq0
                obtain ⟨bp, op, rfl, cp0⟩ := HD.out.2.2.2.2.1.at hq
                have hbpw : bp < w.heap.size := World.block_lt_of_cell? _ _ cp0
                have cpk := ((f0.trans (hB29.mono f0.size)).cell (p := ⟨bp, op + j, none⟩) hbpw).trans cp0
                have hbpr : bp < wr.heap.size := World.block_lt_of_cell? _ _ cpk
                obtain ⟨x0, x1, x2, x3⟩ := hK.cells hxN
                have xf0 := hK.row.frozen (x * 4)
                have j1 : (0 : Int) ≤ (j : Int) := by omega
                have j2 : (j : Int) < (pl.length : Int) := by omega
                have j3 : (j : Int) < (pn : Int) := by have := HPS.out.2; omega
                have j4 : (0 : Int) ≤ (x : Int) := by omega
                have j5 : (x : Int) < (n : Int) := by omega
                have jw : IntKind.i64.wrap (j : Int) = j := i64_small j (by omega)
                have jx : IntKind.i64.wrap (x : Int) = x := i64_small x (by omega)
                have hbpb : bp ≠ b2 := by have := HGB.out.2; have := f0.size; omega
                have HX := Lib.hid (And.intro hx (And.intro hq (And.intro hxd (And.intro hnd (show x ≠ 2 * i by omega)))))
                have hHeld3 : wr.cell? ⟨w5.heap.size, 0, none⟩ = some (.slice (some ⟨b2, 0, none⟩) n n) ∧ wr.cell? ⟨bp, op + j, none⟩ = some (.int .i64 q) := ⟨hbox, cpk⟩
                clear hx hq hxd hnd cq0 cp0 hK hM hkx2 hx' x1 x2 x3 hB29
                go_wp2_with fail
                go_region_held3 (fun w' => w'.cell? ⟨w5.heap.size, 0, none⟩ = some (.slice (some ⟨b2, 0, none⟩) n n) ∧ w'.cell? ⟨bp, op + j, none⟩ = some (.int .i64 q)) (first | assumption | exact h3_drew (by assumption) | exact h3_set (by assumption) HGB.out.1 hbpb) (fail)
                go_wp2_with fail
                go_roundg (gk - 1)
                case rel =>
                  refine ⟨j + 1, uv2, by omega, by have := HG3.out; omega, by go_num, ((HK9.out.setPub hxN q).congr fun y hy => ?_).drew, (HM9.out.trans (grownBy_set _ _ _ _)).drew'⟩
                  have hz1 : (pl.zip ps).take (j + 1) = (pl.zip ps).take j ++ [(x, q)] := by
                    rw [List.take_add_one, (List.getElem?_zip_eq_some (z := (x, q))).2 ⟨HX.out.1, HX.out.2.1⟩]
                    rfl
                  exact setF_step hz1 HX.out.2.2.1 HX.out.2.2.2.2 (fun h => HX.out.2.2.2.1 (by
                    obtain ⟨pp, hp1, hp2⟩ := h
                    obtain ⟨jj, hjj⟩ := List.mem_iff_getElem?.1 hp1
                    have hjl : jj < j := by have := (List.getElem?_eq_some_iff.1 hjj).1; simp at this; omega
                    rw [List.getElem?_take_of_lt hjl] at hjj
                    have := (List.getElem?_zip_eq_some.1 hjj).1
                    rw [hp2] at this
                    exact List.mem_of_getElem? (by rw [List.getElem?_take_of_lt hjl]; exact this)))
                case measure => have := HG3.out; omega
              · obtain rfl : j = pl.length := by omega
                obtain ⟨z0, z1, z2, z3, z4⟩ := HB2.out.under2 HB29.out f4
                have z8 := (HB2.out.under2 HB29.out f4).stored
                have hKe := HK9.out.setFar (a := ⟨w.heap.size + 1, 0, none⟩) (by show b2 ≠ w.heap.size + 1; have := HGB.out.2; omega) (fun y hy e => by have h1 := (World.ownsRow.lt (HK9.out.un y hy hy) _ e).1; have h2 : w2.heap.size ≤ w.heap.size + 1 := h1; omega) (.slice (some ⟨b2, 0, none⟩) n n)
                have HKE := Lib.hid hKe
                clear hK hM hKe hB29
                go_wp2_with fail
                refine bodyPost_ret (by simp [results, Tryz.results32, go_sem, z8]; rfl) rfl ?_
                refine ⟨⟨_, rfl, ?_⟩, z0.setCell (by show w.heap.size ≤ w.heap.size + 1; omega) _⟩
                have hzl : (pl.zip ps).take pl.length = pl.zip ps := List.take_of_length_le (by rw [List.length_zip]; omega)
                rw [← hzl]
                exact HKE.out.trO (by unfold maxLen; omega) (by omega)
      · have hs24 := hHeld.2.2.size
        go_simp
        refine hK.out _ _ ?_ (fun hHeldN => ?_)
        · exact held2_alloc hHeld
        clear hHeld
        have hHeld := hHeldN
        clear hHeldN
        clear hK K
        try simp only [Act.put, List.setIfInBounds_toArray, List.set_cons_zero, List.set_cons_succ]
        refine wpPh_before (i := 3) (by kernel_rfl) (by simp only [List.getElem?_toArray, List.getElem?_cons_succ, List.getElem?_cons_zero]; rfl) (fun K hK => ?_)
        go_simp
        with_reducible refine (hTW _ (held2_mid f0 hHeld)).mono ?_
        rintro e' w5 ⟨b2, uv, rfl, hK5, hb5⟩
        obtain ⟨x51, x52, x53⟩ := box_first' hb5
        have hHeld0 := Lib.hid hHeld
        go_wp2_with fail
        refine hK.out _ _ ?_ (fun hHeldN => ?_)
        · exact held2_call hHeld hb5
        clear hHeld
        have hHeld := hHeldN
        clear hHeldN
        clear hK K
        try simp only [Act.put, List.setIfInBounds_toArray, List.set_cons_zero, List.set_cons_succ]
        refine wpPh_behind (i := 5) (by kernel_rfl) (by simp only [List.getElem?_toArray, List.getElem?_cons_succ, List.getElem?_cons_zero]; rfl) (by kernel_rfl) (fun K hK => ?_)
        go_simp
        refine hK.out _ _ ?_
        clear hK K
        try simp only [Act.put, List.setIfInBounds_toArray, List.set_cons_zero, List.set_cons_succ]
        refine wpPh_done (by kernel_rfl) ?_ _
        have hB25 : Below w2.heap.size w2 w5 := hHeld0.out.2.2.trans (hb5.mono hHeld0.out.2.2.size)
        have hbx : (w5.setCell ⟨w4.heap.size, 0, none⟩ (.slice (some ⟨b2, 0, none⟩) n n)).cell? ⟨w4.heap.size, 0, none⟩ = some (.slice (some ⟨b2, 0, none⟩) n n) := by apply World.cell?_setCell_same; exact x51
        have hsW : (w4.alloc (.cells #[.slice none 0 0] 24)).heap.size = w4.heap.size + 1 := by simp
        have hKF := (((hK5.elsewhere (a := ⟨w4.heap.size, 0, none⟩) (by rw [hsW]; exact Nat.lt_succ_self _) (.slice (some ⟨b2, 0, none⟩) n n)).lower hHeld0.out.2.2.size).base (w1 := w))
        have hBF := hB25.setCell (p := ⟨w4.heap.size, 0, none⟩) (by exact hs24) (.slice (some ⟨b2, 0, none⟩) n n)
        have hGb : w4.heap.size ≠ b2 := by have := hK5.hb; rw [hsW] at this; omega
        have hb2w : w2.heap.size ≤ b2 := Nat.le_trans hHeld0.out.2.2.size hK5.hb
        clear hsW x51 x52 x53 hs24
        obtain ⟨wF, hwF⟩ : ∃ wF, wF = w5.setCell ⟨w4.heap.size, 0, none⟩ (.slice (some ⟨b2, 0, none⟩) n n) := ⟨_, rfl⟩
        rw [← hwF] at hbx hKF hBF ⊢
        have hGlt := World.block_lt_of_cell? _ _ hbx
        obtain ⟨x0, x1, x2, x3⟩ := hKF.cells h2in
        have xf0 := hKF.row.frozen (2 * i * 4)
        have xf2 := hKF.row.frozen (2 * i * 4 + 2)
        have hb2F := hKF.blt
        have HBF := Lib.hid (HB2.out.under2 hBF f4)
        obtain ⟨e0, e1, e2, e3, e4⟩ := HB2.out.under2 hBF f4
        have e5 : w.heap.size < wF.heap.size := by omega
        have e6 : ¬ (b2 = w.heap.size) := by omega
        have e7 : ¬ (w.heap.size = b2) := by omega
        have HKF := Lib.hid hKF
        have HBX := Lib.hid (And.intro hBF (And.intro hGb hb2w))
        clear hwF hK5 hb5 hB25 hKF hBF hGb hb2w
        go_wp2_with fail
        obtain ⟨WB, hWB⟩ : ∃ WB, WB = ((wF.setCell ⟨b2, 2 * i * 4 + 2, none⟩ (.int .i64 ep)).setCell ⟨b2, 2 * i * 4, none⟩ (.int .i64 pub)) := ⟨_, rfl⟩
        rw [← hWB]
        have hgWB : wF.grownBy WB (some b2) := by rw [hWB]; exact (grownBy_set _ _ _ _).trans (grownBy_set _ _ _ _)
        have hKB : OwnK w WB w2.heap.size b2 n n (setK F d i ep pub 0) uv := by
          rw [hWB]
          refine ((HKF.out.setEp h2in ep).setPub h2in pub).congr fun y hy => ?_
          unfold setK
          by_cases e1 : y = 2 * i
          · simp [e1]
          · simp [e1]
        have hbB : Below w2.heap.size w2 WB := HBX.out.1.grown hgWB HBX.out.1.size (fun q hq => by obtain rfl : b2 = q := Option.some.inj hq; exact HBX.out.2.2)
        have hbxB : WB.cell? ⟨w4.heap.size, 0, none⟩ = some (.slice (some ⟨b2, 0, none⟩) n n) := hgWB.cell hbx (fun e => HBX.out.2.1 (Option.some.inj e))
        have HKB := Lib.hid hKB
        have HBB := Lib.hid hbB
        have hTB : Tab WB := HD.out.2.2.1.below hpos (f0.trans (hbB.mono f0.size))
        clear hWB hgWB hKB hbB hbx hGlt x0 x1 x2 x3 xf0 xf2 hb2F e0 e1 e2 e3 e4 e5 HKF
        refine (hL WB).mono ?_
        rintro e' w6 ⟨rfl, hb6⟩
        go_wp2_with fail
        refine (dir31 d i L HD.out.1.hd HD.out.2.1 HD.out.2.2.2.1 w6 (hTB.below (by have := hTB.pos; omega) hb6)).mono ?_
        rintro e' w7 ⟨vd, rfl, hvd, hvb, hb7⟩
        obtain ⟨Ad, cd, rfl, -, -, -⟩ := id hvd
        have hdl : (natL (dirs d i)).length = d := by unfold natL; rw [List.length_map, dirs_length]
        rw [hdl] at hvd hvb ⊢
        have hb67 : Below WB.heap.size WB w7 := hb6.trans (hb7.mono hb6.size)
        have hB27 : Below w2.heap.size w2 w7 := HBB.out.trans (hb67.mono HBB.out.size)
        have HB7 := Lib.hid (HB2.out.under2 hB27 f4)
        have HK7 := Lib.hid (HKB.out.below hb67)
        have hbx7 := (hb67.cell (World.block_lt_of_cell? _ _ hbxB)).trans hbxB
        have hb26 : b2 < w6.heap.size := Nat.lt_of_lt_of_le HKB.out.blt hb6.size
        have HVD := Lib.hid (And.intro hvd hvb)
        have HB27 := Lib.hid hB27
        have hd3 : d ≤ 3 := HD.out.1.hd
        have HGB := Lib.hid HBX.out.2
        clear hvd hvb hb6 hb7 hTB hb67 hB27 hbxB HKB HBB HBX
        go_wp2_with fail
        go_loopg [81] (d + 1) (fun g v81 wr => ∃ (k : Nat) (uv' : Nat → Value), k ≤ d ∧ k + g = d + 1 ∧ v81 = .int .i64 k ∧ OwnK w wr w2.heap.size b2 n n (setK F d i ep pub k) uv' ∧ w7.grownBy wr (some b2))
        case atStart => exact ⟨0, uv, by omega, by omega, rfl, HK7.out, World.grownBy.refl _ _⟩
        case round =>
          obtain ⟨k, uv', hk, hg2, rfl, hK, hM⟩ := hrel
          have HG2 := Lib.hid hg2
          have HK := Lib.hid hK
          have HM := Lib.hid hM
          have hsr := hM.size
          have hbr : b2 < wr.heap.size := hK.blt
          have hbox := World.grownBy.cell hM hbx7 (fun e => HGB.out.1 (Option.some.inj e))
          have hGr := World.block_lt_of_cell? _ _ hbox
          clear hg2
          by_cases hlt2 : k < d
          · obtain ⟨x, hx, hxn, hxo, hxt, htk⟩ := dirs_at hd3 (show i < 2 ^ d by rw [← HD.out.2.1]; exact HD.out.2.2.2.1) hlt2
            have hxN : x < n := by rw [HD.out.1.hn]; exact hxn
            obtain ⟨bd, od, rfl, cd0⟩ := HVD.out.1.at (natL_get hx)
            have hbd1 : w6.heap.size ≤ bd := HVD.out.2 bd rfl
            have cdk := World.grownBy.cell hM cd0 (fun e => by have : bd = b2 := Option.some.inj e; omega)
            have hbdr : bd < wr.heap.size := World.block_lt_of_cell? _ _ cdk
            obtain ⟨x0, x1, x2, x3⟩ := hK.cells hxN
            have xf0 := hK.row.frozen (x * 4)
            have xf1 := hK.row.frozen (x * 4 + 1)
            have xf2 := hK.row.frozen (x * 4 + 2)
            have xf3 := hK.row.frozen (x * 4 + 3)
            have j1 : (0 : Int) ≤ (k : Int) := by omega
            have j2 : (k : Int) < (d : Int) := by omega
            have j4 : (0 : Int) ≤ (x : Int) := by omega
            have j5 : (x : Int) < (n : Int) := by omega
            have HX := Lib.hid (And.intro htk (show x ≠ 2 * i by omega))
            clear hx hxt htk cd0 hK hM
            go_wp2_with fail
            go_roundg (gk - 1)
            case rel =>
              refine ⟨k + 1, _, by omega, by have := HG2.out; omega, by go_num, (HK.out.setNode hxN 0 0 0 (by decide)).congr fun y hy => ?_, (((HM.out.trans (grownBy_set _ _ _ _)).trans (grownBy_set _ _ _ _)).trans (grownBy_set _ _ _ _)).trans (grownBy_set _ _ _ _)⟩
              unfold setK
              rw [HX.out.1]
              by_cases e2 : y = x
              · have := HX.out.2
                simp [e2, zeroN, this]
              · simp [e2]
            case measure => have := HG2.out; omega
          · obtain rfl : k = d := by omega
            have hM8 := Lib.hid hM
            have hK8 : OwnK w wr w2.heap.size b2 n n (setF F k i ep pub []) uv' := HK.out.congr fun y hy => by
              unfold setK setF
              rw [show (dirs k i).take k = dirs k i from List.take_of_length_le (by rw [dirs_length]; exact Nat.le_refl _)]
              rfl
            have HK8 := Lib.hid hK8
            have hB28 : Below w2.heap.size w2 wr := HB27.out.grown hM HB27.out.size (fun q hq => by obtain rfl : b2 = q := Option.some.inj hq; exact HGB.out.2)
            have HB28 := Lib.hid hB28
            obtain ⟨w8, rfl⟩ : ∃ w8, w8 = wr := ⟨_, rfl⟩
            have HBOX8 := Lib.hid hbox
            clear hK hM hK8 hB28 hbox hGr hbx7 HVD
            go_wp2_with fail
            go_loopg [93] (pl.length + 1) (fun g v93 wr => ∃ (j : Nat) (uv' : Nat → Value), j ≤ pl.length ∧ j + g = pl.length + 1 ∧ v93 = .int .i64 j ∧ OwnK w wr w2.heap.size b2 n n (setF F k i ep pub ((pl.zip ps).take j)) uv' ∧ w8.grownBy wr (some b2))
            case atStart => exact ⟨0, uv', by omega, by omega, rfl, HK8.out, World.grownBy.refl _ _⟩
            case round =>
              obtain ⟨j, uv2, hj, hg3, rfl, hK, hM⟩ := hrel
              have HG3 := Lib.hid hg3
              have HK9 := Lib.hid hK
              have HM9 := Lib.hid hM
              have hbr9 : b2 < wr.heap.size := hK.blt
              have hbox := World.grownBy.cell hM HBOX8.out (fun e => HGB.out.1 (Option.some.inj e))
              have hGr := World.block_lt_of_cell? _ _ hbox
              have hB29 : Below w2.heap.size w2 wr := HB28.out.grown hM HB28.out.size (fun q hq => by obtain rfl : b2 = q := Option.some.inj hq; exact HGB.out.2)
              have HB29 := Lib.hid hB29
              clear hg3
              by_cases hlt3 : j < pl.length
              · obtain ⟨x, hx⟩ : ∃ x, pl[j]? = some x := ⟨pl[j], List.getElem?_eq_getElem hlt3⟩
                obtain ⟨q, hq⟩ : ∃ q, ps[j]? = some q := ⟨ps[j]'(by have := HPS.out.1; have := HPS.out.2; omega), List.getElem?_eq_getElem _⟩
                have hxd := HD.out.2.2.2.2.2.2.1 x (List.mem_of_getElem? hx)
                obtain ⟨kx, hkx, hkx2⟩ : ∃ kx, kx < k ∧ (dirs k i)[kx]? = some x := by
                  obtain ⟨kx, hkx⟩ := List.mem_iff_getElem?.1 hxd
                  exact ⟨kx, by have := (List.getElem?_eq_some_iff.1 hkx).1; rw [dirs_length] at this; exact this, hkx⟩
                obtain ⟨x', hx', hxn, hxo, -, -⟩ := dirs_at hd3 (show i < 2 ^ k by rw [← HD.out.2.1]; exact HD.out.2.2.2.1) hkx
                obtain rfl : x = x' := Option.some.inj (hkx2.symm.trans hx')
                have hxN : x < n := by rw [HD.out.1.hn]; exact hxn
                have hnd := HND.out j x hx
                obtain ⟨bq, oq, rfl, cq0⟩ := HOQ.out.at (natL_get hx)
                have cqk := (hB29.cell (p := ⟨bq, oq + j, none⟩) (World.block_lt_of_cell? _ _ cq0)).trans cq0
                have hbqr : bq < wr.heap.size := World.block_lt_of_cell? _ _ cqk
                have hbq2 := World.block_lt_of_cell? _ _ cq0
                obtain ⟨bp, op, rfl, cp0⟩ := HD.out.2.2.2.2.1.at hq
                have hbpw : bp < w.heap.size := World.block_lt_of_cell? _ _ cp0
                have cpk := ((f0.trans (hB29.mono f0.size)).cell (p := ⟨bp, op + j, none⟩) hbpw).trans cp0
                have hbpr : bp < wr.heap.size := World.block_lt_of_cell? _ _ cpk
                obtain ⟨x0, x1, x2, x3⟩ := hK.cells hxN
                have xf0 := hK.row.frozen (x * 4)
                have j1 : (0 : Int) ≤ (j : Int) := by omega
                have j2 : (j : Int) < (pl.length : Int) := by omega
                have j3 : (j : Int) < (pn : Int) := by have := HPS.out.2; omega
                have j4 : (0 : Int) ≤ (x : Int) := by omega
                have j5 : (x : Int) < (n : Int) := by omega
                have jw : IntKind.i64.wrap (j : Int) = j := i64_small j (by omega)
                have jx : IntKind.i64.wrap (x : Int) = x := i64_small x (by omega)
                have hbpb : bp ≠ b2 := by have := HGB.out.2; have := f0.size; omega
                have HX := Lib.hid (And.intro hx (And.intro hq (And.intro hxd (And.intro hnd (show x ≠ 2 * i by omega)))))
                have hHeld3 : wr.cell? ⟨w4.heap.size, 0, none⟩ = some (.slice (some ⟨b2, 0, none⟩) n n) ∧ wr.cell? ⟨bp, op + j, none⟩ = some (.int .i64 q) := ⟨hbox, cpk⟩
                clear hx hq hxd hnd cq0 cp0 hK hM hkx2 hx' x1 x2 x3 hB29
                go_wp2_with fail
                go_region_held3 (fun w' => w'.cell? ⟨w4.heap.size, 0, none⟩ = some (.slice (some ⟨b2, 0, none⟩) n n) ∧ w'.cell? ⟨bp, op + j, none⟩ = some (.int .i64 q)) (first | assumption | exact h3_drew (by assumption) | exact h3_set (by assumption) HGB.out.1 hbpb) (fail)
                go_wp2_with fail
                go_roundg (gk - 1)
                case rel =>
                  refine ⟨j + 1, uv2, by omega, by have := HG3.out; omega, by go_num, ((HK9.out.setPub hxN q).congr fun y hy => ?_).drew, (HM9.out.trans (grownBy_set _ _ _ _)).drew'⟩
                  have hz1 : (pl.zip ps).take (j + 1) = (pl.zip ps).take j ++ [(x, q)] := by
                    rw [List.take_add_one, (List.getElem?_zip_eq_some (z := (x, q))).2 ⟨HX.out.1, HX.out.2.1⟩]
                    rfl
                  exact setF_step hz1 HX.out.2.2.1 HX.out.2.2.2.2 (fun h => HX.out.2.2.2.1 (by
                    obtain ⟨pp, hp1, hp2⟩ := h
                    obtain ⟨jj, hjj⟩ := List.mem_iff_getElem?.1 hp1
                    have hjl : jj < j := by have := (List.getElem?_eq_some_iff.1 hjj).1; simp at this; omega
                    rw [List.getElem?_take_of_lt hjl] at hjj
                    have := (List.getElem?_zip_eq_some.1 hjj).1
                    rw [hp2] at this
                    exact List.mem_of_getElem? (by rw [List.getElem?_take_of_lt hjl]; exact this)))
                case measure => have := HG3.out; omega
              · obtain rfl : j = pl.length := by omega
                obtain ⟨z0, z1, z2, z3, z4⟩ := HB2.out.under2 HB29.out f4
                have z8 := (HB2.out.under2 HB29.out f4).stored
                have hKe := HK9.out.setFar (a := ⟨w.heap.size + 1, 0, none⟩) (by show b2 ≠ w.heap.size + 1; have := HGB.out.2; omega) (fun y hy e => by have h1 := (World.ownsRow.lt (HK9.out.un y hy hy) _ e).1; have h2 : w2.heap.size ≤ w.heap.size + 1 := h1; omega) (.slice (some ⟨b2, 0, none⟩) n n)
                have HKE := Lib.hid hKe
                clear hK hM hKe hB29
                go_wp2_with fail
                refine bodyPost_ret (by simp [results, Tryz.results32, go_sem, z8]; rfl) rfl ?_
                refine ⟨⟨_, rfl, ?_⟩, z0.setCell (by show w.heap.size ≤ w.heap.size + 1; omega) _⟩
                have hzl : (pl.zip ps).take pl.length = pl.zip ps := List.take_of_length_le (by rw [List.length_zip]; omega)
                rw [← hzl]
                exact HKE.out.trO (by unfold maxLen; omega) (by omega)
    · go_simp
      refine hK.out _ _ ?_ (fun hHeldN => ?_)
      · exact held2_alloc hHeld
      clear hHeld
      have hHeld := hHeldN
      clear hHeldN
      clear hK K
      try simp only [Act.put, List.setIfInBounds_toArray, List.set_cons_zero, List.set_cons_succ]
      refine wpPh_before (i := 2) (by kernel_rfl) (by simp only [List.getElem?_toArray, List.getElem?_cons_succ, List.getElem?_cons_zero]; rfl) (fun K hK => ?_)
      go_simp
      with_reducible refine (hL _).mono ?_
      rintro e' w4 ⟨rfl, hb4⟩
      obtain ⟨x41, x42, x43⟩ := box_first hb4
      go_wp2_with fail
      refine hK.out _ _ ?_ (fun hHeldN => ?_)
      · exact held2_call hHeld hb4
      clear hHeld
      have hHeld := hHeldN
      clear hHeldN
      clear hK K
      try simp only [Act.put, List.setIfInBounds_toArray, List.set_cons_zero, List.set_cons_succ]
      refine wpPh_before (i := 3) (by kernel_rfl) (by simp only [List.getElem?_toArray, List.getElem?_cons_succ, List.getElem?_cons_zero]; rfl) (fun K hK => ?_)
      go_simp
      with_reducible refine (hTW _ (held2_mid f0 hHeld)).mono ?_
      rintro e' w5 ⟨b2, uv, rfl, hK5, hb5⟩
      obtain ⟨x51, x52, x53⟩ := box_next hb5 x41 x42 x43
      have hHeld0 := Lib.hid hHeld
      go_wp2_with fail
      refine hK.out _ _ ?_ (fun hHeldN => ?_)
      · exact held2_call hHeld hb5
      clear hHeld
      have hHeld := hHeldN
      clear hHeldN
      clear hK K
      try simp only [Act.put, List.setIfInBounds_toArray, List.set_cons_zero, List.set_cons_succ]
      refine wpPh_behind (i := 5) (by kernel_rfl) (by simp only [List.getElem?_toArray, List.getElem?_cons_succ, List.getElem?_cons_zero]; rfl) (by kernel_rfl) (fun K hK => ?_)
      go_simp
      refine hK.out _ _ ?_
      clear hK K
      try simp only [Act.put, List.setIfInBounds_toArray, List.set_cons_zero, List.set_cons_succ]
      refine wpPh_done (by kernel_rfl) ?_ _
      have hB25 : Below w2.heap.size w2 w5 := hHeld0.out.2.2.trans (hb5.mono hHeld0.out.2.2.size)
      have hbx : (w5.setCell ⟨w2.heap.size, 0, none⟩ (.slice (some ⟨b2, 0, none⟩) n n)).cell? ⟨w2.heap.size, 0, none⟩ = some (.slice (some ⟨b2, 0, none⟩) n n) := by apply World.cell?_setCell_same; exact x51
      have hKF := (((hK5.elsewhere (a := ⟨w2.heap.size, 0, none⟩) (by exact x43) (.slice (some ⟨b2, 0, none⟩) n n)).lower hHeld0.out.2.2.size).base (w1 := w))
      have hBF := hB25.setCell (p := ⟨w2.heap.size, 0, none⟩) (Nat.le_refl _) (.slice (some ⟨b2, 0, none⟩) n n)
      have hGb : w2.heap.size ≠ b2 := by have := hK5.hb; omega
      have hb2w : w2.heap.size ≤ b2 := Nat.le_trans hHeld0.out.2.2.size hK5.hb
      clear x41 x42 x43 x51 x52 x53
      obtain ⟨wF, hwF⟩ : ∃ wF, wF = w5.setCell ⟨w2.heap.size, 0, none⟩ (.slice (some ⟨b2, 0, none⟩) n n) := ⟨_, rfl⟩
      rw [← hwF] at hbx hKF hBF ⊢
      have hGlt := World.block_lt_of_cell? _ _ hbx
      obtain ⟨x0, x1, x2, x3⟩ := hKF.cells h2in
      have xf0 := hKF.row.frozen (2 * i * 4)
      have xf2 := hKF.row.frozen (2 * i * 4 + 2)
      have hb2F := hKF.blt
      have HBF := Lib.hid (HB2.out.under2 hBF f4)
      obtain ⟨e0, e1, e2, e3, e4⟩ := HB2.out.under2 hBF f4
      have e5 : w.heap.size < wF.heap.size := by omega
      have e6 : ¬ (b2 = w.heap.size) := by omega
      have e7 : ¬ (w.heap.size = b2) := by omega
      have HKF := Lib.hid hKF
      have HBX := Lib.hid (And.intro hBF (And.intro hGb hb2w))
      clear hwF hK5 hb5 hB25 hKF hBF hGb hb2w
      go_wp2_with fail
      obtain ⟨WB, hWB⟩ : ∃ WB, WB = ((wF.setCell ⟨b2, 2 * i * 4 + 2, none⟩ (.int .i64 ep)).setCell ⟨b2, 2 * i * 4, none⟩ (.int .i64 pub)) := ⟨_, rfl⟩
      rw [← hWB]
      have hgWB : wF.grownBy WB (some b2) := by rw [hWB]; exact (grownBy_set _ _ _ _).trans (grownBy_set _ _ _ _)
      have hKB : OwnK w WB w2.heap.size b2 n n (setK F d i ep pub 0) uv := by
        rw [hWB]
        refine ((HKF.out.setEp h2in ep).setPub h2in pub).congr fun y hy => ?_
        unfold setK
        by_cases e1 : y = 2 * i
        · simp [e1]
        · simp [e1]
      have hbB : Below w2.heap.size w2 WB := HBX.out.1.grown hgWB HBX.out.1.size (fun q hq => by obtain rfl : b2 = q := Option.some.inj hq; exact HBX.out.2.2)
      have hbxB : WB.cell? ⟨w2.heap.size, 0, none⟩ = some (.slice (some ⟨b2, 0, none⟩) n n) := hgWB.cell hbx (fun e => HBX.out.2.1 (Option.some.inj e))
      have HKB := Lib.hid hKB
      have HBB := Lib.hid hbB
      have hTB : Tab WB := HD.out.2.2.1.below hpos (f0.trans (hbB.mono f0.size))
      clear hWB hgWB hKB hbB hbx hGlt x0 x1 x2 x3 xf0 xf2 hb2F e0 e1 e2 e3 e4 e5 HKF
      refine (hL WB).mono ?_
      rintro e' w6 ⟨rfl, hb6⟩
      go_wp2_with fail
      refine (dir31 d i L HD.out.1.hd HD.out.2.1 HD.out.2.2.2.1 w6 (hTB.below (by have := hTB.pos; omega) hb6)).mono ?_
      rintro e' w7 ⟨vd, rfl, hvd, hvb, hb7⟩
      obtain ⟨Ad, cd, rfl, -, -, -⟩ := id hvd
      have hdl : (natL (dirs d i)).length = d := by unfold natL; rw [List.length_map, dirs_length]
      rw [hdl] at hvd hvb ⊢
      have hb67 : Below WB.heap.size WB w7 := hb6.trans (hb7.mono hb6.size)
      have hB27 : Below w2.heap.size w2 w7 := HBB.out.trans (hb67.mono HBB.out.size)
      have HB7 := Lib.hid (HB2.out.under2 hB27 f4)
      have HK7 := Lib.hid (HKB.out.below hb67)
      have hbx7 := (hb67.cell (World.block_lt_of_cell? _ _ hbxB)).trans hbxB
      have hb26 : b2 < w6.heap.size := Nat.lt_of_lt_of_le HKB.out.blt hb6.size
      have HVD := Lib.hid (And.intro hvd hvb)
      have HB27 := Lib.hid hB27
      have hd3 : d ≤ 3 := HD.out.1.hd
      have HGB := Lib.hid HBX.out.2
      clear hvd hvb hb6 hb7 hTB hb67 hB27 hbxB HKB HBB HBX
      go_wp2_with fail
      go_loopg [81] (d + 1) (fun g v81 wr => ∃ (k : Nat) (uv' : Nat → Value), k ≤ d ∧ k + g = d + 1 ∧ v81 = .int .i64 k ∧ OwnK w wr w2.heap.size b2 n n (setK F d i ep pub k) uv' ∧ w7.grownBy wr (some b2))
      case atStart => exact ⟨0, uv, by omega, by omega, rfl, HK7.out, World.grownBy.refl _ _⟩
      case round =>
        obtain ⟨k, uv', hk, hg2, rfl, hK, hM⟩ := hrel
        have HG2 := Lib.hid hg2
        have HK := Lib.hid hK
        have HM := Lib.hid hM
        have hsr := hM.size
        have hbr : b2 < wr.heap.size := hK.blt
        have hbox := World.grownBy.cell hM hbx7 (fun e => HGB.out.1 (Option.some.inj e))
        have hGr := World.block_lt_of_cell? _ _ hbox
        clear hg2
        by_cases hlt2 : k < d
        · obtain ⟨x, hx, hxn, hxo, hxt, htk⟩ := dirs_at hd3 (show i < 2 ^ d by rw [← HD.out.2.1]; exact HD.out.2.2.2.1) hlt2
          have hxN : x < n := by rw [HD.out.1.hn]; exact hxn
          obtain ⟨bd, od, rfl, cd0⟩ := HVD.out.1.at (natL_get hx)
          have hbd1 : w6.heap.size ≤ bd := HVD.out.2 bd rfl
          have cdk := World.grownBy.cell hM cd0 (fun e => by have : bd = b2 := Option.some.inj e; omega)
          have hbdr : bd < wr.heap.size := World.block_lt_of_cell? _ _ cdk
          obtain ⟨x0, x1, x2, x3⟩ := hK.cells hxN
          have xf0 := hK.row.frozen (x * 4)
          have xf1 := hK.row.frozen (x * 4 + 1)
          have xf2 := hK.row.frozen (x * 4 + 2)
          have xf3 := hK.row.frozen (x * 4 + 3)
          have j1 : (0 : Int) ≤ (k : Int) := by omega
          have j2 : (k : Int) < (d : Int) := by omega
          have j4 : (0 : Int) ≤ (x : Int) := by omega
          have j5 : (x : Int) < (n : Int) := by omega
          have HX := Lib.hid (And.intro htk (show x ≠ 2 * i by omega))
          clear hx hxt htk cd0 hK hM
          go_wp2_with fail
          go_roundg (gk - 1)
          case rel =>
            refine ⟨k + 1, _, by omega, by have := HG2.out; omega, by go_num, (HK.out.setNode hxN 0 0 0 (by decide)).congr fun y hy => ?_, (((HM.out.trans (grownBy_set _ _ _ _)).trans (grownBy_set _ _ _ _)).trans (grownBy_set _ _ _ _)).trans (grownBy_set _ _ _ _)⟩
            unfold setK
            rw [HX.out.1]
            by_cases e2 : y = x
            · have := HX.out.2
              simp [e2, zeroN, this]
            · simp [e2]
          case measure => have := HG2.out; omega
        · obtain rfl : k = d := by omega
          have hM8 := Lib.hid hM
          have hK8 : OwnK w wr w2.heap.size b2 n n (setF F k i ep pub []) uv' := HK.out.congr fun y hy => by
            unfold setK setF
            rw [show (dirs k i).take k = dirs k i from List.take_of_length_le (by rw [dirs_length]; exact Nat.le_refl _)]
            rfl
          have HK8 := Lib.hid hK8
          have hB28 : Below w2.heap.size w2 wr := HB27.out.grown hM HB27.out.size (fun q hq => by obtain rfl : b2 = q := Option.some.inj hq; exact HGB.out.2)
          have HB28 := Lib.hid hB28
          obtain ⟨w8, rfl⟩ : ∃ w8, w8 = wr := ⟨_, rfl⟩
          have HBOX8 := Lib.hid hbox
          clear hK hM hK8 hB28 hbox hGr hbx7 HVD
          go_wp2_with fail
          go_loopg [93] (pl.length + 1) (fun g v93 wr => ∃ (j : Nat) (uv' : Nat → Value), j ≤ pl.length ∧ j + g = pl.length + 1 ∧ v93 = .int .i64 j ∧ OwnK w wr w2.heap.size b2 n n (setF F k i ep pub ((pl.zip ps).take j)) uv' ∧ w8.grownBy wr (some b2))
          case atStart => exact ⟨0, uv', by omega, by omega, rfl, HK8.out, World.grownBy.refl _ _⟩
          case round =>
            obtain ⟨j, uv2, hj, hg3, rfl, hK, hM⟩ := hrel
            have HG3 := Lib.hid hg3
            have HK9 := Lib.hid hK
            have HM9 := Lib.hid hM
            have hbr9 : b2 < wr.heap.size := hK.blt
            have hbox := World.grownBy.cell hM HBOX8.out (fun e => HGB.out.1 (Option.some.inj e))
            have hGr := World.block_lt_of_cell? _ _ hbox
            have hB29 : Below w2.heap.size w2 wr := HB28.out.grown hM HB28.out.size (fun q hq => by obtain rfl : b2 = q := Option.some.inj hq; exact HGB.out.2)
            have HB29 := Lib.hid hB29
            clear hg3
            by_cases hlt3 : j < pl.length
            · obtain ⟨x, hx⟩ : ∃ x, pl[j]? = some x := ⟨pl[j], List.getElem?_eq_getElem hlt3⟩
              obtain ⟨q, hq⟩ : ∃ q, ps[j]? = some q := ⟨ps[j]'(by have := HPS.out.1; have := HPS.out.2; omega), List.getElem?_eq_getElem _⟩
              have hxd := HD.out.2.2.2.2.2.2.1 x (List.mem_of_getElem? hx)
              obtain ⟨kx, hkx, hkx2⟩ : ∃ kx, kx < k ∧ (dirs k i)[kx]? = some x := by
                obtain ⟨kx, hkx⟩ := List.mem_iff_getElem?.1 hxd
                exact ⟨kx, by have := (List.getElem?_eq_some_iff.1 hkx).1; rw [dirs_length] at this; exact this, hkx⟩
              obtain ⟨x', hx', hxn, hxo, -, -⟩ := dirs_at hd3 (show i < 2 ^ k by rw [← HD.out.2.1]; exact HD.out.2.2.2.1) hkx
              obtain rfl : x = x' := Option.some.inj (hkx2.symm.trans hx')
              have hxN : x < n := by rw [HD.out.1.hn]; exact hxn
              have hnd := HND.out j x hx
              obtain ⟨bq, oq, rfl, cq0⟩ := HOQ.out.at (natL_get hx)
              have cqk := (hB29.cell (p := ⟨bq, oq + j, none⟩) (World.block_lt_of_cell? _ _ cq0)).trans cq0
              have hbqr : bq < wr.heap.size := World.block_lt_of_cell? _ _ cqk
              have hbq2 := World.block_lt_of_cell? _ _ cq0
              obtain ⟨bp, op, rfl, cp0⟩ := HD.out.2.2.2.2.1.at hq
              have hbpw : bp < w.heap.size := World.block_lt_of_cell? _ _ cp0
              have cpk := ((f0.trans (hB29.mono f0.size)).cell (p := ⟨bp, op + j, none⟩) hbpw).trans cp0
              have hbpr : bp < wr.heap.size := World.block_lt_of_cell? _ _ cpk
              obtain ⟨x0, x1, x2, x3⟩ := hK.cells hxN
              have xf0 := hK.row.frozen (x * 4)
              have j1 : (0 : Int) ≤ (j : Int) := by omega
              have j2 : (j : Int) < (pl.length : Int) := by omega
              have j3 : (j : Int) < (pn : Int) := by have := HPS.out.2; omega
              have j4 : (0 : Int) ≤ (x : Int) := by omega
              have j5 : (x : Int) < (n : Int) := by omega
              have jw : IntKind.i64.wrap (j : Int) = j := i64_small j (by omega)
              have jx : IntKind.i64.wrap (x : Int) = x := i64_small x (by omega)
              have hbpb : bp ≠ b2 := by have := HGB.out.2; have := f0.size; omega
              have HX := Lib.hid (And.intro hx (And.intro hq (And.intro hxd (And.intro hnd (show x ≠ 2 * i by omega)))))
              have hHeld3 : wr.cell? ⟨w2.heap.size, 0, none⟩ = some (.slice (some ⟨b2, 0, none⟩) n n) ∧ wr.cell? ⟨bp, op + j, none⟩ = some (.int .i64 q) := ⟨hbox, cpk⟩
              clear hx hq hxd hnd cq0 cp0 hK hM hkx2 hx' x1 x2 x3 hB29
              go_wp2_with fail
              go_region_held3 (fun w' => w'.cell? ⟨w2.heap.size, 0, none⟩ = some (.slice (some ⟨b2, 0, none⟩) n n) ∧ w'.cell? ⟨bp, op + j, none⟩ = some (.int .i64 q)) (first | assumption | exact h3_drew (by assumption) | exact h3_set (by assumption) HGB.out.1 hbpb) (fail)
              go_wp2_with fail
              go_roundg (gk - 1)
              case rel =>
                refine ⟨j + 1, uv2, by omega, by have := HG3.out; omega, by go_num, ((HK9.out.setPub hxN q).congr fun y hy => ?_).drew, (HM9.out.trans (grownBy_set _ _ _ _)).drew'⟩
                have hz1 : (pl.zip ps).take (j + 1) = (pl.zip ps).take j ++ [(x, q)] := by
                  rw [List.take_add_one, (List.getElem?_zip_eq_some (z := (x, q))).2 ⟨HX.out.1, HX.out.2.1⟩]
                  rfl
                exact setF_step hz1 HX.out.2.2.1 HX.out.2.2.2.2 (fun h => HX.out.2.2.2.1 (by
                  obtain ⟨pp, hp1, hp2⟩ := h
                  obtain ⟨jj, hjj⟩ := List.mem_iff_getElem?.1 hp1
                  have hjl : jj < j := by have := (List.getElem?_eq_some_iff.1 hjj).1; simp at this; omega
                  rw [List.getElem?_take_of_lt hjl] at hjj
                  have := (List.getElem?_zip_eq_some.1 hjj).1
                  rw [hp2] at this
                  exact List.mem_of_getElem? (by rw [List.getElem?_take_of_lt hjl]; exact this)))
              case measure => have := HG3.out; omega
            · obtain rfl : j = pl.length := by omega
              obtain ⟨z0, z1, z2, z3, z4⟩ := HB2.out.under2 HB29.out f4
              have z8 := (HB2.out.under2 HB29.out f4).stored
              have hKe := HK9.out.setFar (a := ⟨w.heap.size + 1, 0, none⟩) (by show b2 ≠ w.heap.size + 1; have := HGB.out.2; omega) (fun y hy e => by have h1 := (World.ownsRow.lt (HK9.out.un y hy hy) _ e).1; have h2 : w2.heap.size ≤ w.heap.size + 1 := h1; omega) (.slice (some ⟨b2, 0, none⟩) n n)
              have HKE := Lib.hid hKe
              clear hK hM hKe hB29
              go_wp2_with fail
              refine bodyPost_ret (by simp [results, Tryz.results32, go_sem, z8]; rfl) rfl ?_
              refine ⟨⟨_, rfl, ?_⟩, z0.setCell (by show w.heap.size ≤ w.heap.size + 1; omega) _⟩
              have hzl : (pl.zip ps).take pl.length = pl.zip ps := List.take_of_length_le (by rw [List.length_zip]; omega)
              rw [← hzl]
              exact HKE.out.trO (by unfold maxLen; omega) (by omega)
end Go.Proofs.YtnahhclflnjmcaaGreatDoor
