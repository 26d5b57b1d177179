import Derived.Test.YthahadhdhpcndaaDrops
import Derived.Test.YthahadhdhpcndaaPhaseTwo
/- Boxes: reading, and copies.Boxes. -/
namespace Go.Proofs.Ythahadhdhpcndaa
open Go Go.RowKit
set_option linter.unusedVariables false
set_option linter.unusedSimpArgs false

/-- A box. -/
structure BoxD where
  d : Int
  o : Bool
  m : List MailD
  n : Int
def BoxD.cs (x : BoxD) (v : Value) : Array Value := #[.int .i64 x.d, .bool x.o, v, .int .i64 x.n]
def RdB (ok : Nat → Prop) (w : World) (cs : Array Value) (x : BoxD) : Prop := ∃ v, cs = x.cs v ∧ elemM.RdL ok w v x.m
def elemB : Elem BoxD := ⟨4, by decide, RdB, fun ⟨v, h1, h2⟩ hk => ⟨v, h1, h2.keep hk⟩, fun ⟨v, h1, h2⟩ hk => ⟨v, h1, h2.mono hk⟩, fun ⟨v, h1, h2⟩ => by subst h1; rfl, fun ⟨v, h1, h2⟩ => by
  subst h1
  obtain ⟨_, _, rfl⟩ := h2.slice
  simp [BoxD.cs, Value.oneCell']⟩
theorem cells76 : (Try.prog.info? 76).map (·.size) = some 4 := by kernel_rfl
theorem info40 : (Try.prog.info? 40).map (fun i => (i.zero, i.size, i.bytes)) = some (some (.agg #[.int .u8 0, .int .i64 0, .int .i64 0, .int .i64 0, .int .i64 0, .int .i64 0, .bool false, .slice none 0 0, .slice none 0 0, .slice none 0 0, .slice none 0 0, .int .i64 0, .int .i64 0, .slice none 0 0, .int .i64 0, .int .i64 0, .int .i64 0, .int .i64 0, .int .i64 0, .int .i64 0, .int .i64 0, .int .i64 0, .int .i64 0, .slice none 0 0, .int .i64 0, .int .i64 0, .int .i64 0, .int .i64 0, .int .i64 0, .int .i64 0]), 30, 336) := by kernel_rfl
theorem info76 : (Try.prog.info? 76).map (fun i => (i.zero, i.size, i.bytes)) = some (some (.agg #[.int .i64 0, .bool false, .slice none 0 0, .int .i64 0]), 4, 48) := by kernel_rfl
set_option maxHeartbeats 4000000 in
set_option maxRecDepth 100000 in
theorem each78 {ok : Nat → Prop} (v : Value) (L : List MailD) (w : World) (h : elemM.RdL ok w v L) (hs : L.length ≤ 1000000) (hS : ∀ d ∈ L, SzM d) :
    Calls Try.prog 78 #[v, .func (.func 48) #[] #[]] w fun e w' => ∃ v' cs', e = .returned v' ∧ elemM.Own 40 w.heap.size w' v' cs' L ∧ Below w.heap.size w w' := by
  obtain ⟨A, n, c, rfl, rfl, h2, h3⟩ := h
  have H0 : Hid (∃ cs, elemM.Own 40 w.heap.size w (.slice none 0 0) cs (L.take 0) ∧ Below w.heap.size w w) := Lib.hid ⟨[], by simpa using Elem.Own.nil (E := elemM) 40 w.heap.size w, Below.refl _ _⟩
  have HS := Lib.hid (And.intro hs (And.intro hS h3))
  obtain ⟨z44, hz44⟩ : ∃ z : Array Value, z = #[.int .u8 0, .int .i64 0, .int .i64 0, .int .i64 0, .int .i64 0, .int .i64 0, .bool false, .slice none 0 0, .slice none 0 0, .slice none 0 0, .slice none 0 0, .int .i64 0, .int .i64 0, .slice none 0 0, .int .i64 0, .int .i64 0, .int .i64 0, .int .i64 0, .int .i64 0, .int .i64 0, .int .i64 0, .int .i64 0, .int .i64 0, .slice none 0 0, .int .i64 0, .int .i64 0, .int .i64 0, .int .i64 0, .int .i64 0, .int .i64 0] := ⟨_, rfl⟩
  have hzs : z44.size = 30 := by rw [hz44]; rfl
  have HZ := Lib.hid (And.intro hz44 hzs)
  clear h2 h3 hS hs hz44 hzs
  go_enter Try.func78, Try.ntmps78
  go_wp2
  go_loopg [5, 10] L.length (fun k v5 v10 wr => ∃ i : Nat, v10 = .int .i64 (i : Int) ∧ i + k = L.length ∧ Hid (∃ cs, elemM.Own 40 w.heap.size wr v5 cs (L.take i) ∧ Below w.heap.size w wr))
  case atStart => exact ⟨0, rfl, by simp, H0⟩
  case round =>
    clear H0
    obtain ⟨i, rfl, hik, HE⟩ := hrel
    have hst := HS.out.1
    obtain ⟨cs, hE, hB⟩ := HE.out
    have hsl := hE.slice
    rw [List.length_take, Nat.min_eq_left (by omega)] at hsl
    obtain ⟨A5, c5, rfl⟩ := hsl
    by_cases hi : i < L.length
    · obtain ⟨d, hd⟩ : ∃ d, L[i]? = some d := ⟨L[i], List.getElem?_eq_getElem hi⟩
      obtain ⟨b, o, cur, tt, fr, rfl, p1, p2, p3⟩ := HS.out.2.2 (by omega)
      obtain ⟨p4, p5⟩ := p3 i d hd
      change o + i * 30 + 30 ≤ cur.size at p4
      change elemM.Rd ok w (cur.extract (o + i * 30) (o + i * 30 + 30)) d at p5
      generalize hx : cur.extract (o + i * 30) (o + i * 30 + 30) = c0 at p5
      have hbr := (hB.block b (lt_of_some p2)).trans p2
      obtain ⟨W3, hW3⟩ : ∃ W3, W3 = (wr.alloc (.cells z44 40)).setRow wr.heap.size (over z44 0 c0) := ⟨_, rfl⟩
      have x1 : (wr.alloc (.cells z44 40)).heap[wr.heap.size]? = some (.cells z44 40 (0, 0)) := heap_alloc_new wr _
      have hb1 : Below wr.heap.size wr W3 := by rw [hW3]; exact below_setRow ((Below.refl _ _).alloc (Nat.le_refl _) _) (Nat.le_refl _)
      have hcs := elemM.size p5
      have hco := elemM.one p5
      change c0.size = 30 at hcs
      have y1 : W3.heap[wr.heap.size]? = some (.cells c0 40 (0, 0)) := by
        rw [hW3]
        exact (setRow_same x1).trans (congrArg (fun z => some (Obj.cells z 40 (0, 0))) (over_full (by rw [HZ.out.2, hcs])))
      have M := mail48 c0 d W3 (elemM.keep (elemM.keep p5 (Kn.of_below hB)) (Kn.of_below hb1)) (HS.out.2.1 d (List.mem_of_getElem? hd))
      have HX := Lib.hid (And.intro hbr (And.intro p4 (And.intro hx (And.intro x1 (And.intro y1 (And.intro hcs hco))))))
      have HD := Lib.hid hd
      have HW3 := Lib.hid hW3
      have HV := Lib.hid (And.intro hE (And.intro hB hb1))
      have HI := Lib.hid hi
      have i1 : (0 : Int) ≤ (i : Int) := by omega
      have i2 : (i : Int) < (L.length : Int) := by omega
      clear p1 p2 p3 p4 p5 hx hbr x1 y1 hcs hco hE hB hd hW3 hb1
      go_wp2_with (first | (with_reducible refine wpList_load_part' rfl 40 _ rfl b (o + i * 30) 30 rfl _ cur _ _ HX.out.1 Try.underlying40 rfl cells40 HX.out.2.1 c0 HX.out.2.2.1 ?_) | (rw [← HZ.out.1]; with_reducible refine wpList_store_part rfl 40 _ _ rfl rfl _ 0 30 rfl 40 _ _ rfl HX.out.2.2.2.1 cells40 HX.out.2.2.2.2.2.1 (by rw [HZ.out.2]; decide) HX.out.2.2.2.2.2.2 ?_; rw [← HW3.out]) | (with_reducible refine wpList_load_row rfl 40 _ rfl _ rfl 40 _ _ _ HX.out.2.2.2.2.1 Try.underlying40 rfl (by rw [cells40, HX.out.2.2.2.2.2.1]) ?_))
      refine M.mono ?_
      rintro e w2 ⟨c', rfl, R', B'⟩
      have hb2 : Below wr.heap.size wr w2 := HV.out.2.2.trans (B'.mono HV.out.2.2.size)
      have hR1 := elemM.mono (ok' := fun b => wr.heap.size ≤ b) R' fun b _ hb => Nat.le_trans HV.out.2.2.size hb
      have hsz1 : c'.size = 30 := elemM.size R'
      have HR := Lib.hid (And.intro hR1 (And.intro hb2 (And.intro hsz1 (elemM.one R'))))
      clear hsz1
      have hO := (HV.out.1.below hb2).row.alloc (.cells c' 40)
      rw [List.length_take, Nat.min_eq_left (by have := HI.out; omega)] at hO
      have HO := Lib.hid (And.intro hO (Nat.le_trans HV.out.2.1.size hb2.size))
      obtain ⟨i0, hinf, hz0, hz1, hz2⟩ := info_parts info40
      clear M R' B' hb2 hR1 hO
      go_wp2_with (first | (with_reducible refine wpList_buildSlice_one rfl 74 40 _ rfl 30 _ i0 Try.underlying74 hinf hz0 hz1 rfl c' rfl HR.out.2.2.1 (by decide) (by decide) ?_) | (at_builtin; refine wpList_append_lies _ rfl _ _ 74 rfl w.heap.size 40 i0 _ 30 336 Try.underlying74 hinf hz0 hz1 hz2 rfl (by decide) (.slice A5 i c5) i _ rfl HO.out.1 ⟨w2.heap.size, 0, none⟩ 1 1 c'.toList rfl (by rw [Array.length_toList]; exact HR.out.2.2.1) (World.news_of_block (heap_alloc_new _ _)) HR.out.2.2.2 (by decide) (by unfold maxLen; omega) (by omega) (by have := HO.out.2; simp; omega) (w2.heap.size + 1) (by simp) ?_))
      intro g cap w3 o1 o2 o3 _
      have HN : Hid (∃ cs, elemM.Own 40 w.heap.size w3 (.slice (some ⟨g, 0, none⟩) (i + 1) cap) cs (L.take (i + 1)) ∧ Below w.heap.size w w3) := by
        have hp := Elem.Own.push (d := d) (g := g) (cap := cap) (w3 := w3) (o := .cells c' 40) HV.out.1 HV.out.2.1.size HR.out.2.1 HR.out.1 (by rw [List.length_take, Nat.min_eq_left (by have := HI.out; omega)]; exact o1) o2 o3
        have e : L.take (i + 1) = L.take i ++ [d] := by rw [List.take_add_one, HD.out]; rfl
        rw [List.length_take, Nat.min_eq_left (by have := HI.out; omega)] at hp
        rw [e]
        exact Lib.hid ⟨_, hp.1, HV.out.2.1.trans hp.2⟩
      clear o1 o2 o3 hinf hz0 hz1 hz2
      go_wp2_with fail
      go_roundg (L.length - (i + 1))
      case measure => have := HI.out; omega
      case rel => exact ⟨i + 1, by simp, by have := HI.out; omega, HN⟩
    · obtain rfl : i = L.length := by omega
      clear hi hE hB
      go_wp2
      go_ret
      obtain ⟨cs, hE, hB⟩ := HE.out
      rw [List.take_length] at hE
      exact ⟨_, cs, rfl, hE, hB⟩
set_option maxHeartbeats 1000000 in
set_option maxRecDepth 100000 in
theorem box77 {ok : Nat → Prop} (cs : Array Value) (d : BoxD) (w : World) (h : RdB ok w cs d) (hs : d.m.length ≤ 1000000 ∧ ∀ x ∈ d.m, SzM x) :
    Calls Try.prog 77 #[.agg cs] w fun e w' => ∃ cs', e = .returned (.agg cs') ∧ RdB (w.heap.size ≤ ·) w' cs' d ∧ Below w.heap.size w w' := by
  obtain ⟨v, rfl, h⟩ := h
  obtain ⟨A, c, rfl⟩ := h.slice
  obtain ⟨dd, do_, dm, dn⟩ := d
  dsimp only [BoxD.cs] at *
  have hb1 : Below w.heap.size w (w.alloc (.cells #[.int .i64 dd, .bool do_, .slice A dm.length c, .int .i64 dn] 76)) := (Below.refl _ _).alloc (Nat.le_refl _) _
  have hb2 : Below w.heap.size w ((w.alloc (.cells #[.int .i64 dd, .bool do_, .slice A dm.length c, .int .i64 dn] 76)).alloc (.cells #[.int .i64 0, .bool false, .slice none 0 0, .int .i64 0] 76)) := hb1.alloc (by simp) _
  have M := each78 (.slice A dm.length c) dm _ (h.keep (Kn.of_below hb2)) hs.1 hs.2
  have x1 : ((w.alloc (.cells #[.int .i64 dd, .bool do_, .slice A dm.length c, .int .i64 dn] 76)).alloc (.cells #[.int .i64 0, .bool false, .slice none 0 0, .int .i64 0] 76)).heap[w.heap.size]? = some (.cells #[.int .i64 dd, .bool do_, .slice A dm.length c, .int .i64 dn] 76 (0, 0)) := heap_alloc2_old w _ _
  have x2 : ((w.alloc (.cells #[.int .i64 dd, .bool do_, .slice A dm.length c, .int .i64 dn] 76)).alloc (.cells #[.int .i64 0, .bool false, .slice none 0 0, .int .i64 0] 76)).heap[w.heap.size + 1]? = some (.cells #[.int .i64 0, .bool false, .slice none 0 0, .int .i64 0] 76 (0, 0)) := heap_alloc2_new w _ _
  have HB2 := Lib.hid hb2
  have HX := Lib.hid (And.intro x1 x2)
  clear h hb1 hb2 x1 x2 hs
  go_enter Try.func77, Try.ntmps77
  go_wp2_with fail
  refine M.mono ?_
  rintro e w2 ⟨v', cs', rfl, O', B'⟩
  obtain ⟨A', c', rfl⟩ := O'.slice
  have y1 := (B'.block _ (lt_of_some HX.out.1)).trans HX.out.1
  have y2 := (B'.block _ (lt_of_some HX.out.2)).trans HX.out.2
  have f3 : w2.frozen? ⟨w.heap.size, 2, none⟩ = false := frozen_of_row w2 _ 2 _ _ y1
  have q3 : w2.cell? ⟨w.heap.size, 2, none⟩ = some (.slice A dm.length c) := by rw [cell_of_row w2 _ 2 _ _ _ y1]; rfl
  have z1 : (w2.setCell ⟨w.heap.size, 2, none⟩ (.slice A' dm.length c')).heap[w.heap.size]? = some (.cells #[.int .i64 dd, .bool do_, .slice A' dm.length c', .int .i64 dn] 76 (0, 0)) := heap_setCell_same w2 w.heap.size 2 _ _ (.slice A' dm.length c') y1
  have z2 : (w2.setCell ⟨w.heap.size, 2, none⟩ (.slice A' dm.length c')).heap[w.heap.size + 1]? = some (.cells #[.int .i64 0, .bool false, .slice none 0 0, .int .i64 0] 76 (0, 0)) := (heap_setCell_other w2 ⟨w.heap.size, 2, none⟩ (w.heap.size + 1) (.slice A' dm.length c') (show w.heap.size + 1 ≠ w.heap.size by omega)).trans y2
  have HR := Lib.hid O'.rdL
  have HB' := Lib.hid (HB2.out.trans (B'.mono HB2.out.size))
  have hz : w.heap.size + 1 < w2.heap.size := lt_of_some y2
  have HZ := Lib.hid (And.intro z1 z2)
  clear M O' B' y1 y2 z1 z2
  go_wp2_with (first | (with_reducible refine wpList_load_row rfl 76 _ rfl _ rfl 76 _ _ _ HZ.out.1 Try.underlying76 rfl (by kernel_rfl) ?_) | (with_reducible refine wpList_store_part rfl 76 _ _ rfl rfl _ 0 4 rfl 76 _ _ rfl HZ.out.2 (by kernel_rfl) rfl (by simp) (by simp [Value.oneCell']) ?_))
  have hfin : ((w2.setCell ⟨w.heap.size, 2, none⟩ (.slice A' dm.length c')).setRow (w.heap.size + 1) (over #[.int .i64 0, .bool false, .slice none 0 0, .int .i64 0] 0 #[.int .i64 dd, .bool do_, .slice A' dm.length c', .int .i64 dn])).heap[w.heap.size + 1]? = some (.cells #[.int .i64 dd, .bool do_, .slice A' dm.length c', .int .i64 dn] 76 (0, 0)) := by
    exact (setRow_same HZ.out.2).trans (congrArg (fun z => some (Obj.cells z 76 (0, 0))) (over_full (by rfl)))
  refine bodyPost_ret (v := .agg #[.int .i64 dd, .bool do_, .slice A' dm.length c', .int .i64 dn]) (results_cell_row Try.results77 _ _ _ _ _ _ _ rfl hfin Try.underlying76 rfl (by kernel_rfl)) rfl ⟨_, rfl, ?_, ?_⟩
  · have h5 : elemM.RdL (w.heap.size + 2 ≤ ·) w2 (.slice A' dm.length c') dm := HR.out.mono fun b _ hb => by simpa using hb
    exact ⟨_, rfl, ((h5.keep (Kn.setCell _ _ _ _ (by omega))).keep (Kn.setRow _ _ _ (by omega))).mono fun b _ hb => by omega⟩
  · exact below_setRow (HB'.out.setCell (Nat.le_refl _) _) (by omega)
set_option maxHeartbeats 4000000 in
set_option maxRecDepth 100000 in
theorem each76 {ok : Nat → Prop} (v : Value) (L : List BoxD) (w : World) (h : elemB.RdL ok w v L) (hs : L.length ≤ 1000000) (hS : ∀ d ∈ L, d.m.length ≤ 1000000 ∧ ∀ x ∈ d.m, SzM x) :
    Calls Try.prog 76 #[v, .func (.func 77) #[] #[]] w fun e w' => ∃ v' cs', e = .returned v' ∧ elemB.Own 76 w.heap.size w' v' cs' L ∧ Below w.heap.size w w' := by
  obtain ⟨A, n, c, rfl, rfl, h2, h3⟩ := h
  have H0 : Hid (∃ cs, elemB.Own 76 w.heap.size w (.slice none 0 0) cs (L.take 0) ∧ Below w.heap.size w w) := Lib.hid ⟨[], by simpa using Elem.Own.nil (E := elemB) 76 w.heap.size w, Below.refl _ _⟩
  have HS := Lib.hid (And.intro hs (And.intro hS h3))
  obtain ⟨z44, hz44⟩ : ∃ z : Array Value, z = #[.int .i64 0, .bool false, .slice none 0 0, .int .i64 0] := ⟨_, rfl⟩
  have hzs : z44.size = 4 := by rw [hz44]; rfl
  have HZ := Lib.hid (And.intro hz44 hzs)
  clear h2 h3 hS hs hz44 hzs
  go_enter Try.func76, Try.ntmps76
  go_wp2
  go_loopg [5, 10] L.length (fun k v5 v10 wr => ∃ i : Nat, v10 = .int .i64 (i : Int) ∧ i + k = L.length ∧ Hid (∃ cs, elemB.Own 76 w.heap.size wr v5 cs (L.take i) ∧ Below w.heap.size w wr))
  case atStart => exact ⟨0, rfl, by simp, H0⟩
  case round =>
    clear H0
    obtain ⟨i, rfl, hik, HE⟩ := hrel
    have hst := HS.out.1
    obtain ⟨cs, hE, hB⟩ := HE.out
    have hsl := hE.slice
    rw [List.length_take, Nat.min_eq_left (by omega)] at hsl
    obtain ⟨A5, c5, rfl⟩ := hsl
    by_cases hi : i < L.length
    · obtain ⟨d, hd⟩ : ∃ d, L[i]? = some d := ⟨L[i], List.getElem?_eq_getElem hi⟩
      obtain ⟨b, o, cur, tt, fr, rfl, p1, p2, p3⟩ := HS.out.2.2 (by omega)
      obtain ⟨p4, p5⟩ := p3 i d hd
      change o + i * 4 + 4 ≤ cur.size at p4
      change elemB.Rd ok w (cur.extract (o + i * 4) (o + i * 4 + 4)) d at p5
      generalize hx : cur.extract (o + i * 4) (o + i * 4 + 4) = c0 at p5
      have hbr := (hB.block b (lt_of_some p2)).trans p2
      obtain ⟨W3, hW3⟩ : ∃ W3, W3 = (wr.alloc (.cells z44 76)).setRow wr.heap.size (over z44 0 c0) := ⟨_, rfl⟩
      have x1 : (wr.alloc (.cells z44 76)).heap[wr.heap.size]? = some (.cells z44 76 (0, 0)) := heap_alloc_new wr _
      have hb1 : Below wr.heap.size wr W3 := by rw [hW3]; exact below_setRow ((Below.refl _ _).alloc (Nat.le_refl _) _) (Nat.le_refl _)
      have hcs := elemB.size p5
      have hco := elemB.one p5
      change c0.size = 4 at hcs
      have y1 : W3.heap[wr.heap.size]? = some (.cells c0 76 (0, 0)) := by
        rw [hW3]
        exact (setRow_same x1).trans (congrArg (fun z => some (Obj.cells z 76 (0, 0))) (over_full (by rw [HZ.out.2, hcs])))
      have M := box77 c0 d W3 (elemB.keep (elemB.keep p5 (Kn.of_below hB)) (Kn.of_below hb1)) (HS.out.2.1 d (List.mem_of_getElem? hd))
      have HX := Lib.hid (And.intro hbr (And.intro p4 (And.intro hx (And.intro x1 (And.intro y1 (And.intro hcs hco))))))
      have HD := Lib.hid hd
      have HW3 := Lib.hid hW3
      have HV := Lib.hid (And.intro hE (And.intro hB hb1))
      have HI := Lib.hid hi
      have i1 : (0 : Int) ≤ (i : Int) := by omega
      have i2 : (i : Int) < (L.length : Int) := by omega
      clear p1 p2 p3 p4 p5 hx hbr x1 y1 hcs hco hE hB hd hW3 hb1
      go_wp2_with (first | (with_reducible refine wpList_load_part' rfl 76 _ rfl b (o + i * 4) 4 rfl _ cur _ _ HX.out.1 Try.underlying76 rfl cells76 HX.out.2.1 c0 HX.out.2.2.1 ?_) | (rw [← HZ.out.1]; with_reducible refine wpList_store_part rfl 76 _ _ rfl rfl _ 0 4 rfl 76 _ _ rfl HX.out.2.2.2.1 cells76 HX.out.2.2.2.2.2.1 (by rw [HZ.out.2]; decide) HX.out.2.2.2.2.2.2 ?_; rw [← HW3.out]) | (with_reducible refine wpList_load_row rfl 76 _ rfl _ rfl 76 _ _ _ HX.out.2.2.2.2.1 Try.underlying76 rfl (by rw [cells76, HX.out.2.2.2.2.2.1]) ?_))
      refine M.mono ?_
      rintro e w2 ⟨c', rfl, R', B'⟩
      have hb2 : Below wr.heap.size wr w2 := HV.out.2.2.trans (B'.mono HV.out.2.2.size)
      have hR1 := elemB.mono (ok' := fun b => wr.heap.size ≤ b) R' fun b _ hb => Nat.le_trans HV.out.2.2.size hb
      have hsz1 : c'.size = 4 := elemB.size R'
      have HR := Lib.hid (And.intro hR1 (And.intro hb2 (And.intro hsz1 (elemB.one R'))))
      clear hsz1
      have hO := (HV.out.1.below hb2).row.alloc (.cells c' 76)
      rw [List.length_take, Nat.min_eq_left (by have := HI.out; omega)] at hO
      have HO := Lib.hid (And.intro hO (Nat.le_trans HV.out.2.1.size hb2.size))
      obtain ⟨i0, hinf, hz0, hz1, hz2⟩ := info_parts info76
      clear M R' B' hb2 hR1 hO
      go_wp2_with (first | (with_reducible refine wpList_buildSlice_one rfl 67 76 _ rfl 4 _ i0 Try.underlying67 hinf hz0 hz1 rfl c' rfl HR.out.2.2.1 (by decide) (by decide) ?_) | (at_builtin; refine wpList_append_lies _ rfl _ _ 67 rfl w.heap.size 76 i0 _ 4 48 Try.underlying67 hinf hz0 hz1 hz2 rfl (by decide) (.slice A5 i c5) i _ rfl HO.out.1 ⟨w2.heap.size, 0, none⟩ 1 1 c'.toList rfl (by rw [Array.length_toList]; exact HR.out.2.2.1) (World.news_of_block (heap_alloc_new _ _)) HR.out.2.2.2 (by decide) (by unfold maxLen; omega) (by omega) (by have := HO.out.2; simp; omega) (w2.heap.size + 1) (by simp) ?_))
      intro g cap w3 o1 o2 o3 _
      have HN : Hid (∃ cs, elemB.Own 76 w.heap.size w3 (.slice (some ⟨g, 0, none⟩) (i + 1) cap) cs (L.take (i + 1)) ∧ Below w.heap.size w w3) := by
        have hp := Elem.Own.push (d := d) (g := g) (cap := cap) (w3 := w3) (o := .cells c' 76) HV.out.1 HV.out.2.1.size HR.out.2.1 HR.out.1 (by rw [List.length_take, Nat.min_eq_left (by have := HI.out; omega)]; exact o1) o2 o3
        have e : L.take (i + 1) = L.take i ++ [d] := by rw [List.take_add_one, HD.out]; rfl
        rw [List.length_take, Nat.min_eq_left (by have := HI.out; omega)] at hp
        rw [e]
        exact Lib.hid ⟨_, hp.1, HV.out.2.1.trans hp.2⟩
      clear o1 o2 o3 hinf hz0 hz1 hz2
      go_wp2_with fail
      go_roundg (L.length - (i + 1))
      case measure => have := HI.out; omega
      case rel => exact ⟨i + 1, by simp, by have := HI.out; omega, HN⟩
    · obtain rfl : i = L.length := by omega
      clear hi hE hB
      go_wp2
      go_ret
      obtain ⟨cs, hE, hB⟩ := HE.out
      rw [List.take_length] at hE
      exact ⟨_, cs, rfl, hE, hB⟩
def SzB (d : BoxD) : Prop := d.m.length ≤ 1000000 ∧ ∀ x ∈ d.m, SzM x
set_option maxHeartbeats 1000000 in
theorem boxes62 {ok : Nat → Prop} (v : Value) (L : List BoxD) (w : World) (h : elemB.RdL ok w v L) (hs : L.length ≤ 1000000) (hS : ∀ d ∈ L, SzB d) :
    Calls Try.prog 62 #[v] w fun e w' => ∃ v' cs', e = .returned v' ∧ elemB.Own 76 w.heap.size w' v' cs' L ∧ Below w.heap.size w w' := by
  have M := each76 v L w h hs hS
  obtain ⟨A, c, rfl⟩ := h.slice
  clear h hs hS
  go_enter Try.func62, Try.ntmps62
  go_wp2_with fail
  refine M.mono ?_
  rintro e w2 ⟨v', cs', rfl, hO, hB⟩
  obtain ⟨A', c', rfl⟩ := hO.slice
  have H := Lib.hid (And.intro hO hB)
  clear M hO hB
  go_wp2_with fail
  go_ret
  exact ⟨_, cs', rfl, H.out.1, H.out.2⟩
end Go.Proofs.Ythahadhdhpcndaa

/- post.Check, place. -/
namespace Go.Proofs.Ythahadhdhpcndaa
open Go Go.RowKit
set_option linter.unusedVariables false
set_option linter.unusedSimpArgs false

/-- The cells of boxes. -/
theorem Elem.RdL.boxes {ok : Nat → Prop} {w : World} {v : Value} {L : List BoxD} (h : elemB.RdL ok w v L) : ∃ A n c, v = .slice A n c ∧ n = L.length ∧ (A = none → n = 0 ∧ c = 0) ∧ (0 < n → ∃ b o, A = some ⟨b, o, none⟩ ∧ ok b ∧ b < w.heap.size ∧ ∀ i d, L[i]? = some d →
    w.cell? ⟨b, o + i * 4, none⟩ = some (.int .i64 d.d) ∧ w.cell? ⟨b, o + i * 4 + 1, none⟩ = some (.bool d.o) ∧ (∃ vm, w.cell? ⟨b, o + i * 4 + 2, none⟩ = some vm ∧ elemM.RdL ok w vm d.m) ∧ w.cell? ⟨b, o + i * 4 + 3, none⟩ = some (.int .i64 d.n)) := by
  obtain ⟨A, n, c, rfl, h1, h2, h3⟩ := h
  refine ⟨A, n, c, rfl, h1, h2, fun hp => ?_⟩
  obtain ⟨b, o, cur, t, fr, rfl, p1, p2, p3⟩ := h3 hp
  refine ⟨b, o, rfl, p1, lt_of_some p2, fun i d hd => ?_⟩
  obtain ⟨q1, vu, q2, q3⟩ := p3 i d hd
  change o + i * 4 + 4 ≤ cur.size at q1
  change cur.extract (o + i * 4) (o + i * 4 + 4) = _ at q2
  have hg : ∀ j, j < 4 → w.cell? ⟨b, o + i * 4 + j, none⟩ = (d.cs vu)[j]? := fun j hj => by
    rw [cell_of_row w b _ _ _ _ p2]
    have := congrArg (fun a => a[j]?) q2
    simp only [Array.getElem?_extract] at this
    rw [if_pos (by omega)] at this
    exact this
  exact ⟨hg 0 (by decide), hg 1 (by decide), ⟨vu, hg 2 (by decide), q3⟩, hg 3 (by decide)⟩
/-- May boxes be, the next device's number being at least nx? -/
def chk : Int → List BoxD → Bool
  | _, [] => true
  | nx, b :: r => if b.d < nx then false else if b.d ≥ 512 then false else if b.n < 0 then false else if b.n > 1099511627776 then false else chk (b.d + 1) r
theorem chk_drop {L : List BoxD} {i : Nat} {d : BoxD} (h : L[i]? = some d) (nx : Int) : chk nx (L.drop i) = if d.d < nx then false else if d.d ≥ 512 then false else if d.n < 0 then false else if d.n > 1099511627776 then false else chk (d.d + 1) (L.drop (i + 1)) := by
  have e : L.drop i = d :: L.drop (i + 1) := by
    obtain ⟨hi, he⟩ := List.getElem?_eq_some_iff.1 h
    rw [← he]
    exact List.drop_eq_getElem_cons hi
  rw [e, chk]
structure ChkP (L : List BoxD) (e : Ending) : Prop where
  out : e = .returned (.int .i64 (if chk 0 L = true then 0 else 1))
set_option maxHeartbeats 4000000 in
set_option maxRecDepth 100000 in
theorem check29 {ok : Nat → Prop} (v : Value) (L : List BoxD) (w : World) (h : elemB.RdL ok w v L) (hL : L.length ≤ 17592186044416) :
    Calls Try.prog 29 #[v] w fun e w' => ChkP L e ∧ Below w.heap.size w w' := by
  obtain ⟨A, n, c, rfl, rfl, h2, h3⟩ := h.boxes
  have H0 : Hid (chk 0 L = chk 0 (L.drop 0)) := Lib.hid (by rw [List.drop_zero])
  have HS := Lib.hid h3
  clear h h2 h3
  go_enter Try.func29, Try.ntmps29
  go_wp2
  go_loopg [3, 8] L.length (fun k v3 v8 wr => ∃ (i : Nat) (nx : Int), v3 = .int .i64 nx ∧ v8 = .int .i64 (i : Int) ∧ i + k = L.length ∧ -1 ≤ nx ∧ nx ≤ 512 ∧ Hid (chk 0 L = chk nx (L.drop i)) ∧ Below w.heap.size w wr)
  case atStart => exact ⟨0, 0, rfl, rfl, by simp, by decide, by decide, H0, Below.refl _ _⟩
  case round =>
    clear H0
    obtain ⟨i, nx, rfl, rfl, hik, hn1, hn2, HT, hB⟩ := hrel
    have i1 : (0 : Int) ≤ (i : Int) := by omega
    by_cases hi : i < L.length
    · obtain ⟨d, hd⟩ : ∃ d, L[i]? = some d := ⟨L[i], List.getElem?_eq_getElem hi⟩
      obtain ⟨b, o, rfl, p1, p2, p3⟩ := HS.out (by omega)
      obtain ⟨c0, c1, ⟨vm, c2, hM⟩, c3⟩ := p3 i d hd
      obtain ⟨Am, cm, rfl⟩ := hM.slice
      have hblk := hB.block b p2
      have e0 := (World.cell?_of_block (a := ⟨b, o + i * 4, none⟩) hblk).trans c0
      have e1 := (World.cell?_of_block (a := ⟨b, o + i * 4 + 1, none⟩) hblk).trans c1
      have e2 := (World.cell?_of_block (a := ⟨b, o + i * 4 + 2, none⟩) hblk).trans c2
      have e3 := (World.cell?_of_block (a := ⟨b, o + i * 4 + 3, none⟩) hblk).trans c3
      have hb1 : Below w.heap.size w (wr.alloc (.cells #[.int .i64 d.d, .bool d.o, .slice Am d.m.length cm, .int .i64 d.n] 76)) := hB.alloc hB.size _
      have HB := Lib.hid hb1
      have HD := Lib.hid (HT.out.trans (chk_drop hd nx))
      have HI := Lib.hid hi
      have i2 : (i : Int) < (L.length : Int) := by omega
      clear c0 c1 c2 c3 p1 p2 p3 hM hblk hB hd hb1 hi
      by_cases t1 : d.d < nx
      · have u1 : decide (d.d < nx) = true := decide_eq_true t1
        have HR : Hid (chk 0 L = false) := Lib.hid (by rw [HD.out, if_pos t1])
        clear t1
        go_wp2
        go_ret
        exact ⟨⟨by rw [HR.out]; rfl⟩, HB.out⟩
      have u1 : decide (d.d < nx) = false := decide_eq_false t1
      by_cases t2 : d.d ≥ 512
      · have u2 : decide (d.d ≥ 512) = true := decide_eq_true t2
        have HR : Hid (chk 0 L = false) := Lib.hid (by rw [HD.out, if_neg t1, if_pos t2])
        clear t1 t2
        go_wp2
        go_ret
        exact ⟨⟨by rw [HR.out]; rfl⟩, HB.out⟩
      have u2 : decide (d.d ≥ 512) = false := decide_eq_false t2
      by_cases t3 : d.n < 0
      · have u3 : decide (d.n < 0) = true := decide_eq_true t3
        have HR : Hid (chk 0 L = false) := Lib.hid (by rw [HD.out, if_neg t1, if_neg t2, if_pos t3])
        clear t1 t2 t3
        go_wp2
        go_ret
        exact ⟨⟨by rw [HR.out]; rfl⟩, HB.out⟩
      have u3 : decide (d.n < 0) = false := decide_eq_false t3
      by_cases t4 : d.n > 1099511627776
      · have u4 : decide (d.n > 1099511627776) = true := decide_eq_true t4
        have HR : Hid (chk 0 L = false) := Lib.hid (by rw [HD.out, if_neg t1, if_neg t2, if_neg t3, if_pos t4])
        clear t1 t2 t3 t4
        go_wp2
        go_ret
        exact ⟨⟨by rw [HR.out]; rfl⟩, HB.out⟩
      have u4 : decide (d.n > 1099511627776) = false := decide_eq_false t4
      have HR : Hid (chk 0 L = chk (d.d + 1) (L.drop (i + 1))) := Lib.hid (by rw [HD.out, if_neg t1, if_neg t2, if_neg t3, if_neg t4])
      have HW := Lib.hid (show wrap64 (d.d + 1) = d.d + 1 ∧ -1 ≤ d.d + 1 ∧ d.d + 1 ≤ 512 from ⟨by unfold wrap64; omega, by omega, by omega⟩)
      clear t1 t2 t3 t4
      go_wp2
      go_roundg (L.length - (i + 1))
      case measure => have := HI.out; omega
      case rel => exact ⟨i + 1, d.d + 1, by first | rfl | exact congrArg (Value.int .i64) HW.out.1, by simp, by have := HI.out; omega, HW.out.2.1, HW.out.2.2, HR, HB.out⟩
    · obtain rfl : i = L.length := by omega
      have HR : Hid (chk 0 L = true) := Lib.hid (by rw [HT.out, List.drop_length, chk])
      clear hi
      go_wp2
      go_ret
      exact ⟨⟨by rw [HR.out]; rfl⟩, hB⟩
end Go.Proofs.Ythahadhdhpcndaa

/- post.place: the search. -/
namespace Go.Proofs.Ythahadhdhpcndaa
open Go Go.RowKit
set_option linter.unusedVariables false
set_option linter.unusedSimpArgs false

theorem chk_at : ∀ (L : List BoxD) (nx : Int), chk nx L = true → ∀ (i : Nat) (d : BoxD), L[i]? = some d → nx ≤ d.d ∧ d.d < 512 ∧ 0 ≤ d.n ∧ d.n ≤ 1099511627776
  | b :: L, nx, h, i, d, hd => by
    rw [chk] at h
    by_cases h1 : b.d < nx
    · rw [if_pos h1] at h; cases h
    by_cases h2 : b.d ≥ 512
    · rw [if_neg h1, if_pos h2] at h; cases h
    by_cases h3 : b.n < 0
    · rw [if_neg h1, if_neg h2, if_pos h3] at h; cases h
    by_cases h4 : b.n > 1099511627776
    · rw [if_neg h1, if_neg h2, if_neg h3, if_pos h4] at h; cases h
    rw [if_neg h1, if_neg h2, if_neg h3, if_neg h4] at h
    cases i with
    | zero =>
      obtain rfl : b = d := by simpa using hd
      omega
    | succ i =>
      have := chk_at L (b.d + 1) h i d (by simpa using hd)
      omega
  | [], _, _, i, d, hd => by simp at hd
theorem chk_tail {b : BoxD} {L : List BoxD} {nx : Int} (h : chk nx (b :: L) = true) : chk (b.d + 1) L = true := by
  rw [chk] at h
  by_cases h1 : b.d < nx
  · rw [if_pos h1] at h; cases h
  by_cases h2 : b.d ≥ 512
  · rw [if_neg h1, if_pos h2] at h; cases h
  by_cases h3 : b.n < 0
  · rw [if_neg h1, if_neg h2, if_pos h3] at h; cases h
  by_cases h4 : b.n > 1099511627776
  · rw [if_neg h1, if_neg h2, if_neg h3, if_pos h4] at h; cases h
  rwa [if_neg h1, if_neg h2, if_neg h3, if_neg h4] at h
theorem chk_lt : ∀ (L : List BoxD) (nx : Int), chk nx L = true → ∀ (i j : Nat) (d e : BoxD), L[i]? = some d → L[j]? = some e → i < j → d.d < e.d
  | b :: L, nx, h, i, j, d, e, hd, he, hij => by
    cases j with
    | zero => omega
    | succ j =>
      have ht := chk_tail h
      cases i with
      | zero =>
        obtain rfl : b = d := by simpa using hd
        have := chk_at L _ ht j e (by simpa using he)
        omega
      | succ i => exact chk_lt L _ ht i j d e (by simpa using hd) (by simpa using he) (by omega)
  | [], _, _, i, _, d, _, hd, _, _ => by simp at hd
/-- What the search has found out. -/
structure BsI (L : List BoxD) (dev : Int) (lo hi : Nat) : Prop where
  h1 : lo ≤ hi
  h2 : hi ≤ L.length
  h3 : 0 ≤ dev → dev < 512 → ∀ j d, j < lo → L[j]? = some d → d.d < dev
  h4 : 0 ≤ dev → dev < 512 → ∀ j d, hi ≤ j → L[j]? = some d → dev ≤ d.d
structure PlP (L : List BoxD) (dev : Int) (e : Ending) : Prop where
  out : ∃ (i : Nat) (b : Bool), e = .returned (.tuple #[.int .i64 (i : Int), .bool b]) ∧ i ≤ L.length ∧ (b = true ↔ ∃ d, L[i]? = some d ∧ d.d = dev) ∧ (∀ j d, L[j]? = some d → d.d = dev → j = i) ∧ (0 ≤ dev → dev < 512 → (∀ j d, j < i → L[j]? = some d → d.d < dev) ∧ ∀ j d, i ≤ j → L[j]? = some d → dev ≤ d.d)
set_option maxHeartbeats 1000000 in
theorem cmp67 (d dev : Int) (o : Bool) (A : Option Addr) (n c : Nat) (k : Int) (w : World) :
    Calls Try.prog 67 #[.agg #[.int .i64 d, .bool o, .slice A n c, .int .i64 k], .int .i64 dev] w fun e w' => e = .returned (.int .i64 (wrap64 (d - dev))) ∧ Below w.heap.size w w' := by
  have hb1 : Below w.heap.size w (w.alloc (.cells #[.int .i64 d, .bool o, .slice A n c, .int .i64 k] 76)) := (Below.refl _ _).alloc (Nat.le_refl _) _
  have HB := Lib.hid hb1
  clear hb1
  go_enter Try.func67, Try.ntmps67
  go_wp2
  go_ret
  exact ⟨rfl, HB.out⟩
set_option maxHeartbeats 4000000 in
set_option maxRecDepth 100000 in
theorem search66 {ok : Nat → Prop} (v : Value) (L : List BoxD) (dev : Int) (w : World) (h : elemB.RdL ok w v L) (hL : L.length ≤ 17592186044416) (hc : chk 0 L = true) (hdev : -9223372036854775808 ≤ dev ∧ dev ≤ 9223372036854775807) :
    Calls Try.prog 66 #[v, .int .i64 dev, .func (.func 67) #[] #[]] w fun e w' => PlP L dev e ∧ Below w.heap.size w w' := by
  obtain ⟨A, n, c, rfl, rfl, h2, h3⟩ := h.boxes
  have H0 : Hid (BsI L dev 0 L.length) := Lib.hid ⟨Nat.zero_le _, Nat.le_refl _, (fun _ _ j d hj => absurd hj (by omega)), fun _ _ j d hj hd => by have := (List.getElem?_eq_some_iff.1 hd).1; omega⟩
  have HS := Lib.hid (And.intro h3 hc)
  clear h h2 h3 hc
  go_enter Try.func66, Try.ntmps66
  go_wp2
  go_loopg [9, 10] L.length (fun k v9 v10 wr => ∃ (lo hi : Nat), v9 = .int .i64 (lo : Int) ∧ v10 = .int .i64 (hi : Int) ∧ hi - lo ≤ k ∧ Hid (BsI L dev lo hi) ∧ Below w.heap.size w wr)
  case atStart => exact ⟨0, L.length, rfl, rfl, by simp, H0, Below.refl _ _⟩
  case round =>
    clear H0
    obtain ⟨lo, hi, rfl, rfl, hk, HT, hB⟩ := hrel
    have hT := HT.out
    have hh1 := hT.h1
    have hh2 := hT.h2
    have i1 : (0 : Int) ≤ (lo : Int) := by omega
    have i2 : (0 : Int) ≤ (hi : Int) := by omega
    by_cases hlt : lo < hi
    · have t1 : decide ((lo : Int) < (hi : Int)) = true := decide_eq_true (by omega)
      have HLT := Lib.hid hlt
      obtain ⟨m, hm⟩ : ∃ m : Nat, m = (lo + hi) / 2 := ⟨_, rfl⟩
      have hm1 : lo ≤ m := by omega
      have hm2 : m < hi := by omega
      have hmi : ((lo : Int) + (hi : Int)) / 2 = (m : Int) := by omega
      obtain ⟨d, hd⟩ : ∃ d, L[m]? = some d := ⟨L[m]'(by omega), List.getElem?_eq_getElem _⟩
      obtain ⟨b, o, rfl, p1, p2, p3⟩ := HS.out.1 (by omega)
      obtain ⟨c0, c1, ⟨vm, c2, hM⟩, c3⟩ := p3 m d hd
      obtain ⟨Am, cm, rfl⟩ := hM.slice
      have hblk := hB.block b p2
      have e0 := (World.cell?_of_block (a := ⟨b, o + m * 4, none⟩) hblk).trans c0
      have e1 := (World.cell?_of_block (a := ⟨b, o + m * 4 + 1, none⟩) hblk).trans c1
      have e2 := (World.cell?_of_block (a := ⟨b, o + m * 4 + 2, none⟩) hblk).trans c2
      have e3 := (World.cell?_of_block (a := ⟨b, o + m * 4 + 3, none⟩) hblk).trans c3
      have i3 : (0 : Int) ≤ (m : Int) := by omega
      have i4 : (m : Int) < (L.length : Int) := by omega
      have hr := chk_at L 0 HS.out.2 m d hd
      have M := cmp67 d.d dev d.o Am d.m.length cm d.n wr
      have HD := Lib.hid (And.intro hd (And.intro hr (And.intro hm1 hm2)))
      have HB := Lib.hid hB
      clear hT c0 c1 c2 c3 p1 p2 p3 hM hblk hd hr hm hB hm1 hm2
      go_wp2_with fail
      refine M.mono ?_
      rintro e w2 ⟨rfl, B2⟩
      have HB2 := Lib.hid (HB.out.trans (B2.mono HB.out.size))
      clear M B2 e0 e1 e2 e3
      by_cases hneg : wrap64 (d.d - dev) < 0
      · have t2 : decide (wrap64 (d.d - dev) < 0) = true := decide_eq_true hneg
        have HN : Hid (BsI L dev (m + 1) hi) := Lib.hid ⟨by have := HD.out.2.2.2; omega, HT.out.h2, fun d1 d2 j x hj hx => by
          by_cases hjl : j < lo
          · exact HT.out.h3 d1 d2 j x hjl hx
          · have hw : wrap64 (d.d - dev) = d.d - dev := by have := HD.out.2.1; unfold wrap64; omega
            by_cases hjm : j = m
            · subst hjm
              have e := HD.out.1.symm.trans hx
              injection e with e
              subst e
              omega
            · have := chk_lt L 0 HS.out.2 j m x d hx HD.out.1 (by omega)
              omega, HT.out.h4⟩
        clear hneg
        go_wp2_with fail
        go_roundg (hi - (m + 1))
        case measure => have := HD.out.2.2; have := HLT.out; omega
        case rel => exact ⟨m + 1, hi, by simp, rfl, Nat.le_refl _, HN, HB2.out⟩
      · have t2 : decide (wrap64 (d.d - dev) < 0) = false := decide_eq_false hneg
        have HN : Hid (BsI L dev lo m) := Lib.hid ⟨HD.out.2.2.1, by have := HD.out.2.2.2; have := HT.out.h2; omega, HT.out.h3, fun d1 d2 j x hj hx => by
          have hw : wrap64 (d.d - dev) = d.d - dev := by have := HD.out.2.1; unfold wrap64; omega
          by_cases hjm : j = m
          · subst hjm
            have e := HD.out.1.symm.trans hx
            injection e with e
            subst e
            omega
          · have := chk_lt L 0 HS.out.2 m j d x HD.out.1 hx (by omega)
            omega⟩
        clear hneg
        go_wp2_with fail
        go_roundg (m - lo)
        case measure => have := HD.out.2.2; have := HLT.out; omega
        case rel => exact ⟨lo, m, rfl, rfl, Nat.le_refl _, HN, HB2.out⟩
    · obtain rfl : lo = hi := by omega
      clear hlt hk
      by_cases hend : lo < L.length
      · obtain ⟨d, hd⟩ : ∃ d, L[lo]? = some d := ⟨L[lo], List.getElem?_eq_getElem hend⟩
        obtain ⟨b, o, rfl, p1, p2, p3⟩ := HS.out.1 (by omega)
        obtain ⟨c0, c1, ⟨vm, c2, hM⟩, c3⟩ := p3 lo d hd
        obtain ⟨Am, cm, rfl⟩ := hM.slice
        have hblk := hB.block b p2
        have e0 := (World.cell?_of_block (a := ⟨b, o + lo * 4, none⟩) hblk).trans c0
        have e1 := (World.cell?_of_block (a := ⟨b, o + lo * 4 + 1, none⟩) hblk).trans c1
        have e2 := (World.cell?_of_block (a := ⟨b, o + lo * 4 + 2, none⟩) hblk).trans c2
        have e3 := (World.cell?_of_block (a := ⟨b, o + lo * 4 + 3, none⟩) hblk).trans c3
        have i4 : (lo : Int) < (L.length : Int) := by omega
        have hr := chk_at L 0 HS.out.2 lo d hd
        have M := cmp67 d.d dev d.o Am d.m.length cm d.n wr
        have HD := Lib.hid (And.intro hd (And.intro hr hend))
        have HB := Lib.hid hB
        have hz : (wrap64 (d.d - dev) = 0) ↔ d.d = dev := by unfold wrap64; omega
        have hother : ∀ j x, L[j]? = some x → x.d = dev → j = lo := fun j x hx he => by
          have hrx := chk_at L 0 HS.out.2 j x hx
          rcases Nat.lt_trichotomy j lo with h | h | h
          · have := HT.out.h3 (by omega) (by omega) j x h hx; omega
          · exact h
          · have := chk_lt L 0 HS.out.2 lo j d x hd hx h
            have := HT.out.h4 (by omega) (by omega) lo d (Nat.le_refl _) hd
            omega
        have HO := Lib.hid hother
        clear hT c0 c1 c2 c3 p1 p2 p3 hM hblk hd hr hB hother hend
        by_cases heq : d.d = dev
        · have t2 : (wrap64 (d.d - dev) == 0) = true := by rw [beq_iff_eq]; exact hz.2 heq
          have HE := Lib.hid heq
          clear hz heq
          go_wp2_with fail
          refine M.mono ?_
          rintro e w2 ⟨rfl, B2⟩
          have HB2 := Lib.hid (HB.out.trans (B2.mono HB.out.size))
          clear M B2
          go_wp2_with fail
          refine bodyPost_ret (results_tmp2 Try.results66 _ _ _) rfl ?_
          exact ⟨⟨lo, true, rfl, Nat.le_of_lt HD.out.2.2, ⟨fun _ => ⟨d, HD.out.1, HE.out⟩, fun _ => rfl⟩, HO.out, fun h1 h2 => ⟨HT.out.h3 h1 h2, HT.out.h4 h1 h2⟩⟩, HB2.out⟩
        · have t2 : (wrap64 (d.d - dev) == 0) = false := by rw [beq_eq_false_iff_ne]; exact fun h => heq (hz.1 h)
          have HE := Lib.hid heq
          clear hz heq
          go_wp2_with fail
          refine M.mono ?_
          rintro e w2 ⟨rfl, B2⟩
          have HB2 := Lib.hid (HB.out.trans (B2.mono HB.out.size))
          clear M B2
          go_wp2_with fail
          refine bodyPost_ret (results_tmp2 Try.results66 _ _ _) rfl ?_
          refine ⟨⟨lo, false, rfl, Nat.le_of_lt HD.out.2.2, ⟨(fun h => by cases h), fun ⟨x, hx, he⟩ => ?_⟩, HO.out, fun h1 h2 => ⟨HT.out.h3 h1 h2, HT.out.h4 h1 h2⟩⟩, HB2.out⟩
          have e := HD.out.1.symm.trans hx
          injection e with e
          subst e
          exact absurd he HE.out
      · obtain rfl : lo = L.length := by omega
        have hother : ∀ j x, L[j]? = some x → x.d = dev → j = L.length := fun j x hx he => by
          have hrx := chk_at L 0 HS.out.2 j x hx
          have hj := (List.getElem?_eq_some_iff.1 hx).1
          have := HT.out.h3 (by omega) (by omega) j x hj hx
          omega
        have HO := Lib.hid hother
        have HB := Lib.hid hB
        clear hother hT hB hend
        go_wp2_with fail
        refine bodyPost_ret (results_tmp2 Try.results66 _ _ _) rfl ?_
        exact ⟨⟨L.length, false, rfl, Nat.le_refl _, ⟨(fun h => by cases h), fun ⟨x, hx, he⟩ => by have := (List.getElem?_eq_some_iff.1 hx).1; omega⟩, HO.out, fun h1 h2 => ⟨HT.out.h3 h1 h2, HT.out.h4 h1 h2⟩⟩, HB.out⟩
set_option maxHeartbeats 1000000 in
theorem place54 {ok : Nat → Prop} (v : Value) (L : List BoxD) (dev : Int) (w : World) (h : elemB.RdL ok w v L) (hL : L.length ≤ 17592186044416) (hc : chk 0 L = true) (hdev : -9223372036854775808 ≤ dev ∧ dev ≤ 9223372036854775807) :
    Calls Try.prog 54 #[v, .int .i64 dev] w fun e w' => PlP L dev e ∧ Below w.heap.size w w' := by
  have M := search66 v L dev w h hL hc hdev
  obtain ⟨A, c, rfl⟩ := h.slice
  clear h hc hdev
  go_enter Try.func54, Try.ntmps54
  go_wp2_with fail
  refine M.mono ?_
  rintro e w2 ⟨hP, hB⟩
  obtain ⟨i, b, rfl, h1, h2, h3, h4⟩ := hP.out
  have H := Lib.hid (And.intro h1 (And.intro h2 (And.intro h3 (And.intro hB h4))))
  clear M hP hB h1 h2 h3 h4
  go_wp2_with fail
  refine bodyPost_ret (results_tmp2 Try.results54 _ _ _) rfl ?_
  exact ⟨⟨i, b, rfl, H.out.1, H.out.2.1, H.out.2.2.1, H.out.2.2.2.2⟩, H.out.2.2.2.1⟩
end Go.Proofs.Ythahadhdhpcndaa

/- post.Put's turn of a box. -/
namespace Go.Proofs.Ythahadhdhpcndaa
open Go Go.RowKit
set_option linter.unusedVariables false
set_option linter.unusedSimpArgs false

structure PutP (B bb p n : Nat) (cur : Array Value) (v : Value) (xs : List Value) (md : MailD) (w : World) (e : Ending) (w' : World) : Prop where
  out : ∃ v' c', e = .returned (.int .i64 0) ∧ w'.heap[bb]? = some (.cells (cur.setIfInBounds (p + 2) v') 76 (0, 0)) ∧ w'.ownsRow B 40 30 v' (n + 1) (xs ++ c'.toList) ∧ RdM (fun b => w.heap.size ≤ b ∧ v'.ownBlock ≠ some b) w' c' md ∧
    (∀ k, k < w.heap.size → k ≠ bb → v.ownBlock ≠ some k → w'.heap[k]? = w.heap[k]?) ∧ w.heap.size ≤ w'.heap.size ∧ (∀ k, v'.ownBlock = some k → v.ownBlock = some k ∨ w.heap.size ≤ k) ∧ Below B w w'
set_option maxHeartbeats 1000000 in
theorem put47out {w : World} {bb p mp : Nat} (h : w.cell? ⟨bb, p + 1, none⟩ = some (.bool true)) :
    Calls Try.prog 47 #[.pointer (some ⟨bb, p, none⟩), .pointer (some ⟨mp, 0, none⟩)] w fun e w' => e = .returned (.int .i64 11) ∧ w' = w := by
  go_enter Try.func47, Try.ntmps47
  go_wp2
  go_ret
  exact ⟨rfl, rfl⟩
set_option maxHeartbeats 4000000 in
set_option maxRecDepth 100000 in
theorem put47 {ok : Nat → Prop} {w : World} {B bb p mp n : Nat} {cur cm : Array Value} {v : Value} {xs : List Value} {md : MailD} (hb : w.heap[bb]? = some (.cells cur 76 (0, 0))) (hp : p + 4 ≤ cur.size) (c1 : cur[p + 1]? = some (.bool false)) (c2 : cur[p + 2]? = some v)
    (hm : w.heap[mp]? = some (.cells cm 40 (0, 0))) (hr : RdM ok w cm md) (hs : SzM md) (hO : w.ownsRow B 40 30 v n xs) (hB : B ≤ w.heap.size) (hBb : B ≤ bb) (hn : n ≤ 1000000) (f1 : v.ownBlock ≠ some bb) (f2 : v.ownBlock ≠ some mp) (f3 : mp ≠ bb) :
    Calls Try.prog 47 #[.pointer (some ⟨bb, p, none⟩), .pointer (some ⟨mp, 0, none⟩)] w fun e w' => PutP B bb p n cur v xs md w e w' := by
  obtain ⟨A, cap, rfl⟩ : ∃ A cap, v = .slice A n cap := by
    rcases hO.2 with ⟨h1, h2⟩ | ⟨b, cap, cur, h1, _⟩
    · exact ⟨none, 0, by rw [h1, h2]⟩
    · exact ⟨_, _, h1⟩
  have l1 : w.cell? ⟨bb, p + 1, none⟩ = some (.bool false) := (cell_of_row w bb _ _ _ _ hb).trans c1
  have hcc : ∀ w', w'.heap[mp]? = w.heap[mp]? → w'.heap[bb]? = w.heap[bb]? → (loadVar 40 ⟨mp, 0, none⟩).run Try.prog w' = .ok (.agg cm) w' ∧ w'.cell? ⟨bb, p + 2, none⟩ = some (.slice A n cap) := fun w' h1 h2 => by
    refine ⟨?_, ?_⟩
    · have := run_loadVar_part (P := Try.prog) w' mp 0 30 40 40 cm (0, 0) _ (h1.trans hm) Try.underlying40 rfl cells40 (by rw [hr.size]; decide)
      rw [show cm.extract 0 (0 + 30) = cm by rw [show 0 + 30 = cm.size by rw [hr.size]]; exact Array.extract_size] at this
      exact this
    · exact (cell_of_row w' bb _ _ _ _ (h2.trans hb)).trans c2
  have hlg : bb < w.heap.size := lt_of_some hb
  have hlw : mp < w.heap.size := lt_of_some hm
  obtain ⟨l2, l3⟩ := hcc w rfl rfl
  have hkb : ∀ w', Below w.heap.size w w' → (loadVar 40 ⟨mp, 0, none⟩).run Try.prog w' = .ok (.agg cm) w' ∧ w'.cell? ⟨bb, p + 2, none⟩ = some (.slice A n cap) := fun w' hb => hcc w' (hb.block _ hlw) (hb.block _ hlg)
  have hvb : ∀ k, (Value.slice A n cap).ownBlock = some k → B ≤ k ∧ k < w.heap.size := fun k hk => by
    rcases hO.2 with ⟨z, _⟩ | ⟨b, cp, cur, z1, z2, z3, _⟩
    · rw [z] at hk; cases hk
    · rw [z1] at hk
      obtain rfl : b = k := by simpa [Value.ownBlock] using hk
      exact ⟨z2, lt_of_some z3⟩
  have HC := Lib.hid (And.intro hcc hkb)
  have HP := Lib.hid (And.intro hr (And.intro hs (And.intro hO (And.intro hvb (And.intro hb (And.intro f1 (And.intro f2 (And.intro f3 (And.intro hp hB)))))))))
  have HF1 : Hid ((Value.slice A n cap).ownBlock = some bb → False) := Lib.hid f1
  have HF2 : Hid ((Value.slice A n cap).ownBlock = some mp → False) := Lib.hid f2
  clear hcc hkb hr hs hO hvb hb f1 f2 f3 hp c1 c2 hm
  go_enter Try.func47, Try.ntmps47
  go_wp2_with fail
  obtain ⟨i0, hinf, hz0, hz1, hz2⟩ := info_parts info40
  refine Go.Proofs.Phase.wp_region_ph (S := (fun w' => (loadVar 40 ⟨mp, 0, none⟩).run Try.prog w' = .ok (.agg cm) w' ∧ w'.cell? ⟨bb, p + 2, none⟩ = some (.slice A n cap))) 11 (by kernel_rfl) ?_ (fun hHeld => ?_)
  · ((try dsimp only) <;> (first | exact HC.out.2 _ (Below.refl _ _).drew | exact HC.out.2 _ (by assumption) | exact HC.out.2 _ (below_drewN (Below.refl _ _) _) | assumption))
  refine Go.Proofs.Phase.wpPh_take' (i := 0) (by simp only [List.getElem?_toArray, List.getElem?_cons_succ, List.getElem?_cons_zero]; rfl) ?_
  refine ⟨?_, ⟨by kernel_rfl, by kernel_rfl, by kernel_rfl, by kernel_rfl⟩, fun _ _ _ h => h, Or.inl ⟨by rfl, ?_⟩, by assumption, ?_⟩
  rotate_left
  · (intro w hSw; (try dsimp only at hSw); go_simp; with_reducible rfl)
  try simp only [Act.put, List.setIfInBounds_toArray, List.set_cons_zero, List.set_cons_succ]
  refine Go.Proofs.Phase.wpPh_take' (i := 1) (by simp only [List.getElem?_toArray, List.getElem?_cons_succ, List.getElem?_cons_zero]; rfl) ?_
  refine ⟨?_, ⟨by kernel_rfl, by kernel_rfl, by kernel_rfl, by kernel_rfl⟩, fun _ _ _ h => h, Or.inl ⟨by rfl, ?_⟩, by assumption, ?_⟩
  rotate_left
  · (intro w hSw; (try dsimp only at hSw); go_simp; with_reducible rfl)
  try simp only [Act.put, List.setIfInBounds_toArray, List.set_cons_zero, List.set_cons_succ]
  refine Go.Proofs.Phase.wpPh_take' (i := 2) (by simp only [List.getElem?_toArray, List.getElem?_cons_succ, List.getElem?_cons_zero]; rfl) ?_
  refine ⟨?_, ⟨by kernel_rfl, by kernel_rfl, by kernel_rfl, by kernel_rfl⟩, fun _ _ _ h => h, Or.inl ⟨by rfl, ?_⟩, by assumption, ?_⟩
  rotate_left
  · (intro w hSw; (try dsimp only at hSw); go_simp; with_reducible rfl)
  try simp only [Act.put, List.setIfInBounds_toArray, List.set_cons_zero, List.set_cons_succ]
  refine Go.Proofs.Phase.wpPh_take' (i := 3) (by simp only [List.getElem?_toArray, List.getElem?_cons_succ, List.getElem?_cons_zero]; rfl) ?_
  refine ⟨?_, ⟨by kernel_rfl, by kernel_rfl, by kernel_rfl, by kernel_rfl⟩, fun _ _ _ h => h, Or.inl ⟨by rfl, ?_⟩, by assumption, ?_⟩
  rotate_left
  · (intro w hSw; (try dsimp only at hSw); go_simp; with_reducible rfl)
  try simp only [Act.put, List.setIfInBounds_toArray, List.set_cons_zero, List.set_cons_succ]
  refine Go.Proofs.Phase.wpPh_take' (i := 4) (by simp only [List.getElem?_toArray, List.getElem?_cons_succ, List.getElem?_cons_zero]; rfl) ?_
  refine ⟨?_, ⟨by kernel_rfl, by kernel_rfl, by kernel_rfl, by kernel_rfl⟩, fun _ _ _ h => h, Or.inl ⟨by rfl, ?_⟩, by assumption, ?_⟩
  rotate_left
  · (intro w hSw; (try dsimp only at hSw); go_simp; with_reducible rfl)
  try simp only [Act.put, List.setIfInBounds_toArray, List.set_cons_zero, List.set_cons_succ]
  refine Go.Proofs.Phase.wpPh_take' (i := 5) (by simp only [List.getElem?_toArray, List.getElem?_cons_succ, List.getElem?_cons_zero]; rfl) ?_
  refine ⟨?_, ⟨by kernel_rfl, by kernel_rfl, by kernel_rfl, by kernel_rfl⟩, fun _ _ _ h => h, Or.inl ⟨by rfl, ?_⟩, by assumption, ?_⟩
  rotate_left
  · (intro w hSw; (try dsimp only at hSw); first | (refine (Go.Proofs.Phase.exec_load _ _ rfl _ rfl _ hSw.1).trans ?_; with_reducible rfl) | (refine (Go.Proofs.Phase.exec_load _ _ rfl _ rfl _ hSw.2.1).trans ?_; with_reducible rfl) | (refine (Go.Proofs.Phase.exec_load _ _ rfl _ rfl _ hSw.2.2.1).trans ?_; with_reducible rfl))
  try simp only [Act.put, List.setIfInBounds_toArray, List.set_cons_zero, List.set_cons_succ]
  refine Go.Proofs.Phase.wpPh_before (i := 6) (by kernel_rfl) (by simp only [List.getElem?_toArray, List.getElem?_cons_succ, List.getElem?_cons_zero]; rfl) (fun K hK => ?_)
  go_simp
  ((first
      | (with_reducible refine step_buildSlice_one rfl 74 40 _ rfl 30 _ i0 Try.underlying74 hinf hz0 hz1 rfl c' rfl HR3.out.size (by decide) (by decide) ?_)
      | (with_reducible refine (mail48 _ md _ (HP.out.1.keep (Kn.of_below (Below.refl _ _).drew)) HP.out.2.1).mono ?_; rintro e w3 ⟨c', rfl, R3, B3⟩; have K3 := (Below.refl w.heap.size w).drew.trans (B3.mono (Nat.le_refl _)); have K4 := K3.alloc K3.size (.cells c' 40); have HR3 := Lib.hid R3; have HL3 := Lib.hid (show c'.toList.length = 1 * 30 by rw [Array.length_toList, R3.size]); have OWN := Lib.hid ((own_below HP.out.2.2.1 K3).alloc (.cells c' 40)); have hs3 := K3.size; clear R3)
      | (with_reducible refine step_append_lies _ rfl _ _ 74 rfl B 40 i0 _ 30 336 Try.underlying74 hinf hz0 hz1 hz2 rfl (by decide) (.slice A n cap) n xs rfl OWN.out ⟨w3.heap.size, 0, none⟩ 1 1 c'.toList rfl HL3.out (World.news_of_block (heap_alloc_new _ _)) HR3.out.one (by decide) (by unfold maxLen; omega) (by omega) (by simp at *; omega) _ rfl ?_; intro g' cap' w4 o1 o2 o3 o4; have K9 := HC.out.1 w4 ((o2.block _ (Nat.lt_of_lt_of_le hlw K4.size) (fun e => HF2.out e.symm)).trans (K4.block _ hlw)) ((o2.block _ (Nat.lt_of_lt_of_le hlg K4.size) (fun e => HF1.out e.symm)).trans (K4.block _ hlg)); have f1 : w4.frozen? ⟨bb, p + 2, none⟩ = false := frozen_of_row w4 bb _ _ _ (((o2.block _ (Nat.lt_of_lt_of_le hlg K4.size) (fun e => HF1.out e.symm)).trans (K4.block _ hlg)).trans HP.out.2.2.2.2.1))))
  go_wp2_with fail
  refine hK.out _ _ ?_ (fun hHeldN => ?_)
  · ((try dsimp only) <;> (first | exact HC.out.2 _ (Below.refl _ _).drew | exact HC.out.2 _ (by assumption) | exact HC.out.2 _ (below_drewN (Below.refl _ _) _) | assumption))
  clear hHeld
  have hHeld := hHeldN
  clear hHeldN
  clear hK K
  try simp only [Act.put, List.setIfInBounds_toArray, List.set_cons_zero, List.set_cons_succ]
  refine Go.Proofs.Phase.wpPh_before (i := 7) (by kernel_rfl) (by simp only [List.getElem?_toArray, List.getElem?_cons_succ, List.getElem?_cons_zero]; rfl) (fun K hK => ?_)
  ((first
      | (with_reducible refine step_buildSlice_one rfl 74 40 _ rfl 30 _ i0 Try.underlying74 hinf hz0 hz1 rfl c' rfl HR3.out.size (by decide) (by decide) ?_)
      | (with_reducible refine (mail48 _ md _ (HP.out.1.keep (Kn.of_below (Below.refl _ _).drew)) HP.out.2.1).mono ?_; rintro e w3 ⟨c', rfl, R3, B3⟩; have K3 := (Below.refl w.heap.size w).drew.trans (B3.mono (Nat.le_refl _)); have K4 := K3.alloc K3.size (.cells c' 40); have HR3 := Lib.hid R3; have HL3 := Lib.hid (show c'.toList.length = 1 * 30 by rw [Array.length_toList, R3.size]); have OWN := Lib.hid ((own_below HP.out.2.2.1 K3).alloc (.cells c' 40)); have hs3 := K3.size; clear R3)
      | (with_reducible refine step_append_lies _ rfl _ _ 74 rfl B 40 i0 _ 30 336 Try.underlying74 hinf hz0 hz1 hz2 rfl (by decide) (.slice A n cap) n xs rfl OWN.out ⟨w3.heap.size, 0, none⟩ 1 1 c'.toList rfl HL3.out (World.news_of_block (heap_alloc_new _ _)) HR3.out.one (by decide) (by unfold maxLen; omega) (by omega) (by simp at *; omega) _ rfl ?_; intro g' cap' w4 o1 o2 o3 o4; have K9 := HC.out.1 w4 ((o2.block _ (Nat.lt_of_lt_of_le hlw K4.size) (fun e => HF2.out e.symm)).trans (K4.block _ hlw)) ((o2.block _ (Nat.lt_of_lt_of_le hlg K4.size) (fun e => HF1.out e.symm)).trans (K4.block _ hlg)); have f1 : w4.frozen? ⟨bb, p + 2, none⟩ = false := frozen_of_row w4 bb _ _ _ (((o2.block _ (Nat.lt_of_lt_of_le hlg K4.size) (fun e => HF1.out e.symm)).trans (K4.block _ hlg)).trans HP.out.2.2.2.2.1))))
  refine hK.out _ _ ?_ (fun hHeldN => ?_)
  · ((try dsimp only) <;> (first | exact HC.out.2 _ (Below.refl _ _).drew | exact HC.out.2 _ (by assumption) | exact HC.out.2 _ (below_drewN (Below.refl _ _) _) | assumption))
  clear hHeld
  have hHeld := hHeldN
  clear hHeldN
  clear hK K
  try simp only [Act.put, List.setIfInBounds_toArray, List.set_cons_zero, List.set_cons_succ]
  refine Go.Proofs.Phase.wpPh_before (i := 8) (by kernel_rfl) (by simp only [List.getElem?_toArray, List.getElem?_cons_succ, List.getElem?_cons_zero]; rfl) (fun K hK => ?_)
  ((first
      | (with_reducible refine step_buildSlice_one rfl 74 40 _ rfl 30 _ i0 Try.underlying74 hinf hz0 hz1 rfl c' rfl HR3.out.size (by decide) (by decide) ?_)
      | (with_reducible refine (mail48 _ md _ (HP.out.1.keep (Kn.of_below (Below.refl _ _).drew)) HP.out.2.1).mono ?_; rintro e w3 ⟨c', rfl, R3, B3⟩; have K3 := (Below.refl w.heap.size w).drew.trans (B3.mono (Nat.le_refl _)); have K4 := K3.alloc K3.size (.cells c' 40); have HR3 := Lib.hid R3; have HL3 := Lib.hid (show c'.toList.length = 1 * 30 by rw [Array.length_toList, R3.size]); have OWN := Lib.hid ((own_below HP.out.2.2.1 K3).alloc (.cells c' 40)); have hs3 := K3.size; clear R3)
      | (with_reducible refine step_append_lies _ rfl _ _ 74 rfl B 40 i0 _ 30 336 Try.underlying74 hinf hz0 hz1 hz2 rfl (by decide) (.slice A n cap) n xs rfl OWN.out ⟨w3.heap.size, 0, none⟩ 1 1 c'.toList rfl HL3.out (World.news_of_block (heap_alloc_new _ _)) HR3.out.one (by decide) (by unfold maxLen; omega) (by omega) (by simp at *; omega) _ rfl ?_; intro g' cap' w4 o1 o2 o3 o4; have K9 := HC.out.1 w4 ((o2.block _ (Nat.lt_of_lt_of_le hlw K4.size) (fun e => HF2.out e.symm)).trans (K4.block _ hlw)) ((o2.block _ (Nat.lt_of_lt_of_le hlg K4.size) (fun e => HF1.out e.symm)).trans (K4.block _ hlg)); have f1 : w4.frozen? ⟨bb, p + 2, none⟩ = false := frozen_of_row w4 bb _ _ _ (((o2.block _ (Nat.lt_of_lt_of_le hlg K4.size) (fun e => HF1.out e.symm)).trans (K4.block _ hlg)).trans HP.out.2.2.2.2.1))))
  refine hK.out _ _ ?_ (fun hHeldN => ?_)
  · ((try dsimp only) <;> (first | exact HC.out.2 _ (Below.refl _ _).drew | exact HC.out.2 _ (by assumption) | exact HC.out.2 _ (below_drewN (Below.refl _ _) _) | assumption))
  clear hHeld
  have hHeld := hHeldN
  clear hHeldN
  clear hK K
  try simp only [Act.put, List.setIfInBounds_toArray, List.set_cons_zero, List.set_cons_succ]
  refine Go.Proofs.Phase.wpPh_before (i := 9) (by kernel_rfl) (by simp only [List.getElem?_toArray, List.getElem?_cons_succ, List.getElem?_cons_zero]; rfl) (fun K hK => ?_)
  go_simp
  refine hK.out _ _ ?_ (fun hHeldN => ?_)
  · ((try dsimp only) <;> (first | exact HC.out.2 _ (Below.refl _ _).drew | exact HC.out.2 _ (by assumption) | exact HC.out.2 _ (below_drewN (Below.refl _ _) _) | assumption))
  clear hHeld
  have hHeld := hHeldN
  clear hHeldN
  clear hK K
  try simp only [Act.put, List.setIfInBounds_toArray, List.set_cons_zero, List.set_cons_succ]
  refine Go.Proofs.Phase.wpPh_take' (i := 10) (by simp only [List.getElem?_toArray, List.getElem?_cons_succ, List.getElem?_cons_zero]; rfl) ?_
  refine ⟨?_, ⟨by kernel_rfl, by kernel_rfl, by kernel_rfl, by kernel_rfl⟩, fun _ _ _ h => h, Or.inl ⟨by rfl, ?_⟩, by assumption, ?_⟩
  rotate_left
  · (intro w hSw; (try dsimp only at hSw); go_simp; with_reducible rfl)
  try simp only [Act.put, List.setIfInBounds_toArray, List.set_cons_zero, List.set_cons_succ]
  refine Go.Proofs.Phase.wpPh_behind (i := 11) (by kernel_rfl) (by simp only [List.getElem?_toArray, List.getElem?_cons_succ, List.getElem?_cons_zero]; rfl) (by kernel_rfl) (fun K hK => ?_)
  go_simp
  refine hK.out _ _ ?_
  clear hK K
  try simp only [Act.put, List.setIfInBounds_toArray, List.set_cons_zero, List.set_cons_succ]
  refine Go.Proofs.Phase.wpPh_done (by kernel_rfl) ?_ _
  obtain ⟨hr, hs, hO, hvb, hb, f1', f2', f3, hp, hB'⟩ := HP.out
  have s3 : w.heap.size ≤ w3.heap.size := hs3
  have hal : (w3.alloc (.cells c' 40)).heap.size = w3.heap.size + 1 := by simp
  have s4 := o2.size
  have hg4 : w4.heap[bb]? = some (.cells cur 76 (0, 0)) := ((o2.block _ (Nat.lt_of_lt_of_le hlg K4.size) (fun e => f1' e.symm)).trans (K4.block _ hlg)).trans hb
  have hgg : g' ≠ bb := by
    rintro rfl
    rcases o3 with o3 | o3
    · exact f1' o3
    · omega
  have r0 := HR3.out.mono (ok' := fun b => w.heap.size ≤ b ∧ b < w3.heap.size) fun b hb hp => ⟨hp, hb⟩
  have r1 := ((r0.keep (Kn.of_below ((Below.refl w3.heap.size w3).alloc (Nat.le_refl _) (.cells c' 40)))).keep (Kn.grown o2 fun b hb e => by have := (hvb b e).2; omega)).keep (Kn.setCell w4 bb (p + 2) (.slice (some ⟨g', 0, none⟩) (n + 1) cap') (fun hb => by omega))
  have r2 : RdM (fun b => w.heap.size ≤ b ∧ (Value.slice (some ⟨g', 0, none⟩) (n + 1) cap').ownBlock ≠ some b) (w4.setCell ⟨bb, p + 2, none⟩ (.slice (some ⟨g', 0, none⟩) (n + 1) cap')) c' md := r1.mono fun b _ hp => ⟨hp.1, fun e => by
    have e : g' = b := by simpa [Value.ownBlock] using e
    subst e
    rcases o3 with o3 | o3
    · have := (hvb _ o3).2; omega
    · omega⟩
  have hrow : (w4.setCell ⟨bb, p + 2, none⟩ (.slice (some ⟨g', 0, none⟩) (n + 1) cap')).ownsRow B 40 30 (.slice (some ⟨g', 0, none⟩) (n + 1) cap') (n + 1) (xs ++ c'.toList) := by
    rcases o1.2 with ⟨e, _⟩ | ⟨b, cp, cur, e1, e2, e3, e4⟩
    · cases e
    · refine ⟨o1.1, .inr ⟨b, cp, cur, e1, e2, ?_, e4⟩⟩
      have : b = g' := by injection e1 with e; injection e with e; injection e with e; exact e.symm
      subst this
      exact (heap_setCell_other w4 ⟨bb, p + 2, none⟩ b _ (show b ≠ bb from hgg)).trans e3
  have hfin : PutP B bb p n cur (.slice A n cap) xs md w (.returned (.int .i64 0)) (w4.setCell ⟨bb, p + 2, none⟩ (.slice (some ⟨g', 0, none⟩) (n + 1) cap')) := by
    refine ⟨_, c', rfl, heap_setCell_same w4 bb (p + 2) _ _ _ hg4, hrow, r2, fun k hk hkb hkv => ?_, by simp; omega, fun k hk => ?_, ?_⟩
    · exact (heap_setCell_other w4 ⟨bb, p + 2, none⟩ k _ hkb).trans ((o2.block _ (by omega) (fun e => hkv e.symm)).trans (K4.block _ hk))
    · have e : g' = k := by simpa [Value.ownBlock] using hk
      subst e
      rcases o3 with o3 | o3
      · exact .inl o3
      · exact .inr (by omega)
    · exact ((K4.mono hB).grown o2 (by omega) (fun k hk => (hvb k hk).1)).setCell hBb _
  have HFIN := Lib.hid hfin
  clear hfin r0 r1 r2 hrow hg4 hgg o1 o2 o3 o4 K9 f1 K3 K4 hr hs hO hvb hb f1' f2' f3 hp
  go_wp2_with fail
  go_ret
  exact HFIN.out
end Go.Proofs.Ythahadhdhpcndaa

/- Boxes of the call's own, each mail list too. -/
namespace Go.Proofs.Ythahadhdhpcndaa
open Go Go.RowKit
set_option linter.unusedVariables false
set_option linter.unusedSimpArgs false

/-- A list of mails in a block of its own. -/
structure OwnM (ok : Nat → Prop) (w : World) (v : Value) (mcs : List (Array Value)) (L : List MailD) : Prop where
  len : mcs.length = L.length
  row : w.ownsRow 0 40 30 v L.length (prow mcs)
  own : ∀ k, v.ownBlock = some k → ok k
  sub : ∀ (j : Nat) (c : Array Value) (d : MailD), mcs[j]? = some c → L[j]? = some d → RdM (fun b => ok b ∧ v.ownBlock ≠ some b) w c d
theorem OwnM.keep {ok : Nat → Prop} {w w' : World} {v : Value} {mcs : List (Array Value)} {L : List MailD} (h : OwnM ok w v mcs L) (hk : Kn ok w w') : OwnM ok w' v mcs L := by
  refine ⟨h.len, ⟨h.row.1, ?_⟩, h.own, fun j c d hc hd => (h.sub j c d hc hd).keep (hk.mono' fun b hb => hb.1)⟩
  rcases h.row.2 with h1 | ⟨b, cap, cur, h1, h2, h3, h4⟩
  · exact .inl h1
  · exact .inr ⟨b, cap, cur, h1, h2, (hk.2 b (lt_of_some h3) (h.own b (by rw [h1]; rfl))).trans h3, h4⟩
theorem OwnM.mono {ok ok' : Nat → Prop} {w : World} {v : Value} {mcs : List (Array Value)} {L : List MailD} (h : OwnM ok w v mcs L) (hk : ∀ b, b < w.heap.size → ok b → ok' b) : OwnM ok' w v mcs L := by
  refine ⟨h.len, h.row, fun k hk2 => ?_, fun j c d hc hd => (h.sub j c d hc hd).mono fun b hb hp => ⟨hk b hb hp.1, hp.2⟩⟩
  refine hk k ?_ (h.own k hk2)
  rcases h.row.2 with ⟨z, _⟩ | ⟨b, cp, cur, z1, z2, z3, _⟩
  · rw [z] at hk2; cases hk2
  · rw [z1] at hk2
    obtain rfl : b = k := by simpa [Value.ownBlock] using hk2
    exact lt_of_some z3
theorem OwnM.of {B : Nat} {w : World} {v : Value} {mcs : List (Array Value)} {L : List MailD} (h : elemM.Own 40 B w v mcs L) : OwnM (B ≤ ·) w v mcs L :=
  ⟨h.len, (h.lower (Nat.zero_le B)).row, fun k hk => (h.vb k hk).1, h.sub⟩
theorem OwnM.slice {ok : Nat → Prop} {w : World} {v : Value} {mcs : List (Array Value)} {L : List MailD} (h : OwnM ok w v mcs L) : ∃ A c, v = .slice A L.length c := by
  rcases h.row.2 with ⟨h1, h2⟩ | ⟨b, cap, cur, h1, _⟩
  · exact ⟨none, 0, by rw [h1, h2]⟩
  · exact ⟨_, _, h1⟩
theorem OwnM.rdL {ok : Nat → Prop} {w : World} {v : Value} {mcs : List (Array Value)} {L : List MailD} (h : OwnM ok w v mcs L) : elemM.RdL ok w v L := by
  have hO : elemM.Own 40 0 w v mcs L := ⟨h.len, h.row, fun j c d hc hd => (h.sub j c d hc hd).mono fun b _ hp => ⟨Nat.zero_le _, hp.2⟩⟩
  obtain ⟨A, c, rfl⟩ := h.slice
  refine ⟨A, _, c, rfl, rfl, ?_, fun hp => ?_⟩
  · rintro rfl
    rcases h.row.2 with ⟨h1, h2⟩ | ⟨b, cap, cur, h1, _⟩
    · exact ⟨h2, by injection h1⟩
    · cases h1
  · obtain ⟨b, cap, cur, _, e, hB, hb, _⟩ := hO.at hp
    injection e with e
    subst e
    refine ⟨b, 0, cur, 40, (0, 0), rfl, h.own b rfl, hb, fun i d hd => ?_⟩
    have hi := (List.getElem?_eq_some_iff.1 hd).1
    obtain ⟨b', cap', cur', c', e, _, hb', hc, hf, hx⟩ := hO.at hi
    injection e with e
    injection e with e
    injection e with e
    subst e
    rw [hb] at hb'
    injection hb' with hb'
    injection hb' with hb'
    subst hb'
    rw [Nat.zero_add, hx]
    exact ⟨hf, (h.sub i c' d hc hd).mono fun _ _ hp => hp.1⟩
def RdBO (ok : Nat → Prop) (w : World) (cs : Array Value) (x : BoxD) : Prop := ∃ v mcs, cs = x.cs v ∧ OwnM ok w v mcs x.m
def elemBO : Elem BoxD := ⟨4, by decide, RdBO, fun ⟨v, m, h1, h2⟩ hk => ⟨v, m, h1, h2.keep hk⟩, fun ⟨v, m, h1, h2⟩ hk => ⟨v, m, h1, h2.mono hk⟩, fun ⟨v, m, h1, h2⟩ => by subst h1; rfl, fun ⟨v, m, h1, h2⟩ => by
  subst h1
  obtain ⟨_, _, rfl⟩ := h2.slice
  simp [BoxD.cs, Value.oneCell']⟩
theorem RdBO.rdB {ok : Nat → Prop} {w : World} {cs : Array Value} {x : BoxD} (h : RdBO ok w cs x) : RdB ok w cs x := by
  obtain ⟨v, m, h1, h2⟩ := h
  exact ⟨v, h1, h2.rdL⟩
section
variable {D : Type} (E : Elem D)
/-- A list of the call's own, what is in each element apart from what is in the others. -/
structure Elem.OwnS (t : TypeId) (B : Nat) (w : World) (v : Value) (cs : List (Array Value)) (L : List D) (f : Nat → Nat) : Prop where
  len : cs.length = L.length
  row : w.ownsRow B t E.sz v L.length (prow cs)
  mono : ∀ j, j < L.length → f j ≤ f (j + 1)
  lo : B ≤ f 0
  hi : f L.length ≤ w.heap.size
  sub : ∀ (j : Nat) (c : Array Value) (d : D), cs[j]? = some c → L[j]? = some d → E.Rd (fun b => (f j ≤ b ∧ b < f (j + 1)) ∧ v.ownBlock ≠ some b) w c d
variable {E}
theorem Elem.OwnS.nil (t : TypeId) (w : World) : E.OwnS t w.heap.size w (.slice none 0 0) [] [] (fun _ => w.heap.size) := ⟨rfl, by simp [prow]; exact World.ownsRow_nil _ _ _ _, (fun _ _ => Nat.le_refl _), Nat.le_refl _, Nat.le_refl _, fun j c d hc => by simp at hc⟩
theorem Elem.OwnS.le {t : TypeId} {B : Nat} {w : World} {v : Value} {cs : List (Array Value)} {L : List D} {f : Nat → Nat} (h : E.OwnS t B w v cs L f) (i : Nat) : ∀ j, i ≤ j → j ≤ L.length → f i ≤ f j := by
  intro j
  induction j with
  | zero => intro h1 _; obtain rfl : i = 0 := by omega
            exact Nat.le_refl _
  | succ j ih =>
    intro h1 h2
    by_cases hij : i = j + 1
    · subst hij; exact Nat.le_refl _
    · exact Nat.le_trans (ih (by omega) (by omega)) (h.mono j (by omega))
theorem Elem.OwnS.own {t : TypeId} {B : Nat} {w : World} {v : Value} {cs : List (Array Value)} {L : List D} {f : Nat → Nat} (h : E.OwnS t B w v cs L f) : E.Own t B w v cs L :=
  ⟨h.len, h.row, fun j c d hc hd => E.mono (h.sub j c d hc hd) fun b _ hp => ⟨by
    have h1 := h.le 0 j (Nat.zero_le _) (Nat.le_of_lt (List.getElem?_eq_some_iff.1 hd).1)
    have := h.lo
    omega, hp.2⟩⟩
theorem Elem.OwnS.below {t : TypeId} {B : Nat} {w w' : World} {v : Value} {cs : List (Array Value)} {L : List D} {f : Nat → Nat} (h : E.OwnS t B w v cs L f) (hb : Below w.heap.size w w') : E.OwnS t B w' v cs L f :=
  ⟨h.len, own_below h.row hb, h.mono, h.lo, Nat.le_trans h.hi hb.size, fun j c d hc hd => E.keep (h.sub j c d hc hd) (Kn.of_below hb)⟩
theorem Elem.OwnS.slice {t : TypeId} {B : Nat} {w : World} {v : Value} {cs : List (Array Value)} {L : List D} {f : Nat → Nat} (h : E.OwnS t B w v cs L f) : ∃ A c, v = .slice A L.length c := h.own.slice
theorem Elem.OwnS.push {t : TypeId} {B g cap : Nat} {wr w2 w3 : World} {v : Value} {cs : List (Array Value)} {L : List D} {f : Nat → Nat} {c' : Array Value} {d : D} {o : Obj} (h : E.OwnS t B wr v cs L f) (hB0 : B ≤ wr.heap.size) (hB : Below wr.heap.size wr w2) (hR : E.Rd (wr.heap.size ≤ ·) w2 c' d)
    (o1 : w3.ownsRow B t E.sz (.slice (some ⟨g, 0, none⟩) (L.length + 1) cap) (L.length + 1) (prow cs ++ c'.toList)) (o2 : (w2.alloc o).grownBy w3 v.ownBlock) (o3 : v.ownBlock = some g ∨ g = w2.heap.size + 1) :
    E.OwnS t B w3 (.slice (some ⟨g, 0, none⟩) (L.length + 1) cap) (cs ++ [c']) (L ++ [d]) (fun j => if j ≤ L.length then f j else w2.heap.size) ∧ Below B wr w3 := by
  have hb3 : Below wr.heap.size wr (w2.alloc o) := hB.alloc hB.size _
  have s2 := hB.size
  have hal : (w2.alloc o).heap.size = w2.heap.size + 1 := by simp
  have s3 := o2.size
  have hvb := h.own.vb
  have hhi := h.hi
  refine ⟨⟨by simp [h.len], by rw [List.length_append, List.length_singleton, prow_snoc]; exact o1, fun j hj => ?_, ?_, ?_, fun j c0 d0 hc hd => ?_⟩, (hb3.mono hB0).grown o2 (by omega) (fun k hk => (hvb k hk).1)⟩
  · simp only [List.length_append, List.length_singleton] at hj
    by_cases hjl : j < L.length
    · rw [if_pos (by omega), if_pos (by omega)]
      exact h.mono j hjl
    · obtain rfl : j = L.length := by omega
      rw [if_pos (by omega), if_neg (by omega)]
      omega
  · rw [if_pos (Nat.zero_le _)]
    exact h.lo
  · rw [List.length_append, List.length_singleton, if_neg (by omega)]
    omega
  · by_cases hj : j < cs.length
    · rw [List.getElem?_append_left hj] at hc
      rw [List.getElem?_append_left (by have := h.len; omega)] at hd
      have r0 := E.mono (ok' := fun b => ((f j ≤ b ∧ b < f (j + 1)) ∧ v.ownBlock ≠ some b) ∧ b < wr.heap.size) (h.sub j c0 d0 hc hd) fun b hb hp => ⟨hp, hb⟩
      have r1 := E.keep (E.keep r0 (Kn.of_below hb3)) (Kn.grown o2 fun b hb => hb.1.2)
      refine E.mono r1 fun b _ hp => ⟨?_, fun e => ?_⟩
      · have hl := h.len
        rw [if_pos (by omega), if_pos (by omega)]
        exact hp.1.1
      · have e : g = b := by simpa [Value.ownBlock] using e
        subst e
        rcases o3 with o3 | o3
        · exact hp.1.2 o3
        · omega
    · have hjl : j = cs.length := by
        have := (List.getElem?_eq_some_iff.1 hc).1
        simp at this; omega
      subst hjl
      rw [List.getElem?_append_right (Nat.le_refl _)] at hc
      rw [h.len, List.getElem?_append_right (Nat.le_refl _)] at hd
      have e1 : c' = c0 := by simpa using hc
      have e2 : d = d0 := by simpa using hd
      subst e1 e2
      have r0 := E.mono (ok' := fun b => wr.heap.size ≤ b ∧ b < w2.heap.size) hR fun b hb hp => ⟨hp, hb⟩
      have r1 := E.keep (E.keep r0 (Kn.of_below ((Below.refl w2.heap.size w2).alloc (Nat.le_refl _) o))) (Kn.grown o2 fun b hb e => by have := (hvb b e).2; omega)
      refine E.mono r1 fun b _ hp => ⟨?_, fun e => ?_⟩
      · rw [h.len, if_pos (Nat.le_refl _), if_neg (by omega)]
        omega
      · have e : g = b := by simpa [Value.ownBlock] using e
        subst e
        rcases o3 with o3 | o3
        · have := (hvb _ o3).2; omega
        · omega
end
set_option maxHeartbeats 1000000 in
set_option maxRecDepth 100000 in
theorem box77S {ok : Nat → Prop} (cs : Array Value) (d : BoxD) (w : World) (h : RdB ok w cs d) (hs : d.m.length ≤ 1000000 ∧ ∀ x ∈ d.m, SzM x) :
    Calls Try.prog 77 #[.agg cs] w fun e w' => ∃ cs', e = .returned (.agg cs') ∧ RdBO (w.heap.size ≤ ·) w' cs' d ∧ Below w.heap.size w w' := by
  obtain ⟨v, rfl, h⟩ := h
  obtain ⟨A, c, rfl⟩ := h.slice
  obtain ⟨dd, do_, dm, dn⟩ := d
  dsimp only [BoxD.cs] at *
  have hb1 : Below w.heap.size w (w.alloc (.cells #[.int .i64 dd, .bool do_, .slice A dm.length c, .int .i64 dn] 76)) := (Below.refl _ _).alloc (Nat.le_refl _) _
  have hb2 : Below w.heap.size w ((w.alloc (.cells #[.int .i64 dd, .bool do_, .slice A dm.length c, .int .i64 dn] 76)).alloc (.cells #[.int .i64 0, .bool false, .slice none 0 0, .int .i64 0] 76)) := hb1.alloc (by simp) _
  have M := each78 (.slice A dm.length c) dm _ (h.keep (Kn.of_below hb2)) hs.1 hs.2
  have x1 : ((w.alloc (.cells #[.int .i64 dd, .bool do_, .slice A dm.length c, .int .i64 dn] 76)).alloc (.cells #[.int .i64 0, .bool false, .slice none 0 0, .int .i64 0] 76)).heap[w.heap.size]? = some (.cells #[.int .i64 dd, .bool do_, .slice A dm.length c, .int .i64 dn] 76 (0, 0)) := heap_alloc2_old w _ _
  have x2 : ((w.alloc (.cells #[.int .i64 dd, .bool do_, .slice A dm.length c, .int .i64 dn] 76)).alloc (.cells #[.int .i64 0, .bool false, .slice none 0 0, .int .i64 0] 76)).heap[w.heap.size + 1]? = some (.cells #[.int .i64 0, .bool false, .slice none 0 0, .int .i64 0] 76 (0, 0)) := heap_alloc2_new w _ _
  have HB2 := Lib.hid hb2
  have HX := Lib.hid (And.intro x1 x2)
  clear h hb1 hb2 x1 x2 hs
  go_enter Try.func77, Try.ntmps77
  go_wp2_with fail
  refine M.mono ?_
  rintro e w2 ⟨v', cs', rfl, O', B'⟩
  obtain ⟨A', c', rfl⟩ := O'.slice
  have y1 := (B'.block _ (lt_of_some HX.out.1)).trans HX.out.1
  have y2 := (B'.block _ (lt_of_some HX.out.2)).trans HX.out.2
  have f3 : w2.frozen? ⟨w.heap.size, 2, none⟩ = false := frozen_of_row w2 _ 2 _ _ y1
  have q3 : w2.cell? ⟨w.heap.size, 2, none⟩ = some (.slice A dm.length c) := by rw [cell_of_row w2 _ 2 _ _ _ y1]; rfl
  have z1 : (w2.setCell ⟨w.heap.size, 2, none⟩ (.slice A' dm.length c')).heap[w.heap.size]? = some (.cells #[.int .i64 dd, .bool do_, .slice A' dm.length c', .int .i64 dn] 76 (0, 0)) := heap_setCell_same w2 w.heap.size 2 _ _ (.slice A' dm.length c') y1
  have z2 : (w2.setCell ⟨w.heap.size, 2, none⟩ (.slice A' dm.length c')).heap[w.heap.size + 1]? = some (.cells #[.int .i64 0, .bool false, .slice none 0 0, .int .i64 0] 76 (0, 0)) := (heap_setCell_other w2 ⟨w.heap.size, 2, none⟩ (w.heap.size + 1) (.slice A' dm.length c') (show w.heap.size + 1 ≠ w.heap.size by omega)).trans y2
  have HR := Lib.hid (OwnM.of O')
  have HB' := Lib.hid (HB2.out.trans (B'.mono HB2.out.size))
  have hz : w.heap.size + 1 < w2.heap.size := lt_of_some y2
  have HZ := Lib.hid (And.intro z1 z2)
  clear M O' B' y1 y2 z1 z2
  go_wp2_with (first | (with_reducible refine wpList_load_row rfl 76 _ rfl _ rfl 76 _ _ _ HZ.out.1 Try.underlying76 rfl (by kernel_rfl) ?_) | (with_reducible refine wpList_store_part rfl 76 _ _ rfl rfl _ 0 4 rfl 76 _ _ rfl HZ.out.2 (by kernel_rfl) rfl (by simp) (by simp [Value.oneCell']) ?_))
  have hfin : ((w2.setCell ⟨w.heap.size, 2, none⟩ (.slice A' dm.length c')).setRow (w.heap.size + 1) (over #[.int .i64 0, .bool false, .slice none 0 0, .int .i64 0] 0 #[.int .i64 dd, .bool do_, .slice A' dm.length c', .int .i64 dn])).heap[w.heap.size + 1]? = some (.cells #[.int .i64 dd, .bool do_, .slice A' dm.length c', .int .i64 dn] 76 (0, 0)) := by
    exact (setRow_same HZ.out.2).trans (congrArg (fun z => some (Obj.cells z 76 (0, 0))) (over_full (by rfl)))
  refine bodyPost_ret (v := .agg #[.int .i64 dd, .bool do_, .slice A' dm.length c', .int .i64 dn]) (results_cell_row Try.results77 _ _ _ _ _ _ _ rfl hfin Try.underlying76 rfl (by kernel_rfl)) rfl ⟨_, rfl, ?_, ?_⟩
  · have h5 : OwnM (w.heap.size + 2 ≤ ·) w2 (.slice A' dm.length c') cs' dm := HR.out.mono fun b _ hb => by simpa using hb
    exact ⟨_, _, rfl, ((h5.keep (Kn.setCell _ _ _ _ (by omega))).keep (Kn.setRow _ _ _ (by omega))).mono fun b _ hb => by omega⟩
  · exact below_setRow (HB'.out.setCell (Nat.le_refl _) _) (by omega)
set_option maxHeartbeats 4000000 in
set_option maxRecDepth 100000 in
theorem each76S {ok : Nat → Prop} (v : Value) (L : List BoxD) (w : World) (h : elemB.RdL ok w v L) (hs : L.length ≤ 1000000) (hS : ∀ d ∈ L, d.m.length ≤ 1000000 ∧ ∀ x ∈ d.m, SzM x) :
    Calls Try.prog 76 #[v, .func (.func 77) #[] #[]] w fun e w' => ∃ v' cs' f, e = .returned v' ∧ elemBO.OwnS 76 w.heap.size w' v' cs' L f ∧ Below w.heap.size w w' := by
  obtain ⟨A, n, c, rfl, rfl, h2, h3⟩ := h
  have H0 : Hid (∃ cs f, elemBO.OwnS 76 w.heap.size w (.slice none 0 0) cs (L.take 0) f ∧ Below w.heap.size w w) := Lib.hid ⟨[], fun _ => w.heap.size, by simpa using Elem.OwnS.nil (E := elemBO) 76 w, Below.refl _ _⟩
  have HS := Lib.hid (And.intro hs (And.intro hS h3))
  obtain ⟨z44, hz44⟩ : ∃ z : Array Value, z = #[.int .i64 0, .bool false, .slice none 0 0, .int .i64 0] := ⟨_, rfl⟩
  have hzs : z44.size = 4 := by rw [hz44]; rfl
  have HZ := Lib.hid (And.intro hz44 hzs)
  clear h2 h3 hS hs hz44 hzs
  go_enter Try.func76, Try.ntmps76
  go_wp2
  go_loopg [5, 10] L.length (fun k v5 v10 wr => ∃ i : Nat, v10 = .int .i64 (i : Int) ∧ i + k = L.length ∧ Hid (∃ cs f, elemBO.OwnS 76 w.heap.size wr v5 cs (L.take i) f ∧ Below w.heap.size w wr))
  case atStart => exact ⟨0, rfl, by simp, H0⟩
  case round =>
    clear H0
    obtain ⟨i, rfl, hik, HE⟩ := hrel
    have hst := HS.out.1
    obtain ⟨cs, f, hE, hB⟩ := HE.out
    have hsl := hE.slice
    rw [List.length_take, Nat.min_eq_left (by omega)] at hsl
    obtain ⟨A5, c5, rfl⟩ := hsl
    by_cases hi : i < L.length
    · obtain ⟨d, hd⟩ : ∃ d, L[i]? = some d := ⟨L[i], List.getElem?_eq_getElem hi⟩
      obtain ⟨b, o, cur, tt, fr, rfl, p1, p2, p3⟩ := HS.out.2.2 (by omega)
      obtain ⟨p4, p5⟩ := p3 i d hd
      change o + i * 4 + 4 ≤ cur.size at p4
      change elemB.Rd ok w (cur.extract (o + i * 4) (o + i * 4 + 4)) d at p5
      generalize hx : cur.extract (o + i * 4) (o + i * 4 + 4) = c0 at p5
      have hbr := (hB.block b (lt_of_some p2)).trans p2
      obtain ⟨W3, hW3⟩ : ∃ W3, W3 = (wr.alloc (.cells z44 76)).setRow wr.heap.size (over z44 0 c0) := ⟨_, rfl⟩
      have x1 : (wr.alloc (.cells z44 76)).heap[wr.heap.size]? = some (.cells z44 76 (0, 0)) := heap_alloc_new wr _
      have hb1 : Below wr.heap.size wr W3 := by rw [hW3]; exact below_setRow ((Below.refl _ _).alloc (Nat.le_refl _) _) (Nat.le_refl _)
      have hcs := elemB.size p5
      have hco := elemB.one p5
      change c0.size = 4 at hcs
      have y1 : W3.heap[wr.heap.size]? = some (.cells c0 76 (0, 0)) := by
        rw [hW3]
        exact (setRow_same x1).trans (congrArg (fun z => some (Obj.cells z 76 (0, 0))) (over_full (by rw [HZ.out.2, hcs])))
      have M := box77S c0 d W3 (elemB.keep (elemB.keep p5 (Kn.of_below hB)) (Kn.of_below hb1)) (HS.out.2.1 d (List.mem_of_getElem? hd))
      have HX := Lib.hid (And.intro hbr (And.intro p4 (And.intro hx (And.intro x1 (And.intro y1 (And.intro hcs hco))))))
      have HD := Lib.hid hd
      have HW3 := Lib.hid hW3
      have HV := Lib.hid (And.intro hE (And.intro hB hb1))
      have HI := Lib.hid hi
      have i1 : (0 : Int) ≤ (i : Int) := by omega
      have i2 : (i : Int) < (L.length : Int) := by omega
      clear p1 p2 p3 p4 p5 hx hbr x1 y1 hcs hco hE hB hd hW3 hb1
      go_wp2_with (first | (with_reducible refine wpList_load_part' rfl 76 _ rfl b (o + i * 4) 4 rfl _ cur _ _ HX.out.1 Try.underlying76 rfl cells76 HX.out.2.1 c0 HX.out.2.2.1 ?_) | (rw [← HZ.out.1]; with_reducible refine wpList_store_part rfl 76 _ _ rfl rfl _ 0 4 rfl 76 _ _ rfl HX.out.2.2.2.1 cells76 HX.out.2.2.2.2.2.1 (by rw [HZ.out.2]; decide) HX.out.2.2.2.2.2.2 ?_; rw [← HW3.out]) | (with_reducible refine wpList_load_row rfl 76 _ rfl _ rfl 76 _ _ _ HX.out.2.2.2.2.1 Try.underlying76 rfl (by rw [cells76, HX.out.2.2.2.2.2.1]) ?_))
      refine M.mono ?_
      rintro e w2 ⟨c', rfl, R', B'⟩
      have hb2 : Below wr.heap.size wr w2 := HV.out.2.2.trans (B'.mono HV.out.2.2.size)
      have hR1 := elemBO.mono (ok' := fun b => wr.heap.size ≤ b) R' fun b _ hb => Nat.le_trans HV.out.2.2.size hb
      have hsz1 : c'.size = 4 := elemBO.size R'
      have HR := Lib.hid (And.intro hR1 (And.intro hb2 (And.intro hsz1 (elemBO.one R'))))
      clear hsz1
      have hO := (HV.out.1.below hb2).row.alloc (.cells c' 76)
      rw [List.length_take, Nat.min_eq_left (by have := HI.out; omega)] at hO
      have HO := Lib.hid (And.intro hO (Nat.le_trans HV.out.2.1.size hb2.size))
      obtain ⟨i0, hinf, hz0, hz1, hz2⟩ := info_parts info76
      clear M R' B' hb2 hR1 hO
      go_wp2_with (first | (with_reducible refine wpList_buildSlice_one rfl 67 76 _ rfl 4 _ i0 Try.underlying67 hinf hz0 hz1 rfl c' rfl HR.out.2.2.1 (by decide) (by decide) ?_) | (at_builtin; refine wpList_append_lies _ rfl _ _ 67 rfl w.heap.size 76 i0 _ 4 48 Try.underlying67 hinf hz0 hz1 hz2 rfl (by decide) (.slice A5 i c5) i _ rfl HO.out.1 ⟨w2.heap.size, 0, none⟩ 1 1 c'.toList rfl (by rw [Array.length_toList]; exact HR.out.2.2.1) (World.news_of_block (heap_alloc_new _ _)) HR.out.2.2.2 (by decide) (by unfold maxLen; omega) (by omega) (by have := HO.out.2; simp; omega) (w2.heap.size + 1) (by simp) ?_))
      intro g cap w3 o1 o2 o3 _
      have HN : Hid (∃ cs f, elemBO.OwnS 76 w.heap.size w3 (.slice (some ⟨g, 0, none⟩) (i + 1) cap) cs (L.take (i + 1)) f ∧ Below w.heap.size w w3) := by
        have hp := Elem.OwnS.push (d := d) (g := g) (cap := cap) (w3 := w3) (o := .cells c' 76) HV.out.1 HV.out.2.1.size HR.out.2.1 HR.out.1 (by rw [List.length_take, Nat.min_eq_left (by have := HI.out; omega)]; exact o1) o2 o3
        have e : L.take (i + 1) = L.take i ++ [d] := by rw [List.take_add_one, HD.out]; rfl
        rw [List.length_take, Nat.min_eq_left (by have := HI.out; omega)] at hp
        rw [e]
        exact Lib.hid ⟨_, _, hp.1, HV.out.2.1.trans hp.2⟩
      clear o1 o2 o3 hinf hz0 hz1 hz2
      go_wp2_with fail
      go_roundg (L.length - (i + 1))
      case measure => have := HI.out; omega
      case rel => exact ⟨i + 1, by simp, by have := HI.out; omega, HN⟩
    · obtain rfl : i = L.length := by omega
      clear hi hE hB
      go_wp2
      go_ret
      obtain ⟨cs, f, hE, hB⟩ := HE.out
      rw [List.take_length] at hE
      exact ⟨_, cs, f, rfl, hE, hB⟩
set_option maxHeartbeats 1000000 in
theorem boxes62S {ok : Nat → Prop} (v : Value) (L : List BoxD) (w : World) (h : elemB.RdL ok w v L) (hs : L.length ≤ 1000000) (hS : ∀ d ∈ L, SzB d) :
    Calls Try.prog 62 #[v] w fun e w' => ∃ v' cs' f, e = .returned v' ∧ elemBO.OwnS 76 w.heap.size w' v' cs' L f ∧ Below w.heap.size w w' := by
  have M := each76S v L w h hs hS
  obtain ⟨A, c, rfl⟩ := h.slice
  clear h hs hS
  go_enter Try.func62, Try.ntmps62
  go_wp2_with fail
  refine M.mono ?_
  rintro e w2 ⟨v', cs', f, rfl, hO, hB⟩
  obtain ⟨A', c', rfl⟩ := hO.slice
  have H := Lib.hid (And.intro hO hB)
  clear M hO hB
  go_wp2_with fail
  go_ret
  exact ⟨_, cs', f, rfl, H.out.1, H.out.2⟩
end Go.Proofs.Ythahadhdhpcndaa

/- post.turn. -/
namespace Go.Proofs.Ythahadhdhpcndaa
open Go Go.RowKit
set_option linter.unusedVariables false
set_option linter.unusedSimpArgs false

/-- What turn hands on: the boxes, copied, and where the box lies. -/
structure TurnQ (L : List BoxD) (dev : Int) (w w4 : World) (i : Nat) (d : BoxD) (v4 : Value) (cs4 : List (Array Value)) (f : Nat → Nat) (B b4 : Nat) (cur4 x4 : Array Value) : Prop where
  hc : chk 0 L = true
  hd : L[i]? = some d
  hde : d.d = dev
  below : Below w.heap.size w w4
  own : elemBO.OwnS 76 B w4 v4 cs4 L f
  lo : w.heap.size ≤ B
  blk : v4.ownBlock = some b4
  hB : B ≤ b4
  cur : w4.heap[b4]? = some (.cells cur4 76 (0, 0))
  hx : cs4[i]? = some x4
  fits : i * 4 + 4 ≤ cur4.size
  ext : cur4.extract (i * 4) (i * 4 + 4) = x4
/-- What turn answers. -/
structure TurnP (L : List BoxD) (dev : Int) (w : World) (G : Nat → BoxD → Value → Int → World → Prop) (e : Ending) (w' : World) : Prop where
  out : (chk 0 L = false ∧ e = .returned (.tuple #[.slice none 0 0, .int .i64 1]) ∧ Below w.heap.size w w') ∨
    (chk 0 L = true ∧ (∀ d ∈ L, d.d ≠ dev) ∧ e = .returned (.tuple #[.slice none 0 0, .int .i64 7]) ∧ Below w.heap.size w w') ∨
    (chk 0 L = true ∧ ∃ i d v4 code, L[i]? = some d ∧ d.d = dev ∧ e = .returned (.tuple #[if code = 0 then v4 else .slice none 0 0, .int .i64 code]) ∧ G i d v4 code w')
set_option maxHeartbeats 4000000 in
set_option maxRecDepth 100000 in
theorem turn46_49 {ok : Nat → Prop} (v : Value) (L : List BoxD) (dev : Int) (w : World) (h : elemB.RdL ok w v L) (hL : L.length ≤ 1000000) (hS : ∀ d ∈ L, SzB d) (hdev : -9223372036854775808 ≤ dev ∧ dev ≤ 9223372036854775807)
    (G : Nat → BoxD → Value → Int → World → Prop) (hF : ∀ w4 i d v4 cs4 f B b4 cur4 x4, TurnQ L dev w w4 i d v4 cs4 f B b4 cur4 x4 → Calls Try.prog 49 #[.pointer (some ⟨b4, i * 4, none⟩)] w4 fun e w' => ∃ code, e = .returned (.int .i64 code) ∧ G i d v4 code w') :
    Calls Try.prog 46 #[v, .int .i64 dev, .func (.func 49) #[] #[]] w fun e w' => TurnP L dev w G e w' := by
  have M1 := check29 v L w h (by omega)
  obtain ⟨A, c, rfl⟩ := h.slice
  have HH := Lib.hid (And.intro h hS)
  clear h hS
  go_enter Try.func46, Try.ntmps46
  go_wp2_with fail
  refine M1.mono ?_
  rintro e w2 ⟨hC, B2⟩
  have hC := hC.out
  cases hc : chk 0 L with
  | false =>
    rw [hc] at hC
    subst hC
    have HB := Lib.hid (And.intro hc B2)
    clear M1 B2 hc
    go_wp2_with fail
    go_ret2
    exact ⟨.inl ⟨HB.out.1, rfl, HB.out.2⟩⟩
  | true =>
    rw [hc, if_pos rfl] at hC
    subst hC
    have HC := Lib.hid hc
    have M2 := place54 (.slice A L.length c) L dev w2 (HH.out.1.keep (Kn.of_below B2)) (by omega) hc hdev
    have HB2 := Lib.hid B2
    clear M1 B2 hc
    go_wp2_with fail
    refine M2.mono ?_
    rintro e w3 ⟨hP, B3⟩
    obtain ⟨i, b, rfl, h1, h2, h3, -⟩ := hP.out
    have HB3 := Lib.hid (HB2.out.trans (B3.mono HB2.out.size))
    have HP := Lib.hid (And.intro h1 (And.intro h2 h3))
    clear M2 B3 hP h1 h2 h3
    cases b with
    | false =>
      have hno : ∀ d ∈ L, d.d ≠ dev := fun d hd he => by
        obtain ⟨j, hj, hjd⟩ := List.getElem_of_mem hd
        have hjs : L[j]? = some d := by rw [List.getElem?_eq_getElem hj, hjd]
        obtain rfl := HP.out.2.2 j d hjs he
        have := HP.out.2.1.2 ⟨d, hjs, he⟩
        cases this
      have HN := Lib.hid hno
      clear hno
      go_wp2_with fail
      go_ret2
      exact ⟨.inr (.inl ⟨HC.out, HN.out, rfl, HB3.out⟩)⟩
    | true =>
      obtain ⟨d, hd, hde⟩ := HP.out.2.1.1 rfl
      have M3 := boxes62S (.slice A L.length c) L w3 (HH.out.1.keep (Kn.of_below HB3.out)) hL HH.out.2
      have HD := Lib.hid (And.intro hd hde)
      clear hd hde
      go_wp2_with fail
      refine M3.mono ?_
      rintro e w4 ⟨v4, cs4, f, rfl, hO, B4⟩
      obtain ⟨A4, c4, rfl⟩ := hO.slice
      have hi : i < L.length := (List.getElem?_eq_some_iff.1 HD.out.1).1
      obtain ⟨b4, cap4, cur4, x4, hs4, hbb, hcur, hx, hf, hex⟩ := hO.own.at hi
      injection hs4 with e1 _ e2
      subst e1 e2
      have MF := hF w4 i d (.slice (some ⟨b4, 0, none⟩) L.length c4) cs4 f w3.heap.size b4 cur4 x4 ⟨HC.out, HD.out.1, HD.out.2, HB3.out.trans (B4.mono HB3.out.size), hO, HB3.out.size, rfl, hbb, hcur, hx, hf, hex⟩
      have i1 : (0 : Int) ≤ (i : Int) := by omega
      have i2 : (i : Int) < (L.length : Int) := by omega
      clear M3 hO hbb hcur hx hf hex B4 hF
      go_wp2_with fail
      refine MF.mono ?_
      rintro e w5 ⟨code, rfl, hG⟩
      have HG := Lib.hid hG
      clear MF hG
      by_cases h0 : code = 0
      · subst h0
        go_wp2_with fail
        go_ret2
        exact ⟨.inr (.inr ⟨HC.out, i, d, _, 0, HD.out.1, HD.out.2, rfl, HG.out⟩)⟩
      · have t1 : (code != 0) = true := by simpa using h0
        have HZ := Lib.hid h0
        clear h0
        go_wp2_with fail
        go_ret2
        exact ⟨.inr (.inr ⟨HC.out, i, d, _, code, HD.out.1, HD.out.2, by rw [if_neg HZ.out]; rfl, HG.out⟩)⟩
set_option maxHeartbeats 4000000 in
set_option maxRecDepth 100000 in
theorem turn46_47 {ok : Nat → Prop} (q : Value) (v : Value) (L : List BoxD) (dev : Int) (w : World) (h : elemB.RdL ok w v L) (hL : L.length ≤ 1000000) (hS : ∀ d ∈ L, SzB d) (hdev : -9223372036854775808 ≤ dev ∧ dev ≤ 9223372036854775807)
    (G : Nat → BoxD → Value → Int → World → Prop) (hF : ∀ w4 i d v4 cs4 f B b4 cur4 x4, TurnQ L dev w w4 i d v4 cs4 f B b4 cur4 x4 → Calls Try.prog 47 #[.pointer (some ⟨b4, i * 4, none⟩), q] w4 fun e w' => ∃ code, e = .returned (.int .i64 code) ∧ G i d v4 code w') :
    Calls Try.prog 46 #[v, .int .i64 dev, .func (.func 47) #[] #[q]] w fun e w' => TurnP L dev w G e w' := by
  have M1 := check29 v L w h (by omega)
  obtain ⟨A, c, rfl⟩ := h.slice
  have HH := Lib.hid (And.intro h hS)
  clear h hS
  go_enter Try.func46, Try.ntmps46
  go_wp2_with fail
  refine M1.mono ?_
  rintro e w2 ⟨hC, B2⟩
  have hC := hC.out
  cases hc : chk 0 L with
  | false =>
    rw [hc] at hC
    subst hC
    have HB := Lib.hid (And.intro hc B2)
    clear M1 B2 hc
    go_wp2_with fail
    go_ret2
    exact ⟨.inl ⟨HB.out.1, rfl, HB.out.2⟩⟩
  | true =>
    rw [hc, if_pos rfl] at hC
    subst hC
    have HC := Lib.hid hc
    have M2 := place54 (.slice A L.length c) L dev w2 (HH.out.1.keep (Kn.of_below B2)) (by omega) hc hdev
    have HB2 := Lib.hid B2
    clear M1 B2 hc
    go_wp2_with fail
    refine M2.mono ?_
    rintro e w3 ⟨hP, B3⟩
    obtain ⟨i, b, rfl, h1, h2, h3, -⟩ := hP.out
    have HB3 := Lib.hid (HB2.out.trans (B3.mono HB2.out.size))
    have HP := Lib.hid (And.intro h1 (And.intro h2 h3))
    clear M2 B3 hP h1 h2 h3
    cases b with
    | false =>
      have hno : ∀ d ∈ L, d.d ≠ dev := fun d hd he => by
        obtain ⟨j, hj, hjd⟩ := List.getElem_of_mem hd
        have hjs : L[j]? = some d := by rw [List.getElem?_eq_getElem hj, hjd]
        obtain rfl := HP.out.2.2 j d hjs he
        have := HP.out.2.1.2 ⟨d, hjs, he⟩
        cases this
      have HN := Lib.hid hno
      clear hno
      go_wp2_with fail
      go_ret2
      exact ⟨.inr (.inl ⟨HC.out, HN.out, rfl, HB3.out⟩)⟩
    | true =>
      obtain ⟨d, hd, hde⟩ := HP.out.2.1.1 rfl
      have M3 := boxes62S (.slice A L.length c) L w3 (HH.out.1.keep (Kn.of_below HB3.out)) hL HH.out.2
      have HD := Lib.hid (And.intro hd hde)
      clear hd hde
      go_wp2_with fail
      refine M3.mono ?_
      rintro e w4 ⟨v4, cs4, f, rfl, hO, B4⟩
      obtain ⟨A4, c4, rfl⟩ := hO.slice
      have hi : i < L.length := (List.getElem?_eq_some_iff.1 HD.out.1).1
      obtain ⟨b4, cap4, cur4, x4, hs4, hbb, hcur, hx, hf, hex⟩ := hO.own.at hi
      injection hs4 with e1 _ e2
      subst e1 e2
      have MF := hF w4 i d (.slice (some ⟨b4, 0, none⟩) L.length c4) cs4 f w3.heap.size b4 cur4 x4 ⟨HC.out, HD.out.1, HD.out.2, HB3.out.trans (B4.mono HB3.out.size), hO, HB3.out.size, rfl, hbb, hcur, hx, hf, hex⟩
      have i1 : (0 : Int) ≤ (i : Int) := by omega
      have i2 : (i : Int) < (L.length : Int) := by omega
      clear M3 hO hbb hcur hx hf hex B4 hF
      go_wp2_with fail
      refine MF.mono ?_
      rintro e w5 ⟨code, rfl, hG⟩
      have HG := Lib.hid hG
      clear MF hG
      by_cases h0 : code = 0
      · subst h0
        go_wp2_with fail
        go_ret2
        exact ⟨.inr (.inr ⟨HC.out, i, d, _, 0, HD.out.1, HD.out.2, rfl, HG.out⟩)⟩
      · have t1 : (code != 0) = true := by simpa using h0
        have HZ := Lib.hid h0
        clear h0
        go_wp2_with fail
        go_ret2
        exact ⟨.inr (.inr ⟨HC.out, i, d, _, code, HD.out.1, HD.out.2, by rw [if_neg HZ.out]; rfl, HG.out⟩)⟩
set_option maxHeartbeats 4000000 in
set_option maxRecDepth 100000 in
theorem turn46_50 {ok : Nat → Prop} (q : Value) (v : Value) (L : List BoxD) (dev : Int) (w : World) (h : elemB.RdL ok w v L) (hL : L.length ≤ 1000000) (hS : ∀ d ∈ L, SzB d) (hdev : -9223372036854775808 ≤ dev ∧ dev ≤ 9223372036854775807)
    (G : Nat → BoxD → Value → Int → World → Prop) (hF : ∀ w4 i d v4 cs4 f B b4 cur4 x4, TurnQ L dev w w4 i d v4 cs4 f B b4 cur4 x4 → Calls Try.prog 50 #[.pointer (some ⟨b4, i * 4, none⟩), q] w4 fun e w' => ∃ code, e = .returned (.int .i64 code) ∧ G i d v4 code w') :
    Calls Try.prog 46 #[v, .int .i64 dev, .func (.func 50) #[] #[q]] w fun e w' => TurnP L dev w G e w' := by
  have M1 := check29 v L w h (by omega)
  obtain ⟨A, c, rfl⟩ := h.slice
  have HH := Lib.hid (And.intro h hS)
  clear h hS
  go_enter Try.func46, Try.ntmps46
  go_wp2_with fail
  refine M1.mono ?_
  rintro e w2 ⟨hC, B2⟩
  have hC := hC.out
  cases hc : chk 0 L with
  | false =>
    rw [hc] at hC
    subst hC
    have HB := Lib.hid (And.intro hc B2)
    clear M1 B2 hc
    go_wp2_with fail
    go_ret2
    exact ⟨.inl ⟨HB.out.1, rfl, HB.out.2⟩⟩
  | true =>
    rw [hc, if_pos rfl] at hC
    subst hC
    have HC := Lib.hid hc
    have M2 := place54 (.slice A L.length c) L dev w2 (HH.out.1.keep (Kn.of_below B2)) (by omega) hc hdev
    have HB2 := Lib.hid B2
    clear M1 B2 hc
    go_wp2_with fail
    refine M2.mono ?_
    rintro e w3 ⟨hP, B3⟩
    obtain ⟨i, b, rfl, h1, h2, h3, -⟩ := hP.out
    have HB3 := Lib.hid (HB2.out.trans (B3.mono HB2.out.size))
    have HP := Lib.hid (And.intro h1 (And.intro h2 h3))
    clear M2 B3 hP h1 h2 h3
    cases b with
    | false =>
      have hno : ∀ d ∈ L, d.d ≠ dev := fun d hd he => by
        obtain ⟨j, hj, hjd⟩ := List.getElem_of_mem hd
        have hjs : L[j]? = some d := by rw [List.getElem?_eq_getElem hj, hjd]
        obtain rfl := HP.out.2.2 j d hjs he
        have := HP.out.2.1.2 ⟨d, hjs, he⟩
        cases this
      have HN := Lib.hid hno
      clear hno
      go_wp2_with fail
      go_ret2
      exact ⟨.inr (.inl ⟨HC.out, HN.out, rfl, HB3.out⟩)⟩
    | true =>
      obtain ⟨d, hd, hde⟩ := HP.out.2.1.1 rfl
      have M3 := boxes62S (.slice A L.length c) L w3 (HH.out.1.keep (Kn.of_below HB3.out)) hL HH.out.2
      have HD := Lib.hid (And.intro hd hde)
      clear hd hde
      go_wp2_with fail
      refine M3.mono ?_
      rintro e w4 ⟨v4, cs4, f, rfl, hO, B4⟩
      obtain ⟨A4, c4, rfl⟩ := hO.slice
      have hi : i < L.length := (List.getElem?_eq_some_iff.1 HD.out.1).1
      obtain ⟨b4, cap4, cur4, x4, hs4, hbb, hcur, hx, hf, hex⟩ := hO.own.at hi
      injection hs4 with e1 _ e2
      subst e1 e2
      have MF := hF w4 i d (.slice (some ⟨b4, 0, none⟩) L.length c4) cs4 f w3.heap.size b4 cur4 x4 ⟨HC.out, HD.out.1, HD.out.2, HB3.out.trans (B4.mono HB3.out.size), hO, HB3.out.size, rfl, hbb, hcur, hx, hf, hex⟩
      have i1 : (0 : Int) ≤ (i : Int) := by omega
      have i2 : (i : Int) < (L.length : Int) := by omega
      clear M3 hO hbb hcur hx hf hex B4 hF
      go_wp2_with fail
      refine MF.mono ?_
      rintro e w5 ⟨code, rfl, hG⟩
      have HG := Lib.hid hG
      clear MF hG
      by_cases h0 : code = 0
      · subst h0
        go_wp2_with fail
        go_ret2
        exact ⟨.inr (.inr ⟨HC.out, i, d, _, 0, HD.out.1, HD.out.2, rfl, HG.out⟩)⟩
      · have t1 : (code != 0) = true := by simpa using h0
        have HZ := Lib.hid h0
        clear h0
        go_wp2_with fail
        go_ret2
        exact ⟨.inr (.inr ⟨HC.out, i, d, _, code, HD.out.1, HD.out.2, by rw [if_neg HZ.out]; rfl, HG.out⟩)⟩
set_option maxHeartbeats 4000000 in
set_option maxRecDepth 100000 in
theorem turn46_52 {ok : Nat → Prop} (q r : Value) (v : Value) (L : List BoxD) (dev : Int) (w : World) (h : elemB.RdL ok w v L) (hL : L.length ≤ 1000000) (hS : ∀ d ∈ L, SzB d) (hdev : -9223372036854775808 ≤ dev ∧ dev ≤ 9223372036854775807)
    (G : Nat → BoxD → Value → Int → World → Prop) (hF : ∀ w4 i d v4 cs4 f B b4 cur4 x4, TurnQ L dev w w4 i d v4 cs4 f B b4 cur4 x4 → Calls Try.prog 52 #[.pointer (some ⟨b4, i * 4, none⟩), q, r] w4 fun e w' => ∃ code, e = .returned (.int .i64 code) ∧ G i d v4 code w') :
    Calls Try.prog 46 #[v, .int .i64 dev, .func (.func 52) #[] #[q, r]] w fun e w' => TurnP L dev w G e w' := by
  have M1 := check29 v L w h (by omega)
  obtain ⟨A, c, rfl⟩ := h.slice
  have HH := Lib.hid (And.intro h hS)
  clear h hS
  go_enter Try.func46, Try.ntmps46
  go_wp2_with fail
  refine M1.mono ?_
  rintro e w2 ⟨hC, B2⟩
  have hC := hC.out
  cases hc : chk 0 L with
  | false =>
    rw [hc] at hC
    subst hC
    have HB := Lib.hid (And.intro hc B2)
    clear M1 B2 hc
    go_wp2_with fail
    go_ret2
    exact ⟨.inl ⟨HB.out.1, rfl, HB.out.2⟩⟩
  | true =>
    rw [hc, if_pos rfl] at hC
    subst hC
    have HC := Lib.hid hc
    have M2 := place54 (.slice A L.length c) L dev w2 (HH.out.1.keep (Kn.of_below B2)) (by omega) hc hdev
    have HB2 := Lib.hid B2
    clear M1 B2 hc
    go_wp2_with fail
    refine M2.mono ?_
    rintro e w3 ⟨hP, B3⟩
    obtain ⟨i, b, rfl, h1, h2, h3, -⟩ := hP.out
    have HB3 := Lib.hid (HB2.out.trans (B3.mono HB2.out.size))
    have HP := Lib.hid (And.intro h1 (And.intro h2 h3))
    clear M2 B3 hP h1 h2 h3
    cases b with
    | false =>
      have hno : ∀ d ∈ L, d.d ≠ dev := fun d hd he => by
        obtain ⟨j, hj, hjd⟩ := List.getElem_of_mem hd
        have hjs : L[j]? = some d := by rw [List.getElem?_eq_getElem hj, hjd]
        obtain rfl := HP.out.2.2 j d hjs he
        have := HP.out.2.1.2 ⟨d, hjs, he⟩
        cases this
      have HN := Lib.hid hno
      clear hno
      go_wp2_with fail
      go_ret2
      exact ⟨.inr (.inl ⟨HC.out, HN.out, rfl, HB3.out⟩)⟩
    | true =>
      obtain ⟨d, hd, hde⟩ := HP.out.2.1.1 rfl
      have M3 := boxes62S (.slice A L.length c) L w3 (HH.out.1.keep (Kn.of_below HB3.out)) hL HH.out.2
      have HD := Lib.hid (And.intro hd hde)
      clear hd hde
      go_wp2_with fail
      refine M3.mono ?_
      rintro e w4 ⟨v4, cs4, f, rfl, hO, B4⟩
      obtain ⟨A4, c4, rfl⟩ := hO.slice
      have hi : i < L.length := (List.getElem?_eq_some_iff.1 HD.out.1).1
      obtain ⟨b4, cap4, cur4, x4, hs4, hbb, hcur, hx, hf, hex⟩ := hO.own.at hi
      injection hs4 with e1 _ e2
      subst e1 e2
      have MF := hF w4 i d (.slice (some ⟨b4, 0, none⟩) L.length c4) cs4 f w3.heap.size b4 cur4 x4 ⟨HC.out, HD.out.1, HD.out.2, HB3.out.trans (B4.mono HB3.out.size), hO, HB3.out.size, rfl, hbb, hcur, hx, hf, hex⟩
      have i1 : (0 : Int) ≤ (i : Int) := by omega
      have i2 : (i : Int) < (L.length : Int) := by omega
      clear M3 hO hbb hcur hx hf hex B4 hF
      go_wp2_with fail
      refine MF.mono ?_
      rintro e w5 ⟨code, rfl, hG⟩
      have HG := Lib.hid hG
      clear MF hG
      by_cases h0 : code = 0
      · subst h0
        go_wp2_with fail
        go_ret2
        exact ⟨.inr (.inr ⟨HC.out, i, d, _, 0, HD.out.1, HD.out.2, rfl, HG.out⟩)⟩
      · have t1 : (code != 0) = true := by simpa using h0
        have HZ := Lib.hid h0
        clear h0
        go_wp2_with fail
        go_ret2
        exact ⟨.inr (.inr ⟨HC.out, i, d, _, code, HD.out.1, HD.out.2, by rw [if_neg HZ.out]; rfl, HG.out⟩)⟩
end Go.Proofs.Ythahadhdhpcndaa
