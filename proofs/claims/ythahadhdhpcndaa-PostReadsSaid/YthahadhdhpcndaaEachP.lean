/- copies.Packets: each. -/
import Derived.Test.YthahadhdhpcndaaElem
namespace Go.Proofs.Ythahadhdhpcndaa
open Go Go.RowKit
set_option linter.unusedVariables false
set_option linter.unusedSimpArgs false

set_option maxHeartbeats 4000000 in
set_option maxRecDepth 100000 in
theorem each61 {ok : Nat → Prop} (v : Value) (L : List PackD) (w : World) (h : elemP.RdL ok w v L) (hs : L.length ≤ 1000000) (hS : ∀ d ∈ L, SzF d.d) :
    Calls Try.prog 61 #[v, .func (.func 40) #[] #[]] w fun e w' => ∃ v' cs', e = .returned v' ∧ elemP.Own 44 w.heap.size w' v' cs' L ∧ Below w.heap.size w w' := by
  obtain ⟨A, n, c, rfl, rfl, h2, h3⟩ := h
  have H0 : Hid (∃ cs, elemP.Own 44 w.heap.size w (.slice none 0 0) cs (L.take 0) ∧ Below w.heap.size w w) := Lib.hid ⟨[], by simpa using Elem.Own.nil (E := elemP) 44 w.heap.size w, Below.refl _ _⟩
  have HS := Lib.hid (And.intro hs (And.intro hS h3))
  obtain ⟨z44, hz44⟩ : ∃ z : Array Value, z = #[.int .i64 0, .int .i64 0, .bool false, .int .i64 0, .int .u8 0, .int .i64 0, .int .i64 0, .int .i64 0, .int .i64 0, .int .i64 0, .int .i64 0, .int .i64 0, .bool false, .slice none 0 0, .slice none 0 0, .slice none 0 0, .slice none 0 0, .int .i64 0, .int .i64 0, .slice none 0 0, .int .i64 0, .int .i64 0, .int .u8 0, .int .i64 0, .int .i64 0, .int .i64 0, .int .i64 0, .int .i64 0, .bool false, .slice none 0 0, .slice none 0 0, .slice none 0 0, .slice none 0 0, .int .i64 0, .int .i64 0, .slice none 0 0, .int .i64 0, .int .i64 0, .int .i64 0, .int .i64 0, .int .i64 0, .int .i64 0, .int .i64 0, .int .i64 0, .int .i64 0, .slice none 0 0, .int .i64 0, .int .i64 0, .int .i64 0, .int .i64 0, .int .i64 0, .int .i64 0, .int .i64 0, .int .i64 0, .int .i64 0, .int .i64 0, .int .i64 0] := ⟨_, rfl⟩
  have hzs : z44.size = 57 := by rw [hz44]; rfl
  have HZ := Lib.hid (And.intro hz44 hzs)
  clear h2 h3 hS hs hz44 hzs
  go_enter Try.func61, Try.ntmps61
  go_wp2
  go_loopg [5, 10] L.length (fun k v5 v10 wr => ∃ i : Nat, v10 = .int .i64 (i : Int) ∧ i + k = L.length ∧ Hid (∃ cs, elemP.Own 44 w.heap.size wr v5 cs (L.take i) ∧ Below w.heap.size w wr))
  case atStart => exact ⟨0, rfl, by simp, H0⟩
  case round =>
    clear H0
    obtain ⟨i, rfl, hik, HE⟩ := hrel
    have hst := HS.out.1
    obtain ⟨cs, hE, hB⟩ := HE.out
    have hsl := hE.slice
    rw [List.length_take, Nat.min_eq_left (by omega)] at hsl
    obtain ⟨A5, c5, rfl⟩ := hsl
    by_cases hi : i < L.length
    · obtain ⟨d, hd⟩ : ∃ d, L[i]? = some d := ⟨L[i], List.getElem?_eq_getElem hi⟩
      obtain ⟨b, o, cur, tt, fr, rfl, p1, p2, p3⟩ := HS.out.2.2 (by omega)
      obtain ⟨p4, p5⟩ := p3 i d hd
      change o + i * 57 + 57 ≤ cur.size at p4
      change elemP.Rd ok w (cur.extract (o + i * 57) (o + i * 57 + 57)) d at p5
      generalize hx : cur.extract (o + i * 57) (o + i * 57 + 57) = c0 at p5
      have hbr := (hB.block b (lt_of_some p2)).trans p2
      obtain ⟨W3, hW3⟩ : ∃ W3, W3 = (wr.alloc (.cells z44 44)).setRow wr.heap.size (over z44 0 c0) := ⟨_, rfl⟩
      have x1 : (wr.alloc (.cells z44 44)).heap[wr.heap.size]? = some (.cells z44 44 (0, 0)) := heap_alloc_new wr _
      have hb1 : Below wr.heap.size wr W3 := by rw [hW3]; exact below_setRow ((Below.refl _ _).alloc (Nat.le_refl _) _) (Nat.le_refl _)
      have hcs := elemP.size p5
      have hco := elemP.one p5
      change c0.size = 57 at hcs
      have y1 : W3.heap[wr.heap.size]? = some (.cells c0 44 (0, 0)) := by
        rw [hW3]
        exact (setRow_same x1).trans (congrArg (fun z => some (Obj.cells z 44 (0, 0))) (over_full (by rw [HZ.out.2, hcs])))
      have M := pack40 c0 d W3 (elemP.keep (elemP.keep p5 (Kn.of_below hB)) (Kn.of_below hb1)) (HS.out.2.1 d (List.mem_of_getElem? hd))
      have HX := Lib.hid (And.intro hbr (And.intro p4 (And.intro hx (And.intro x1 (And.intro y1 (And.intro hcs hco))))))
      have HD := Lib.hid hd
      have HW3 := Lib.hid hW3
      have HV := Lib.hid (And.intro hE (And.intro hB hb1))
      have HI := Lib.hid hi
      have i1 : (0 : Int) ≤ (i : Int) := by omega
      have i2 : (i : Int) < (L.length : Int) := by omega
      clear p1 p2 p3 p4 p5 hx hbr x1 y1 hcs hco hE hB hd hW3 hb1
      go_wp2_with (first | (with_reducible refine wpList_load_part' rfl 44 _ rfl b (o + i * 57) 57 rfl _ cur _ _ HX.out.1 Try.underlying44 rfl cells44 HX.out.2.1 c0 HX.out.2.2.1 ?_) | (rw [← HZ.out.1]; with_reducible refine wpList_store_part rfl 44 _ _ rfl rfl _ 0 57 rfl 44 _ _ rfl HX.out.2.2.2.1 cells44 HX.out.2.2.2.2.2.1 (by rw [HZ.out.2]; decide) HX.out.2.2.2.2.2.2 ?_; rw [← HW3.out]) | (with_reducible refine wpList_load_row rfl 44 _ rfl _ rfl 44 _ _ _ HX.out.2.2.2.2.1 Try.underlying44 rfl (by rw [cells44, HX.out.2.2.2.2.2.1]) ?_))
      refine M.mono ?_
      rintro e w2 ⟨c', rfl, R', B'⟩
      have hb2 : Below wr.heap.size wr w2 := HV.out.2.2.trans (B'.mono HV.out.2.2.size)
      have hR1 := elemP.mono (ok' := fun b => wr.heap.size ≤ b) R' fun b _ hb => Nat.le_trans HV.out.2.2.size hb
      have hsz1 : c'.size = 57 := elemP.size R'
      have HR := Lib.hid (And.intro hR1 (And.intro hb2 (And.intro hsz1 (elemP.one R'))))
      clear hsz1
      have hO := (HV.out.1.below hb2).row.alloc (.cells c' 44)
      rw [List.length_take, Nat.min_eq_left (by have := HI.out; omega)] at hO
      have HO := Lib.hid (And.intro hO (Nat.le_trans HV.out.2.1.size hb2.size))
      obtain ⟨i0, hinf, hz0, hz1, hz2⟩ := info_parts info44
      clear M R' B' hb2 hR1 hO
      go_wp2_with (first | (with_reducible refine wpList_buildSlice_one rfl 59 44 _ rfl 57 _ i0 Try.underlying59 hinf hz0 hz1 rfl c' rfl HR.out.2.2.1 (by decide) (by decide) ?_) | (at_builtin; refine wpList_append_lies _ rfl _ _ 59 rfl w.heap.size 44 i0 _ 57 632 Try.underlying59 hinf hz0 hz1 hz2 rfl (by decide) (.slice A5 i c5) i _ rfl HO.out.1 ⟨w2.heap.size, 0, none⟩ 1 1 c'.toList rfl (by rw [Array.length_toList]; exact HR.out.2.2.1) (World.news_of_block (heap_alloc_new _ _)) HR.out.2.2.2 (by decide) (by unfold maxLen; omega) (by omega) (by have := HO.out.2; simp; omega) (w2.heap.size + 1) (by simp) ?_))
      intro g cap w3 o1 o2 o3 _
      have HN : Hid (∃ cs, elemP.Own 44 w.heap.size w3 (.slice (some ⟨g, 0, none⟩) (i + 1) cap) cs (L.take (i + 1)) ∧ Below w.heap.size w w3) := by
        have hp := Elem.Own.push (d := d) (g := g) (cap := cap) (w3 := w3) (o := .cells c' 44) HV.out.1 HV.out.2.1.size HR.out.2.1 HR.out.1 (by rw [List.length_take, Nat.min_eq_left (by have := HI.out; omega)]; exact o1) o2 o3
        have e : L.take (i + 1) = L.take i ++ [d] := by rw [List.take_add_one, HD.out]; rfl
        rw [List.length_take, Nat.min_eq_left (by have := HI.out; omega)] at hp
        rw [e]
        exact Lib.hid ⟨_, hp.1, HV.out.2.1.trans hp.2⟩
      clear o1 o2 o3 hinf hz0 hz1 hz2
      go_wp2_with fail
      go_roundg (L.length - (i + 1))
      case measure => have := HI.out; omega
      case rel => exact ⟨i + 1, by simp, by have := HI.out; omega, HN⟩
    · obtain rfl : i = L.length := by omega
      clear hi hE hB
      go_wp2
      go_ret
      obtain ⟨cs, hE, hB⟩ := HE.out
      rw [List.take_length] at hE
      exact ⟨_, cs, rfl, hE, hB⟩
set_option maxHeartbeats 1000000 in
theorem packets44 {ok : Nat → Prop} (v : Value) (L : List PackD) (w : World) (h : elemP.RdL ok w v L) (hs : L.length ≤ 1000000) (hS : ∀ d ∈ L, SzF d.d) :
    Calls Try.prog 44 #[v] w fun e w' => ∃ v' cs', e = .returned v' ∧ elemP.Own 44 w.heap.size w' v' cs' L ∧ Below w.heap.size w w' := by
  have M := each61 v L w h hs hS
  obtain ⟨A, c, rfl⟩ := h.slice
  clear h hs hS
  go_enter Try.func44, Try.ntmps44
  go_wp2_with fail
  refine M.mono ?_
  rintro e w2 ⟨v', cs', rfl, hO, hB⟩
  obtain ⟨A', c', rfl⟩ := hO.slice
  have H := Lib.hid (And.intro hO hB)
  clear M hO hB
  go_wp2_with fail
  go_ret
  exact ⟨_, cs', rfl, H.out.1, H.out.2⟩
end Go.Proofs.Ythahadhdhpcndaa
