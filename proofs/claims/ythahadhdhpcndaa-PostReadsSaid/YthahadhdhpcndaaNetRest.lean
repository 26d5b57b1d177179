/- Net: what is refused; Drop, All. -/
import Derived.Test.YthahadhdhpcndaaSame5
namespace Go.Proofs.Ythahadhdhpcndaa
open Go Go.RowKit
set_option linter.unusedVariables false
set_option linter.unusedSimpArgs false

/-- A net that is not there, or that no call made. -/
def NoNet (w : World) (p : Value) : Prop := p = .pointer none ∨ ∃ g, p = .pointer (some ⟨g, 0, none⟩) ∧ w.cell? ⟨g, 0, none⟩ = some (.bool false) ∧ g < w.heap.size
theorem NoNet.below {w w' : World} {p : Value} (h : NoNet w p) (hb : Below w.heap.size w w') : NoNet w' p := by
  rcases h with h | ⟨g, h1, h2, h3⟩
  · exact .inl h
  · exact .inr ⟨g, h1, (hb.cell (p := ⟨g, 0, none⟩) h3).trans h2, Nat.lt_of_lt_of_le h3 hb.size⟩
set_option maxHeartbeats 1000000 in
theorem there38no (w : World) (p : Value) (h : NoNet w p) : Calls Try.prog 38 #[p] w fun e w' => e = .returned (.bool false) ∧ w' = w := by
  rcases h with rfl | ⟨g, rfl, h, _⟩
  · go_enter Try.func38, Try.ntmps38
    go_wp2
    go_ret
    exact ⟨rfl, rfl⟩
  · go_enter Try.func38, Try.ntmps38
    go_wp2
    go_ret
    exact ⟨rfl, rfl⟩
set_option maxHeartbeats 1000000 in
theorem at41no (w : World) (p : Value) (i : Int) (h : NoNet w p) : Calls Try.prog 41 #[p, .int .i64 i] w fun e w' => e = .returned (.int .i64 2) ∧ w' = w := by
  have M := there38no w p h
  rcases h with rfl | ⟨g, rfl, h, _⟩
  · go_enter Try.func41, Try.ntmps41
    go_wp2_with (with_reducible refine M.mono ?_; rintro e w' ⟨rfl, rfl⟩)
    go_ret
    exact ⟨rfl, rfl⟩
  · go_enter Try.func41, Try.ntmps41
    go_wp2_with (with_reducible refine M.mono ?_; rintro e w' ⟨rfl, rfl⟩)
    go_ret
    exact ⟨rfl, rfl⟩
set_option maxHeartbeats 1000000 in
theorem len16no (w : World) (p : Value) (h : NoNet w p) : Calls Try.prog 16 #[p] w fun e w' => e = .returned (.int .i64 0) ∧ w' = w := by
  have M := there38no w p h
  rcases h with rfl | ⟨g, rfl, h, _⟩
  · go_enter Try.func16, Try.ntmps16
    go_wp2_with (with_reducible refine M.mono ?_; rintro e w' ⟨rfl, rfl⟩)
    go_ret
    exact ⟨rfl, rfl⟩
  · go_enter Try.func16, Try.ntmps16
    go_wp2_with (with_reducible refine M.mono ?_; rintro e w' ⟨rfl, rfl⟩)
    go_ret
    exact ⟨rfl, rfl⟩
set_option maxHeartbeats 1000000 in
theorem all21no (w : World) (p : Value) (h : NoNet w p) : Calls Try.prog 21 #[p] w fun e w' => e = .returned (.slice none 0 0) ∧ w' = w := by
  have M := there38no w p h
  rcases h with rfl | ⟨g, rfl, h, _⟩
  · go_enter Try.func21, Try.ntmps21
    go_wp2_with (with_reducible refine M.mono ?_; rintro e w' ⟨rfl, rfl⟩)
    go_ret
    exact ⟨rfl, rfl⟩
  · go_enter Try.func21, Try.ntmps21
    go_wp2_with (with_reducible refine M.mono ?_; rintro e w' ⟨rfl, rfl⟩)
    go_ret
    exact ⟨rfl, rfl⟩
set_option maxHeartbeats 1000000 in
theorem send14no (w : World) (p : Value) (c : Array Value) (h : NoNet w p) : Calls Try.prog 14 #[p, .agg c] w fun e w' => e = .returned (.int .i64 2) ∧ Below w.heap.size w w' := by
  have hb1 : Below w.heap.size w (w.alloc (.cells c 44)) := (Below.refl _ _).alloc (Nat.le_refl _) _
  have M := there38no _ p (h.below hb1)
  have HB := Lib.hid hb1
  clear hb1
  rcases h with rfl | ⟨g, rfl, h, _⟩
  · go_enter Try.func14, Try.ntmps14
    go_wp2_with (with_reducible refine M.mono ?_; rintro e w' ⟨rfl, rfl⟩)
    go_ret
    exact ⟨rfl, HB.out⟩
  · go_enter Try.func14, Try.ntmps14
    go_wp2_with (with_reducible refine M.mono ?_; rintro e w' ⟨rfl, rfl⟩)
    go_ret
    exact ⟨rfl, HB.out⟩
set_option maxHeartbeats 1000000 in
/-- Copy of a place that 'at' refuses. -/
theorem copy15e (w : World) (p : Option Addr) (i c : Int) (hc : c ≠ 0) (M : Calls Try.prog 41 #[.pointer p, .int .i64 i] w fun e w' => e = .returned (.int .i64 c) ∧ w' = w) :
    Calls Try.prog 15 #[.pointer p, .int .i64 i] w fun e w' => e = .returned (.int .i64 c) ∧ w' = w := by
  have t1 : (c != 0) = true := by simpa using hc
  clear hc
  go_enter Try.func15, Try.ntmps15
  go_wp2_with (with_reducible refine M.mono ?_; rintro e w' ⟨rfl, rfl⟩)
  go_ret
  exact ⟨rfl, rfl⟩
set_option maxHeartbeats 2000000 in
set_option maxRecDepth 100000 in
/-- Deliver of a place that 'at' refuses. -/
theorem deliver17e (w : World) (p : Option Addr) (i c : Int) (hc : c ≠ 0) (M : ∀ w', Below w.heap.size w w' → Calls Try.prog 41 #[.pointer p, .int .i64 i] w' fun e w'' => e = .returned (.int .i64 c) ∧ w'' = w') :
    Calls Try.prog 17 #[.pointer p, .int .i64 i] w fun e w' => (∃ z, e = .returned (.tuple #[.agg z, .int .i64 c]) ∧ z.size = 57 ∧ ∀ v ∈ z.toList, v.oneCell' = true) ∧ Below w.heap.size w w' := by
  have t1 : (c != 0) = true := by simpa using hc
  obtain ⟨z44, hz44⟩ : ∃ z : Array Value, z = #[.int .i64 0, .int .i64 0, .bool false, .int .i64 0, .int .u8 0, .int .i64 0, .int .i64 0, .int .i64 0, .int .i64 0, .int .i64 0, .int .i64 0, .int .i64 0, .bool false, .slice none 0 0, .slice none 0 0, .slice none 0 0, .slice none 0 0, .int .i64 0, .int .i64 0, .slice none 0 0, .int .i64 0, .int .i64 0, .int .u8 0, .int .i64 0, .int .i64 0, .int .i64 0, .int .i64 0, .int .i64 0, .bool false, .slice none 0 0, .slice none 0 0, .slice none 0 0, .slice none 0 0, .int .i64 0, .int .i64 0, .slice none 0 0, .int .i64 0, .int .i64 0, .int .i64 0, .int .i64 0, .int .i64 0, .int .i64 0, .int .i64 0, .int .i64 0, .int .i64 0, .slice none 0 0, .int .i64 0, .int .i64 0, .int .i64 0, .int .i64 0, .int .i64 0, .int .i64 0, .int .i64 0, .int .i64 0, .int .i64 0, .int .i64 0, .int .i64 0] := ⟨_, rfl⟩
  have hzs : z44.size = 57 := by rw [hz44]; rfl
  have hzo : ∀ v ∈ z44.toList, v.oneCell' = true := by
    rw [hz44]
    intro v hv
    simp at hv
    repeat (first | (rcases hv with rfl | hv; · rfl) | (subst hv; rfl))
  have hb1 : Below w.heap.size w (w.alloc (.cells z44 44)) := (Below.refl _ _).alloc (Nat.le_refl _) _
  have x1 : (w.alloc (.cells z44 44)).heap[w.heap.size]? = some (.cells z44 44 (0, 0)) := heap_alloc_new w _
  have M1 := M _ hb1
  have HZ := Lib.hid (And.intro hz44 (And.intro hzs (And.intro hzo (And.intro x1 hb1))))
  clear M hc hz44 hzs hzo hb1 x1
  go_enter Try.func17, Try.ntmps17
  go_wp2_with fail
  rw [← HZ.out.1]
  refine M1.mono ?_
  rintro e w' ⟨rfl, rfl⟩
  go_wp2_with (rw [← HZ.out.1]; with_reducible refine wpList_store_part rfl 44 _ _ rfl rfl _ 0 57 rfl 44 _ _ rfl HZ.out.2.2.2.1 cells44 HZ.out.2.1 (by rw [HZ.out.2.1]; decide) HZ.out.2.2.1 ?_)
  have hfin : ((w.alloc (.cells z44 44)).setRow w.heap.size (over z44 0 z44)).heap[w.heap.size]? = some (.cells z44 44 (0, 0)) :=
    (setRow_same HZ.out.2.2.2.1).trans (congrArg (fun z => some (Obj.cells z 44 (0, 0))) (over_full rfl))
  exact bodyPost_ret (results_ct Try.results17 _ _ _ _ _ _ _ rfl hfin Try.underlying44 rfl (by rw [cells44, HZ.out.2.1])) rfl ⟨⟨_, rfl, HZ.out.2.1, HZ.out.2.2.1⟩, below_setRow HZ.out.2.2.2.2 (Nat.le_refl _)⟩
set_option maxHeartbeats 2000000 in
set_option maxRecDepth 100000 in
/-- Drop of a place that 'at' refuses. -/
theorem drop20e (w : World) (p : Option Addr) (i c : Int) (hc : c ≠ 0) (M : ∀ w', Below w.heap.size w w' → Calls Try.prog 41 #[.pointer p, .int .i64 i] w' fun e w'' => e = .returned (.int .i64 c) ∧ w'' = w') :
    Calls Try.prog 20 #[.pointer p, .int .i64 i] w fun e w' => e = .returned (.int .i64 c) ∧ Below w.heap.size w w' := by
  have M1 := deliver17e w p i c hc M
  obtain ⟨z44, hz44⟩ : ∃ z : Array Value, z = #[.int .i64 0, .int .i64 0, .bool false, .int .i64 0, .int .u8 0, .int .i64 0, .int .i64 0, .int .i64 0, .int .i64 0, .int .i64 0, .int .i64 0, .int .i64 0, .bool false, .slice none 0 0, .slice none 0 0, .slice none 0 0, .slice none 0 0, .int .i64 0, .int .i64 0, .slice none 0 0, .int .i64 0, .int .i64 0, .int .u8 0, .int .i64 0, .int .i64 0, .int .i64 0, .int .i64 0, .int .i64 0, .bool false, .slice none 0 0, .slice none 0 0, .slice none 0 0, .slice none 0 0, .int .i64 0, .int .i64 0, .slice none 0 0, .int .i64 0, .int .i64 0, .int .i64 0, .int .i64 0, .int .i64 0, .int .i64 0, .int .i64 0, .int .i64 0, .int .i64 0, .slice none 0 0, .int .i64 0, .int .i64 0, .int .i64 0, .int .i64 0, .int .i64 0, .int .i64 0, .int .i64 0, .int .i64 0, .int .i64 0, .int .i64 0, .int .i64 0] := ⟨_, rfl⟩
  have hzs : z44.size = 57 := by rw [hz44]; rfl
  have HZ := Lib.hid (And.intro hz44 hzs)
  clear M hc hz44 hzs
  go_enter Try.func20, Try.ntmps20
  go_wp2_with fail
  refine M1.mono ?_
  rintro e w2 ⟨⟨z, rfl, hz, ho⟩, hB⟩
  have x1 : (w2.alloc (.cells z44 44)).heap[w2.heap.size]? = some (.cells z44 44 (0, 0)) := heap_alloc_new w2 _
  have H := Lib.hid (And.intro hz (And.intro ho (And.intro hB x1)))
  clear M1 hz ho hB x1
  go_wp2_with (rw [← HZ.out.1]; with_reducible refine wpList_store_part rfl 44 _ _ rfl rfl _ 0 57 rfl 44 _ _ rfl H.out.2.2.2 cells44 H.out.1 (by rw [HZ.out.2]; decide) H.out.2.1 ?_)
  go_ret
  exact ⟨rfl, below_setRow (H.out.2.2.1.alloc H.out.2.2.1.size _) H.out.2.2.1.size⟩
theorem Fr.then {B g : Nat} {w w1 w2 : World} {v v' : Value} (h : Fr B w w1 g v v') (hb : Below w1.heap.size w1 w2) (hB : B ≤ w1.heap.size) : Fr B w w2 g v v' :=
  ⟨Nat.le_trans h.size hb.size, fun b h1 h2 h3 => (hb.block b (Nat.lt_of_lt_of_le h1 h.size)).trans (h.same b h1 h2 h3), h.new, h.below.trans (hb.mono hB)⟩
structure DropP (B g : Nat) (v : Value) (cs : List (Array Value)) (L : List PackD) (i : Nat) (w : World) (e : Ending) (w' : World) : Prop where
  out : ∃ v', e = .returned (.int .i64 0) ∧ NetI w' B g v' (cs.eraseIdx i) (L.eraseIdx i) ∧ Fr B w w' g v v'
set_option maxHeartbeats 2000000 in
set_option maxRecDepth 100000 in
theorem drop20 {w : World} {B g : Nat} {v : Value} {cs : List (Array Value)} {L : List PackD} (h : NetI w B g v cs L) (hL : L.length ≤ 4096) {i : Nat} (hi : i < L.length) :
    Calls Try.prog 20 #[.pointer (some ⟨g, 0, none⟩), .int .i64 (i : Int)] w fun e w' => DropP B g v cs L i w e w' := by
  have M1 := deliver17 h hL hi
  obtain ⟨z44, hz44⟩ : ∃ z : Array Value, z = #[.int .i64 0, .int .i64 0, .bool false, .int .i64 0, .int .u8 0, .int .i64 0, .int .i64 0, .int .i64 0, .int .i64 0, .int .i64 0, .int .i64 0, .int .i64 0, .bool false, .slice none 0 0, .slice none 0 0, .slice none 0 0, .slice none 0 0, .int .i64 0, .int .i64 0, .slice none 0 0, .int .i64 0, .int .i64 0, .int .u8 0, .int .i64 0, .int .i64 0, .int .i64 0, .int .i64 0, .int .i64 0, .bool false, .slice none 0 0, .slice none 0 0, .slice none 0 0, .slice none 0 0, .int .i64 0, .int .i64 0, .slice none 0 0, .int .i64 0, .int .i64 0, .int .i64 0, .int .i64 0, .int .i64 0, .int .i64 0, .int .i64 0, .int .i64 0, .int .i64 0, .slice none 0 0, .int .i64 0, .int .i64 0, .int .i64 0, .int .i64 0, .int .i64 0, .int .i64 0, .int .i64 0, .int .i64 0, .int .i64 0, .int .i64 0, .int .i64 0] := ⟨_, rfl⟩
  have hzs : z44.size = 57 := by rw [hz44]; rfl
  have HZ := Lib.hid (And.intro hz44 (And.intro hzs h.hB))
  clear hz44 hzs h
  go_enter Try.func20, Try.ntmps20
  go_wp2_with fail
  refine M1.mono ?_
  rintro e w2 ⟨c, d, v', hc, hd, rfl, n1, n2, n3⟩
  have x1 : (w2.alloc (.cells z44 44)).heap[w2.heap.size]? = some (.cells z44 44 (0, 0)) := heap_alloc_new w2 _
  have H := Lib.hid (And.intro n2.size (And.intro n2.one (And.intro x1 (And.intro n1 n3))))
  clear M1 n1 n2 n3 x1 hc hd
  go_wp2_with (rw [← HZ.out.1]; with_reducible refine wpList_store_part rfl 44 _ _ rfl rfl _ 0 57 rfl 44 _ _ rfl H.out.2.2.1 cells44 H.out.1 (by rw [HZ.out.2.1]; decide) H.out.2.1 ?_)
  go_ret
  have hb : Below w2.heap.size w2 ((w2.alloc (.cells z44 44)).setRow w2.heap.size (over z44 0 c)) := below_setRow ((Below.refl _ _).alloc (Nat.le_refl _) _) (Nat.le_refl _)
  exact ⟨v', rfl, H.out.2.2.2.1.below hb, H.out.2.2.2.2.then hb (Nat.le_trans HZ.out.2.2 H.out.2.2.2.2.size)⟩
theorem NetI.rdL {w : World} {B g : Nat} {v : Value} {cs : List (Array Value)} {L : List PackD} (h : NetI w B g v cs L) : elemP.RdL (fun b => B ≤ b ∧ b ≠ g) w v L := by
  obtain ⟨A, c, rfl⟩ := h.slice
  refine ⟨A, _, c, rfl, rfl, ?_, fun hp => ?_⟩
  · rintro rfl
    rcases h.row.2 with ⟨h1, h2⟩ | ⟨b, cap, cur, h1, _⟩
    · exact ⟨h2, by injection h1⟩
    · cases h1
  · obtain ⟨b, cap, cur, _, e, hb, _⟩ := h.at hp
    injection e with e
    subst e
    refine ⟨b, 0, cur, 44, (0, 0), rfl, ⟨(h.vb b rfl).1, fun e => h.far (by simp [Value.ownBlock, e])⟩, hb, fun i d hd => ?_⟩
    have hi := (List.getElem?_eq_some_iff.1 hd).1
    obtain ⟨b', cap', cur', c', e, hb', hc, hf, hx⟩ := h.at hi
    injection e with e
    injection e with e
    injection e with e
    subst e
    rw [hb] at hb'
    injection hb' with hb'
    injection hb' with hb'
    subst hb'
    show 0 + i * 57 + 57 ≤ cur.size ∧ RdP _ w (cur.extract (0 + i * 57) (0 + i * 57 + 57)) d
    rw [Nat.zero_add, hx]
    exact ⟨hf, (h.sub i c' d hc hd).mono fun _ _ hp => ⟨hp.1, hp.2.1⟩⟩
set_option maxHeartbeats 1000000 in
theorem all21 {w : World} {B g : Nat} {v : Value} {cs : List (Array Value)} {L : List PackD} (h : NetI w B g v cs L) (hL : L.length ≤ 4096) (hS : ∀ d ∈ L, SzF d.d) :
    Calls Try.prog 21 #[.pointer (some ⟨g, 0, none⟩)] w fun e w' => ∃ v' cs', e = .returned v' ∧ elemP.Own 44 w.heap.size w' v' cs' L ∧ Below w.heap.size w w' := by
  have M0 := there38 _ g h.c0
  have c1 := h.c1
  have M := packets44 v L w h.rdL (by omega) hS
  obtain ⟨A, c, rfl⟩ := h.slice
  clear h hS
  go_enter Try.func21, Try.ntmps21
  go_wp2_with (with_reducible refine M0.mono ?_; rintro e w' ⟨rfl, rfl⟩)
  refine M.mono ?_
  rintro e w2 ⟨v', cs', rfl, hO, hB⟩
  obtain ⟨A', c', rfl⟩ := hO.slice
  have H := Lib.hid (And.intro hO hB)
  clear M M0 hO hB
  go_wp2_with fail
  go_ret
  exact ⟨_, cs', rfl, H.out.1, H.out.2⟩
end Go.Proofs.Ythahadhdhpcndaa
