import Derived.Test.YthahadhdhpcndaaPostA
import Derived.Deep.QuietTactic
import Derived.Test.YthahadhdhpcndaaPhaseTwo
import Derived.Lib.Overlaps
import Derived.Laws.IdiomCopy
import Derived.Laws.Externs
import Derived.Lib.AppendZerosOnto
import Derived.Lib.AppendZeros
import Derived.Laws.NewBlocks
import Derived.Test.YthahadhdhpcndaaAlive
/- post.Close, Put, Done: what they answer. -/
namespace Go.Proofs.Ythahadhdhpcndaa
open Go Go.RowKit
set_option linter.unusedVariables false
set_option linter.unusedSimpArgs false

theorem ext_of {a b : Array Value} {i n : Nat} (h : ∀ k, i ≤ k → k < i + n → a[k]? = b[k]?) : a.extract i (i + n) = b.extract i (i + n) := by
  apply Array.ext_getElem?
  intro k
  rw [Array.getElem?_extract, Array.getElem?_extract]
  by_cases ha : k < i + n - i
  · have := h (i + k) (by omega) (by omega)
    by_cases h1 : i + k < a.size
    · have h2 : i + k < b.size := by
        rw [Array.getElem?_eq_getElem h1] at this
        exact (Array.getElem?_eq_some_iff.1 this.symm).1
      rw [if_pos (by omega), if_pos (by omega)]
      exact this
    · have h2 : ¬ i + k < b.size := fun h2 => by
        rw [Array.getElem?_eq_getElem h2] at this
        exact h1 (Array.getElem?_eq_some_iff.1 this).1
      rw [if_neg (by omega), if_neg (by omega)]
  · rw [if_neg (by omega), if_neg (by omega)]
theorem TurnQ.set {L : List BoxD} {dev : Int} {w w4 w5 : World} {i : Nat} {d d' : BoxD} {v4 : Value} {cs4 : List (Array Value)} {f : Nat → Nat} {B b4 : Nat} {cur4 cur5 x4 c5 : Array Value} (h : TurnQ L dev w w4 i d v4 cs4 f B b4 cur4 x4)
    (hrow : w5.heap[b4]? = some (.cells cur5 76 (0, 0))) (hsz : cur5.size = cur4.size) (hcells : ∀ k, (k < i * 4 ∨ i * 4 + 4 ≤ k) → cur5[k]? = cur4[k]?) (hnew : cur5.extract (i * 4) (i * 4 + 4) = c5) (hR : RdB (B ≤ ·) w5 c5 d')
    (hkeep : ∀ j, j ≠ i → j < L.length → Kn (fun b => (f j ≤ b ∧ b < f (j + 1)) ∧ v4.ownBlock ≠ some b) w4 w5) : elemB.RdL (B ≤ ·) w5 v4 (L.set i d') := by
  obtain ⟨A4, c4, rfl⟩ := h.own.slice
  have hi : i < L.length := (List.getElem?_eq_some_iff.1 h.hd).1
  obtain ⟨b', cap', cur', x', e0, _⟩ := h.own.own.at hi
  injection e0 with e1 _ e2
  subst e1 e2
  obtain rfl : b' = b4 := by simpa [Value.ownBlock] using h.blk
  refine ⟨_, _, c4, rfl, by simp, (fun e => by cases e), fun _ => ⟨b', 0, cur5, 76, (0, 0), rfl, h.hB, hrow, fun j dj hj => ?_⟩⟩
  change 0 + j * 4 + 4 ≤ cur5.size ∧ RdB (B ≤ ·) w5 (cur5.extract (0 + j * 4) (0 + j * 4 + 4)) dj
  rw [Nat.zero_add]
  have hjl : j < L.length := by simpa using (List.getElem?_eq_some_iff.1 hj).1
  obtain ⟨b'', cap'', cur'', xj, e0, _, hcur, hxj, hfj, hexj⟩ := h.own.own.at hjl
  injection e0 with e0
  injection e0 with e0
  injection e0 with e0
  subst e0
  have e9 := hcur.symm.trans h.cur
  injection e9 with e9
  injection e9 with e9
  subst e9
  change j * 4 + 4 ≤ cur''.size at hfj
  change cur''.extract (j * 4) (j * 4 + 4) = xj at hexj
  refine ⟨by omega, ?_⟩
  by_cases hji : j = i
  · subst hji
    rw [List.getElem?_set_self (by omega)] at hj
    injection hj with hj
    subst hj
    rw [hnew]
    exact hR
  · rw [List.getElem?_set_ne (by omega)] at hj
    have e5 : cur5.extract (j * 4) (j * 4 + 4) = xj := by
      rw [← hexj]
      exact ext_of fun k h1 h2 => hcells k (by omega)
    rw [e5]
    have hs : RdBO (fun b => (f j ≤ b ∧ b < f (j + 1)) ∧ (Value.slice (some ⟨b', 0, none⟩) L.length c4).ownBlock ≠ some b) w4 xj dj := h.own.sub j xj dj hxj hj
    have hl := h.own.le 0 j (Nat.zero_le _) (by omega)
    have hlo := h.own.lo
    exact (elemBO.mono (elemBO.keep hs (hkeep j hji hjl)) fun b _ hp => show B ≤ b by omega : RdBO (B ≤ ·) w5 xj dj).rdB
/-- What the box that is turned reads as. -/
theorem TurnQ.box {L : List BoxD} {dev : Int} {w w4 : World} {i : Nat} {d : BoxD} {v4 : Value} {cs4 : List (Array Value)} {f : Nat → Nat} {B b4 : Nat} {cur4 x4 : Array Value} (h : TurnQ L dev w w4 i d v4 cs4 f B b4 cur4 x4) :
    ∃ vm mcs, x4 = d.cs vm ∧ OwnM (fun b => (f i ≤ b ∧ b < f (i + 1)) ∧ v4.ownBlock ≠ some b) w4 vm mcs d.m ∧ cur4[i * 4]? = some (.int .i64 d.d) ∧ cur4[i * 4 + 1]? = some (.bool d.o) ∧ cur4[i * 4 + 2]? = some vm ∧ cur4[i * 4 + 3]? = some (.int .i64 d.n) := by
  obtain ⟨vm, mcs, e, hM⟩ := h.own.sub i x4 d h.hx h.hd
  have hg : ∀ k, k < 4 → cur4[i * 4 + k]? = (d.cs vm)[k]? := fun k hk => by
    have := congrArg (fun a => a[k]?) (h.ext.trans e)
    have hf := h.fits
    simp only [Array.getElem?_extract] at this
    rw [if_pos (by omega)] at this
    exact this
  exact ⟨vm, mcs, e, hM, hg 0 (by decide), hg 1 (by decide), hg 2 (by decide), hg 3 (by decide)⟩
theorem get_set {a : Array Value} {p k : Nat} {v : Value} (hp : p < a.size) : (a.setIfInBounds p v)[k]? = if k = p then some v else a[k]? := by
  by_cases h : k = p
  · subst h; rw [if_pos rfl]; simp [hp]
  · rw [if_neg h, Array.getElem?_setIfInBounds_ne (by omega)]
theorem ext4 {a : Array Value} {p : Nat} {v0 v1 v2 v3 : Value} (h0 : a[p]? = some v0) (h1 : a[p + 1]? = some v1) (h2 : a[p + 2]? = some v2) (h3 : a[p + 3]? = some v3) : a.extract p (p + 4) = #[v0, v1, v2, v3] := by
  have hs := (Array.getElem?_eq_some_iff.1 h3).1
  apply Array.ext_getElem?
  intro k
  rw [Array.getElem?_extract]
  match k with
  | 0 => rw [if_pos (by omega)]; exact h0
  | 1 => rw [if_pos (by omega)]; exact h1
  | 2 => rw [if_pos (by omega)]; exact h2
  | 3 => rw [if_pos (by omega)]; exact h3
  | k + 4 => rw [if_neg (by omega)]; simp
/-- What an operation on the box of a device answers: refused, or the boxes with that one turned. -/
structure OpP (L : List BoxD) (dev : Int) (w : World) (bad : BoxD → Int) (turned : BoxD → BoxD) (e : Ending) (w' : World) : Prop where
  out : Below w.heap.size w w' ∧ ((chk 0 L = false ∧ e = .returned (.tuple #[.slice none 0 0, .int .i64 1])) ∨ (chk 0 L = true ∧ (∀ d ∈ L, d.d ≠ dev) ∧ e = .returned (.tuple #[.slice none 0 0, .int .i64 7])) ∨
    (chk 0 L = true ∧ ∃ i d, L[i]? = some d ∧ d.d = dev ∧ ((bad d ≠ 0 ∧ e = .returned (.tuple #[.slice none 0 0, .int .i64 (bad d)])) ∨ (bad d = 0 ∧ ∃ v', e = .returned (.tuple #[v', .int .i64 0]) ∧ elemB.RdL (w.heap.size ≤ ·) w' v' (L.set i (turned d))))))
set_option maxHeartbeats 1000000 in
theorem close49 {w : World} {bb p : Nat} {cur : Array Value} (hb : w.heap[bb]? = some (.cells cur 76 (0, 0))) (hp : p + 4 ≤ cur.size) :
    Calls Try.prog 49 #[.pointer (some ⟨bb, p, none⟩)] w fun e w' => e = .returned (.int .i64 0) ∧ w' = w.setCell ⟨bb, p + 1, none⟩ (.bool true) := by
  obtain ⟨u, hu⟩ : ∃ u, w.cell? ⟨bb, p + 1, none⟩ = some u := ⟨cur[p + 1], (cell_of_row w bb _ _ _ _ hb).trans (Array.getElem?_eq_getElem (by omega))⟩
  have hf : w.frozen? ⟨bb, p + 1, none⟩ = false := frozen_of_row w bb _ _ _ hb
  clear hb hp
  go_enter Try.func49, Try.ntmps49
  go_wp2
  go_ret
  exact ⟨rfl, rfl⟩
set_option maxHeartbeats 4000000 in
theorem close26 {ok : Nat → Prop} (v : Value) (L : List BoxD) (dev : Int) (w : World) (h : elemB.RdL ok w v L) (hL : L.length ≤ 1000000) (hS : ∀ d ∈ L, SzB d) (hdev : -9223372036854775808 ≤ dev ∧ dev ≤ 9223372036854775807) :
    Calls Try.prog 26 #[v, .int .i64 dev] w fun e w' => OpP L dev w (fun _ => 0) (fun d => { d with o := true }) e w' := by
  have M := turn46_49 v L dev w h hL hS hdev (fun i d v4 code w' => code = 0 ∧ Below w.heap.size w w' ∧ elemB.RdL (w.heap.size ≤ ·) w' v4 (L.set i { d with o := true })) (fun w4 i d v4 cs4 f B b4 cur4 x4 hQ => (close49 hQ.cur hQ.fits).mono (by
    rintro e w' ⟨rfl, rfl⟩
    obtain ⟨vm, mcs, e, hM, g0, g1, g2, g3⟩ := hQ.box
    have hf := hQ.fits
    have hlo := hQ.lo
    have hBb := hQ.hB
    have hK : ∀ ok : Nat → Prop, ¬ ok b4 → Kn ok w4 (w4.setCell ⟨b4, i * 4 + 1, none⟩ (.bool true)) := fun ok ho => Kn.setCell w4 b4 _ _ ho
    refine ⟨0, rfl, rfl, hQ.below.setCell (by show _ ≤ b4; omega) _, ?_⟩
    have hR := hQ.set (d' := { d with o := true }) (cur5 := cur4.setIfInBounds (i * 4 + 1) (.bool true)) (c5 := #[.int .i64 d.d, .bool true, vm, .int .i64 d.n]) (w5 := w4.setCell ⟨b4, i * 4 + 1, none⟩ (.bool true)) (heap_setCell_same w4 b4 _ _ _ _ hQ.cur) (by simp) (fun k hk => by rw [get_set (by omega), if_neg (by omega)])
      (ext4 (by rw [get_set (by omega), if_neg (by omega)]; exact g0) (by rw [get_set (by omega), if_pos rfl]) (by rw [get_set (by omega), if_neg (by omega)]; exact g2) (by rw [get_set (by omega), if_neg (by omega)]; exact g3))
      ⟨vm, rfl, ((hM.rdL.keep (hK _ (fun hp => hp.2 hQ.blk))).mono fun b _ hp => by
        have := hQ.own.le 0 i (Nat.zero_le _) (Nat.le_of_lt (List.getElem?_eq_some_iff.1 hQ.hd).1)
        have := hQ.own.lo
        omega)⟩
      (fun j _ _ => hK _ (fun hp => hp.2 hQ.blk))
    exact hR.mono fun b _ hp => by omega))
  obtain ⟨A, c, rfl⟩ := h.slice
  clear h hS
  go_enter Try.func26, Try.ntmps26
  go_wp2_with fail
  refine M.mono ?_
  intro e w' hT
  rcases hT.out with ⟨h1, rfl, h2⟩ | ⟨h1, h3, rfl, h2⟩ | ⟨h1, i, d, v4, code, h2, h3, rfl, rfl, h4, h5⟩
  · have H := Lib.hid (And.intro h1 h2)
    clear M hT h1 h2
    go_wp2_with fail
    go_ret2
    exact ⟨⟨H.out.2, .inl ⟨H.out.1, rfl⟩⟩⟩
  · have H := Lib.hid (And.intro h1 (And.intro h2 h3))
    clear M hT h1 h2 h3
    go_wp2_with fail
    go_ret2
    exact ⟨⟨H.out.2.1, .inr (.inl ⟨H.out.1, H.out.2.2, rfl⟩)⟩⟩
  · have hs4 := h5.slice
    rw [List.length_set] at hs4
    obtain ⟨A4, c4, rfl⟩ := hs4
    have H := Lib.hid (And.intro h1 (And.intro h2 (And.intro h3 (And.intro h4 h5))))
    clear M hT h1 h2 h3 h4 h5
    go_wp2_with fail
    go_ret2
    refine ⟨⟨H.out.2.2.2.1, .inr (.inr ⟨H.out.1, i, d, H.out.2.1, H.out.2.2.1, .inr ⟨rfl, _, ?_, H.out.2.2.2.2⟩⟩)⟩⟩
    rfl
end Go.Proofs.Ythahadhdhpcndaa

/- post.Put, Done: what they answer. -/
namespace Go.Proofs.Ythahadhdhpcndaa
open Go Go.RowKit
set_option linter.unusedVariables false
set_option linter.unusedSimpArgs false

theorem raise {w : World} {B e sz n : Nat} {v : Value} {xs : List Value} (h : w.ownsRow 0 e sz v n xs) (hk : ∀ k, v.ownBlock = some k → B ≤ k) : w.ownsRow B e sz v n xs := by
  rcases h.2 with h1 | ⟨g, cap, cur, h1, h2, h3⟩
  · exact ⟨h.1, .inl h1⟩
  · exact ⟨h.1, .inr ⟨g, cap, cur, h1, hk g (by rw [h1]; rfl), h3⟩⟩
def doneBad (seq : Int) (d : BoxD) : Int := if seq < d.n then 10 else if d.n = 1099511627776 then 3 else 0
structure DoneP (seq : Int) (d : BoxD) (bb p : Nat) (w : World) (e : Ending) (w' : World) : Prop where
  out : e = .returned (.int .i64 (doneBad seq d)) ∧ ((doneBad seq d ≠ 0 ∧ ∃ k, w' = w.drewN k) ∨ (doneBad seq d = 0 ∧ ∃ k, w' = (w.drewN k).setCell ⟨bb, p + 3, none⟩ (.int .i64 (d.n + 1))))
set_option maxHeartbeats 2000000 in
theorem done50 {w : World} {bb p sp : Nat} {cur : Array Value} {seq : Int} (d : BoxD) (hb : w.heap[bb]? = some (.cells cur 76 (0, 0))) (hd : cur[p + 3]? = some (.int .i64 d.n)) (hn : 0 ≤ d.n ∧ d.n ≤ 1099511627776) (hs : w.cell? ⟨sp, 0, none⟩ = some (.int .i64 seq)) :
    Calls Try.prog 50 #[.pointer (some ⟨bb, p, none⟩), .pointer (some ⟨sp, 0, none⟩)] w fun e w' => DoneP seq d bb p w e w' := by
  have l1 : w.cell? ⟨bb, p + 3, none⟩ = some (.int .i64 d.n) := (cell_of_row w bb _ _ _ _ hb).trans hd
  have hf : w.frozen? ⟨bb, p + 3, none⟩ = false := frozen_of_row w bb _ _ _ hb
  have hw : wrap64 (d.n + 1) = d.n + 1 := by unfold wrap64; omega
  clear hb hd
  by_cases t1 : seq < d.n
  · have u1 : decide (seq < d.n) = true := decide_eq_true t1
    have HE := Lib.hid (show doneBad seq d = 10 from if_pos t1)
    clear t1
    go_enter Try.func50, Try.ntmps50
    go_wp2_with fail
    go_quiet (fail)
    go_wp2
    go_ret
    exact ⟨by rw [HE.out]; rfl, .inl ⟨by rw [HE.out]; decide, _, rfl⟩⟩
  have u1 : decide (seq < d.n) = false := decide_eq_false t1
  by_cases t2 : d.n = 1099511627776
  · have u2 : (d.n == 1099511627776) = true := by rw [beq_iff_eq]; exact t2
    have HE := Lib.hid (show doneBad seq d = 3 by unfold doneBad; rw [if_neg t1, if_pos t2])
    clear t1 t2
    go_enter Try.func50, Try.ntmps50
    go_wp2_with fail
    go_quiet (fail)
    go_wp2
    go_ret
    exact ⟨by rw [HE.out]; rfl, .inl ⟨by rw [HE.out]; decide, _, rfl⟩⟩
  have u2 : (d.n == 1099511627776) = false := by rw [beq_eq_false_iff_ne]; exact t2
  have HE := Lib.hid (show doneBad seq d = 0 by unfold doneBad; rw [if_neg t1, if_neg t2])
  have HW := Lib.hid hw
  clear t1 t2 hw
  go_enter Try.func50, Try.ntmps50
  go_wp2_with fail
  go_quiet (fail)
  go_wp2
  go_ret
  exact ⟨by rw [HE.out]; rfl, .inr ⟨HE.out, _, by first | rfl | rw [HW.out]⟩⟩
set_option maxHeartbeats 4000000 in
theorem done27 {ok : Nat → Prop} (v : Value) (L : List BoxD) (dev seq : Int) (w : World) (h : elemB.RdL ok w v L) (hL : L.length ≤ 1000000) (hS : ∀ d ∈ L, SzB d) (hdev : -9223372036854775808 ≤ dev ∧ dev ≤ 9223372036854775807) :
    Calls Try.prog 27 #[v, .int .i64 dev, .int .i64 seq] w fun e w' => OpP L dev w (doneBad seq) (fun d => { d with n := d.n + 1 }) e w' := by
  have hb1 : Below w.heap.size w (w.alloc (.cells #[.int .i64 seq] 3)) := (Below.refl _ _).alloc (Nat.le_refl _) _
  have x1 : (w.alloc (.cells #[.int .i64 seq] 3)).heap[w.heap.size]? = some (.cells #[.int .i64 seq] 3 (0, 0)) := heap_alloc_new w _
  have M := turn46_50 (.pointer (some ⟨w.heap.size, 0, none⟩)) v L dev (w.alloc (.cells #[.int .i64 seq] 3)) (h.keep (Kn.of_below hb1)) hL hS hdev (fun i d v4 code w' => Below (w.alloc (.cells #[.int .i64 seq] 3)).heap.size (w.alloc (.cells #[.int .i64 seq] 3)) w' ∧ ((doneBad seq d ≠ 0 ∧ code = doneBad seq d) ∨ (doneBad seq d = 0 ∧ code = 0 ∧ elemB.RdL ((w.alloc (.cells #[.int .i64 seq] 3)).heap.size ≤ ·) w' v4 (L.set i { d with n := d.n + 1 })))) (fun w4 i d v4 cs4 f B b4 cur4 x4 hQ => by
    obtain ⟨vm, mcs, e, hM, g0, g1, g2, g3⟩ := hQ.box
    have hrange := chk_at L 0 hQ.hc i d hQ.hd
    have hcs : w4.cell? ⟨w.heap.size, 0, none⟩ = some (.int .i64 seq) := (cell_of_row w4 _ 0 _ _ _ ((hQ.below.block _ (lt_of_some x1)).trans x1)).trans rfl
    refine (done50 (p := i * 4) (sp := w.heap.size) (seq := seq) d hQ.cur g3 ⟨by omega, by omega⟩ hcs).mono ?_
    rintro e w' ⟨rfl, hD⟩
    have hf := hQ.fits
    have hlo := hQ.lo
    have hBb := hQ.hB
    rcases hD with ⟨hne, k, rfl⟩ | ⟨heq, k, rfl⟩
    · exact ⟨_, rfl, below_drewN hQ.below k, .inl ⟨hne, rfl⟩⟩
    · have hK : ∀ ok : Nat → Prop, ¬ ok b4 → Kn ok w4 ((w4.drewN k).setCell ⟨b4, i * 4 + 3, none⟩ (.int .i64 (d.n + 1))) := fun ok ho => (Kn.of_below (below_drewN (Below.refl _ _) k)).trans (Kn.setCell (w4.drewN k) b4 _ _ ho)
      have hcur : (w4.drewN k).heap[b4]? = some (.cells cur4 76 (0, 0)) := hQ.cur
      refine ⟨0, by rw [heq], (below_drewN hQ.below k).setCell (by show _ ≤ b4; omega) _, .inr ⟨heq, rfl, ?_⟩⟩
      have hR := hQ.set (d' := { d with n := d.n + 1 }) (cur5 := cur4.setIfInBounds (i * 4 + 3) (.int .i64 (d.n + 1))) (c5 := #[.int .i64 d.d, .bool d.o, vm, .int .i64 (d.n + 1)]) (heap_setCell_same (w4.drewN k) b4 _ _ _ _ hcur) (by simp) (fun k hk => by rw [get_set (by omega), if_neg (by omega)])
        (ext4 (by rw [get_set (by omega), if_neg (by omega)]; exact g0) (by rw [get_set (by omega), if_neg (by omega)]; exact g1) (by rw [get_set (by omega), if_neg (by omega)]; exact g2) (by rw [get_set (by omega), if_pos rfl]))
        ⟨vm, rfl, ((hM.rdL.keep (hK _ (fun hp => hp.2 hQ.blk))).mono fun b _ hp => by
          have := hQ.own.le 0 i (Nat.zero_le _) (Nat.le_of_lt (List.getElem?_eq_some_iff.1 hQ.hd).1)
          have := hQ.own.lo
          omega)⟩
        (fun j _ _ => hK _ (fun hp => hp.2 hQ.blk))
      exact hR.mono fun b _ hp => by omega)
  obtain ⟨A, c, rfl⟩ := h.slice
  have HB1 := Lib.hid hb1
  clear h hS x1 hb1
  go_enter Try.func27, Try.ntmps27
  go_wp2_with fail
  refine M.mono ?_
  intro e w' hT
  rcases hT.out with ⟨h1, rfl, h2⟩ | ⟨h1, h3, rfl, h2⟩ | ⟨h1, i, d, v4, code, h2, h3, rfl, h4, h6⟩
  · have H := Lib.hid (And.intro h1 (HB1.out.trans (h2.mono HB1.out.size)))
    clear M hT h1 h2
    go_wp2_with fail
    go_ret2
    exact ⟨⟨H.out.2, .inl ⟨H.out.1, rfl⟩⟩⟩
  · have H := Lib.hid (And.intro h1 (And.intro (HB1.out.trans (h2.mono HB1.out.size)) h3))
    clear M hT h1 h2 h3
    go_wp2_with fail
    go_ret2
    exact ⟨⟨H.out.2.1, .inr (.inl ⟨H.out.1, H.out.2.2, rfl⟩)⟩⟩
  · have h4 := HB1.out.trans (h4.mono HB1.out.size)
    rcases h6 with ⟨h6, h7⟩ | ⟨h6, h7, h5⟩
    · subst h7
      have H := Lib.hid (And.intro h1 (And.intro h2 (And.intro h3 (And.intro h4 h6))))
      rw [if_neg h6] at *
      clear M hT h1 h2 h3 h4 h6
      go_wp2_with fail
      go_ret2
      exact ⟨⟨H.out.2.2.2.1, .inr (.inr ⟨H.out.1, i, d, H.out.2.1, H.out.2.2.1, .inl ⟨H.out.2.2.2.2, rfl⟩⟩)⟩⟩
    · subst h7
      have h5 := h5.mono (ok' := fun b => w.heap.size ≤ b) fun b _ hp => Nat.le_trans HB1.out.size hp
      have hs4 := h5.slice
      rw [List.length_set] at hs4
      obtain ⟨A4, c4, rfl⟩ := hs4
      have H := Lib.hid (And.intro h1 (And.intro h2 (And.intro h3 (And.intro h4 (And.intro h6 h5)))))
      clear M hT h1 h2 h3 h4 h5 h6
      go_wp2_with fail
      go_ret2
      refine ⟨⟨H.out.2.2.2.1, .inr (.inr ⟨H.out.1, i, d, H.out.2.1, H.out.2.2.1, .inr ⟨H.out.2.2.2.2.1, _, ?_, H.out.2.2.2.2.2⟩⟩)⟩⟩
      rfl
def putBad (d : BoxD) : Int := if d.o = true then 11 else 0
set_option maxHeartbeats 4000000 in
set_option maxRecDepth 100000 in
theorem put25 {ok ok' : Nat → Prop} (v : Value) (L : List BoxD) (dev : Int) (cm : Array Value) (md : MailD) (w : World) (h : elemB.RdL ok w v L) (hL : L.length ≤ 1000000) (hS : ∀ d ∈ L, SzB d) (hdev : -9223372036854775808 ≤ dev ∧ dev ≤ 9223372036854775807) (hm : RdM ok' w cm md) (hms : SzM md) :
    Calls Try.prog 25 #[v, .int .i64 dev, .agg cm] w fun e w' => OpP L dev w putBad (fun d => { d with m := d.m ++ [md] }) e w' := by
  have hb1 : Below w.heap.size w (w.alloc (.cells cm 40)) := (Below.refl _ _).alloc (Nat.le_refl _) _
  have x1 : (w.alloc (.cells cm 40)).heap[w.heap.size]? = some (.cells cm 40 (0, 0)) := heap_alloc_new w _
  have hw1 : (w.alloc (.cells cm 40)).heap.size = w.heap.size + 1 := by simp
  have hm1 := (hm.mono (ok' := fun b => b < w.heap.size) fun b hb _ => hb).keep (Kn.of_below hb1)
  have M := turn46_47 (.pointer (some ⟨w.heap.size, 0, none⟩)) v L dev (w.alloc (.cells cm 40)) (h.keep (Kn.of_below hb1)) hL hS hdev (fun i d v4 code w' => Below (w.alloc (.cells cm 40)).heap.size (w.alloc (.cells cm 40)) w' ∧ ((putBad d ≠ 0 ∧ code = putBad d) ∨ (putBad d = 0 ∧ code = 0 ∧ elemB.RdL ((w.alloc (.cells cm 40)).heap.size ≤ ·) w' v4 (L.set i { d with m := d.m ++ [md] })))) (fun w4 i d v4 cs4 f B b4 cur4 x4 hQ => by
    obtain ⟨vm, mcs, e, hM, g0, g1, g2, g3⟩ := hQ.box
    have hf := hQ.fits
    have hlo := hQ.lo
    have hBb := hQ.hB
    have hfi := hQ.own.le 0 i (Nat.zero_le _) (Nat.le_of_lt (List.getElem?_eq_some_iff.1 hQ.hd).1)
    have hf0 := hQ.own.lo
    by_cases ho : d.o = true
    ·
      have l1 : w4.cell? ⟨b4, i * 4 + 1, none⟩ = some (.bool true) := by rw [← ho]; exact (cell_of_row w4 b4 _ _ _ _ hQ.cur).trans g1
      have hbad : putBad d = 11 := if_pos ho
      refine (put47out l1).mono ?_
      rintro e w' ⟨rfl, rfl⟩
      exact ⟨11, rfl, hQ.below, .inl ⟨by rw [hbad]; decide, hbad.symm⟩⟩
    ·
      have ho : d.o = false := by simpa using ho
      have hbad : putBad d = 0 := if_neg (by rw [ho]; decide)
      have hx4 : w4.heap[w.heap.size]? = some (.cells cm 40 (0, 0)) := (hQ.below.block _ (lt_of_some x1)).trans x1
      have hml : d.m.length ≤ 1000000 := (hS d (List.mem_of_getElem? hQ.hd)).1
      have hrow : w4.ownsRow B 40 30 vm d.m.length (prow mcs) := raise hM.row fun k hk => by have := hM.own k hk; omega
      have hBw : B ≤ w4.heap.size := Nat.le_trans hBb (Nat.le_of_lt (lt_of_some hQ.cur))
      rw [ho] at g1
      refine (put47 (p := i * 4) (mp := w.heap.size) hQ.cur hf g1 g2 hx4 (hm1.keep (Kn.of_below hQ.below)) hms hrow hBw hBb hml (fun e => (hM.own b4 e).2 hQ.blk) (fun e => by have := hM.own _ e; omega) (by omega)).mono ?_
      intro e w5 hP
      obtain ⟨v', c', rfl, p1, p2, p3, p4, p5, p6, p7⟩ := hP.out
      have hOld : ∀ j c dd, mcs[j]? = some c → d.m[j]? = some dd → RdM (fun b => B ≤ b ∧ v'.ownBlock ≠ some b) w5 c dd := fun j c dd hc hd =>
        (((hM.sub j c dd hc hd).mono (ok' := fun b => (((f i ≤ b ∧ b < f (i + 1)) ∧ v4.ownBlock ≠ some b) ∧ vm.ownBlock ≠ some b) ∧ b < w4.heap.size) fun b hb hp => ⟨hp, hb⟩).keep ⟨p5, fun b hb hp => p4 b hb (fun e => hp.1.1.2 (by rw [e]; exact hQ.blk)) hp.1.2⟩).mono fun b _ hp => ⟨by omega, fun e => by rcases p6 b e with h | h; exact hp.1.2 h; omega⟩
      have hOwn : elemM.Own 40 B w5 v' (mcs ++ [c']) (d.m ++ [md]) := by
        refine ⟨by simp [hM.len], by rw [List.length_append, List.length_singleton, prow_snoc]; exact p2, fun j c dd hc hd => ?_⟩
        by_cases hj : j < mcs.length
        · rw [List.getElem?_append_left hj] at hc
          rw [List.getElem?_append_left (by have := hM.len; omega)] at hd
          exact hOld j c dd hc hd
        · have hjl : j = mcs.length := by
            have := (List.getElem?_eq_some_iff.1 hc).1
            simp at this; omega
          subst hjl
          rw [List.getElem?_append_right (Nat.le_refl _)] at hc
          rw [hM.len, List.getElem?_append_right (Nat.le_refl _)] at hd
          have e1 : c' = c := by simpa using hc
          have e2 : md = dd := by simpa using hd
          subst e1 e2
          exact p3.mono fun b _ hp => ⟨by omega, hp.2⟩
      refine ⟨0, rfl, hQ.below.trans (p7.mono (by omega)), .inr ⟨hbad, rfl, ?_⟩⟩
      have hR := hQ.set (d' := { d with m := d.m ++ [md] }) (w5 := w5) (cur5 := cur4.setIfInBounds (i * 4 + 2) v') (c5 := #[.int .i64 d.d, .bool d.o, v', .int .i64 d.n]) p1 (by simp) (fun k hk => by rw [get_set (by omega), if_neg (by omega)])
        (ext4 (by rw [get_set (by omega), if_neg (by omega)]; exact g0) (by rw [get_set (by omega), if_neg (by omega), ho]; exact g1) (by rw [get_set (by omega), if_pos rfl]) (by rw [get_set (by omega), if_neg (by omega)]; exact g3))
        ⟨v', rfl, hOwn.rdL⟩
        (fun j hji hjl => ⟨p5, fun b hb hp => p4 b hb (fun e => hp.2 (by rw [e]; exact hQ.blk)) (fun e => by
          have h1 := hM.own b e
          rcases Nat.lt_or_gt_of_ne hji with h | h
          · have := hQ.own.le (j + 1) i (by omega) (Nat.le_of_lt (List.getElem?_eq_some_iff.1 hQ.hd).1)
            omega
          · have := hQ.own.le (i + 1) j (by omega) (by omega)
            omega)⟩)
      exact Elem.RdL.mono (ok := fun b => B ≤ b) hR fun b _ hp => Nat.le_trans hlo hp)
  obtain ⟨A, c, rfl⟩ := h.slice
  have HB1 := Lib.hid hb1
  clear h hS x1 hb1 hm hm1 hw1
  go_enter Try.func25, Try.ntmps25
  go_wp2_with fail
  refine M.mono ?_
  intro e w' hT
  rcases hT.out with ⟨h1, rfl, h2⟩ | ⟨h1, h3, rfl, h2⟩ | ⟨h1, i, d, v4, code, h2, h3, rfl, h4, h6⟩
  · have H := Lib.hid (And.intro h1 (HB1.out.trans (h2.mono HB1.out.size)))
    clear M hT h1 h2
    go_wp2_with fail
    go_ret2
    exact ⟨⟨H.out.2, .inl ⟨H.out.1, rfl⟩⟩⟩
  · have H := Lib.hid (And.intro h1 (And.intro (HB1.out.trans (h2.mono HB1.out.size)) h3))
    clear M hT h1 h2 h3
    go_wp2_with fail
    go_ret2
    exact ⟨⟨H.out.2.1, .inr (.inl ⟨H.out.1, H.out.2.2, rfl⟩)⟩⟩
  · have h4 := HB1.out.trans (h4.mono HB1.out.size)
    rcases h6 with ⟨h6, h7⟩ | ⟨h6, h7, h5⟩
    · subst h7
      have H := Lib.hid (And.intro h1 (And.intro h2 (And.intro h3 (And.intro h4 h6))))
      rw [if_neg h6] at *
      clear M hT h1 h2 h3 h4 h6
      go_wp2_with fail
      go_ret2
      exact ⟨⟨H.out.2.2.2.1, .inr (.inr ⟨H.out.1, i, d, H.out.2.1, H.out.2.2.1, .inl ⟨H.out.2.2.2.2, rfl⟩⟩)⟩⟩
    · subst h7
      have h5 := h5.mono (ok' := fun b => w.heap.size ≤ b) fun b _ hp => Nat.le_trans HB1.out.size hp
      have hs4 := h5.slice
      rw [List.length_set] at hs4
      obtain ⟨A4, c4, rfl⟩ := hs4
      have H := Lib.hid (And.intro h1 (And.intro h2 (And.intro h3 (And.intro h4 (And.intro h6 h5)))))
      clear M hT h1 h2 h3 h4 h5 h6
      go_wp2_with fail
      go_ret2
      refine ⟨⟨H.out.2.2.2.1, .inr (.inr ⟨H.out.1, i, d, H.out.2.1, H.out.2.2.1, .inr ⟨H.out.2.2.2.2.1, _, ?_, H.out.2.2.2.2.2⟩⟩)⟩⟩
      rfl
end Go.Proofs.Ythahadhdhpcndaa

/- slices.Clone of mails; post.Since. -/
namespace Go.Proofs.Ythahadhdhpcndaa
open Go Go.RowKit
set_option linter.unusedVariables false
set_option linter.unusedSimpArgs false

/-- The cells of a list, in a row. -/
theorem Elem.RdL.news {D : Type} {E : Elem D} {ok : Nat → Prop} {w : World} {a : Addr} {n c : Nat} {L : List D} (h : E.RdL ok w (.slice (some a) n c) L) (hn : 0 < n) :
    ∃ news : List Value, news.length = n * E.sz ∧ (∀ j u, news[j]? = some u → w.cell? (a.add j) = some u) ∧ (∀ u ∈ news, u.oneCell' = true) ∧ ∀ i d, L[i]? = some d → E.Rd ok w ((news.drop (i * E.sz)).take E.sz).toArray d := by
  obtain ⟨A, n', c', e, h1, _, h3⟩ := h
  injection e with e1 e2 e3
  subst e1 e2 e3
  obtain ⟨b, o, cur, t, fr, e, p1, p2, p3⟩ := h3 hn
  injection e with e
  subst e
  have hlen : o + n * E.sz ≤ cur.size := by
    obtain ⟨d, hd⟩ : ∃ d, L[n - 1]? = some d := ⟨L[n - 1]'(by omega), List.getElem?_eq_getElem _⟩
    have h5 := (p3 (n - 1) d hd).1
    have h4 : n * E.sz = (n - 1) * E.sz + E.sz := by
      conv => lhs; rw [show n = n - 1 + 1 by omega]
      rw [Nat.add_mul, Nat.one_mul]
    omega
  have hl : ((cur.toList.drop o).take (n * E.sz)).length = n * E.sz := by simp; omega
  have hsub : ∀ i, i < n → (i + 1) * E.sz ≤ n * E.sz := fun i hi => Nat.mul_le_mul_right _ hi
  have hx : ∀ i d, L[i]? = some d → ((((cur.toList.drop o).take (n * E.sz)).drop (i * E.sz)).take E.sz).toArray = cur.extract (o + i * E.sz) (o + i * E.sz + E.sz) := fun i d hd => by
    have hi : i < n := by have := (List.getElem?_eq_some_iff.1 hd).1; omega
    have := hsub i hi
    rw [Nat.add_mul, Nat.one_mul] at this
    apply Array.ext'
    rw [Array.toList_extract]
    simp only [List.toList_toArray, List.extract]
    rw [List.drop_take, List.take_take, Nat.min_eq_left (by omega), List.drop_drop]
    congr 1
    omega
  refine ⟨(cur.toList.drop o).take (n * E.sz), hl, fun j u hj => ?_, fun u hu => ?_, fun i d hd => ?_⟩
  · have hj2 := (List.getElem?_eq_some_iff.1 hj).1
    rw [hl] at hj2
    rw [List.getElem?_take_of_lt hj2, List.getElem?_drop] at hj
    rw [add_off, cell_of_row w b _ _ _ _ p2]
    simpa using hj
  · obtain ⟨j, hj, rfl⟩ := List.getElem_of_mem hu
    have hj2 : j < n * E.sz := by rw [← hl]; exact hj
    have hi : j / E.sz < n := Nat.div_lt_of_lt_mul (by rw [Nat.mul_comm]; exact hj2)
    obtain ⟨d, hd⟩ : ∃ d, L[j / E.sz]? = some d := ⟨L[j / E.sz]'(by omega), List.getElem?_eq_getElem _⟩
    have ho := E.one (p3 _ d hd).2
    refine ho _ ?_
    rw [← hx _ d hd]
    simp only [List.toList_toArray]
    have hm : j % E.sz < E.sz := Nat.mod_lt _ E.pos
    have hjj : j / E.sz * E.sz + j % E.sz = j := by rw [Nat.mul_comm]; exact Nat.div_add_mod j _
    refine List.mem_of_getElem? (i := j % E.sz) ?_
    rw [List.getElem?_take_of_lt hm, List.getElem?_drop, hjj, List.getElem?_eq_getElem hj]
  · rw [hx i d hd]
    exact (p3 i d hd).2
/-- A row of the call's own with these cells reads so. -/
theorem Elem.rdL_of {D : Type} {E : Elem D} {ok : Nat → Prop} {w : World} {B t n : Nat} {v : Value} {news : List Value} {L : List D} (h : w.ownsRow B t E.sz v n news) (hn : n = L.length) (hB : ∀ k, B ≤ k → ok k) (hsub : ∀ i d, L[i]? = some d → E.Rd ok w ((news.drop (i * E.sz)).take E.sz).toArray d) : E.RdL ok w v L := by
  rcases h.2 with ⟨h1, h2⟩ | ⟨g, cap, cur, h1, h2, h3, h4, h5, h6, h7⟩
  · exact ⟨none, 0, 0, h1, by omega, fun _ => ⟨rfl, rfl⟩, fun hp => absurd hp (by omega)⟩
  · refine ⟨some ⟨g, 0, none⟩, n, cap, h1, hn, (fun e => by cases e), fun hp => ⟨g, 0, cur, t, (0, 0), rfl, hB g h2, h3, fun i d hd => ?_⟩⟩
    have hi : i < n := by have := (List.getElem?_eq_some_iff.1 hd).1; omega
    have hm : (i + 1) * E.sz ≤ n * E.sz := Nat.mul_le_mul_right _ hi
    rw [Nat.add_mul, Nat.one_mul] at hm
    have hc : n * E.sz ≤ cap * E.sz := Nat.mul_le_mul_right _ h4
    refine ⟨by omega, ?_⟩
    have := hsub i d hd
    rw [← h7, List.drop_take, List.take_take, Nat.min_eq_left (by omega)] at this
    have e : cur.extract (0 + i * E.sz) (0 + i * E.sz + E.sz) = ((cur.toList.drop (i * E.sz)).take E.sz).toArray := by
      apply Array.ext'
      rw [Array.toList_extract]
      simp [List.extract]
    rw [e]
    exact this
set_option maxHeartbeats 4000000 in
set_option maxRecDepth 100000 in
theorem clone53 {ok : Nat → Prop} (v : Value) (L : List MailD) (w : World) (h : elemM.RdL ok w v L) (hL : L.length ≤ 1000000) :
    Calls Try.prog 53 #[v] w fun e w' => ∃ v', e = .returned v' ∧ elemM.RdL (fun b => ok b ∨ w.heap.size ≤ b) w' v' L ∧ Below w.heap.size w w' := by
  obtain ⟨A, c, rfl⟩ := h.slice
  cases A with
  | none =>
    have hn : L.length = 0 ∧ c = 0 := by
      obtain ⟨A, n, c', e, h1, h2, _⟩ := h
      injection e with e1 e2 e3
      subst e1 e3
      have := h2 rfl
      omega
    obtain ⟨h0, rfl⟩ := hn
    obtain rfl : L = [] := List.length_eq_zero_iff.1 h0
    have hq := Lib.run_eql_slice_nil (P := Try.prog) (w := w) (t := 74) (e := 40) (a := none) (n := 0) (c := 0) (n' := 0) (c' := 0) Try.underlying74
    clear h h0
    go_enter Try.func53, Try.ntmps53
    go_wp2
    go_ret
    exact ⟨_, rfl, ⟨none, 0, 0, rfl, rfl, fun _ => ⟨rfl, rfl⟩, fun hp => absurd hp (by omega)⟩, Below.refl _ _⟩
  | some a =>
    have hq : (binOp .eql 74 (.slice (some a) L.length c) (.slice none 0 0)).run Try.prog w = .ok (.bool false) w := by
      have := Lib.run_eql_slice_nil (P := Try.prog) (w := w) (t := 74) (e := 40) (a := some a) (n := L.length) (c := c) (n' := 0) (c' := 0) Try.underlying74
      simpa using this
    obtain ⟨i0, hinf, hz0, hz1, hz2⟩ := info_parts info40
    have hnews : ∃ news : List Value, news.length = L.length * 30 ∧ (∀ j u, news[j]? = some u → w.cell? (a.add j) = some u) ∧ (∀ u ∈ news, u.oneCell' = true) ∧ ∀ i d, L[i]? = some d → RdM ok w ((news.drop (i * 30)).take 30).toArray d := by
      by_cases hp : 0 < L.length
      · exact h.news hp
      · have h0 : L = [] := List.length_eq_zero_iff.1 (by omega)
        subst h0
        exact ⟨[], rfl, fun j u hj => by simp at hj, fun u hu => (by cases hu), fun i d hd => by simp at hd⟩
    obtain ⟨news, n1, n2, n3, n4⟩ := hnews
    have how : (w.alloc (.cells #[] 40)).ownsRow w.heap.size 40 30 (.slice (some ⟨w.heap.size, 0, none⟩) 0 0) 0 [] := ⟨rfl, .inr ⟨w.heap.size, 0, #[], rfl, Nat.le_refl _, heap_alloc_new w _, Nat.le_refl _, by unfold maxLen; omega, rfl, rfl⟩⟩
    have n5 : ∀ j u, news[j]? = some u → (w.alloc (.cells #[] 40)).cell? (a.add j) = some u := fun j u hj => by
      have := n2 j u hj
      rw [World.cell?_alloc_lt _ _ _ (World.block_lt_of_cell? w _ this)]
      exact this
    have HH := Lib.hid (And.intro n1 (And.intro n5 (And.intro n3 (And.intro n4 how))))
    clear h n1 n2 n3 n4 n5 how
    go_enter Try.func53, Try.ntmps53
    go_wp2_with (at_builtin; refine wpList_append_own_at _ rfl _ _ 74 rfl w.heap.size 40 i0 _ 30 336 Try.underlying74 hinf hz0 hz1 hz2 rfl (by decide) (.slice (some ⟨w.heap.size, 0, none⟩) 0 0) 0 [] rfl HH.out.2.2.2.2 a L.length c news rfl HH.out.1 HH.out.2.1 HH.out.2.2.1 (by unfold maxLen; omega) (by omega) (by simp) ?_)
    intro v' w' o1 o2 _ _
    have hb : Below w.heap.size w w' := ((Below.refl w.heap.size w).alloc (Nat.le_refl _) (.cells #[] 40)).grown o2 (by simp) (fun k hk => by simp [Value.ownBlock] at hk; omega)
    have hR : elemM.RdL (fun b => ok b ∨ w.heap.size ≤ b) w' v' L := Elem.rdL_of (E := elemM) (B := w.heap.size) (t := 40) (n := L.length) (news := news) o1 rfl (fun k hk => .inr hk) fun i d hd => by
      exact ((show RdM ok w _ d from HH.out.2.2.2.1 i d hd).keep (Kn.of_below hb)).mono fun b _ hp => .inl hp
    have HO := Lib.hid (And.intro hR hb)
    obtain ⟨A', c', rfl⟩ := hR.slice
    clear o1 o2 hb hR
    go_wp2_with fail
    go_ret
    exact ⟨_, rfl, HO.out.1, HO.out.2⟩
theorem Elem.RdL.drop {D : Type} {E : Elem D} {ok : Nat → Prop} {w : World} {b o n c k : Nat} {L : List D} (h : E.RdL ok w (.slice (some ⟨b, o, none⟩) n c) L) (hk : k ≤ n) {A : Addr} (hA : (if c = k then some (⟨b, o, none⟩ : Addr) else some ⟨b, o + k * E.sz, none⟩) = some A) (hc : n ≤ c) : E.RdL ok w (.slice (some A) (n - k) (c - k)) (L.drop k) := by
  obtain ⟨A', n', c', e, h1, _, h3⟩ := h
  injection e with e1 e2 e3
  subst e1 e2 e3
  refine ⟨_, n - k, c - k, rfl, by rw [List.length_drop]; omega, (fun e => by cases e), fun hp => ?_⟩
  obtain ⟨b', o', cur, t, fr, e, p1, p2, p3⟩ := h3 (by omega)
  injection e with e
  injection e with eb eo
  subst eb eo
  rw [if_neg (by omega)] at hA
  injection hA with hA
  subst hA
  refine ⟨b, o + k * E.sz, cur, t, fr, rfl, p1, p2, fun i d hd => ?_⟩
  rw [List.getElem?_drop] at hd
  have := p3 (k + i) d hd
  rw [Nat.add_mul, ← Nat.add_assoc] at this
  exact this
structure SinceF (ok : Nat → Prop) (b4 p op : Nat) (cu : Int) (ms : List MailD) (w : World) (e : Ending) (w' : World) : Prop where
  out : (¬ (0 ≤ cu ∧ cu ≤ (ms.length : Int)) ∧ e = .returned (.int .i64 1) ∧ ∃ k, w' = w.drewN k) ∨ ((0 ≤ cu ∧ cu ≤ (ms.length : Int)) ∧ e = .returned (.int .i64 0) ∧ ∃ v' w3, Below w.heap.size w w3 ∧ w' = w3.setCell ⟨op, 0, none⟩ v' ∧ elemM.RdL (fun b => ok b ∨ w.heap.size ≤ b) w3 v' (ms.drop cu.toNat))
set_option maxHeartbeats 4000000 in
set_option maxRecDepth 100000 in
theorem since52 {ok : Nat → Prop} {w : World} {b4 p kp op : Nat} {cur : Array Value} {vm : Value} {cu : Int} {ms : List MailD} (hb : w.heap[b4]? = some (.cells cur 76 (0, 0))) (g2 : cur[p + 2]? = some vm) (hM : elemM.RdL ok w vm ms) (hcap : ∀ A n c, vm = .slice A n c → n ≤ c ∧ c ≤ maxLen ∧ (∀ a, A = some a → ∃ bb, a = ⟨bb, 0, none⟩)) (hms : ms.length ≤ 1000000)
    (hk : w.cell? ⟨kp, 0, none⟩ = some (.int .i64 cu)) (hcu : -9223372036854775808 ≤ cu ∧ cu ≤ 9223372036854775807) (ho : w.heap[op]? = some (.cells #[.slice none 0 0] 74 (0, 0))) :
    Calls Try.prog 52 #[.pointer (some ⟨b4, p, none⟩), .pointer (some ⟨kp, 0, none⟩), .pointer (some ⟨op, 0, none⟩)] w fun e w' => SinceF ok b4 p op cu ms w e w' := by
  obtain ⟨A, c, rfl⟩ := hM.slice
  have l1 : w.cell? ⟨b4, p + 2, none⟩ = some (.slice A ms.length c) := (cell_of_row w b4 _ _ _ _ hb).trans g2
  by_cases t1 : cu < 0
  · have u1 : decide (cu < 0) = true := decide_eq_true t1
    have HE := Lib.hid (show ¬ (0 ≤ cu ∧ cu ≤ (ms.length : Int)) by omega)
    clear t1 hb g2 hM hcap ho
    go_enter Try.func52, Try.ntmps52
    go_wp2_with fail
    go_quiet (fail)
    go_wp2
    go_ret
    exact ⟨.inl ⟨HE.out, rfl, _, rfl⟩⟩
  have u1 : decide (cu < 0) = false := decide_eq_false t1
  by_cases t2 : cu > (ms.length : Int)
  · have u2 : decide (cu > (ms.length : Int)) = true := decide_eq_true t2
    have HE := Lib.hid (show ¬ (0 ≤ cu ∧ cu ≤ (ms.length : Int)) by omega)
    clear t1 t2 hb g2 hM hcap ho
    go_enter Try.func52, Try.ntmps52
    go_wp2_with fail
    go_quiet (fail)
    go_wp2
    go_ret
    exact ⟨.inl ⟨HE.out, rfl, _, rfl⟩⟩
  have u2 : decide (cu > (ms.length : Int)) = false := decide_eq_false t2
  have HE := Lib.hid (show 0 ≤ cu ∧ cu ≤ (ms.length : Int) by omega)
  obtain ⟨k, rfl⟩ := Int.eq_ofNat_of_zero_le (show 0 ≤ cu by omega)
  have hkm : k ≤ ms.length := by have := HE.out.2; omega
  have k0 : (0 : Int) ≤ (k : Int) := by omega
  have k1 : (k : Int) ≤ (ms.length : Int) := by omega
  obtain ⟨hc1, hc2, hc3⟩ := hcap A ms.length c rfl
  clear t1 t2
  cases A with
  | none =>
    have h00 : ms.length = 0 ∧ c = 0 := by
      obtain ⟨A, n, c', e, h1, h2, _⟩ := hM
      injection e with e1 e2 e3
      subst e1 e3
      have := h2 rfl
      omega
    obtain ⟨h0, rfl⟩ := h00
    obtain rfl : ms = [] := List.length_eq_zero_iff.1 h0
    obtain rfl : k = 0 := by simpa using hkm
    have hcc : ∀ w', Below w.heap.size w w' → w'.cell? ⟨b4, p + 2, none⟩ = some (.slice none 0 0) ∧ w'.cell? ⟨kp, 0, none⟩ = some (.int .i64 (0 : Int)) ∧ Below w.heap.size w w' := fun w' hw => ⟨(hw.cell (p := ⟨b4, p + 2, none⟩) (World.block_lt_of_cell? w _ l1)).trans l1, (hw.cell (p := ⟨kp, 0, none⟩) (World.block_lt_of_cell? w _ hk)).trans hk, hw⟩
    have HC := Lib.hid hcc
    have HMD := Lib.hid (fun w' (hw : Below w.heap.size w w') => (show elemM.RdL ok w (.slice none 0 0) [] from ⟨none, 0, 0, rfl, rfl, fun _ => ⟨rfl, rfl⟩, fun h => absurd h (by omega)⟩).keep (Kn.of_below hw))
    have HO := Lib.hid ho
    have hpo := lt_of_some ho
    have hdl : ([] : List MailD).length ≤ 1000000 := by simp
    have HCL := Lib.hid (fun nq => (clone53 (ok := ok) (.slice none 0 0) ([] : List MailD) (w.drewN nq) (HMD.out _ (below_drewN (Below.refl w.heap.size w) nq)) hdl).mono (R' := fun e w' => ∃ A3 c3, e = .returned (.slice A3 ([] : List MailD).length c3) ∧ elemM.RdL (fun b => ok b ∨ w.heap.size ≤ b) w' (.slice A3 ([] : List MailD).length c3) ([] : List MailD) ∧ Below w.heap.size w w') (by
      rintro e w3 ⟨v3, rfl, R3, B3⟩
      obtain ⟨A3, c3, rfl⟩ := R3.slice
      have s2 := below_drewN (Below.refl w.heap.size w) nq
      exact ⟨A3, c3, rfl, R3, s2.trans (B3.mono s2.size)⟩))
    clear hkm k0 k1 h0 u1 u2 hc1 hc3 hb g2 hM hcap ho hcc
    go_enter Try.func52, Try.ntmps52
    go_wp2_with fail
    go_quiet (fail)
    go_wp2_with fail
    refine Go.Proofs.Phase.wp_region_ph (S := (fun w' => w'.cell? ⟨b4, p + 2, none⟩ = some (.slice none 0 0) ∧ w'.cell? ⟨kp, 0, none⟩ = some (.int .i64 (0 : Int)) ∧ Below w.heap.size w w')) 7 (by kernel_rfl) ?_ (fun hHeld => ?_)
    · ((try dsimp only) <;> (first | exact HC.out _ (by assumption) | exact HC.out _ (below_drewN (Below.refl _ _) _).drew | exact HC.out _ (below_drewN (Below.refl _ _) _)))
    refine Go.Proofs.Phase.wpPh_take' (i := 0) (by simp only [List.getElem?_toArray, List.getElem?_cons_succ, List.getElem?_cons_zero]; rfl) ?_
    refine ⟨?_, ⟨by kernel_rfl, by kernel_rfl, by kernel_rfl, by kernel_rfl⟩, fun _ _ _ h => h, Or.inl ⟨by rfl, ?_⟩, by assumption, ?_⟩
    rotate_left
    · (intro w hSw; (try dsimp only at hSw); go_simp; with_reducible rfl)
    try simp only [Act.put, List.setIfInBounds_toArray, List.set_cons_zero, List.set_cons_succ]
    refine Go.Proofs.Phase.wpPh_take' (i := 1) (by simp only [List.getElem?_toArray, List.getElem?_cons_succ, List.getElem?_cons_zero]; rfl) ?_
    refine ⟨?_, ⟨by kernel_rfl, by kernel_rfl, by kernel_rfl, by kernel_rfl⟩, fun _ _ _ h => h, Or.inl ⟨by rfl, ?_⟩, by assumption, ?_⟩
    rotate_left
    · (intro w hSw; (try dsimp only at hSw); go_simp; with_reducible rfl)
    try simp only [Act.put, List.setIfInBounds_toArray, List.set_cons_zero, List.set_cons_succ]
    refine Go.Proofs.Phase.wpPh_take' (i := 2) (by simp only [List.getElem?_toArray, List.getElem?_cons_succ, List.getElem?_cons_zero]; rfl) ?_
    refine ⟨?_, ⟨by kernel_rfl, by kernel_rfl, by kernel_rfl, by kernel_rfl⟩, fun _ _ _ h => h, Or.inl ⟨by rfl, ?_⟩, by assumption, ?_⟩
    rotate_left
    · (intro w hSw; (try dsimp only at hSw); go_simp; with_reducible rfl)
    try simp only [Act.put, List.setIfInBounds_toArray, List.set_cons_zero, List.set_cons_succ]
    refine Go.Proofs.Phase.wpPh_take' (i := 3) (by simp only [List.getElem?_toArray, List.getElem?_cons_succ, List.getElem?_cons_zero]; rfl) ?_
    refine ⟨?_, ⟨by kernel_rfl, by kernel_rfl, by kernel_rfl, by kernel_rfl⟩, fun _ _ _ h => h, Or.inl ⟨by rfl, ?_⟩, by assumption, ?_⟩
    rotate_left
    · (intro w hSw; (try dsimp only at hSw); go_simp; with_reducible rfl)
    try simp only [Act.put, List.setIfInBounds_toArray, List.set_cons_zero, List.set_cons_succ]
    refine Go.Proofs.Phase.wpPh_take' (i := 4) (by simp only [List.getElem?_toArray, List.getElem?_cons_succ, List.getElem?_cons_zero]; rfl) ?_
    refine ⟨?_, ⟨by kernel_rfl, by kernel_rfl, by kernel_rfl, by kernel_rfl⟩, fun _ _ _ h => h, Or.inl ⟨by rfl, ?_⟩, by assumption, ?_⟩
    rotate_left
    · (intro w hSw; (try dsimp only at hSw); go_simp; with_reducible rfl)
    try simp only [Act.put, List.setIfInBounds_toArray, List.set_cons_zero, List.set_cons_succ]
    refine Go.Proofs.Phase.wpPh_take' (i := 5) (by simp only [List.getElem?_toArray, List.getElem?_cons_succ, List.getElem?_cons_zero]; rfl) ?_
    refine ⟨?_, ⟨by kernel_rfl, by kernel_rfl, by kernel_rfl, by kernel_rfl⟩, fun _ _ _ h => h, Or.inl ⟨by rfl, ?_⟩, by assumption, ?_⟩
    rotate_left
    · (intro w hSw; (try dsimp only at hSw); go_simp; with_reducible rfl)
    try simp only [Act.put, List.setIfInBounds_toArray, List.set_cons_zero, List.set_cons_succ]
    refine Go.Proofs.Phase.wpPh_before (i := 6) (by kernel_rfl) (by simp only [List.getElem?_toArray, List.getElem?_cons_succ, List.getElem?_cons_zero]; rfl) (fun K hK => ?_)
    go_simp
    (((with_reducible refine (HCL.out _).mono ?_); rintro e w3 ⟨A3, c3, rfl, R3, K3⟩; have y3 := (K3.block _ hpo).trans HO.out; have q3 : w3.cell? ⟨op, 0, none⟩ = some (.slice none 0 0) := (cell_of_row w3 _ 0 _ _ _ y3).trans rfl; have f3 : w3.frozen? ⟨op, 0, none⟩ = false := frozen_of_row w3 _ 0 _ _ y3))
    go_wp2_with fail
    refine hK.out _ _ ?_ (fun hHeldN => ?_)
    · ((try dsimp only) <;> (first | exact HC.out _ (by assumption) | exact HC.out _ (below_drewN (Below.refl _ _) _).drew | exact HC.out _ (below_drewN (Below.refl _ _) _)))
    clear hHeld
    have hHeld := hHeldN
    clear hHeldN
    clear hK K
    try simp only [Act.put, List.setIfInBounds_toArray, List.set_cons_zero, List.set_cons_succ]
    refine Go.Proofs.Phase.wpPh_behind (i := 7) (by kernel_rfl) (by simp only [List.getElem?_toArray, List.getElem?_cons_succ, List.getElem?_cons_zero]; rfl) (by kernel_rfl) (fun K hK => ?_)
    go_simp
    refine hK.out _ _ ?_
    clear hK K
    try simp only [Act.put, List.setIfInBounds_toArray, List.set_cons_zero, List.set_cons_succ]
    refine Go.Proofs.Phase.wpPh_done (by kernel_rfl) ?_ _
    have HF := Lib.hid (And.intro K3 R3)
    clear K3 R3 y3
    go_wp2_with fail
    go_ret
    exact ⟨.inr ⟨HE.out, rfl, _, w3, HF.out.1, rfl, HF.out.2⟩⟩
  | some a =>
    obtain ⟨bb, rfl⟩ := hc3 a rfl
    obtain ⟨A2, hA2⟩ : ∃ A : Addr, (if c = k then some (⟨bb, 0, none⟩ : Addr) else some ⟨bb, 0 + k * elemM.sz, none⟩) = some A := by split <;> exact ⟨_, rfl⟩
    have hRD := Elem.RdL.drop hM hkm hA2 hc1
    have hA3 : (if c = k then some (⟨bb, 0, none⟩ : Addr) else some ⟨bb, k * 30, none⟩) = some A2 := by
      rw [← hA2]
      congr 1
      rw [Nat.zero_add]
      rfl
    have hkc : k ≤ c := by omega
    have hcc : ∀ w', Below w.heap.size w w' → w'.cell? ⟨b4, p + 2, none⟩ = some (.slice (some ⟨bb, 0, none⟩) ms.length c) ∧ w'.cell? ⟨kp, 0, none⟩ = some (.int .i64 (k : Int)) ∧ Below w.heap.size w w' := fun w' hw => ⟨(hw.cell (p := ⟨b4, p + 2, none⟩) (World.block_lt_of_cell? w _ l1)).trans l1, (hw.cell (p := ⟨kp, 0, none⟩) (World.block_lt_of_cell? w _ hk)).trans hk, hw⟩
    have HC := Lib.hid hcc
    have HMD := Lib.hid (fun w' (hw : Below w.heap.size w w') => hRD.keep (Kn.of_below hw))
    have HO := Lib.hid ho
    have hpo := lt_of_some ho
    have hdl : (ms.drop k).length ≤ 1000000 := by rw [List.length_drop]; omega
    have HCL := Lib.hid (fun nq => (clone53 (ok := ok) (.slice (some A2) (ms.length - k) (c - k)) (ms.drop k) (w.drewN nq) (HMD.out _ (below_drewN (Below.refl w.heap.size w) nq)) hdl).mono (R' := fun e w' => ∃ A3 c3, e = .returned (.slice A3 (ms.drop k).length c3) ∧ elemM.RdL (fun b => ok b ∨ w.heap.size ≤ b) w' (.slice A3 (ms.drop k).length c3) (ms.drop k) ∧ Below w.heap.size w w') (by
      rintro e w3 ⟨v3, rfl, R3, B3⟩
      obtain ⟨A3, c3, rfl⟩ := R3.slice
      have s2 := below_drewN (Below.refl w.heap.size w) nq
      exact ⟨A3, c3, rfl, R3, s2.trans (B3.mono s2.size)⟩))
    clear hA2 hRD hc3 hb g2 hM hcap ho hcc
    go_enter Try.func52, Try.ntmps52
    go_wp2_with fail
    go_quiet (fail)
    go_wp2_with fail
    refine Go.Proofs.Phase.wp_region_ph (S := (fun w' => w'.cell? ⟨b4, p + 2, none⟩ = some (.slice (some ⟨bb, 0, none⟩) ms.length c) ∧ w'.cell? ⟨kp, 0, none⟩ = some (.int .i64 (k : Int)) ∧ Below w.heap.size w w')) 7 (by kernel_rfl) ?_ (fun hHeld => ?_)
    · ((try dsimp only) <;> (first | exact HC.out _ (by assumption) | exact HC.out _ (below_drewN (Below.refl _ _) _).drew | exact HC.out _ (below_drewN (Below.refl _ _) _)))
    refine Go.Proofs.Phase.wpPh_take' (i := 0) (by simp only [List.getElem?_toArray, List.getElem?_cons_succ, List.getElem?_cons_zero]; rfl) ?_
    refine ⟨?_, ⟨by kernel_rfl, by kernel_rfl, by kernel_rfl, by kernel_rfl⟩, fun _ _ _ h => h, Or.inl ⟨by rfl, ?_⟩, by assumption, ?_⟩
    rotate_left
    · (intro w hSw; (try dsimp only at hSw); go_simp; with_reducible rfl)
    try simp only [Act.put, List.setIfInBounds_toArray, List.set_cons_zero, List.set_cons_succ]
    refine Go.Proofs.Phase.wpPh_take' (i := 1) (by simp only [List.getElem?_toArray, List.getElem?_cons_succ, List.getElem?_cons_zero]; rfl) ?_
    refine ⟨?_, ⟨by kernel_rfl, by kernel_rfl, by kernel_rfl, by kernel_rfl⟩, fun _ _ _ h => h, Or.inl ⟨by rfl, ?_⟩, by assumption, ?_⟩
    rotate_left
    · (intro w hSw; (try dsimp only at hSw); go_simp; with_reducible rfl)
    try simp only [Act.put, List.setIfInBounds_toArray, List.set_cons_zero, List.set_cons_succ]
    refine Go.Proofs.Phase.wpPh_take' (i := 2) (by simp only [List.getElem?_toArray, List.getElem?_cons_succ, List.getElem?_cons_zero]; rfl) ?_
    refine ⟨?_, ⟨by kernel_rfl, by kernel_rfl, by kernel_rfl, by kernel_rfl⟩, fun _ _ _ h => h, Or.inl ⟨by rfl, ?_⟩, by assumption, ?_⟩
    rotate_left
    · (intro w hSw; (try dsimp only at hSw); go_simp; with_reducible rfl)
    try simp only [Act.put, List.setIfInBounds_toArray, List.set_cons_zero, List.set_cons_succ]
    refine Go.Proofs.Phase.wpPh_take' (i := 3) (by simp only [List.getElem?_toArray, List.getElem?_cons_succ, List.getElem?_cons_zero]; rfl) ?_
    refine ⟨?_, ⟨by kernel_rfl, by kernel_rfl, by kernel_rfl, by kernel_rfl⟩, fun _ _ _ h => h, Or.inl ⟨by rfl, ?_⟩, by assumption, ?_⟩
    rotate_left
    · (intro w hSw; (try dsimp only at hSw); go_simp; with_reducible rfl)
    try simp only [Act.put, List.setIfInBounds_toArray, List.set_cons_zero, List.set_cons_succ]
    refine Go.Proofs.Phase.wpPh_take' (i := 4) (by simp only [List.getElem?_toArray, List.getElem?_cons_succ, List.getElem?_cons_zero]; rfl) ?_
    refine ⟨?_, ⟨by kernel_rfl, by kernel_rfl, by kernel_rfl, by kernel_rfl⟩, fun _ _ _ h => h, Or.inl ⟨by rfl, ?_⟩, by assumption, ?_⟩
    rotate_left
    · (intro w hSw; (try dsimp only at hSw); go_simp; with_reducible rfl)
    try simp only [Act.put, List.setIfInBounds_toArray, List.set_cons_zero, List.set_cons_succ]
    refine Go.Proofs.Phase.wpPh_take' (i := 5) (by simp only [List.getElem?_toArray, List.getElem?_cons_succ, List.getElem?_cons_zero]; rfl) ?_
    refine ⟨?_, ⟨by kernel_rfl, by kernel_rfl, by kernel_rfl, by kernel_rfl⟩, fun _ _ _ h => h, Or.inl ⟨by rfl, ?_⟩, by assumption, ?_⟩
    rotate_left
    · (intro w hSw; (try dsimp only at hSw); go_simp; with_reducible rfl)
    try simp only [Act.put, List.setIfInBounds_toArray, List.set_cons_zero, List.set_cons_succ]
    refine Go.Proofs.Phase.wpPh_before (i := 6) (by kernel_rfl) (by simp only [List.getElem?_toArray, List.getElem?_cons_succ, List.getElem?_cons_zero]; rfl) (fun K hK => ?_)
    go_simp
    (((with_reducible refine (HCL.out _).mono ?_); rintro e w3 ⟨A3, c3, rfl, R3, K3⟩; have y3 := (K3.block _ hpo).trans HO.out; have q3 : w3.cell? ⟨op, 0, none⟩ = some (.slice none 0 0) := (cell_of_row w3 _ 0 _ _ _ y3).trans rfl; have f3 : w3.frozen? ⟨op, 0, none⟩ = false := frozen_of_row w3 _ 0 _ _ y3))
    go_wp2_with fail
    refine hK.out _ _ ?_ (fun hHeldN => ?_)
    · ((try dsimp only) <;> (first | exact HC.out _ (by assumption) | exact HC.out _ (below_drewN (Below.refl _ _) _).drew | exact HC.out _ (below_drewN (Below.refl _ _) _)))
    clear hHeld
    have hHeld := hHeldN
    clear hHeldN
    clear hK K
    try simp only [Act.put, List.setIfInBounds_toArray, List.set_cons_zero, List.set_cons_succ]
    refine Go.Proofs.Phase.wpPh_behind (i := 7) (by kernel_rfl) (by simp only [List.getElem?_toArray, List.getElem?_cons_succ, List.getElem?_cons_zero]; rfl) (by kernel_rfl) (fun K hK => ?_)
    go_simp
    refine hK.out _ _ ?_
    clear hK K
    try simp only [Act.put, List.setIfInBounds_toArray, List.set_cons_zero, List.set_cons_succ]
    refine Go.Proofs.Phase.wpPh_done (by kernel_rfl) ?_ _
    have HF := Lib.hid (And.intro K3 R3)
    clear K3 R3 y3
    go_wp2_with fail
    go_ret
    exact ⟨.inr ⟨HE.out, rfl, _, w3, HF.out.1, rfl, (by have := HF.out.2; rw [List.length_drop] at this; exact this)⟩⟩
end Go.Proofs.Ythahadhdhpcndaa

/- post.Since: what it answers. -/
namespace Go.Proofs.Ythahadhdhpcndaa
open Go Go.RowKit
set_option linter.unusedVariables false
set_option linter.unusedSimpArgs false

theorem since_cap {ok : Nat → Prop} {w : World} {vm : Value} {mcs : List (Array Value)} {L : List MailD} (h : OwnM ok w vm mcs L) : ∀ A n c, vm = .slice A n c → n ≤ c ∧ c ≤ maxLen ∧ (∀ a, A = some a → ∃ bb, a = ⟨bb, 0, none⟩) := by
  intro A n c e
  rcases h.row.2 with ⟨h1, h2⟩ | ⟨b, cap, cur, h1, h2, h3, h4, h5, h6, h7⟩
  · rw [h1] at e
    injection e with e1 e2 e3
    subst e1 e2 e3
    exact ⟨Nat.le_refl _, by unfold maxLen; omega, fun a e => by cases e⟩
  · rw [h1] at e
    injection e with e1 e2 e3
    subst e1 e2 e3
    exact ⟨h4, h5, fun a e => ⟨b, by injection e with e; exact e.symm⟩⟩
/-- What Since answers. -/
structure SinceP (L : List BoxD) (dev cu : Int) (w : World) (e : Ending) (w' : World) : Prop where
  out : Below w.heap.size w w' ∧ ((chk 0 L = false ∧ e = .returned (.tuple #[.slice none 0 0, .int .i64 1])) ∨ (chk 0 L = true ∧ (∀ d ∈ L, d.d ≠ dev) ∧ e = .returned (.tuple #[.slice none 0 0, .int .i64 7])) ∨
    (chk 0 L = true ∧ ∃ (i : Nat) (d : BoxD), L[i]? = some d ∧ d.d = dev ∧ ((¬ (0 ≤ cu ∧ cu ≤ (d.m.length : Int)) ∧ e = .returned (.tuple #[.slice none 0 0, .int .i64 1])) ∨ ((0 ≤ cu ∧ cu ≤ (d.m.length : Int)) ∧ ∃ v', e = .returned (.tuple #[v', .int .i64 0]) ∧ elemM.RdL (fun _ => True) w' v' (d.m.drop cu.toNat)))))
set_option maxHeartbeats 4000000 in
theorem since32 {ok : Nat → Prop} (v : Value) (L : List BoxD) (dev cu : Int) (w : World) (h : elemB.RdL ok w v L) (hL : L.length ≤ 1000000) (hS : ∀ d ∈ L, SzB d) (hm : ∀ d ∈ L, d.m.length ≤ 1000000) (hdev : -9223372036854775808 ≤ dev ∧ dev ≤ 9223372036854775807) (hcu : -9223372036854775808 ≤ cu ∧ cu ≤ 9223372036854775807) :
    Calls Try.prog 32 #[v, .int .i64 dev, .int .i64 cu] w fun e w' => SinceP L dev cu w e w' := by
  obtain ⟨w1, hw1⟩ : ∃ w1 : World, w1 = (w.alloc (.cells #[.int .i64 cu] 3)).alloc (.cells #[.slice none 0 0] 74) := ⟨_, rfl⟩
  have hb1 : Below w.heap.size w w1 := by rw [hw1]; exact ((Below.refl _ _).alloc (Nat.le_refl _) _).alloc (by simp) _
  have hsz : w1.heap.size = w.heap.size + 1 + 1 := by rw [hw1]; simp
  have x1 : w1.heap[w.heap.size]? = some (.cells #[.int .i64 cu] 3 (0, 0)) := by
    rw [hw1]
    exact (Below.heap_alloc _ _ _ (by simp)).trans (heap_alloc_new w _)
  have x2 : w1.heap[w.heap.size + 1]? = some (.cells #[.slice none 0 0] 74 (0, 0)) := by
    rw [hw1]
    have := heap_alloc_new (w.alloc (.cells #[.int .i64 cu] 3)) (.cells #[.slice none 0 0] 74)
    simpa using this
  have M := turn46_52 (.pointer (some ⟨w.heap.size, 0, none⟩)) (.pointer (some ⟨w.heap.size + 1, 0, none⟩)) v L dev w1 (h.keep (Kn.of_below hb1)) hL hS hdev
    (fun i d v4 code w' => Below w.heap.size w w' ∧ ((¬ (0 ≤ cu ∧ cu ≤ (d.m.length : Int)) ∧ code = 1 ∧ w'.cell? ⟨w.heap.size + 1, 0, none⟩ = some (.slice none 0 0)) ∨ ((0 ≤ cu ∧ cu ≤ (d.m.length : Int)) ∧ code = 0 ∧ (∃ A c, v4 = .slice A L.length c) ∧ ∃ v', w'.cell? ⟨w.heap.size + 1, 0, none⟩ = some v' ∧ elemM.RdL (fun _ => True) w' v' (d.m.drop cu.toNat)))) (fun w4 i d v4 cs4 f B b4 cur4 x4 hQ => by
    obtain ⟨vm, mcs, e, hM, g0, g1, g2, g3⟩ := hQ.box
    have hi := (List.getElem?_eq_some_iff.1 hQ.hd).1
    have y2 := (hQ.below.block _ (lt_of_some x2)).trans x2
    have hck : w4.cell? ⟨w.heap.size, 0, none⟩ = some (.int .i64 cu) := (cell_of_row w4 _ 0 _ _ _ ((hQ.below.block _ (lt_of_some x1)).trans x1)).trans rfl
    have hq2 : w4.cell? ⟨w.heap.size + 1, 0, none⟩ = some (.slice none 0 0) := (cell_of_row w4 _ 0 _ _ _ y2).trans rfl
    refine (since52 (p := i * 4) hQ.cur g2 hM.rdL (since_cap hM) (hm d (List.mem_of_getElem? hQ.hd)) hck hcu y2).mono ?_
    rintro e w' hD
    have hB4 := hb1.trans (hQ.below.mono hb1.size)
    rcases hD.out with ⟨h1, rfl, k, rfl⟩ | ⟨h1, rfl, v', w3, h2, rfl, h3⟩
    · exact ⟨_, rfl, below_drewN hB4 k, .inl ⟨h1, rfl, hq2⟩⟩
    · have hB3 := hB4.trans (h2.mono hB4.size)
      have y3 := (h2.block _ (lt_of_some y2)).trans y2
      refine ⟨_, rfl, hB3.setCell (by show _ ≤ w.heap.size + 1; omega) _, .inr ⟨h1, rfl, hQ.own.slice, v', ?_, ?_⟩⟩
      · have := heap_setCell_same w3 (w.heap.size + 1) 0 _ _ v' y3
        exact (cell_of_row _ _ 0 _ _ _ this).trans (by simp)
      · have hlo := hQ.own.le 0 i (Nat.zero_le _) (Nat.le_of_lt hi)
        have hl0 := hQ.own.lo
        have hl1 := hQ.lo
        have hsz4 := hQ.below.size
        refine (h3.mono (ok' := fun b => b ≠ w.heap.size + 1) fun b _ hp => ?_).keep (Kn.setCell w3 _ _ _ (by simp)) |>.mono fun _ _ _ => trivial
        rcases hp with ⟨hp, _⟩ | hp <;> omega)
  obtain ⟨A, c, rfl⟩ := h.slice
  have HB1 := Lib.hid (And.intro hb1 (And.intro x1 x2))
  clear h hS x1 hb1
  subst hw1
  go_enter Try.func32, Try.ntmps32
  go_wp2_with fail
  refine M.mono ?_
  intro e w' hT
  rcases hT.out with ⟨h1, rfl, h2⟩ | ⟨h1, h3, rfl, h2⟩ | ⟨h1, i, d, v4, code, h2, h3, rfl, h4, h6⟩
  · have hc : w'.cell? ⟨w.heap.size + 1, 0, none⟩ = some (.slice none 0 0) := (cell_of_row w' _ 0 _ _ _ ((h2.block _ (lt_of_some HB1.out.2.2)).trans HB1.out.2.2)).trans rfl
    have H := Lib.hid (And.intro h1 (HB1.out.1.trans (h2.mono HB1.out.1.size)))
    clear M hT h1 h2
    go_wp2_with fail
    go_ret2
    exact ⟨⟨H.out.2, .inl ⟨H.out.1, rfl⟩⟩⟩
  · have hc : w'.cell? ⟨w.heap.size + 1, 0, none⟩ = some (.slice none 0 0) := (cell_of_row w' _ 0 _ _ _ ((h2.block _ (lt_of_some HB1.out.2.2)).trans HB1.out.2.2)).trans rfl
    have H := Lib.hid (And.intro h1 (And.intro (HB1.out.1.trans (h2.mono HB1.out.1.size)) h3))
    clear M hT h1 h2 h3
    go_wp2_with fail
    go_ret2
    exact ⟨⟨H.out.2.1, .inr (.inl ⟨H.out.1, H.out.2.2, rfl⟩)⟩⟩
  · rcases h6 with ⟨h6, rfl, hc⟩ | ⟨h6, rfl, ⟨A4, c4, rfl⟩, v', hc, h5⟩
    · have H := Lib.hid (And.intro h1 (And.intro h2 (And.intro h3 (And.intro h4 h6))))
      clear M hT h1 h2 h3 h4 h6
      rw [if_neg (by decide)]
      go_wp2_with fail
      go_ret2
      exact ⟨⟨H.out.2.2.2.1, .inr (.inr ⟨H.out.1, i, d, H.out.2.1, H.out.2.2.1, .inl ⟨H.out.2.2.2.2, rfl⟩⟩)⟩⟩
    · have hs5 := h5.slice
      rw [List.length_drop] at hs5
      obtain ⟨A', c', rfl⟩ := hs5
      have H := Lib.hid (And.intro h1 (And.intro h2 (And.intro h3 (And.intro h4 (And.intro h6 h5)))))
      clear M hT h1 h2 h3 h4 h5 h6
      go_wp2_with fail
      go_ret2
      refine ⟨⟨H.out.2.2.2.1, .inr (.inr ⟨H.out.1, i, d, H.out.2.1, H.out.2.2.1, .inr ⟨H.out.2.2.2.2.1, _, ?_, H.out.2.2.2.2.2⟩⟩)⟩⟩
      rfl
end Go.Proofs.Ythahadhdhpcndaa

/- slices.Insert of one box ahead of one box: there is room. -/
namespace Go.Proofs.Ythahadhdhpcndaa
open Go Go.RowKit
set_option linter.unusedVariables false
set_option linter.unusedSimpArgs false

theorem run_copy_part {P : Program} (w : World) (dT sT ty elem : TypeId) (sz b o dLen dCap : Nat) (a : Addr) (sLen sCap : Nat) (cs : List Value)
    (hu : P.underlying dT = some (.slice elem)) (hs : (P.info? elem).map (·.size) = some sz) (hn : cs.length = Nat.min sLen dLen * sz)
    (hsrc : ∀ j v, cs[j]? = some v → w.cell? (a.add j) = some v) (hc : ∀ j, j < cs.length → (w.cell? ⟨b, o + j, none⟩).isSome = true) (hf : ∀ j, j < cs.length → w.frozen? ⟨b, o + j, none⟩ = false) (h1 : ∀ v ∈ cs, v.oneCell' = true) :
    (Builtin.copy_ #[dT, sT] ty #[.slice (some ⟨b, o, none⟩) dLen dCap, .slice (some a) sLen sCap]).run P w = .ok (goInt (Nat.min sLen dLen)) (w.setCells b o cs) := by
  have hl := run_loadCells_list (P := P) w a cs hsrc
  have hst := run_storeCells_cells (P := P) b o cs 0 w (by simpa using hc) (by simpa using hf) h1
  cases hq : P.info? elem with
  | none => simp [hq] at hs
  | some i =>
    have hi : i.size = sz := by simpa [hq] using hs
    simp [Builtin.copy_, run_underlying hu, Builtin.lenOf, Builtin.firstCells, sizeOf, typeInfo, hq, hi, ← hn, hl, hst]
theorem wpList_copy_eq {P : Program} (w : World) {ops : Array Oper} {rest : List Oper} {o : Oper} {a : Act} {Q : Exit → Act → World → Prop} (hgd : o.guard = none) (d s : Operand) (t t' : TypeId)
    (ho : o.op = .call { callee := .builtin .copy, args := #[d, s], argTypes := #[t, t'] }) (v u : Value) (hd : a.eval d = v) (hs : a.eval s = u) {v' : Value} {w' : World}
    (hr : (Builtin.copy_ #[t, t'] o.type #[v, u]).run P w = .ok v' w') (h : wpList P ops Q rest (a.put o.dst v') w') : wpList P ops Q (o :: rest) a w := by
  refine wpList_plain hgd fun K hK => ?_
  unfold Oper.wp execOp
  simp only [ho, resolve, invoke, builtin, Sem.run_bind, Sem.run_pure, Result.andThen_ok, List.map_toArray, List.map_cons, List.map_nil, hd, hs, hr]
  exact hK _ _ h
theorem step_copy_eq {P : Program} {ops : Array Oper} {o : Oper} {a : Act} {w : World} {K : Act → World → Prop} {Q : Exit → Act → World → Prop} {E : Prop}
    (hg : o.guard = none) (d x : Operand) (dT sT : TypeId) (hop : o.op = Op.call { callee := Callee.builtin Builtin.copy, args := #[d, x], argTypes := #[dT, sT] })
    (v u : Value) (hd : a.eval d = v) (hx : a.eval x = u) {v' : Value} {w' : World} (hr : (Builtin.copy_ #[dT, sT] o.type #[v, u]).run P w = .ok v' w') (hK : K (a.put o.dst v') w') :
    if Region.wanted o (yielded ops a.tmps) = true then Oper.wp P o a w K Q else E := by
  have hw : Region.wanted o (yielded ops a.tmps) = true := by simp [Region.wanted, hg]
  rw [if_pos hw]
  unfold Oper.wp
  simp [execOp, hop, resolve, invoke, builtin, hd, hx, hr, Result.andThen]
  exact hK
/-- What Insert of one box ahead of one leaves. -/
structure InsP (b : Nat) (x y : Array Value) (w : World) (e : Ending) (w' : World) : Prop where
  out : ∃ b' c' cur', e = .returned (.slice (some ⟨b', 0, none⟩) 2 c') ∧ w'.heap[b']? = some (.cells cur' 76 (0, 0)) ∧ cur'.extract 0 4 = y ∧ cur'.extract 4 8 = x ∧ 8 ≤ cur'.size ∧ (b' = b ∨ b' = w.heap.size)
  below : Below b w w'
  keep : ∀ k, k < w.heap.size → k ≠ b → w'.heap[k]? = w.heap[k]?
theorem size76 : ∀ w, (Go.sizeOf 76).run Try.prog w = .ok 4 w := fun w => by
  obtain ⟨i0, hi0, h0, h1, h2⟩ := info_parts info76
  simp [Go.sizeOf, typeInfo, hi0, h1, Sem.run_bind]
set_option maxHeartbeats 4000000 in
set_option maxRecDepth 100000 in
theorem insert65_room {w : World} {b vb c : Nat} {cur x y : Array Value} (hb : w.heap[b]? = some (.cells cur 76 (0, 0))) (hs : cur.size = c * 4) (hc : 2 ≤ c) (hm : c ≤ maxLen) (hx : cur.extract 0 4 = x) (h1 : ∀ v ∈ x.toList, v.oneCell' = true)
    (hv : w.heap[vb]? = some (.cells y 76 (0, 0))) (hy : y.size = 4) (h1y : ∀ v ∈ y.toList, v.oneCell' = true) (hne : vb ≠ b) :
    Calls Try.prog 65 #[.slice (some ⟨b, 0, none⟩) 1 c, .int .i64 0, .slice (some ⟨vb, 0, none⟩) 1 1] w fun e w' => InsP b x y w e w' := by
  have hsz : (Try.prog.info? 76).map (·.size) = some 4 := by
    obtain ⟨i0, hi0, h0, h1, h2⟩ := info_parts info76
    rw [hi0]; simp [h1]
  have hxs : x.size = 4 := by rw [← hx]; simp; omega
  have hsa : w.shape? vb = some (76, 4) := by simp [World.shape?, hv, hy]
  have hsb : w.shape? b = some (76, c * 4) := by simp [World.shape?, hb, hs]
  have hov : ∀ lb cb, (callFunc 85 #[.slice (some ⟨vb, 0, none⟩) 1 1, .slice (some ⟨b, 4, none⟩) lb cb]).run Try.prog w = .ok (.value (.bool false)) w := fun lb cb => by
    rw [run_callFunc_extern Try.func85 (by kernel_rfl) (by kernel_rfl) (by kernel_rfl) (e := Extern.SlicesOverlaps.overlaps #[67, 67] #[4]) (by kernel_rfl),
      Lib.run_overlaps_apart w 67 4 76 Try.underlying67 4 size76 ⟨vb, 0, none⟩ ⟨b, 4, none⟩ 1 1 lb cb hne 76 76 4 (c * 4) hsa hsb (by omega) (frozen_of_row w vb _ _ _ hv) (frozen_of_row w vb _ _ _ hv)]
    rfl
  have hcp1 : ∀ ty dc sc, (Builtin.copy_ #[67, 67] ty #[.slice (some ⟨b, 4, none⟩) 1 dc, .slice (some ⟨b, 0, none⟩) 2 sc]).run Try.prog w.drew = .ok (goInt 1) (w.drew.setCells b 4 x.toList) := fun ty dc sc =>
    run_copy_part w.drew 67 67 ty 76 4 b 4 1 dc ⟨b, 0, none⟩ 2 sc x.toList Try.underlying67 hsz (by rw [Array.length_toList, hxs]; rfl)
      (fun j u hj => by
        have hj4 : j < 4 := by have := (List.getElem?_eq_some_iff.1 hj).1; simpa [hxs] using this
        rw [add_off, cell_of_row w.drew b _ _ _ _ hb, Nat.zero_add]
        rw [Array.getElem?_toList, ← hx, Array.getElem?_extract, if_pos (by omega), Nat.zero_add] at hj
        exact hj)
      (fun j hj => by rw [Array.length_toList, hxs] at hj; rw [cell_of_row w.drew b _ _ _ _ hb, Array.getElem?_eq_getElem (by omega)]; rfl)
      (fun j hj => frozen_of_row w.drew b _ _ _ hb) h1
  have hr1 := heap_setCells_row x.toList 4 w.drew cur hb (by rw [Array.length_toList, hxs]; omega)
  rw [Array.toArray_toList] at hr1
  have hs1 : (over cur 4 x).size = cur.size := size_over (by rw [hxs]; omega)
  have hcp2 : ∀ (W : World), W.heap = (w.drew.setCells b 4 x.toList).heap → ∀ ty dc, (Builtin.copy_ #[67, 67] ty #[.slice (some ⟨b, 0, none⟩) 2 dc, .slice (some ⟨vb, 0, none⟩) 1 1]).run Try.prog W = .ok (goInt 1) (W.setCells b 0 y.toList) := fun W hW ty dc => by
    have hWb : W.heap[b]? = some (.cells (over cur 4 x) 76 (0, 0)) := by rw [hW]; exact hr1
    have hWv : W.heap[vb]? = some (.cells y 76 (0, 0)) := by rw [hW, setCells_other hne]; exact hv
    exact run_copy_part W 67 67 ty 76 4 b 0 2 dc ⟨vb, 0, none⟩ 1 1 y.toList Try.underlying67 hsz (by rw [Array.length_toList, hy]; rfl)
      (fun j u hj => by
        rw [add_off, cell_of_row W vb _ _ _ _ hWv, Nat.zero_add]
        rw [Array.getElem?_toList] at hj
        exact hj)
      (fun j hj => by rw [Array.length_toList, hy] at hj; rw [cell_of_row W b _ _ _ _ hWb, Array.getElem?_eq_getElem (by omega)]; rfl)
      (fun j hj => frozen_of_row W b _ _ _ hWb) h1y
  have HD : Hid (∀ W : World, W = (w.drew.setCells b 4 x.toList).setCells b 0 y.toList → InsP b x y w (.returned (.slice (some ⟨b, 0, none⟩) 2 c)) W) := Lib.hid fun W hW => by
    have hr2 := heap_setCells_row y.toList 0 (w.drew.setCells b 4 x.toList) (over cur 4 x) hr1 (by rw [Array.length_toList, hy, hs1]; omega)
    rw [Array.toArray_toList, ← hW] at hr2
    have hs2 : (over (over cur 4 x) 0 y).size = cur.size := by rw [size_over (by rw [hy, hs1]; omega), hs1]
    have hbl := lt_of_some hb
    refine ⟨⟨b, c, _, rfl, hr2, ?_, ?_, by rw [hs2]; omega, .inl rfl⟩, ?_, fun k hk hkb => ?_⟩
    · apply Array.ext'
      rw [Array.toList_extract, over_toList]
      simp [List.extract, hy]
    · apply Array.ext'
      rw [Array.toList_extract, over_toList, over_toList]
      have h4 : (List.take 4 cur.toList).length = 4 := by simp; omega
      have h5 : y.toList.length = 4 := by simp [hy]
      have h6 : x.toList.length = 4 := by simp [hxs]
      rw [List.take_zero, List.nil_append, Nat.zero_add, List.extract, hy, List.append_assoc (List.take 4 cur.toList), List.drop_left' h4, List.drop_left' h5, List.take_left' h6]
    · rw [hW]
      exact setCells_below (Nat.le_refl _) _ _ _ (setCells_below (Nat.le_refl _) _ _ _ (Below.refl _ _).drew)
    · rw [hW, setCells_other hkb, setCells_other hkb]
      rfl
  have hcN : ¬ ((1 : Int) + 1 > (c : Int)) := by omega
  have hci1 : ¬ (c = 1) := by omega
  have hw1 : IntKind.i64.wrap 1 = 1 := by rw [IntKind.wrap_i64]; omega
  have hc0 : ¬ (c = 0) := by omega
  clear hb hs hx h1 hv hy h1y hne hsz hxs hsa hsb hr1 hs1
  go_enter Try.func65, Try.ntmps65
  go_wp2_with (simp only [hov])
  go_region_law (refine step_copy_eq rfl _ _ 67 67 rfl _ _ (by simp [Act.eval, Act.put]) (by simp [Act.eval, Act.put]) (hcp1 _ _ _) ?_)
  go_wp2_with (at_builtin; refine wpList_copy_eq _ rfl _ _ 67 67 rfl _ _ rfl rfl (hcp2 _ rfl _ _) ?_)
  go_ret
  exact HD.out _ rfl
end Go.Proofs.Ythahadhdhpcndaa

/- slices.Insert of one box ahead of one box: no room. -/
namespace Go.Proofs.Ythahadhdhpcndaa
open Go Go.RowKit
set_option linter.unusedVariables false
set_option linter.unusedSimpArgs false

theorem setCells_heap (g : Nat) : ∀ (vs : List Value) (o : Nat) (w w' : World), w.heap = w'.heap → (w.setCells g o vs).heap = (w'.setCells g o vs).heap
  | [], _, _, _, h => h
  | v :: r, o, w, w', h => setCells_heap g r (o + 1) _ _ (by simp only [World.setCell, h])
theorem os_setCells (g : Nat) : ∀ (vs : List Value) (o : Nat) (w : World), (w.setCells g o vs).os = w.os ∧ (w.setCells g o vs).tape = w.tape ∧ (w.setCells g o vs).output = w.output
  | [], _, _ => ⟨rfl, rfl, rfl⟩
  | v :: r, o, w => os_setCells g r (o + 1) _
set_option maxHeartbeats 4000000 in
set_option maxRecDepth 100000 in
theorem insert65_grow {w : World} {b vb : Nat} {cur x y : Array Value} (hb : w.heap[b]? = some (.cells cur 76 (0, 0))) (hs : cur.size = 1 * 4) (hx : cur.extract 0 4 = x) (h1 : ∀ v ∈ x.toList, v.oneCell' = true)
    (hv : w.heap[vb]? = some (.cells y 76 (0, 0))) (hy : y.size = 4) (h1y : ∀ v ∈ y.toList, v.oneCell' = true) :
    Calls Try.prog 65 #[.slice (some ⟨b, 0, none⟩) 1 1, .int .i64 0, .slice (some ⟨vb, 0, none⟩) 1 1] w fun e w' => InsP b x y w e w' := by
  have hsz : (Try.prog.info? 76).map (·.size) = some 4 := by
    obtain ⟨i0, hi0, h0, h1, h2⟩ := info_parts info76
    rw [hi0]; simp [h1]
  obtain ⟨i0, hi0, hz0, hzs, hzb⟩ := info_parts info76
  have hxs : x.size = 4 := by rw [← hx]; simp; omega
  have hbl := lt_of_some hb
  have hvl := lt_of_some hv
  obtain ⟨z, hz⟩ : ∃ z : Value, z = .agg #[.int .i64 0, .bool false, .slice none 0 0, .int .i64 0] := ⟨_, rfl⟩
  rw [← hz] at hz0
  have hzc : z.cells.size = 4 := by rw [hz]; rfl
  have hold : (Builtin.firstCells i0.size 0 (.slice (some ⟨b, 0, none⟩) 0 1)).run Try.prog w.drew = .ok ([] : List Value).toArray w.drew := by
    rw [hzs]
    exact run_firstCells_some w.drew 4 0 ⟨b, 0, none⟩ 0 1 [] (by simp) (fun j v hj => by simp at hj)
  obtain ⟨G, hG⟩ : ∃ G, G = grownCap w 2 1 76 := ⟨_, rfl⟩
  have hrz : ∀ ty, (Builtin.append_ #[67, 3] ty #[.slice (some ⟨b, 0, none⟩) 0 1, .int .i64 2]).run Try.prog w =
      .ok (.slice (some ⟨w.heap.size, 0, none⟩) 2 G) (w.drew.alloc (.cells (([] : List Value).toArray ++ Builtin.zeroCells z.cells 2 ++ Builtin.zeroCells z.cells (G - 2)) 76)) := fun ty => by
    have h := Lib.run_append_grow_zeros w 67 3 ty 76 i0 z .i64 .i64 Try.underlying67 Try.underlying3 hi0 hz0 (some ⟨b, 0, none⟩) 0 1 [] hold 2 (by omega) (by rw [hzs]; omega) (by omega) (by omega) (by rw [hzb]; omega) (by rw [hzb]; exact growslice_fits (by omega) (by omega))
    rw [hG]
    exact h
  have hGn : 2 ≤ G := by rw [hG]; exact grownCap_ge w _ _ _
  have hG63 : G ≤ 9223372036854775807 := by
    have := grownCap_le_maxLen w 2 1 76 (by unfold maxLen; omega)
    rw [← hG] at this
    unfold maxLen at this
    omega
  obtain ⟨ROW, hROW⟩ : ∃ ROW : Array Value, ROW = ([] : List Value).toArray ++ Builtin.zeroCells z.cells 2 ++ Builtin.zeroCells z.cells (G - 2) := ⟨_, rfl⟩
  rw [← hROW] at hrz
  have hRl : 8 ≤ ROW.size := by
    rw [hROW]
    simp [Builtin.zeroCells, hzc]
  obtain ⟨W1, hW1⟩ : ∃ W1, W1 = w.drew.alloc (.cells ROW 76) := ⟨_, rfl⟩
  rw [← hW1] at hrz
  have n1 : W1.heap[w.heap.size]? = some (.cells ROW 76 (0, 0)) := by rw [hW1]; exact heap_alloc_new w.drew _
  have n2 : ∀ k, k < w.heap.size → W1.heap[k]? = w.heap[k]? := fun k hk => by rw [hW1]; exact Below.heap_alloc w.drew _ k hk
  have n3 : Below w.heap.size w W1 := by rw [hW1]; exact (Below.refl w.heap.size w).drew.alloc (Nat.le_refl _) _
  have hcpA : ∀ (W : World), W.heap = W1.heap → ∀ ty dc, (Builtin.copy_ #[67, 67] ty #[.slice (some ⟨w.heap.size, 0, none⟩) 2 dc, .slice (some ⟨vb, 0, none⟩) 1 1]).run Try.prog W = .ok (goInt 1) (W.setCells w.heap.size 0 y.toList) := fun W hW ty dc => by
    have hWb : W.heap[w.heap.size]? = some (.cells ROW 76 (0, 0)) := by rw [hW]; exact n1
    have hWv : W.heap[vb]? = some (.cells y 76 (0, 0)) := by rw [hW, n2 vb hvl]; exact hv
    exact run_copy_part W 67 67 ty 76 4 w.heap.size 0 2 dc ⟨vb, 0, none⟩ 1 1 y.toList Try.underlying67 hsz (by rw [Array.length_toList, hy]; rfl)
      (fun j u hj => by
        rw [add_off, cell_of_row W vb _ _ _ _ hWv, Nat.zero_add]
        rw [Array.getElem?_toList] at hj
        exact hj)
      (fun j hj => by rw [Array.length_toList, hy] at hj; rw [cell_of_row W _ _ _ _ _ hWb, Array.getElem?_eq_getElem (by omega)]; rfl)
      (fun j hj => frozen_of_row W _ _ _ _ hWb) h1y
  have hr1 := heap_setCells_row y.toList 0 W1 ROW n1 (by rw [Array.length_toList, hy]; omega)
  rw [Array.toArray_toList] at hr1
  have hs1 : (over ROW 0 y).size = ROW.size := size_over (by rw [hy]; omega)
  have hcpB : ∀ (W : World), W.heap = (W1.setCells w.heap.size 0 y.toList).heap → ∀ ty dc sc, (Builtin.copy_ #[67, 67] ty #[.slice (some ⟨w.heap.size, 4, none⟩) 1 dc, .slice (some ⟨b, 0, none⟩) 1 sc]).run Try.prog W = .ok (goInt 1) (W.setCells w.heap.size 4 x.toList) := fun W hW ty dc sc => by
    have hWb : W.heap[w.heap.size]? = some (.cells (over ROW 0 y) 76 (0, 0)) := by rw [hW]; exact hr1
    have hWv : W.heap[b]? = some (.cells cur 76 (0, 0)) := by rw [hW, setCells_other (by omega), n2 b hbl]; exact hb
    exact run_copy_part W 67 67 ty 76 4 w.heap.size 4 1 dc ⟨b, 0, none⟩ 1 sc x.toList Try.underlying67 hsz (by rw [Array.length_toList, hxs]; rfl)
      (fun j u hj => by
        have hj4 : j < 4 := by have := (List.getElem?_eq_some_iff.1 hj).1; simpa [hxs] using this
        rw [add_off, cell_of_row W b _ _ _ _ hWv, Nat.zero_add]
        rw [Array.getElem?_toList, ← hx, Array.getElem?_extract, if_pos (by omega), Nat.zero_add] at hj
        exact hj)
      (fun j hj => by rw [Array.length_toList, hxs] at hj; rw [cell_of_row W _ _ _ _ _ hWb, Array.getElem?_eq_getElem (by omega)]; rfl)
      (fun j hj => frozen_of_row W _ _ _ _ hWb) h1
  have HD : Hid (∀ W : World, W.os = w.os → W.tape = w.tape → W.output = w.output → W.heap = ((W1.setCells w.heap.size 0 y.toList).setCells w.heap.size 4 x.toList).heap → InsP b x y w (.returned (.slice (some ⟨w.heap.size, 0, none⟩) 2 G)) W) := Lib.hid fun W e1 e2 e3 hW => by
    have hr2 := heap_setCells_row x.toList 4 (W1.setCells w.heap.size 0 y.toList) (over ROW 0 y) hr1 (by rw [Array.length_toList, hxs, hs1]; omega)
    rw [Array.toArray_toList, ← hW] at hr2
    have hs2 : (over (over ROW 0 y) 4 x).size = ROW.size := by rw [size_over (by rw [hxs, hs1]; omega), hs1]
    have hk : ∀ k, k < w.heap.size → W.heap[k]? = w.heap[k]? := fun k hk => by
      rw [hW, setCells_other (by omega), setCells_other (by omega), n2 k hk]
    have h5 : y.toList.length = 4 := by simp [hy]
    have h6 : x.toList.length = 4 := by simp [hxs]
    refine ⟨⟨w.heap.size, G, _, rfl, hr2, ?_, ?_, by rw [hs2]; omega, .inr rfl⟩, ⟨e1, e2, e3, ?_, fun k hkb => hk k (by omega)⟩, fun k hk1 hkb => hk k hk1⟩
    · apply Array.ext'
      rw [Array.toList_extract, over_toList, over_toList]
      rw [List.take_zero, List.nil_append, List.extract, List.take_left' h5, List.append_assoc, List.drop_zero, List.take_left' h5]
    · apply Array.ext'
      rw [Array.toList_extract, over_toList, over_toList]
      rw [List.take_zero, List.nil_append, List.extract, List.take_left' h5, List.append_assoc, List.drop_left' h5, List.take_left' h6]
    · rw [hW, setCells_size, setCells_size, hW1]; simp
  have hGi1 : ¬ (G = 1) := by omega
  have hGi0 : ¬ (G = 0) := by omega
  have hw1 : IntKind.i64.wrap 1 = 1 := by rw [IntKind.wrap_i64]; omega
  have n4 := Lib.hid (And.intro n3 hW1)
  clear hb hs hx h1 hv hy h1y hsz hxs hr1 hs1 hold hROW hRl n1 n2 n3 hi0 hz0 hzs hzb hzc hz hG
  subst hW1
  have hE : ((w.alloc (.cells ROW 76)).drew).heap = (w.drew.alloc (.cells ROW 76)).heap := rfl
  have hF : (((w.alloc (.cells ROW 76)).drew.setCells w.heap.size 0 y.toList).drew).heap = ((w.drew.alloc (.cells ROW 76)).setCells w.heap.size 0 y.toList).heap := by
    exact setCells_heap w.heap.size y.toList 0 ((w.alloc (.cells ROW 76)).drew) (w.drew.alloc (.cells ROW 76)) rfl
  go_enter Try.func65, Try.ntmps65
  go_wp2_with (first
    | (at_builtin; refine Lib.wpList_append_run _ rfl _ _ _ _ rfl _ _ rfl rfl _ _ (hrz _) ?_)
    | (at_builtin; refine wpList_copy_eq _ rfl _ _ 67 67 rfl _ _ rfl rfl (hcpA _ hE _ _) ?_))
  go_region_law (refine step_copy_eq rfl _ _ 67 67 rfl (.slice (some ⟨w.heap.size, 4, none⟩) 1 (G - 1)) (.slice (some ⟨b, 0, none⟩) 1 1) (by simp [Act.eval, Act.put]) (by simp [Act.eval, Act.put]) (hcpB _ hF 3 (G - 1) 1) ?_)
  go_wp2
  go_ret
  have hZ := setCells_heap w.heap.size x.toList 4 _ _ hF
  have h8 := os_setCells w.heap.size x.toList 4 (((w.alloc (.cells ROW 76)).drew.setCells w.heap.size 0 y.toList).drew)
  have h9 := os_setCells w.heap.size y.toList 0 ((w.alloc (.cells ROW 76)).drew)
  exact HD.out _ (h8.1.trans h9.1) (h8.2.1.trans h9.2.1) (h8.2.2.trans h9.2.2) hZ
end Go.Proofs.Ythahadhdhpcndaa

/- post.Open: into no box, and ahead of one box. -/
namespace Go.Proofs.Ythahadhdhpcndaa
open Go Go.RowKit
set_option linter.unusedVariables false
set_option linter.unusedSimpArgs false

set_option maxHeartbeats 4000000 in
set_option maxRecDepth 100000 in
theorem insert65_nil {B : Nat} {w : World} {v : Value} {cs : List (Array Value)} {c' : Array Value} {d : BoxD} (hO : elemB.Own 76 B w v cs []) (hB : B ≤ w.heap.size) (hc : c'.size = 4) (hR : RdB (w.heap.size ≤ ·) w c' d) :
    Calls Try.prog 65 #[v, .int .i64 0, .slice (some ⟨w.heap.size, 0, none⟩) 1 1] (w.alloc (.cells c' 76)) fun e w' => ∃ v' cs', e = .returned v' ∧ elemB.Own 76 B w' v' cs' [d] ∧ Below B w w' := by
  obtain ⟨A, cp, rfl⟩ := hO.slice
  have h0 : cs = [] := List.length_eq_zero_iff.1 (by rw [hO.len]; rfl)
  subst h0
  have HO := Lib.hid (And.intro (hO.row.alloc (.cells c' 76)) (And.intro hB (And.intro hc (And.intro (elemB.one hR) (And.intro hO hR)))))
  obtain ⟨i0, hinf, hz0, hz1, hz2⟩ := info_parts info76
  clear hO hB hc hR
  go_enter Try.func65, Try.ntmps65
  go_wp2_with (at_builtin; refine wpList_append_lies _ rfl _ _ 67 rfl B 76 i0 _ 4 48 Try.underlying67 hinf hz0 hz1 hz2 rfl (by decide) (.slice A ([] : List BoxD).length cp) 0 _ rfl HO.out.1 ⟨w.heap.size, 0, none⟩ 1 1 c'.toList rfl (by rw [Array.length_toList]; exact HO.out.2.2.1) (World.news_of_block (heap_alloc_new _ _)) HO.out.2.2.2.1 (by decide) (by unfold maxLen; omega) (by omega) (by have := HO.out.2.1; simp; omega) (w.heap.size + 1) (by simp) ?_)
  intro g cap w3 o1 o2 o3 _
  have hp := Elem.Own.push (d := d) (g := g) (cap := cap) (w3 := w3) (o := .cells c' 76) HO.out.2.2.2.2.1 HO.out.2.1 (Below.refl _ _) HO.out.2.2.2.2.2 o1 o2 o3
  have HP := Lib.hid hp
  clear o1 o2 o3 hp hinf hz0 hz1 hz2
  go_wp2_with fail
  go_ret
  exact ⟨_, _, rfl, HP.out.1, HP.out.2⟩
theorem InsP.rdL {B b : Nat} {w w' : World} {v : Value} {cs : List (Array Value)} {x c' : Array Value} {d d0 : BoxD} {e : Ending} (hO : elemB.Own 76 B w v cs [d0]) (hv : v.ownBlock = some b) (hBb : B ≤ b) (hB : B ≤ w.heap.size) (hb : b < w.heap.size) (hR : RdB (w.heap.size ≤ ·) w c' d) (hx : cs[0]? = some x)
    (h : InsP b x c' (w.alloc (.cells c' 76)) e w') : ∃ v', e = .returned v' ∧ elemB.RdL (B ≤ ·) w' v' [d, d0] ∧ Below B w w' := by
  obtain ⟨b', cp', cur', h1, h2, h3, h4, h5, h6⟩ := h.out
  have hsz := h.below.size
  have hal : (w.alloc (.cells c' 76)).heap.size = w.heap.size + 1 := by simp
  have hk : ∀ k, k < w.heap.size → k ≠ b → w'.heap[k]? = w.heap[k]? := fun k h7 h8 => (h.keep k (by omega) h8).trans (Below.heap_alloc _ _ _ h7)
  refine ⟨_, h1, ⟨_, 2, cp', rfl, rfl, (fun e => by cases e), fun _ => ⟨b', 0, cur', 76, (0, 0), rfl, by omega, h2, fun i dd hd => ?_⟩⟩, ?_⟩
  · change 0 + i * 4 + 4 ≤ cur'.size ∧ RdB (B ≤ ·) w' (cur'.extract (0 + i * 4) (0 + i * 4 + 4)) dd
    match i with
    | 0 =>
      obtain rfl : d = dd := by simpa using hd
      refine ⟨by omega, ?_⟩
      rw [show (0 + 0 * 4 : Nat) = 0 by rfl, Nat.zero_add, h3]
      exact (elemB.mono (elemB.keep hR ⟨by omega, fun k h7 h8 => absurd h8 (by omega)⟩) fun k _ hp => Nat.le_trans hB hp : RdB (B ≤ ·) w' c' d)
    | 1 =>
      obtain rfl : d0 = dd := by simpa using hd
      refine ⟨by omega, ?_⟩
      rw [show (0 + 1 * 4 : Nat) = 4 by rfl, h4]
      exact (elemB.mono (elemB.keep (hO.sub 0 x d0 hx rfl) ⟨by omega, fun k h7 h8 => hk k h7 fun e => h8.2 (by rw [e]; exact hv)⟩) fun k _ hp => hp.1 : RdB (B ≤ ·) w' x d0)
    | i + 2 => simp at hd
  · exact ((Below.refl w.heap.size w).alloc (Nat.le_refl _) _ |>.mono hB).trans (h.below.mono hBb)
set_option maxHeartbeats 1000000 in
theorem insert65_one {B : Nat} {w : World} {v : Value} {cs : List (Array Value)} {c' : Array Value} {d d0 : BoxD} (hO : elemB.Own 76 B w v cs [d0]) (hB : B ≤ w.heap.size) (hc : c'.size = 4) (hR : RdB (w.heap.size ≤ ·) w c' d) :
    Calls Try.prog 65 #[v, .int .i64 0, .slice (some ⟨w.heap.size, 0, none⟩) 1 1] (w.alloc (.cells c' 76)) fun e w' => ∃ v', e = .returned v' ∧ elemB.RdL (B ≤ ·) w' v' [d, d0] ∧ Below B w w' := by
  obtain ⟨b0, cp0, cur0, x, e0, _, hcur0, hx, hf0, hex⟩ := hO.at (i := 0) (by simp)
  rcases hO.row.2 with ⟨h1, h2⟩ | ⟨b, cap, cur, h1, h2, h3, h4, h5, h6, h7⟩
  · cases h2
  rw [h1] at e0
  injection e0 with e1 e2 e3
  injection e1 with e1
  injection e1 with e1
  subst e1 e3
  have e9 := hcur0.symm.trans h3
  injection e9 with e9
  injection e9 with e9
  subst e9
  change cur0.extract (0 * 4) (0 * 4 + 4) = x at hex
  rw [Nat.zero_mul, Nat.zero_add] at hex
  have hbl := lt_of_some h3
  have h3' : (w.alloc (.cells c' 76)).heap[b]? = some (.cells cur0 76 (0, 0)) := (Below.heap_alloc _ _ _ hbl).trans h3
  have hR1 := elemB.one hR
  have hX1 := elemB.one (hO.sub 0 x d0 hx rfl)
  have hv : v.ownBlock = some b := by rw [h1]; rfl
  have h6' : cur0.size = cap * 4 := h6
  have h4' : 1 ≤ cap := h4
  by_cases hcap : 2 ≤ cap
  · have M := insert65_room h3' h6' hcap h5 hex hX1 (heap_alloc_new w (.cells c' 76)) hc hR1 (by omega)
    subst h1
    exact M.mono fun e w' h => InsP.rdL hO rfl h2 hB hbl hR hx h
  · obtain rfl : cap = 1 := by omega
    have M := insert65_grow h3' h6' hex hX1 (heap_alloc_new w (.cells c' 76)) hc hR1
    subst h1
    exact M.mono fun e w' h => InsP.rdL hO rfl h2 hB hbl hR hx h
/-- What Open answers where it opens a box ahead of all others. -/
structure OpenP (L : List BoxD) (dev : Int) (w : World) (e : Ending) (w' : World) : Prop where
  out : ∃ v', e = .returned (.tuple #[v', .int .i64 0]) ∧ elemB.RdL (w.heap.size ≤ ·) w' v' (⟨dev, false, [], 0⟩ :: L)
  below : Below w.heap.size w w'
set_option maxHeartbeats 4000000 in
set_option maxRecDepth 100000 in
theorem open51 {ok : Nat → Prop} (v : Value) (L : List BoxD) (dev : Int) (w : World) (h : elemB.RdL ok w v L) (hL : L = [] ∨ ∃ d0, L = [d0] ∧ dev < d0.d) (hc : chk 0 L = true) (hS : ∀ d ∈ L, SzB d) (hdev : 0 ≤ dev ∧ dev < 512) :
    Calls Try.prog 51 #[v, .int .i64 dev] w fun e w' => OpenP L dev w e w' := by
  have hLl : L.length ≤ 1 := by rcases hL with rfl | ⟨d0, rfl, _⟩ <;> simp
  have M1 := check29 v L w h (by omega)
  have u1 : decide (dev < 0) = false := decide_eq_false (by omega)
  have u2 : decide (dev ≥ 512) = false := decide_eq_false (by omega)
  obtain ⟨A, c, rfl⟩ := h.slice
  have HH := Lib.hid (And.intro h (And.intro hS (And.intro hc (And.intro hdev hL))))
  clear h hS hdev hL
  go_enter Try.func51, Try.ntmps51
  go_wp2_with fail
  refine M1.mono ?_
  rintro e w2 ⟨hC, B2⟩
  have hC := hC.out
  rw [hc, if_pos rfl] at hC
  subst hC
  have M2 := place54 (.slice A L.length c) L dev w2 (HH.out.1.keep (Kn.of_below B2)) (by omega) hc (by have := HH.out.2.2.2.1; omega)
  have HB2 := Lib.hid B2
  clear M1 B2 hc
  go_wp2_with fail
  refine M2.mono ?_
  rintro e w3 ⟨hP, B3⟩
  obtain ⟨i, b, rfl, h1, h2, h3, h4⟩ := hP.out
  have HB3 := Lib.hid (HB2.out.trans (B3.mono HB2.out.size))
  obtain ⟨hi0, hb0⟩ : i = 0 ∧ b = false := by
    have h4 := h4 HH.out.2.2.2.1.1 HH.out.2.2.2.1.2
    rcases HH.out.2.2.2.2 with rfl | ⟨d0, rfl, hlt⟩
    · refine ⟨by simpa using h1, ?_⟩
      cases b with
      | false => rfl
      | true => obtain ⟨d, hd, _⟩ := h2.1 rfl; simp at hd
    · have hi : i = 0 := by
        by_cases hi : i = 0
        · exact hi
        · have := h4.1 0 d0 (by omega) rfl
          omega
      refine ⟨hi, ?_⟩
      cases b with
      | false => rfl
      | true =>
        obtain ⟨d, hd, hdd⟩ := h2.1 rfl
        subst hi
        obtain rfl : d0 = d := by simpa using hd
        omega
  subst hi0 hb0
  have M3 := boxes62 (.slice A L.length c) L w3 (HH.out.1.keep (Kn.of_below HB3.out)) (by omega) HH.out.2.1
  clear M2 hP B3 h1 h2 h3 h4
  go_wp2_with fail
  refine M3.mono ?_
  rintro e w4 ⟨v4, cs4, rfl, O4, B4⟩
  obtain ⟨A4, c4, rfl⟩ := O4.slice
  have H4 := Lib.hid (And.intro O4 (HB3.out.trans (B4.mono HB3.out.size)))
  have s34 := B4.size
  obtain ⟨i0, hinf, hz0, hz1, hz2⟩ := info_parts info76
  clear M3 O4 B4
  go_wp2_with (refine wpList_buildSlice_one rfl 67 76 _ rfl 4 _ i0 Try.underlying67 hinf hz0 hz1 rfl #[.int .i64 dev, .bool false, .slice none 0 0, .int .i64 0] rfl rfl (by decide) (by decide) ?_)
  have M4 : Calls Try.prog 65 #[.slice A4 L.length c4, .int .i64 0, .slice (some ⟨w4.heap.size, 0, none⟩) 1 1] (w4.alloc (.cells #[.int .i64 dev, .bool false, .slice none 0 0, .int .i64 0] 76)) fun e w' => ∃ v', e = .returned v' ∧ elemB.RdL (w3.heap.size ≤ ·) w' v' (⟨dev, false, [], 0⟩ :: L) ∧ Below w3.heap.size w4 w' := by
    have hR : RdB (w4.heap.size ≤ ·) w4 #[.int .i64 dev, .bool false, .slice none 0 0, .int .i64 0] ⟨dev, false, [], 0⟩ := ⟨_, rfl, none, 0, 0, rfl, rfl, fun _ => ⟨rfl, rfl⟩, fun hp => absurd hp (by omega)⟩
    have hO := H4.out.1
    rcases HH.out.2.2.2.2 with rfl | ⟨d0, rfl, hlt⟩
    · refine (insert65_nil hO s34 rfl hR).mono ?_
      rintro e w' ⟨v', cs', rfl, h5, h6⟩
      exact ⟨v', rfl, h5.rdL, h6⟩
    · exact insert65_one hO s34 rfl hR
  clear hinf hz0 hz1 hz2
  refine M4.mono ?_
  rintro e w5 ⟨v5, rfl, R5, B5⟩
  obtain ⟨A5, c5, rfl⟩ := R5.slice
  have H5 := Lib.hid (And.intro (R5.mono (ok' := fun b => w.heap.size ≤ b) fun b _ hp => Nat.le_trans HB3.out.size hp) (H4.out.2.trans (B5.mono HB3.out.size)))
  clear M4 R5 B5
  go_wp2_with fail
  go_ret2
  exact ⟨⟨_, rfl, H5.out.1⟩, H5.out.2⟩
end Go.Proofs.Ythahadhdhpcndaa

/- Post: alive. -/
namespace Go.Proofs.Ythahadhdhpcndaa
open Go Go.RowKit
set_option linter.unusedVariables false
set_option linter.unusedSimpArgs false

def M7 : MailD := ⟨2, .zero, 0, 7, 0, 0, 0, 0, 0, [], 0, 0, 0, 0, 0, 0⟩
set_option maxRecDepth 100000 in
theorem M7_rd (ok : Nat → Prop) (w : World) : RdM ok w #[.int .u8 2, .int .i64 0, .int .i64 0, .int .i64 0, .int .i64 0, .int .i64 0, .bool false, .slice none 0 0, .slice none 0 0, .slice none 0 0, .slice none 0 0, .int .i64 0, .int .i64 0, .slice none 0 0, .int .i64 0, .int .i64 0, .int .i64 0, .int .i64 7, .int .i64 0, .int .i64 0, .int .i64 0, .int .i64 0, .int .i64 0, .slice none 0 0, .int .i64 0, .int .i64 0, .int .i64 0, .int .i64 0, .int .i64 0, .int .i64 0] M7 := ⟨⟨_, _, rfl, RdC.zero _ _, RdN.nil _ _⟩⟩
set_option maxRecDepth 100000 in
theorem M0_rd (ok : Nat → Prop) (w : World) : RdM ok w #[.int .u8 0, .int .i64 0, .int .i64 0, .int .i64 0, .int .i64 0, .int .i64 0, .bool false, .slice none 0 0, .slice none 0 0, .slice none 0 0, .slice none 0 0, .int .i64 0, .int .i64 0, .slice none 0 0, .int .i64 0, .int .i64 0, .int .i64 0, .int .i64 0, .int .i64 0, .int .i64 0, .int .i64 0, .int .i64 0, .int .i64 0, .slice none 0 0, .int .i64 0, .int .i64 0, .int .i64 0, .int .i64 0, .int .i64 0, .int .i64 0] .zero := RdM.zero ok w
theorem SzM.m7 : SzM M7 := ⟨SzC.zero, ⟨by decide, fun d hd => by cases hd⟩⟩
theorem SzM.zero : SzM .zero := ⟨SzC.zero, ⟨by decide, fun d hd => by cases hd⟩⟩
/-- An operation that is done. -/
theorem OpP.ok {L : List BoxD} {dev : Int} {w w' : World} {bad : BoxD → Int} {turned : BoxD → BoxD} {e : Ending} (h : OpP L dev w bad turned e w') (hc : chk 0 L = true) {i : Nat} {d : BoxD} (hd : L[i]? = some d) (hdd : d.d = dev) :
    Below w.heap.size w w' ∧ ((bad d ≠ 0 ∧ e = .returned (.tuple #[.slice none 0 0, .int .i64 (bad d)])) ∨ (bad d = 0 ∧ ∃ v', e = .returned (.tuple #[v', .int .i64 0]) ∧ elemB.RdL (w.heap.size ≤ ·) w' v' (L.set i (turned d)))) := by
  obtain ⟨h1, h2 | h2 | h2⟩ := h.out
  · rw [hc] at h2; cases h2.1
  · exact absurd hdd (h2.2.1 d (List.mem_of_getElem? hd))
  · obtain ⟨_, j, x, hx, hxd, h3⟩ := h2
    obtain rfl : j = i := by
      rcases Nat.lt_trichotomy j i with h | h | h
      · have := chk_lt L 0 hc j i x d hx hd h; omega
      · exact h
      · have := chk_lt L 0 hc i j d x hd hx h; omega
    have e := hx.symm.trans hd
    injection e with e
    subst e
    exact ⟨h1, h3⟩
theorem SzB.nil (d n : Int) (o : Bool) : SzB ⟨d, o, [], n⟩ := ⟨by simp, fun x hx => by cases hx⟩
theorem SinceP.ok {L : List BoxD} {dev cu : Int} {w w' : World} {e : Ending} (h : SinceP L dev cu w e w') (hc : chk 0 L = true) {i : Nat} {d : BoxD} (hd : L[i]? = some d) (hdd : d.d = dev) (hcu : 0 ≤ cu ∧ cu ≤ (d.m.length : Int)) :
    Below w.heap.size w w' ∧ ∃ v', e = .returned (.tuple #[v', .int .i64 0]) ∧ elemM.RdL (fun _ => True) w' v' (d.m.drop cu.toNat) := by
  obtain ⟨h1, h2 | h2 | h2⟩ := h.out
  · rw [hc] at h2; cases h2.1
  · exact absurd hdd (h2.2.1 d (List.mem_of_getElem? hd))
  · obtain ⟨_, j, x, hx, hxd, h3⟩ := h2
    obtain rfl : j = i := by
      rcases Nat.lt_trichotomy j i with h | h | h
      · have := chk_lt L 0 hc j i x d hx hd h; omega
      · exact h
      · have := chk_lt L 0 hc i j d x hd hx h; omega
    have e := hx.symm.trans hd
    injection e with e
    subst e
    rcases h3 with h3 | h3
    · exact absurd hcu h3.1
    · exact ⟨h1, h3.2⟩
theorem mail_cell {ok : Nat → Prop} {w : World} {A : Option Addr} {n c : Nat} {d : MailD} {L : List MailD} (h : elemM.RdL ok w (.slice A n c) L) {i : Nat} (hd : L[i]? = some d) :
    ∃ b o, A = some ⟨b, o, none⟩ ∧ b < w.heap.size ∧ w.cell? ⟨b, o + i * 30 + 17, none⟩ = some (.int .i64 d.e) := by
  obtain ⟨A', n', c', e, h1, h2, h3⟩ := h
  injection e with e1 e2 e3
  subst e1 e2 e3
  have hi := (List.getElem?_eq_some_iff.1 hd).1
  obtain ⟨b, o, cur, t, fr, rfl, _, hb, hx⟩ := h3 (by omega)
  refine ⟨b, o, rfl, lt_of_some hb, ?_⟩
  have h5 := hx i d hd
  change o + i * 30 + 30 ≤ cur.size ∧ RdM ok w (cur.extract (o + i * 30) (o + i * 30 + 30)) d at h5
  obtain ⟨cc, vt, h6, h7, _⟩ := h5.2.out
  obtain ⟨va, vr, vs, vj, vtt, h8, _⟩ := h7.out
  have h9 : (cur.extract (o + i * 30) (o + i * 30 + 30))[17]? = some (.int .i64 d.e) := by
    rw [h6, h8, MailD.cs, CommitD.cs, MailD.m1]
    simp only [Array.getElem?_append, List.size_toArray, List.length_cons, List.length_nil, Array.size_append]
    simp
  rw [Array.getElem?_extract, if_pos (by omega)] at h9
  exact (cell_of_row w b _ _ _ _ hb).trans h9
theorem box_cell {ok : Nat → Prop} {w : World} {A : Option Addr} {n c : Nat} {d : BoxD} {L : List BoxD} (h : elemB.RdL ok w (.slice A n c) L) {i : Nat} (hd : L[i]? = some d) :
    ∃ b o, A = some ⟨b, o, none⟩ ∧ b < w.heap.size ∧ w.cell? ⟨b, o + i * 4, none⟩ = some (.int .i64 d.d) ∧ w.cell? ⟨b, o + i * 4 + 3, none⟩ = some (.int .i64 d.n) := by
  obtain ⟨A', n', c', e, h1, _, h3⟩ := h.boxes
  injection e with e1 e2 e3
  subst e1 e2 e3
  have hi := (List.getElem?_eq_some_iff.1 hd).1
  obtain ⟨b, o, rfl, _, hb, hx⟩ := h3 (by omega)
  exact ⟨b, o, rfl, hb, (hx i d hd).1, (hx i d hd).2.2.2⟩
set_option maxHeartbeats 8000000 in
set_option maxRecDepth 100000 in
theorem alive30 (w : World) : Calls Try.prog 30 #[] w fun e w' => e = .returned (.bool true) ∧ Below w.heap.size w w' := by
  have M1 := open51 (ok := fun _ => True) (.slice none 0 0) [] 9 w ⟨none, 0, 0, rfl, rfl, fun _ => ⟨rfl, rfl⟩, fun hp => absurd hp (by omega)⟩ (.inl rfl) rfl (fun d hd => by cases hd) (by omega)
  obtain ⟨c7, hc7⟩ : ∃ c : Array Value, c = #[.int .u8 2, .int .i64 0, .int .i64 0, .int .i64 0, .int .i64 0, .int .i64 0, .bool false, .slice none 0 0, .slice none 0 0, .slice none 0 0, .slice none 0 0, .int .i64 0, .int .i64 0, .slice none 0 0, .int .i64 0, .int .i64 0, .int .i64 0, .int .i64 7, .int .i64 0, .int .i64 0, .int .i64 0, .int .i64 0, .int .i64 0, .slice none 0 0, .int .i64 0, .int .i64 0, .int .i64 0, .int .i64 0, .int .i64 0, .int .i64 0] := ⟨_, rfl⟩
  obtain ⟨c0, hc0⟩ : ∃ c : Array Value, c = #[.int .u8 0, .int .i64 0, .int .i64 0, .int .i64 0, .int .i64 0, .int .i64 0, .bool false, .slice none 0 0, .slice none 0 0, .slice none 0 0, .slice none 0 0, .int .i64 0, .int .i64 0, .slice none 0 0, .int .i64 0, .int .i64 0, .int .i64 0, .int .i64 0, .int .i64 0, .int .i64 0, .int .i64 0, .int .i64 0, .int .i64 0, .slice none 0 0, .int .i64 0, .int .i64 0, .int .i64 0, .int .i64 0, .int .i64 0, .int .i64 0] := ⟨_, rfl⟩
  have R7 : ∀ ok w, RdM ok w c7 M7 := fun ok w => by rw [hc7]; exact M7_rd ok w
  have R0 : ∀ ok w, RdM ok w c0 .zero := fun ok w => by rw [hc0]; exact M0_rd ok w
  have HZ := Lib.hid (And.intro hc7 (And.intro hc0 (And.intro R7 R0)))
  clear hc7 hc0 R7 R0
  have HS3 : Hid (∀ d ∈ ([⟨3, false, [M7], 0⟩, ⟨9, false, [], 0⟩] : List BoxD), SzB d) := Lib.hid fun d hd => by
    rcases (by simpa using hd : d = ⟨3, false, [M7], 0⟩ ∨ d = ⟨9, false, [], 0⟩) with rfl | rfl
    · exact ⟨by decide, fun x hx => by obtain rfl : x = M7 := by simpa using hx
                                       exact SzM.m7⟩
    · exact SzB.nil _ _ _
  have HS5 : Hid (∀ d ∈ ([⟨3, true, [M7], 0⟩, ⟨9, false, [], 0⟩] : List BoxD), SzB d) := Lib.hid fun d hd => by
    rcases (by simpa using hd : d = ⟨3, true, [M7], 0⟩ ∨ d = ⟨9, false, [], 0⟩) with rfl | rfl
    · exact ⟨by decide, fun x hx => by obtain rfl : x = M7 := by simpa using hx
                                       exact SzM.m7⟩
    · exact SzB.nil _ _ _
  have HL3 : Hid (∀ d ∈ ([⟨3, false, [M7], 0⟩, ⟨9, false, [], 0⟩] : List BoxD), d.m.length ≤ 1000000) := Lib.hid fun d hd => (HS3.out d hd).1
  go_enter Try.func30, Try.ntmps30
  go_wp2_with fail
  refine M1.mono ?_
  intro e w1 hP
  obtain ⟨v1, rfl, R1⟩ := hP.out
  obtain ⟨A1, c1, rfl⟩ := R1.slice
  have M2 := open51 (.slice A1 ([⟨9, false, [], 0⟩] : List BoxD).length c1) [⟨9, false, [], 0⟩] 3 w1 R1 (.inr ⟨_, rfl, by decide⟩) (by decide) (fun d hd => by
    obtain rfl : d = ⟨9, false, [], 0⟩ := by simpa using hd
    exact SzB.nil _ _ _) (by omega)
  have H1 := Lib.hid (And.intro R1 hP.below)
  clear M1 hP R1
  go_wp2_with fail
  refine M2.mono ?_
  intro e w2 hP
  obtain ⟨v2, rfl, R2⟩ := hP.out
  obtain ⟨A2, c2, rfl⟩ := R2.slice
  have H2 := Lib.hid (And.intro R2 (H1.out.2.trans (hP.below.mono H1.out.2.size)))
  clear M2 hP R2
  go_wp2_with fail
  rw [← HZ.out.1]
  have M3 := put25 (.slice A2 ([⟨3, false, [], 0⟩, ⟨9, false, [], 0⟩] : List BoxD).length c2) [⟨3, false, [], 0⟩, ⟨9, false, [], 0⟩] 3 c7 M7 w2 H2.out.1 (by decide) (fun d hd => by
    rcases (by simpa using hd : d = ⟨3, false, [], 0⟩ ∨ d = ⟨9, false, [], 0⟩) with rfl | rfl <;> exact SzB.nil _ _ _) (by omega) (HZ.out.2.2.1 (fun _ => True) w2) SzM.m7
  refine M3.mono ?_
  intro e w3 hP
  obtain ⟨b3, h3⟩ := hP.ok (by decide) (i := 0) rfl rfl
  obtain ⟨v3, rfl, R3⟩ : ∃ v', e = .returned (.tuple #[v', .int .i64 0]) ∧ elemB.RdL (w2.heap.size ≤ ·) w3 v' [⟨3, false, [M7], 0⟩, ⟨9, false, [], 0⟩] := by
    rcases h3 with h3 | h3
    · exact absurd rfl h3.1
    · exact h3.2
  obtain ⟨A3, c3, rfl⟩ := R3.slice
  have H3 := Lib.hid (And.intro R3 (H2.out.2.trans (b3.mono H2.out.2.size)))
  have b23 := Lib.hid b3
  clear M3 hP R3 b3 h3
  go_wp2_with fail
  have M4 := since32 (.slice A3 ([⟨3, false, [M7], 0⟩, ⟨9, false, [], 0⟩] : List BoxD).length c3) [⟨3, false, [M7], 0⟩, ⟨9, false, [], 0⟩] 3 0 w3 H3.out.1 (by decide) HS3.out HL3.out (by omega) (by omega)
  refine M4.mono ?_
  intro e w4 hP
  obtain ⟨b4, v4, rfl, R4⟩ := hP.ok (by decide) (i := 0) rfl rfl (by decide)
  replace R4 : elemM.RdL (fun _ => True) w4 v4 [M7] := R4
  obtain ⟨A4, c4, rfl⟩ := R4.slice
  have H4 := Lib.hid (And.intro R4 (And.intro (H3.out.2.trans (b4.mono H3.out.2.size)) (H3.out.1.keep (Kn.of_below b4))))
  have b34 := Lib.hid b4
  clear M4 hP R4 b4
  go_wp2_with fail
  have M5 := close26 (.slice A3 ([⟨3, false, [M7], 0⟩, ⟨9, false, [], 0⟩] : List BoxD).length c3) [⟨3, false, [M7], 0⟩, ⟨9, false, [], 0⟩] 3 w4 H4.out.2.2 (by decide) HS3.out (by omega)
  refine M5.mono ?_
  intro e w5 hP
  obtain ⟨b5, h5⟩ := hP.ok (by decide) (i := 0) rfl rfl
  obtain ⟨v5, rfl, R5⟩ : ∃ v', e = .returned (.tuple #[v', .int .i64 0]) ∧ elemB.RdL (w4.heap.size ≤ ·) w5 v' [⟨3, true, [M7], 0⟩, ⟨9, false, [], 0⟩] := by
    rcases h5 with h5 | h5
    · exact absurd rfl h5.1
    · exact h5.2
  obtain ⟨A5, c5, rfl⟩ := R5.slice
  have H5 := Lib.hid (And.intro R5 (H4.out.2.1.trans (b5.mono H4.out.2.1.size)))
  have b45 := Lib.hid b5
  clear M5 hP R5 b5 h5
  go_wp2_with fail
  rw [← HZ.out.2.1]
  have M6 := put25 (.slice A5 ([⟨3, true, [M7], 0⟩, ⟨9, false, [], 0⟩] : List BoxD).length c5) [⟨3, true, [M7], 0⟩, ⟨9, false, [], 0⟩] 3 c0 .zero w5 H5.out.1 (by decide) HS5.out (by omega) (HZ.out.2.2.2 (fun _ => True) w5) SzM.zero
  refine M6.mono ?_
  intro e w6 hP
  obtain ⟨b6, h6⟩ := hP.ok (by decide) (i := 0) rfl rfl
  obtain rfl : e = .returned (.tuple #[.slice none 0 0, .int .i64 11]) := by
    rcases h6 with h6 | h6
    · exact h6.2
    · exact absurd h6.1 (by decide)
  have H6 := Lib.hid (And.intro (H5.out.1.keep (Kn.of_below b6)) (H5.out.2.trans (b6.mono H5.out.2.size)))
  have b56 := Lib.hid b6
  clear M6 hP b6 h6
  go_wp2_with fail
  have M7' := done27 (.slice A5 ([⟨3, true, [M7], 0⟩, ⟨9, false, [], 0⟩] : List BoxD).length c5) [⟨3, true, [M7], 0⟩, ⟨9, false, [], 0⟩] 9 0 w6 H6.out.1 (by decide) HS5.out (by omega)
  refine M7'.mono ?_
  intro e w7 hP
  obtain ⟨b7, h7⟩ := hP.ok (by decide) (i := 1) rfl rfl
  obtain ⟨v7, rfl, R7⟩ : ∃ v', e = .returned (.tuple #[v', .int .i64 0]) ∧ elemB.RdL (w6.heap.size ≤ ·) w7 v' [⟨3, true, [M7], 0⟩, ⟨9, false, [], 1⟩] := by
    rcases h7 with h7 | h7
    · exact absurd (by decide) h7.1
    · exact h7.2
  obtain ⟨A7, c7', rfl⟩ := R7.slice
  have hw7 := H6.out.2.trans (b7.mono H6.out.2.size)
  have K47 : Below w4.heap.size w4 w7 := by
    have s5 := b45.out.size
    have s6 := b56.out.size
    exact (b45.out.trans (b56.out.mono s5)).trans (b7.mono (by omega))
  clear M7' hP h7
  obtain ⟨p2, o2, rfl, l2, k2, _⟩ := box_cell H2.out.1 (i := 0) (d := ⟨3, false, [], 0⟩) rfl
  obtain ⟨p4, o4, rfl, l4, k4⟩ := mail_cell H4.out.1 (i := 0) (d := M7) rfl
  obtain ⟨p7, o7, rfl, l7, _, k7⟩ := box_cell R7 (i := 1) (d := ⟨9, false, [], 1⟩) rfl
  have K27 : Below w2.heap.size w2 w7 := by
    have s3 := b23.out.size
    have s4 := b34.out.size
    exact (b23.out.trans (b34.out.mono s3)).trans (K47.mono (by omega))
  have j2 : w7.cell? ⟨p2, o2, none⟩ = some (.int .i64 3) := (K27.cell (p := ⟨p2, o2, none⟩) l2).trans k2
  have j4 : w7.cell? ⟨p4, o4 + 17, none⟩ = some (.int .i64 7) := (K47.cell (p := ⟨p4, o4 + 17, none⟩) l4).trans k4
  have j7 : w7.cell? ⟨p7, o7 + 4 + 3, none⟩ = some (.int .i64 1) := k7
  have H7 := Lib.hid hw7
  clear R7 K27 K47 k2 k4 k7 hw7 b7 l2 l4 l7
  go_wp2_with fail
  go_ret
  exact ⟨rfl, H7.out⟩
end Go.Proofs.Ythahadhdhpcndaa
