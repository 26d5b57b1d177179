/- Walks of SameNumbers, of the document's Common, and of alive. -/
import Derived.Test.YtopkanokpfhmmaaDoorRefs
namespace Go.Proofs.YtopkanokpfhmmaaDoor
open Go.RowKit

theorem Ints.drewN {w : World} {v : Value} {l : List Int} (h : Ints w v l) (n : Nat) : Ints (w.drewN n) v l := h
/-- Are two lists the same? -/
def sameB (l m : List Int) : Bool := decide (l = m)
set_option maxHeartbeats 1000000 in
theorem same_len (a b : Value) (l m : List Int) (w : World) (ha : Ints w a l) (hb : Ints w b m) (h : l.length ≠ m.length) :
    Calls Tryd.prog 16 #[a, b] w fun e w' => e = .returned (.bool false) ∧ ∃ n, w' = w.drewN n := by
  obtain ⟨A, c, rfl, h1, h2, h3⟩ := ha
  obtain ⟨B, d, rfl, g1, g2, g3⟩ := hb
  have q : ((l.length : Int) != (m.length : Int)) = true := by rw [bne_iff_ne]; omega
  unfold maxLen at h2 g2
  clear h3 g3 h
  generalize l.length = n at *
  generalize m.length = k at *
  go_enter Tryd.func16, Tryd.ntmps16
  go_wp2
  go_ret
  exact ⟨rfl, 0, rfl⟩
set_option maxHeartbeats 1000000 in
theorem same_nil (a b : Value) (w : World) (ha : Ints w a []) (hb : Ints w b []) :
    Calls Tryd.prog 16 #[a, b] w fun e w' => e = .returned (.bool true) ∧ ∃ n, w' = w.drewN n := by
  obtain ⟨A, c, rfl, h1, h2, h3⟩ := ha
  obtain ⟨B, d, rfl, g1, g2, g3⟩ := hb
  clear h3 g3
  simp only [List.length_nil]
  go_enter Tryd.func16, Tryd.ntmps16
  go_wp2
  refine wp_loop_rounds 1 ?_
  rw [rounds_succ]
  go_wp2
  go_ret
  exact ⟨rfl, 0, rfl⟩
theorem take_eq {l m : List Int} (hl : l.length = m.length) {k : Nat} (hk : k < l.length) (h : l.take k = m.take k) (x y : Int) (hx : l[k]? = some x) (hy : m[k]? = some y) :
    (x = y → l.take (k + 1) = m.take (k + 1)) ∧ (x ≠ y → l ≠ m) := by
  constructor
  · intro e
    rw [List.take_add_one, List.take_add_one, hx, hy, h, e]
  · intro hne e
    rw [e, hy] at hx
    exact hne (Option.some.inj hx).symm
set_option maxHeartbeats 1000000 in
theorem same_full (a b : Value) (l m : List Int) (w : World) (ha : Ints w a l) (hb : Ints w b m) (h : l.length = m.length) (h0 : 0 < l.length) :
    Calls Tryd.prog 16 #[a, b] w fun e w' => e = .returned (.bool (sameB l m)) ∧ ∃ n, w' = w.drewN n := by
  obtain ⟨A, c, rfl, h1, h2, h3⟩ := ha
  obtain ⟨B, d, rfl, g1, g2, g3⟩ := hb
  obtain ⟨p, o, rfl, hc⟩ := h3 h0
  obtain ⟨q, r, rfl, gc⟩ := g3 (by omega)
  unfold maxLen at h2 g2
  rw [← h]
  have HC := Lib.hid hc
  have GC := Lib.hid gc
  obtain ⟨n, hn⟩ : ∃ n, n = l.length := ⟨_, rfl⟩
  rw [← hn] at h1 h0 ⊢
  have HN := Lib.hid hn
  have HM := Lib.hid (hn.trans h)
  have b1 : n ≤ 9223372036854775807 := by omega
  have t0 : ((n : Int) != (n : Int)) = false := by simp
  clear hc gc h3 g3 hn h h1 h2 g1 g2
  go_enter Tryd.func16, Tryd.ntmps16
  go_wp2_with fail
  go_loopw [13] (fun v13 wr => ∃ k : Nat, k ≤ n ∧ v13 = .int .i64 k ∧ l.take k = m.take k ∧ ∃ j, wr = w.drewN j) (fun v13 _ => n - (intOf v13).toNat)
  case atStart => exact ⟨0, by omega, rfl, by simp, 0, rfl⟩
  case round =>
    obtain ⟨k, hk, rfl, ht, jd, rfl⟩ := hrel
    have HT := Lib.hid ht
    clear ht
    by_cases hlt : k < n
    · obtain ⟨x, hx⟩ : ∃ x, l[k]? = some x := ⟨l[k]'(by have := HN.out; omega), List.getElem?_eq_getElem _⟩
      obtain ⟨y, hy⟩ : ∃ y, m[k]? = some y := ⟨m[k]'(by have := HM.out; omega), List.getElem?_eq_getElem _⟩
      have c1 : w.cell? ⟨p, o + k, none⟩ = some (.int .i64 x) := HC.out k x hx
      have c2 : w.cell? ⟨q, r + k, none⟩ = some (.int .i64 y) := GC.out k y hy
      have te := take_eq (HN.out.symm.trans HM.out) (by have := HN.out; omega) HT.out x y hx hy
      have HE := Lib.hid te
      have i1 : (0 : Int) ≤ k := by omega
      have i2 : (k : Int) < n := by omega
      clear hx hy te
      by_cases hxy : x = y
      · have t1 : (x != y) = false := by simp [hxy]
        have HX := Lib.hid hxy
        clear hxy
        go_wp2_with fail
        go_quiet (fail)
        go_wp2
        go_roundw
        case rel => exact ⟨k + 1, by omega, by go_num, HE.out.1 HX.out, _, rfl⟩
        case measure => simp [intOf]; omega
      · have t1 : (x != y) = true := by simp [hxy]
        have HX := Lib.hid hxy
        clear hxy
        go_wp2_with fail
        go_quiet (fail)
        go_wp2
        go_ret
        rw [show sameB l m = false from decide_eq_false (HE.out.2 HX.out)]
        exact ⟨rfl, _, World.drewN_drewN ..⟩
    · obtain rfl : k = n := by omega
      go_wp2
      go_ret
      have e : l = m := by
        have := HT.out
        rw [HN.out, List.take_length, ← HN.out, HM.out, List.take_length] at this
        exact this
      rw [show sameB l m = true from decide_eq_true e]
      exact ⟨rfl, _, rfl⟩
theorem same (a b : Value) (l m : List Int) (w : World) (ha : Ints w a l) (hb : Ints w b m) :
    Calls Tryd.prog 16 #[a, b] w fun e w' => e = .returned (.bool (sameB l m)) ∧ ∃ n, w' = w.drewN n := by
  by_cases h : l.length = m.length
  · by_cases h0 : 0 < l.length
    · exact same_full a b l m w ha hb h h0
    · obtain rfl : l = [] := List.eq_nil_of_length_eq_zero (by omega)
      obtain rfl : m = [] := List.eq_nil_of_length_eq_zero (by simpa using h.symm)
      rw [show sameB [] [] = true from rfl]
      exact same_nil a b w ha hb
  · rw [show sameB l m = false from decide_eq_false (fun e => h (by rw [e]))]
    exact same_len a b l m w ha hb h

/-- A new list of one number, still there behind a call. -/
theorem own_one {w w2 : World} {u : Int} (hb : Below (w.alloc (.cells #[.int .i64 u] 3)).heap.size (w.alloc (.cells #[.int .i64 u] 3)) w2) :
    OwnI w2 w.heap.size (.slice (some ⟨w.heap.size, 0, none⟩) 1 1) [u] ∧ Below w.heap.size w w2 ∧ w.heap.size ≤ w2.heap.size := by
  refine ⟨⟨rfl, .inr ⟨w.heap.size, 1, #[.int .i64 u], rfl, Nat.le_refl _, ?_, Nat.le_refl _, by decide, rfl, rfl⟩⟩, ?_, ?_⟩
  · rw [hb.block _ (by simp)]
    exact heap_alloc_new w _
  · exact ((Below.refl _ _).alloc (Nat.le_refl _) _).trans (hb.mono (by simp))
  · have := hb.size
    simp at this
    omega
theorem upL_cons (x c j n : Nat) (hN : Nd x c j) : (x : Int) :: upL x (c + 1) n = upL x c (n + 1) := by
  apply List.ext_getElem?
  intro i
  cases i with
  | zero =>
    rw [upL_get _ _ _ _ (by omega)]
    simp only [Nat.add_zero, hN.anc_self, List.getElem?_cons_zero]
  | succ i =>
    simp only [List.getElem?_cons_succ]
    by_cases h : i < n
    · rw [upL_get _ _ _ _ h, upL_get _ _ _ _ (by omega), show c + 1 + i = c + (i + 1) by omega]
    · rw [List.getElem?_eq_none (by rw [upL_length]; omega), List.getElem?_eq_none (by rw [upL_length]; omega)]
end Go.Proofs.YtopkanokpfhmmaaDoor
