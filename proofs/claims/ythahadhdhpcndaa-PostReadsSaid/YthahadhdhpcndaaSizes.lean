/- How large things are: TreeSize, CommitSize, MailSize, FeedSize. -/
import Derived.Test.YthahadhdhpcndaaPacket
import Derived.Test.YthahadhdhpcndaaPhase
namespace Go.Proofs.Ythahadhdhpcndaa
open Go Go.RowKit
set_option linter.unusedVariables false
set_option linter.unusedSimpArgs false

theorem wrapi (n : Int) (h : -9223372036854775808 ≤ n ∧ n ≤ 9223372036854775807) : IntKind.i64.wrap n = n := by rw [IntKind.wrap_i64]; omega
def BdN (ns : List NodeD) : Prop := ns.length ≤ 1125899906842624 ∧ ∀ d ∈ ns, d.u.length ≤ 1125899906842624
/-- So large at most, and each list in it too. -/
def LeN (ns : List NodeD) (n : Int) : Prop := (ns.length : Int) ≤ n ∧ ∀ d ∈ ns, (d.u.length : Int) ≤ n
structure TsI (ns : List NodeD) (i : Nat) (n : Int) : Prop where
  hi : i ≤ ns.length
  h1 : (ns.length : Int) ≤ n
  h2 : n ≤ 2251799813685248
  h3 : ∀ j d, j < i → ns[j]? = some d → (d.u.length : Int) ≤ n
set_option maxHeartbeats 2000000 in
set_option maxRecDepth 100000 in
theorem size45 {ok : Nat → Prop} (v : Value) (ns : List NodeD) (w : World) (h : RdN ok w v ns) (hs : BdN ns) :
    Calls Try.prog 45 #[.agg #[v]] w fun e w' => ∃ n : Int, e = .returned (.int .i64 n) ∧ 0 ≤ n ∧ n ≤ 2251799813685248 ∧ (n ≤ 262144 → LeN ns n) ∧ Below w.heap.size w w' := by
  have hb1 : Below w.heap.size w (w.alloc (.cells #[v] 29)) := (Below.refl _ _).alloc (Nat.le_refl _) _
  obtain ⟨A, n, c, rfl, rfl, h2, h3⟩ := h.keep (Kn.of_below hb1)
  have hlen := hs.1
  have H0 : Hid (TsI ns 0 (ns.length : Int)) := Lib.hid ⟨Nat.zero_le _, Int.le_refl _, by omega, fun j d hj => absurd hj (by omega)⟩
  have l0 : (w.alloc (.cells #[.slice A ns.length c] 29)).cell? ⟨w.heap.size, 0, none⟩ = some (.slice A ns.length c) := by rw [cell_of_row _ _ 0 _ _ _ (heap_alloc_new w _)]; rfl
  have HS := Lib.hid (And.intro hs (And.intro h3 hb1))
  clear h h3 hs hb1
  go_enter Try.func45, Try.ntmps45
  go_wp2
  generalize hw1 : w.alloc (.cells #[.slice A ns.length c] 29) = w1 at *
  go_loopg [3, 4] ns.length (fun k v3 v4 wr => ∃ (i : Nat) (n : Int), v3 = .int .i64 n ∧ v4 = .int .i64 (i : Int) ∧ i + k = ns.length ∧ Hid (TsI ns i n) ∧ wr = w1)
  case atStart => exact ⟨0, _, rfl, rfl, by simp, H0, rfl⟩
  case round =>
    clear H0
    obtain ⟨i, n, rfl, rfl, hik, HT, rfl⟩ := hrel
    have hT := HT.out
    have i2 : (0 : Int) ≤ (i : Int) := by omega
    have hn0 : (0 : Int) ≤ n := by have := hT.h1; omega
    have hn9 := hT.h2
    by_cases hi : i < ns.length
    · have t1 : decide ((i : Int) < (ns.length : Int)) = true := decide_eq_true (by omega)
      by_cases hn : n ≤ 262144
      · have t2 : decide (n ≤ 262144) = true := decide_eq_true hn
        obtain ⟨d, hd⟩ : ∃ d, ns[i]? = some d := ⟨ns[i], List.getElem?_eq_getElem hi⟩
        obtain ⟨b, o, rfl, p1, p2, p3⟩ := HS.out.2.1 (by omega)
        obtain ⟨_, _, _, vu, c3, hR⟩ := p3 i d hd
        obtain ⟨Au, nu, cu, rfl, hnu, _⟩ := hR
        have hu := HS.out.1.2 d (List.mem_of_getElem? hd)
        have i3 : (i : Int) < (ns.length : Int) := by omega
        have HD := Lib.hid (And.intro hd (And.intro hnu hu))
        have i4 : nu ≤ 1125899906842624 := by omega
        clear p1 p2 p3 hT hd hnu hu
        go_wp2
        go_roundg (ns.length - (i + 1))
        case measure => omega
        case rel =>
          refine ⟨i + 1, n + nu, rfl, by simp, by omega, Lib.hid ⟨by omega, by have := HT.out.h1; omega, by omega, fun j d' hj hd' => ?_⟩, rfl⟩
          by_cases hji : j < i
          · have := HT.out.h3 j d' hji hd'; omega
          · obtain rfl : j = i := by omega
            have e := HD.out.1.symm.trans hd'
            injection e with e
            subst e
            have := HD.out.2.1; omega
      · have t2 : decide (n ≤ 262144) = false := decide_eq_false hn
        clear hT
        go_wp2
        go_ret
        exact ⟨_, rfl, hn0, hn9, fun h => absurd h (by omega), HS.out.2.2⟩
    · have t1 : decide ((i : Int) < (ns.length : Int)) = false := decide_eq_false (by omega)
      clear hT
      go_wp2
      go_ret
      exact ⟨_, rfl, hn0, hn9, fun _ => ⟨HT.out.h1, fun d hd => by
        obtain ⟨j, hj, e⟩ := List.getElem_of_mem hd
        exact HT.out.h3 j d (by omega) (by rw [List.getElem?_eq_getElem hj, e])⟩, HS.out.2.2⟩
structure BdC (d : CommitD) : Prop where
  a : d.a.length ≤ 3377699720527872
  r : d.r.length ≤ 1125899906842624
  s : d.s.length ≤ 3377699720527872
  j : d.j.length ≤ 2251799813685248
  ns : BdN d.ns
structure LeC (d : CommitD) (n : Int) : Prop where
  a : (d.a.length : Int) ≤ n * 3
  r : (d.r.length : Int) ≤ n
  s : (d.s.length : Int) ≤ n * 3
  j : (d.j.length : Int) ≤ n * 2
  ns : LeN d.ns n
theorem LeN.mono {ns : List NodeD} {n m : Int} (h : LeN ns n) (hm : n ≤ m) : LeN ns m := ⟨by have := h.1; omega, fun d hd => by have := h.2 d hd; omega⟩
theorem LeN.sz {ns : List NodeD} {n : Int} (h : LeN ns n) (hm : n ≤ 262144) : SzN ns := ⟨by have := h.1; omega, fun d hd => by have := h.2 d hd; omega⟩
theorem LeC.mono {d : CommitD} {n m : Int} (h : LeC d n) (hm : n ≤ m) : LeC d m := ⟨by have := h.a; omega, by have := h.r; omega, by have := h.s; omega, by have := h.j; omega, h.ns.mono hm⟩
theorem LeC.sz {d : CommitD} {n : Int} (h : LeC d n) (hm : n ≤ 262144) : SzC d := ⟨by have := h.a; omega, by have := h.r; omega, by have := h.s; omega, by have := h.j; omega, h.ns.sz hm⟩
theorem Rw.lens {ok : Nat → Prop} {sz : Nat} {w : World} {v : Value} {xs : List Value} (h : Rw ok w sz v xs) : ∃ A n c, v = .slice A n c ∧ xs.length = n * sz := by obtain ⟨A, n, c, h, h2, _⟩ := h; exact ⟨A, n, c, h, h2⟩
set_option maxHeartbeats 4000000 in
set_option maxRecDepth 100000 in
theorem size36 {ok : Nat → Prop} (cs : Array Value) (d : CommitD) (w : World) (h : RdC ok w cs d) (hs : BdC d) :
    Calls Try.prog 36 #[.agg cs] w fun e w' => ∃ n : Int, e = .returned (.int .i64 n) ∧ 0 ≤ n ∧ n ≤ 9007199254740992 ∧ (n ≤ 262144 → LeC d n) ∧ Below w.heap.size w w' := by
  obtain ⟨va, vr, vs, vj, vt, rfl, h1, h2, h3, h4, h5⟩ := h.out
  clear h
  obtain ⟨xg, xe, xb, xm, xk, xx, xa, xr, xs, xj, xo, xn, xns, xf, xc⟩ := d
  obtain ⟨z1, z2, z3, z4, z5⟩ := hs
  dsimp only [CommitD.cs] at *
  obtain ⟨A1, n1, c1, rfl, m1⟩ := h1.lens
  obtain ⟨A2, n2, c2, rfl, m2⟩ := h2.lens
  obtain ⟨A3, n3, c3, rfl, m3⟩ := h3.lens
  obtain ⟨A4, n4, c4, rfl, m4⟩ := h4.lens
  obtain ⟨A5, n5, c5, rfl⟩ := h5.slice
  have hb1 : Below w.heap.size w (w.alloc (.cells #[.int .i64 xg, .int .i64 xe, .int .i64 xb, .int .i64 xm, .int .i64 xk, .bool xx, .slice A1 n1 c1, .slice A2 n2 c2, .slice A3 n3 c3, .slice A4 n4 c4, .int .i64 xo, .int .i64 xn, .slice A5 n5 c5, .int .i64 xf, .int .i64 xc] 31)) := (Below.refl _ _).alloc (Nat.le_refl _) _
  have x1 : (w.alloc (.cells #[.int .i64 xg, .int .i64 xe, .int .i64 xb, .int .i64 xm, .int .i64 xk, .bool xx, .slice A1 n1 c1, .slice A2 n2 c2, .slice A3 n3 c3, .slice A4 n4 c4, .int .i64 xo, .int .i64 xn, .slice A5 n5 c5, .int .i64 xf, .int .i64 xc] 31)).heap[w.heap.size]? = some (.cells #[.int .i64 xg, .int .i64 xe, .int .i64 xb, .int .i64 xm, .int .i64 xk, .bool xx, .slice A1 n1 c1, .slice A2 n2 c2, .slice A3 n3 c3, .slice A4 n4 c4, .int .i64 xo, .int .i64 xn, .slice A5 n5 c5, .int .i64 xf, .int .i64 xc] 31 (0, 0)) := heap_alloc_new w _
  have hc : ∀ w', Below (w.alloc (.cells #[.int .i64 xg, .int .i64 xe, .int .i64 xb, .int .i64 xm, .int .i64 xk, .bool xx, .slice A1 n1 c1, .slice A2 n2 c2, .slice A3 n3 c3, .slice A4 n4 c4, .int .i64 xo, .int .i64 xn, .slice A5 n5 c5, .int .i64 xf, .int .i64 xc] 31)).heap.size (w.alloc (.cells #[.int .i64 xg, .int .i64 xe, .int .i64 xb, .int .i64 xm, .int .i64 xk, .bool xx, .slice A1 n1 c1, .slice A2 n2 c2, .slice A3 n3 c3, .slice A4 n4 c4, .int .i64 xo, .int .i64 xn, .slice A5 n5 c5, .int .i64 xf, .int .i64 xc] 31)) w' → w'.cell? ⟨w.heap.size, 6, none⟩ = some (.slice A1 n1 c1) ∧ w'.cell? ⟨w.heap.size, 7, none⟩ = some (.slice A2 n2 c2) ∧ w'.cell? ⟨w.heap.size, 8, none⟩ = some (.slice A3 n3 c3) ∧ w'.cell? ⟨w.heap.size, 9, none⟩ = some (.slice A4 n4 c4) ∧ w'.cell? ⟨w.heap.size, 12, none⟩ = some (.slice A5 n5 c5) ∧ Below (w.alloc (.cells #[.int .i64 xg, .int .i64 xe, .int .i64 xb, .int .i64 xm, .int .i64 xk, .bool xx, .slice A1 n1 c1, .slice A2 n2 c2, .slice A3 n3 c3, .slice A4 n4 c4, .int .i64 xo, .int .i64 xn, .slice A5 n5 c5, .int .i64 xf, .int .i64 xc] 31)).heap.size (w.alloc (.cells #[.int .i64 xg, .int .i64 xe, .int .i64 xb, .int .i64 xm, .int .i64 xk, .bool xx, .slice A1 n1 c1, .slice A2 n2 c2, .slice A3 n3 c3, .slice A4 n4 c4, .int .i64 xo, .int .i64 xn, .slice A5 n5 c5, .int .i64 xf, .int .i64 xc] 31)) w' := fun w' hw => by
    have y := (hw.block _ (lt_of_some x1)).trans x1
    refine ⟨?_, ?_, ?_, ?_, ?_, hw⟩
    · rw [cell_of_row w' _ 6 _ _ _ y]; rfl
    · rw [cell_of_row w' _ 7 _ _ _ y]; rfl
    · rw [cell_of_row w' _ 8 _ _ _ y]; rfl
    · rw [cell_of_row w' _ 9 _ _ _ y]; rfl
    · rw [cell_of_row w' _ 12 _ _ _ y]; rfl
  obtain ⟨l6, l7, l8, l9, l12, _⟩ := hc _ (Below.refl _ _)
  have HC := Lib.hid hc
  have HK := Lib.hid (And.intro (h5.keep (Kn.of_below hb1)) (And.intro z5 hb1))
  have q1 : n1 ≤ 1125899906842624 := by omega
  have q2 : n2 ≤ 1125899906842624 := by omega
  have q3 : n3 ≤ 1125899906842624 := by omega
  have q4 : n4 ≤ 1125899906842624 := by omega
  have HM := Lib.hid (And.intro m1 (And.intro m2 (And.intro m3 m4)))
  clear hc hb1 x1 h1 h2 h3 h4 h5 z1 z2 z3 z4 z5 m1 m2 m3 m4
  go_enter Try.func36, Try.ntmps36
  go_wp2_with fail
  generalize hwz : w.alloc (.cells #[.int .i64 xg, .int .i64 xe, .int .i64 xb, .int .i64 xm, .int .i64 xk, .bool xx, .slice A1 n1 c1, .slice A2 n2 c2, .slice A3 n3 c3, .slice A4 n4 c4, .int .i64 xo, .int .i64 xn, .slice A5 n5 c5, .int .i64 xf, .int .i64 xc] 31) = wz at *
  clear hwz
  refine Go.Proofs.Phase.wp_region_ph (S := (fun w' => w'.cell? ⟨w.heap.size, 6, none⟩ = some (.slice A1 n1 c1) ∧ w'.cell? ⟨w.heap.size, 7, none⟩ = some (.slice A2 n2 c2) ∧ w'.cell? ⟨w.heap.size, 8, none⟩ = some (.slice A3 n3 c3) ∧ w'.cell? ⟨w.heap.size, 9, none⟩ = some (.slice A4 n4 c4) ∧ w'.cell? ⟨w.heap.size, 12, none⟩ = some (.slice A5 n5 c5) ∧ Below wz.heap.size wz w')) 20 (by kernel_rfl) ?_ (fun hHeld => ?_)
  · ((try dsimp only) <;> (first | exact HC.out _ (by assumption) | exact HC.out _ (below_drewN (Below.refl _ _) _) | exact HC.out _ (Below.refl _ _).drew))
  refine Go.Proofs.Phase.wpPh_take' (i := 0) (by simp only [List.getElem?_toArray, List.getElem?_cons_succ, List.getElem?_cons_zero]; rfl) ?_
  refine ⟨?_, ⟨by kernel_rfl, by kernel_rfl, by kernel_rfl, by kernel_rfl⟩, fun _ _ _ h => h, Or.inl ⟨by rfl, ?_⟩, by assumption, ?_⟩
  rotate_left
  · (intro w hSw; (try dsimp only at hSw); go_simp; with_reducible rfl)
  try simp only [Act.put, List.setIfInBounds_toArray, List.set_cons_zero, List.set_cons_succ]
  refine Go.Proofs.Phase.wpPh_take' (i := 1) (by simp only [List.getElem?_toArray, List.getElem?_cons_succ, List.getElem?_cons_zero]; rfl) ?_
  refine ⟨?_, ⟨by kernel_rfl, by kernel_rfl, by kernel_rfl, by kernel_rfl⟩, fun _ _ _ h => h, Or.inl ⟨by rfl, ?_⟩, by assumption, ?_⟩
  rotate_left
  · (intro w hSw; (try dsimp only at hSw); go_simp; with_reducible rfl)
  try simp only [Act.put, List.setIfInBounds_toArray, List.set_cons_zero, List.set_cons_succ]
  refine Go.Proofs.Phase.wpPh_take' (i := 2) (by simp only [List.getElem?_toArray, List.getElem?_cons_succ, List.getElem?_cons_zero]; rfl) ?_
  refine ⟨?_, ⟨by kernel_rfl, by kernel_rfl, by kernel_rfl, by kernel_rfl⟩, fun _ _ _ h => h, Or.inl ⟨by rfl, ?_⟩, by assumption, ?_⟩
  rotate_left
  · (intro w hSw; (try dsimp only at hSw); go_simp; with_reducible rfl)
  try simp only [Act.put, List.setIfInBounds_toArray, List.set_cons_zero, List.set_cons_succ]
  refine Go.Proofs.Phase.wpPh_take' (i := 3) (by simp only [List.getElem?_toArray, List.getElem?_cons_succ, List.getElem?_cons_zero]; rfl) ?_
  refine ⟨?_, ⟨by kernel_rfl, by kernel_rfl, by kernel_rfl, by kernel_rfl⟩, fun _ _ _ h => h, Or.inl ⟨by rfl, ?_⟩, by assumption, ?_⟩
  rotate_left
  · (intro w hSw; (try dsimp only at hSw); go_simp; with_reducible rfl)
  try simp only [Act.put, List.setIfInBounds_toArray, List.set_cons_zero, List.set_cons_succ]
  refine Go.Proofs.Phase.wpPh_take' (i := 4) (by simp only [List.getElem?_toArray, List.getElem?_cons_succ, List.getElem?_cons_zero]; rfl) ?_
  refine ⟨?_, ⟨by kernel_rfl, by kernel_rfl, by kernel_rfl, by kernel_rfl⟩, fun _ _ _ h => h, Or.inl ⟨by rfl, ?_⟩, by assumption, ?_⟩
  rotate_left
  · (intro w hSw; (try dsimp only at hSw); go_simp; with_reducible rfl)
  try simp only [Act.put, List.setIfInBounds_toArray, List.set_cons_zero, List.set_cons_succ]
  refine Go.Proofs.Phase.wpPh_take' (i := 5) (by simp only [List.getElem?_toArray, List.getElem?_cons_succ, List.getElem?_cons_zero]; rfl) ?_
  refine ⟨?_, ⟨by kernel_rfl, by kernel_rfl, by kernel_rfl, by kernel_rfl⟩, fun _ _ _ h => h, Or.inl ⟨by rfl, ?_⟩, by assumption, ?_⟩
  rotate_left
  · (intro w hSw; (try dsimp only at hSw); go_simp; with_reducible rfl)
  try simp only [Act.put, List.setIfInBounds_toArray, List.set_cons_zero, List.set_cons_succ]
  refine Go.Proofs.Phase.wpPh_take' (i := 6) (by simp only [List.getElem?_toArray, List.getElem?_cons_succ, List.getElem?_cons_zero]; rfl) ?_
  refine ⟨?_, ⟨by kernel_rfl, by kernel_rfl, by kernel_rfl, by kernel_rfl⟩, fun _ _ _ h => h, Or.inl ⟨by rfl, ?_⟩, by assumption, ?_⟩
  rotate_left
  · (intro w hSw; (try dsimp only at hSw); go_simp; with_reducible rfl)
  try simp only [Act.put, List.setIfInBounds_toArray, List.set_cons_zero, List.set_cons_succ]
  refine Go.Proofs.Phase.wpPh_take' (i := 7) (by simp only [List.getElem?_toArray, List.getElem?_cons_succ, List.getElem?_cons_zero]; rfl) ?_
  refine ⟨?_, ⟨by kernel_rfl, by kernel_rfl, by kernel_rfl, by kernel_rfl⟩, fun _ _ _ h => h, Or.inl ⟨by rfl, ?_⟩, by assumption, ?_⟩
  rotate_left
  · (intro w hSw; (try dsimp only at hSw); go_simp; with_reducible rfl)
  try simp only [Act.put, List.setIfInBounds_toArray, List.set_cons_zero, List.set_cons_succ]
  refine Go.Proofs.Phase.wpPh_take' (i := 8) (by simp only [List.getElem?_toArray, List.getElem?_cons_succ, List.getElem?_cons_zero]; rfl) ?_
  refine ⟨?_, ⟨by kernel_rfl, by kernel_rfl, by kernel_rfl, by kernel_rfl⟩, fun _ _ _ h => h, Or.inl ⟨by rfl, ?_⟩, by assumption, ?_⟩
  rotate_left
  · (intro w hSw; (try dsimp only at hSw); go_simp; with_reducible rfl)
  try simp only [Act.put, List.setIfInBounds_toArray, List.set_cons_zero, List.set_cons_succ]
  refine Go.Proofs.Phase.wpPh_take' (i := 9) (by simp only [List.getElem?_toArray, List.getElem?_cons_succ, List.getElem?_cons_zero]; rfl) ?_
  refine ⟨?_, ⟨by kernel_rfl, by kernel_rfl, by kernel_rfl, by kernel_rfl⟩, fun _ _ _ h => h, Or.inl ⟨by rfl, ?_⟩, by assumption, ?_⟩
  rotate_left
  · (intro w hSw; (try dsimp only at hSw); go_simp; with_reducible rfl)
  try simp only [Act.put, List.setIfInBounds_toArray, List.set_cons_zero, List.set_cons_succ]
  refine Go.Proofs.Phase.wpPh_take' (i := 10) (by simp only [List.getElem?_toArray, List.getElem?_cons_succ, List.getElem?_cons_zero]; rfl) ?_
  refine ⟨?_, ⟨by kernel_rfl, by kernel_rfl, by kernel_rfl, by kernel_rfl⟩, fun _ _ _ h => h, Or.inl ⟨by rfl, ?_⟩, by assumption, ?_⟩
  rotate_left
  · (intro w hSw; (try dsimp only at hSw); go_simp; with_reducible rfl)
  try simp only [Act.put, List.setIfInBounds_toArray, List.set_cons_zero, List.set_cons_succ]
  refine Go.Proofs.Phase.wpPh_take' (i := 11) (by simp only [List.getElem?_toArray, List.getElem?_cons_succ, List.getElem?_cons_zero]; rfl) ?_
  refine ⟨?_, ⟨by kernel_rfl, by kernel_rfl, by kernel_rfl, by kernel_rfl⟩, fun _ _ _ h => h, Or.inl ⟨by rfl, ?_⟩, by assumption, ?_⟩
  rotate_left
  · (intro w hSw; (try dsimp only at hSw); go_simp; with_reducible rfl)
  try simp only [Act.put, List.setIfInBounds_toArray, List.set_cons_zero, List.set_cons_succ]
  refine Go.Proofs.Phase.wpPh_take' (i := 12) (by simp only [List.getElem?_toArray, List.getElem?_cons_succ, List.getElem?_cons_zero]; rfl) ?_
  refine ⟨?_, ⟨by kernel_rfl, by kernel_rfl, by kernel_rfl, by kernel_rfl⟩, fun _ _ _ h => h, Or.inl ⟨by rfl, ?_⟩, by assumption, ?_⟩
  rotate_left
  · (intro w hSw; (try dsimp only at hSw); go_simp; with_reducible rfl)
  try simp only [Act.put, List.setIfInBounds_toArray, List.set_cons_zero, List.set_cons_succ]
  refine Go.Proofs.Phase.wpPh_take' (i := 13) (by simp only [List.getElem?_toArray, List.getElem?_cons_succ, List.getElem?_cons_zero]; rfl) ?_
  refine ⟨?_, ⟨by kernel_rfl, by kernel_rfl, by kernel_rfl, by kernel_rfl⟩, fun _ _ _ h => h, Or.inl ⟨by rfl, ?_⟩, by assumption, ?_⟩
  rotate_left
  · (intro w hSw; (try dsimp only at hSw); go_simp; with_reducible rfl)
  try simp only [Act.put, List.setIfInBounds_toArray, List.set_cons_zero, List.set_cons_succ]
  refine Go.Proofs.Phase.wpPh_take' (i := 14) (by simp only [List.getElem?_toArray, List.getElem?_cons_succ, List.getElem?_cons_zero]; rfl) ?_
  refine ⟨?_, ⟨by kernel_rfl, by kernel_rfl, by kernel_rfl, by kernel_rfl⟩, fun _ _ _ h => h, Or.inl ⟨by rfl, ?_⟩, by assumption, ?_⟩
  rotate_left
  · (intro w hSw; (try dsimp only at hSw); go_simp; with_reducible rfl)
  try simp only [Act.put, List.setIfInBounds_toArray, List.set_cons_zero, List.set_cons_succ]
  refine Go.Proofs.Phase.wpPh_take' (i := 15) (by simp only [List.getElem?_toArray, List.getElem?_cons_succ, List.getElem?_cons_zero]; rfl) ?_
  refine ⟨?_, ⟨by kernel_rfl, by kernel_rfl, by kernel_rfl, by kernel_rfl⟩, fun _ _ _ h => h, Or.inl ⟨by rfl, ?_⟩, by assumption, ?_⟩
  rotate_left
  · (intro w hSw; (try dsimp only at hSw); go_simp; with_reducible rfl)
  try simp only [Act.put, List.setIfInBounds_toArray, List.set_cons_zero, List.set_cons_succ]
  refine Go.Proofs.Phase.wpPh_take' (i := 16) (by simp only [List.getElem?_toArray, List.getElem?_cons_succ, List.getElem?_cons_zero]; rfl) ?_
  refine ⟨?_, ⟨by kernel_rfl, by kernel_rfl, by kernel_rfl, by kernel_rfl⟩, fun _ _ _ h => h, Or.inl ⟨by rfl, ?_⟩, by assumption, ?_⟩
  rotate_left
  · (intro w hSw; (try dsimp only at hSw); go_simp; with_reducible rfl)
  try simp only [Act.put, List.setIfInBounds_toArray, List.set_cons_zero, List.set_cons_succ]
  refine Go.Proofs.Phase.wpPh_take' (i := 17) (by simp only [List.getElem?_toArray, List.getElem?_cons_succ, List.getElem?_cons_zero]; rfl) ?_
  refine ⟨?_, ⟨by kernel_rfl, by kernel_rfl, by kernel_rfl, by kernel_rfl⟩, fun _ _ _ h => h, Or.inl ⟨by rfl, ?_⟩, by assumption, ?_⟩
  rotate_left
  · (intro w hSw; (try dsimp only at hSw); go_simp; with_reducible rfl)
  try simp only [Act.put, List.setIfInBounds_toArray, List.set_cons_zero, List.set_cons_succ]
  refine Go.Proofs.Phase.wpPh_before (i := 18) (by kernel_rfl) (by simp only [List.getElem?_toArray, List.getElem?_cons_succ, List.getElem?_cons_zero]; rfl) (fun K hK => ?_)
  go_simp
  ((obtain ⟨_, _, _, _, _, s2⟩ := (show _ ∧ _ ∧ _ ∧ _ ∧ _ ∧ Below wz.heap.size wz _ by assumption); with_reducible refine (size45 _ xns _ (HK.out.1.keep (Kn.of_below s2)) HK.out.2.1).mono ?_; rintro e w3 ⟨nt, rfl, j1, j2, j3, B1⟩; have K1 := s2.trans (B1.mono s2.size); clear s2 B1))
  go_wp2_with fail
  refine hK.out _ _ ?_ (fun hHeldN => ?_)
  · ((try dsimp only) <;> (first | exact HC.out _ (by assumption) | exact HC.out _ (below_drewN (Below.refl _ _) _) | exact HC.out _ (Below.refl _ _).drew))
  clear hHeld
  have hHeld := hHeldN
  clear hHeldN
  clear hK K
  try simp only [Act.put, List.setIfInBounds_toArray, List.set_cons_zero, List.set_cons_succ]
  refine Go.Proofs.Phase.wpPh_take' (i := 19) (by simp only [List.getElem?_toArray, List.getElem?_cons_succ, List.getElem?_cons_zero]; rfl) ?_
  refine ⟨?_, ⟨by kernel_rfl, by kernel_rfl, by kernel_rfl, by kernel_rfl⟩, fun _ _ _ h => h, Or.inl ⟨by rfl, ?_⟩, by assumption, ?_⟩
  rotate_left
  · (intro w hSw; (try dsimp only at hSw); go_simp; with_reducible rfl)
  try simp only [Act.put, List.setIfInBounds_toArray, List.set_cons_zero, List.set_cons_succ]
  refine Go.Proofs.Phase.wpPh_behind (i := 20) (by kernel_rfl) (by simp only [List.getElem?_toArray, List.getElem?_cons_succ, List.getElem?_cons_zero]; rfl) (by kernel_rfl) (fun K hK => ?_)
  go_simp
  refine hK.out _ _ ?_
  clear hK K
  try simp only [Act.put, List.setIfInBounds_toArray, List.set_cons_zero, List.set_cons_succ]
  refine Go.Proofs.Phase.wpPh_done (by kernel_rfl) ?_ _
  go_wp2_with fail
  go_ret
  have e : IntKind.i64.wrap (IntKind.i64.wrap (IntKind.i64.wrap (IntKind.i64.wrap (IntKind.i64.wrap (1 + (n1 : Int)) + n2) + n3) + n4) + nt) = 1 + n1 + n2 + n3 + n4 + nt := by
    rw [wrapi (1 + (n1 : Int)) (by omega), wrapi (1 + (n1 : Int) + n2) (by omega), wrapi (1 + (n1 : Int) + n2 + n3) (by omega), wrapi (1 + (n1 : Int) + n2 + n3 + n4) (by omega), wrapi _ (by omega)]
  refine ⟨_, congrArg (fun z => Ending.returned (.int .i64 z)) e, by omega, by omega, fun hle => ?_, HK.out.2.2.trans (K1.mono HK.out.2.2.size)⟩
  obtain ⟨m1, m2, m3, m4⟩ := HM.out
  exact ⟨by show (xa.length : Int) ≤ _; omega, by show (xr.length : Int) ≤ _; omega, by show (xs.length : Int) ≤ _; omega, by show (xj.length : Int) ≤ _; omega, (j3 (by omega)).mono (by omega)⟩
end Go.Proofs.Ythahadhdhpcndaa
