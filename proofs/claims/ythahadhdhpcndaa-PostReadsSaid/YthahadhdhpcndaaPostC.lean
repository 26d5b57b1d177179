import Derived.Test.YthahadhdhpcndaaPostB
import Derived.Test.YthahadhdhpcndaaNetX
import Derived.Test.YthahadhdhpcndaaSame5
import Derived.Test.YthahadhdhpcndaaArgs
import Derived.Test.YthahadhdhpcndaaPostA
/- How large lists of mails and of boxes are. -/
namespace Go.Proofs.Ythahadhdhpcndaa
open Go Go.RowKit
set_option linter.unusedVariables false
set_option linter.unusedSimpArgs false

/-- Of a list: how large it is, with what is in it. -/
structure MsI (L : List MailD) (i : Nat) (n : Int) : Prop where
  hi : i ≤ L.length
  h1 : (L.length : Int) ≤ n
  h2 : n ≤ 18031990695788544
  h3 : ∀ j d, j < i → L[j]? = some d → n ≤ 262144 → LeM d n
set_option maxHeartbeats 4000000 in
set_option maxRecDepth 100000 in
theorem msize31 (v : Value) (L : List MailD) (w : World) (h : elemM.RdL (fun _ => True) w v L) (hL : L.length ≤ 17592186044416) (hb : ∀ d ∈ L, BdM d) :
    Calls Try.prog 31 #[v] w fun e w' => ∃ n : Int, e = .returned (.int .i64 n) ∧ (L.length : Int) ≤ n ∧ n ≤ 18031990695788544 ∧ (n ≤ 262144 → ∀ d ∈ L, SzM d) ∧ Below w.heap.size w w' := by
  obtain ⟨A, n, c, rfl, rfl, h2, h3⟩ := h
  have H0 : Hid (MsI L 0 (L.length : Int)) := Lib.hid ⟨Nat.zero_le _, Int.le_refl _, by omega, fun j d hj => absurd hj (by omega)⟩
  have HS := Lib.hid (And.intro hb h3)
  clear h2 h3 hb
  go_enter Try.func31, Try.ntmps31
  go_wp2
  go_loopg [3, 4] L.length (fun k v3 v4 wr => ∃ (i : Nat) (n : Int), v3 = .int .i64 n ∧ v4 = .int .i64 (i : Int) ∧ i + k = L.length ∧ Hid (MsI L i n) ∧ Below w.heap.size w wr)
  case atStart => exact ⟨0, _, rfl, rfl, by simp, H0, Below.refl _ _⟩
  case round =>
    clear H0
    obtain ⟨i, n, rfl, rfl, hik, HT, hB⟩ := hrel
    have hT := HT.out
    have i2 : (0 : Int) ≤ (i : Int) := by omega
    have hend : n ≤ 262144 → i = L.length → ∀ d ∈ L, SzM d := fun hn hi d hd => by
      obtain ⟨j, hj, e⟩ := List.getElem_of_mem hd
      exact (hT.h3 j d (by omega) (by rw [List.getElem?_eq_getElem hj, e]) hn).sz hn
    have hn0 : (L.length : Int) ≤ n := hT.h1
    have hn1 := hT.h2
    by_cases hi : i < L.length
    · have t1 : decide ((i : Int) < (L.length : Int)) = true := decide_eq_true (by omega)
      by_cases hn : n ≤ 262144
      · have t2 : decide (n ≤ 262144) = true := decide_eq_true hn
        obtain ⟨d, hd⟩ : ∃ d, L[i]? = some d := ⟨L[i], List.getElem?_eq_getElem hi⟩
        obtain ⟨b, o, cur, tt, fr, rfl, p1, p2, p3⟩ := HS.out.2 (by omega)
        obtain ⟨p4, p5⟩ := p3 i d hd
        change o + i * 30 + 30 ≤ cur.size at p4
        change RdM _ w (cur.extract (o + i * 30) (o + i * 30 + 30)) d at p5
        obtain ⟨m, hx⟩ : ∃ m, cur.extract (o + i * 30) (o + i * 30 + 30) = m := ⟨_, rfl⟩
        rw [hx] at p5
        have hbr := (hB.block b (lt_of_some p2)).trans p2
        have M := size24 m d wr (p5.keep (Kn.of_below hB)) (HS.out.1 d (List.mem_of_getElem? hd))
        have HX := Lib.hid (And.intro hbr (And.intro (show o + i * 30 + 30 ≤ cur.size by omega) hx))
        have HD := Lib.hid hd
        have HB := Lib.hid hB
        have i3 : (i : Int) < (L.length : Int) := by omega
        clear p1 p2 p3 p4 p5 hx hbr hT hd hB hend
        go_wp2_with (with_reducible refine wpList_load_part' rfl 40 _ rfl b (o + i * 30) 30 rfl _ cur _ _ HX.out.1 Try.underlying40 rfl cells40 HX.out.2.1 m HX.out.2.2 ?_)
        refine M.mono ?_
        rintro e w2 ⟨n', rfl, q1, q2, q3, B2⟩
        have e : IntKind.i64.wrap (n + n') = n + n' := wrapi _ (by omega)
        have HB2 := Lib.hid (HB.out.trans (B2.mono HB.out.size))
        have HN : Hid (MsI L (i + 1) (n + n')) := Lib.hid ⟨by omega, by omega, by omega, fun j d' hj hd' hle => by
          by_cases hji : j < i
          · exact (HT.out.h3 j d' hji hd' (by omega)).mono (by omega)
          · obtain rfl : j = i := by omega
            have e := HD.out.symm.trans hd'
            injection e with e
            subst e
            exact (q3 (by omega)).mono (by omega)⟩
        have HI := Lib.hid hi
        clear M B2 q3
        go_wp2_with fail
        go_roundg (L.length - (i + 1))
        case measure => have := HI.out; omega
        case rel => exact ⟨i + 1, n + n', by first | rfl | rw [← e]; rfl, by simp, by have := HI.out; omega, HN, HB2.out⟩
      · have t2 : decide (n ≤ 262144) = false := decide_eq_false hn
        have HB := Lib.hid hB
        clear hT hB hend
        go_wp2
        go_ret
        exact ⟨_, rfl, hn0, hn1, fun h => absurd h (by omega), HB.out⟩
    · have t1 : decide ((i : Int) < (L.length : Int)) = false := decide_eq_false (by omega)
      have HB := Lib.hid (And.intro hB hend)
      clear hT hB hend
      go_wp2
      go_ret
      exact ⟨_, rfl, hn0, hn1, fun h => HB.out.2 h (by omega), HB.out.1⟩
/-- Of a list: how large it is, with what is in it. -/
structure XsI (L : List BoxD) (i : Nat) (n : Int) : Prop where
  hi : i ≤ L.length
  h1 : (L.length : Int) ≤ n
  h2 : n ≤ 18031990696837120
  h3 : ∀ j d, j < i → L[j]? = some d → n ≤ 262144 → (d.m.length : Int) ≤ n ∧ ∀ x ∈ d.m, SzM x
set_option maxHeartbeats 4000000 in
set_option maxRecDepth 100000 in
theorem bsize23 (v : Value) (L : List BoxD) (w : World) (h : elemB.RdL (fun _ => True) w v L) (hL : L.length ≤ 17592186044416) (hb : ∀ d ∈ L, (d.m.length ≤ 17592186044416 ∧ ∀ x ∈ d.m, BdM x)) :
    Calls Try.prog 23 #[v] w fun e w' => ∃ n : Int, e = .returned (.int .i64 n) ∧ (L.length : Int) ≤ n ∧ n ≤ 18031990696837120 ∧ (n ≤ 262144 → ∀ d ∈ L, SzB d) ∧ Below w.heap.size w w' := by
  obtain ⟨A, n, c, rfl, rfl, h2, h3⟩ := h.boxes
  have H0 : Hid (XsI L 0 (L.length : Int)) := Lib.hid ⟨Nat.zero_le _, Int.le_refl _, by omega, fun j d hj => absurd hj (by omega)⟩
  have HS := Lib.hid (And.intro hb h3)
  clear h2 h3 hb
  go_enter Try.func23, Try.ntmps23
  go_wp2
  go_loopg [3, 4] L.length (fun k v3 v4 wr => ∃ (i : Nat) (n : Int), v3 = .int .i64 n ∧ v4 = .int .i64 (i : Int) ∧ i + k = L.length ∧ Hid (XsI L i n) ∧ Below w.heap.size w wr)
  case atStart => exact ⟨0, _, rfl, rfl, by simp, H0, Below.refl _ _⟩
  case round =>
    clear H0
    obtain ⟨i, n, rfl, rfl, hik, HT, hB⟩ := hrel
    have hT := HT.out
    have i2 : (0 : Int) ≤ (i : Int) := by omega
    have hend : n ≤ 262144 → i = L.length → ∀ d ∈ L, SzB d := fun hn hi d hd => by
      obtain ⟨j, hj, e⟩ := List.getElem_of_mem hd
      have h9 := hT.h3 j d (by omega) (by rw [List.getElem?_eq_getElem hj, e]) hn
      exact ⟨by have := h9.1; omega, h9.2⟩
    have hn0 : (L.length : Int) ≤ n := hT.h1
    have hn1 := hT.h2
    by_cases hi : i < L.length
    · have t1 : decide ((i : Int) < (L.length : Int)) = true := decide_eq_true (by omega)
      by_cases hn : n < 1048576
      · have t2 : decide (n < 1048576) = true := decide_eq_true hn
        obtain ⟨d, hd⟩ : ∃ d, L[i]? = some d := ⟨L[i], List.getElem?_eq_getElem hi⟩
        obtain ⟨b, o, rfl, p1, p2, p3⟩ := HS.out.2 (by omega)
        obtain ⟨_, _, ⟨vm, p4, p5⟩, _⟩ := p3 i d hd
        have hbr := (hB.cell (p := ⟨b, o + i * 4 + 2, none⟩) p2).trans p4
        have M := msize31 vm d.m wr ((p5.mono (ok' := fun _ => True) fun _ _ _ => trivial).keep (Kn.of_below hB)) (HS.out.1 d (List.mem_of_getElem? hd)).1 (HS.out.1 d (List.mem_of_getElem? hd)).2
        obtain ⟨Am, cm, rfl⟩ := p5.slice
        have HD := Lib.hid hd
        have HB := Lib.hid hB
        have i3 : (i : Int) < (L.length : Int) := by omega
        clear p1 p2 p3 p4 p5 hT hd hB hend
        go_wp2_with fail
        refine M.mono ?_
        rintro e w2 ⟨n', rfl, q1, q2, q3, B2⟩
        have q0 : (0 : Int) ≤ (d.m.length : Int) := by omega
        have e : IntKind.i64.wrap (n + n') = n + n' := wrapi _ (by omega)
        have HB2 := Lib.hid (HB.out.trans (B2.mono HB.out.size))
        have HN : Hid (XsI L (i + 1) (n + n')) := Lib.hid ⟨by omega, by omega, by omega, fun j d' hj hd' hle => by
          by_cases hji : j < i
          · have h9 := HT.out.h3 j d' hji hd' (by omega)
            exact ⟨by have := h9.1; omega, h9.2⟩
          · obtain rfl : j = i := by omega
            have e := HD.out.symm.trans hd'
            injection e with e
            subst e
            exact ⟨by omega, q3 (by omega)⟩⟩
        have HI := Lib.hid hi
        clear M B2 q3
        go_wp2_with fail
        go_roundg (L.length - (i + 1))
        case measure => have := HI.out; omega
        case rel => exact ⟨i + 1, n + n', by first | rfl | rw [← e]; rfl, by simp, by have := HI.out; omega, HN, HB2.out⟩
      · have t2 : decide (n < 1048576) = false := decide_eq_false hn
        have HB := Lib.hid hB
        clear hT hB hend
        go_wp2
        go_ret
        exact ⟨_, rfl, hn0, hn1, fun h => absurd h (by omega), HB.out⟩
    · have t1 : decide ((i : Int) < (L.length : Int)) = false := decide_eq_false (by omega)
      have HB := Lib.hid (And.intro hB hend)
      clear hT hB hend
      go_wp2
      go_ret
      exact ⟨_, rfl, hn0, hn1, fun h => HB.out.2 h (by omega), HB.out.1⟩
end Go.Proofs.Ythahadhdhpcndaa

/- SameBox; what the three operations leave. -/
namespace Go.Proofs.Ythahadhdhpcndaa
open Go Go.RowKit
set_option linter.unusedVariables false
set_option linter.unusedSimpArgs false

set_option maxHeartbeats 4000000 in
set_option maxRecDepth 100000 in
theorem same28 {ok ok' : Nat → Prop} (cs cs' : Array Value) (d : BoxD) (w : World) (h : RdB ok w cs d) (h' : RdB ok' w cs' d) (hx : ∀ x ∈ d.m, NumM x) (hs : SzB d) :
    Calls Try.prog 28 #[.agg cs, .agg cs'] w fun e w' => e = .returned (.bool true) ∧ Below w.heap.size w w' := by
  obtain ⟨v, rfl, h1⟩ := h
  obtain ⟨v', rfl, h1'⟩ := h'
  obtain ⟨A, c, rfl⟩ := h1.slice
  obtain ⟨A', c', rfl⟩ := h1'.slice
  have hb2 : Below w.heap.size w ((w.alloc (.cells (d.cs (.slice A d.m.length c)) 76)).alloc (.cells (d.cs (.slice A' d.m.length c')) 76)) := ((Below.refl _ _).alloc (Nat.le_refl _) _).alloc (by simp) _
  have M := same35 _ _ d.m _ (h1.keep (Kn.of_below hb2)) (h1'.keep (Kn.of_below hb2)) hs.1 hx hs.2
  obtain ⟨dd, dop, dm, dn⟩ := d
  have HB := Lib.hid hb2
  simp only [BoxD.cs] at M HB ⊢
  clear hb2 h1 h1' hx hs
  go_enter Try.func28, Try.ntmps28
  go_wp2_with fail
  refine M.mono ?_
  rintro e w2 ⟨rfl, B2⟩
  have HB2 := Lib.hid (HB.out.trans (B2.mono HB.out.size))
  clear M B2
  go_wp2_with fail
  go_ret
  exact ⟨rfl, HB2.out⟩
/-- What an operation leaves: refused, or boxes that are the same but for those of the device. -/
structure Res (L : List BoxD) (dev : Int) (w : World) (v : Value) (code : Int) : Prop where
  out : (code ≠ 0 ∧ v = .slice none 0 0) ∨ (code = 0 ∧ ∃ L', elemB.RdL (fun _ => True) w v L' ∧ L'.length = L.length ∧ (∀ (i : Nat) (d : BoxD), L[i]? = some d → d.d ≠ dev → L'[i]? = some d) ∧ chk 0 L' = true)
theorem chk_set : ∀ (L : List BoxD) (nx : Int) (i : Nat) (d d' : BoxD), chk nx L = true → L[i]? = some d → d'.d = d.d → 0 ≤ d'.n → d'.n ≤ 1099511627776 → chk nx (L.set i d') = true
  | b :: L, nx, i, d, d', h, hd, h1, h2, h3 => by
    have ht := chk_tail h
    have h0 := chk_at (b :: L) nx h 0 b rfl
    cases i with
    | zero =>
      obtain rfl : b = d := by simpa using hd
      rw [List.set_cons_zero, chk, if_neg (by omega), if_neg (by omega), if_neg (by omega), if_neg (by omega), h1]
      exact ht
    | succ i =>
      rw [List.set_cons_succ, chk, if_neg (by omega), if_neg (by omega), if_neg (by omega), if_neg (by omega)]
      exact chk_set L _ i d d' ht (by simpa using hd) h1 h2 h3
  | [], _, i, d, _, _, hd, _, _, _ => by simp at hd
theorem OpP.res {L : List BoxD} {dev : Int} {w w' : World} {bad : BoxD → Int} {turned : BoxD → BoxD} {e : Ending} (h : OpP L dev w bad turned e w') (ht : ∀ d, bad d = 0 → d.d = dev → 0 ≤ d.n → d.n ≤ 1099511627776 → (turned d).d = d.d ∧ 0 ≤ (turned d).n ∧ (turned d).n ≤ 1099511627776) :
    Below w.heap.size w w' ∧ ∃ v code, e = .returned (.tuple #[v, .int .i64 code]) ∧ Res L dev w' v code := by
  obtain ⟨h1, h2 | h2 | h2⟩ := h.out
  · exact ⟨h1, _, _, h2.2, ⟨.inl ⟨by decide, rfl⟩⟩⟩
  · exact ⟨h1, _, _, h2.2.2, ⟨.inl ⟨by decide, rfl⟩⟩⟩
  · obtain ⟨hc, i, d, hd, hdd, h3 | ⟨h3, v', h4, h5⟩⟩ := h2
    · exact ⟨h1, _, _, h3.2, ⟨.inl ⟨h3.1, rfl⟩⟩⟩
    · refine ⟨h1, _, _, h4, ⟨.inr ⟨rfl, _, h5.mono fun _ _ _ => trivial, by simp, fun j x hx hxd => ?_, ?_⟩⟩⟩
      · have hji : i ≠ j := fun e => by
          subst e
          have e := hd.symm.trans hx
          injection e with e
          subst e
          exact hxd hdd
        rw [List.getElem?_set_ne hji]
        exact hx
      · have hr := chk_at L 0 hc i d hd
        have h6 := ht d h3 hdd hr.2.2.1 hr.2.2.2
        exact chk_set L 0 i d _ hc hd h6.1 h6.2.1 h6.2.2
theorem Res.slice {L : List BoxD} {dev : Int} {w : World} {v : Value} {code : Int} (h : Res L dev w v code) : ∃ A n c, v = .slice A n c ∧ (code = 0 → n = L.length) := by
  rcases h.out with ⟨h1, rfl⟩ | ⟨h1, L', h2, h3, _⟩
  · exact ⟨_, _, _, rfl, fun h => absurd h h1⟩
  · obtain ⟨A, c, rfl⟩ := h2.slice
    exact ⟨_, _, _, rfl, fun _ => h3⟩
theorem Res.keep {L : List BoxD} {dev : Int} {w w' : World} {v : Value} {code : Int} (h : Res L dev w v code) (hb : Below w.heap.size w w') : Res L dev w' v code := by
  rcases h.out with h1 | ⟨h1, L', h2, h3⟩
  · exact ⟨.inl h1⟩
  · exact ⟨.inr ⟨h1, L', h2.keep (Kn.of_below hb), h3⟩⟩
end Go.Proofs.Ythahadhdhpcndaa

/- Arguments that are mails, boxes, lists of them. -/
namespace Go.Proofs.Ythahadhdhpcndaa
open Go Go.RowKit
set_option linter.unusedVariables false
set_option linter.unusedSimpArgs false

section
variable {H : Type} {enc : TypeId × Value → H} {w : World}
theorem mails74 {cs : List Value} (h : Opn enc Try.prog w 74 cs) : ∃ v L, cs = [v] ∧ elemM.RdL (fun _ => True) w v L ∧ (∀ d ∈ L, NumM d ∧ BdM d) ∧ L.length ≤ 17592186044416 :=
  h.rdL elemM (fun d => NumM d ∧ BdM d) Try.underlying74 (by kernel_rfl) (by_ := 336) (by kernel_rfl) (by decide) fun cs' hl h' => mail40 h' hl
theorem box76 {cs : List Value} (h : Opn enc Try.prog w 76 cs) (hl : cs.length = 4) : ∃ d, RdB (fun _ => True) w cs.toArray d ∧ (∀ x ∈ d.m, NumM x ∧ BdM x) ∧ d.m.length ≤ 17592186044416 := by
  obtain ⟨a, b, c, d, rfl⟩ := list4 hl
  obtain ⟨x0, e0, _⟩ := (h.atn Try.underlying76 0 _ rfl 1 one24).int Try.underlying3
  obtain ⟨x1, e1⟩ := (h.atn Try.underlying76 1 _ rfl 1 (by kernel_rfl)).bool Try.underlying4
  obtain ⟨v2, L, e2, k2, l2, m2⟩ := mails74 (h.atn Try.underlying76 2 _ rfl 1 (by kernel_rfl))
  obtain ⟨x3, e3, _⟩ := (h.atn Try.underlying76 3 _ rfl 1 one24).int Try.underlying3
  obtain rfl : a = .int .i64 x0 := s1 e0
  obtain rfl : b = .bool x1 := s1 e1
  obtain rfl : c = v2 := s1 e2
  obtain rfl : d = .int .i64 x3 := s1 e3
  exact ⟨⟨x0, x1, L, x3⟩, ⟨c, rfl, k2⟩, l2, m2⟩
theorem boxes67 {cs : List Value} (h : Opn enc Try.prog w 67 cs) : ∃ v L, cs = [v] ∧ elemB.RdL (fun _ => True) w v L ∧ (∀ d ∈ L, (∀ x ∈ d.m, NumM x ∧ BdM x) ∧ d.m.length ≤ 17592186044416) ∧ L.length ≤ 17592186044416 :=
  h.rdL elemB (fun d => (∀ x ∈ d.m, NumM x ∧ BdM x) ∧ d.m.length ≤ 17592186044416) Try.underlying67 (by kernel_rfl) (by_ := 48) (by kernel_rfl) (by decide) fun cs' hl h' => box76 h' hl
theorem openMail {v : Value} (h : Opn enc Try.prog w 40 v.cells.toList) : ∃ c d, v = .agg c ∧ RdM (fun _ => True) w c d ∧ NumM d ∧ BdM d := by
  have hl : v.cells.toList.length = 30 := (h.field Try.underlying40).1.trans (by kernel_rfl)
  obtain ⟨d, h1, h2, h3⟩ := mail40 h hl
  obtain ⟨c, rfl⟩ := agg_of (v := v) (by rw [Array.length_toList] at hl; omega)
  exact ⟨c, d, rfl, by simpa [Value.cells] using h1, h2, h3⟩
theorem openBoxes {v : Value} {A : Option Addr} {n c : Nat} (hv : v = .slice A n c) (h : Opn enc Try.prog w 67 v.cells.toList) : ∃ L, elemB.RdL (fun _ => True) w v L ∧ (∀ d ∈ L, (∀ x ∈ d.m, NumM x ∧ BdM x) ∧ d.m.length ≤ 17592186044416) ∧ L.length ≤ 17592186044416 := by
  obtain ⟨v', L, e, h1, h2, h3⟩ := boxes67 h
  subst hv
  obtain rfl : Value.slice A n c = v' := by simpa [Value.cells] using e
  exact ⟨L, h1, h2, h3⟩
theorem openMails {v : Value} {A : Option Addr} {n c : Nat} (hv : v = .slice A n c) (h : Opn enc Try.prog w 74 v.cells.toList) : ∃ L, elemM.RdL (fun _ => True) w v L ∧ (∀ d ∈ L, NumM d ∧ BdM d) ∧ L.length ≤ 17592186044416 := by
  obtain ⟨v', L, e, h1, h2, h3⟩ := mails74 h
  subst hv
  obtain rfl : Value.slice A n c = v' := by simpa [Value.cells] using e
  exact ⟨L, h1, h2, h3⟩
end
end Go.Proofs.Ythahadhdhpcndaa
