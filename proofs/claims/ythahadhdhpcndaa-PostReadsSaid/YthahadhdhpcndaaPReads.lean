/- PostReads: the walk. -/
import Derived.Test.YthahadhdhpcndaaPSince
namespace Go.Proofs.Ythahadhdhpcndaa
open Go Go.RowKit
set_option linter.unusedVariables false
set_option linter.unusedSimpArgs false

theorem SinceQ.ok {L : List BoxD} {dev cu : Int} {w w' : World} {e : Ending} (h : SinceQ L dev cu w e w') (hc : chk 0 L = true) {i : Nat} {d : BoxD} (hd : L[i]? = some d) (hdd : d.d = dev) (hcu : 0 ≤ cu ∧ cu ≤ (d.m.length : Int)) :
    Below w.heap.size w w' ∧ ∃ v', e = .returned (.tuple #[v', .int .i64 0]) ∧ elemM.RdL (w.heap.size ≤ ·) w' v' (d.m.drop cu.toNat) := by
  obtain ⟨h1, h2 | h2 | h2⟩ := h.out
  · rw [hc] at h2; cases h2.1
  · exact absurd hdd (h2.2.1 d (List.mem_of_getElem? hd))
  · obtain ⟨_, j, x, hx, hxd, h3⟩ := h2
    obtain rfl : j = i := by
      rcases Nat.lt_trichotomy j i with h | h | h
      · have := chk_lt L 0 hc j i x d hx hd h; omega
      · exact h
      · have := chk_lt L 0 hc i j d x hd hx h; omega
    have e := hx.symm.trans hd
    injection e with e
    subst e
    rcases h3 with h3 | h3
    · exact absurd hcu h3.1
    · exact ⟨h1, h3.2⟩
theorem three_int (ok : Nat → Prop) (w : World) (n m k : Int) (h : ok w.heap.size) : Rw ok (w.alloc (.cells #[.int .i64 n, .int .i64 m, .int .i64 k] 3)) 1 (.slice (some ⟨w.heap.size, 0, none⟩) 3 3) ([n, m, k].map (Value.int .i64)) := by
  refine ⟨some ⟨w.heap.size, 0, none⟩, 3, 3, rfl, rfl, (fun e => by cases e), fun _ => ⟨w.heap.size, 0, rfl, h, by simp, fun j u hj => ?_⟩, by simp [Value.oneCell']⟩
  rw [Nat.zero_add, cell_of_row _ _ j _ _ _ (heap_alloc_new w _)]
  simpa using hj
/-- The boxes with more mail in one of them. -/
def more (L : List BoxD) (j : Nat) (d : BoxD) (ms : List MailD) : List BoxD := L.set j { d with m := d.m ++ ms }
theorem more_at {L : List BoxD} {j : Nat} {d : BoxD} {ms : List MailD} (h : L[j]? = some d) : (more L j d ms)[j]? = some { d with m := d.m ++ ms } := by
  have hj := (List.getElem?_eq_some_iff.1 h).1
  unfold more
  rw [List.getElem?_set_self (by simpa using hj)]
theorem more_mem {L : List BoxD} {j : Nat} {d : BoxD} {ms : List MailD} {p : BoxD → Prop} (h : ∀ x ∈ L, p x) (hp : p { d with m := d.m ++ ms }) : ∀ x ∈ more L j d ms, p x := fun x hx => by
  rcases List.mem_or_eq_of_mem_set hx with hx | rfl
  · exact h x hx
  · exact hp
theorem more_chk {L : List BoxD} {j : Nat} {d : BoxD} {ms : List MailD} (h : L[j]? = some d) (hc : chk 0 L = true) : chk 0 (more L j d ms) = true := by
  have h0 := chk_at L 0 hc j d h
  exact chk_set L 0 j d _ hc h rfl (show (0 : Int) ≤ d.n from h0.2.2.1) (show d.n ≤ 1099511627776 from h0.2.2.2)
theorem more_put {L : List BoxD} {j : Nat} {d : BoxD} {ms : List MailD} {x : MailD} : (more L j d ms).set j { ({ d with m := d.m ++ ms } : BoxD) with m := (d.m ++ ms) ++ [x] } = more L j d (ms ++ [x]) := by
  unfold more
  rw [List.set_set, List.append_assoc]
set_option maxHeartbeats 4000000 in
set_option maxRecDepth 100000 in
theorem bsize23q (v : Value) (L : List BoxD) (w : World) (h : elemB.RdL (fun _ => True) w v L) (hL : L.length ≤ 17592186044416) (hb : ∀ d ∈ L, (d.m.length ≤ 17592186044416 ∧ ∀ x ∈ d.m, BdM x)) :
    Calls Try.prog 23 #[v] w fun e w' => ∃ n : Int, e = .returned (.int .i64 n) ∧ (L.length : Int) ≤ n ∧ n ≤ 18031990696837120 ∧ (n ≤ 262144 → ∀ d ∈ L, d.m.length ≤ 262144 ∧ SzB d) ∧ Below w.heap.size w w' := by
  obtain ⟨A, n, c, rfl, rfl, h2, h3⟩ := h.boxes
  have H0 : Hid (XsI L 0 (L.length : Int)) := Lib.hid ⟨Nat.zero_le _, Int.le_refl _, by omega, fun j d hj => absurd hj (by omega)⟩
  have HS := Lib.hid (And.intro hb h3)
  clear h2 h3 hb
  go_enter Try.func23, Try.ntmps23
  go_wp2
  go_loopg [3, 4] L.length (fun k v3 v4 wr => ∃ (i : Nat) (n : Int), v3 = .int .i64 n ∧ v4 = .int .i64 (i : Int) ∧ i + k = L.length ∧ Hid (XsI L i n) ∧ Below w.heap.size w wr)
  case atStart => exact ⟨0, _, rfl, rfl, by simp, H0, Below.refl _ _⟩
  case round =>
    clear H0
    obtain ⟨i, n, rfl, rfl, hik, HT, hB⟩ := hrel
    have hT := HT.out
    have i2 : (0 : Int) ≤ (i : Int) := by omega
    have hend : n ≤ 262144 → i = L.length → ∀ d ∈ L, d.m.length ≤ 262144 ∧ SzB d := fun hn hi d hd => by
      obtain ⟨j, hj, e⟩ := List.getElem_of_mem hd
      have h9 := hT.h3 j d (by omega) (by rw [List.getElem?_eq_getElem hj, e]) hn
      exact ⟨by have := h9.1; omega, by have := h9.1; omega, h9.2⟩
    have hn0 : (L.length : Int) ≤ n := hT.h1
    have hn1 := hT.h2
    by_cases hi : i < L.length
    · have t1 : decide ((i : Int) < (L.length : Int)) = true := decide_eq_true (by omega)
      by_cases hn : n < 1048576
      · have t2 : decide (n < 1048576) = true := decide_eq_true hn
        obtain ⟨d, hd⟩ : ∃ d, L[i]? = some d := ⟨L[i], List.getElem?_eq_getElem hi⟩
        obtain ⟨b, o, rfl, p1, p2, p3⟩ := HS.out.2 (by omega)
        obtain ⟨_, _, ⟨vm, p4, p5⟩, _⟩ := p3 i d hd
        have hbr := (hB.cell (p := ⟨b, o + i * 4 + 2, none⟩) p2).trans p4
        have M := msize31 vm d.m wr ((p5.mono (ok' := fun _ => True) fun _ _ _ => trivial).keep (Kn.of_below hB)) (HS.out.1 d (List.mem_of_getElem? hd)).1 (HS.out.1 d (List.mem_of_getElem? hd)).2
        obtain ⟨Am, cm, rfl⟩ := p5.slice
        have HD := Lib.hid hd
        have HB := Lib.hid hB
        have i3 : (i : Int) < (L.length : Int) := by omega
        clear p1 p2 p3 p4 p5 hT hd hB hend
        go_wp2_with fail
        refine M.mono ?_
        rintro e w2 ⟨n', rfl, q1, q2, q3, B2⟩
        have q0 : (0 : Int) ≤ (d.m.length : Int) := by omega
        have e : IntKind.i64.wrap (n + n') = n + n' := wrapi _ (by omega)
        have HB2 := Lib.hid (HB.out.trans (B2.mono HB.out.size))
        have HN : Hid (XsI L (i + 1) (n + n')) := Lib.hid ⟨by omega, by omega, by omega, fun j d' hj hd' hle => by
          by_cases hji : j < i
          · have h9 := HT.out.h3 j d' hji hd' (by omega)
            exact ⟨by have := h9.1; omega, h9.2⟩
          · obtain rfl : j = i := by omega
            have e := HD.out.symm.trans hd'
            injection e with e
            subst e
            exact ⟨by omega, q3 (by omega)⟩⟩
        have HI := Lib.hid hi
        clear M B2 q3
        go_wp2_with fail
        go_roundg (L.length - (i + 1))
        case measure => have := HI.out; omega
        case rel => exact ⟨i + 1, n + n', by first | rfl | rw [← e]; rfl, by simp, by have := HI.out; omega, HN, HB2.out⟩
      · have t2 : decide (n < 1048576) = false := decide_eq_false hn
        have HB := Lib.hid hB
        clear hT hB hend
        go_wp2
        go_ret
        exact ⟨_, rfl, hn0, hn1, fun h => absurd h (by omega), HB.out⟩
    · have t1 : decide ((i : Int) < (L.length : Int)) = false := decide_eq_false (by omega)
      have HB := Lib.hid (And.intro hB hend)
      clear hT hB hend
      go_wp2
      go_ret
      exact ⟨_, rfl, hn0, hn1, fun h => HB.out.2 h (by omega), HB.out.1⟩
/-- How far it has come. -/
structure RS (w : World) (L : List BoxD) (ML : List MailD) (j : Nat) (d : BoxD) (vwas : Value) (i k : Nat) (vx vr : Value) (wr : World) : Prop where
  x : elemB.RdL (fun b => vr.ownBlock ≠ some b) wr vx (more L j d (ML.take i))
  r : ∃ cs, elemM.Own 40 0 wr vr cs (d.m ++ ML.take k)
  was : elemM.RdL (fun b => vr.ownBlock ≠ some b) wr vwas d.m
  own : ∀ b, vr.ownBlock = some b → w.heap.size ≤ b ∧ b < wr.heap.size
  below : Below w.heap.size w wr
  hk : k ≤ i
theorem RS.keepAt {w : World} {L : List BoxD} {ML : List MailD} {j : Nat} {d : BoxD} {vwas : Value} {i k : Nat} {vx vr : Value} {wr w2 : World} (h : RS w L ML j d vwas i k vx vr wr) (hb : Below wr.heap.size wr w2) : RS w L ML j d vwas i k vx vr w2 :=
  ⟨h.x.keep (Kn.of_below hb), by obtain ⟨cs, hr⟩ := h.r; exact ⟨cs, hr.below hb⟩, h.was.keep (Kn.of_below hb), fun b e => ⟨(h.own b e).1, Nat.lt_of_lt_of_le (h.own b e).2 hb.size⟩, h.below.trans (hb.mono h.below.size), h.hk⟩
theorem RS.newx {w : World} {L : List BoxD} {ML : List MailD} {j : Nat} {d : BoxD} {vwas : Value} {i k : Nat} {vx vr vx' : Value} {wr w2 : World} (h : RS w L ML j d vwas i k vx vr wr) (hb : Below wr.heap.size wr w2) (hx : elemB.RdL (wr.heap.size ≤ ·) w2 vx' (more L j d (ML.take (i + 1)))) : RS w L ML j d vwas (i + 1) k vx' vr w2 :=
  ⟨hx.mono fun b _ hb e => by have := (h.own b e).2; omega, (h.keepAt hb).r, (h.keepAt hb).was, (h.keepAt hb).own, (h.keepAt hb).below, Nat.le_succ_of_le h.hk⟩
theorem RS.appended {w : World} {L : List BoxD} {ML : List MailD} {j : Nat} {d : BoxD} {vwas : Value} {i k k' : Nat} {vx vr v' : Value} {wr w2 : World} {cs : List (Array Value)} {T : List MailD} (h : RS w L ML j d vwas i k vx vr wr) (ho : elemM.Own 40 0 w2 v' cs T) (h3 : v'.ownBlock = vr.ownBlock ∨ v'.ownBlock = some wr.heap.size) (hg : wr.grownBy w2 vr.ownBlock)
    (hT : T = d.m ++ ML.take k') (hk : k' ≤ i) : RS w L ML j d vwas i k' vx v' w2 := by
  have hn : ∀ b, b < wr.heap.size → vr.ownBlock ≠ some b → v'.ownBlock ≠ some b := fun b hb hne e => by
    rcases h3 with h3 | h3
    · rw [h3] at e; exact hne e
    · rw [h3] at e; injection e with e; omega
  subst hT
  refine ⟨?_, ⟨cs, ho⟩, ?_, fun b e => ?_, h.below.grown hg h.below.size (fun b hb => (h.own b hb).1), hk⟩
  · exact ((h.x.mono (ok' := fun b => b < wr.heap.size ∧ vr.ownBlock ≠ some b) fun b hb hp => ⟨hb, hp⟩).keep (Kn.grown hg fun b hb => hb.2)).mono fun b _ hp => hn b hp.1 hp.2
  · exact ((h.was.mono (ok' := fun b => b < wr.heap.size ∧ vr.ownBlock ≠ some b) fun b hb hp => ⟨hb, hp⟩).keep (Kn.grown hg fun b hb => hb.2)).mono fun b _ hp => hn b hp.1 hp.2
  · refine ⟨?_, (ho.vb b e).2⟩
    rcases h3 with h3 | h3
    · rw [h3] at e; exact (h.own b e).1
    · rw [h3] at e; injection e with e; rw [← e]; exact h.below.size
theorem zero40 : (Value.agg #[.int .u8 0, .int .i64 0, .int .i64 0, .int .i64 0, .int .i64 0, .int .i64 0, .bool false, .slice none 0 0, .slice none 0 0, .slice none 0 0, .slice none 0 0, .int .i64 0, .int .i64 0, .slice none 0 0, .int .i64 0, .int .i64 0, .int .i64 0, .int .i64 0, .int .i64 0, .int .i64 0, .int .i64 0, .int .i64 0, .int .i64 0, .slice none 0 0, .int .i64 0, .int .i64 0, .int .i64 0, .int .i64 0, .int .i64 0, .int .i64 0]).cells.size = elemM.sz := rfl
set_option maxHeartbeats 8000000 in
set_option maxRecDepth 100000 in
theorem postReads (v : Value) (L : List BoxD) (dev : Int) (vm : Value) (ML : List MailD) (vc : Value) (CL : List Value) (w : World) (h : elemB.RdL (fun _ => True) w v L) (hL : L.length ≤ 17592186044416) (hbL : ∀ d ∈ L, (d.m.length ≤ 17592186044416 ∧ ∀ x ∈ d.m, BdM x)) (hnum : ∀ d ∈ L, ∀ x ∈ d.m, NumM x)
    (hdev : -9223372036854775808 ≤ dev ∧ dev ≤ 9223372036854775807) (hm : elemM.RdL (fun _ => True) w vm ML) (hML : ML.length ≤ 17592186044416) (hbm : ∀ x ∈ ML, BdM x) (hnm : ∀ x ∈ ML, NumM x) (hc : Rw (fun _ => True) w 1 vc CL) (hci : AllI CL) (hcl : CL.length ≤ 17592186044416) :
    Calls Try.prog 8 #[v, .int .i64 dev, vm, vc] w fun e w' => e = .returned (.bool true) ∧ Below w.heap.size w w' := by
  have M1 := bsize23q v L w h hL hbL
  obtain ⟨A, c, rfl⟩ := h.slice
  obtain ⟨Am, cm, rfl⟩ := hm.slice
  obtain ⟨Ac, nc, cc, rfl, g1, g2, g3, g4⟩ := hc
  have HH := Lib.hid (And.intro (h.mono (ok' := fun b => b < w.heap.size) fun b hb _ => hb) (And.intro (hm.mono (ok' := fun b => b < w.heap.size) fun b hb _ => hb) (And.intro g3 (And.intro hnum (And.intro hnm (And.intro hci (And.intro hbm hdev)))))))
  obtain rfl : nc = CL.length := by omega
  clear g1 g2 g3 g4 h hm hnum hnm hci hbm hbL
  have i0 : (0 : Int) ≤ (CL.length : Int) := by omega
  go_enter Try.func8, Try.ntmps8
  go_wp2_with fail
  refine M1.mono ?_
  rintro e w2 ⟨n1, rfl, q1, q2, q3, B1⟩
  have M2 := msize31 (.slice Am ML.length cm) ML w2 ((HH.out.2.1.mono (ok' := fun _ => True) fun _ _ _ => trivial).keep (Kn.of_below B1)) hML HH.out.2.2.2.2.2.2.1
  have H1 := Lib.hid (And.intro q1 (And.intro q2 (And.intro q3 B1)))
  clear M1 q1 q2 q3 B1
  go_wp2_with fail
  refine M2.mono ?_
  rintro e w3 ⟨n2, rfl, q1, q2, q3, B2⟩
  have M3 := beyond9 (.slice (some ⟨w3.heap.size, 0, none⟩) 3 3) [n1, n2, (CL.length : Int)] (w3.alloc (.cells #[.int .i64 n1, .int .i64 n2, .int .i64 (CL.length : Int)] 3)) (three_int (fun _ => True) w3 _ _ _ trivial) (by simp)
  have b3 : Below w.heap.size w (w3.alloc (.cells #[.int .i64 n1, .int .i64 n2, .int .i64 (CL.length : Int)] 3)) := (H1.out.2.2.2.trans (B2.mono H1.out.2.2.2.size)).alloc (H1.out.2.2.2.trans (B2.mono H1.out.2.2.2.size)).size _
  have H2 := Lib.hid (And.intro q1 (And.intro q2 (And.intro q3 b3)))
  clear M2 q1 q2 q3 B2 b3
  go_wp2_with fail
  refine M3.mono ?_
  rintro e w4 ⟨rfl, b, rfl, hbey⟩
  clear M3
  cases b with
  | true =>
    clear hbey
    go_wp2_with fail
    go_ret
    exact ⟨rfl, H2.out.2.2.2⟩
  | false =>
    have s1 := (hbey rfl n1 (by simp)).2
    have s2 := (hbey rfl n2 (by simp)).2
    have s3 := (hbey rfl (CL.length : Int) (by simp)).2
    have hSL0 := H1.out.2.2.1 s1
    have hSL : ∀ d ∈ L, SzB d := fun d hd => (hSL0 d hd).2
    have HL0 := Lib.hid hSL0
    clear hSL0
    have hSM := H2.out.2.2.1 s2
    have l1 : L.length ≤ 262144 := by have := H1.out.1; omega
    have l2 : ML.length ≤ 262144 := by have := H2.out.1; omega
    have HS := Lib.hid (And.intro hSL (And.intro hSM (And.intro l1 (And.intro l2 s3))))
    generalize hwB : w3.alloc (.cells #[.int .i64 n1, .int .i64 n2, .int .i64 (CL.length : Int)] 3) = wB at *
    have HB := Lib.hid H2.out.2.2.2
    clear hwB hbey s1 s2 s3 hSL hSM l1 l2 H1 H2 hL hML hcl
    have M4 := since32q (.slice A L.length c) L dev 0 wB ((HH.out.1.mono (ok' := fun _ => True) fun _ _ _ => trivial).keep (Kn.of_below HB.out)) (by have := HS.out.2.2.1; omega) HS.out.1 (fun d hd => (HS.out.1 d hd).1) hdev (by omega)
    go_wp2_with fail
    refine M4.mono ?_
    rintro e w5 hQ
    have B5 := hQ.out.1
    have hcase : (∃ vv code, e = .returned (.tuple #[vv, .int .i64 code]) ∧ (code != 0) = true) ∨ (chk 0 L = true ∧ ∃ (j : Nat) (d : BoxD), L[j]? = some d ∧ d.d = dev ∧ ∃ v', e = .returned (.tuple #[v', .int .i64 0]) ∧ elemM.RdL (wB.heap.size ≤ ·) w5 v' d.m) := by
      rcases hQ.out.2 with ⟨h1, h2⟩ | ⟨h1, h2, h3⟩ | ⟨h1, j, d, h2, h3, ⟨h4, h5⟩ | ⟨h4, v', h5, h6⟩⟩
      · exact .inl ⟨_, _, h2, rfl⟩
      · exact .inl ⟨_, _, h3, rfl⟩
      · exact .inl ⟨_, _, h5, rfl⟩
      · exact .inr ⟨h1, j, d, h2, h3, v', h5, h6⟩
    have M5 := has33 (.slice A L.length c) L dev w5 ((HH.out.1.mono (ok' := fun _ => True) fun _ _ _ => trivial).keep (Kn.of_below (HB.out.trans (B5.mono HB.out.size)))) (by have := HS.out.2.2.1; omega) hdev
    have HB5 := Lib.hid (HB.out.trans (B5.mono HB.out.size))
    have hwB5 := B5.size
    clear M4 hQ B5
    rcases hcase with ⟨vv, code, rfl, t1⟩ | ⟨hck, j, d, hd, hdd, v5, rfl, hR5⟩
    · go_wp2_with fail
      refine M5.mono ?_
      intro e w6 hP
      have B6 := hP.out.1
      have hcase : ∃ b1 b2, e = .returned (.tuple #[.bool b1, .bool b2]) := by
        rcases hP.out.2 with ⟨h1, _⟩ | ⟨_, j, d, _, _, h1⟩
        · exact ⟨_, _, h1⟩
        · exact ⟨_, _, h1⟩
      obtain ⟨b1, b2, rfl⟩ := hcase
      have HB6 := Lib.hid (HB5.out.trans (B6.mono HB5.out.size))
      have MA := alive30 w6
      clear M5 hP B6
      go_wp2_with fail
      refine MA.mono ?_
      rintro e w7 ⟨rfl, B7⟩
      have HB7 := Lib.hid (HB6.out.trans (B7.mono HB6.out.size))
      clear MA B7
      go_wp2_with fail
      go_ret
      exact ⟨rfl, HB7.out⟩
    · obtain ⟨A5, c5, rfl⟩ := hR5.slice
      have HR5 := Lib.hid hR5
      have HJ := Lib.hid (And.intro hd (And.intro hdd hck))
      have t1 : ((0 : Int) != 0) = false := rfl
      clear hR5 hd hdd hck
      go_wp2_with fail
      refine M5.mono ?_
      intro e w6 hP
      have B6 := hP.out.1
      have he : e = .returned (.tuple #[.bool true, .bool d.o]) := by
        rcases hP.out.2 with ⟨_, h1 | h1⟩ | ⟨_, j', d', h1, h2, h3⟩
        · rw [HJ.out.2.2] at h1; cases h1
        · exact absurd HJ.out.2.1 (h1 d (List.mem_of_getElem? HJ.out.1))
        · obtain rfl : j' = j := by
            rcases Nat.lt_trichotomy j' j with h | h | h
            · have := chk_lt L 0 HJ.out.2.2 j' j d' d h1 HJ.out.1 h; have := HJ.out.2.1; omega
            · exact h
            · have := chk_lt L 0 HJ.out.2.2 j j' d d' HJ.out.1 h1 h; have := HJ.out.2.1; omega
          have e := h1.symm.trans HJ.out.1
          injection e with e
          subst e
          exact h3
      subst he
      have HB6 := Lib.hid (HB5.out.trans (B6.mono HB5.out.size))
      have hR6 := HR5.out.keep (Kn.of_below B6)
      have hwB6 := Nat.le_trans hwB5 B6.size
      have MA := alive30 w6
      have hdm := HS.out.1 d (List.mem_of_getElem? HJ.out.1)
      have MT := twin34 (.slice A5 d.m.length c5) d.m w6 hR6 hdm.1 hdm.2
      have HR6 := Lib.hid (And.intro (hR6.mono (ok' := fun b => b < w6.heap.size) fun b hb _ => hb) hdm)
      clear M5 hP B6 hR6 HR5 hdm
      cases ho : d.o with
      | true =>
        clear MT
        go_wp2_with fail
        refine MA.mono ?_
        rintro e w7 ⟨rfl, B7⟩
        have HB7 := Lib.hid (HB6.out.trans (B7.mono HB6.out.size))
        clear MA B7
        go_wp2_with fail
        go_ret
        exact ⟨rfl, HB7.out⟩
      | false =>
        clear MA
        have HO := Lib.hid ho
        go_wp2_with fail
        refine MT.mono ?_
        rintro e w7 ⟨v7, cs7, rfl, hO7, B7⟩
        obtain ⟨A7, c7, rfl⟩ := hO7.slice
        have hB7 := HB6.out.trans (B7.mono HB6.out.size)
        have H0 : Hid (RS w L ML j d (.slice A5 d.m.length c5) 0 0 (.slice A L.length c) (.slice A7 d.m.length c7) w7) := Lib.hid (by
          have hg : ∀ b, b < w6.heap.size → (Value.slice A7 d.m.length c7).ownBlock ≠ some b := fun b hb e => by
            have := (hO7.vb b e).1
            omega
          refine ⟨?_, ⟨cs7, by rw [List.take_zero, List.append_nil]; exact hO7.lower (Nat.zero_le _)⟩, (HR6.out.1.keep (Kn.of_below B7)).mono fun b _ hb => hg b hb, fun b hb => ⟨Nat.le_trans HB6.out.size (hO7.vb b hb).1, (hO7.vb b hb).2⟩, hB7, Nat.le_refl _⟩
          have e : more L j d (ML.take 0) = L := by
            unfold more
            rw [List.take_zero, List.append_nil]
            obtain ⟨hj, e⟩ := List.getElem?_eq_some_iff.1 HJ.out.1
            rw [← e]
            exact List.set_getElem_self hj
          rw [e]
          exact (HH.out.1.keep (Kn.of_below hB7)).mono fun b _ hb => hg b (Nat.lt_of_lt_of_le hb HB6.out.size))
        clear MT hO7 B7 hB7
        go_wp2_with fail
        go_loopg [10, 13, 14, 15, 16, 17, 18] ML.length (fun gk v10 v13 v14 v15 v16 v17 v18 wr => ∃ i k : Nat, v16 = .int .i64 (i : Int) ∧ i + gk = ML.length ∧ v14 = .int .i64 ((d.m.length : Int) + (k : Int)) ∧ Hid (RS w L ML j d (.slice A5 d.m.length c5) i k v15 v13 wr))
        case atStart => exact ⟨0, 0, rfl, by simp, by simp, H0⟩
        case round =>
          clear H0 HR6 HB6 HB5 HB hwB5 hwB6
          obtain ⟨i, k, rfl, hik, rfl, HT⟩ := hrel
          obtain ⟨A15, c15, rfl⟩ := HT.out.x.slice
          obtain ⟨A13, n13, c13, rfl⟩ : ∃ A n c, u13 = .slice A n c := by
            obtain ⟨cs, h⟩ := HT.out.r
            obtain ⟨A, c, h⟩ := h.slice
            exact ⟨A, _, c, h⟩
          by_cases hi : i < ML.length
          · obtain ⟨md, hmd⟩ : ∃ x, ML[i]? = some x := ⟨ML[i], List.getElem?_eq_getElem hi⟩
            have hT := HT.out
            have hdl := HS.out.1 d (List.mem_of_getElem? HJ.out.1)
            have hdl2 : d.m.length ≤ 262144 + 262144 := by have := (HL0.out d (List.mem_of_getElem? HJ.out.1)).1; omega
            obtain ⟨b, o, cur, tt, fr, rfl, p1, p2, p3⟩ : ∃ b o cur t fr, Am = some ⟨b, o, none⟩ ∧ b < w.heap.size ∧ w.heap[b]? = some (.cells cur t fr) ∧ ∀ i d, ML[i]? = some d → o + i * 30 + 30 ≤ cur.size ∧ RdM (fun b => b < w.heap.size) w (cur.extract (o + i * 30) (o + i * 30 + 30)) d := by
              obtain ⟨A', n', c', e, h1, h2, h3⟩ := HH.out.2.1
              injection e with e1 e2 e3
              subst e1 e2 e3
              exact h3 (by omega)
            obtain ⟨p4, p5⟩ := p3 i md hmd
            generalize hx : cur.extract (o + i * 30) (o + i * 30 + 30) = c0 at p5
            have hbr := (hT.below.block b (lt_of_some p2)).trans p2
            have hmore : ∀ ms, (∀ x ∈ ms, x ∈ ML) → ms.length ≤ 262144 → ∀ x ∈ more L j d ms, SzB x := fun ms h1 h2 => more_mem HS.out.1 ⟨by show (d.m ++ ms).length ≤ _; rw [List.length_append]; omega, fun x hx => by
              rcases List.mem_append.1 hx with hx | hx
              · exact hdl.2 x hx
              · exact HS.out.2.1 x (h1 x hx)⟩
            have hll : ∀ ms, (more L j d ms).length ≤ 1000000 := fun ms => by unfold more; rw [List.length_set]; have := HS.out.2.2.1; omega
            have M := put25 (.slice A15 (more L j d (ML.take i)).length c15) (more L j d (ML.take i)) dev c0 md wr hT.x (hll _) (hmore _ (fun x hx => List.mem_of_mem_take hx) (by rw [List.length_take]; have := HS.out.2.2.2.1; omega)) HH.out.2.2.2.2.2.2.2 (p5.keep (Kn.of_below hT.below)) (HS.out.2.1 md (List.mem_of_getElem? hmd))
            have HX := Lib.hid (And.intro hbr (And.intro p4 hx))
            have HI := Lib.hid hi
            have HMD := Lib.hid hmd
            have HLL : Hid ((more L j d (ML.take (i + 1))).length ≤ 1000000 ∧ (∀ x ∈ more L j d (ML.take (i + 1)), SzB x) ∧ (∀ x ∈ more L j d (ML.take (i + 1)), x.m.length ≤ 1000000) ∧ d.m.length + ML.length ≤ 900000) := Lib.hid ⟨hll _, hmore _ (fun x hx => List.mem_of_mem_take hx) (by rw [List.length_take]; have := HS.out.2.2.2.1; omega), fun x hx => (hmore _ (fun x hx => List.mem_of_mem_take hx) (by rw [List.length_take]; have := HS.out.2.2.2.1; omega) x hx).1, by have := HS.out.2.2.2.1; omega⟩
            have i1 : (0 : Int) ≤ (i : Int) := by omega
            have i2 : (i : Int) < (ML.length : Int) := by omega
            have i9 : (ML.length : Int) ≤ 262144 := by have := HS.out.2.2.2.1; omega
            have t1 : ((0 : Int) != 0) = false := rfl
            clear p1 p2 p3 p4 p5 hx hbr hT hdl hdl2 hmore hll hmd
            go_wp2_with (with_reducible refine wpList_load_part' rfl 40 _ rfl b (o + i * 30) 30 rfl _ cur _ _ HX.out.1 Try.underlying40 rfl cells40 HX.out.2.1 c0 HX.out.2.2 ?_)
            refine M.mono ?_
            rintro e w8 hP
            obtain ⟨B8, ⟨hbad, _⟩ | ⟨_, v8, rfl, hR8⟩⟩ := hP.ok (more_chk HJ.out.1 HJ.out.2.2) (more_at HJ.out.1) HJ.out.2.1
            · exact absurd (show putBad _ = 0 from if_neg (by show ¬ d.o = true; rw [HO.out]; decide)) hbad
            have hR8 : elemB.RdL (wr.heap.size ≤ ·) w8 v8 (more L j d (ML.take (i + 1))) := by
              have e : ML.take (i + 1) = ML.take i ++ [md] := by rw [List.take_add_one, HMD.out]; rfl
              rw [e, ← more_put]
              exact hR8
            have HX8 := Lib.hid (And.intro (HT.out.newx B8 hR8) B8)
            obtain ⟨A8, c8, rfl⟩ := hR8.slice
            clear M hP B8 hR8
            by_cases hcu : i < CL.length
            · obtain ⟨x, hxc⟩ := HH.out.2.2.2.2.2.1.at hcu
              obtain ⟨bc, oc, rfl, p1, p2, p3⟩ := HH.out.2.2.1 (by omega)
              have hc1 : w8.cell? ⟨bc, oc + i, none⟩ = some (.int .i64 x) := ((HX8.out.1.below.cell (p := ⟨bc, oc + i, none⟩) p2)).trans (p3 i _ hxc)
              have i3 : (i : Int) < (CL.length : Int) := by omega
              clear p1 p2 p3 hxc
              by_cases hx0 : x > 0
              · have t2 : decide (x > 0) = true := decide_eq_true hx0
                go_wp2_with fail
                go_roundg (ML.length - (i + 1))
                case measure => have := HI.out; omega
                case rel => exact ⟨i + 1, k, by go_num, by have := HI.out; omega, rfl, Lib.hid HX8.out.1⟩
              · have t2 : decide (x > 0) = false := decide_eq_false hx0
                have M17 := since32q (.slice A8 (more L j d (ML.take (i + 1))).length c8) (more L j d (ML.take (i + 1))) dev ((d.m.length : Int) + (k : Int)) w8 (HX8.out.1.x) HLL.out.1 HLL.out.2.1 HLL.out.2.2.1 HH.out.2.2.2.2.2.2.2 (by have := HI.out; have := HLL.out.2.2.2; have := HX8.out.1.hk; omega)
                go_wp2_with fail
                refine M17.mono ?_
                rintro e w9 hQ
                obtain ⟨B9, v9, rfl, hR9⟩ := hQ.ok (more_chk HJ.out.1 HJ.out.2.2) (more_at HJ.out.1) HJ.out.2.1 ⟨by omega, by have := HI.out; have := HX8.out.1.hk; show _ ≤ ((d.m ++ ML.take (i + 1)).length : Int); rw [List.length_append, List.length_take]; omega⟩
                have hdr : (d.m ++ ML.take (i + 1)).drop ((d.m.length : Int) + (k : Int)).toNat = (ML.take (i + 1)).drop k := by
                  rw [show ((d.m.length : Int) + (k : Int)).toNat = d.m.length + k by omega, ← List.drop_drop, List.drop_left]
                have hR9 : elemM.RdL (w8.heap.size ≤ ·) w9 v9 ((ML.take (i + 1)).drop k) := by rw [← hdr]; exact hR9
                have hkk := HX8.out.1.hk
                have hl9 : ((ML.take (i + 1)).drop k).length = i + 1 - k := by rw [List.length_drop, List.length_take]; have := HI.out; omega
                obtain ⟨A9, c9, rfl⟩ := hR9.slice
                have HX9 := Lib.hid (HX8.out.1.keepAt B9)
                have HR9 := Lib.hid (hR9.mono (ok' := fun b => (Value.slice A13 n13 c13).ownBlock ≠ some b) fun b _ hb e => by
                  have := (HX8.out.1.own b e).2
                  omega)
                obtain ⟨cs13, hO13⟩ := HX9.out.r
                have HO13 := Lib.hid hO13
                have hap : (d.m ++ ML.take k).length + ((ML.take (i + 1)).drop k).length ≤ 1000000 := by
                  rw [hl9, List.length_append, List.length_take]
                  have := HI.out; have := HLL.out.2.2.2; omega
                have HAP := Lib.hid (And.intro (show (d.m ++ ML.take k).length + ((ML.take (i + 1)).drop k).length ≤ maxLen by unfold maxLen; omega) (show ((d.m ++ ML.take k).length + ((ML.take (i + 1)).drop k).length) * 336 ≤ 140737488355328 by omega))
                obtain ⟨i40, hinf, hz0, hz1, hz2⟩ := info_parts info40
                have hz1' : i40.size = elemM.sz := hz1
                have hz3 := zero40
                clear M17 hQ B9 hR9 hO13 hap hdr
                rw [hl9]
                rw [hl9] at HR9
                go_wp2_with (at_builtin; with_reducible refine wpList_append_elem (E := elemM) (by simp [Region.wanted]) _ _ 74 rfl 40 i40 _ 336 Try.underlying74 hinf hz0 hz1' hz2 hz3 (.slice A13 n13 c13) cs13 _ rfl HO13.out A9 _ c9 _ rfl HR9.out HAP.out.1 HAP.out.2 ?_)
                intro v10 w10 cs10 hO10 h3 hg
                have HN : Hid (RS w L ML j d (.slice A5 d.m.length c5) (i + 1) (i + 1) (.slice A8 (more L j d (ML.take (i + 1))).length c8) v10 w10) := Lib.hid (HX9.out.appended hO10 h3 hg (by congr 1; have := List.take_append_drop k (ML.take (i + 1)); rwa [List.take_take, Nat.min_eq_left HX9.out.hk] at this) (Nat.le_refl _))
                obtain ⟨A10, c10, rfl⟩ := hO10.slice
                have hww : IntKind.i64.wrap ((d.m.length : Int) + (k : Int) + ((i + 1 - k : Nat) : Int)) = (d.m.length : Int) + ((i + 1 : Nat) : Int) := by
                  have := HI.out; have := HLL.out.2.2.2
                  rw [wrapi _ (by omega)]; omega
                clear hO10 hg h3 hinf hz0 hz1 hz2 hz1' hz3
                go_wp2_with fail
                go_roundg (ML.length - (i + 1))
                case measure => have := HI.out; omega
                case rel => exact ⟨i + 1, i + 1, by go_num, by have := HI.out; omega, by first | rfl | (rw [hww]) | (simp [hww]), HN⟩
            · have i3 : ¬ (i : Int) < (CL.length : Int) := by omega
              have t3 : decide ((i : Int) < (CL.length : Int)) = false := decide_eq_false i3
              have M17 := since32q (.slice A8 (more L j d (ML.take (i + 1))).length c8) (more L j d (ML.take (i + 1))) dev ((d.m.length : Int) + (k : Int)) w8 (HX8.out.1.x) HLL.out.1 HLL.out.2.1 HLL.out.2.2.1 HH.out.2.2.2.2.2.2.2 (by have := HI.out; have := HLL.out.2.2.2; have := HX8.out.1.hk; omega)
              go_wp2_with fail
              refine M17.mono ?_
              rintro e w9 hQ
              obtain ⟨B9, v9, rfl, hR9⟩ := hQ.ok (more_chk HJ.out.1 HJ.out.2.2) (more_at HJ.out.1) HJ.out.2.1 ⟨by omega, by have := HI.out; have := HX8.out.1.hk; show _ ≤ ((d.m ++ ML.take (i + 1)).length : Int); rw [List.length_append, List.length_take]; omega⟩
              have hdr : (d.m ++ ML.take (i + 1)).drop ((d.m.length : Int) + (k : Int)).toNat = (ML.take (i + 1)).drop k := by
                rw [show ((d.m.length : Int) + (k : Int)).toNat = d.m.length + k by omega, ← List.drop_drop, List.drop_left]
              have hR9 : elemM.RdL (w8.heap.size ≤ ·) w9 v9 ((ML.take (i + 1)).drop k) := by rw [← hdr]; exact hR9
              have hkk := HX8.out.1.hk
              have hl9 : ((ML.take (i + 1)).drop k).length = i + 1 - k := by rw [List.length_drop, List.length_take]; have := HI.out; omega
              obtain ⟨A9, c9, rfl⟩ := hR9.slice
              have HX9 := Lib.hid (HX8.out.1.keepAt B9)
              have HR9 := Lib.hid (hR9.mono (ok' := fun b => (Value.slice A13 n13 c13).ownBlock ≠ some b) fun b _ hb e => by
                have := (HX8.out.1.own b e).2
                omega)
              obtain ⟨cs13, hO13⟩ := HX9.out.r
              have HO13 := Lib.hid hO13
              have hap : (d.m ++ ML.take k).length + ((ML.take (i + 1)).drop k).length ≤ 1000000 := by
                rw [hl9, List.length_append, List.length_take]
                have := HI.out; have := HLL.out.2.2.2; omega
              have HAP := Lib.hid (And.intro (show (d.m ++ ML.take k).length + ((ML.take (i + 1)).drop k).length ≤ maxLen by unfold maxLen; omega) (show ((d.m ++ ML.take k).length + ((ML.take (i + 1)).drop k).length) * 336 ≤ 140737488355328 by omega))
              obtain ⟨i40, hinf, hz0, hz1, hz2⟩ := info_parts info40
              have hz1' : i40.size = elemM.sz := hz1
              have hz3 := zero40
              clear M17 hQ B9 hR9 hO13 hap hdr
              rw [hl9]
              rw [hl9] at HR9
              go_wp2_with (at_builtin; with_reducible refine wpList_append_elem (E := elemM) (by simp [Region.wanted]) _ _ 74 rfl 40 i40 _ 336 Try.underlying74 hinf hz0 hz1' hz2 hz3 (.slice A13 n13 c13) cs13 _ rfl HO13.out A9 _ c9 _ rfl HR9.out HAP.out.1 HAP.out.2 ?_)
              intro v10 w10 cs10 hO10 h3 hg
              have HN : Hid (RS w L ML j d (.slice A5 d.m.length c5) (i + 1) (i + 1) (.slice A8 (more L j d (ML.take (i + 1))).length c8) v10 w10) := Lib.hid (HX9.out.appended hO10 h3 hg (by congr 1; have := List.take_append_drop k (ML.take (i + 1)); rwa [List.take_take, Nat.min_eq_left HX9.out.hk] at this) (Nat.le_refl _))
              obtain ⟨A10, c10, rfl⟩ := hO10.slice
              have hww : IntKind.i64.wrap ((d.m.length : Int) + (k : Int) + ((i + 1 - k : Nat) : Int)) = (d.m.length : Int) + ((i + 1 : Nat) : Int) := by
                have := HI.out; have := HLL.out.2.2.2
                rw [wrapi _ (by omega)]; omega
              clear hO10 hg h3 hinf hz0 hz1 hz2 hz1' hz3
              go_wp2_with fail
              go_roundg (ML.length - (i + 1))
              case measure => have := HI.out; omega
              case rel => exact ⟨i + 1, i + 1, by go_num, by have := HI.out; omega, by first | rfl | (rw [hww]) | (simp [hww]), HN⟩
          · obtain rfl : i = ML.length := by omega
            have hkk := HT.out.hk
            have hdl := HS.out.1 d (List.mem_of_getElem? HJ.out.1)
            have hdl2 : d.m.length + ML.length ≤ 900000 := by have := (HL0.out d (List.mem_of_getElem? HJ.out.1)).1; have := HS.out.2.2.2.1; omega
            have htk : ML.take ML.length = ML := List.take_length
            have hTx := HT.out.x
            rw [htk] at hTx ⊢
            have hmore : ∀ x ∈ more L j d ML, SzB x := more_mem HS.out.1 ⟨by show (d.m ++ ML).length ≤ _; rw [List.length_append]; omega, fun x hx => by
              rcases List.mem_append.1 hx with hx | hx
              · exact hdl.2 x hx
              · exact HS.out.2.1 x hx⟩
            have hll : (more L j d ML).length ≤ 1000000 := by unfold more; rw [List.length_set]; have := HS.out.2.2.1; omega
            have M22 := since32q (.slice A15 (more L j d ML).length c15) (more L j d ML) dev ((d.m.length : Int) + (k : Int)) wr hTx hll hmore (fun x hx => (hmore x hx).1) HH.out.2.2.2.2.2.2.2 (by omega)
            have i2 : ¬ (ML.length : Int) < (ML.length : Int) := by omega
            have t1 : ((0 : Int) == 0) = true := rfl
            have HN := Lib.hid (And.intro hdl2 (And.intro hkk (fun x (hx : x ∈ d.m ++ ML) => show SzM x by
              rcases List.mem_append.1 hx with hx | hx
              · exact hdl.2 x hx
              · exact HS.out.2.1 x hx)))
            clear htk hTx hdl hdl2 hmore hll hkk
            go_wp2_with fail
            refine M22.mono ?_
            rintro e w9 hQ
            obtain ⟨B9, v9, rfl, hR9⟩ := hQ.ok (more_chk HJ.out.1 HJ.out.2.2) (more_at HJ.out.1) HJ.out.2.1 ⟨by omega, by have := HN.out.2.1; show _ ≤ ((d.m ++ ML).length : Int); rw [List.length_append]; omega⟩
            have hdr : (d.m ++ ML).drop ((d.m.length : Int) + (k : Int)).toNat = ML.drop k := by
              rw [show ((d.m.length : Int) + (k : Int)).toNat = d.m.length + k by omega, ← List.drop_drop, List.drop_left]
            have hR9 : elemM.RdL (wr.heap.size ≤ ·) w9 v9 (ML.drop k) := by rw [← hdr]; exact hR9
            obtain ⟨A9, c9, rfl⟩ := hR9.slice
            have HX9 := Lib.hid (HT.out.keepAt B9)
            have HR9 := Lib.hid (hR9.mono (ok' := fun b => (Value.slice A13 n13 c13).ownBlock ≠ some b) fun b _ hb e => by
              have := (HT.out.own b e).2
              omega)
            obtain ⟨cs13, hO13⟩ := HX9.out.r
            have HO13 := Lib.hid hO13
            have hap : (d.m ++ ML.take k).length + (ML.drop k).length ≤ 1000000 := by
              rw [List.length_append, List.length_take, List.length_drop]
              have := HN.out.1; have := HN.out.2.1; omega
            have HAP := Lib.hid (And.intro (show (d.m ++ ML.take k).length + (ML.drop k).length ≤ maxLen by unfold maxLen; omega) (show ((d.m ++ ML.take k).length + (ML.drop k).length) * 336 ≤ 140737488355328 by omega))
            obtain ⟨i40, hinf, hz0, hz1, hz2⟩ := info_parts info40
            have hz1' : i40.size = elemM.sz := hz1
            have hz3 := zero40
            clear M22 hQ B9 hR9 hO13 hap hdr
            have hl9 : (ML.drop k).length = ML.length - k := List.length_drop ..
            rw [hl9] at HR9 ⊢
            go_wp2_with (at_builtin; with_reducible refine wpList_append_elem (E := elemM) (by simp [Region.wanted, yielded, Act.put]) _ _ 74 rfl 40 i40 _ 336 Try.underlying74 hinf hz0 hz1' hz2 hz3 (.slice A13 n13 c13) cs13 _ rfl HO13.out A9 _ c9 _ rfl HR9.out HAP.out.1 HAP.out.2 ?_)
            intro v10 w10 cs10 hO10 h3 hg
            have hX10 := HX9.out.appended hO10 h3 hg (by congr 1; exact List.take_length.symm) (Nat.le_refl _)
            obtain ⟨A10, c10, rfl⟩ := hO10.slice
            have hdm := HS.out.1 d (List.mem_of_getElem? HJ.out.1)
            have MT := twin34 (.slice A5 d.m.length c5) d.m w10 hX10.was hdm.1 hdm.2
            have hla : (d.m ++ ML).length = d.m.length + ML.length := List.length_append
            have hr10 := hO10.rdL
            rw [hla] at hr10
            have HX10 := Lib.hid (And.intro (hr10.mono (ok' := fun b => b < w10.heap.size) fun b hb _ => hb) hX10.below)
            have hX10b := hX10.below
            rw [hla]
            clear hr10 hX10 hO10 h3 hg hdm HX9 HO13 HR9 HAP HT
            go_wp2_with (go_at_call 34; with_reducible refine MT.mono ?_)
            rintro e w11 ⟨v11, cs11, rfl, hO11, B11⟩
            obtain ⟨A11, c11, rfl⟩ := hO11.slice
            have hg11 : ∀ b, b < w10.heap.size → (Value.slice A11 d.m.length c11).ownBlock ≠ some b := fun b hb e => by
              have := (hO11.vb b e).1
              omega
            have hl11 := hX10b.trans (B11.mono hX10b.size)
            have hM11 := (HH.out.2.1.keep (Kn.of_below hl11)).mono (ok' := fun b => (Value.slice A11 d.m.length c11).ownBlock ≠ some b) fun b _ hb => hg11 b (Nat.lt_of_lt_of_le hb hX10b.size)
            have HO11 := Lib.hid (And.intro (hO11.lower (Nat.zero_le _)) (And.intro hM11 (And.intro (show d.m.length + ML.length ≤ maxLen by have := HN.out.1; unfold maxLen; omega) (show (d.m.length + ML.length) * 336 ≤ 140737488355328 by have := HN.out.1; omega))))
            have HX11 := Lib.hid (And.intro ((HX10.out.1.keep (Kn.of_below B11)).mono (ok' := fun b => (Value.slice A11 d.m.length c11).ownBlock ≠ some b) fun b _ hb => hg11 b hb) hl11)
            have hvb := fun b e => Nat.le_trans hX10b.size (hO11.vb b e).1
            have HVB := Lib.hid hvb
            clear MT hO11 B11 hg11 hl11 hM11 hX10b hvb
            go_wp2_with (at_builtin; with_reducible refine wpList_append_elem (E := elemM) (by simp [Region.wanted, yielded, Act.put]) _ _ 74 rfl 40 i40 _ 336 Try.underlying74 hinf hz0 hz1' hz2 hz3 (.slice A11 d.m.length c11) cs11 _ rfl HO11.out.1 Am _ cm _ rfl HO11.out.2.1 HO11.out.2.2.1 HO11.out.2.2.2 ?_)
            intro v12 w12 cs12 hO12 h3 hg
            have hr10 := (HX11.out.1.keep (Kn.grown hg fun b hb => hb))
            have hl12 := HX11.out.2.grown hg HX11.out.2.size HVB.out
            obtain ⟨A12, c12, rfl⟩ := hO12.slice
            have hr12 := hO12.rdL
            rw [hla] at hr12 ⊢
            have MS := same35 (.slice A10 (d.m.length + ML.length) c10) (.slice A12 (d.m.length + ML.length) c12) (d.m ++ ML) w12 hr10 hr12 (by rw [List.length_append]; have := HN.out.1; omega) (fun x hx => by
              rcases List.mem_append.1 hx with hx | hx
              · exact HH.out.2.2.2.1 d (List.mem_of_getElem? HJ.out.1) x hx
              · exact HH.out.2.2.2.2.1 x hx) HN.out.2.2
            have HL12 := Lib.hid hl12
            clear hO12 h3 hg hr10 hl12 hr12
            go_wp2_with fail
            refine MS.mono ?_
            rintro e w13 ⟨rfl, B13⟩
            have HL13 := Lib.hid (HL12.out.trans (B13.mono HL12.out.size))
            have MA := alive30 w13
            clear MS B13
            go_wp2_with fail
            refine MA.mono ?_
            rintro e w14 ⟨rfl, B14⟩
            have HL14 := Lib.hid (HL13.out.trans (B14.mono HL13.out.size))
            clear MA B14
            go_wp2_with fail
            go_ret
            exact ⟨rfl, HL14.out⟩
end Go.Proofs.Ythahadhdhpcndaa
