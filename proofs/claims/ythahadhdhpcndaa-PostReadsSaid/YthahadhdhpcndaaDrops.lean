/- NetDrops. -/
import Derived.Test.YthahadhdhpcndaaOrder
import Derived.Test.YthahadhdhpcndaaPhaseTwo
namespace Go.Proofs.Ythahadhdhpcndaa
open Go Go.RowKit
set_option linter.unusedVariables false
set_option linter.unusedSimpArgs false

theorem Sent.rdL {N B : Nat} {w : World} {s : Value} {cs : List (Array Value)} {L : List PackD} (h : Sent N B w s cs L) : elemP.RdL (fun _ => True) w s L := by
  obtain ⟨A, c, rfl⟩ := h.slice
  refine ⟨A, _, c, rfl, rfl, ?_, fun hp => ?_⟩
  · rintro rfl
    rcases h.row.2 with ⟨h1, h2⟩ | ⟨b, cap, cur, h1, _⟩
    · exact ⟨h2, by injection h1⟩
    · cases h1
  · obtain ⟨b, cap, cur, _, _, e, hb, _⟩ := h.at hp
    injection e with e
    subst e
    refine ⟨b, 0, cur, 44, (0, 0), rfl, trivial, hb, fun i d hd => ?_⟩
    have hi := (List.getElem?_eq_some_iff.1 hd).1
    obtain ⟨b', cap', cur', c', d', e, hb', hd', hf, hx, hr⟩ := h.at hi
    injection e with e
    injection e with e
    injection e with e
    subst e
    rw [hb] at hb'
    injection hb' with hb'
    injection hb' with hb'
    subst hb'
    obtain rfl : d' = d := by
      have := hd'.symm.trans hd
      injection this
    show 0 + i * 57 + 57 ≤ cur.size ∧ RdP _ w (cur.extract (0 + i * 57) (0 + i * 57 + 57)) d'
    rw [Nat.zero_add, hx]
    exact ⟨hf, hr.mono fun _ _ _ => trivial⟩
section
variable {P : Program}
/-- append onto a slice of the call's own, at a step of a region that draws. -/
theorem step_append_own_at {ops : Array Oper} {o : Oper} {a : Act} {w : World} {K : Act → World → Prop} {Q : Exit → Act → World → Prop} {E : Prop} (hw : Region.wanted o (yielded ops a.tmps) = true) (s x : Operand) (t : TypeId)
    (ho : o.op = .call { callee := .builtin .append, args := #[s, x], argTypes := #[t, t] })
    (base : Nat) (e : TypeId) (i : TypeInfo) (z : Value) (size bytes : Nat) (ht : P.underlying t = some (.slice e)) (hi : P.info? e = some i) (hz : i.zero = some z)
    (hsize : i.size = size) (hby : i.bytes = bytes) (hzs : z.cells.size = size) (hsz : 0 < size)
    (v : Value) (n : Nat) (xs : List Value) (hs : a.eval s = v) (hown : w.ownsRow base e size v n xs)
    (ad : Addr) (m c : Nat) (news : List Value) (hx : a.eval x = .slice (some ad) m c) (hl : news.length = m * size) (hnews : ∀ j u, news[j]? = some u → w.cell? (ad.add j) = some u) (h1 : ∀ u ∈ news, u.oneCell' = true)
    (h63 : n + m ≤ maxLen) (hbytes : (n + m) * bytes ≤ 140737488355328) (hbase : base ≤ w.heap.size)
    (h : ∀ v' w', w'.ownsRow base e size v' (n + m) (xs ++ news) → w.grownBy w' v.ownBlock → (v'.ownBlock = v.ownBlock ∨ v'.ownBlock = some w.heap.size) → K (a.put o.dst v') w') :
    if Region.wanted o (yielded ops a.tmps) = true then Oper.wp P o a w K Q else E := by
  rw [if_pos hw]
  obtain ⟨v', w', hr, h2, h3, h4, h5⟩ := run_append_own_at (P := P) w base t o.type e i z size bytes ht hi hz hsize hby hzs hsz v n xs hown ad m c news hl hnews h1 h63 hbytes hbase
  unfold Oper.wp execOp
  simp only [ho, resolve, invoke, builtin, Sem.run_bind, Sem.run_pure, Result.andThen_ok, List.map_toArray, List.map_cons, List.map_nil, hs, hx, hr]
  exact h v' w' h2 h3 h5
end
theorem own0 {w : World} {B g : Nat} (h : w.heap[g]? = some (.cells #[] 44 (0, 0))) (hB : B ≤ g) : w.ownsRow B 44 57 (.slice (some ⟨g, 0, none⟩) 0 0) 0 [] := ⟨rfl, .inr ⟨g, 0, #[], rfl, hB, h, Nat.le_refl _, by unfold maxLen; omega, rfl, rfl⟩⟩
theorem two_grown {w9 Xa w10 w11 : World} {g : Nat} {v1 : Value} (ha : w9.heap.size ≤ Xa.heap.size) (hb : ∀ b, b < w9.heap.size → Xa.heap[b]? = w9.heap[b]?) (g1 : Xa.grownBy w10 (some g)) (g2 : w10.grownBy w11 v1.ownBlock) (hv1 : v1.ownBlock = some g ∨ v1.ownBlock = some Xa.heap.size) :
    ∀ b, b < w9.heap.size → b ≠ g → w11.heap[b]? = w9.heap[b]? := fun b h1 h2 => by
  have s1 := g1.size
  rw [g2.block b (by omega) (fun e => by rcases hv1 with h | h <;> rw [h] at e <;> injection e with e <;> omega), g1.block b (by omega) (fun e => by injection e with e; omega), hb b h1]
theorem alloc_same (w : World) (o : Obj) (b : Nat) (h : b < w.heap.size) : (w.alloc o).heap[b]? = w.heap[b]? := ((Below.refl w.heap.size w).alloc (Nat.le_refl _) o).block b h
theorem alloc_le (w : World) (o : Obj) : w.heap.size ≤ (w.alloc o).heap.size := by simp
theorem own_ge {v : Value} {g s k B : Nat} (h : v.ownBlock = some g ∨ v.ownBlock = some s) (hk : v.ownBlock = some k) (h1 : B ≤ g) (h2 : B ≤ s) : B ≤ k := by
  rcases h with h | h <;> rw [h] at hk <;> injection hk with hk <;> omega
theorem own_eq_ge {g k B n c : Nat} (hk : (Value.slice (some ⟨g, 0, none⟩) n c).ownBlock = some k) (h : B ≤ g) : B ≤ k := by
  have e : g = k := by simpa [Value.ownBlock] using hk
  omega
theorem ne_of_alloc {w : World} {o : Obj} {b : Nat} (h : (w.alloc o).drew.heap.size ≤ b) : b ≠ w.heap.size := by
  have h : (w.alloc o).heap.size ≤ b := h
  simp at h
  omega
theorem Sent.erased {N B : Nat} {w w' : World} {s s' : Value} {cs : List (Array Value)} {L : List PackD} {j n : Nat} (h : Sent N B w s cs L) (hN : N ≤ w.heap.size) (hj : j < L.length) (hb : Below w.heap.size w w') (hn : n = L.length - 1)
    (o : w'.ownsRow w.heap.size 44 57 s' n ((prow cs).take (j * 57) ++ (prow cs).drop ((j + 1) * 57))) : Sent N w.heap.size w' s' (cs.eraseIdx j) (L.eraseIdx j) := by
  have hlen := h.len
  refine ⟨by rw [List.length_eraseIdx, List.length_eraseIdx, hlen], ?_, fun i c d hc hd => ?_⟩
  · rw [List.length_eraseIdx, if_pos hj, prow_erase cs j h.sizes (by omega), List.take_of_length_le (l := (prow cs).drop ((j + 1) * 57)), ← hn]
    · exact o
    · rw [List.length_drop, prow_len cs h.sizes, ← Nat.sub_mul]
      exact Nat.mul_le_mul_right _ (by omega)
  · rw [List.getElem?_eraseIdx] at hc hd
    have hk : Kn (· < N) w w' := Kn.of_below hb
    by_cases hi : i < j
    · rw [if_pos hi] at hc hd
      exact (h.sub i c d hc hd).keep hk
    · rw [if_neg hi] at hc hd
      exact (h.sub _ c d hc hd).keep hk
set_option maxHeartbeats 8000000 in
set_option maxRecDepth 100000 in
theorem netDrops (v : Value) (L : List PackD) (at_ : Int) (w : World) (h : elemP.RdL (fun _ => True) w v L) (hL : L.length ≤ 17592186044416) (hb : ∀ d ∈ L, BdF d.d) (hnum : ∀ d ∈ L, NumF d.d) :
    Calls Try.prog 6 #[v, .int .i64 at_] w fun e w' => e = .returned (.bool true) ∧ Below w.heap.size w w' := by
  have M1 := psize19 v L w h hL hb
  have hS := h.mono (ok' := fun b => b < w.heap.size) fun b hb _ => hb
  obtain ⟨A, n, c, rfl, rfl, g2, g3⟩ := hS
  obtain ⟨z44, hz44⟩ : ∃ z : Array Value, z = #[.int .i64 0, .int .i64 0, .bool false, .int .i64 0, .int .u8 0, .int .i64 0, .int .i64 0, .int .i64 0, .int .i64 0, .int .i64 0, .int .i64 0, .int .i64 0, .bool false, .slice none 0 0, .slice none 0 0, .slice none 0 0, .slice none 0 0, .int .i64 0, .int .i64 0, .slice none 0 0, .int .i64 0, .int .i64 0, .int .u8 0, .int .i64 0, .int .i64 0, .int .i64 0, .int .i64 0, .int .i64 0, .bool false, .slice none 0 0, .slice none 0 0, .slice none 0 0, .slice none 0 0, .int .i64 0, .int .i64 0, .slice none 0 0, .int .i64 0, .int .i64 0, .int .i64 0, .int .i64 0, .int .i64 0, .int .i64 0, .int .i64 0, .int .i64 0, .int .i64 0, .slice none 0 0, .int .i64 0, .int .i64 0, .int .i64 0, .int .i64 0, .int .i64 0, .int .i64 0, .int .i64 0, .int .i64 0, .int .i64 0, .int .i64 0, .int .i64 0] := ⟨_, rfl⟩
  have hzs : z44.size = 57 := by rw [hz44]; rfl
  have HZ := Lib.hid (And.intro hz44 hzs)
  have HL := Lib.hid (And.intro g3 hnum)
  clear hz44 hzs g2 g3 h hb hnum
  go_enter Try.func6, Try.ntmps6
  go_wp2_with fail
  refine M1.mono ?_
  rintro e w2 ⟨n, rfl, q1, q2, B1⟩
  have M2 := beyond9 (.slice (some ⟨w2.heap.size, 0, none⟩) 1 1) [n] (w2.alloc (.cells #[.int .i64 n] 3)) (one_int (fun _ => True) w2 n trivial) (by simp)
  have b3 : Below w.heap.size w (w2.alloc (.cells #[.int .i64 n] 3)) := B1.alloc B1.size _
  have HB3 := Lib.hid (And.intro b3 q2)
  clear M1 B1 b3 q2
  go_wp2_with fail
  refine M2.mono ?_
  rintro e w3 ⟨rfl, b, rfl, hbey⟩
  clear M2
  cases b with
  | true =>
    clear hbey
    go_wp2_with fail
    go_ret
    exact ⟨rfl, HB3.out.1⟩
  | false =>
    have hle := (hbey rfl n (by simp)).2
    have HSZ := Lib.hid (HB3.out.2 hle)
    clear hbey hle
    by_cases h500 : (L.length : Int) > 500
    · have t1 : decide ((L.length : Int) > 500) = true := decide_eq_true h500
      go_wp2_with fail
      go_ret
      exact ⟨rfl, HB3.out.1⟩
    have t1 : decide ((L.length : Int) > 500) = false := decide_eq_false h500
    have hlen : L.length ≤ 500 := by omega
    clear h500
    go_wp2_with fail
    generalize hwB : w2.alloc (.cells #[.int .i64 n] 3) = wB at *
    clear hwB
    refine (new13 wB).mono ?_
    rintro e w6 ⟨rfl, n6, b6⟩
    have H6 : Hid (∃ v cs scs, LoopS w.heap.size wB w6 v cs [] (.slice none 0 0) scs []) := Lib.hid ⟨_, [], [], ⟨n6, fun j c d hc => by simp at hc⟩, Sent.nil _ _ _, (fun k hk => by simp [Value.ownBlock] at hk), b6⟩
    clear n6 b6
    go_wp2_with fail
    go_loopg [6, 7] L.length (fun k v6 v7 wr => ∃ i : Nat, v7 = .int .i64 (i : Int) ∧ i + k = L.length ∧ Hid (∃ v cs scs T, LoopS w.heap.size wB wr v cs T v6 scs T ∧ T.length ≤ i ∧ ∀ d ∈ T, d ∈ L))
    case atStart => exact ⟨0, rfl, by simp, Lib.hid (by obtain ⟨v, cs, scs, h⟩ := H6.out; exact ⟨v, cs, scs, [], h, by simp, fun d hd => by cases hd⟩)⟩
    case round =>
      clear H6
      obtain ⟨i, rfl, hik, HE⟩ := hrel
      obtain ⟨v, cs, scs, T, hE, hTl, hTm⟩ := HE.out
      obtain ⟨A5, c5, rfl⟩ := hE.row.slice
      by_cases hi : i < L.length
      · obtain ⟨d, hd⟩ : ∃ d, L[i]? = some d := ⟨L[i], List.getElem?_eq_getElem hi⟩
        obtain ⟨b, o, cur, tt, fr, rfl, p1, p2, p3⟩ := HL.out.1 (by omega)
        obtain ⟨p4, p5⟩ := p3 i d hd
        change o + i * 57 + 57 ≤ cur.size at p4
        change RdP _ w (cur.extract (o + i * 57) (o + i * 57 + 57)) d at p5
        have hwr : ∀ w', Below wB.heap.size wB w' → w'.heap[b]? = some (.cells cur tt fr) ∧ RdP (· < w.heap.size) w' (cur.extract (o + i * 57) (o + i * 57 + 57)) d := fun w' hw => by
          have hb := HB3.out.1.trans (hw.mono HB3.out.1.size)
          exact ⟨(hb.block b p1).trans p2, p5.keep (Kn.of_below hb)⟩
        have hex : cur.extract (o + i * 57) (o + i * 57 + 57) = cur.extract (o + i * 57) (o + i * 57 + 57) := rfl
        generalize hx : cur.extract (o + i * 57) (o + i * 57 + 57) = c0 at hwr hex
        have HW := Lib.hid (And.intro hwr (And.intro p4 hx))
        have HM := Lib.hid (List.mem_of_getElem? hd)
        have HI := Lib.hid hi
        have i1 : (0 : Int) ≤ (i : Int) := by omega
        have i2 : (i : Int) < (L.length : Int) := by omega
        have t2 : decide ((i : Int) < (L.length : Int)) = true := decide_eq_true i2
        clear hd p1 p2 p3 p4 p5 hwr hx hex hi
        have HV := Lib.hid (And.intro hE (And.intro hTl hTm))
        have M4 := send14 hE.net.1 (by omega) (HW.out.1 wr hE.below).2 (fun _ => HSZ.out d HM.out)
        have HBK := Lib.hid (HW.out.1 wr hE.below).1
        clear hE hTl hTm HE
        go_wp2_with (with_reducible refine wpList_load_part' rfl 44 _ rfl b (o + i * 57) 57 rfl _ cur _ _ HBK.out Try.underlying44 rfl cells44 HW.out.2.1 c0 HW.out.2.2 ?_)
        refine M4.mono ?_
        intro e w8 hS
        clear M4
        rcases hS.out with ⟨k1, rfl, k2⟩ | ⟨k1, k2, _⟩ | ⟨k1, k2, rfl, v8, c8, n8, f8, r8⟩
        · have H7 := Lib.hid (HV.out.1.stay k2)
          clear k1 k2 hS
          go_wp2_with fail
          go_roundg (L.length - (i + 1))
          case measure => have := HI.out; omega
          case rel => exact ⟨i + 1, by simp, by have := HI.out; omega, Lib.hid ⟨v, cs, scs, T, H7.out, by have := HV.out.2.1; omega, HV.out.2.2⟩⟩
        · exact absurd k2 (by have := HV.out.2.1; omega)
        · have h8 := HV.out.1.sent (by have := HB3.out.1.size; omega) n8 f8 r8
          have H7 := Lib.hid (And.intro h8 (HW.out.1 w8 h8.below))
          have hO := h8.row.row.alloc (.cells c0 44)
          have HO := Lib.hid (And.intro hO (And.intro h8.below.size (And.intro (H7.out.2.2.size) (And.intro H7.out.2.2.one HV.out.2.1))))
          obtain ⟨i0, hinf, hz0, hz1, hz2⟩ := info_parts info44
          clear h8 hO k1 k2 hS n8 f8 r8
          go_wp2_with (first | (with_reducible refine wpList_load_part' rfl 44 _ rfl b (o + i * 57) 57 rfl _ cur _ _ H7.out.2.1 Try.underlying44 rfl cells44 HW.out.2.1 c0 HW.out.2.2 ?_) | (with_reducible refine wpList_buildSlice_one rfl 59 44 _ rfl 57 _ i0 Try.underlying59 hinf hz0 hz1 rfl c0 rfl HO.out.2.2.1 (by decide) (by decide) ?_) | (at_builtin; refine wpList_append_lies _ rfl _ _ 59 rfl wB.heap.size 44 i0 _ 57 632 Try.underlying59 hinf hz0 hz1 hz2 rfl (by decide) (.slice A5 T.length c5) T.length (prow scs) rfl HO.out.1 ⟨w8.heap.size, 0, none⟩ 1 1 c0.toList rfl (by rw [Array.length_toList]; exact HO.out.2.2.1) (World.news_of_block (heap_alloc_new _ _)) HO.out.2.2.2.1 (by decide) (by have := HO.out.2.2.2.2; unfold maxLen; omega) (by have := HO.out.2.2.2.2; omega) (by have := HO.out.2.1; simp; omega) (w8.heap.size + 1) (by simp) ?_))
          intro g cap w9 o1 o2 o3 _
          have H9 := Lib.hid (H7.out.1.append (d := d) (by have := HB3.out.1.size; omega) H7.out.2.2 o1 o2 o3)
          clear o1 o2 o3 hinf hz0 hz1 hz2
          go_wp2_with fail
          go_roundg (L.length - (i + 1))
          case measure => have := HI.out; omega
          case rel => exact ⟨i + 1, by simp, by have := HI.out; omega, Lib.hid ⟨v8, _, _, _, H9.out, by have := HV.out.2.1; simp; omega, fun x hx => by
            rcases List.mem_append.1 hx with hx | hx
            · exact HV.out.2.2 x hx
            · obtain rfl : x = d := by simpa using hx
              exact HM.out⟩⟩
      · obtain rfl : i = L.length := by omega
        have HV := Lib.hid (And.intro hE (And.intro hTl hTm))
        clear hE hTl hTm HE hi
        have hT5 : T.length ≤ 500 := by have := HV.out.2.1; omega
        by_cases hit : 0 ≤ at_ ∧ at_ < (T.length : Int)
        · obtain ⟨j, rfl⟩ := Int.eq_ofNat_of_zero_le hit.1
          have hj : j < T.length := by have := hit.2; omega
          have M5 := drop20 (i := j) HV.out.1.net.1 (by omega) hj
          have t3 : decide ((j : Int) < 0) = false := decide_eq_false (by omega)
          have t4 : decide ((j : Int) ≥ (T.length : Int)) = false := decide_eq_false (by omega)
          go_wp2_with fail
          refine M5.mono ?_
          intro e w8 hDr
          obtain ⟨v8, rfl, n8, f8⟩ := hDr.out
          have H8 := Lib.hid (HV.out.1.toD.deliver (by have := HB3.out.1.size; omega) n8 f8)
          clear M5 hDr n8 f8
          go_wp2_with fail
          obtain ⟨b, cap, cur, c0, d0, hsl, hb, hd0, hf0, hx0, hr0⟩ := H8.out.row.at hj
          injection hsl with hA5 _ hc5
          subst hA5 hc5
          obtain ⟨i0, hinf, hz0, hz1, hz2⟩ := info_parts info44
          obtain ⟨j1, hj1⟩ : ∃ j1, j1 = j + 1 := ⟨_, rfl⟩
          have hcap : T.length ≤ c5 ∧ c5 ≤ maxLen := by
            rcases H8.out.row.row.2 with ⟨e, _⟩ | ⟨b', cap', cur', e, _, _, h4, h5, _⟩
            · cases e
            · injection e with _ _ e
              subst e
              exact ⟨h4, h5⟩
          have hlen : (prow scs).length = T.length * 57 := H8.out.row.row.1
          have hcell : ∀ w', Below w8.heap.size w8 w' → ∀ t u, (prow scs)[t]? = some u → w'.cell? ⟨b, t, none⟩ = some u := fun w' hw t u ht => by
            rcases H8.out.row.row.2 with ⟨e, _⟩ | ⟨b', cap', cur', e, _, h3, _, _, _, h7⟩
            · cases e
            · injection e with e
              injection e with e
              injection e with e
              subst e
              rw [cell_of_row w' b t _ _ _ ((hw.block b (lt_of_some h3)).trans h3)]
              rw [← h7] at ht
              have := List.getElem?_take_of_lt (l := cur'.toList) (i := t) (j := T.length * 57) (by
                have := (List.getElem?_eq_some_iff.1 ht).1
                rw [List.length_take] at this
                omega)
              rw [this] at ht
              simpa using ht
          have hone : ∀ u ∈ prow scs, u.oneCell' = true := by
            intro u hu
            simp only [prow, List.mem_flatten, List.mem_map] at hu
            obtain ⟨_, ⟨x, hx, rfl⟩, hu⟩ := hu
            obtain ⟨q, hq, e⟩ := List.getElem_of_mem hx
            have hq2 : q < T.length := by rw [← H8.out.row.len]; exact hq
            exact (H8.out.row.sub q x T[q] (by rw [List.getElem?_eq_getElem hq, e]) (List.getElem?_eq_getElem hq2)).one u hu
          obtain ⟨A2, hA2, hc2⟩ : ∃ A : Addr, (if c5 = j1 then some (⟨b, 0, none⟩ : Addr) else some ⟨b, j1 * 57, none⟩) = some A ∧ ∀ w', Below w8.heap.size w8 w' → ∀ t u, ((prow scs).drop (j1 * 57))[t]? = some u → w'.cell? (A.add t) = some u := by
            by_cases h : c5 = j1
            · refine ⟨⟨b, 0, none⟩, by simp [h], fun w' hw t u hu => ?_⟩
              have h0 : ((prow scs).drop (j1 * 57)).length = 0 := by
                rw [List.length_drop, hlen]
                have := Nat.mul_le_mul_right 57 (show T.length ≤ j1 by omega)
                omega
              rw [List.length_eq_zero_iff.1 h0] at hu
              simp at hu
            · refine ⟨⟨b, j1 * 57, none⟩, by simp [h], fun w' hw t u hu => ?_⟩
              rw [List.getElem?_drop] at hu
              rw [add_off]
              exact hcell w' hw _ u hu
          have hc1 : ∀ w', Below w8.heap.size w8 w' → ∀ t u, ((prow scs).take (j * 57))[t]? = some u → w'.cell? ((⟨b, 0, none⟩ : Addr).add t) = some u := fun w' hw t u hu => by
            have ht : t < j * 57 := by
              have := (List.getElem?_eq_some_iff.1 hu).1
              rw [List.length_take] at this
              omega
            rw [List.getElem?_take_of_lt ht] at hu
            rw [add_off, Nat.zero_add]
            exact hcell w' hw t u hu
          have hl1 : ((prow scs).take (j * 57)).length = j * 57 := by
            rw [List.length_take, hlen, Nat.min_eq_left (Nat.mul_le_mul_right _ (Nat.le_of_lt hj))]
          have hl2 : ((prow scs).drop (j1 * 57)).length = (T.length - j1) * 57 := by rw [List.length_drop, hlen, Nat.sub_mul]
          have hn1 : ∀ u ∈ (prow scs).take (j * 57), u.oneCell' = true := fun u hu => hone u (List.mem_of_mem_take hu)
          have hn2 : ∀ u ∈ (prow scs).drop (j1 * 57), u.oneCell' = true := fun u hu => hone u (List.mem_of_mem_drop hu)
          have HN := Lib.hid (And.intro hc1 (And.intro hc2 (And.intro hl1 (And.intro hl2 (And.intro hn1 (And.intro hn2 (And.intro hj1 hcap.2)))))))
          have hS8 : ∀ x ∈ T.eraseIdx j, NumF x.d ∧ SzF x.d := fun x hx => by
            have := HV.out.2.2 x (List.mem_of_mem_eraseIdx hx)
            exact ⟨HL.out.2 x this, HSZ.out x this⟩
          have hle8 : (T.eraseIdx j).length ≤ 4096 := by rw [List.length_eraseIdx]; split <;> omega
          have HS8 := Lib.hid (And.intro hS8 hle8)
          have f1 : (j : Int) + 1 = (j1 : Int) := by omega
          have f2 : IntKind.i64.wrap (j1 : Int) = (j1 : Int) := wrapi _ (by omega)
          have f3 : j ≤ c5 := by omega
          have f4 : j1 ≤ c5 := by omega
          have f5 : j1 ≤ T.length := by omega
          have f6 : T.length ≤ c5 := hcap.1
          have f7 : (0 : Int) ≤ (j1 : Int) := by omega
          have f8 : (j1 : Int) ≤ (T.length : Int) := by omega
          have f9 : (0 : Int) ≤ (j : Int) := by omega
          have f10 : (j : Int) ≤ (T.length : Int) := by omega
          have HJ := Lib.hid hj
          clear hb hd0 hf0 hx0 hr0 hcap hlen hcell hone hc1 hc2 hl1 hl2 hj1 hS8 hle8 hn1 hn2
          refine Go.Proofs.Phase.wp_region_al (S := (fun w' => True ∧ Below w8.heap.size w8 w')) (by kernel_rfl) ?_ (fun hHeld => ?_)
          · ((try dsimp only) <;> (first | exact ⟨trivial, by assumption⟩ | exact ⟨trivial, (Below.refl _ _).drew⟩ | exact ⟨trivial, Below.alloc (And.right (by assumption)) (Below.size (And.right (by assumption))) _⟩))
          refine Go.Proofs.Phase.wpAl_take' (i := 0) (by simp only [List.getElem?_toArray, List.getElem?_cons_succ, List.getElem?_cons_zero]; rfl) ?_
          refine ⟨?_, ⟨by kernel_rfl, by kernel_rfl, by kernel_rfl⟩, fun _ _ _ h => h, Or.inl ⟨by rfl, ?_⟩, by assumption, ?_⟩
          rotate_left
          · (intro w hSw; (try dsimp only at hSw); go_simp; with_reducible rfl)
          try simp only [Act.put, List.setIfInBounds_toArray, List.set_cons_zero, List.set_cons_succ]
          refine Go.Proofs.Phase.wpAl_take' (i := 1) (by simp only [List.getElem?_toArray, List.getElem?_cons_succ, List.getElem?_cons_zero]; rfl) ?_
          refine ⟨?_, ⟨by kernel_rfl, by kernel_rfl, by kernel_rfl⟩, fun _ _ _ h => h, Or.inl ⟨by rfl, ?_⟩, by assumption, ?_⟩
          rotate_left
          · (intro w hSw; (try dsimp only at hSw); go_simp; with_reducible rfl)
          try simp only [Act.put, List.setIfInBounds_toArray, List.set_cons_zero, List.set_cons_succ]
          refine Go.Proofs.Phase.wpAl_take' (i := 2) (by simp only [List.getElem?_toArray, List.getElem?_cons_succ, List.getElem?_cons_zero]; rfl) ?_
          refine ⟨?_, ⟨by kernel_rfl, by kernel_rfl, by kernel_rfl⟩, fun _ _ _ h => h, Or.inl ⟨by rfl, ?_⟩, by assumption, ?_⟩
          rotate_left
          · (intro w hSw; (try dsimp only at hSw); go_simp; with_reducible rfl)
          try simp only [Act.put, List.setIfInBounds_toArray, List.set_cons_zero, List.set_cons_succ]
          refine Go.Proofs.Phase.wpAl_take' (i := 3) (by simp only [List.getElem?_toArray, List.getElem?_cons_succ, List.getElem?_cons_zero]; rfl) ?_
          refine ⟨?_, ⟨by kernel_rfl, by kernel_rfl, by kernel_rfl⟩, fun _ _ _ h => h, Or.inl ⟨by rfl, ?_⟩, by assumption, ?_⟩
          rotate_left
          · (intro w hSw; (try dsimp only at hSw); go_simp; with_reducible rfl)
          try simp only [Act.put, List.setIfInBounds_toArray, List.set_cons_zero, List.set_cons_succ]
          refine Go.Proofs.Phase.wpAl_take' (i := 6) (by simp only [List.getElem?_toArray, List.getElem?_cons_succ, List.getElem?_cons_zero]; rfl) ?_
          refine ⟨?_, ⟨by kernel_rfl, by kernel_rfl, by kernel_rfl⟩, fun _ _ _ h => h, Or.inl ⟨by rfl, ?_⟩, by assumption, ?_⟩
          rotate_left
          · (intro w hSw; (try dsimp only at hSw); go_simp; with_reducible rfl)
          try simp only [Act.put, List.setIfInBounds_toArray, List.set_cons_zero, List.set_cons_succ]
          refine Go.Proofs.Phase.wpAl_take' (i := 7) (by simp only [List.getElem?_toArray, List.getElem?_cons_succ, List.getElem?_cons_zero]; rfl) ?_
          refine ⟨?_, ⟨by kernel_rfl, by kernel_rfl, by kernel_rfl⟩, fun _ _ _ h => h, Or.inl ⟨by rfl, ?_⟩, by assumption, ?_⟩
          rotate_left
          · (intro w hSw; (try dsimp only at hSw); go_simp; with_reducible rfl)
          try simp only [Act.put, List.setIfInBounds_toArray, List.set_cons_zero, List.set_cons_succ]
          refine Go.Proofs.Phase.wpAl_take' (i := 8) (by simp only [List.getElem?_toArray, List.getElem?_cons_succ, List.getElem?_cons_zero]; rfl) ?_
          refine ⟨?_, ⟨by kernel_rfl, by kernel_rfl, by kernel_rfl⟩, fun _ _ _ h => h, Or.inl ⟨by rfl, ?_⟩, by assumption, ?_⟩
          rotate_left
          · (intro w hSw; (try dsimp only at hSw); go_simp; with_reducible rfl)
          try simp only [Act.put, List.setIfInBounds_toArray, List.set_cons_zero, List.set_cons_succ]
          refine Go.Proofs.Phase.wpAl_take' (i := 10) (by simp only [List.getElem?_toArray, List.getElem?_cons_succ, List.getElem?_cons_zero]; rfl) ?_
          refine ⟨?_, ⟨by kernel_rfl, by kernel_rfl, by kernel_rfl⟩, fun _ _ _ h => h, Or.inl ⟨by rfl, ?_⟩, by assumption, ?_⟩
          rotate_left
          · (intro w hSw; (try dsimp only at hSw); go_simp; with_reducible rfl)
          try simp only [Act.put, List.setIfInBounds_toArray, List.set_cons_zero, List.set_cons_succ]
          refine Go.Proofs.Phase.wpAl_take' (i := 11) (by simp only [List.getElem?_toArray, List.getElem?_cons_succ, List.getElem?_cons_zero]; rfl) ?_
          refine ⟨?_, ⟨by kernel_rfl, by kernel_rfl, by kernel_rfl⟩, fun _ _ _ h => h, Or.inl ⟨by rfl, ?_⟩, by assumption, ?_⟩
          rotate_left
          · (intro w hSw; (try dsimp only at hSw); go_simp; with_reducible rfl)
          try simp only [Act.put, List.setIfInBounds_toArray, List.set_cons_zero, List.set_cons_succ]
          refine Go.Proofs.Phase.wpAl_take' (i := 12) (by simp only [List.getElem?_toArray, List.getElem?_cons_succ, List.getElem?_cons_zero]; rfl) ?_
          refine ⟨?_, ⟨by kernel_rfl, by kernel_rfl, by kernel_rfl⟩, fun _ _ _ h => h, Or.inl ⟨by rfl, ?_⟩, by assumption, ?_⟩
          rotate_left
          · (intro w hSw; (try dsimp only at hSw); go_simp; with_reducible rfl)
          try simp only [Act.put, List.setIfInBounds_toArray, List.set_cons_zero, List.set_cons_succ]
          refine Go.Proofs.Phase.wpAl_take' (i := 13) (by simp only [List.getElem?_toArray, List.getElem?_cons_succ, List.getElem?_cons_zero]; rfl) ?_
          refine ⟨?_, ⟨by kernel_rfl, by kernel_rfl, by kernel_rfl⟩, fun _ _ _ h => h, Or.inl ⟨by rfl, ?_⟩, by assumption, ?_⟩
          rotate_left
          · (intro w hSw; (try dsimp only at hSw); go_simp; with_reducible rfl)
          try simp only [Act.put, List.setIfInBounds_toArray, List.set_cons_zero, List.set_cons_succ]
          refine Go.Proofs.Phase.wpAl_two (i := 4) (j := 5) (by kernel_rfl) (by simp only [List.getElem?_toArray, List.getElem?_cons_succ, List.getElem?_cons_zero]; rfl) (by simp only [List.getElem?_toArray, List.getElem?_cons_succ, List.getElem?_cons_zero]; rfl) (fun K hK => ?_) (fun K hK => ?_)
          · skip
            go_simp
            ((first
              | ((with_reducible refine (alive12 _).mono ?_); rintro e w12 ⟨rfl, b12⟩; obtain ⟨_, s2⟩ := (show True ∧ Below w8.heap.size w8 _ by assumption); have K12 := s2.trans (b12.mono s2.size); clear s2)
              | (have tk := g2; obtain ⟨_, s2⟩ := (show True ∧ Below w8.heap.size w8 _ by assumption); (with_reducible refine (same22 (.slice A9 (T.eraseIdx j).length c9) v2 (T.eraseIdx j) _ HO.out.1 HO.out.2 (Nat.le_trans HS8.out.2 (by decide)) (fun x hx => (HS8.out.1 x hx).1) (fun x hx => (HS8.out.1 x hx).2)).mono ?_); rintro e w11 ⟨rfl, b11⟩; have K11 := s2.trans (b11.mono s2.size); clear s2 tk)
              | (have tk := HK9; obtain ⟨_, s2⟩ := (show True ∧ Below w8.heap.size w8 _ by assumption); (with_reducible refine step_append_own_at (by simp [Region.wanted, yielded, Act.put]) _ _ 59 rfl w8.heap.size 44 i0 _ 57 632 Try.underlying59 hinf hz0 hz1 hz2 rfl (by decide) v1 (0 + j) ([] ++ (prow scs).take (j * 57)) rfl o1 A2 (T.length - j1) (c5 - j1) ((prow scs).drop (j1 * 57)) rfl HN.out.2.2.2.1 (HN.out.2.1 _ s2) HN.out.2.2.2.2.2.1 (by have := HN.out.2.2.2.2.2.2.2; omega) (by omega) s2.size ?_); intro v2 w11 o2 g2 hv2; have K11 := s2.grown g2 s2.size hk1; have HO : Hid (elemP.RdL (fun _ => True) w11 (.slice A9 (T.eraseIdx j).length c9) (T.eraseIdx j) ∧ elemP.RdL (fun _ => True) w11 v2 (T.eraseIdx j)) := Lib.hid ⟨HK9.out w11 g2, (H8.out.row.erased (n := 0 + j + (T.length - j1)) (by have := H8.out.below.size; have := HB3.out.1.size; omega) HJ.out K11 (by have := HN.out.2.2.2.2.2.2.1; have := HJ.out; omega) (by rw [← HN.out.2.2.2.2.2.2.1]; simpa using o2)).rdL⟩; clear s2 tk)
              | (have tk := b9; obtain ⟨_, s2⟩ := (show True ∧ Below w8.heap.size w8 _ by assumption); have hw1 : (w9.alloc (.cells #[] 44)).heap[w9.heap.size]? = some (.cells #[] 44 (0, 0)) := heap_alloc_new w9 _; have ho1 := own0 hw1 K9.size; (with_reducible refine step_append_own_at (by simp [Region.wanted, yielded, Act.put]) _ _ 59 rfl w8.heap.size 44 i0 _ 57 632 Try.underlying59 hinf hz0 hz1 hz2 rfl (by decide) (.slice (some ⟨w9.heap.size, 0, none⟩) 0 0) 0 [] rfl ho1 ⟨b, 0, none⟩ j c5 ((prow scs).take (j * 57)) rfl HN.out.2.2.1 (HN.out.1 _ s2) HN.out.2.2.2.2.1 (by have := HN.out.2.2.2.2.2.2.2; omega) (by omega) s2.size ?_); intro v1 w10 o1 g1 hv1; have K10 := s2.grown g1 s2.size (fun k hk => own_eq_ge hk K9.size); have hv1' : v1.ownBlock = some w9.heap.size ∨ v1.ownBlock = some (w9.alloc (.cells #[] 44)).heap.size := hv1; have hk1 : ∀ k, v1.ownBlock = some k → w8.heap.size ≤ k := fun k hk => own_ge hv1' hk K9.size (Nat.le_trans K9.size (alloc_le w9 (.cells #[] 44))); have HK9 : Hid (∀ w11, w10.grownBy w11 v1.ownBlock → elemP.RdL (fun _ => True) w11 (.slice A9 (T.eraseIdx j).length c9) (T.eraseIdx j)) := Lib.hid (fun w11 g2 => ((hO.rdL.mono (ok' := fun b => b < w9.heap.size) (fun b hb hp => hb)).keep ⟨(Nat.le_trans (alloc_le w9 (.cells #[] 44)) (Nat.le_trans g1.size g2.size)), fun b hb hp => two_grown (alloc_le w9 (.cells #[] 44)) (fun b hb => alloc_same w9 _ b hb) g1 g2 hv1' b hb (Nat.ne_of_lt hp)⟩).mono fun _ _ _ => trivial); clear s2 tk)
              | (have tk := b9; obtain ⟨_, s2⟩ := (show True ∧ Below w8.heap.size w8 _ by assumption); have hw1 : w9.heap[w8.heap.size]? = some (.cells #[] 44 (0, 0)) := (b9.block w8.heap.size (by simp)).trans (heap_alloc_new w8 _); have ho1 := own0 hw1 (Nat.le_refl _); (with_reducible refine step_append_own_at (by simp [Region.wanted, yielded, Act.put]) _ _ 59 rfl w8.heap.size 44 i0 _ 57 632 Try.underlying59 hinf hz0 hz1 hz2 rfl (by decide) (.slice (some ⟨w8.heap.size, 0, none⟩) 0 0) 0 [] rfl ho1 ⟨b, 0, none⟩ j c5 ((prow scs).take (j * 57)) rfl HN.out.2.2.1 (HN.out.1 _ s2) HN.out.2.2.2.2.1 (by have := HN.out.2.2.2.2.2.2.2; omega) (by omega) s2.size ?_); intro v1 w10 o1 g1 hv1; have K10 := s2.grown g1 s2.size (fun k hk => own_eq_ge hk (Nat.le_refl _)); have hv1' : v1.ownBlock = some w8.heap.size ∨ v1.ownBlock = some w9.heap.size := hv1; have hk1 : ∀ k, v1.ownBlock = some k → w8.heap.size ≤ k := fun k hk => own_ge hv1' hk (Nat.le_refl _) K9.size; have HK9 : Hid (∀ w11, w10.grownBy w11 v1.ownBlock → elemP.RdL (fun _ => True) w11 (.slice A9 (T.eraseIdx j).length c9) (T.eraseIdx j)) := Lib.hid (fun w11 g2 => ((hO.rdL.mono (ok' := fun b => b ≠ w8.heap.size) (fun b hb hp => ne_of_alloc hp)).keep ⟨(Nat.le_trans (Nat.le_refl _) (Nat.le_trans g1.size g2.size)), fun b hb hp => two_grown (Nat.le_refl _) (fun _ _ => rfl) g1 g2 hv1' b hb hp⟩).mono fun _ _ _ => trivial); clear s2 tk)
              | (obtain ⟨_, s2⟩ := (show True ∧ Below w8.heap.size w8 _ by assumption); (with_reducible refine (all21 (H8.out.stay s2).net HS8.out.2 (fun x hx => (HS8.out.1 x hx).2)).mono ?_); rintro e w9 ⟨v9, cs9, rfl, hO, b9⟩; obtain ⟨A9, c9, rfl⟩ := hO.slice; have K9 := s2.trans (b9.mono s2.size); clear s2)))
            go_wp2_with fail
            refine hK.out _ _ ?_ (fun hHeldN => ?_)
            · ((try dsimp only) <;> (first | exact ⟨trivial, by assumption⟩ | exact ⟨trivial, (Below.refl _ _).drew⟩ | exact ⟨trivial, Below.alloc (And.right (by assumption)) (Below.size (And.right (by assumption))) _⟩))
            clear hHeld
            have hHeld := hHeldN
            clear hHeldN
            clear hK K
            try simp only [Act.put, List.setIfInBounds_toArray, List.set_cons_zero, List.set_cons_succ]
            refine Go.Proofs.Phase.wpAl_before (i := 5) (by kernel_rfl) (by simp only [List.getElem?_toArray, List.getElem?_cons_succ, List.getElem?_cons_zero]; rfl) (fun K hK => ?_)
            go_simp
            refine hK.out _ _ ?_ (fun hHeldN => ?_)
            · ((try dsimp only) <;> (first | exact ⟨trivial, by assumption⟩ | exact ⟨trivial, (Below.refl _ _).drew⟩ | exact ⟨trivial, Below.alloc (And.right (by assumption)) (Below.size (And.right (by assumption))) _⟩))
            clear hHeld
            have hHeld := hHeldN
            clear hHeldN
            clear hK K
            try simp only [Act.put, List.setIfInBounds_toArray, List.set_cons_zero, List.set_cons_succ]
            refine Go.Proofs.Phase.wpAl_before (i := 9) (by kernel_rfl) (by simp only [List.getElem?_toArray, List.getElem?_cons_succ, List.getElem?_cons_zero]; rfl) (fun K hK => ?_)
            ((first
              | ((with_reducible refine (alive12 _).mono ?_); rintro e w12 ⟨rfl, b12⟩; obtain ⟨_, s2⟩ := (show True ∧ Below w8.heap.size w8 _ by assumption); have K12 := s2.trans (b12.mono s2.size); clear s2)
              | (have tk := g2; obtain ⟨_, s2⟩ := (show True ∧ Below w8.heap.size w8 _ by assumption); (with_reducible refine (same22 (.slice A9 (T.eraseIdx j).length c9) v2 (T.eraseIdx j) _ HO.out.1 HO.out.2 (Nat.le_trans HS8.out.2 (by decide)) (fun x hx => (HS8.out.1 x hx).1) (fun x hx => (HS8.out.1 x hx).2)).mono ?_); rintro e w11 ⟨rfl, b11⟩; have K11 := s2.trans (b11.mono s2.size); clear s2 tk)
              | (have tk := HK9; obtain ⟨_, s2⟩ := (show True ∧ Below w8.heap.size w8 _ by assumption); (with_reducible refine step_append_own_at (by simp [Region.wanted, yielded, Act.put]) _ _ 59 rfl w8.heap.size 44 i0 _ 57 632 Try.underlying59 hinf hz0 hz1 hz2 rfl (by decide) v1 (0 + j) ([] ++ (prow scs).take (j * 57)) rfl o1 A2 (T.length - j1) (c5 - j1) ((prow scs).drop (j1 * 57)) rfl HN.out.2.2.2.1 (HN.out.2.1 _ s2) HN.out.2.2.2.2.2.1 (by have := HN.out.2.2.2.2.2.2.2; omega) (by omega) s2.size ?_); intro v2 w11 o2 g2 hv2; have K11 := s2.grown g2 s2.size hk1; have HO : Hid (elemP.RdL (fun _ => True) w11 (.slice A9 (T.eraseIdx j).length c9) (T.eraseIdx j) ∧ elemP.RdL (fun _ => True) w11 v2 (T.eraseIdx j)) := Lib.hid ⟨HK9.out w11 g2, (H8.out.row.erased (n := 0 + j + (T.length - j1)) (by have := H8.out.below.size; have := HB3.out.1.size; omega) HJ.out K11 (by have := HN.out.2.2.2.2.2.2.1; have := HJ.out; omega) (by rw [← HN.out.2.2.2.2.2.2.1]; simpa using o2)).rdL⟩; clear s2 tk)
              | (have tk := b9; obtain ⟨_, s2⟩ := (show True ∧ Below w8.heap.size w8 _ by assumption); have hw1 : (w9.alloc (.cells #[] 44)).heap[w9.heap.size]? = some (.cells #[] 44 (0, 0)) := heap_alloc_new w9 _; have ho1 := own0 hw1 K9.size; (with_reducible refine step_append_own_at (by simp [Region.wanted, yielded, Act.put]) _ _ 59 rfl w8.heap.size 44 i0 _ 57 632 Try.underlying59 hinf hz0 hz1 hz2 rfl (by decide) (.slice (some ⟨w9.heap.size, 0, none⟩) 0 0) 0 [] rfl ho1 ⟨b, 0, none⟩ j c5 ((prow scs).take (j * 57)) rfl HN.out.2.2.1 (HN.out.1 _ s2) HN.out.2.2.2.2.1 (by have := HN.out.2.2.2.2.2.2.2; omega) (by omega) s2.size ?_); intro v1 w10 o1 g1 hv1; have K10 := s2.grown g1 s2.size (fun k hk => own_eq_ge hk K9.size); have hv1' : v1.ownBlock = some w9.heap.size ∨ v1.ownBlock = some (w9.alloc (.cells #[] 44)).heap.size := hv1; have hk1 : ∀ k, v1.ownBlock = some k → w8.heap.size ≤ k := fun k hk => own_ge hv1' hk K9.size (Nat.le_trans K9.size (alloc_le w9 (.cells #[] 44))); have HK9 : Hid (∀ w11, w10.grownBy w11 v1.ownBlock → elemP.RdL (fun _ => True) w11 (.slice A9 (T.eraseIdx j).length c9) (T.eraseIdx j)) := Lib.hid (fun w11 g2 => ((hO.rdL.mono (ok' := fun b => b < w9.heap.size) (fun b hb hp => hb)).keep ⟨(Nat.le_trans (alloc_le w9 (.cells #[] 44)) (Nat.le_trans g1.size g2.size)), fun b hb hp => two_grown (alloc_le w9 (.cells #[] 44)) (fun b hb => alloc_same w9 _ b hb) g1 g2 hv1' b hb (Nat.ne_of_lt hp)⟩).mono fun _ _ _ => trivial); clear s2 tk)
              | (have tk := b9; obtain ⟨_, s2⟩ := (show True ∧ Below w8.heap.size w8 _ by assumption); have hw1 : w9.heap[w8.heap.size]? = some (.cells #[] 44 (0, 0)) := (b9.block w8.heap.size (by simp)).trans (heap_alloc_new w8 _); have ho1 := own0 hw1 (Nat.le_refl _); (with_reducible refine step_append_own_at (by simp [Region.wanted, yielded, Act.put]) _ _ 59 rfl w8.heap.size 44 i0 _ 57 632 Try.underlying59 hinf hz0 hz1 hz2 rfl (by decide) (.slice (some ⟨w8.heap.size, 0, none⟩) 0 0) 0 [] rfl ho1 ⟨b, 0, none⟩ j c5 ((prow scs).take (j * 57)) rfl HN.out.2.2.1 (HN.out.1 _ s2) HN.out.2.2.2.2.1 (by have := HN.out.2.2.2.2.2.2.2; omega) (by omega) s2.size ?_); intro v1 w10 o1 g1 hv1; have K10 := s2.grown g1 s2.size (fun k hk => own_eq_ge hk (Nat.le_refl _)); have hv1' : v1.ownBlock = some w8.heap.size ∨ v1.ownBlock = some w9.heap.size := hv1; have hk1 : ∀ k, v1.ownBlock = some k → w8.heap.size ≤ k := fun k hk => own_ge hv1' hk (Nat.le_refl _) K9.size; have HK9 : Hid (∀ w11, w10.grownBy w11 v1.ownBlock → elemP.RdL (fun _ => True) w11 (.slice A9 (T.eraseIdx j).length c9) (T.eraseIdx j)) := Lib.hid (fun w11 g2 => ((hO.rdL.mono (ok' := fun b => b ≠ w8.heap.size) (fun b hb hp => ne_of_alloc hp)).keep ⟨(Nat.le_trans (Nat.le_refl _) (Nat.le_trans g1.size g2.size)), fun b hb hp => two_grown (Nat.le_refl _) (fun _ _ => rfl) g1 g2 hv1' b hb hp⟩).mono fun _ _ _ => trivial); clear s2 tk)
              | (obtain ⟨_, s2⟩ := (show True ∧ Below w8.heap.size w8 _ by assumption); (with_reducible refine (all21 (H8.out.stay s2).net HS8.out.2 (fun x hx => (HS8.out.1 x hx).2)).mono ?_); rintro e w9 ⟨v9, cs9, rfl, hO, b9⟩; obtain ⟨A9, c9, rfl⟩ := hO.slice; have K9 := s2.trans (b9.mono s2.size); clear s2)))
            refine hK.out _ _ ?_ (fun hHeldN => ?_)
            · ((try dsimp only) <;> (first | exact ⟨trivial, by assumption⟩ | exact ⟨trivial, (Below.refl _ _).drew⟩ | exact ⟨trivial, Below.alloc (And.right (by assumption)) (Below.size (And.right (by assumption))) _⟩))
            clear hHeld
            have hHeld := hHeldN
            clear hHeldN
            clear hK K
            try simp only [Act.put, List.setIfInBounds_toArray, List.set_cons_zero, List.set_cons_succ]
            refine Go.Proofs.Phase.wpAl_before (i := 14) (by kernel_rfl) (by simp only [List.getElem?_toArray, List.getElem?_cons_succ, List.getElem?_cons_zero]; rfl) (fun K hK => ?_)
            ((first
              | ((with_reducible refine (alive12 _).mono ?_); rintro e w12 ⟨rfl, b12⟩; obtain ⟨_, s2⟩ := (show True ∧ Below w8.heap.size w8 _ by assumption); have K12 := s2.trans (b12.mono s2.size); clear s2)
              | (have tk := g2; obtain ⟨_, s2⟩ := (show True ∧ Below w8.heap.size w8 _ by assumption); (with_reducible refine (same22 (.slice A9 (T.eraseIdx j).length c9) v2 (T.eraseIdx j) _ HO.out.1 HO.out.2 (Nat.le_trans HS8.out.2 (by decide)) (fun x hx => (HS8.out.1 x hx).1) (fun x hx => (HS8.out.1 x hx).2)).mono ?_); rintro e w11 ⟨rfl, b11⟩; have K11 := s2.trans (b11.mono s2.size); clear s2 tk)
              | (have tk := HK9; obtain ⟨_, s2⟩ := (show True ∧ Below w8.heap.size w8 _ by assumption); (with_reducible refine step_append_own_at (by simp [Region.wanted, yielded, Act.put]) _ _ 59 rfl w8.heap.size 44 i0 _ 57 632 Try.underlying59 hinf hz0 hz1 hz2 rfl (by decide) v1 (0 + j) ([] ++ (prow scs).take (j * 57)) rfl o1 A2 (T.length - j1) (c5 - j1) ((prow scs).drop (j1 * 57)) rfl HN.out.2.2.2.1 (HN.out.2.1 _ s2) HN.out.2.2.2.2.2.1 (by have := HN.out.2.2.2.2.2.2.2; omega) (by omega) s2.size ?_); intro v2 w11 o2 g2 hv2; have K11 := s2.grown g2 s2.size hk1; have HO : Hid (elemP.RdL (fun _ => True) w11 (.slice A9 (T.eraseIdx j).length c9) (T.eraseIdx j) ∧ elemP.RdL (fun _ => True) w11 v2 (T.eraseIdx j)) := Lib.hid ⟨HK9.out w11 g2, (H8.out.row.erased (n := 0 + j + (T.length - j1)) (by have := H8.out.below.size; have := HB3.out.1.size; omega) HJ.out K11 (by have := HN.out.2.2.2.2.2.2.1; have := HJ.out; omega) (by rw [← HN.out.2.2.2.2.2.2.1]; simpa using o2)).rdL⟩; clear s2 tk)
              | (have tk := b9; obtain ⟨_, s2⟩ := (show True ∧ Below w8.heap.size w8 _ by assumption); have hw1 : (w9.alloc (.cells #[] 44)).heap[w9.heap.size]? = some (.cells #[] 44 (0, 0)) := heap_alloc_new w9 _; have ho1 := own0 hw1 K9.size; (with_reducible refine step_append_own_at (by simp [Region.wanted, yielded, Act.put]) _ _ 59 rfl w8.heap.size 44 i0 _ 57 632 Try.underlying59 hinf hz0 hz1 hz2 rfl (by decide) (.slice (some ⟨w9.heap.size, 0, none⟩) 0 0) 0 [] rfl ho1 ⟨b, 0, none⟩ j c5 ((prow scs).take (j * 57)) rfl HN.out.2.2.1 (HN.out.1 _ s2) HN.out.2.2.2.2.1 (by have := HN.out.2.2.2.2.2.2.2; omega) (by omega) s2.size ?_); intro v1 w10 o1 g1 hv1; have K10 := s2.grown g1 s2.size (fun k hk => own_eq_ge hk K9.size); have hv1' : v1.ownBlock = some w9.heap.size ∨ v1.ownBlock = some (w9.alloc (.cells #[] 44)).heap.size := hv1; have hk1 : ∀ k, v1.ownBlock = some k → w8.heap.size ≤ k := fun k hk => own_ge hv1' hk K9.size (Nat.le_trans K9.size (alloc_le w9 (.cells #[] 44))); have HK9 : Hid (∀ w11, w10.grownBy w11 v1.ownBlock → elemP.RdL (fun _ => True) w11 (.slice A9 (T.eraseIdx j).length c9) (T.eraseIdx j)) := Lib.hid (fun w11 g2 => ((hO.rdL.mono (ok' := fun b => b < w9.heap.size) (fun b hb hp => hb)).keep ⟨(Nat.le_trans (alloc_le w9 (.cells #[] 44)) (Nat.le_trans g1.size g2.size)), fun b hb hp => two_grown (alloc_le w9 (.cells #[] 44)) (fun b hb => alloc_same w9 _ b hb) g1 g2 hv1' b hb (Nat.ne_of_lt hp)⟩).mono fun _ _ _ => trivial); clear s2 tk)
              | (have tk := b9; obtain ⟨_, s2⟩ := (show True ∧ Below w8.heap.size w8 _ by assumption); have hw1 : w9.heap[w8.heap.size]? = some (.cells #[] 44 (0, 0)) := (b9.block w8.heap.size (by simp)).trans (heap_alloc_new w8 _); have ho1 := own0 hw1 (Nat.le_refl _); (with_reducible refine step_append_own_at (by simp [Region.wanted, yielded, Act.put]) _ _ 59 rfl w8.heap.size 44 i0 _ 57 632 Try.underlying59 hinf hz0 hz1 hz2 rfl (by decide) (.slice (some ⟨w8.heap.size, 0, none⟩) 0 0) 0 [] rfl ho1 ⟨b, 0, none⟩ j c5 ((prow scs).take (j * 57)) rfl HN.out.2.2.1 (HN.out.1 _ s2) HN.out.2.2.2.2.1 (by have := HN.out.2.2.2.2.2.2.2; omega) (by omega) s2.size ?_); intro v1 w10 o1 g1 hv1; have K10 := s2.grown g1 s2.size (fun k hk => own_eq_ge hk (Nat.le_refl _)); have hv1' : v1.ownBlock = some w8.heap.size ∨ v1.ownBlock = some w9.heap.size := hv1; have hk1 : ∀ k, v1.ownBlock = some k → w8.heap.size ≤ k := fun k hk => own_ge hv1' hk (Nat.le_refl _) K9.size; have HK9 : Hid (∀ w11, w10.grownBy w11 v1.ownBlock → elemP.RdL (fun _ => True) w11 (.slice A9 (T.eraseIdx j).length c9) (T.eraseIdx j)) := Lib.hid (fun w11 g2 => ((hO.rdL.mono (ok' := fun b => b ≠ w8.heap.size) (fun b hb hp => ne_of_alloc hp)).keep ⟨(Nat.le_trans (Nat.le_refl _) (Nat.le_trans g1.size g2.size)), fun b hb hp => two_grown (Nat.le_refl _) (fun _ _ => rfl) g1 g2 hv1' b hb hp⟩).mono fun _ _ _ => trivial); clear s2 tk)
              | (obtain ⟨_, s2⟩ := (show True ∧ Below w8.heap.size w8 _ by assumption); (with_reducible refine (all21 (H8.out.stay s2).net HS8.out.2 (fun x hx => (HS8.out.1 x hx).2)).mono ?_); rintro e w9 ⟨v9, cs9, rfl, hO, b9⟩; obtain ⟨A9, c9, rfl⟩ := hO.slice; have K9 := s2.trans (b9.mono s2.size); clear s2)))
            refine hK.out _ _ ?_ (fun hHeldN => ?_)
            · ((try dsimp only) <;> (first | exact ⟨trivial, by assumption⟩ | exact ⟨trivial, (Below.refl _ _).drew⟩ | exact ⟨trivial, Below.alloc (And.right (by assumption)) (Below.size (And.right (by assumption))) _⟩))
            clear hHeld
            have hHeld := hHeldN
            clear hHeldN
            clear hK K
            try simp only [Act.put, List.setIfInBounds_toArray, List.set_cons_zero, List.set_cons_succ]
            refine Go.Proofs.Phase.wpAl_before (i := 15) (by kernel_rfl) (by simp only [List.getElem?_toArray, List.getElem?_cons_succ, List.getElem?_cons_zero]; rfl) (fun K hK => ?_)
            go_simp
            ((first
              | ((with_reducible refine (alive12 _).mono ?_); rintro e w12 ⟨rfl, b12⟩; obtain ⟨_, s2⟩ := (show True ∧ Below w8.heap.size w8 _ by assumption); have K12 := s2.trans (b12.mono s2.size); clear s2)
              | (have tk := g2; obtain ⟨_, s2⟩ := (show True ∧ Below w8.heap.size w8 _ by assumption); (with_reducible refine (same22 (.slice A9 (T.eraseIdx j).length c9) v2 (T.eraseIdx j) _ HO.out.1 HO.out.2 (Nat.le_trans HS8.out.2 (by decide)) (fun x hx => (HS8.out.1 x hx).1) (fun x hx => (HS8.out.1 x hx).2)).mono ?_); rintro e w11 ⟨rfl, b11⟩; have K11 := s2.trans (b11.mono s2.size); clear s2 tk)
              | (have tk := HK9; obtain ⟨_, s2⟩ := (show True ∧ Below w8.heap.size w8 _ by assumption); (with_reducible refine step_append_own_at (by simp [Region.wanted, yielded, Act.put]) _ _ 59 rfl w8.heap.size 44 i0 _ 57 632 Try.underlying59 hinf hz0 hz1 hz2 rfl (by decide) v1 (0 + j) ([] ++ (prow scs).take (j * 57)) rfl o1 A2 (T.length - j1) (c5 - j1) ((prow scs).drop (j1 * 57)) rfl HN.out.2.2.2.1 (HN.out.2.1 _ s2) HN.out.2.2.2.2.2.1 (by have := HN.out.2.2.2.2.2.2.2; omega) (by omega) s2.size ?_); intro v2 w11 o2 g2 hv2; have K11 := s2.grown g2 s2.size hk1; have HO : Hid (elemP.RdL (fun _ => True) w11 (.slice A9 (T.eraseIdx j).length c9) (T.eraseIdx j) ∧ elemP.RdL (fun _ => True) w11 v2 (T.eraseIdx j)) := Lib.hid ⟨HK9.out w11 g2, (H8.out.row.erased (n := 0 + j + (T.length - j1)) (by have := H8.out.below.size; have := HB3.out.1.size; omega) HJ.out K11 (by have := HN.out.2.2.2.2.2.2.1; have := HJ.out; omega) (by rw [← HN.out.2.2.2.2.2.2.1]; simpa using o2)).rdL⟩; clear s2 tk)
              | (have tk := b9; obtain ⟨_, s2⟩ := (show True ∧ Below w8.heap.size w8 _ by assumption); have hw1 : (w9.alloc (.cells #[] 44)).heap[w9.heap.size]? = some (.cells #[] 44 (0, 0)) := heap_alloc_new w9 _; have ho1 := own0 hw1 K9.size; (with_reducible refine step_append_own_at (by simp [Region.wanted, yielded, Act.put]) _ _ 59 rfl w8.heap.size 44 i0 _ 57 632 Try.underlying59 hinf hz0 hz1 hz2 rfl (by decide) (.slice (some ⟨w9.heap.size, 0, none⟩) 0 0) 0 [] rfl ho1 ⟨b, 0, none⟩ j c5 ((prow scs).take (j * 57)) rfl HN.out.2.2.1 (HN.out.1 _ s2) HN.out.2.2.2.2.1 (by have := HN.out.2.2.2.2.2.2.2; omega) (by omega) s2.size ?_); intro v1 w10 o1 g1 hv1; have K10 := s2.grown g1 s2.size (fun k hk => own_eq_ge hk K9.size); have hv1' : v1.ownBlock = some w9.heap.size ∨ v1.ownBlock = some (w9.alloc (.cells #[] 44)).heap.size := hv1; have hk1 : ∀ k, v1.ownBlock = some k → w8.heap.size ≤ k := fun k hk => own_ge hv1' hk K9.size (Nat.le_trans K9.size (alloc_le w9 (.cells #[] 44))); have HK9 : Hid (∀ w11, w10.grownBy w11 v1.ownBlock → elemP.RdL (fun _ => True) w11 (.slice A9 (T.eraseIdx j).length c9) (T.eraseIdx j)) := Lib.hid (fun w11 g2 => ((hO.rdL.mono (ok' := fun b => b < w9.heap.size) (fun b hb hp => hb)).keep ⟨(Nat.le_trans (alloc_le w9 (.cells #[] 44)) (Nat.le_trans g1.size g2.size)), fun b hb hp => two_grown (alloc_le w9 (.cells #[] 44)) (fun b hb => alloc_same w9 _ b hb) g1 g2 hv1' b hb (Nat.ne_of_lt hp)⟩).mono fun _ _ _ => trivial); clear s2 tk)
              | (have tk := b9; obtain ⟨_, s2⟩ := (show True ∧ Below w8.heap.size w8 _ by assumption); have hw1 : w9.heap[w8.heap.size]? = some (.cells #[] 44 (0, 0)) := (b9.block w8.heap.size (by simp)).trans (heap_alloc_new w8 _); have ho1 := own0 hw1 (Nat.le_refl _); (with_reducible refine step_append_own_at (by simp [Region.wanted, yielded, Act.put]) _ _ 59 rfl w8.heap.size 44 i0 _ 57 632 Try.underlying59 hinf hz0 hz1 hz2 rfl (by decide) (.slice (some ⟨w8.heap.size, 0, none⟩) 0 0) 0 [] rfl ho1 ⟨b, 0, none⟩ j c5 ((prow scs).take (j * 57)) rfl HN.out.2.2.1 (HN.out.1 _ s2) HN.out.2.2.2.2.1 (by have := HN.out.2.2.2.2.2.2.2; omega) (by omega) s2.size ?_); intro v1 w10 o1 g1 hv1; have K10 := s2.grown g1 s2.size (fun k hk => own_eq_ge hk (Nat.le_refl _)); have hv1' : v1.ownBlock = some w8.heap.size ∨ v1.ownBlock = some w9.heap.size := hv1; have hk1 : ∀ k, v1.ownBlock = some k → w8.heap.size ≤ k := fun k hk => own_ge hv1' hk (Nat.le_refl _) K9.size; have HK9 : Hid (∀ w11, w10.grownBy w11 v1.ownBlock → elemP.RdL (fun _ => True) w11 (.slice A9 (T.eraseIdx j).length c9) (T.eraseIdx j)) := Lib.hid (fun w11 g2 => ((hO.rdL.mono (ok' := fun b => b ≠ w8.heap.size) (fun b hb hp => ne_of_alloc hp)).keep ⟨(Nat.le_trans (Nat.le_refl _) (Nat.le_trans g1.size g2.size)), fun b hb hp => two_grown (Nat.le_refl _) (fun _ _ => rfl) g1 g2 hv1' b hb hp⟩).mono fun _ _ _ => trivial); clear s2 tk)
              | (obtain ⟨_, s2⟩ := (show True ∧ Below w8.heap.size w8 _ by assumption); (with_reducible refine (all21 (H8.out.stay s2).net HS8.out.2 (fun x hx => (HS8.out.1 x hx).2)).mono ?_); rintro e w9 ⟨v9, cs9, rfl, hO, b9⟩; obtain ⟨A9, c9, rfl⟩ := hO.slice; have K9 := s2.trans (b9.mono s2.size); clear s2)))
            go_wp2_with fail
            refine hK.out _ _ ?_ (fun hHeldN => ?_)
            · ((try dsimp only) <;> (first | exact ⟨trivial, by assumption⟩ | exact ⟨trivial, (Below.refl _ _).drew⟩ | exact ⟨trivial, Below.alloc (And.right (by assumption)) (Below.size (And.right (by assumption))) _⟩))
            clear hHeld
            have hHeld := hHeldN
            clear hHeldN
            clear hK K
            try simp only [Act.put, List.setIfInBounds_toArray, List.set_cons_zero, List.set_cons_succ]
            refine Go.Proofs.Phase.wpAl_take' (i := 16) (by simp only [List.getElem?_toArray, List.getElem?_cons_succ, List.getElem?_cons_zero]; rfl) ?_
            refine ⟨?_, ⟨by kernel_rfl, by kernel_rfl, by kernel_rfl⟩, fun _ _ _ h => h, Or.inl ⟨by rfl, ?_⟩, by assumption, ?_⟩
            rotate_left
            · (intro w hSw; (try dsimp only at hSw); go_simp; with_reducible rfl)
            try simp only [Act.put, List.setIfInBounds_toArray, List.set_cons_zero, List.set_cons_succ]
            refine Go.Proofs.Phase.wpAl_take' (i := 17) (by simp only [List.getElem?_toArray, List.getElem?_cons_succ, List.getElem?_cons_zero]; rfl) ?_
            refine ⟨?_, ⟨by kernel_rfl, by kernel_rfl, by kernel_rfl⟩, fun _ _ _ h => h, Or.inl ⟨by rfl, ?_⟩, by assumption, ?_⟩
            rotate_left
            · (intro w hSw; (try dsimp only at hSw); go_simp; with_reducible rfl)
            try simp only [Act.put, List.setIfInBounds_toArray, List.set_cons_zero, List.set_cons_succ]
            refine Go.Proofs.Phase.wpAl_before (i := 18) (by kernel_rfl) (by simp only [List.getElem?_toArray, List.getElem?_cons_succ, List.getElem?_cons_zero]; rfl) (fun K hK => ?_)
            go_simp
            ((first
              | ((with_reducible refine (alive12 _).mono ?_); rintro e w12 ⟨rfl, b12⟩; obtain ⟨_, s2⟩ := (show True ∧ Below w8.heap.size w8 _ by assumption); have K12 := s2.trans (b12.mono s2.size); clear s2)
              | (have tk := g2; obtain ⟨_, s2⟩ := (show True ∧ Below w8.heap.size w8 _ by assumption); (with_reducible refine (same22 (.slice A9 (T.eraseIdx j).length c9) v2 (T.eraseIdx j) _ HO.out.1 HO.out.2 (Nat.le_trans HS8.out.2 (by decide)) (fun x hx => (HS8.out.1 x hx).1) (fun x hx => (HS8.out.1 x hx).2)).mono ?_); rintro e w11 ⟨rfl, b11⟩; have K11 := s2.trans (b11.mono s2.size); clear s2 tk)
              | (have tk := HK9; obtain ⟨_, s2⟩ := (show True ∧ Below w8.heap.size w8 _ by assumption); (with_reducible refine step_append_own_at (by simp [Region.wanted, yielded, Act.put]) _ _ 59 rfl w8.heap.size 44 i0 _ 57 632 Try.underlying59 hinf hz0 hz1 hz2 rfl (by decide) v1 (0 + j) ([] ++ (prow scs).take (j * 57)) rfl o1 A2 (T.length - j1) (c5 - j1) ((prow scs).drop (j1 * 57)) rfl HN.out.2.2.2.1 (HN.out.2.1 _ s2) HN.out.2.2.2.2.2.1 (by have := HN.out.2.2.2.2.2.2.2; omega) (by omega) s2.size ?_); intro v2 w11 o2 g2 hv2; have K11 := s2.grown g2 s2.size hk1; have HO : Hid (elemP.RdL (fun _ => True) w11 (.slice A9 (T.eraseIdx j).length c9) (T.eraseIdx j) ∧ elemP.RdL (fun _ => True) w11 v2 (T.eraseIdx j)) := Lib.hid ⟨HK9.out w11 g2, (H8.out.row.erased (n := 0 + j + (T.length - j1)) (by have := H8.out.below.size; have := HB3.out.1.size; omega) HJ.out K11 (by have := HN.out.2.2.2.2.2.2.1; have := HJ.out; omega) (by rw [← HN.out.2.2.2.2.2.2.1]; simpa using o2)).rdL⟩; clear s2 tk)
              | (have tk := b9; obtain ⟨_, s2⟩ := (show True ∧ Below w8.heap.size w8 _ by assumption); have hw1 : (w9.alloc (.cells #[] 44)).heap[w9.heap.size]? = some (.cells #[] 44 (0, 0)) := heap_alloc_new w9 _; have ho1 := own0 hw1 K9.size; (with_reducible refine step_append_own_at (by simp [Region.wanted, yielded, Act.put]) _ _ 59 rfl w8.heap.size 44 i0 _ 57 632 Try.underlying59 hinf hz0 hz1 hz2 rfl (by decide) (.slice (some ⟨w9.heap.size, 0, none⟩) 0 0) 0 [] rfl ho1 ⟨b, 0, none⟩ j c5 ((prow scs).take (j * 57)) rfl HN.out.2.2.1 (HN.out.1 _ s2) HN.out.2.2.2.2.1 (by have := HN.out.2.2.2.2.2.2.2; omega) (by omega) s2.size ?_); intro v1 w10 o1 g1 hv1; have K10 := s2.grown g1 s2.size (fun k hk => own_eq_ge hk K9.size); have hv1' : v1.ownBlock = some w9.heap.size ∨ v1.ownBlock = some (w9.alloc (.cells #[] 44)).heap.size := hv1; have hk1 : ∀ k, v1.ownBlock = some k → w8.heap.size ≤ k := fun k hk => own_ge hv1' hk K9.size (Nat.le_trans K9.size (alloc_le w9 (.cells #[] 44))); have HK9 : Hid (∀ w11, w10.grownBy w11 v1.ownBlock → elemP.RdL (fun _ => True) w11 (.slice A9 (T.eraseIdx j).length c9) (T.eraseIdx j)) := Lib.hid (fun w11 g2 => ((hO.rdL.mono (ok' := fun b => b < w9.heap.size) (fun b hb hp => hb)).keep ⟨(Nat.le_trans (alloc_le w9 (.cells #[] 44)) (Nat.le_trans g1.size g2.size)), fun b hb hp => two_grown (alloc_le w9 (.cells #[] 44)) (fun b hb => alloc_same w9 _ b hb) g1 g2 hv1' b hb (Nat.ne_of_lt hp)⟩).mono fun _ _ _ => trivial); clear s2 tk)
              | (have tk := b9; obtain ⟨_, s2⟩ := (show True ∧ Below w8.heap.size w8 _ by assumption); have hw1 : w9.heap[w8.heap.size]? = some (.cells #[] 44 (0, 0)) := (b9.block w8.heap.size (by simp)).trans (heap_alloc_new w8 _); have ho1 := own0 hw1 (Nat.le_refl _); (with_reducible refine step_append_own_at (by simp [Region.wanted, yielded, Act.put]) _ _ 59 rfl w8.heap.size 44 i0 _ 57 632 Try.underlying59 hinf hz0 hz1 hz2 rfl (by decide) (.slice (some ⟨w8.heap.size, 0, none⟩) 0 0) 0 [] rfl ho1 ⟨b, 0, none⟩ j c5 ((prow scs).take (j * 57)) rfl HN.out.2.2.1 (HN.out.1 _ s2) HN.out.2.2.2.2.1 (by have := HN.out.2.2.2.2.2.2.2; omega) (by omega) s2.size ?_); intro v1 w10 o1 g1 hv1; have K10 := s2.grown g1 s2.size (fun k hk => own_eq_ge hk (Nat.le_refl _)); have hv1' : v1.ownBlock = some w8.heap.size ∨ v1.ownBlock = some w9.heap.size := hv1; have hk1 : ∀ k, v1.ownBlock = some k → w8.heap.size ≤ k := fun k hk => own_ge hv1' hk (Nat.le_refl _) K9.size; have HK9 : Hid (∀ w11, w10.grownBy w11 v1.ownBlock → elemP.RdL (fun _ => True) w11 (.slice A9 (T.eraseIdx j).length c9) (T.eraseIdx j)) := Lib.hid (fun w11 g2 => ((hO.rdL.mono (ok' := fun b => b ≠ w8.heap.size) (fun b hb hp => ne_of_alloc hp)).keep ⟨(Nat.le_trans (Nat.le_refl _) (Nat.le_trans g1.size g2.size)), fun b hb hp => two_grown (Nat.le_refl _) (fun _ _ => rfl) g1 g2 hv1' b hb hp⟩).mono fun _ _ _ => trivial); clear s2 tk)
              | (obtain ⟨_, s2⟩ := (show True ∧ Below w8.heap.size w8 _ by assumption); (with_reducible refine (all21 (H8.out.stay s2).net HS8.out.2 (fun x hx => (HS8.out.1 x hx).2)).mono ?_); rintro e w9 ⟨v9, cs9, rfl, hO, b9⟩; obtain ⟨A9, c9, rfl⟩ := hO.slice; have K9 := s2.trans (b9.mono s2.size); clear s2)))
            go_wp2_with fail
            refine hK.out _ _ ?_ (fun hHeldN => ?_)
            · ((try dsimp only) <;> (first | exact ⟨trivial, by assumption⟩ | exact ⟨trivial, (Below.refl _ _).drew⟩ | exact ⟨trivial, Below.alloc (And.right (by assumption)) (Below.size (And.right (by assumption))) _⟩))
            clear hHeld
            have hHeld := hHeldN
            clear hHeldN
            clear hK K
            try simp only [Act.put, List.setIfInBounds_toArray, List.set_cons_zero, List.set_cons_succ]
            refine Go.Proofs.Phase.wpAl_take' (i := 19) (by simp only [List.getElem?_toArray, List.getElem?_cons_succ, List.getElem?_cons_zero]; rfl) ?_
            refine ⟨?_, ⟨by kernel_rfl, by kernel_rfl, by kernel_rfl⟩, fun _ _ _ h => h, Or.inl ⟨by rfl, ?_⟩, by assumption, ?_⟩
            rotate_left
            · (intro w hSw; (try dsimp only at hSw); go_simp; with_reducible rfl)
            try simp only [Act.put, List.setIfInBounds_toArray, List.set_cons_zero, List.set_cons_succ]
            refine Go.Proofs.Phase.wpAl_take' (i := 20) (by simp only [List.getElem?_toArray, List.getElem?_cons_succ, List.getElem?_cons_zero]; rfl) ?_
            refine ⟨?_, ⟨by kernel_rfl, by kernel_rfl, by kernel_rfl⟩, fun _ _ _ h => h, Or.inl ⟨by rfl, ?_⟩, by assumption, ?_⟩
            rotate_left
            · (intro w hSw; (try dsimp only at hSw); go_simp; with_reducible rfl)
            try simp only [Act.put, List.setIfInBounds_toArray, List.set_cons_zero, List.set_cons_succ]
            refine Go.Proofs.Phase.wpAl_done (by kernel_rfl) ?_ _
            all_goals (
              have hb8 := H8.out.below
              have s1 := HB3.out.1.size
              have s3 := hb8.size
              have HF := Lib.hid (((HB3.out.1.trans (hb8.mono s1))).trans (K12.mono (Nat.le_trans s1 s3)))
              clear hb8 s1 s3 K12 K9 K10 K11 HO HK9 o1 o2 g1 g2 hv1 hv2 hk1 hO
              go_wp2_with fail
              go_ret
              exact ⟨rfl, HF.out⟩)
          · skip
            go_simp
            refine hK.out _ _ ?_ (fun hHeldN => ?_)
            · ((try dsimp only) <;> (first | exact ⟨trivial, by assumption⟩ | exact ⟨trivial, (Below.refl _ _).drew⟩ | exact ⟨trivial, Below.alloc (And.right (by assumption)) (Below.size (And.right (by assumption))) _⟩))
            clear hHeld
            have hHeld := hHeldN
            clear hHeldN
            clear hK K
            try simp only [Act.put, List.setIfInBounds_toArray, List.set_cons_zero, List.set_cons_succ]
            refine Go.Proofs.Phase.wpAl_before (i := 4) (by kernel_rfl) (by simp only [List.getElem?_toArray, List.getElem?_cons_succ, List.getElem?_cons_zero]; rfl) (fun K hK => ?_)
            go_simp
            ((first
              | ((with_reducible refine (alive12 _).mono ?_); rintro e w12 ⟨rfl, b12⟩; obtain ⟨_, s2⟩ := (show True ∧ Below w8.heap.size w8 _ by assumption); have K12 := s2.trans (b12.mono s2.size); clear s2)
              | (have tk := g2; obtain ⟨_, s2⟩ := (show True ∧ Below w8.heap.size w8 _ by assumption); (with_reducible refine (same22 (.slice A9 (T.eraseIdx j).length c9) v2 (T.eraseIdx j) _ HO.out.1 HO.out.2 (Nat.le_trans HS8.out.2 (by decide)) (fun x hx => (HS8.out.1 x hx).1) (fun x hx => (HS8.out.1 x hx).2)).mono ?_); rintro e w11 ⟨rfl, b11⟩; have K11 := s2.trans (b11.mono s2.size); clear s2 tk)
              | (have tk := HK9; obtain ⟨_, s2⟩ := (show True ∧ Below w8.heap.size w8 _ by assumption); (with_reducible refine step_append_own_at (by simp [Region.wanted, yielded, Act.put]) _ _ 59 rfl w8.heap.size 44 i0 _ 57 632 Try.underlying59 hinf hz0 hz1 hz2 rfl (by decide) v1 (0 + j) ([] ++ (prow scs).take (j * 57)) rfl o1 A2 (T.length - j1) (c5 - j1) ((prow scs).drop (j1 * 57)) rfl HN.out.2.2.2.1 (HN.out.2.1 _ s2) HN.out.2.2.2.2.2.1 (by have := HN.out.2.2.2.2.2.2.2; omega) (by omega) s2.size ?_); intro v2 w11 o2 g2 hv2; have K11 := s2.grown g2 s2.size hk1; have HO : Hid (elemP.RdL (fun _ => True) w11 (.slice A9 (T.eraseIdx j).length c9) (T.eraseIdx j) ∧ elemP.RdL (fun _ => True) w11 v2 (T.eraseIdx j)) := Lib.hid ⟨HK9.out w11 g2, (H8.out.row.erased (n := 0 + j + (T.length - j1)) (by have := H8.out.below.size; have := HB3.out.1.size; omega) HJ.out K11 (by have := HN.out.2.2.2.2.2.2.1; have := HJ.out; omega) (by rw [← HN.out.2.2.2.2.2.2.1]; simpa using o2)).rdL⟩; clear s2 tk)
              | (have tk := b9; obtain ⟨_, s2⟩ := (show True ∧ Below w8.heap.size w8 _ by assumption); have hw1 : (w9.alloc (.cells #[] 44)).heap[w9.heap.size]? = some (.cells #[] 44 (0, 0)) := heap_alloc_new w9 _; have ho1 := own0 hw1 K9.size; (with_reducible refine step_append_own_at (by simp [Region.wanted, yielded, Act.put]) _ _ 59 rfl w8.heap.size 44 i0 _ 57 632 Try.underlying59 hinf hz0 hz1 hz2 rfl (by decide) (.slice (some ⟨w9.heap.size, 0, none⟩) 0 0) 0 [] rfl ho1 ⟨b, 0, none⟩ j c5 ((prow scs).take (j * 57)) rfl HN.out.2.2.1 (HN.out.1 _ s2) HN.out.2.2.2.2.1 (by have := HN.out.2.2.2.2.2.2.2; omega) (by omega) s2.size ?_); intro v1 w10 o1 g1 hv1; have K10 := s2.grown g1 s2.size (fun k hk => own_eq_ge hk K9.size); have hv1' : v1.ownBlock = some w9.heap.size ∨ v1.ownBlock = some (w9.alloc (.cells #[] 44)).heap.size := hv1; have hk1 : ∀ k, v1.ownBlock = some k → w8.heap.size ≤ k := fun k hk => own_ge hv1' hk K9.size (Nat.le_trans K9.size (alloc_le w9 (.cells #[] 44))); have HK9 : Hid (∀ w11, w10.grownBy w11 v1.ownBlock → elemP.RdL (fun _ => True) w11 (.slice A9 (T.eraseIdx j).length c9) (T.eraseIdx j)) := Lib.hid (fun w11 g2 => ((hO.rdL.mono (ok' := fun b => b < w9.heap.size) (fun b hb hp => hb)).keep ⟨(Nat.le_trans (alloc_le w9 (.cells #[] 44)) (Nat.le_trans g1.size g2.size)), fun b hb hp => two_grown (alloc_le w9 (.cells #[] 44)) (fun b hb => alloc_same w9 _ b hb) g1 g2 hv1' b hb (Nat.ne_of_lt hp)⟩).mono fun _ _ _ => trivial); clear s2 tk)
              | (have tk := b9; obtain ⟨_, s2⟩ := (show True ∧ Below w8.heap.size w8 _ by assumption); have hw1 : w9.heap[w8.heap.size]? = some (.cells #[] 44 (0, 0)) := (b9.block w8.heap.size (by simp)).trans (heap_alloc_new w8 _); have ho1 := own0 hw1 (Nat.le_refl _); (with_reducible refine step_append_own_at (by simp [Region.wanted, yielded, Act.put]) _ _ 59 rfl w8.heap.size 44 i0 _ 57 632 Try.underlying59 hinf hz0 hz1 hz2 rfl (by decide) (.slice (some ⟨w8.heap.size, 0, none⟩) 0 0) 0 [] rfl ho1 ⟨b, 0, none⟩ j c5 ((prow scs).take (j * 57)) rfl HN.out.2.2.1 (HN.out.1 _ s2) HN.out.2.2.2.2.1 (by have := HN.out.2.2.2.2.2.2.2; omega) (by omega) s2.size ?_); intro v1 w10 o1 g1 hv1; have K10 := s2.grown g1 s2.size (fun k hk => own_eq_ge hk (Nat.le_refl _)); have hv1' : v1.ownBlock = some w8.heap.size ∨ v1.ownBlock = some w9.heap.size := hv1; have hk1 : ∀ k, v1.ownBlock = some k → w8.heap.size ≤ k := fun k hk => own_ge hv1' hk (Nat.le_refl _) K9.size; have HK9 : Hid (∀ w11, w10.grownBy w11 v1.ownBlock → elemP.RdL (fun _ => True) w11 (.slice A9 (T.eraseIdx j).length c9) (T.eraseIdx j)) := Lib.hid (fun w11 g2 => ((hO.rdL.mono (ok' := fun b => b ≠ w8.heap.size) (fun b hb hp => ne_of_alloc hp)).keep ⟨(Nat.le_trans (Nat.le_refl _) (Nat.le_trans g1.size g2.size)), fun b hb hp => two_grown (Nat.le_refl _) (fun _ _ => rfl) g1 g2 hv1' b hb hp⟩).mono fun _ _ _ => trivial); clear s2 tk)
              | (obtain ⟨_, s2⟩ := (show True ∧ Below w8.heap.size w8 _ by assumption); (with_reducible refine (all21 (H8.out.stay s2).net HS8.out.2 (fun x hx => (HS8.out.1 x hx).2)).mono ?_); rintro e w9 ⟨v9, cs9, rfl, hO, b9⟩; obtain ⟨A9, c9, rfl⟩ := hO.slice; have K9 := s2.trans (b9.mono s2.size); clear s2)))
            go_wp2_with fail
            refine hK.out _ _ ?_ (fun hHeldN => ?_)
            · ((try dsimp only) <;> (first | exact ⟨trivial, by assumption⟩ | exact ⟨trivial, (Below.refl _ _).drew⟩ | exact ⟨trivial, Below.alloc (And.right (by assumption)) (Below.size (And.right (by assumption))) _⟩))
            clear hHeld
            have hHeld := hHeldN
            clear hHeldN
            clear hK K
            try simp only [Act.put, List.setIfInBounds_toArray, List.set_cons_zero, List.set_cons_succ]
            refine Go.Proofs.Phase.wpAl_before (i := 9) (by kernel_rfl) (by simp only [List.getElem?_toArray, List.getElem?_cons_succ, List.getElem?_cons_zero]; rfl) (fun K hK => ?_)
            ((first
              | ((with_reducible refine (alive12 _).mono ?_); rintro e w12 ⟨rfl, b12⟩; obtain ⟨_, s2⟩ := (show True ∧ Below w8.heap.size w8 _ by assumption); have K12 := s2.trans (b12.mono s2.size); clear s2)
              | (have tk := g2; obtain ⟨_, s2⟩ := (show True ∧ Below w8.heap.size w8 _ by assumption); (with_reducible refine (same22 (.slice A9 (T.eraseIdx j).length c9) v2 (T.eraseIdx j) _ HO.out.1 HO.out.2 (Nat.le_trans HS8.out.2 (by decide)) (fun x hx => (HS8.out.1 x hx).1) (fun x hx => (HS8.out.1 x hx).2)).mono ?_); rintro e w11 ⟨rfl, b11⟩; have K11 := s2.trans (b11.mono s2.size); clear s2 tk)
              | (have tk := HK9; obtain ⟨_, s2⟩ := (show True ∧ Below w8.heap.size w8 _ by assumption); (with_reducible refine step_append_own_at (by simp [Region.wanted, yielded, Act.put]) _ _ 59 rfl w8.heap.size 44 i0 _ 57 632 Try.underlying59 hinf hz0 hz1 hz2 rfl (by decide) v1 (0 + j) ([] ++ (prow scs).take (j * 57)) rfl o1 A2 (T.length - j1) (c5 - j1) ((prow scs).drop (j1 * 57)) rfl HN.out.2.2.2.1 (HN.out.2.1 _ s2) HN.out.2.2.2.2.2.1 (by have := HN.out.2.2.2.2.2.2.2; omega) (by omega) s2.size ?_); intro v2 w11 o2 g2 hv2; have K11 := s2.grown g2 s2.size hk1; have HO : Hid (elemP.RdL (fun _ => True) w11 (.slice A9 (T.eraseIdx j).length c9) (T.eraseIdx j) ∧ elemP.RdL (fun _ => True) w11 v2 (T.eraseIdx j)) := Lib.hid ⟨HK9.out w11 g2, (H8.out.row.erased (n := 0 + j + (T.length - j1)) (by have := H8.out.below.size; have := HB3.out.1.size; omega) HJ.out K11 (by have := HN.out.2.2.2.2.2.2.1; have := HJ.out; omega) (by rw [← HN.out.2.2.2.2.2.2.1]; simpa using o2)).rdL⟩; clear s2 tk)
              | (have tk := b9; obtain ⟨_, s2⟩ := (show True ∧ Below w8.heap.size w8 _ by assumption); have hw1 : (w9.alloc (.cells #[] 44)).heap[w9.heap.size]? = some (.cells #[] 44 (0, 0)) := heap_alloc_new w9 _; have ho1 := own0 hw1 K9.size; (with_reducible refine step_append_own_at (by simp [Region.wanted, yielded, Act.put]) _ _ 59 rfl w8.heap.size 44 i0 _ 57 632 Try.underlying59 hinf hz0 hz1 hz2 rfl (by decide) (.slice (some ⟨w9.heap.size, 0, none⟩) 0 0) 0 [] rfl ho1 ⟨b, 0, none⟩ j c5 ((prow scs).take (j * 57)) rfl HN.out.2.2.1 (HN.out.1 _ s2) HN.out.2.2.2.2.1 (by have := HN.out.2.2.2.2.2.2.2; omega) (by omega) s2.size ?_); intro v1 w10 o1 g1 hv1; have K10 := s2.grown g1 s2.size (fun k hk => own_eq_ge hk K9.size); have hv1' : v1.ownBlock = some w9.heap.size ∨ v1.ownBlock = some (w9.alloc (.cells #[] 44)).heap.size := hv1; have hk1 : ∀ k, v1.ownBlock = some k → w8.heap.size ≤ k := fun k hk => own_ge hv1' hk K9.size (Nat.le_trans K9.size (alloc_le w9 (.cells #[] 44))); have HK9 : Hid (∀ w11, w10.grownBy w11 v1.ownBlock → elemP.RdL (fun _ => True) w11 (.slice A9 (T.eraseIdx j).length c9) (T.eraseIdx j)) := Lib.hid (fun w11 g2 => ((hO.rdL.mono (ok' := fun b => b < w9.heap.size) (fun b hb hp => hb)).keep ⟨(Nat.le_trans (alloc_le w9 (.cells #[] 44)) (Nat.le_trans g1.size g2.size)), fun b hb hp => two_grown (alloc_le w9 (.cells #[] 44)) (fun b hb => alloc_same w9 _ b hb) g1 g2 hv1' b hb (Nat.ne_of_lt hp)⟩).mono fun _ _ _ => trivial); clear s2 tk)
              | (have tk := b9; obtain ⟨_, s2⟩ := (show True ∧ Below w8.heap.size w8 _ by assumption); have hw1 : w9.heap[w8.heap.size]? = some (.cells #[] 44 (0, 0)) := (b9.block w8.heap.size (by simp)).trans (heap_alloc_new w8 _); have ho1 := own0 hw1 (Nat.le_refl _); (with_reducible refine step_append_own_at (by simp [Region.wanted, yielded, Act.put]) _ _ 59 rfl w8.heap.size 44 i0 _ 57 632 Try.underlying59 hinf hz0 hz1 hz2 rfl (by decide) (.slice (some ⟨w8.heap.size, 0, none⟩) 0 0) 0 [] rfl ho1 ⟨b, 0, none⟩ j c5 ((prow scs).take (j * 57)) rfl HN.out.2.2.1 (HN.out.1 _ s2) HN.out.2.2.2.2.1 (by have := HN.out.2.2.2.2.2.2.2; omega) (by omega) s2.size ?_); intro v1 w10 o1 g1 hv1; have K10 := s2.grown g1 s2.size (fun k hk => own_eq_ge hk (Nat.le_refl _)); have hv1' : v1.ownBlock = some w8.heap.size ∨ v1.ownBlock = some w9.heap.size := hv1; have hk1 : ∀ k, v1.ownBlock = some k → w8.heap.size ≤ k := fun k hk => own_ge hv1' hk (Nat.le_refl _) K9.size; have HK9 : Hid (∀ w11, w10.grownBy w11 v1.ownBlock → elemP.RdL (fun _ => True) w11 (.slice A9 (T.eraseIdx j).length c9) (T.eraseIdx j)) := Lib.hid (fun w11 g2 => ((hO.rdL.mono (ok' := fun b => b ≠ w8.heap.size) (fun b hb hp => ne_of_alloc hp)).keep ⟨(Nat.le_trans (Nat.le_refl _) (Nat.le_trans g1.size g2.size)), fun b hb hp => two_grown (Nat.le_refl _) (fun _ _ => rfl) g1 g2 hv1' b hb hp⟩).mono fun _ _ _ => trivial); clear s2 tk)
              | (obtain ⟨_, s2⟩ := (show True ∧ Below w8.heap.size w8 _ by assumption); (with_reducible refine (all21 (H8.out.stay s2).net HS8.out.2 (fun x hx => (HS8.out.1 x hx).2)).mono ?_); rintro e w9 ⟨v9, cs9, rfl, hO, b9⟩; obtain ⟨A9, c9, rfl⟩ := hO.slice; have K9 := s2.trans (b9.mono s2.size); clear s2)))
            refine hK.out _ _ ?_ (fun hHeldN => ?_)
            · ((try dsimp only) <;> (first | exact ⟨trivial, by assumption⟩ | exact ⟨trivial, (Below.refl _ _).drew⟩ | exact ⟨trivial, Below.alloc (And.right (by assumption)) (Below.size (And.right (by assumption))) _⟩))
            clear hHeld
            have hHeld := hHeldN
            clear hHeldN
            clear hK K
            try simp only [Act.put, List.setIfInBounds_toArray, List.set_cons_zero, List.set_cons_succ]
            refine Go.Proofs.Phase.wpAl_before (i := 14) (by kernel_rfl) (by simp only [List.getElem?_toArray, List.getElem?_cons_succ, List.getElem?_cons_zero]; rfl) (fun K hK => ?_)
            ((first
              | ((with_reducible refine (alive12 _).mono ?_); rintro e w12 ⟨rfl, b12⟩; obtain ⟨_, s2⟩ := (show True ∧ Below w8.heap.size w8 _ by assumption); have K12 := s2.trans (b12.mono s2.size); clear s2)
              | (have tk := g2; obtain ⟨_, s2⟩ := (show True ∧ Below w8.heap.size w8 _ by assumption); (with_reducible refine (same22 (.slice A9 (T.eraseIdx j).length c9) v2 (T.eraseIdx j) _ HO.out.1 HO.out.2 (Nat.le_trans HS8.out.2 (by decide)) (fun x hx => (HS8.out.1 x hx).1) (fun x hx => (HS8.out.1 x hx).2)).mono ?_); rintro e w11 ⟨rfl, b11⟩; have K11 := s2.trans (b11.mono s2.size); clear s2 tk)
              | (have tk := HK9; obtain ⟨_, s2⟩ := (show True ∧ Below w8.heap.size w8 _ by assumption); (with_reducible refine step_append_own_at (by simp [Region.wanted, yielded, Act.put]) _ _ 59 rfl w8.heap.size 44 i0 _ 57 632 Try.underlying59 hinf hz0 hz1 hz2 rfl (by decide) v1 (0 + j) ([] ++ (prow scs).take (j * 57)) rfl o1 A2 (T.length - j1) (c5 - j1) ((prow scs).drop (j1 * 57)) rfl HN.out.2.2.2.1 (HN.out.2.1 _ s2) HN.out.2.2.2.2.2.1 (by have := HN.out.2.2.2.2.2.2.2; omega) (by omega) s2.size ?_); intro v2 w11 o2 g2 hv2; have K11 := s2.grown g2 s2.size hk1; have HO : Hid (elemP.RdL (fun _ => True) w11 (.slice A9 (T.eraseIdx j).length c9) (T.eraseIdx j) ∧ elemP.RdL (fun _ => True) w11 v2 (T.eraseIdx j)) := Lib.hid ⟨HK9.out w11 g2, (H8.out.row.erased (n := 0 + j + (T.length - j1)) (by have := H8.out.below.size; have := HB3.out.1.size; omega) HJ.out K11 (by have := HN.out.2.2.2.2.2.2.1; have := HJ.out; omega) (by rw [← HN.out.2.2.2.2.2.2.1]; simpa using o2)).rdL⟩; clear s2 tk)
              | (have tk := b9; obtain ⟨_, s2⟩ := (show True ∧ Below w8.heap.size w8 _ by assumption); have hw1 : (w9.alloc (.cells #[] 44)).heap[w9.heap.size]? = some (.cells #[] 44 (0, 0)) := heap_alloc_new w9 _; have ho1 := own0 hw1 K9.size; (with_reducible refine step_append_own_at (by simp [Region.wanted, yielded, Act.put]) _ _ 59 rfl w8.heap.size 44 i0 _ 57 632 Try.underlying59 hinf hz0 hz1 hz2 rfl (by decide) (.slice (some ⟨w9.heap.size, 0, none⟩) 0 0) 0 [] rfl ho1 ⟨b, 0, none⟩ j c5 ((prow scs).take (j * 57)) rfl HN.out.2.2.1 (HN.out.1 _ s2) HN.out.2.2.2.2.1 (by have := HN.out.2.2.2.2.2.2.2; omega) (by omega) s2.size ?_); intro v1 w10 o1 g1 hv1; have K10 := s2.grown g1 s2.size (fun k hk => own_eq_ge hk K9.size); have hv1' : v1.ownBlock = some w9.heap.size ∨ v1.ownBlock = some (w9.alloc (.cells #[] 44)).heap.size := hv1; have hk1 : ∀ k, v1.ownBlock = some k → w8.heap.size ≤ k := fun k hk => own_ge hv1' hk K9.size (Nat.le_trans K9.size (alloc_le w9 (.cells #[] 44))); have HK9 : Hid (∀ w11, w10.grownBy w11 v1.ownBlock → elemP.RdL (fun _ => True) w11 (.slice A9 (T.eraseIdx j).length c9) (T.eraseIdx j)) := Lib.hid (fun w11 g2 => ((hO.rdL.mono (ok' := fun b => b < w9.heap.size) (fun b hb hp => hb)).keep ⟨(Nat.le_trans (alloc_le w9 (.cells #[] 44)) (Nat.le_trans g1.size g2.size)), fun b hb hp => two_grown (alloc_le w9 (.cells #[] 44)) (fun b hb => alloc_same w9 _ b hb) g1 g2 hv1' b hb (Nat.ne_of_lt hp)⟩).mono fun _ _ _ => trivial); clear s2 tk)
              | (have tk := b9; obtain ⟨_, s2⟩ := (show True ∧ Below w8.heap.size w8 _ by assumption); have hw1 : w9.heap[w8.heap.size]? = some (.cells #[] 44 (0, 0)) := (b9.block w8.heap.size (by simp)).trans (heap_alloc_new w8 _); have ho1 := own0 hw1 (Nat.le_refl _); (with_reducible refine step_append_own_at (by simp [Region.wanted, yielded, Act.put]) _ _ 59 rfl w8.heap.size 44 i0 _ 57 632 Try.underlying59 hinf hz0 hz1 hz2 rfl (by decide) (.slice (some ⟨w8.heap.size, 0, none⟩) 0 0) 0 [] rfl ho1 ⟨b, 0, none⟩ j c5 ((prow scs).take (j * 57)) rfl HN.out.2.2.1 (HN.out.1 _ s2) HN.out.2.2.2.2.1 (by have := HN.out.2.2.2.2.2.2.2; omega) (by omega) s2.size ?_); intro v1 w10 o1 g1 hv1; have K10 := s2.grown g1 s2.size (fun k hk => own_eq_ge hk (Nat.le_refl _)); have hv1' : v1.ownBlock = some w8.heap.size ∨ v1.ownBlock = some w9.heap.size := hv1; have hk1 : ∀ k, v1.ownBlock = some k → w8.heap.size ≤ k := fun k hk => own_ge hv1' hk (Nat.le_refl _) K9.size; have HK9 : Hid (∀ w11, w10.grownBy w11 v1.ownBlock → elemP.RdL (fun _ => True) w11 (.slice A9 (T.eraseIdx j).length c9) (T.eraseIdx j)) := Lib.hid (fun w11 g2 => ((hO.rdL.mono (ok' := fun b => b ≠ w8.heap.size) (fun b hb hp => ne_of_alloc hp)).keep ⟨(Nat.le_trans (Nat.le_refl _) (Nat.le_trans g1.size g2.size)), fun b hb hp => two_grown (Nat.le_refl _) (fun _ _ => rfl) g1 g2 hv1' b hb hp⟩).mono fun _ _ _ => trivial); clear s2 tk)
              | (obtain ⟨_, s2⟩ := (show True ∧ Below w8.heap.size w8 _ by assumption); (with_reducible refine (all21 (H8.out.stay s2).net HS8.out.2 (fun x hx => (HS8.out.1 x hx).2)).mono ?_); rintro e w9 ⟨v9, cs9, rfl, hO, b9⟩; obtain ⟨A9, c9, rfl⟩ := hO.slice; have K9 := s2.trans (b9.mono s2.size); clear s2)))
            refine hK.out _ _ ?_ (fun hHeldN => ?_)
            · ((try dsimp only) <;> (first | exact ⟨trivial, by assumption⟩ | exact ⟨trivial, (Below.refl _ _).drew⟩ | exact ⟨trivial, Below.alloc (And.right (by assumption)) (Below.size (And.right (by assumption))) _⟩))
            clear hHeld
            have hHeld := hHeldN
            clear hHeldN
            clear hK K
            try simp only [Act.put, List.setIfInBounds_toArray, List.set_cons_zero, List.set_cons_succ]
            refine Go.Proofs.Phase.wpAl_before (i := 15) (by kernel_rfl) (by simp only [List.getElem?_toArray, List.getElem?_cons_succ, List.getElem?_cons_zero]; rfl) (fun K hK => ?_)
            go_simp
            ((first
              | ((with_reducible refine (alive12 _).mono ?_); rintro e w12 ⟨rfl, b12⟩; obtain ⟨_, s2⟩ := (show True ∧ Below w8.heap.size w8 _ by assumption); have K12 := s2.trans (b12.mono s2.size); clear s2)
              | (have tk := g2; obtain ⟨_, s2⟩ := (show True ∧ Below w8.heap.size w8 _ by assumption); (with_reducible refine (same22 (.slice A9 (T.eraseIdx j).length c9) v2 (T.eraseIdx j) _ HO.out.1 HO.out.2 (Nat.le_trans HS8.out.2 (by decide)) (fun x hx => (HS8.out.1 x hx).1) (fun x hx => (HS8.out.1 x hx).2)).mono ?_); rintro e w11 ⟨rfl, b11⟩; have K11 := s2.trans (b11.mono s2.size); clear s2 tk)
              | (have tk := HK9; obtain ⟨_, s2⟩ := (show True ∧ Below w8.heap.size w8 _ by assumption); (with_reducible refine step_append_own_at (by simp [Region.wanted, yielded, Act.put]) _ _ 59 rfl w8.heap.size 44 i0 _ 57 632 Try.underlying59 hinf hz0 hz1 hz2 rfl (by decide) v1 (0 + j) ([] ++ (prow scs).take (j * 57)) rfl o1 A2 (T.length - j1) (c5 - j1) ((prow scs).drop (j1 * 57)) rfl HN.out.2.2.2.1 (HN.out.2.1 _ s2) HN.out.2.2.2.2.2.1 (by have := HN.out.2.2.2.2.2.2.2; omega) (by omega) s2.size ?_); intro v2 w11 o2 g2 hv2; have K11 := s2.grown g2 s2.size hk1; have HO : Hid (elemP.RdL (fun _ => True) w11 (.slice A9 (T.eraseIdx j).length c9) (T.eraseIdx j) ∧ elemP.RdL (fun _ => True) w11 v2 (T.eraseIdx j)) := Lib.hid ⟨HK9.out w11 g2, (H8.out.row.erased (n := 0 + j + (T.length - j1)) (by have := H8.out.below.size; have := HB3.out.1.size; omega) HJ.out K11 (by have := HN.out.2.2.2.2.2.2.1; have := HJ.out; omega) (by rw [← HN.out.2.2.2.2.2.2.1]; simpa using o2)).rdL⟩; clear s2 tk)
              | (have tk := b9; obtain ⟨_, s2⟩ := (show True ∧ Below w8.heap.size w8 _ by assumption); have hw1 : (w9.alloc (.cells #[] 44)).heap[w9.heap.size]? = some (.cells #[] 44 (0, 0)) := heap_alloc_new w9 _; have ho1 := own0 hw1 K9.size; (with_reducible refine step_append_own_at (by simp [Region.wanted, yielded, Act.put]) _ _ 59 rfl w8.heap.size 44 i0 _ 57 632 Try.underlying59 hinf hz0 hz1 hz2 rfl (by decide) (.slice (some ⟨w9.heap.size, 0, none⟩) 0 0) 0 [] rfl ho1 ⟨b, 0, none⟩ j c5 ((prow scs).take (j * 57)) rfl HN.out.2.2.1 (HN.out.1 _ s2) HN.out.2.2.2.2.1 (by have := HN.out.2.2.2.2.2.2.2; omega) (by omega) s2.size ?_); intro v1 w10 o1 g1 hv1; have K10 := s2.grown g1 s2.size (fun k hk => own_eq_ge hk K9.size); have hv1' : v1.ownBlock = some w9.heap.size ∨ v1.ownBlock = some (w9.alloc (.cells #[] 44)).heap.size := hv1; have hk1 : ∀ k, v1.ownBlock = some k → w8.heap.size ≤ k := fun k hk => own_ge hv1' hk K9.size (Nat.le_trans K9.size (alloc_le w9 (.cells #[] 44))); have HK9 : Hid (∀ w11, w10.grownBy w11 v1.ownBlock → elemP.RdL (fun _ => True) w11 (.slice A9 (T.eraseIdx j).length c9) (T.eraseIdx j)) := Lib.hid (fun w11 g2 => ((hO.rdL.mono (ok' := fun b => b < w9.heap.size) (fun b hb hp => hb)).keep ⟨(Nat.le_trans (alloc_le w9 (.cells #[] 44)) (Nat.le_trans g1.size g2.size)), fun b hb hp => two_grown (alloc_le w9 (.cells #[] 44)) (fun b hb => alloc_same w9 _ b hb) g1 g2 hv1' b hb (Nat.ne_of_lt hp)⟩).mono fun _ _ _ => trivial); clear s2 tk)
              | (have tk := b9; obtain ⟨_, s2⟩ := (show True ∧ Below w8.heap.size w8 _ by assumption); have hw1 : w9.heap[w8.heap.size]? = some (.cells #[] 44 (0, 0)) := (b9.block w8.heap.size (by simp)).trans (heap_alloc_new w8 _); have ho1 := own0 hw1 (Nat.le_refl _); (with_reducible refine step_append_own_at (by simp [Region.wanted, yielded, Act.put]) _ _ 59 rfl w8.heap.size 44 i0 _ 57 632 Try.underlying59 hinf hz0 hz1 hz2 rfl (by decide) (.slice (some ⟨w8.heap.size, 0, none⟩) 0 0) 0 [] rfl ho1 ⟨b, 0, none⟩ j c5 ((prow scs).take (j * 57)) rfl HN.out.2.2.1 (HN.out.1 _ s2) HN.out.2.2.2.2.1 (by have := HN.out.2.2.2.2.2.2.2; omega) (by omega) s2.size ?_); intro v1 w10 o1 g1 hv1; have K10 := s2.grown g1 s2.size (fun k hk => own_eq_ge hk (Nat.le_refl _)); have hv1' : v1.ownBlock = some w8.heap.size ∨ v1.ownBlock = some w9.heap.size := hv1; have hk1 : ∀ k, v1.ownBlock = some k → w8.heap.size ≤ k := fun k hk => own_ge hv1' hk (Nat.le_refl _) K9.size; have HK9 : Hid (∀ w11, w10.grownBy w11 v1.ownBlock → elemP.RdL (fun _ => True) w11 (.slice A9 (T.eraseIdx j).length c9) (T.eraseIdx j)) := Lib.hid (fun w11 g2 => ((hO.rdL.mono (ok' := fun b => b ≠ w8.heap.size) (fun b hb hp => ne_of_alloc hp)).keep ⟨(Nat.le_trans (Nat.le_refl _) (Nat.le_trans g1.size g2.size)), fun b hb hp => two_grown (Nat.le_refl _) (fun _ _ => rfl) g1 g2 hv1' b hb hp⟩).mono fun _ _ _ => trivial); clear s2 tk)
              | (obtain ⟨_, s2⟩ := (show True ∧ Below w8.heap.size w8 _ by assumption); (with_reducible refine (all21 (H8.out.stay s2).net HS8.out.2 (fun x hx => (HS8.out.1 x hx).2)).mono ?_); rintro e w9 ⟨v9, cs9, rfl, hO, b9⟩; obtain ⟨A9, c9, rfl⟩ := hO.slice; have K9 := s2.trans (b9.mono s2.size); clear s2)))
            go_wp2_with fail
            refine hK.out _ _ ?_ (fun hHeldN => ?_)
            · ((try dsimp only) <;> (first | exact ⟨trivial, by assumption⟩ | exact ⟨trivial, (Below.refl _ _).drew⟩ | exact ⟨trivial, Below.alloc (And.right (by assumption)) (Below.size (And.right (by assumption))) _⟩))
            clear hHeld
            have hHeld := hHeldN
            clear hHeldN
            clear hK K
            try simp only [Act.put, List.setIfInBounds_toArray, List.set_cons_zero, List.set_cons_succ]
            refine Go.Proofs.Phase.wpAl_take' (i := 16) (by simp only [List.getElem?_toArray, List.getElem?_cons_succ, List.getElem?_cons_zero]; rfl) ?_
            refine ⟨?_, ⟨by kernel_rfl, by kernel_rfl, by kernel_rfl⟩, fun _ _ _ h => h, Or.inl ⟨by rfl, ?_⟩, by assumption, ?_⟩
            rotate_left
            · (intro w hSw; (try dsimp only at hSw); go_simp; with_reducible rfl)
            try simp only [Act.put, List.setIfInBounds_toArray, List.set_cons_zero, List.set_cons_succ]
            refine Go.Proofs.Phase.wpAl_take' (i := 17) (by simp only [List.getElem?_toArray, List.getElem?_cons_succ, List.getElem?_cons_zero]; rfl) ?_
            refine ⟨?_, ⟨by kernel_rfl, by kernel_rfl, by kernel_rfl⟩, fun _ _ _ h => h, Or.inl ⟨by rfl, ?_⟩, by assumption, ?_⟩
            rotate_left
            · (intro w hSw; (try dsimp only at hSw); go_simp; with_reducible rfl)
            try simp only [Act.put, List.setIfInBounds_toArray, List.set_cons_zero, List.set_cons_succ]
            refine Go.Proofs.Phase.wpAl_before (i := 18) (by kernel_rfl) (by simp only [List.getElem?_toArray, List.getElem?_cons_succ, List.getElem?_cons_zero]; rfl) (fun K hK => ?_)
            go_simp
            ((first
              | ((with_reducible refine (alive12 _).mono ?_); rintro e w12 ⟨rfl, b12⟩; obtain ⟨_, s2⟩ := (show True ∧ Below w8.heap.size w8 _ by assumption); have K12 := s2.trans (b12.mono s2.size); clear s2)
              | (have tk := g2; obtain ⟨_, s2⟩ := (show True ∧ Below w8.heap.size w8 _ by assumption); (with_reducible refine (same22 (.slice A9 (T.eraseIdx j).length c9) v2 (T.eraseIdx j) _ HO.out.1 HO.out.2 (Nat.le_trans HS8.out.2 (by decide)) (fun x hx => (HS8.out.1 x hx).1) (fun x hx => (HS8.out.1 x hx).2)).mono ?_); rintro e w11 ⟨rfl, b11⟩; have K11 := s2.trans (b11.mono s2.size); clear s2 tk)
              | (have tk := HK9; obtain ⟨_, s2⟩ := (show True ∧ Below w8.heap.size w8 _ by assumption); (with_reducible refine step_append_own_at (by simp [Region.wanted, yielded, Act.put]) _ _ 59 rfl w8.heap.size 44 i0 _ 57 632 Try.underlying59 hinf hz0 hz1 hz2 rfl (by decide) v1 (0 + j) ([] ++ (prow scs).take (j * 57)) rfl o1 A2 (T.length - j1) (c5 - j1) ((prow scs).drop (j1 * 57)) rfl HN.out.2.2.2.1 (HN.out.2.1 _ s2) HN.out.2.2.2.2.2.1 (by have := HN.out.2.2.2.2.2.2.2; omega) (by omega) s2.size ?_); intro v2 w11 o2 g2 hv2; have K11 := s2.grown g2 s2.size hk1; have HO : Hid (elemP.RdL (fun _ => True) w11 (.slice A9 (T.eraseIdx j).length c9) (T.eraseIdx j) ∧ elemP.RdL (fun _ => True) w11 v2 (T.eraseIdx j)) := Lib.hid ⟨HK9.out w11 g2, (H8.out.row.erased (n := 0 + j + (T.length - j1)) (by have := H8.out.below.size; have := HB3.out.1.size; omega) HJ.out K11 (by have := HN.out.2.2.2.2.2.2.1; have := HJ.out; omega) (by rw [← HN.out.2.2.2.2.2.2.1]; simpa using o2)).rdL⟩; clear s2 tk)
              | (have tk := b9; obtain ⟨_, s2⟩ := (show True ∧ Below w8.heap.size w8 _ by assumption); have hw1 : (w9.alloc (.cells #[] 44)).heap[w9.heap.size]? = some (.cells #[] 44 (0, 0)) := heap_alloc_new w9 _; have ho1 := own0 hw1 K9.size; (with_reducible refine step_append_own_at (by simp [Region.wanted, yielded, Act.put]) _ _ 59 rfl w8.heap.size 44 i0 _ 57 632 Try.underlying59 hinf hz0 hz1 hz2 rfl (by decide) (.slice (some ⟨w9.heap.size, 0, none⟩) 0 0) 0 [] rfl ho1 ⟨b, 0, none⟩ j c5 ((prow scs).take (j * 57)) rfl HN.out.2.2.1 (HN.out.1 _ s2) HN.out.2.2.2.2.1 (by have := HN.out.2.2.2.2.2.2.2; omega) (by omega) s2.size ?_); intro v1 w10 o1 g1 hv1; have K10 := s2.grown g1 s2.size (fun k hk => own_eq_ge hk K9.size); have hv1' : v1.ownBlock = some w9.heap.size ∨ v1.ownBlock = some (w9.alloc (.cells #[] 44)).heap.size := hv1; have hk1 : ∀ k, v1.ownBlock = some k → w8.heap.size ≤ k := fun k hk => own_ge hv1' hk K9.size (Nat.le_trans K9.size (alloc_le w9 (.cells #[] 44))); have HK9 : Hid (∀ w11, w10.grownBy w11 v1.ownBlock → elemP.RdL (fun _ => True) w11 (.slice A9 (T.eraseIdx j).length c9) (T.eraseIdx j)) := Lib.hid (fun w11 g2 => ((hO.rdL.mono (ok' := fun b => b < w9.heap.size) (fun b hb hp => hb)).keep ⟨(Nat.le_trans (alloc_le w9 (.cells #[] 44)) (Nat.le_trans g1.size g2.size)), fun b hb hp => two_grown (alloc_le w9 (.cells #[] 44)) (fun b hb => alloc_same w9 _ b hb) g1 g2 hv1' b hb (Nat.ne_of_lt hp)⟩).mono fun _ _ _ => trivial); clear s2 tk)
              | (have tk := b9; obtain ⟨_, s2⟩ := (show True ∧ Below w8.heap.size w8 _ by assumption); have hw1 : w9.heap[w8.heap.size]? = some (.cells #[] 44 (0, 0)) := (b9.block w8.heap.size (by simp)).trans (heap_alloc_new w8 _); have ho1 := own0 hw1 (Nat.le_refl _); (with_reducible refine step_append_own_at (by simp [Region.wanted, yielded, Act.put]) _ _ 59 rfl w8.heap.size 44 i0 _ 57 632 Try.underlying59 hinf hz0 hz1 hz2 rfl (by decide) (.slice (some ⟨w8.heap.size, 0, none⟩) 0 0) 0 [] rfl ho1 ⟨b, 0, none⟩ j c5 ((prow scs).take (j * 57)) rfl HN.out.2.2.1 (HN.out.1 _ s2) HN.out.2.2.2.2.1 (by have := HN.out.2.2.2.2.2.2.2; omega) (by omega) s2.size ?_); intro v1 w10 o1 g1 hv1; have K10 := s2.grown g1 s2.size (fun k hk => own_eq_ge hk (Nat.le_refl _)); have hv1' : v1.ownBlock = some w8.heap.size ∨ v1.ownBlock = some w9.heap.size := hv1; have hk1 : ∀ k, v1.ownBlock = some k → w8.heap.size ≤ k := fun k hk => own_ge hv1' hk (Nat.le_refl _) K9.size; have HK9 : Hid (∀ w11, w10.grownBy w11 v1.ownBlock → elemP.RdL (fun _ => True) w11 (.slice A9 (T.eraseIdx j).length c9) (T.eraseIdx j)) := Lib.hid (fun w11 g2 => ((hO.rdL.mono (ok' := fun b => b ≠ w8.heap.size) (fun b hb hp => ne_of_alloc hp)).keep ⟨(Nat.le_trans (Nat.le_refl _) (Nat.le_trans g1.size g2.size)), fun b hb hp => two_grown (Nat.le_refl _) (fun _ _ => rfl) g1 g2 hv1' b hb hp⟩).mono fun _ _ _ => trivial); clear s2 tk)
              | (obtain ⟨_, s2⟩ := (show True ∧ Below w8.heap.size w8 _ by assumption); (with_reducible refine (all21 (H8.out.stay s2).net HS8.out.2 (fun x hx => (HS8.out.1 x hx).2)).mono ?_); rintro e w9 ⟨v9, cs9, rfl, hO, b9⟩; obtain ⟨A9, c9, rfl⟩ := hO.slice; have K9 := s2.trans (b9.mono s2.size); clear s2)))
            go_wp2_with fail
            refine hK.out _ _ ?_ (fun hHeldN => ?_)
            · ((try dsimp only) <;> (first | exact ⟨trivial, by assumption⟩ | exact ⟨trivial, (Below.refl _ _).drew⟩ | exact ⟨trivial, Below.alloc (And.right (by assumption)) (Below.size (And.right (by assumption))) _⟩))
            clear hHeld
            have hHeld := hHeldN
            clear hHeldN
            clear hK K
            try simp only [Act.put, List.setIfInBounds_toArray, List.set_cons_zero, List.set_cons_succ]
            refine Go.Proofs.Phase.wpAl_take' (i := 19) (by simp only [List.getElem?_toArray, List.getElem?_cons_succ, List.getElem?_cons_zero]; rfl) ?_
            refine ⟨?_, ⟨by kernel_rfl, by kernel_rfl, by kernel_rfl⟩, fun _ _ _ h => h, Or.inl ⟨by rfl, ?_⟩, by assumption, ?_⟩
            rotate_left
            · (intro w hSw; (try dsimp only at hSw); go_simp; with_reducible rfl)
            try simp only [Act.put, List.setIfInBounds_toArray, List.set_cons_zero, List.set_cons_succ]
            refine Go.Proofs.Phase.wpAl_take' (i := 20) (by simp only [List.getElem?_toArray, List.getElem?_cons_succ, List.getElem?_cons_zero]; rfl) ?_
            refine ⟨?_, ⟨by kernel_rfl, by kernel_rfl, by kernel_rfl⟩, fun _ _ _ h => h, Or.inl ⟨by rfl, ?_⟩, by assumption, ?_⟩
            rotate_left
            · (intro w hSw; (try dsimp only at hSw); go_simp; with_reducible rfl)
            try simp only [Act.put, List.setIfInBounds_toArray, List.set_cons_zero, List.set_cons_succ]
            refine Go.Proofs.Phase.wpAl_done (by kernel_rfl) ?_ _
            all_goals (
              have hb8 := H8.out.below
              have s1 := HB3.out.1.size
              have s3 := hb8.size
              have HF := Lib.hid (((HB3.out.1.trans (hb8.mono s1))).trans (K12.mono (Nat.le_trans s1 s3)))
              clear hb8 s1 s3 K12 K9 K10 K11 HO HK9 o1 o2 g1 g2 hv1 hv2 hk1 hO
              go_wp2_with fail
              go_ret
              exact ⟨rfl, HF.out⟩)
        · have hmiss : ∀ w', Below wr.heap.size wr w' → Calls Try.prog 41 #[.pointer (some ⟨wB.heap.size, 0, none⟩), .int .i64 at_] w' fun e w'' => e = .returned (.int .i64 7) ∧ w'' = w' := fun w' hw => by
            have := at41 (HV.out.1.net.1.below hw) at_
            rwa [if_neg hit] at this
          have M5 := drop20e wr (some ⟨wB.heap.size, 0, none⟩) at_ 7 (by decide) hmiss
          have hcase : (decide (at_ < 0) = true) ∨ (decide (at_ < 0) = false ∧ decide (at_ ≥ (T.length : Int)) = true) := by
            by_cases h0 : at_ < 0
            · exact .inl (decide_eq_true h0)
            · exact .inr ⟨decide_eq_false h0, decide_eq_true (by omega)⟩
          clear hmiss hit
          go_wp2_with fail
          refine M5.mono ?_
          rintro e w8 ⟨rfl, b8⟩
          have H8 := Lib.hid (HV.out.1.stay b8)
          clear M5 b8
          have MA := all21 H8.out.net.1 (by omega) (fun x hx => HSZ.out x (HV.out.2.2 x hx))
          have HMA := Lib.hid MA
          clear MA
          rcases hcase with t3 | ⟨t3, t4⟩
          · go_wp2_with fail
            refine HMA.out.mono ?_
            rintro e w9 ⟨v9, cs9, rfl, hO, b9⟩
            have h9 := H8.out.stay b9
            have M6 := same22 v9 (.slice A5 T.length c5) T w9 hO.rdL h9.row.rdL (by omega) (fun x hx => HL.out.2 x (HV.out.2.2 x hx)) (fun x hx => HSZ.out x (HV.out.2.2 x hx))
            obtain ⟨A9, c9, rfl⟩ := hO.slice
            have H9 := Lib.hid h9
            clear hO b9 h9
            go_wp2_with fail
            refine M6.mono ?_
            rintro e w10 ⟨rfl, b10⟩
            have H10 := Lib.hid (H9.out.stay b10)
            clear M6 b10
            go_wp2_with fail
            refine (alive12 _).mono ?_
            rintro e w11 ⟨rfl, b11⟩
            have HF := Lib.hid ((HB3.out.1.trans (H10.out.below.mono HB3.out.1.size)).trans (b11.mono (Nat.le_trans HB3.out.1.size H10.out.below.size)))
            clear b11
            go_wp2_with fail
            go_ret
            exact ⟨rfl, HF.out⟩
          · go_wp2_with fail
            refine HMA.out.mono ?_
            rintro e w9 ⟨v9, cs9, rfl, hO, b9⟩
            have h9 := H8.out.stay b9
            have M6 := same22 v9 (.slice A5 T.length c5) T w9 hO.rdL h9.row.rdL (by omega) (fun x hx => HL.out.2 x (HV.out.2.2 x hx)) (fun x hx => HSZ.out x (HV.out.2.2 x hx))
            obtain ⟨A9, c9, rfl⟩ := hO.slice
            have H9 := Lib.hid h9
            clear hO b9 h9
            go_wp2_with fail
            refine M6.mono ?_
            rintro e w10 ⟨rfl, b10⟩
            have H10 := Lib.hid (H9.out.stay b10)
            clear M6 b10
            go_wp2_with fail
            refine (alive12 _).mono ?_
            rintro e w11 ⟨rfl, b11⟩
            have HF := Lib.hid ((HB3.out.1.trans (H10.out.below.mono HB3.out.1.size)).trans (b11.mono (Nat.le_trans HB3.out.1.size H10.out.below.size)))
            clear b11
            go_wp2_with fail
            go_ret
            exact ⟨rfl, HF.out⟩
end Go.Proofs.Ythahadhdhpcndaa
