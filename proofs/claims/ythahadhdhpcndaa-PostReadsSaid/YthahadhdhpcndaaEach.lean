/- Lists of nodes: each, and copies.Tree. -/
import Derived.Test.YthahadhdhpcndaaTree
import Derived.Deep.AppendLies
namespace Go.Proofs.Ythahadhdhpcndaa
open Go Go.RowKit
set_option linter.unusedVariables false
set_option linter.unusedSimpArgs false

def nrow (ds : List NodeD) (vs : List Value) : List Value := (List.zipWith NodeD.cs ds vs).flatten
theorem nrow_len : ∀ (ds : List NodeD) (vs : List Value), ds.length = vs.length → (nrow ds vs).length = ds.length * 4
  | [], [], _ => rfl
  | d :: ds, v :: vs, h => by
    have h2 := nrow_len ds vs (by simpa using h)
    simp [nrow, NodeD.cs] at h2 ⊢
    omega
  | [], _ :: _, h => by cases h
  | _ :: _, [], h => by cases h
theorem nrow_snoc {ds : List NodeD} {vs : List Value} (h : ds.length = vs.length) (d : NodeD) (v : Value) : nrow (ds ++ [d]) (vs ++ [v]) = nrow ds vs ++ d.cs v := by
  unfold nrow
  rw [List.zipWith_append h]
  simp
theorem nrow_get : ∀ (ds : List NodeD) (vs : List Value) (i : Nat) (d : NodeD) (v : Value), ds[i]? = some d → vs[i]? = some v → ∀ k, k < 4 → (nrow ds vs)[i * 4 + k]? = (d.cs v)[k]?
  | d0 :: ds, v0 :: vs, 0, d, v, h1, h2, k, hk => by
    obtain rfl : d0 = d := by simpa using h1
    obtain rfl : v0 = v := by simpa using h2
    have : nrow (d0 :: ds) (v0 :: vs) = d0.cs v0 ++ nrow ds vs := by simp [nrow]
    rw [this, Nat.zero_mul, Nat.zero_add, List.getElem?_append_left (by simpa [NodeD.cs] using hk)]
  | d0 :: ds, v0 :: vs, i + 1, d, v, h1, h2, k, hk => by
    have h := nrow_get ds vs i d v (by simpa using h1) (by simpa using h2) k hk
    have : nrow (d0 :: ds) (v0 :: vs) = d0.cs v0 ++ nrow ds vs := by simp [nrow]
    rw [this, List.getElem?_append_right (by simp [NodeD.cs]; omega)]
    rw [← h]
    congr 1
    simp [NodeD.cs]
    omega
  | [], _, i, d, v, h1, _, _, _ => by simp at h1
  | _ :: _, [], i, d, v, _, h2, _, _ => by simp at h2
structure EachI (w0 w1 : World) (ds : List NodeD) (i : Nat) (v5 : Value) (vs : List Value) : Prop where
  hi : i ≤ ds.length
  len : vs.length = i
  own : w1.ownsRow w0.heap.size 108 4 v5 i (nrow (ds.take i) vs)
  sub : ∀ (j : Nat) (d : NodeD) (u : Value), ds[j]? = some d → vs[j]? = some u → Rw (fun b => w0.heap.size ≤ b ∧ v5.ownBlock ≠ some b) w1 1 u d.u
  below : Below w0.heap.size w0 w1
theorem EachI.done {w0 w1 : World} {ds : List NodeD} {v5 : Value} {vs : List Value} (h : EachI w0 w1 ds ds.length v5 vs) : RdN (w0.heap.size ≤ ·) w1 v5 ds := by
  have ho := h.own
  rw [List.take_length] at ho
  rcases ho.2 with ⟨h1, h2⟩ | ⟨g, cap, cur, h1, h2, h3, h4, h5, h6, h7⟩
  · exact ⟨none, 0, 0, h1, h2.symm, fun _ => ⟨rfl, rfl⟩, fun hp => absurd hp (by omega)⟩
  · refine ⟨some ⟨g, 0, none⟩, _, cap, h1, rfl, (fun e => by cases e), fun _ => ⟨g, 0, rfl, h2, lt_of_some h3, fun i d hd => ?_⟩⟩
    have hi := (List.getElem?_eq_some_iff.1 hd).1
    obtain ⟨u, hu⟩ : ∃ u, vs[i]? = some u := ⟨vs[i]'(by rw [h.len]; exact hi), List.getElem?_eq_getElem _⟩
    have hc : ∀ k, k < 4 → w1.cell? ⟨g, i * 4 + k, none⟩ = (d.cs u)[k]? := fun k hk => by
      rw [cell_of_row w1 g _ _ _ _ h3, ← nrow_get ds vs i d u hd hu k hk, ← h7, List.getElem?_take_of_lt (by omega)]
      simp
    rw [Nat.zero_add]
    exact ⟨hc 0 (by decide), hc 1 (by decide), hc 2 (by decide), u, hc 3 (by decide), (h.sub i d u hd hu).mono fun b _ hb => hb.1⟩
theorem EachI.slice {w0 w1 : World} {ds : List NodeD} {i : Nat} {v5 : Value} {vs : List Value} (h : EachI w0 w1 ds i v5 vs) : ∃ A c, v5 = .slice A i c := by
  rcases h.own.2 with ⟨h1, rfl⟩ | ⟨g, cap, cur, h1, _⟩
  · exact ⟨none, 0, h1⟩
  · exact ⟨_, _, h1⟩
theorem own_below {B E sz n : Nat} {w w' : World} {v : Value} {xs : List Value} (h : w.ownsRow B E sz v n xs) (hb : Below w.heap.size w w') : w'.ownsRow B E sz v n xs := by
  rcases h.2 with h1 | ⟨g, cap, cur, h1, h2, h3, h4⟩
  · exact ⟨h.1, .inl h1⟩
  · exact ⟨h.1, .inr ⟨g, cap, cur, h1, h2, (hb.block g (lt_of_some h3)).trans h3, h4⟩⟩
theorem Kn.grown {ok : Nat → Prop} {w w' : World} {v : Value} (h : w.grownBy w' v.ownBlock) (hk : ∀ b, ok b → v.ownBlock ≠ some b) : Kn ok w w' :=
  ⟨h.size, fun b hb hp => h.block b hb fun e => hk b hp e.symm⟩
theorem EachI.next {w0 wr w2 w3 : World} {ds : List NodeD} {i : Nat} {v5 : Value} {vs : List Value} {d : NodeD} {v' : Value} {g cap : Nat} {o1 : Obj} {o2 : Obj} (h : EachI w0 wr ds i v5 vs) (hd : ds[i]? = some d)
    (hR : Rw ((wr.alloc o1).heap.size ≤ ·) w2 1 v' d.u) (hB : Below (wr.alloc o1).heap.size (wr.alloc o1) w2)
    (h1 : w3.ownsRow w0.heap.size 108 4 (.slice (some ⟨g, 0, none⟩) (i + 1) cap) (i + 1) (nrow (ds.take i) vs ++ d.cs v')) (h2 : (w2.alloc o2).grownBy w3 v5.ownBlock) (h3 : v5.ownBlock = some g ∨ g = w2.heap.size + 1) :
    EachI w0 w3 ds (i + 1) (.slice (some ⟨g, 0, none⟩) (i + 1) cap) (vs ++ [v']) := by
  have hlt := (List.getElem?_eq_some_iff.1 hd).1
  have hb1 : Below wr.heap.size wr (wr.alloc o1) := (Below.refl _ _).alloc (Nat.le_refl _) _
  have hb2 : Below wr.heap.size wr w2 := hb1.trans (hB.mono hb1.size)
  have hb3 : Below wr.heap.size wr (w2.alloc o2) := hb2.alloc hb2.size _
  have hv5 : ∀ k, v5.ownBlock = some k → w0.heap.size ≤ k ∧ k < wr.heap.size := fun k hk => by
    rcases h.own.2 with ⟨z, _⟩ | ⟨b, cp, cur, z1, z2, z3, _⟩
    · rw [z] at hk; cases hk
    · rw [z1] at hk
      obtain rfl : b = k := by simpa [Value.ownBlock] using hk
      exact ⟨z2, lt_of_some z3⟩
  have hw0 := h.below.size
  refine ⟨by omega, by simp [h.len], ?_, fun j d' u hj hu => ?_, ?_⟩
  · have : ds.take (i + 1) = ds.take i ++ [d] := by rw [List.take_add_one, hd]; rfl
    rw [this, nrow_snoc (by rw [h.len, List.length_take]; omega)]
    exact h1
  · by_cases hjl : j < vs.length
    · rw [List.getElem?_append_left hjl] at hu
      have hr := h.sub j d' u hj hu
      have hr2 := (hr.keep (Kn.of_below hb3)).keep (Kn.grown h2 fun b hb => hb.2)
      have hr3 : Rw (fun b => (w0.heap.size ≤ b ∧ v5.ownBlock ≠ some b) ∧ b < wr.heap.size) wr 1 u d'.u := hr.mono fun b hb hp => ⟨hp, hb⟩
      have hr4 := (hr3.keep (Kn.of_below hb3)).keep (Kn.grown h2 fun b hb => hb.1.2)
      refine hr4.mono fun b _ hp => ⟨hp.1.1, fun e => ?_⟩
      obtain rfl : g = b := by simpa [Value.ownBlock] using e
      rcases h3 with h3 | h3
      · exact hp.1.2 h3
      · have := hb2.size; omega
    · have hlen : j = vs.length := by
        have := (List.getElem?_eq_some_iff.1 hu).1
        simp at this; omega
      subst hlen
      rw [List.getElem?_append_right (Nat.le_refl _)] at hu
      obtain rfl : v' = u := by simpa using hu
      rw [h.len, hd] at hj
      obtain rfl : d = d' := by simpa using hj
      have hr3 : Rw (fun b => (wr.alloc o1).heap.size ≤ b ∧ b < w2.heap.size) w2 1 v' d.u := hR.mono fun b hb hp => ⟨hp, hb⟩
      have hr4 := (hr3.keep (Kn.of_below ((Below.refl w2.heap.size w2).alloc (Nat.le_refl _) o2))).keep (Kn.grown h2 fun b hb e => by have := hv5 b e; have := hb1.size; simp at hb; omega)
      refine hr4.mono fun b _ hp => ?_
      simp at hp
      refine ⟨by omega, fun e => ?_⟩
      obtain rfl : g = b := by simpa [Value.ownBlock] using e
      rcases h3 with h3 | h3
      · have := hv5 g h3; omega
      · omega
  · refine ((h.below.trans (hb3.mono hw0))).grown h2 (Nat.le_trans hw0 hb3.size) fun k hk => (hv5 k hk).1
def EachH (w0 w1 : World) (ds : List NodeD) (i : Nat) (v5 : Value) : Prop := ∃ vs, EachI w0 w1 ds i v5 vs
set_option maxHeartbeats 2000000 in
set_option maxRecDepth 100000 in
theorem each83 {ok : Nat → Prop} (v : Value) (ds : List NodeD) (w : World) (h : RdN ok w v ds) (hs : ds.length ≤ 1000000) (hu : ∀ d ∈ ds, d.u.length ≤ 3000000) :
    Calls Try.prog 83 #[v, .func (.func 84) #[] #[]] w fun e w' => ∃ v', e = .returned v' ∧ RdN (w.heap.size ≤ ·) w' v' ds ∧ Below w.heap.size w w' := by
  obtain ⟨A, n, c, rfl, rfl, h2, h3⟩ := h
  have H0 : Hid (EachH w w ds 0 (.slice none 0 0)) := Lib.hid ⟨[], Nat.zero_le _, rfl, by simp [nrow]; exact World.ownsRow_nil _ _ _ _, fun j d u _ hu => by simp at hu, Below.refl _ _⟩
  have HS := Lib.hid (And.intro hs (And.intro hu (And.intro h2 h3)))
  clear h2 h3 hu hs
  go_enter Try.func83, Try.ntmps83
  go_wp2
  go_loopg [5, 10] ds.length (fun k v5 v10 wr => ∃ i : Nat, v10 = .int .i64 (i : Int) ∧ i + k = ds.length ∧ Hid (EachH w wr ds i v5))
  case atStart => exact ⟨0, rfl, by simp, H0⟩
  case round =>
    clear H0
    obtain ⟨i, rfl, hik, HE⟩ := hrel
    have hst := HS.out.1
    obtain ⟨vs, hE⟩ := HE.out
    obtain ⟨A5, c5, rfl⟩ := hE.slice
    by_cases hi : i < ds.length
    · obtain ⟨d, hd⟩ : ∃ d, ds[i]? = some d := ⟨ds[i], List.getElem?_eq_getElem hi⟩
      obtain ⟨b, o, rfl, p1, p2, p3⟩ := HS.out.2.2.2 (by omega)
      obtain ⟨c0, c1, c2, vu, c3, hR⟩ := p3 i d hd
      obtain ⟨Au, nu, cu, rfl⟩ := hR.slice
      have hkeep : Kn ok w wr := Kn.of_below hE.below
      have hblk := hkeep.2 b p2 p1
      have e0 := (World.cell?_of_block (a := ⟨b, o + i * 4, none⟩) hblk).trans c0
      have e1 := (World.cell?_of_block (a := ⟨b, o + i * 4 + 1, none⟩) hblk).trans c1
      have e2 := (World.cell?_of_block (a := ⟨b, o + i * 4 + 2, none⟩) hblk).trans c2
      have e3 := (World.cell?_of_block (a := ⟨b, o + i * 4 + 3, none⟩) hblk).trans c3
      have hlt := Nat.lt_of_lt_of_le p2 hkeep.1
      have hb1 : Below wr.heap.size wr (wr.alloc (.cells #[.int .i64 d.p, .int .i64 d.m, .int .i64 d.e, .slice Au nu cu] 108)) := (Below.refl _ _).alloc (Nat.le_refl _) _
      have M := node84 d (.slice Au nu cu) _ ((hR.keep hkeep).keep (Kn.of_below hb1)) (HS.out.2.1 d (List.mem_of_getElem? hd))
      have HD := Lib.hid hd
      have HV := Lib.hid hE
      have i1 : (0 : Int) ≤ (i : Int) := by omega
      have i2 : (i : Int) < (ds.length : Int) := by omega
      clear c0 c1 c2 c3 p3 hR hkeep hblk hE hd p1
      go_wp2_with fail
      refine M.mono ?_
      rintro e w2 ⟨v', rfl, R', B'⟩
      obtain ⟨A', n', c', rfl⟩ := R'.slice
      have HR := Lib.hid R'
      have HB := Lib.hid B'
      have hb2 : Below wr.heap.size wr w2 := hb1.trans (B'.mono hb1.size)
      have HO := Lib.hid (And.intro ((own_below HV.out.own hb2).alloc (.cells #[.int .i64 d.p, .int .i64 d.m, .int .i64 d.e, .slice A' n' c'] 108)) (Nat.le_trans HV.out.below.size hb2.size))
      obtain ⟨i0, hinf, hz0, hz1, hz2⟩ := info_parts info108
      clear M R' B' e0 e1 e2 e3 hb1 hb2
      go_wp2_with (at_builtin; refine wpList_append_lies _ rfl _ _ 27 rfl w.heap.size 108 i0 _ 4 48 Try.underlying27 hinf hz0 hz1 hz2 rfl (by decide) (.slice A5 i c5) i _ rfl HO.out.1 ⟨w2.heap.size, 0, none⟩ 1 1 [.int .i64 d.p, .int .i64 d.m, .int .i64 d.e, .slice A' n' c'] rfl rfl (World.news_of_block (heap_alloc_new _ _)) (by simp [Value.oneCell']) (by decide) (by unfold maxLen; omega) (by omega) (by have := HO.out.2; simp; omega) (w2.heap.size + 1) (by simp) ?_)
      intro g cap w3 o1 o2 o3 _
      have HN : Hid (EachH w w3 ds (i + 1) (.slice (some ⟨g, 0, none⟩) (i + 1) cap)) := Lib.hid ⟨_, HV.out.next HD.out HR.out HB.out o1 o2 o3⟩
      clear o1 o2 o3 hinf hz0 hz1 hz2
      go_wp2_with fail
      go_roundg (ds.length - (i + 1))
      case measure => omega
      case rel => exact ⟨i + 1, by simp, by omega, HN⟩
    · obtain rfl : i = ds.length := by omega
      clear hi hE
      go_wp2
      go_ret
      exact ⟨_, rfl, HE.out.choose_spec.done, HE.out.choose_spec.below⟩
end Go.Proofs.Ythahadhdhpcndaa
