/- Net, beside other rows; rows of packets that came in; how large lists of packets are. -/
import Derived.Test.YthahadhdhpcndaaArgs
namespace Go.Proofs.Ythahadhdhpcndaa
open Go Go.RowKit
set_option linter.unusedVariables false
set_option linter.unusedSimpArgs false

/-- A net whose packets lie in none of the blocks X. -/
def NetX (w : World) (B g : Nat) (v : Value) (cs : List (Array Value)) (L : List PackD) (X : Nat → Prop) : Prop :=
  NetI w B g v cs L ∧ ∀ (j : Nat) (c : Array Value) (d : PackD), cs[j]? = some c → L[j]? = some d → RdP (fun b => (B ≤ b ∧ b ≠ g ∧ v.ownBlock ≠ some b) ∧ ¬ X b) w c d
theorem NetX.sent {w w' : World} {B g : Nat} {v v' : Value} {cs : List (Array Value)} {L : List PackD} {c' : Array Value} {d : PackD} {X : Nat → Prop} (h : NetX w B g v cs L X) (hn : NetI w' B g v' (cs ++ [c']) (L ++ [d])) (hf : Fr B w w' g v v')
    (hr : RdP (fun b => w.heap.size ≤ b ∧ v'.ownBlock ≠ some b) w' c' d) (hX : ∀ b, X b → b < w.heap.size) : NetX w' B g v' (cs ++ [c']) (L ++ [d]) X := by
  have hlg := lt_of_some h.1.blk
  have hB := h.1.hB
  refine ⟨hn, fun j c0 d0 hc hd => ?_⟩
  by_cases hj : j < cs.length
  · rw [List.getElem?_append_left hj] at hc
    rw [List.getElem?_append_left (by have := h.1.len; omega)] at hd
    have r0 := (h.2 j c0 d0 hc hd).mono (ok' := fun b => ((B ≤ b ∧ b ≠ g ∧ v.ownBlock ≠ some b) ∧ ¬ X b) ∧ b < w.heap.size) fun b hb hp => ⟨hp, hb⟩
    have r1 := r0.keep (w' := w') ⟨hf.size, fun b hb hp => hf.same b hb hp.1.1.2.1 hp.1.1.2.2⟩
    refine r1.mono fun b _ hp => ⟨⟨hp.1.1.1, hp.1.1.2.1, fun e => ?_⟩, hp.1.2⟩
    rcases hf.new b e with h4 | h4
    · exact hp.1.1.2.2 h4
    · omega
  · have hjl : j = cs.length := by
      have := (List.getElem?_eq_some_iff.1 hc).1
      simp at this; omega
    subst hjl
    rw [List.getElem?_append_right (Nat.le_refl _)] at hc
    rw [h.1.len, List.getElem?_append_right (Nat.le_refl _)] at hd
    have e1 : c' = c0 := by simpa using hc
    have e2 : d = d0 := by simpa using hd
    subst e1 e2
    exact hr.mono fun b _ hp => ⟨⟨by omega, by omega, hp.2⟩, fun hx => by have := hX b hx; omega⟩
theorem NetX.mono {w : World} {B g : Nat} {v : Value} {cs : List (Array Value)} {L : List PackD} {X X' : Nat → Prop} (h : NetX w B g v cs L X) (hX : ∀ b, X' b → X b ∨ w.heap.size ≤ b) : NetX w B g v cs L X' :=
  ⟨h.1, fun j c d hc hd => (h.2 j c d hc hd).mono fun b hb hp => ⟨hp.1, fun hx => by rcases hX b hx with h1 | h1; exact hp.2 h1; omega⟩⟩
theorem NetX.grown {w w' : World} {B g : Nat} {v : Value} {cs : List (Array Value)} {L : List PackD} {X : Nat → Prop} {x : Option Nat} (h : NetX w B g v cs L X) (hg : w.grownBy w' x) (hx : ∀ k, x = some k → X k ∧ k ≠ g ∧ v.ownBlock ≠ some k) : NetX w' B g v cs L X := by
  have hlg := lt_of_some h.1.blk
  have hk : Kn (fun b => ¬ X b) w w' := ⟨hg.size, fun b hb hp => hg.block b hb fun e => hp (hx b e.symm).1⟩
  have hs : ∀ (j : Nat) (c : Array Value) (d : PackD), cs[j]? = some c → L[j]? = some d → RdP (fun b => (B ≤ b ∧ b ≠ g ∧ v.ownBlock ≠ some b) ∧ ¬ X b) w' c d := fun j c d hc hd => (h.2 j c d hc hd).keep (hk.mono' fun b hb => hb.2)
  refine ⟨⟨(hg.block g hlg fun e => (hx g e.symm).2.1 rfl).trans h.1.blk, h.1.lo, Nat.le_trans h.1.hB hg.size, h.1.len, ⟨h.1.row.1, ?_⟩, h.1.far, fun j c d hc hd => (hs j c d hc hd).mono fun b _ hp => hp.1⟩, hs⟩
  rcases h.1.row.2 with h1 | ⟨b, cap, cur, h1, h2, h3, h4⟩
  · exact .inl h1
  · exact .inr ⟨b, cap, cur, h1, h2, (hg.block b (lt_of_some h3) fun e => (hx b e.symm).2.2 (by rw [h1]; rfl)).trans h3, h4⟩
theorem NetX.below {w w' : World} {B g : Nat} {v : Value} {cs : List (Array Value)} {L : List PackD} {X : Nat → Prop} (h : NetX w B g v cs L X) (hb : Below w.heap.size w w') : NetX w' B g v cs L X :=
  ⟨h.1.below hb, fun j c d hc hd => (h.2 j c d hc hd).keep (Kn.of_below hb)⟩
/-- A row of the call's own of packets that lie among the blocks below N. -/
structure Sent (N B : Nat) (w : World) (s : Value) (cs : List (Array Value)) (L : List PackD) : Prop where
  len : cs.length = L.length
  row : w.ownsRow B 44 57 s L.length (prow cs)
  sub : ∀ (j : Nat) (c : Array Value) (d : PackD), cs[j]? = some c → L[j]? = some d → RdP (· < N) w c d
theorem Sent.vb {N B : Nat} {w : World} {s : Value} {cs : List (Array Value)} {L : List PackD} (h : Sent N B w s cs L) (k : Nat) (hk : s.ownBlock = some k) : B ≤ k ∧ k < w.heap.size := by
  rcases h.row.2 with ⟨z, _⟩ | ⟨b, cp, cur, z1, z2, z3, _⟩
  · rw [z] at hk; cases hk
  · rw [z1] at hk
    obtain rfl : b = k := by simpa [Value.ownBlock] using hk
    exact ⟨z2, lt_of_some z3⟩
theorem Sent.slice {N B : Nat} {w : World} {s : Value} {cs : List (Array Value)} {L : List PackD} (h : Sent N B w s cs L) : ∃ A c, s = .slice A L.length c := by
  rcases h.row.2 with ⟨h1, h2⟩ | ⟨b, cap, cur, h1, _⟩
  · exact ⟨none, 0, by rw [h1, h2]⟩
  · exact ⟨_, _, h1⟩
theorem Sent.nil (N B : Nat) (w : World) : Sent N B w (.slice none 0 0) [] [] := ⟨rfl, by simp [prow]; exact World.ownsRow_nil _ _ _ _, fun j c d hc => by simp at hc⟩
/-- The row stays, and so do the blocks below N. -/
theorem Sent.keep {N B : Nat} {w w' : World} {s : Value} {cs : List (Array Value)} {L : List PackD} (h : Sent N B w s cs L) (hs : w.heap.size ≤ w'.heap.size) (h1 : ∀ k, s.ownBlock = some k → w'.heap[k]? = w.heap[k]?) (h2 : ∀ b, b < w.heap.size → b < N → w'.heap[b]? = w.heap[b]?) : Sent N B w' s cs L := by
  refine ⟨h.len, ⟨h.row.1, ?_⟩, fun j c d hc hd => (h.sub j c d hc hd).keep ⟨hs, h2⟩⟩
  rcases h.row.2 with h3 | ⟨b, cap, cur, h3, h4, h5, h6⟩
  · exact .inl h3
  · exact .inr ⟨b, cap, cur, h3, h4, (h1 b (by rw [h3]; rfl)).trans h5, h6⟩
theorem Sent.push {N B g cap : Nat} {w w' : World} {s : Value} {cs : List (Array Value)} {L : List PackD} {c' : Array Value} {d : PackD} (h : Sent N B w s cs L) (hR : RdP (· < N) w c' d) (hNB : N ≤ B)
    (o1 : w'.ownsRow B 44 57 (.slice (some ⟨g, 0, none⟩) (L.length + 1) cap) (L.length + 1) (prow cs ++ c'.toList)) (o2 : w.grownBy w' s.ownBlock) : Sent N B w' (.slice (some ⟨g, 0, none⟩) (L.length + 1) cap) (cs ++ [c']) (L ++ [d]) := by
  have hk : Kn (· < N) w w' := ⟨o2.size, fun b hb hp => o2.block b hb fun e => by have := (h.vb b e.symm).1; omega⟩
  refine ⟨by simp [h.len], by rw [List.length_append, List.length_singleton, prow_snoc]; exact o1, fun j c0 d0 hc hd => ?_⟩
  by_cases hj : j < cs.length
  · rw [List.getElem?_append_left hj] at hc
    rw [List.getElem?_append_left (by have := h.len; omega)] at hd
    exact (h.sub j c0 d0 hc hd).keep hk
  · have hjl : j = cs.length := by
      have := (List.getElem?_eq_some_iff.1 hc).1
      simp at this; omega
    subst hjl
    rw [List.getElem?_append_right (Nat.le_refl _)] at hc
    rw [h.len, List.getElem?_append_right (Nat.le_refl _)] at hd
    have e1 : c' = c0 := by simpa using hc
    have e2 : d = d0 := by simpa using hd
    subst e1 e2
    exact hR.keep hk
/-- Of a list: how large it is, with what is in it. -/
structure PsI (L : List PackD) (i : Nat) (n : Int) : Prop where
  hi : i ≤ L.length
  h1 : (L.length : Int) ≤ n
  h2 : i = 0 ∨ n ≤ 1048576 + 36028797018963968
  h3 : ∀ j d, j < i → L[j]? = some d → n ≤ 262144 → LeF d.d n
set_option maxHeartbeats 4000000 in
set_option maxRecDepth 100000 in
theorem psize19 (v : Value) (L : List PackD) (w : World) (h : elemP.RdL (fun _ => True) w v L) (hL : L.length ≤ 17592186044416) (hb : ∀ d ∈ L, BdF d.d) :
    Calls Try.prog 19 #[v] w fun e w' => ∃ n : Int, e = .returned (.int .i64 n) ∧ (L.length : Int) ≤ n ∧ (n ≤ 262144 → ∀ d ∈ L, SzF d.d) ∧ Below w.heap.size w w' := by
  obtain ⟨A, n, c, rfl, rfl, h2, h3⟩ := h
  have H0 : Hid (PsI L 0 (L.length : Int)) := Lib.hid ⟨Nat.zero_le _, Int.le_refl _, .inl rfl, fun j d hj => absurd hj (by omega)⟩
  have HS := Lib.hid (And.intro hb h3)
  clear h2 h3 hb
  go_enter Try.func19, Try.ntmps19
  go_wp2
  go_loopg [3, 4] L.length (fun k v3 v4 wr => ∃ (i : Nat) (n : Int), v3 = .int .i64 n ∧ v4 = .int .i64 (i : Int) ∧ i + k = L.length ∧ Hid (PsI L i n) ∧ Below w.heap.size w wr)
  case atStart => exact ⟨0, _, rfl, rfl, by simp, H0, Below.refl _ _⟩
  case round =>
    clear H0
    obtain ⟨i, n, rfl, rfl, hik, HT, hB⟩ := hrel
    have hT := HT.out
    have i2 : (0 : Int) ≤ (i : Int) := by omega
    have hend : n ≤ 262144 → i = L.length → ∀ d ∈ L, SzF d.d := fun hn hi d hd => by
      obtain ⟨j, hj, e⟩ := List.getElem_of_mem hd
      exact (hT.h3 j d (by omega) (by rw [List.getElem?_eq_getElem hj, e]) hn).sz hn
    have hn0 : (L.length : Int) ≤ n := hT.h1
    by_cases hi : i < L.length
    · have t1 : decide ((i : Int) < (L.length : Int)) = true := decide_eq_true (by omega)
      by_cases hn : n < 1048576
      · have t2 : decide (n < 1048576) = true := decide_eq_true hn
        obtain ⟨d, hd⟩ : ∃ d, L[i]? = some d := ⟨L[i], List.getElem?_eq_getElem hi⟩
        obtain ⟨b, o, cur, tt, fr, rfl, p1, p2, p3⟩ := HS.out.2 (by omega)
        obtain ⟨p4, p5⟩ := p3 i d hd
        change o + i * 57 + 57 ≤ cur.size at p4
        change RdP _ w (cur.extract (o + i * 57) (o + i * 57 + 57)) d at p5
        obtain ⟨m, hrow, hm⟩ := p5.out
        have hx : cur.extract (o + i * 57 + 4) (o + i * 57 + 4 + 53) = m := by
          have := d.partF m hm.size
          rw [← hrow, Array.extract_extract] at this
          rw [← this]
          congr 1
          omega
        have hbr := (hB.block b (lt_of_some p2)).trans p2
        have M := size10 m d.d wr (hm.keep (Kn.of_below hB)) (HS.out.1 d (List.mem_of_getElem? hd))
        have HX := Lib.hid (And.intro hbr (And.intro (show o + i * 57 + 4 + 53 ≤ cur.size by omega) hx))
        have HD := Lib.hid hd
        have HB := Lib.hid hB
        have i3 : (i : Int) < (L.length : Int) := by omega
        clear p1 p2 p3 p4 p5 hrow hm hx hbr hT hd hB hend
        go_wp2_with (with_reducible refine wpList_load_part' rfl 42 _ rfl b (o + i * 57 + 4) 53 rfl _ cur _ _ HX.out.1 Try.underlying42 rfl cells42 HX.out.2.1 m HX.out.2.2 ?_)
        refine M.mono ?_
        rintro e w2 ⟨n', rfl, q1, q2, q3, B2⟩
        have e : IntKind.i64.wrap (n + n') = n + n' := wrapi _ (by omega)
        have HB2 := Lib.hid (HB.out.trans (B2.mono HB.out.size))
        have HN : Hid (PsI L (i + 1) (n + n')) := Lib.hid ⟨by omega, by omega, .inr (by omega), fun j d' hj hd' hle => by
          by_cases hji : j < i
          · exact (HT.out.h3 j d' hji hd' (by omega)).mono (by omega)
          · obtain rfl : j = i := by omega
            have e := HD.out.symm.trans hd'
            injection e with e
            subst e
            exact (q3 (by omega)).mono (by omega)⟩
        have HI := Lib.hid hi
        clear M B2 q3
        go_wp2_with fail
        go_roundg (L.length - (i + 1))
        case measure => have := HI.out; omega
        case rel => exact ⟨i + 1, n + n', by first | rfl | rw [← e]; rfl, by simp, by have := HI.out; omega, HN, HB2.out⟩
      · have t2 : decide (n < 1048576) = false := decide_eq_false hn
        have HB := Lib.hid hB
        clear hT hB hend
        go_wp2
        go_ret
        exact ⟨_, rfl, hn0, fun h => absurd h (by omega), HB.out⟩
    · have t1 : decide ((i : Int) < (L.length : Int)) = false := decide_eq_false (by omega)
      have HB := Lib.hid (And.intro hB hend)
      clear hT hB hend
      go_wp2
      go_ret
      exact ⟨_, rfl, hn0, fun h => HB.out.2 h (by omega), HB.out.1⟩
/-- A net, and the row of what was sent, side by side; all since wB. -/
structure LoopS (N : Nat) (wB w : World) (v : Value) (cs : List (Array Value)) (S : List PackD) (s : Value) (scs : List (Array Value)) (T : List PackD) : Prop where
  net : NetX w wB.heap.size wB.heap.size v cs S (fun b => s.ownBlock = some b)
  row : Sent N wB.heap.size w s scs T
  far : ∀ k, s.ownBlock = some k → k ≠ wB.heap.size ∧ v.ownBlock ≠ some k
  below : Below wB.heap.size wB w
theorem LoopS.stay {N : Nat} {wB w w' : World} {v : Value} {cs : List (Array Value)} {S : List PackD} {s : Value} {scs : List (Array Value)} {T : List PackD} (h : LoopS N wB w v cs S s scs T) (hb : Below w.heap.size w w') : LoopS N wB w' v cs S s scs T :=
  ⟨h.net.below hb, h.row.keep hb.size (fun k hk => hb.block k (h.row.vb k hk).2) (fun b h1 _ => hb.block b h1), h.far, h.below.trans (hb.mono h.below.size)⟩
theorem LoopS.sent {N : Nat} {wB w w' : World} {v v' : Value} {cs : List (Array Value)} {S : List PackD} {s : Value} {scs : List (Array Value)} {T : List PackD} {c' : Array Value} {d : PackD} (h : LoopS N wB w v cs S s scs T) (hN : N ≤ wB.heap.size)
    (hn : NetI w' wB.heap.size wB.heap.size v' (cs ++ [c']) (S ++ [d])) (hf : Fr wB.heap.size w w' wB.heap.size v v') (hr : RdP (fun b => w.heap.size ≤ b ∧ v'.ownBlock ≠ some b) w' c' d) : LoopS N wB w' v' (cs ++ [c']) (S ++ [d]) s scs T := by
  refine ⟨h.net.sent hn hf hr fun b hb => (h.row.vb b hb).2, h.row.keep hf.size (fun k hk => ?_) (fun b h1 h2 => hf.below.block b (by omega)), fun k hk => ?_, h.below.trans hf.below⟩
  · exact hf.same k (h.row.vb k hk).2 (h.far k hk).1 (h.far k hk).2
  · exact ⟨(h.far k hk).1, (hf.at (h.row.vb k hk).2 (h.far k hk).1 (h.far k hk).2).2.1⟩
theorem LoopS.append {N g cap : Nat} {wB w w3 : World} {v : Value} {cs : List (Array Value)} {S : List PackD} {s : Value} {scs : List (Array Value)} {T : List PackD} {c : Array Value} {d : PackD} {o : Obj} (h : LoopS N wB w v cs S s scs T) (hN : N ≤ wB.heap.size) (hR : RdP (· < N) w c d)
    (o1 : w3.ownsRow wB.heap.size 44 57 (.slice (some ⟨g, 0, none⟩) (T.length + 1) cap) (T.length + 1) (prow scs ++ c.toList)) (o2 : (w.alloc o).grownBy w3 s.ownBlock) (o3 : s.ownBlock = some g ∨ g = w.heap.size + 1) :
    LoopS N wB w3 v cs S (.slice (some ⟨g, 0, none⟩) (T.length + 1) cap) (scs ++ [c]) (T ++ [d]) := by
  have hb : Below w.heap.size w (w.alloc o) := (Below.refl _ _).alloc (Nat.le_refl _) o
  have h2 := h.stay hb
  have hsz : (w.alloc o).heap.size = w.heap.size + 1 := by simp
  have hlg := lt_of_some h.net.1.blk
  have hX : NetX (w.alloc o) wB.heap.size wB.heap.size v cs S (fun b => s.ownBlock = some b ∨ b = w.heap.size + 1) := h2.net.mono fun b hb => by
    rcases hb with hb | hb
    · exact .inl hb
    · exact .inr (by omega)
  have hg : NetX w3 wB.heap.size wB.heap.size v cs S (fun b => s.ownBlock = some b ∨ b = w.heap.size + 1) := hX.grown o2 fun k hk => ⟨.inl hk, h.far k hk⟩
  refine ⟨hg.mono fun b hb => .inl ?_, Sent.push (w := w.alloc o) (h2.row) (hR.keep ⟨hb.size, fun b h1 _ => hb.block b h1⟩) hN o1 o2, fun k hk => ?_, ?_⟩
  · have e : g = b := by simpa [Value.ownBlock] using hb
    subst e
    exact o3
  · have e : g = k := by simpa [Value.ownBlock] using hk
    subst e
    rcases o3 with o3 | o3
    · exact h.far _ o3
    · refine ⟨by omega, fun e => ?_⟩
      have := (h.net.1.vb _ e).2
      omega
  · exact (h.below.trans (hb.mono h.below.size)).grown o2 (Nat.le_trans h.below.size hb.size) fun k hk => (h.row.vb k hk).1
/-- A net that is emptied, and the row of what was sent. -/
structure LoopD (N : Nat) (wB w : World) (v : Value) (cs : List (Array Value)) (S : List PackD) (s : Value) (scs : List (Array Value)) (T : List PackD) : Prop where
  net : NetI w wB.heap.size wB.heap.size v cs S
  row : Sent N wB.heap.size w s scs T
  far : ∀ k, s.ownBlock = some k → k ≠ wB.heap.size ∧ v.ownBlock ≠ some k
  below : Below wB.heap.size wB w
theorem LoopS.toD {N : Nat} {wB w : World} {v : Value} {cs : List (Array Value)} {S : List PackD} {s : Value} {scs : List (Array Value)} {T : List PackD} (h : LoopS N wB w v cs S s scs T) : LoopD N wB w v cs S s scs T := ⟨h.net.1, h.row, h.far, h.below⟩
theorem LoopD.stay {N : Nat} {wB w w' : World} {v : Value} {cs : List (Array Value)} {S : List PackD} {s : Value} {scs : List (Array Value)} {T : List PackD} (h : LoopD N wB w v cs S s scs T) (hb : Below w.heap.size w w') : LoopD N wB w' v cs S s scs T :=
  ⟨h.net.below hb, h.row.keep hb.size (fun k hk => hb.block k (h.row.vb k hk).2) (fun b h1 _ => hb.block b h1), h.far, h.below.trans (hb.mono h.below.size)⟩
theorem LoopD.deliver {N : Nat} {wB w w' : World} {v v' : Value} {cs cs' : List (Array Value)} {S S' : List PackD} {s : Value} {scs : List (Array Value)} {T : List PackD} (h : LoopD N wB w v cs S s scs T) (hN : N ≤ wB.heap.size)
    (hn : NetI w' wB.heap.size wB.heap.size v' cs' S') (hf : Fr wB.heap.size w w' wB.heap.size v v') : LoopD N wB w' v' cs' S' s scs T := by
  refine ⟨hn, h.row.keep hf.size (fun k hk => ?_) (fun b h1 h2 => hf.below.block b (by omega)), fun k hk => ?_, h.below.trans hf.below⟩
  · exact hf.same k (h.row.vb k hk).2 (h.far k hk).1 (h.far k hk).2
  · exact ⟨(h.far k hk).1, (hf.at (h.row.vb k hk).2 (h.far k hk).1 (h.far k hk).2).2.1⟩
theorem Sent.sizes {N B : Nat} {w : World} {s : Value} {cs : List (Array Value)} {L : List PackD} (h : Sent N B w s cs L) : ∀ x ∈ cs, x.size = 57 := by
  intro x hx
  obtain ⟨j, hj, e⟩ := List.getElem_of_mem hx
  have hj2 : j < L.length := by rw [← h.len]; exact hj
  exact (h.sub j x L[j] (by rw [List.getElem?_eq_getElem hj, e]) (List.getElem?_eq_getElem hj2)).size
/-- The element at a place lies in the row. -/
theorem Sent.at {N B : Nat} {w : World} {s : Value} {cs : List (Array Value)} {L : List PackD} (h : Sent N B w s cs L) {i : Nat} (hi : i < L.length) :
    ∃ (b cap : Nat) (cur c : Array Value) (d : PackD), s = .slice (some ⟨b, 0, none⟩) L.length cap ∧ w.heap[b]? = some (.cells cur 44 (0, 0)) ∧ L[i]? = some d ∧ i * 57 + 57 ≤ cur.size ∧ cur.extract (i * 57) (i * 57 + 57) = c ∧ RdP (· < N) w c d := by
  rcases h.row.2 with ⟨h1, h2⟩ | ⟨b, cap, cur, h1, h2, h3, h4, h5, h6, h7⟩
  · omega
  · have hl := h.len
    have hc : cs[i]? = some cs[i] := List.getElem?_eq_getElem (by omega)
    have hd : L[i]? = some L[i] := List.getElem?_eq_getElem hi
    have hp := eprow_get 57 cs i _ h.sizes hc
    have hsz := h.sizes cs[i] (List.getElem_mem _)
    rw [← h7, List.drop_take, List.take_take] at hp
    have hle : 57 ≤ L.length * 57 - i * 57 := by omega
    rw [Nat.min_eq_left hle] at hp
    refine ⟨b, cap, cur, cs[i], L[i], h1, h3, hd, by omega, ?_, h.sub i _ _ hc hd⟩
    apply Array.ext'
    rw [Array.toList_extract]
    simpa [List.extract] using hp
end Go.Proofs.Ythahadhdhpcndaa
