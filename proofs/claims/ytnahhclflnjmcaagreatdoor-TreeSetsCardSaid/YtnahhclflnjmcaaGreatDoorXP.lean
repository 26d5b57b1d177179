/- SetPath, whatever it answers; Beyond of a list. -/
import Derived.Test.YtnahhclflnjmcaaGreatDoorXO
import Derived.Test.YtnahhclflnjmcaaGreatDoorTW
import Derived.Test.YtnahhclflnjmcaaGreatDoorXK
namespace Go.Proofs.YtnahhclflnjmcaaGreatDoor
open Go Go.RowKit
set_option linter.unusedVariables false
set_option linter.unusedSimpArgs false
set_option maxRecDepth 100000

/-- What a SetPath comes to. -/
def setRn (n : Nat) (F : Nat → Node) (i ep pub : Int) (ps : List Int) : Nat := if setE n F i ep pub ps = 0 then n else 0
def setRF (n : Nat) (F : Nat → Node) (i ep pub : Int) (ps : List Int) : Nat → Node := if setE n F i ep pub ps = 0 then setF F (lg (lvs n)) i.toNat ep pub ((pathL n F i).zip ps) else F0
theorem setR_eq {n d j : Nat} {F : Nat → Node} {ep pub : Int} {ps : List Int} (h0 : setE n F j ep pub ps = 0) (hO : Ok d n F) (hL : rowsL n F j = rowsK F j d) : setRn n F j ep pub ps = n ∧ setRF n F j ep pub ps = setF F d j ep pub (((rowsM F d j).map (·.1)).zip ps) := by
  have h1 : lg (lvs n) = d := by rw [hO.lvs]; exact lg_pow hO.hd
  unfold setRn setRF pathL
  rw [if_pos h0, if_pos h0, h1, Int.toNat_natCast, hL]
  exact ⟨rfl, rfl⟩
theorem set_q (v : Value) (n : Nat) (F : Nat → Node) (i ep pub : Int) (vp : Value) (ps : List Int) (w : World) (hT : Tab w) (hR : TrR w v n F) (hn : n ≤ 262144) (hps : Ints w vp ps) :
    Calls Tryz.prog 32 #[.agg #[v], .int .i64 i, .int .i64 ep, .int .i64 pub, vp] w fun e w' => ∃ v', e = .returned (.tuple #[.agg #[v'], .int .i64 (setE n F i ep pub ps)]) ∧ TrY w' w.heap.size v' (setRn n F i ep pub ps) (setRF n F i ep pub ps) ∧ Below w.heap.size w w' := by
  by_cases h0 : setE n F i ep pub ps = 0
  · obtain ⟨hz, h1, h2, h3, h4, h5⟩ := setE_yes h0
    obtain ⟨d, j, hO, rfl, hj, hp, hL⟩ := rowsE_zero h3
    obtain ⟨e1, e2⟩ := setR_eq h0 hO hL
    rw [e1, e2, h0]
    have hl : ps.length = (rowsM F d j).length := by
      rw [h4]
      unfold pathL
      rw [hL, List.length_map]
      rfl
    by_cases hp0 : ps.length = 0
    · exact (set_none v n d j F ep pub vp ps w hT hR hO hj hp h1 h2 hps hl h5 hp0).mono fun e w' h => by
        obtain ⟨v', k1, k2⟩ := h.out
        exact ⟨v', k1, .inr k2, h.bel⟩
    · exact (set_some v n d j F ep pub vp ps w hT hR hO hj hp h1 h2 hps hl h5 hp0).mono fun e w' h => by
        obtain ⟨v', k1, k2⟩ := h.out
        exact ⟨v', k1, .inr k2, h.bel⟩
  · exact (set_no v n F i ep pub vp ps w hT hR hn hps h0).mono fun e w' h => ⟨.slice none 0 0, h.out, .inl ⟨rfl, if_neg h0⟩, h.bel⟩
theorem rset_q (v : Value) (n : Nat) (F : Nat → Node) (i ep pub : Int) (vp : Value) (ps : List Int) (w : World) (hpos : 0 < w.heap.size) (hR : TrR w v n F) (hun : ∀ y, y < n → (F y).un.length ≤ 1000000) (hi : (Lit.int .i64 i).wf = true) (hps : Ints w vp ps) :
    Calls Tryz.prog 33 #[.agg #[v], .int .i64 i, .int .i64 ep, .int .i64 pub, vp] w fun e w' => ∃ v' uv, e = .returned (.tuple #[.agg #[v'], .int .i64 (setE n F i ep pub ps)]) ∧ RwT w' w.heap.size v' (setRn n F i ep pub ps) (setRF n F i ep pub ps) uv ∧ Below w.heap.size w w' := by
  by_cases h0 : setE n F i ep pub ps = 0
  · obtain ⟨hz, h1, h2, h3, h4, h5⟩ := setE_yes h0
    obtain ⟨d, j, hO, rfl, hj, hp, hL⟩ := rowsE_zero h3
    obtain ⟨e1, e2⟩ := setR_eq h0 hO hL
    rw [e1, e2, h0]
    have hl : ps.length = (rowsM F d j).length := by
      rw [h4]
      unfold pathL
      rw [hL, List.length_map]
      rfl
    exact (rset_yes v n d j F ep pub vp ps w hpos hR hO hj hp h1 h2 hps hl h5).mono fun e w' h => by
      obtain ⟨v', uv, B, k1, k2, k3⟩ := h.out
      exact ⟨v', uv, k1, k3.lower k2, h.bel⟩
  · exact (rset_no v n F i ep pub vp ps w hpos hR hun hi hps h0).mono fun e w' h => ⟨.slice none 0 0, fun _ => .slice none 0 0, h.out, by rw [show setRn n F i ep pub ps = 0 from if_neg h0]; exact RwT.nil _ _ _ _, h.bel⟩
/-- A row's tree asks for the blocks from B on alone. -/
theorem RwT.far {w w' : World} {B n : Nat} {v : Value} {F : Nat → Node} {uv : Nat → Value} (h : RwT w B v n F uv) (hs : ∀ k, B ≤ k → w'.heap[k]? = w.heap[k]?) : RwT w' B v n F uv := by
  refine ⟨⟨h.row.1, ?_⟩, fun y hy => ⟨(h.un y hy).1, ?_⟩, h.nb, h.wf⟩
  · rcases h.row.2 with h1 | ⟨g, cap, cur, h1, h2, h3, h4⟩
    · exact .inl h1
    · exact .inr ⟨g, cap, cur, h1, h2, (hs g h2).trans h3, h4⟩
  · rcases (h.un y hy).2 with h1 | ⟨g, cap, cur, h1, h2, h3, h4⟩
    · exact .inl h1
    · exact .inr ⟨g, cap, cur, h1, h2, (hs g h2).trans h3, h4⟩
theorem setR_len (n : Nat) (F : Nat → Node) (i ep pub : Int) (ps : List Int) : setRn n F i ep pub ps ≤ 15 ∧ ∀ y, y < setRn n F i ep pub ps → (setRF n F i ep pub ps y).un.length ≤ 8 := by
  by_cases h0 : setE n F i ep pub ps = 0
  · obtain ⟨hz, h1, h2, h3, h4, h5⟩ := setE_yes h0
    obtain ⟨d, j, hO, rfl, hj, hp, hL⟩ := rowsE_zero h3
    obtain ⟨e1, e2⟩ := setR_eq h0 hO hL
    rw [e1, e2]
    refine ⟨hO.n_le, fun y hy => ?_⟩
    unfold setF
    split
    · exact hO.un_len hy
    · split
      · show [].length ≤ 8; decide
      · split
        · show [].length ≤ 8; decide
        · exact hO.un_len hy
  · have e1 : setRn n F i ep pub ps = 0 := if_neg h0
    rw [e1]
    exact ⟨by decide, fun y hy => by omega⟩
/-- What Beyond answers. -/
def bey : Int → List Int → Bool
  | _, [] => false
  | t, s :: l => if s < 0 ∨ 262144 < s then true else if 262144 < t + s then true else bey (t + s) l
theorem bey_no : ∀ {l : List Int} {t : Int}, bey t l = false → ∀ s ∈ l, 0 ≤ s ∧ s ≤ 262144
  | [], t, h, s, hs => by cases hs
  | u :: l, t, h, s, hs => by
    unfold bey at h
    by_cases h1 : u < 0 ∨ 262144 < u
    · rw [if_pos h1] at h; cases h
    · rw [if_neg h1] at h
      by_cases h2 : 262144 < t + u
      · rw [if_pos h2] at h; cases h
      · rw [if_neg h2] at h
        rcases List.mem_cons.1 hs with rfl | hs
        · omega
        · exact bey_no h s hs
theorem bey_at {l : List Int} {i : Nat} {t s : Int} (h : l[i]? = some s) : bey t (l.drop i) = if s < 0 ∨ 262144 < s then true else if 262144 < t + s then true else bey (t + s) (l.drop (i + 1)) := by
  obtain ⟨h1, h2⟩ := List.getElem?_eq_some_iff.1 h
  rw [List.drop_eq_getElem_cons h1, h2]
  rfl
set_option maxHeartbeats 2000000 in
theorem beyond (v : Value) (l : List Int) (w : World) (h : Ints w v l) (hl : l.length ≤ 1000000) :
    Calls Tryz.prog 7 #[v] w fun e w' => e = .returned (.bool (bey 0 l)) ∧ w = w' := by
  obtain ⟨A, c, rfl, -, -, -⟩ := id h
  have HI := Lib.hid h
  obtain ⟨n, hn⟩ : ∃ n, n = l.length := ⟨_, rfl⟩
  rw [← hn] at hl ⊢
  have HN := Lib.hid hn
  obtain ⟨q, hq⟩ : ∃ q, q = bey 0 l := ⟨_, rfl⟩
  rw [← hq]
  have HQ := Lib.hid hq
  clear h hn hq
  go_enter Tryz.func7, Tryz.ntmps7
  go_wp2_with fail
  go_loopg [3, 4] (n + 1) (fun g v3 v4 wr => ∃ (i : Nat) (t : Int), i ≤ n ∧ i + g = n + 1 ∧ v3 = .int .i64 t ∧ v4 = .int .i64 (i : Int) ∧ 0 ≤ t ∧ t ≤ 262144 ∧ Hid (bey t (l.drop i) = q) ∧ w = wr)
  case atStart => exact ⟨0, 0, by omega, by omega, rfl, rfl, by omega, by omega, Lib.hid (by rw [HQ.out]; rfl), rfl⟩
  case round =>
    obtain ⟨i, t, hi, hg, rfl, rfl, ht1, ht2, HB, rfl⟩ := hrel
    have HG := Lib.hid hg
    clear hg
    by_cases hlt : i < n
    · obtain ⟨s, hs⟩ : ∃ s, l[i]? = some s := ⟨l[i]'(by have := HN.out; omega), List.getElem?_eq_getElem _⟩
      have hb := HB.out
      rw [bey_at hs] at hb
      obtain ⟨b, o, rfl, c0⟩ := HI.out.at hs
      have hbl := World.block_lt_of_cell? _ _ c0
      have i1 : (0 : Int) ≤ (i : Int) := by omega
      have i2 : (i : Int) < (n : Int) := by omega
      clear hs
      by_cases h1 : s < 0
      · rw [if_pos (.inl h1)] at hb
        have t1 : decide (s < 0) = true := decide_eq_true h1
        subst hb
        clear h1 ht1 ht2
        go_wp2_with fail
        go_ret
        exact ⟨rfl, rfl⟩
      · have t1 : decide (s < 0) = false := decide_eq_false h1
        by_cases h2 : 262144 < s
        · rw [if_pos (.inr h2)] at hb
          have t2 : decide (262144 < s) = true := decide_eq_true h2
          subst hb
          clear h1 h2 ht1 ht2
          go_wp2_with fail
          go_ret
          exact ⟨rfl, rfl⟩
        · have t2 : decide (262144 < s) = false := decide_eq_false h2
          rw [if_neg (by omega)] at hb
          have ew : wrap64 (t + s) = t + s := by unfold wrap64; omega
          have HS := Lib.hid (show 0 ≤ t + s by omega)
          by_cases h3 : 262144 < t + s
          · rw [if_pos h3] at hb
            have t3 : decide (262144 < t + s) = true := decide_eq_true h3
            subst hb
            clear h1 h2 h3 ht1 ht2
            go_wp2_with fail
            go_ret
            exact ⟨rfl, rfl⟩
          · rw [if_neg h3] at hb
            have t3 : decide (262144 < t + s) = false := decide_eq_false h3
            have HB2 := Lib.hid hb
            have HU := Lib.hid (show t + s ≤ 262144 by omega)
            clear hb h1 h2 h3 ht1 ht2
            go_wp2_with fail
            go_roundg (gk - 1)
            case rel => exact ⟨i + 1, t + s, by omega, by have := HG.out; omega, by go_num, by go_num, HS.out, HU.out, HB2, rfl⟩
            case measure => have := HG.out; omega
    · obtain rfl : i = n := by omega
      have hb := HB.out
      rw [show l.drop i = [] from List.drop_eq_nil_of_le (by have := HN.out; omega)] at hb
      unfold bey at hb
      subst hb
      go_wp2_with fail
      go_ret
      exact ⟨rfl, rfl⟩
end Go.Proofs.YtnahhclflnjmcaaGreatDoor
