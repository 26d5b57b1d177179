/- Path. -/
import Derived.Test.YtopkanokpfhmmaaDoorTX
namespace Go.Proofs.YtopkanokpfhmmaaDoor
open Go Go.RowKit
set_option linter.unusedVariables false
set_option linter.unusedSimpArgs false

def rowsL (n : Nat) (F : Nat → Node) (i : Int) : List (Nat × List Int) := if rowsE n F i = 0 then rowsM F (lg (lvs n)) i.toNat else []
theorem rowsE_ok {n d : Nat} {F : Nat → Node} {i : Int} (hO : Ok d n F) (h : rowsE n F i = 0) : ∃ j : Nat, i = j ∧ j < 2 ^ d ∧ 1 ≤ (F (2 * j)).pub := by
  have hz : chk n F = true := chk_iff.2 (.inr ⟨d, hO⟩)
  unfold rowsE at h
  rw [hz, if_neg (by decide)] at h
  by_cases h1 : i < 0 ∨ (lvs n : Int) ≤ i ∨ (F (2 * i.toNat)).pub = 0
  · rw [if_pos h1] at h
    cases h
  · obtain ⟨j, rfl⟩ : ∃ j : Nat, i = j := ⟨i.toNat, by omega⟩
    rw [hO.lvs, Int.toNat_natCast] at h1
    have hj : j < 2 ^ d := by omega
    refine ⟨j, rfl, hj, ?_⟩
    rcases hO.leaf j hj with h2 | h2
    · rw [Node.blank_iff.1 h2] at h1
      exact absurd (by decide) (fun h => h1 (.inr (.inr h)))
    · exact h2.1
theorem rowsE_empty {F : Nat → Node} {i : Int} : rowsE 0 F i ≠ 0 := by
  unfold rowsE
  have : chk 0 F = true := rfl
  rw [this, if_neg (by decide), if_pos]
  · decide
  · have : lvs 0 = 0 := rfl
    rw [this]
    omega
theorem rows35 (v : Value) (n : Nat) (F : Nat → Node) (i : Int) (w : World) (hT : Tab w) (hR : TrR w v n F) (hn : n ≤ 262144) :
    Calls Tryd.prog 35 #[.agg #[v], .int .i64 i] w fun e w' => RowsA w (rowsL n F i) (rowsE n F i) e w' := by
  by_cases hq : rowsE n F i = 0
  · have hz : chk n F = true := by
      cases hz : chk n F with
      | true => rfl
      | false => unfold rowsE at hq; rw [if_pos hz] at hq; cases hq
    rcases chk_iff.1 hz with rfl | ⟨d, hO⟩
    · exact absurd hq rowsE_empty
    · obtain ⟨j, rfl, hj, hp⟩ := rowsE_ok hO hq
      unfold rowsL
      rw [hq, if_pos rfl, hO.lvs, lg_pow hO.hd, Int.toNat_natCast]
      exact rows_yes v n d j F w hT hR hO hj hp
  · unfold rowsL
    rw [if_neg hq]
    exact rows_no v n F i w hT hR hn hq
theorem rwCells_get : ∀ (M : List Rw1) (k : Nat) (r : Rw1), M[k]? = some r → (rwCells M)[k * 2]? = some (.int .i64 r.node) ∧ (rwCells M)[k * 2 + 1]? = some r.v
  | [], k, r, h => by simp at h
  | x :: M, 0, r, h => by
    obtain rfl : x = r := by simpa using h
    simp [rwCells]
  | x :: M, k + 1, r, h => by
    have ih := rwCells_get M k r (by simpa using h)
    have e : rwCells (x :: M) = .int .i64 x.node :: x.v :: rwCells M := by simp [rwCells]
    rw [e, show (k + 1) * 2 = k * 2 + 1 + 1 by omega]
    simpa using ih
theorem RowsO.at {w : World} {B : Nat} {vr : Value} {M : List Rw1} (h : RowsO w B vr M) {k : Nat} {r : Rw1} (hk : M[k]? = some r) :
    ∃ b c, vr = .slice (some ⟨b, 0, none⟩) M.length c ∧ B ≤ b ∧ w.cell? ⟨b, k * 2, none⟩ = some (.int .i64 r.node) ∧ w.cell? ⟨b, k * 2 + 1, none⟩ = some r.v := by
  have hlt := (List.getElem?_eq_some_iff.1 hk).1
  rcases h.row.2 with ⟨_, h2⟩ | ⟨b, cap, cur, rfl, h2, h3, h4, h5, h6, h7⟩
  · omega
  · obtain ⟨g0, g1⟩ := rwCells_get M k r hk
    rw [← h7, List.getElem?_take_of_lt (by omega), Array.getElem?_toList] at g0 g1
    exact ⟨b, cap, rfl, h2, by rw [cell_of_row _ _ _ _ _ _ h3]; exact g0, by rw [cell_of_row _ _ _ _ _ _ h3]; exact g1⟩
def pathL (n : Nat) (F : Nat → Node) (i : Int) : List Nat := (rowsL n F i).map (·.1)
/-- What Path answers. -/
structure PathA (w : World) (L : List Nat) (c : Int) (e : Ending) (w' : World) : Prop where
  out : ∃ v', e = .returned (.tuple #[v', .int .i64 c]) ∧ OwnI w' w.heap.size v' (natL L)
  bel : Below w.heap.size w w'
set_option maxHeartbeats 4000000 in
set_option maxRecDepth 100000 in
theorem path17 (v : Value) (n : Nat) (F : Nat → Node) (i : Int) (w : World) (hT : Tab w) (hR : TrR w v n F) (hn : n ≤ 262144) :
    Calls Tryd.prog 17 #[.agg #[v], .int .i64 i] w fun e w' => PathA w (pathL n F i) (rowsE n F i) e w' := by
  have hbA : Below w.heap.size w (w.alloc (.cells #[v] 24)) := (Below.refl _ _).alloc (Nat.le_refl _) _
  have hr := rows35 v n F i _ (hT.below hT.pos hbA) (hR.below hbA) hn
  have hlen : (rowsL n F i).length ≤ 3 := by
    unfold rowsL
    split
    · refine Nat.le_trans (rowsK_length F i.toNat (lg (lvs n))) ?_
      unfold lg
      repeat' split
      all_goals omega
    · simp
  unfold pathL
  generalize rowsE n F i = c at *
  generalize rowsL n F i = L at *
  obtain ⟨A, cc, rfl, -, -, -⟩ := hR
  go_enter Tryd.func17, Tryd.ntmps17
  go_wp2_with fail
  refine hr.mono ?_
  rintro e w1 ⟨⟨vr, M, rfl, hM, hML⟩, hb1⟩
  have hbw1 := below_box hb1
  obtain ⟨Ar, cr, hvr⟩ := hM.slice
  subst hvr
  have HM := Lib.hid hM
  have hMl : M.length ≤ 3 := by rw [← hML, List.length_map] at hlen; exact hlen
  have HML := Lib.hid hML
  obtain ⟨S2, hS2⟩ : ∃ S2, S2 = w1.heap.size := ⟨_, rfl⟩
  have HS2 := Lib.hid (And.intro hS2 hbw1)
  have hS2' : S2 ≤ w1.heap.size := by omega
  generalize hml : M.length = ml at *
  have HLN := Lib.hid hml
  clear hM hML hb1 hr hlen hS2 hml
  go_wp2_with fail
  go_loopg [8, 19] (ml + 1) (fun g v8 v19 wr => ∃ k : Nat, k ≤ ml ∧ k + g = ml + 1 ∧ v19 = .int .i64 k ∧ OwnI wr S2 v8 (natL ((M.take k).map (·.node))) ∧ Below S2 w1 wr ∧ S2 ≤ wr.heap.size)
  case atStart => exact ⟨0, by omega, by omega, rfl, World.ownsRow_nil _ _ _ _, Below.refl _ _, hS2'⟩
  case round =>
    obtain ⟨k, hk, hg, rfl, hown, hbel, hSr⟩ := hrel
    have HG := Lib.hid hg
    have HOWN := Lib.hid hown
    clear hg
    by_cases hlt : k < ml
    · obtain ⟨r, hrk⟩ : ∃ r, M[k]? = some r := ⟨M[k]'(by have := HLN.out; omega), List.getElem?_eq_getElem _⟩
      obtain ⟨b, c', e, -, d0, d1⟩ := HM.out.at hrk
      have e1 : Ar = some ⟨b, 0, none⟩ := by injection e
      clear e
      subst e1
      have hb1s := World.block_lt_of_cell? _ _ d0
      have hbel1 : Below w1.heap.size w1 wr := by have := HS2.out.1; rw [← this]; exact hbel
      have x0 := (hbel1.cell (p := ⟨b, k * 2, none⟩) hb1s).trans d0
      have x1 := (hbel1.cell (p := ⟨b, k * 2 + 1, none⟩) hb1s).trans d1
      have hbr := World.block_lt_of_cell? _ _ x0
      have j1 : (0 : Int) ≤ (k : Int) := by omega
      have j2 : (k : Int) < (ml : Int) := by omega
      have HT := Lib.hid (show natL ((M.take (k + 1)).map (·.node)) = natL ((M.take k).map (·.node)) ++ [(r.node : Int)] by
        rw [List.take_add_one, hrk]; simp [natL])
      have hlen2 : (natL ((M.take k).map (·.node))).length < 4294967296 := by simp [natL]; omega
      generalize natL ((M.take k).map (·.node)) = TT at *
      obtain ⟨At, ct, rfl⟩ := hown.slice
      obtain ⟨node, rv, rl⟩ := r
      simp only at x0 x1 HT d0 d1
      have hval : ∃ A2 n2 c2, rv = .slice A2 n2 c2 := by
        obtain ⟨A2, c2, e⟩ := (HM.out.own ⟨node, rv, rl⟩ (List.mem_of_getElem? hrk)).slice
        exact ⟨A2, _, c2, e⟩
      obtain ⟨A2, n2, c2, rfl⟩ := hval
      have hown2 := Lib.hid (HOWN.out.below ((Below.refl _ _).alloc (Nat.le_refl _) (.cells #[.int .i64 (node : Int), .slice A2 n2 c2] 71)))
      have hbel2 := hbel.alloc hSr (.cells #[.int .i64 (node : Int), .slice A2 n2 c2] 71)
      have hB2 : S2 ≤ (wr.alloc (.cells #[.int .i64 (node : Int), .slice A2 n2 c2] 71)).heap.size := by simp; omega
      clear hrk d0 d1 hbel1 hown
      go_wp2_with (at_builtin; refine pushg rfl _ _ rfl rfl rfl hown2 hbel2 hB2 ?c0 hlen2 ?_)
      intro v' w' h1 h2 h3
      have H1 := Lib.hid h1
      clear h1 hown2
      go_wp2_with fail
      go_roundg (gk - 1)
      case rel => exact ⟨k + 1, by omega, by have := HG.out; omega, by go_num, by rw [HT.out]; exact H1.out, h2, h3⟩
      case measure => have := HG.out; omega
    · obtain rfl : k = ml := by omega
      rw [show M.take k = M from List.take_of_length_le (by have := HLN.out; omega)] at HOWN
      clear hown
      go_wp2_with fail
      go_ret2
      have hbw := HS2.out.2
      refine ⟨⟨_, rfl, ?_⟩, hbw.trans (hbel.mono (by have := HS2.out.1; have := hbw.size; omega))⟩
      have e : (L.map (·.1)) = M.map (·.node) := by rw [← HML.out]; simp
      rw [e]
      exact own_lower (by have := HS2.out.1; have := hbw.size; omega) HOWN.out
end Go.Proofs.YtopkanokpfhmmaaDoor
