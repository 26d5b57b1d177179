/- Direct of a leaf; changes of an own tree; Add. -/
import Derived.Test.YtopkanokpfhmmaaDoorTB
namespace Go.Proofs.YtopkanokpfhmmaaDoor
open Go Go.RowKit
set_option linter.unusedVariables false
set_option linter.unusedSimpArgs false

def natL (l : List Nat) : List Int := l.map fun x : Nat => (x : Int)
theorem natL_get {l : List Nat} {i x : Nat} (h : l[i]? = some x) : (natL l)[i]? = some (x : Int) := by unfold natL; rw [List.getElem?_map, h]; rfl
theorem dirs_cons (d i : Nat) : upL (2 * i) 0 (d + 1) = ((2 * i : Nat) : Int) :: natL (dirs d i) := by
  have := upL_cons (2 * i) 0 i d (by unfold Nd; simp)
  rw [show 0 + 1 = 1 by rfl] at this
  have e : upL (2 * i) 0 (d + 1) = ((2 * i : Nat) : Int) :: upL (2 * i) 1 d := by
    rw [upL_cons (2 * i) 0 i d (by unfold Nd; simp)]
  rw [e]
  unfold upL natL dirs
  simp [List.map_map, Function.comp_def, Nat.add_comm]
theorem dirs_length (d i : Nat) : (dirs d i).length = d := by simp [dirs]
set_option maxHeartbeats 1000000 in
theorem dir_long (x l : Int) (y : Int) (L : List Int) (hL : 0 < L.length) (w : World) (hu : Calls Tryd.prog 45 #[.int .i64 x, .int .i64 l] w fun e w' => ∃ v, e = .returned v ∧ OwnI w' w.heap.size v (y :: L) ∧ Below w.heap.size w w') :
    Calls Tryd.prog 31 #[.int .i64 x, .int .i64 l] w fun e w' => ∃ v, e = .returned v ∧ Ints w' v L ∧ (∀ k, v.ownBlock = some k → w.heap.size ≤ k) ∧ Below w.heap.size w w' := by
  go_enter Tryd.func31, Tryd.ntmps31
  go_wp2_with (go_at_call 45; refine hu.mono ?_)
  rintro e w1 ⟨v, rfl, ho, hb⟩
  have hown := World.ownsRow.lt ho
  obtain ⟨A, c, rfl, hc, hm, hr⟩ := ho.ints
  obtain ⟨b, off, rfl, hcell⟩ := hr (by simp)
  have HC := Lib.hid hcell
  have hbw : w.heap.size ≤ b := (hown b rfl).1
  clear hr hcell hu ho hown
  obtain ⟨n, hn⟩ : ∃ n, n = (y :: L).length := ⟨_, rfl⟩
  rw [← hn] at hc ⊢
  have HN := Lib.hid hn
  have q0 : 2 ≤ n := by rw [hn]; simp; omega
  clear hn
  have q1 : n ≤ 9223372036854775807 := by unfold maxLen at hm; omega
  have q : decide ((n : Int) < 2) = false := decide_eq_false (by omega)
  go_wp2
  go_ret
  have hn1 : n - 1 = L.length := by have := HN.out; simp at this; omega
  refine ⟨_, rfl, ⟨_, L.length, by rw [hn1]; rfl, Nat.le_refl _, by unfold maxLen; omega, fun _ => ⟨b, off + 1, rfl, fun i z hz => ?_⟩⟩, fun k hk => ?_, hb⟩
  · have := HC.out (i + 1) z (by simpa using hz)
    rw [show off + 1 + i = off + (i + 1) by omega]
    exact this
  · obtain rfl : b = k := by simpa [Value.ownBlock] using hk
    exact hbw
set_option maxHeartbeats 1000000 in
theorem dir_short (x l : Int) (L : List Int) (hL : L.length < 2) (w : World) (hu : Calls Tryd.prog 45 #[.int .i64 x, .int .i64 l] w fun e w' => ∃ v, e = .returned v ∧ OwnI w' w.heap.size v L ∧ Below w.heap.size w w') :
    Calls Tryd.prog 31 #[.int .i64 x, .int .i64 l] w fun e w' => ∃ v, e = .returned v ∧ Ints w' v [] ∧ (∀ k, v.ownBlock = some k → w.heap.size ≤ k) ∧ Below w.heap.size w w' := by
  go_enter Tryd.func31, Tryd.ntmps31
  go_wp2_with (go_at_call 45; refine hu.mono ?_)
  rintro e w1 ⟨v, rfl, ho, hb⟩
  obtain ⟨A, c, rfl, hc, hm, hr⟩ := ho.ints
  have q : decide ((L.length : Int) < 2) = true := decide_eq_true (by omega)
  go_wp2
  go_ret
  refine ⟨_, rfl, Ints.nil _, fun k hk => ?_, hb⟩
  cases hk
/-- Direct of a leaf. -/
theorem dir31 (d i l : Nat) (hd : d ≤ 3) (hl : l = 2 ^ d) (hi : i < l) (w : World) (hT : Tab w) :
    Calls Tryd.prog 31 #[.int .i64 (2 * (i : Int)), .int .i64 l] w fun e w' => ∃ v, e = .returned v ∧ Ints w' v (natL (dirs d i)) ∧ (∀ k, v.ownBlock = some k → w.heap.size ≤ k) ∧ Below w.heap.size w w' := by
  have hN : Nd (2 * i) 0 i := by unfold Nd; simp
  have hs := two_succ d
  have hu := up_yes (2 * i) 0 i d (by omega) hN (by omega) w hT
  rw [show d - 0 + 1 = d + 1 by omega, dirs_cons, ← hl, show ((2 * i : Nat) : Int) = 2 * (i : Int) by omega] at hu
  by_cases h0 : d = 0
  · subst h0
    exact dir_short _ _ _ (by simp [dirs, natL]) w hu
  · exact dir_long _ _ _ _ (by unfold natL; rw [List.length_map, dirs_length]; omega) w hu

variable {w0 w w' : World} {B b n i : Nat} {F : Nat → Node} {uv : Nat → Value}
/-- A list has grown, or was laid anew. -/
theorem OwnK.insert (h : OwnK w0 w B b n n F uv) {y : Nat} (hy : y < n) {w3 : World} {u' : Value} {l' : List Int} (hg : w.grownBy w3 (uv y).ownBlock) (ho : OwnI w3 B u' l')
    (hlie : u'.ownBlock = (uv y).ownBlock ∨ u'.ownBlock = some w.heap.size) :
    OwnK w0 (w3.setCell ⟨b, y * 4 + 3, none⟩ u') B b n n (fun z => if z = y then { F y with un := l' } else F z) (fun z => if z = y then u' else uv z) := by
  have hlt : ∀ z, z < n → ∀ k, (uv z).ownBlock = some k → k < w.heap.size := fun z hz k hk => (World.ownsRow.lt (h.un z hz hz) k hk).2
  have hub : u'.ownBlock ≠ some b := by
    rcases hlie with e | e
    · rw [e]; exact h.nb y hy hy
    · rw [e]; intro e2; have := h.blt; injection e2 with e2; omega
  have hap : ∀ z, z < n → z ≠ y → ∀ k, u'.ownBlock = some k → (uv z).ownBlock ≠ some k := fun z hz hne k hk e => by
    rcases hlie with e2 | e2
    · rw [e2] at hk
      exact h.ap y z hy hz hy hz (fun e => hne e.symm) k hk e
    · rw [e2] at hk
      have := hlt z hz k e
      injection hk with hk
      omega
  have row3 : w3.rowIs b 45 (n * 4) (cellF F uv) := h.row.of_block (hg.block b h.blt (fun e => h.nb y hy hy e.symm))
  refine ⟨h.hb, (row3.set (y * 4 + 3) u').congr fun j hj => ?_, fun z h1 _ => ?_, fun z h1 h2 => by omega, fun z h1 _ => ?_, fun z z' h1 h2 _ _ h5 k hk => ?_, fun z h1 => ?_⟩
  · show (if j = y * 4 + 3 then u' else cellF F uv j) = cellF _ _ j
    unfold cellF
    by_cases e : j = y * 4 + 3
    · subst e
      rw [if_pos rfl, if_neg (by omega), if_neg (by omega), if_neg (by omega), show (y * 4 + 3) / 4 = y by omega]
      simp
    · rw [if_neg e]
      by_cases e2 : j / 4 = y
      · by_cases c0 : j % 4 = 0
        · simp [c0, e2]
        by_cases c1 : j % 4 = 1
        · simp [c1, e2]
        by_cases c2 : j % 4 = 2
        · simp [c2, e2]
        omega
      · simp [e2]
  · by_cases e : z = y
    · simp only [e, if_true]
      exact ho.setOther hub _
    · simp only [e, if_false]
      refine OwnI.setOther ?_ (h.nb z h1 h1) _
      refine World.ownsRow.kept (h.un z h1 h1) hg ?_
      cases e3 : (uv z).ownBlock with
      | none => exact .inl rfl
      | some k => exact .inr (fun e4 => h.ap z y h1 hy h1 hy e k e3 e4.symm)
  · by_cases e : z = y
    · simp only [e, if_true]; exact hub
    · simp only [e, if_false]; exact h.nb z h1 h1
  · by_cases e : z = y
    · simp only [e, if_true] at hk
      have e' : z' ≠ y := fun e2 => h5 (e.trans e2.symm)
      simp only [e', if_false]
      exact hap z' h2 e' k hk
    · simp only [e, if_false] at hk
      by_cases e' : z' = y
      · simp only [e', if_true]
        intro hk2
        exact hap z h1 e k hk2 hk
      · simp only [e', if_false]
        exact h.ap z z' h1 h2 h1 h2 h5 k hk
  · by_cases e : z = y
    · simp only [e, if_true]; exact h.wf y hy
    · simp only [e, if_false]; exact h.wf z h1
theorem OwnK.congr (h : OwnK w0 w B b n n F uv) {G : Nat → Node} (he : ∀ y, y < n → F y = G y) : OwnK w0 w B b n n G uv := by
  refine ⟨h.hb, h.row.congr fun j hj => ?_, fun y h1 h2 => by rw [← he y h1]; exact h.un y h1 h2, fun y h1 h2 => by omega, h.nb, h.ap, fun y h1 => by rw [← he y h1]; exact h.wf y h1⟩
  unfold cellF
  rw [he (j / 4) (by omega)]
end Go.Proofs.YtopkanokpfhmmaaDoor
