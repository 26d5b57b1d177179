/- slices.IndexFunc and DeleteFunc, with Targets' function. -/
import Derived.Test.YtopkanokpfhmmaaDoorVH
namespace Go.Proofs.YtopkanokpfhmmaaDoor
open Go Go.RowKit
set_option linter.unusedVariables false
set_option linter.unusedSimpArgs false

/-- -1 and none is so, or the first that is. -/
inductive FirstP (p : Int → Bool) (l : List Int) (z : Int) : Prop
  | none (h : z = -1) (h2 : ∀ x ∈ l, p x = false)
  | some (k : Nat) (x : Int) (h : z = k) (h1 : l[k]? = some x) (h2 : p x = true) (h3 : ∀ j y, j < k → l[j]? = some y → p y = false)
set_option maxHeartbeats 2000000 in
set_option maxRecDepth 100000 in
theorem ixf54 (v pt : Value) (p : Int → Bool) (l : List Int) (w : World) (h : Ints w v l) (hl : l.length ≤ 1000000) (hcl : ∀ x ∈ l, Calls Tryd.prog 40 #[.int .i64 x, pt] w fun e w' => e = .returned (.bool (p x)) ∧ w = w') :
    Calls Tryd.prog 54 #[v, .func (.func 40) #[] #[pt]] w fun e w' => ∃ z : Int, e = .returned (.int .i64 z) ∧ FirstP p l z ∧ w = w' := by
  obtain ⟨A, c, rfl, h1, h2, h3⟩ := h
  have H3 := Lib.hid h3
  have HCL := Lib.hid hcl
  clear h3 h1 h2 hcl
  generalize hn : l.length = n at *
  have HN := Lib.hid hn
  clear hn
  go_enter Tryd.func54, Tryd.ntmps54
  go_wp2_with fail
  go_loopg [8] (n + 1) (fun g v8 wr => ∃ i : Nat, i ≤ n ∧ i + g = n + 1 ∧ v8 = .int .i64 i ∧ (∀ j y, j < i → l[j]? = some y → p y = false) ∧ wr = w)
  case atStart => exact ⟨0, by omega, by omega, rfl, fun j y hj => by omega, rfl⟩
  case round =>
    obtain ⟨i, hi, hg, rfl, hall, rfl⟩ := hrel
    have HG := Lib.hid (And.intro hg hall)
    clear hg hall
    by_cases hlt : i < n
    · obtain ⟨u, hu⟩ : ∃ u, l[i]? = some u := ⟨l[i]'(by have := HN.out; omega), List.getElem?_eq_getElem _⟩
      obtain ⟨b, o, rfl, hc⟩ := H3.out (by omega)
      have cu := hc i u hu
      have HU := Lib.hid hu
      have q1 : (0 : Int) ≤ (i : Int) := by omega
      have q2 : (i : Int) < n := by omega
      have hq := HCL.out u (List.mem_of_getElem? hu)
      clear hu hc
      cases hpu : p u with
      | true =>
        rw [hpu] at hq
        have HP := Lib.hid hpu
        clear hpu
        go_wp2_with fail
        refine hq.mono ?_
        rintro e w' ⟨rfl, rfl⟩
        go_wp2_with fail
        go_ret
        exact ⟨_, rfl, .some i u rfl HU.out HP.out HG.out.2, rfl⟩
      | false =>
        rw [hpu] at hq
        have HP := Lib.hid hpu
        clear hpu
        go_wp2_with fail
        refine hq.mono ?_
        rintro e w' ⟨rfl, rfl⟩
        go_wp2_with fail
        go_roundg (gk - 1)
        case rel => exact ⟨i + 1, by omega, by have := HG.out.1; omega, by go_num, fun j y hj hy => by
          by_cases e : j = i
          · subst e
            rw [HU.out] at hy
            rw [← Option.some.inj hy]
            exact HP.out
          · exact HG.out.2 j y (by omega) hy, rfl⟩
        case measure => have := HG.out.1; omega
    · obtain rfl : i = n := by omega
      go_wp2_with fail
      go_ret
      exact ⟨_, rfl, .none rfl fun x hx => by
        obtain ⟨j, hj⟩ := List.mem_iff_getElem?.1 hx
        exact HG.out.2 j x (by have := (List.getElem?_eq_some_iff.1 hj).1; have := HN.out; omega) hj, rfl⟩
/-- What DeleteFunc leaves. -/
structure DelfP (B : Nat) (v : Value) (l : List Int) (w : World) (e : Ending) (w' : World) : Prop where
  out : ∃ v', e = .returned v' ∧ OwnI w' B v' l ∧ v'.ownBlock = v.ownBlock
  grown : w.grownBy w' v.ownBlock
theorem filter_take {p : Int → Bool} {l : List Int} {j : Nat} {x : Int} (h : l[j]? = some x) : (l.take (j + 1)).filter p = (l.take j).filter p ++ if p x = true then [x] else [] := by
  rw [List.take_add_one, h, List.filter_append]
  by_cases hp : p x = true
  · simp [hp]
  · simp [hp]
theorem sub_len {p : Int → Bool} (l : List Int) (j : Nat) : ((l.take j).filter p).length ≤ j :=
  Nat.le_trans (List.length_filter_le _ _) (by simp; omega)
set_option maxHeartbeats 4000000 in
set_option maxRecDepth 100000 in
theorem delf39 (v pt : Value) (p : Int → Bool) (B : Nat) (l : List Int) (w : World) (h : OwnI w B v l) (hl : l.length ≤ 1000000)
    (hcl : ∀ W, w.grownBy W v.ownBlock → ∀ x ∈ l, Calls Tryd.prog 40 #[.int .i64 x, pt] W fun e w' => e = .returned (.bool (p x)) ∧ W = w') :
    Calls Tryd.prog 39 #[v, .func (.func 40) #[] #[pt]] w fun e w' => DelfP B v (l.filter fun x => !p x) w e w' := by
  have hix := ixf54 v pt p l w h.ints hl (hcl w (World.grownBy.refl _ _))
  by_cases h0 : l.length = 0
  · obtain rfl := List.eq_nil_of_length_eq_zero h0
    obtain ⟨A, c, rfl⟩ := h.slice
    have HO := Lib.hid h
    clear h hcl h0
    go_enter Tryd.func39, Tryd.ntmps39
    go_wp2_with fail
    refine hix.mono ?_
    rintro e w' ⟨z, rfl, hz, rfl⟩
    cases hz with
    | some k x h h1 h2 h3 => simp at h1
    | none h h2 =>
      subst h
      clear h2
      go_wp2_with fail
      go_ret
      exact ⟨⟨_, rfl, HO.out, rfl⟩, World.grownBy.refl _ _⟩
  · obtain ⟨b, c, f0, rfl, hB, hr, hlc, hcm, hf⟩ := h.row (by omega)
    have HO := Lib.hid h
    have HCL := Lib.hid hcl
    have HF := Lib.hid (And.intro hr hf)
    have HB := Lib.hid hB
    clear h hcl hf hr h0 hB
    generalize hn : l.length = n at *
    have HN := Lib.hid hn
    clear hn
    go_enter Tryd.func39, Tryd.ntmps39
    go_wp2_with fail
    refine hix.mono ?_
    rintro e w' ⟨z, rfl, hz, rfl⟩
    clear hix
    cases hz with
    | none h h2 =>
      subst h
      have HP := Lib.hid h2
      clear h2
      go_wp2_with fail
      go_ret
      refine ⟨⟨_, rfl, ?_, rfl⟩, World.grownBy.refl _ _⟩
      have e : (l.filter fun x => !p x) = l := List.filter_eq_self.2 fun x hx => by rw [HP.out x hx]; rfl
      rw [e]
      exact HO.out
    | some k0 x0 h h1 h2 h3 =>
      subst h
      have hk0 : k0 < n := by have := (List.getElem?_eq_some_iff.1 h1).1; have := HN.out; omega
      have HS : Hid (((l.take (k0 + 1)).filter fun x => !p x) = l.take k0) := Lib.hid (by
        rw [filter_take h1, h2]
        have e : ((l.take k0).filter fun x => !p x) = l.take k0 := List.filter_eq_self.2 fun x hx => by
          obtain ⟨j, hj⟩ := List.mem_iff_getElem?.1 hx
          have hjk : j < k0 := by have := (List.getElem?_eq_some_iff.1 hj).1; simp at this; omega
          rw [List.getElem?_take_of_lt hjk] at hj
          rw [h3 j x hjk hj]; rfl
        rw [e]; simp)
      have t1 : ((k0 : Int) == -1) = false := by rw [beq_eq_false_iff_ne]; omega
      clear h1 h2 h3
      go_wp2_with fail
      go_loopg [5, 6] (n - k0) (fun g v5 v6 wr => ∃ (i j : Nat) (f : Nat → Value), j ≤ n ∧ i < j ∧ j + g = n + 1 ∧ v5 = .int .i64 i ∧ v6 = .int .i64 j ∧ wr.rowIs b 3 c f ∧ w.grownBy wr (some b) ∧
        (∀ m, i ≤ m → m < c → f m = f0 m) ∧ ((l.take j).filter fun x => !p x).length = i ∧ ∀ m x, ((l.take j).filter fun x => !p x)[m]? = some x → f m = .int .i64 x)
      case atStart =>
        refine ⟨k0, k0 + 1, f0, by omega, by omega, by omega, rfl, by go_num, HF.out.1, World.grownBy.refl _ _, fun _ _ _ => rfl, ?_, fun m x hm => ?_⟩
        · rw [HS.out, List.length_take, HN.out]; exact Nat.min_eq_left (by omega)
        · rw [HS.out] at hm
          have hmk : m < k0 := by have := (List.getElem?_eq_some_iff.1 hm).1; simp at this; omega
          rw [List.getElem?_take_of_lt hmk] at hm
          exact HF.out.2 m x hm
      case round =>
        obtain ⟨i, j, f, hj, hij, hg, rfl, rfl, hr, hgr, hhi, hln, hlo⟩ := hrel
        have HG := Lib.hid (And.intro hg (And.intro hgr (And.intro hhi (And.intro hln hlo))))
        have HR := Lib.hid hr
        have hbl := hr.lt
        clear hg hhi hln hlo
        by_cases hlt : j < n
        · obtain ⟨u, hu⟩ : ∃ u, l[j]? = some u := ⟨l[j]'(by have := HN.out; omega), List.getElem?_eq_getElem _⟩
          have cu : wr.cell? ⟨b, j, none⟩ = some (.int .i64 u) := by
            rw [hr.cell (by omega), HG.out.2.2.1 j (by omega) (by omega), HF.out.2 j u hu]
          have ci := hr.cell (show i < c by omega)
          have fi := hr.frozen i
          have HU := Lib.hid hu
          have q1 : (0 : Int) ≤ (j : Int) := by omega
          have q2 : (j : Int) < n := by omega
          have q3 : (0 : Int) ≤ (i : Int) := by omega
          have q4 : (i : Int) < n := by omega
          have hq := HCL.out wr hgr u (List.mem_of_getElem? hu)
          clear hu hr hgr
          cases hpu : p u with
          | true =>
            rw [hpu] at hq
            have HP := Lib.hid hpu
            clear hpu ci fi
            go_wp2_with fail
            refine hq.mono ?_
            rintro e w' ⟨rfl, rfl⟩
            go_wp2_with fail
            go_roundg (gk - 1)
            case rel =>
              obtain ⟨g1, g2, g3, g4, g5⟩ := HG.out
              have e : ((l.take (j + 1)).filter fun x => !p x) = (l.take j).filter fun x => !p x := by rw [filter_take HU.out, HP.out]; simp
              exact ⟨i, j + 1, f, by omega, by omega, by omega, rfl, by go_num, HR.out, g2, g3, by rw [e]; exact g4, by rw [e]; exact g5⟩
            case measure => have := HG.out.1; omega
          | false =>
            rw [hpu] at hq
            have HP := Lib.hid hpu
            clear hpu
            go_wp2_with fail
            refine hq.mono ?_
            rintro e w' ⟨rfl, rfl⟩
            go_wp2_with fail
            go_roundg (gk - 1)
            case rel =>
              obtain ⟨g1, g2, g3, g4, g5⟩ := HG.out
              have e : ((l.take (j + 1)).filter fun x => !p x) = ((l.take j).filter fun x => !p x) ++ [u] := by rw [filter_take HU.out, HP.out]; simp
              refine ⟨i + 1, j + 1, _, by omega, by omega, by omega, by go_num, by go_num, HR.out.set i (.int .i64 u), g2.trans (grownBy_set _ _ _ _), fun m h1 h2 => ?_, by rw [e]; simp [g4], fun m x hm => ?_⟩
              · rw [if_neg (by omega)]; exact g3 m (by omega) h2
              · rw [e] at hm
                by_cases em : m = i
                · rw [if_pos em]
                  rw [List.getElem?_append_right (by omega), show m - ((l.take j).filter fun x => !p x).length = 0 by omega] at hm
                  rw [← Option.some.inj hm]
                · rw [if_neg em]
                  have hml := (List.getElem?_eq_some_iff.1 hm).1
                  rw [List.length_append, g4] at hml
                  simp at hml
                  rw [List.getElem?_append_left (by omega)] at hm
                  exact g5 m x hm
            case measure => have := HG.out.1; omega
        · obtain rfl : j = n := by omega
          have hlf : ((l.take j).filter fun x => !p x) = l.filter fun x => !p x := by rw [List.take_of_length_le (by have := HN.out; omega)]
          have hcr : ∀ ty, (Builtin.clear_ #[32] ty #[.slice (some ⟨b, i, none⟩) (j - i) (c - i)]).run Tryd.prog wr = .ok (.tuple #[]) (wr.setCells b i (List.replicate (j - i) (.int .i64 0))) := fun ty =>
            Lib.run_clear_slice wr 32 3 ty (.int .i64 0) Tryd.underlying32 zero3 rfl rfl b i (j - i) (c - i) (by omega) (fun m hm => by rw [hr.cell (by omega)]; rfl) (fun m hm => hr.frozen _)
          have HLF := Lib.hid hlf
          clear hlf hr hgr
          go_wp2_with fail
          go_ret
          obtain ⟨g1, g2, g3, g4, g5⟩ := HG.out
          rw [HLF.out] at g4 g5
          refine ⟨⟨_, rfl, ?_, rfl⟩, g2.trans (grownBy_setCells _ _)⟩
          rw [← g4]
          refine OwnI.of_row HB.out (rowIs_setCells _ _ _ _ HR.out) (by omega) hcm fun m x hm => ?_
          have := (List.getElem?_eq_some_iff.1 hm).1
          rw [dif_neg (by omega)]
          exact g5 m x hm
end Go.Proofs.YtopkanokpfhmmaaDoor
