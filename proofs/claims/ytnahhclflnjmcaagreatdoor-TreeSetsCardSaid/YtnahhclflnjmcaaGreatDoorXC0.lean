/- Chapter 08's own Add and Remove, plainly: what their loops find. -/
import Derived.Test.YtnahhclflnjmcaaGreatDoorTF
import Derived.Test.YtnahhclflnjmcaaGreatDoorA5
import Derived.Test.YtnahhclflnjmcaaGreatDoorB3
import Derived.Test.YtnahhclflnjmcaaGreatDoorX1
namespace Go.Proofs.YtnahhclflnjmcaaGreatDoor
open Go Go.RowKit
set_option linter.unusedVariables false
set_option linter.unusedSimpArgs false
set_option maxRecDepth 100000

/-- A number put into a rising list, at the place that the document's loop finds. -/
theorem ris_split {l : List Int} {n : Int} {k : Nat} (hk : k ≤ l.length) (hs : l.Pairwise (· < ·)) (hn : n ∉ l) (h1 : ∀ j x, j < k → l[j]? = some x → ¬ n < x) (h2 : ∀ x, l[k]? = some x → n < x) : l.take k ++ n :: l.drop k = ins n l :=
  ins_eq n l k hk (fun j x hj hx => by
    have h3 := h1 j x hj hx
    have h4 : x ≠ n := fun e => hn (e ▸ List.mem_of_getElem? hx)
    omega) (fun j x hj hx => by
    by_cases e : j = k
    · subst e
      have := h2 x hx
      omega
    · have hlt := (List.getElem?_eq_some_iff.1 hx).1
      obtain ⟨y, hy⟩ : ∃ y, l[k]? = some y := ⟨l[k]'(by omega), List.getElem?_eq_getElem _⟩
      have h3 := h2 y hy
      have h4 := pw_lt hs (show k < j by omega) hy hx
      omega)
/-- How far the loop has come: what is built, and whether the number is in it. -/
def RisI (l : List Int) (n : Int) (i : Nat) (out : List Int) (done : Bool) : Prop :=
  (done = false ∧ out = l.take i ∧ ∀ j x, j < i → l[j]? = some x → ¬ n < x) ∨
  (done = true ∧ ∃ k, k < i ∧ out = l.take k ++ n :: (l.drop k).take (i - k) ∧ (∀ j x, j < k → l[j]? = some x → ¬ n < x) ∧ ∀ x, l[k]? = some x → n < x)
theorem RisI.start (l : List Int) (n : Int) : RisI l n 0 [] false := .inl ⟨rfl, rfl, fun j x h => by omega⟩
theorem take_next {l : List Int} {i : Nat} {x : Int} (hx : l[i]? = some x) : l.take (i + 1) = l.take i ++ [x] := by
  rw [List.take_add_one, hx]; rfl
theorem RisI.skip {l : List Int} {n : Int} {i : Nat} {out : List Int} {x : Int} (h : RisI l n i out false) (hx : l[i]? = some x) (hq : ¬ n < x) : RisI l n (i + 1) (out ++ [x]) false := by
  rcases h with ⟨_, rfl, h2⟩ | ⟨h1, _⟩
  · refine .inl ⟨rfl, (take_next hx).symm, fun j y hj hy => ?_⟩
    by_cases e : j = i
    · subst e
      rw [hx] at hy
      obtain rfl := Option.some.inj hy
      exact hq
    · exact h2 j y (by omega) hy
  · cases h1
theorem RisI.put {l : List Int} {n : Int} {i : Nat} {out : List Int} {x : Int} (h : RisI l n i out false) (hx : l[i]? = some x) (hq : n < x) : RisI l n (i + 1) (out ++ [n] ++ [x]) true := by
  rcases h with ⟨_, rfl, h2⟩ | ⟨h1, _⟩
  · refine .inr ⟨rfl, i, by omega, ?_, h2, fun y hy => by rw [hx] at hy; obtain rfl := Option.some.inj hy; exact hq⟩
    rw [List.append_assoc, show i + 1 - i = 1 by omega]
    have hlt := (List.getElem?_eq_some_iff.1 hx).1
    have e : (l.drop i).take 1 = [x] := by
      rw [List.drop_eq_getElem_cons hlt, List.take_succ_cons, List.take_zero]
      rw [List.getElem?_eq_getElem hlt] at hx
      rw [Option.some.inj hx]
    rw [e]; rfl
  · cases h1
theorem RisI.more {l : List Int} {n : Int} {i : Nat} {out : List Int} {x : Int} (h : RisI l n i out true) (hx : l[i]? = some x) : RisI l n (i + 1) (out ++ [x]) true := by
  rcases h with ⟨h1, _⟩ | ⟨_, k, h2, rfl, h3, h4⟩
  · cases h1
  · refine .inr ⟨rfl, k, by omega, ?_, h3, h4⟩
    have e : (l.drop k)[i - k]? = some x := by rw [List.getElem?_drop, show k + (i - k) = i by omega]; exact hx
    rw [show i + 1 - k = i - k + 1 by omega, take_next e, List.append_assoc]
    rfl
theorem RisI.fin {l : List Int} {n : Int} {out : List Int} (hs : l.Pairwise (· < ·)) (hn : n ∉ l) : (RisI l n l.length out true → out = ins n l) ∧ (RisI l n l.length out false → out ++ [n] = ins n l) := by
  constructor
  · rintro (⟨h1, _⟩ | ⟨_, k, h2, rfl, h3, h4⟩)
    · cases h1
    · have e : (l.drop k).take (l.length - k) = l.drop k := List.take_of_length_le (by rw [List.length_drop]; exact Nat.le_refl _)
      rw [e]
      exact ris_split (by omega) hs hn h3 h4
  · rintro (⟨_, rfl, h2⟩ | ⟨h1, _⟩)
    · have := ris_split (k := l.length) (Nat.le_refl _) hs hn h2 fun x hx => by
        rw [List.getElem?_eq_none (Nat.le_refl _)] at hx; cases hx
      rw [← this, List.drop_length]
    · cases h1
theorem RisI.len {l : List Int} {n : Int} {i : Nat} {out : List Int} {d : Bool} (h : RisI l n i out d) (hi : i ≤ l.length) : out.length ≤ i + 1 := by
  rcases h with ⟨_, rfl, _⟩ | ⟨_, k, h2, rfl, _⟩
  · rw [List.length_take]; omega
  · rw [List.length_append, List.length_cons, List.length_take, List.length_take, List.length_drop]; omega
theorem ins_length (n : Int) : ∀ l : List Int, (ins n l).length = l.length + 1
  | [] => rfl
  | u :: us => by
    unfold ins
    split
    · rw [List.length_cons, ins_length n us]; rfl
    · rfl
/-- The first blank leaf's number, or -1. -/
def freeM (L : Nat) (F : Nat → Node) : Int := if fb F L = L then -1 else (fb F L : Nat)
end Go.Proofs.YtnahhclflnjmcaaGreatDoor
