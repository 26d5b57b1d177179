/- Chapter 08's trees, plainly: n nodes, F gives each; what may be, who is in it, what is made of it. No program. -/
import Derived.Test.YtopkanokpfhmmaaDoorNum
namespace Go.Proofs.YtopkanokpfhmmaaDoor
set_option linter.unusedVariables false
set_option linter.unusedSimpArgs false

/-- A node of a tree. -/
structure Node where
  pub : Int
  mem : Int
  ep : Int
  un : List Int
def zeroN : Node := ⟨0, 0, 0, []⟩
def Node.blank (a : Node) : Bool := a.pub == 0 && a.mem == 0 && a.ep == 0 && a.un.isEmpty
theorem blank_zero : zeroN.blank = true := rfl
theorem Node.blank_iff {a : Node} : a.blank = true ↔ a = zeroN := by
  obtain ⟨p, m, e, u⟩ := a
  simp [Node.blank, zeroN, and_assoc]
/-- The level of a place below 31. -/
def lvN (x : Nat) : Nat := if x % 2 = 0 then 0 else if x % 4 = 1 then 1 else if x % 8 = 3 then 2 else if x % 16 = 7 then 3 else 4
theorem nd_lvN : ∀ x : Fin 31, Nd x.val (lvN x.val) (x.val / 2 ^ (lvN x.val + 1)) := by
  unfold Nd
  decide
theorem nd_lv {x : Nat} (h : x < 31) : Nd x (lvN x) (x / 2 ^ (lvN x + 1)) := nd_lvN ⟨x, h⟩
/-- The first and the last leaf below. -/
def lo (x : Nat) : Nat := x / 2 ^ (lvN x + 1) * 2 ^ lvN x
def hi (x : Nat) : Nat := lo x + (2 ^ lvN x - 1)
/-- Is a leaf at or below a node? -/
def wi (i y : Nat) : Bool := anc (2 * i) (lvN y) == y
def upB (F : Nat → Node) : Int → Int → List Int → Bool
  | _, _, [] => true
  | first, last, u :: us => if u < first ∨ last < u then false else if (F (2 * u).toNat).pub = 0 then false else upB F (u + 1) last us
def parB (F : Nat → Node) (x : Nat) : Bool := if (F x).pub < 1 ∨ (F x).mem ≠ 0 ∨ (F x).ep ≠ 0 then (F x).blank else upB F (lo x) (hi x) (F x).un
/-- The members of the leaves ahead of a place. -/
def prior (F : Nat → Node) : Nat → List Int
  | 0 => []
  | x + 1 => if x % 2 = 0 ∧ (F x).blank = false then (F x).mem :: prior F x else prior F x
def leafB (a : Node) : Bool := decide (1 ≤ a.pub) && (decide (0 ≤ a.mem) && (decide (0 ≤ a.ep) && a.un.isEmpty))
def goodB (F : Nat → Node) (x : Nat) : Bool := if x % 2 = 1 then parB F x else (F x).blank || (leafB (F x) && !(prior F x).contains (F x).mem)
def goodsB (F : Nat → Node) : Nat → Bool
  | 0 => true
  | x + 1 => goodsB F x && goodB F x
def lastM (F : Nat → Node) : Nat → Int
  | 0 => -1
  | x + 1 => if x % 2 = 0 ∧ (F x).blank = false then ((x / 2 : Nat) : Int) else lastM F x
/-- How many leaves so many nodes have; 0: there is no such tree. -/
def lvs (n : Nat) : Nat := if n = 1 then 1 else if n = 3 then 2 else if n = 7 then 4 else if n = 15 then 8 else 0
/-- May a tree be? -/
def chk (n : Nat) (F : Nat → Node) : Bool := n == 0 || (lvs n != 0 && (goodsB F n && decide (((lvs n / 2 : Nat) : Int) ≤ lastM F n)))
/-- What it means that a tree may be. -/
structure Ok (d n : Nat) (F : Nat → Node) : Prop where
  hd : d ≤ 3
  hn : n = 2 ^ (d + 1) - 1
  par : ∀ x, x < n → x % 2 = 1 → (F x).blank = true ∨ (1 ≤ (F x).pub ∧ (F x).mem = 0 ∧ (F x).ep = 0 ∧ (∀ u ∈ (F x).un, (lo x : Int) ≤ u ∧ u ≤ hi x ∧ (F (2 * u).toNat).pub ≠ 0) ∧ (F x).un.Pairwise (· < ·))
  leaf : ∀ i, i < 2 ^ d → (F (2 * i)).blank = true ∨ (1 ≤ (F (2 * i)).pub ∧ 0 ≤ (F (2 * i)).mem ∧ 0 ≤ (F (2 * i)).ep ∧ (F (2 * i)).un = [])
  dist : ∀ i j, i < j → j < 2 ^ d → (F (2 * i)).blank = false → (F (2 * j)).blank = false → (F (2 * i)).mem ≠ (F (2 * j)).mem
  last : ∃ i, 2 ^ d / 2 ≤ i ∧ i < 2 ^ d ∧ (F (2 * i)).blank = false
theorem upB_iff (F : Nat → Node) (last : Int) : ∀ (us : List Int) (first : Int), upB F first last us = true ↔ (∀ u ∈ us, first ≤ u ∧ u ≤ last ∧ (F (2 * u).toNat).pub ≠ 0) ∧ us.Pairwise (· < ·)
  | [], first => by simp [upB]
  | u :: us, first => by
    have ih := upB_iff F last us (u + 1)
    unfold upB
    by_cases h1 : u < first ∨ last < u
    · rw [if_pos h1]
      simp only [Bool.false_eq_true, false_iff]
      rintro ⟨h, _⟩
      have := h u (by simp)
      omega
    · rw [if_neg h1]
      by_cases h2 : (F (2 * u).toNat).pub = 0
      · rw [if_pos h2]
        simp only [Bool.false_eq_true, false_iff]
        rintro ⟨h, _⟩
        exact (h u (by simp)).2.2 h2
      · rw [if_neg h2, ih, List.pairwise_cons]
        constructor
        · rintro ⟨h3, h4⟩
          refine ⟨fun v hv => ?_, fun v hv => by have := (h3 v hv).1; omega, h4⟩
          rcases List.mem_cons.1 hv with rfl | hv
          · exact ⟨by omega, by omega, h2⟩
          · have := h3 v hv
            exact ⟨by omega, this.2⟩
        · rintro ⟨h3, h4, h5⟩
          exact ⟨fun v hv => ⟨by have := h4 v hv; omega, (h3 v (by simp [hv])).2⟩, h5⟩
theorem parB_iff (F : Nat → Node) (x : Nat) : parB F x = true ↔ ((F x).blank = true ∨ (1 ≤ (F x).pub ∧ (F x).mem = 0 ∧ (F x).ep = 0 ∧ (∀ u ∈ (F x).un, (lo x : Int) ≤ u ∧ u ≤ hi x ∧ (F (2 * u).toNat).pub ≠ 0) ∧ (F x).un.Pairwise (· < ·))) := by
  unfold parB
  by_cases h : (F x).pub < 1 ∨ (F x).mem ≠ 0 ∨ (F x).ep ≠ 0
  · rw [if_pos h]
    constructor
    · exact .inl
    · rintro (h1 | ⟨h1, h2, h3, _⟩)
      · exact h1
      · omega
  · rw [if_neg h, upB_iff]
    constructor
    · rintro ⟨h1, h2⟩
      exact .inr ⟨by omega, by omega, by omega, h1, h2⟩
    · rintro (h1 | ⟨_, _, _, h1⟩)
      · have := Node.blank_iff.1 h1
        rw [this] at h
        exact absurd (.inl (by decide)) h
      · exact h1
theorem goodsB_iff (F : Nat → Node) : ∀ n, goodsB F n = true ↔ ∀ x, x < n → goodB F x = true
  | 0 => by simp [goodsB]
  | n + 1 => by
    rw [goodsB, Bool.and_eq_true, goodsB_iff F n]
    constructor
    · rintro ⟨h1, h2⟩ x hx
      by_cases e : x = n
      · rw [e]; exact h2
      · exact h1 x (by omega)
    · intro h
      exact ⟨fun x hx => h x (by omega), h n (by omega)⟩
theorem mem_prior (F : Nat → Node) (m : Int) : ∀ n, m ∈ prior F n ↔ ∃ x, x < n ∧ x % 2 = 0 ∧ (F x).blank = false ∧ (F x).mem = m
  | 0 => by simp [prior]
  | n + 1 => by
    have ih := mem_prior F m n
    unfold prior
    by_cases h : n % 2 = 0 ∧ (F n).blank = false
    · rw [if_pos h, List.mem_cons, ih]
      constructor
      · rintro (h1 | ⟨x, h1, h2⟩)
        · exact ⟨n, by omega, h.1, h.2, h1.symm⟩
        · exact ⟨x, by omega, h2⟩
      · rintro ⟨x, h1, h2, h3, h4⟩
        by_cases e : x = n
        · subst e; exact .inl h4.symm
        · exact .inr ⟨x, by omega, h2, h3, h4⟩
    · rw [if_neg h, ih]
      constructor
      · rintro ⟨x, h1, h2⟩
        exact ⟨x, by omega, h2⟩
      · rintro ⟨x, h1, h2, h3, h4⟩
        by_cases e : x = n
        · subst e; exact absurd ⟨h2, h3⟩ h
        · exact ⟨x, by omega, h2, h3, h4⟩
theorem lastM_ge (F : Nat → Node) (k : Int) (hk : 0 ≤ k) : ∀ n, k ≤ lastM F n ↔ ∃ x, x < n ∧ x % 2 = 0 ∧ (F x).blank = false ∧ k ≤ ((x / 2 : Nat) : Int)
  | 0 => by simp [lastM]; omega
  | n + 1 => by
    have ih := lastM_ge F k hk n
    unfold lastM
    by_cases h : n % 2 = 0 ∧ (F n).blank = false
    · rw [if_pos h]
      constructor
      · intro h1
        exact ⟨n, by omega, h.1, h.2, h1⟩
      · rintro ⟨x, h1, h2, h3, h4⟩
        omega
    · rw [if_neg h, ih]
      constructor
      · rintro ⟨x, h1, h2⟩
        exact ⟨x, by omega, h2⟩
      · rintro ⟨x, h1, h2, h3, h4⟩
        by_cases e : x = n
        · subst e; exact absurd ⟨h2, h3⟩ h
        · exact ⟨x, by omega, h2, h3, h4⟩
theorem lvs_iff {n : Nat} : lvs n ≠ 0 ↔ ∃ d, d ≤ 3 ∧ n = 2 ^ (d + 1) - 1 := by
  unfold lvs
  constructor
  · intro h
    by_cases h1 : n = 1
    · exact ⟨0, by decide, h1⟩
    by_cases h2 : n = 3
    · exact ⟨1, by decide, h2⟩
    by_cases h3 : n = 7
    · exact ⟨2, by decide, h3⟩
    by_cases h4 : n = 15
    · exact ⟨3, by decide, h4⟩
    simp [h1, h2, h3, h4] at h
  · rintro ⟨d, hd, rfl⟩
    have : ∀ d : Fin 4, lvs (2 ^ (d.val + 1) - 1) ≠ 0 := by decide
    exact this ⟨d, by omega⟩
theorem lvs_pow {d : Nat} (hd : d ≤ 3) : lvs (2 ^ (d + 1) - 1) = 2 ^ d := by
  have : ∀ d : Fin 4, lvs (2 ^ (d.val + 1) - 1) = 2 ^ d.val := by decide
  exact this ⟨d, by omega⟩
theorem Ok.lvs {d n : Nat} {F : Nat → Node} (h : Ok d n F) : lvs n = 2 ^ d := by rw [h.hn]; exact lvs_pow h.hd
theorem leafB_iff {a : Node} : leafB a = true ↔ 1 ≤ a.pub ∧ 0 ≤ a.mem ∧ 0 ≤ a.ep ∧ a.un = [] := by
  unfold leafB
  simp [List.isEmpty_iff]
theorem goodB_leaf (F : Nat → Node) (i : Nat) : goodB F (2 * i) = true ↔ ((F (2 * i)).blank = true ∨ ((1 ≤ (F (2 * i)).pub ∧ 0 ≤ (F (2 * i)).mem ∧ 0 ≤ (F (2 * i)).ep ∧ (F (2 * i)).un = []) ∧ ¬ (F (2 * i)).mem ∈ prior F (2 * i))) := by
  unfold goodB
  rw [if_neg (by omega), Bool.or_eq_true, Bool.and_eq_true, leafB_iff]
  simp
theorem chk_iff {n : Nat} {F : Nat → Node} : chk n F = true ↔ n = 0 ∨ ∃ d, Ok d n F := by
  unfold chk
  rw [Bool.or_eq_true, beq_iff_eq, Bool.and_eq_true, bne_iff_ne, Bool.and_eq_true, decide_eq_true_eq, goodsB_iff, lastM_ge F _ (by omega)]
  constructor
  · rintro (h | ⟨h1, h2, x, h3, h4, h5, h6⟩)
    · exact .inl h
    · obtain ⟨d, hd, hn⟩ := lvs_iff.1 h1
      have hl : lvs n = 2 ^ d := by rw [hn]; exact lvs_pow hd
      have hp := two_succ d
      have hp0 := two_pos d
      rw [hl] at h6
      refine .inr ⟨d, hd, hn, fun x hx ho => ?_, fun i hi => ?_, fun i j hij hj bi bj e => ?_, x / 2, by omega, by omega, by rw [show 2 * (x / 2) = x by omega]; exact h5⟩
      · have := h2 x hx
        unfold goodB at this
        rw [if_pos ho] at this
        exact (parB_iff F x).1 this
      · rcases (goodB_leaf F i).1 (h2 (2 * i) (by omega)) with h | h
        · exact .inl h
        · exact .inr h.1
      · rcases (goodB_leaf F j).1 (h2 (2 * j) (by omega)) with h | h
        · rw [h] at bj; cases bj
        · exact h.2 ((mem_prior F _ _).2 ⟨2 * i, by omega, by omega, bi, e⟩)
  · rintro (h | ⟨d, h⟩)
    · exact .inl h
    · have hp := two_succ d
      have hp0 := two_pos d
      have hn := h.hn
      obtain ⟨i, h1, h2, h3⟩ := h.last
      refine .inr ⟨by rw [h.lvs]; omega, fun x hx => ?_, 2 * i, by omega, by omega, h3, by rw [h.lvs]; omega⟩
      by_cases ho : x % 2 = 1
      · unfold goodB
        rw [if_pos ho]
        exact (parB_iff F x).2 (h.par x hx ho)
      · obtain ⟨j, rfl⟩ : ∃ j, x = 2 * j := ⟨x / 2, by omega⟩
        refine (goodB_leaf F j).2 ?_
        rcases h.leaf j (by omega) with h4 | h4
        · exact .inl h4
        · by_cases hb : (F (2 * j)).blank = true
          · exact .inl hb
          · refine .inr ⟨h4, fun hm => ?_⟩
            obtain ⟨y, y1, y2, y3, y4⟩ := (mem_prior F _ _).1 hm
            obtain ⟨k, rfl⟩ : ∃ k, y = 2 * k := ⟨y / 2, by omega⟩
            exact h.dist k j (by omega) (by omega) y3 (by simpa using hb) y4

/-! who is in it -/
def memL (F : Nat → Node) : Nat → List Int
  | 0 => []
  | i + 1 => if 0 < (F (2 * i)).pub then memL F i ++ [(F (2 * i)).mem] else memL F i
def findM (F : Nat → Node) (m : Int) : Nat → Int
  | 0 => -1
  | i + 1 => if 0 ≤ findM F m i then findM F m i else if 0 < (F (2 * i)).pub ∧ (F (2 * i)).mem = m then i else -1
/-- How many leaves, if the tree may be. -/
def sizeM (n : Nat) (F : Nat → Node) : Nat := if chk n F then lvs n else 0
/-- The first blank leaf, or i. -/
def fb (F : Nat → Node) : Nat → Nat
  | 0 => 0
  | i + 1 => if fb F i < i then fb F i else if 0 < (F (2 * i)).pub then i + 1 else i
/-! what is made of it -/
def pad (n : Nat) (F : Nat → Node) (y : Nat) : Node := if y < n then F y else zeroN
/-- The nodes above a leaf, in a tree of 2^d leaves. -/
def dirs (d i : Nat) : List Nat := (List.range d).map fun k => anc (2 * i) (k + 1)
def ins (i : Int) : List Int → List Int
  | [] => [i]
  | u :: us => if u < i then u :: ins i us else i :: u :: us
structure Addx where
  mem : Int
  ep : Int
  pub : Int
/-- The nodes behind an Add at a leaf. -/
def addF (n : Nat) (F : Nat → Node) (d i : Nat) (a : Addx) (y : Nat) : Node :=
  if y = 2 * i then ⟨a.pub, a.mem, a.ep, []⟩ else if y ∈ dirs d i ∧ 0 < (pad n F y).pub then { pad n F y with un := ins i (pad n F y).un } else pad n F y
/-- How many levels so many leaves have. -/
def lg (n : Nat) : Nat := if n = 8 then 3 else if n = 4 then 2 else if n = 2 then 1 else 0
def addN (n : Nat) (F : Nat → Node) : Nat := if fb F (lvs n) = lvs n then max 1 (2 * lvs n) else lvs n
def addE (n : Nat) (F : Nat → Node) (a : Addx) : Int :=
  if chk n F = false ∨ a.mem < 0 ∨ a.ep < 0 ∨ a.pub < 1 then 1 else if 0 ≤ findM F a.mem (sizeM n F) then 13 else if fb F (lvs n) = lvs n ∧ lvs n = 8 then 3 else 0
def blankF (F : Nat → Node) (d i : Nat) (y : Nat) : Node := if y = 2 * i ∨ y ∈ dirs d i then zeroN else F y
/-- Is a leaf of the right half taken? -/
def takenB (F : Nat → Node) (d : Nat) : Bool := (List.range (2 ^ d)).any fun i => !(F (2 * (2 ^ d + i))).blank
/-- The levels that are left. -/
def cut (F : Nat → Node) : Nat → Nat
  | 0 => 0
  | d + 1 => if takenB F d then d + 1 else cut F d
def remE (n : Nat) (F : Nat → Node) (m : Int) : Int :=
  if chk n F = false then 1 else if findM F m (sizeM n F) < 0 then 7 else if (memL F (sizeM n F)).length = 1 then 9 else 0
/-- The Resolution of a node of the level k. -/
def resM (F : Nat → Node) : Nat → Nat → List Int
  | 0, x => if 0 < (F x).pub then (x : Int) :: (F x).un.map (2 * ·) else []
  | k + 1, x => if 0 < (F x).pub then (x : Int) :: (F x).un.map (2 * ·) else resM F k (x - 2 ^ k) ++ resM F k (x + 2 ^ k)
/-- The other child of the parent of what stands above x at the level k. -/
def sib (x k : Nat) : Nat := 2 * anc x (k + 1) - anc x k
def rowsM (F : Nat → Node) (d i : Nat) : List (Nat × List Int) := ((List.range d).map fun k => (anc (2 * i) (k + 1), resM F k (sib (2 * i) k))).filter fun r => !r.2.isEmpty
def freshB (fresh : List Int) (x : Int) : Bool := x.tmod 2 == 0 && fresh.contains (x.tdiv 2)
/-- New keys along a path. -/
def setF (F : Nat → Node) (d i : Nat) (ep pub : Int) (ps : List (Nat × Int)) (y : Nat) : Node :=
  if y = 2 * i then { F y with ep := ep, pub := pub } else match ps.find? (fun p => p.1 == y) with
    | some p => ⟨p.2, 0, 0, []⟩
    | none => if y ∈ dirs d i then zeroN else F y
end Go.Proofs.YtopkanokpfhmmaaDoor
