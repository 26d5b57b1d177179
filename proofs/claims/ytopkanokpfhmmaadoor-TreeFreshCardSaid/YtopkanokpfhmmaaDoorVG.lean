/- Whom a Resolution names, and how often: plain laws of TreeCovers and TreeFresh. -/
import Derived.Test.YtopkanokpfhmmaaDoorVC
namespace Go.Proofs.YtopkanokpfhmmaaDoor
open Go Go.RowKit
set_option linter.unusedVariables false
set_option linter.unusedSimpArgs false

theorem foldl_add (l : List Nat) : ∀ a : Nat, l.foldl (· + ·) a = a + l.foldl (· + ·) 0 := by
  induction l with
  | nil => intro a; rfl
  | cons x xs ih => intro a; rw [List.foldl_cons, List.foldl_cons, ih (a + x), ih (0 + x)]; omega
theorem nmL_cons (F : Nat → Node) (i : Nat) (x : Int) (l : List Int) : nmL F i (x :: l) = nm1 F i x + nmL F i l := by
  unfold nmL
  rw [List.map_cons, List.foldl_cons, foldl_add]
  omega
theorem nmL_append (F : Nat → Node) (i : Nat) : ∀ l m : List Int, nmL F i (l ++ m) = nmL F i l + nmL F i m
  | [], m => by show nmL F i m = 0 + nmL F i m; omega
  | x :: l, m => by rw [List.cons_append, nmL_cons, nmL_cons, nmL_append F i l m]; omega
theorem kids_fin : ∀ i : Fin 8, ∀ x : Fin 16, ∀ k : Fin 3, lvN x.val = k.val + 1 → x.val < 15 →
    (lvN (x.val - 2 ^ k.val) = k.val ∧ lvN (x.val + 2 ^ k.val) = k.val ∧ (wi i.val x.val = (wi i.val (x.val - 2 ^ k.val) || wi i.val (x.val + 2 ^ k.val))) ∧ (wi i.val (x.val - 2 ^ k.val) && wi i.val (x.val + 2 ^ k.val)) = false) := by decide +kernel
theorem lv_fin : ∀ x : Fin 16, x.val < 15 → lvN x.val ≤ 3 ∧ (lvN x.val = 0 → x.val % 2 = 0) := by decide +kernel
theorem wi_leaf : ∀ i j : Fin 8, wi i.val (2 * j.val) = decide (i = j) := by decide +kernel
/-- Whatever counts so at each node counts so in a Resolution. -/
theorem resM_count {d n i : Nat} {F : Nat → Node} (hO : Ok d n F) (hi : i < 2 ^ d) (hp : 0 < (F (2 * i)).pub) (f : List Int → Nat) (h0 : f [] = 0) (happ : ∀ l m, f (l ++ m) = f l + f m)
    (hone : ∀ x, x < n → 0 < (F x).pub → f ((x : Int) :: (F x).un.map (2 * ·)) = if wi i x = true then 1 else 0) :
    ∀ (k x : Nat), lvN x = k → x < n → f (resM F k x) = if wi i x = true then 1 else 0 := by
  have hd := hO.hd
  have hn := hO.hn
  have hp3 := pow3 hd
  intro k
  induction k with
  | zero =>
    intro x hx hxn
    unfold resM
    by_cases hpx : 0 < (F x).pub
    · rw [if_pos hpx]; exact hone x hxn hpx
    · rw [if_neg hpx, h0]
      have hx2 := (lv_fin ⟨x, by omega⟩ (by show x < 15; omega)).2 hx
      simp only at hx2
      obtain ⟨j, rfl⟩ : ∃ j, x = 2 * j := ⟨x / 2, by omega⟩
      have := wi_leaf ⟨i, by omega⟩ ⟨j, by omega⟩
      simp only at this
      rw [this, if_neg]
      intro e
      have e : i = j := by simpa using e
      subst e
      exact hpx hp
  | succ k ih =>
    intro x hx hxn
    unfold resM
    by_cases hpx : 0 < (F x).pub
    · rw [if_pos hpx]; exact hone x hxn hpx
    · rw [if_neg hpx, happ]
      have hk3 := (lv_fin ⟨x, by omega⟩ (by show x < 15; omega)).1
      simp only at hk3
      have hk2 : k < 3 := by rw [hx] at hk3; omega
      obtain ⟨k1, k2, k3, k4⟩ := kids_fin ⟨i, by omega⟩ ⟨x, by omega⟩ ⟨k, by omega⟩ hx (by show x < 15; omega)
      simp only at k1 k2 k3 k4
      obtain ⟨l1, l2⟩ := kid_lt (k := k) (j := x / 2 ^ (lvN x + 1)) hO.lvs_ne hxn (by have := nd_lv (x := x) (by omega); rw [hx] at this ⊢; exact this)
      rw [ih _ k1 (Nat.lt_of_le_of_lt (Nat.sub_le _ _) hxn), ih _ k2 l1, k3]
      cases h1 : wi i (x - 2 ^ k) <;> cases h2 : wi i (x + 2 ^ k) <;> simp [h1, h2] at k4 ⊢
theorem nmL_un (F : Nat → Node) (i : Nat) : ∀ us : List Int, us.Pairwise (· < ·) → nmL F i (us.map (2 * ·)) = if us.contains (i : Int) = true then 1 else 0
  | [], _ => rfl
  | u :: us, h => by
    obtain ⟨h1, h2⟩ := List.pairwise_cons.1 h
    rw [List.map_cons, nmL_cons, nmL_un F i us h2]
    have e1 : nm1 F i (2 * u) = if u = (i : Int) then 1 else 0 := by
      unfold nm1
      by_cases e : u = (i : Int)
      · rw [if_pos (by rw [e]), if_pos e]
      · rw [if_neg (by omega), if_neg e, if_neg]
        rintro ⟨h, _⟩
        omega
    rw [e1]
    by_cases e : u = (i : Int)
    · have : us.contains (i : Int) = false := by
        cases hc : us.contains (i : Int) with
        | false => rfl
        | true => have := h1 (i : Int) (by simpa using hc); omega
      simp [e, this]
      have h3 : ¬ (i : Int) ∈ us := by simpa using this
      simp [h3]
    · have e2 : ¬ ((i : Int) = u) := fun h => e h.symm
      simp [e, e2]
theorem names_one {d n i : Nat} {F : Nat → Node} (hO : Ok d n F) (hi : i < 2 ^ d) {x : Nat} (hx : x < n) (hp : 0 < (F x).pub) : nmL F i ((x : Int) :: (F x).un.map (2 * ·)) = if wi i x = true then 1 else 0 := by
  have hd := hO.hd
  have hn := hO.hn
  have hp3 := pow3 hd
  have h2 := two_succ d
  rw [nmL_cons]
  by_cases ho : x % 2 = 1
  · rcases hO.par x hx ho with h1 | ⟨_, _, _, h4, h5⟩
    · rw [Node.blank_iff.1 h1] at hp; exact absurd hp (by decide)
    · rw [nmL_un F i _ h5]
      unfold nm1
      rw [if_neg (by omega), Int.toNat_natCast]
      cases hc : (F x).un.contains (i : Int) with
      | false =>
        cases hw : wi i x with
        | false => simp
        | true => have : (x : Int) % 2 = 1 := by omega
                  simp [this]
      | true =>
        obtain ⟨u1, u2, u3⟩ := h4 (i : Int) (by simpa using hc)
        have := (wi_lohi (i := i) (x := x) (by omega) (by omega)).2 ⟨by omega, by omega⟩
        simp [this]
  · obtain ⟨j, rfl⟩ : ∃ j, x = 2 * j := ⟨x / 2, by omega⟩
    rcases hO.leaf j (by omega) with h1 | ⟨_, _, _, h4⟩
    · rw [Node.blank_iff.1 h1] at hp; exact absurd hp (by decide)
    · rw [h4]
      have := wi_leaf ⟨i, by omega⟩ ⟨j, by omega⟩
      simp only at this
      rw [this]
      unfold nm1
      show (if _ then 1 else if _ then 1 else 0) + 0 = _
      by_cases e : i = j
      · subst e; simp
      · rw [if_neg (by omega), if_neg (by rintro ⟨h, _⟩; omega)]
        simp [e]
theorem names_res {d n i : Nat} {F : Nat → Node} (hO : Ok d n F) (hi : i < 2 ^ d) (hp : 0 < (F (2 * i)).pub) {x : Nat} (hx : x < n) : nmL F i (resL n F (x : Int)) = if wi i x = true then 1 else 0 := by
  unfold resL
  rw [if_pos (resE_ok hO hx), Int.toNat_natCast]
  exact resM_count hO hi hp (nmL F i) rfl (nmL_append F i) (fun y hy hpy => names_one hO hi hy hpy) (lvN x) x rfl hx
/-- All Targets, in one row. -/
def allL (R : List (Nat × List Int)) : List Int := R.flatMap (·.2)
theorem rowsM_flat (F : Nat → Node) (i : Nat) : ∀ k, allL (rowsK F i k) = (List.range k).flatMap fun k => resM F k (sib (2 * i) k)
  | 0 => rfl
  | k + 1 => by
    rw [rowsK_succ, List.range_succ, List.flatMap_append]
    have ih := rowsM_flat F i k
    unfold allL at ih ⊢
    rw [List.flatMap_append, ih]
    congr 1
    cases h : resM F k (sib (2 * i) k) with
    | nil => simp [h]
    | cons a l => simp [h]
theorem sibs_fin : ∀ d : Fin 4, ∀ i l : Fin 8, i.val < 2 ^ d.val → l.val < 2 ^ d.val →
    ((List.range d.val).map fun k => if wi i.val (sib (2 * l.val) k) = true then 1 else 0).foldl (· + ·) 0 = if i = l then 0 else 1 := by decide +kernel
theorem rows_count {d n i l : Nat} {F : Nat → Node} (hO : Ok d n F) (hi : i < 2 ^ d) (hl : l < 2 ^ d) (hp : 0 < (F (2 * i)).pub) (f : List Int → Nat) (h0 : f [] = 0) (happ : ∀ l m, f (l ++ m) = f l + f m)
    (hone : ∀ x, x < n → 0 < (F x).pub → f ((x : Int) :: (F x).un.map (2 * ·)) = if wi i x = true then 1 else 0) :
    f (allL (rowsM F d l)) = if i = l then 0 else 1 := by
  have hd := hO.hd
  have hn := hO.hn
  have hp3 := pow3 hd
  have key : ∀ k, k ≤ d → f (allL (rowsK F l k)) = ((List.range k).map fun k => if wi i (sib (2 * l) k) = true then 1 else 0).foldl (· + ·) 0 := by
    intro k
    induction k with
    | zero => intro _; exact h0
    | succ k ih =>
      intro hk
      have ih := ih (by omega)
      rw [rowsM_flat] at ih ⊢
      obtain ⟨f1, f2, f3⟩ := sib_facts ⟨d, by omega⟩ ⟨l, by omega⟩ ⟨k, by omega⟩ hl (by show k < d; omega)
      simp only at f1 f2 f3
      rw [List.range_succ, List.flatMap_append, happ, ih, List.map_append, List.foldl_append]
      have := resM_count hO hi hp f h0 happ hone k (sib (2 * l) k) f2 (by omega)
      simp only [List.flatMap_cons, List.flatMap_nil, List.append_nil, List.map_cons, List.map_nil, List.foldl_cons, List.foldl_nil]
      rw [this]
  have := sibs_fin ⟨d, by omega⟩ ⟨i, by omega⟩ ⟨l, by omega⟩ hi hl
  simp only [Fin.mk.injEq] at this
  rw [← this]
  exact key d (Nat.le_refl _)
theorem names_all {d n i l : Nat} {F : Nat → Node} (hO : Ok d n F) (hi : i < 2 ^ d) (hl : l < 2 ^ d) (hp : 0 < (F (2 * i)).pub) : nmL F i (allL (rowsM F d l)) = if i = l then 0 else 1 :=
  rows_count hO hi hl hp (nmL F i) rfl (nmL_append F i) (fun y hy hpy => names_one hO hi hy hpy)
/-! who came in just now -/
def cntL (i : Nat) (l : List Int) : Nat := l.count (2 * (i : Int))
theorem cntL_append (i : Nat) (l m : List Int) : cntL i (l ++ m) = cntL i l + cntL i m := List.count_append
theorem cnt_un (i : Nat) : ∀ us : List Int, us.Pairwise (· < ·) → (us.map (2 * ·)).count (2 * (i : Int)) = if us.contains (i : Int) = true then 1 else 0
  | [], _ => rfl
  | u :: us, h => by
    obtain ⟨h1, h2⟩ := List.pairwise_cons.1 h
    rw [List.map_cons, List.count_cons, cnt_un i us h2]
    by_cases e : u = (i : Int)
    · have : us.contains (i : Int) = false := by
        cases hc : us.contains (i : Int) with
        | false => rfl
        | true => have := h1 (i : Int) (by simpa using hc); omega
      have h3 : ¬ (i : Int) ∈ us := by simpa using this
      simp [e, h3]
    · have e2 : ¬ ((i : Int) = u) := fun h => e h.symm
      have e3 : ¬ (2 * u = 2 * (i : Int)) := by omega
      simp [e, e2, e3]
theorem cnt_one {d n i : Nat} {F : Nat → Node} (hO : Ok d n F) (hi : i < 2 ^ d) (hun : ∀ x, x < n → x % 2 = 1 → 0 < (F x).pub → wi i x = true → (F x).un.contains (i : Int) = true) {x : Nat} (hx : x < n) (hp : 0 < (F x).pub) :
    cntL i ((x : Int) :: (F x).un.map (2 * ·)) = if wi i x = true then 1 else 0 := by
  have hd := hO.hd
  have hn := hO.hn
  have hp3 := pow3 hd
  have h2 := two_succ d
  unfold cntL
  rw [List.count_cons]
  by_cases ho : x % 2 = 1
  · rcases hO.par x hx ho with h1 | ⟨_, _, _, h4, h5⟩
    · rw [Node.blank_iff.1 h1] at hp; exact absurd hp (by decide)
    · rw [cnt_un i _ h5]
      have e : ((x : Int) == 2 * (i : Int)) = false := by rw [beq_eq_false_iff_ne]; omega
      rw [e]
      cases hc : (F x).un.contains (i : Int) with
      | false =>
        cases hw : wi i x with
        | false => simp
        | true => rw [hun x hx ho hp hw] at hc; cases hc
      | true =>
        obtain ⟨u1, u2, u3⟩ := h4 (i : Int) (by simpa using hc)
        have := (wi_lohi (i := i) (x := x) (by omega) (by omega)).2 ⟨by omega, by omega⟩
        simp [this]
  · obtain ⟨j, rfl⟩ : ∃ j, x = 2 * j := ⟨x / 2, by omega⟩
    rcases hO.leaf j (by omega) with h1 | ⟨_, _, _, h4⟩
    · rw [Node.blank_iff.1 h1] at hp; exact absurd hp (by decide)
    · rw [h4]
      have := wi_leaf ⟨i, by omega⟩ ⟨j, by omega⟩
      simp only at this
      rw [this]
      show 0 + _ = _
      by_cases e : i = j
      · subst e; simp
      · have e3 : (((2 * j : Nat) : Int) == 2 * (i : Int)) = false := by rw [beq_eq_false_iff_ne]; omega
        rw [e3]
        simp [e]
theorem ins_mem {t : Int} : ∀ (l : List Int), t ∈ ins t l
  | [] => by simp [ins]
  | x :: xs => by
    unfold ins
    split
    · exact List.mem_cons_of_mem _ (ins_mem xs)
    · exact List.mem_cons_self
/-- What TreeFresh says of the tree behind an Add, d levels. -/
theorem fresh_count {n : Nat} {F : Nat → Node} {a : Addx} (h : addE n F a = 0) {d l : Nat} (hO : Ok d (2 * addN n F - 1) (addF n F d (fb F (lvs n)) a)) (hlg : lg (addN n F) = d) (hN : addN n F = 2 ^ d) (hl : l < 2 ^ d) (hne : l ≠ fb F (lvs n)) :
    cntL (fb F (lvs n)) (allL (rowsM (addF n F d (fb F (lvs n)) a) d l)) = 1 := by
  obtain ⟨d', hd, hN', hlg', hat, hn, hcase⟩ := add_facts h
  obtain ⟨hz, hm, he, hp, hf, -⟩ := chk_false_add h
  obtain rfl : d' = d := by rw [← hlg', ← hlg]
  have hp3 := pow3 hd
  have h2 := two_succ d'
  have e0 : addF n F d' (fb F (lvs n)) a (2 * fb F (lvs n)) = ⟨a.pub, a.mem, a.ep, []⟩ := by unfold addF; rw [if_pos rfl]
  rw [rows_count hO hat hl (by rw [e0]; show 0 < a.pub; omega) (cntL (fb F (lvs n))) rfl (cntL_append _) (fun y hy hpy => cnt_one hO hat (fun x hx ho hpx hw => ?_) hy hpy), if_neg (fun e => hne e.symm)]
  have hxd := (dirs_iff hd hat (y := x) (by omega)).2 ⟨ho, (wi_lohi (by omega) (by omega)).1 hw⟩
  have hx2 : x ≠ 2 * fb F (lvs n) := by omega
  unfold addF at hpx ⊢
  rw [if_neg hx2] at hpx ⊢
  by_cases hq : x ∈ dirs d' (fb F (lvs n)) ∧ 0 < (pad n F x).pub
  · rw [if_pos hq]
    simpa using ins_mem _
  · rw [if_neg hq] at hpx
    exact absurd ⟨hxd, hpx⟩ hq
end Go.Proofs.YtopkanokpfhmmaaDoor
