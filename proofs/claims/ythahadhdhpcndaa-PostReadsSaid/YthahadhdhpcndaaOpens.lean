/- The arguments of these laws, opened: nodes, trees, commits, mails, feeds, packets. -/
import Derived.Test.YthahadhdhpcndaaOpen
namespace Go.Proofs.Ythahadhdhpcndaa
open Go Go.RowKit
set_option linter.unusedVariables false
set_option linter.unusedSimpArgs false

section
variable {H : Type} {enc : TypeId × Value → H} {w : World}
theorem Opn.atn {t : TypeId} {fs : Array Field} {cs : List Value} (h : Opn enc Try.prog w t cs) (hu : Try.prog.underlying t = some (.struct fs)) (i : Nat) (f : Field) (hf : fs[i]? = some f) (n : Nat) (hc : Try.prog.cellsOf f.type = n) : Opn enc Try.prog w f.type ((cs.drop f.offset).take n) := by
  have := (h.field hu).2 i f hf
  rwa [hc] at this
theorem one24 : Try.prog.cellsOf 3 = 1 := by kernel_rfl
theorem ints24 {cs : List Value} (h : Opn enc Try.prog w 24 cs) : ∃ v xs, cs = [v] ∧ Rw (fun _ => True) w 1 v xs ∧ AllI xs ∧ xs.length ≤ 17592186044416 :=
  h.rw Try.underlying24 one24 (by_ := 8) (by kernel_rfl) (by decide) (by decide) fun cs' hl h' u hu => by
    obtain ⟨n, rfl, _⟩ := h'.int Try.underlying3
    obtain rfl : u = _ := by simpa using hu
    exact ⟨n, rfl⟩
theorem s1 {a b : Value} (h : [a] = [b]) : a = b := by simpa using h
theorem list3 {cs : List Value} (h : cs.length = 3) : ∃ a b c, cs = [a, b, c] := by
  match cs, h with
  | [a, b, c], _ => exact ⟨a, b, c, rfl⟩
theorem list2 {cs : List Value} (h : cs.length = 2) : ∃ a b, cs = [a, b] := by
  match cs, h with
  | [a, b], _ => exact ⟨a, b, rfl⟩
theorem list1 {cs : List Value} (h : cs.length = 1) : ∃ a, cs = [a] := by
  match cs, h with
  | [a], _ => exact ⟨a, rfl⟩
theorem list4 {cs : List Value} (h : cs.length = 4) : ∃ a b c d, cs = [a, b, c, d] := by
  match cs, h with
  | [a, b, c, d], _ => exact ⟨a, b, c, d, rfl⟩
theorem list5 {cs : List Value} (h : cs.length = 5) : ∃ a b c d e, cs = [a, b, c, d, e] := by
  match cs, h with
  | [a, b, c, d, e], _ => exact ⟨a, b, c, d, e, rfl⟩
theorem list15 {cs : List Value} (h : cs.length = 15) : ∃ a b c d e f g h i j k l m n o, cs = [a, b, c, d, e, f, g, h, i, j, k, l, m, n, o] := by
  match cs, h with
  | [a, b, c, d, e, f, g, h, i, j, k, l, m, n, o], _ => exact ⟨a, b, c, d, e, f, g, h, i, j, k, l, m, n, o, rfl⟩
/-- Three numbers, two numbers. -/
theorem three {t : TypeId} {f0 f1 f2 : Field} {cs : List Value} (h : Opn enc Try.prog w t cs) (hl : cs.length = 3) (hu : Try.prog.underlying t = some (.struct #[f0, f1, f2])) (h0 : f0.type = 3 ∧ f0.offset = 0) (h1 : f1.type = 3 ∧ f1.offset = 1) (h2 : f2.type = 3 ∧ f2.offset = 2) :
    ∃ x y z : Int, cs = [.int .i64 x, .int .i64 y, .int .i64 z] := by
  obtain ⟨a, b, c, rfl⟩ := list3 hl
  have g0 := h.atn hu 0 f0 rfl 1 (by rw [h0.1]; exact one24)
  have g1 := h.atn hu 1 f1 rfl 1 (by rw [h1.1]; exact one24)
  have g2 := h.atn hu 2 f2 rfl 1 (by rw [h2.1]; exact one24)
  rw [h0.1, h0.2] at g0
  rw [h1.1, h1.2] at g1
  rw [h2.1, h2.2] at g2
  obtain ⟨x, e0, _⟩ := g0.int Try.underlying3
  obtain ⟨y, e1, _⟩ := g1.int Try.underlying3
  obtain ⟨z, e2, _⟩ := g2.int Try.underlying3
  have e0 : [a] = [.int .i64 x] := e0
  have e1 : [b] = [.int .i64 y] := e1
  have e2 : [c] = [.int .i64 z] := e2
  simp only [List.cons.injEq, and_true] at e0 e1 e2
  exact ⟨x, y, z, by rw [e0, e1, e2]⟩
theorem adds23 {cs : List Value} (h : Opn enc Try.prog w 23 cs) : ∃ v xs, cs = [v] ∧ Rw (fun _ => True) w 3 v xs ∧ AllI xs ∧ xs.length ≤ 17592186044416 :=
  h.rw Try.underlying23 (by kernel_rfl) (by_ := 24) (by kernel_rfl) (by decide) (by decide) fun cs' hl h' u hu => by
    obtain ⟨x, y, z, rfl⟩ := three h' hl Try.underlying127 ⟨rfl, rfl⟩ ⟨rfl, rfl⟩ ⟨rfl, rfl⟩
    simp at hu
    rcases hu with rfl | rfl | rfl
    · exact ⟨x, rfl⟩
    · exact ⟨y, rfl⟩
    · exact ⟨z, rfl⟩
theorem seals25 {cs : List Value} (h : Opn enc Try.prog w 25 cs) : ∃ v xs, cs = [v] ∧ Rw (fun _ => True) w 3 v xs ∧ AllI xs ∧ xs.length ≤ 17592186044416 :=
  h.rw Try.underlying25 (by kernel_rfl) (by_ := 24) (by kernel_rfl) (by decide) (by decide) fun cs' hl h' u hu => by
    obtain ⟨x, y, z, rfl⟩ := three h' hl Try.underlying131 ⟨rfl, rfl⟩ ⟨rfl, rfl⟩ ⟨rfl, rfl⟩
    simp at hu
    rcases hu with rfl | rfl | rfl
    · exact ⟨x, rfl⟩
    · exact ⟨y, rfl⟩
    · exact ⟨z, rfl⟩
theorem joins26 {cs : List Value} (h : Opn enc Try.prog w 26 cs) : ∃ v xs, cs = [v] ∧ Rw (fun _ => True) w 2 v xs ∧ AllI xs ∧ xs.length ≤ 17592186044416 :=
  h.rw Try.underlying26 (by kernel_rfl) (by_ := 16) (by kernel_rfl) (by decide) (by decide) fun cs' hl h' u hu => by
    obtain ⟨a, b, rfl⟩ := list2 hl
    obtain ⟨x, e0, _⟩ := (h'.atn Try.underlying134 0 _ rfl 1 one24).int Try.underlying3
    obtain ⟨y, e1, _⟩ := (h'.atn Try.underlying134 1 _ rfl 1 one24).int Try.underlying3
    obtain rfl : a = .int .i64 x := s1 e0
    obtain rfl : b = .int .i64 y := s1 e1
    simp at hu
    rcases hu with rfl | rfl
    · exact ⟨x, rfl⟩
    · exact ⟨y, rfl⟩
/-- Nodes as elements. -/
def RdNode (ok : Nat → Prop) (w : World) (cs : Array Value) (d : NodeD) : Prop := ∃ v, cs = (d.cs v).toArray ∧ Rw ok w 1 v d.u
def elemN : Elem NodeD := ⟨4, by decide, RdNode, fun ⟨v, h1, h2⟩ hk => ⟨v, h1, h2.keep hk⟩, fun ⟨v, h1, h2⟩ hk => ⟨v, h1, h2.mono hk⟩, fun ⟨v, h1, h2⟩ => by subst h1; rfl, fun ⟨v, h1, h2⟩ => by
  subst h1
  obtain ⟨_, _, _, rfl⟩ := h2.slice
  simp [NodeD.cs, Value.oneCell']⟩
theorem Elem.RdL.nodes {ok : Nat → Prop} {w : World} {v : Value} {ns : List NodeD} (h : elemN.RdL ok w v ns) : RdN ok w v ns := by
  obtain ⟨A, n, c, rfl, h1, h2, h3⟩ := h
  refine ⟨A, n, c, rfl, h1, h2, fun hp => ?_⟩
  obtain ⟨b, o, cur, t, fr, rfl, p1, p2, p3⟩ := h3 hp
  refine ⟨b, o, rfl, p1, lt_of_some p2, fun i d hd => ?_⟩
  obtain ⟨q1, vu, q2, q3⟩ := p3 i d hd
  change o + i * 4 + 4 ≤ cur.size at q1
  change cur.extract (o + i * 4) (o + i * 4 + 4) = _ at q2
  have hg : ∀ j, j < 4 → w.cell? ⟨b, o + i * 4 + j, none⟩ = (d.cs vu)[j]? := fun j hj => by
    rw [cell_of_row w b _ _ _ _ p2]
    have := congrArg (fun a => a[j]?) q2
    simp only [Array.getElem?_extract, List.getElem?_toArray] at this
    rw [if_pos (by omega)] at this
    exact this
  exact ⟨hg 0 (by decide), hg 1 (by decide), hg 2 (by decide), vu, hg 3 (by decide), q3⟩
theorem nodes27 {cs : List Value} (h : Opn enc Try.prog w 27 cs) : ∃ v ns, cs = [v] ∧ RdN (fun _ => True) w v ns ∧ NumN ns ∧ BdN ns := by
  obtain ⟨v, L, e, h1, h2, h3⟩ := h.rdL elemN (fun d => AllI d.u ∧ d.u.length ≤ 17592186044416) Try.underlying27 (by kernel_rfl) (by_ := 48) (by kernel_rfl) (by decide) fun cs' hl h' => by
    obtain ⟨a, b, c, d, rfl⟩ := list4 hl
    obtain ⟨x, e0, _⟩ := (h'.atn Try.underlying108 0 _ rfl 1 one24).int Try.underlying3
    obtain ⟨y, e1, _⟩ := (h'.atn Try.underlying108 1 _ rfl 1 one24).int Try.underlying3
    obtain ⟨z, e2, _⟩ := (h'.atn Try.underlying108 2 _ rfl 1 one24).int Try.underlying3
    obtain ⟨u, xs, e3, k1, k2, k3⟩ := ints24 (h'.atn Try.underlying108 3 _ rfl 1 (by kernel_rfl))
    obtain rfl : a = .int .i64 x := s1 e0
    obtain rfl : b = .int .i64 y := s1 e1
    obtain rfl : c = .int .i64 z := s1 e2
    obtain rfl : d = u := s1 e3
    exact ⟨⟨x, y, z, xs⟩, ⟨d, rfl, k1⟩, k2, k3⟩
  exact ⟨v, L, e, h1.nodes, fun d hd => (h2 d hd).1, ⟨by omega, fun d hd => by have := (h2 d hd).2; omega⟩⟩
theorem tree29 {cs : List Value} (h : Opn enc Try.prog w 29 cs) (hl : cs.length = 1) : ∃ v ns, cs = [v] ∧ RdN (fun _ => True) w v ns ∧ NumN ns ∧ BdN ns := by
  obtain ⟨a, rfl⟩ := list1 hl
  exact nodes27 (h.atn Try.underlying29 0 _ rfl 1 (by kernel_rfl))
theorem commit31 {cs : List Value} (h : Opn enc Try.prog w 31 cs) (hl : cs.length = 15) : ∃ d, RdC (fun _ => True) w cs.toArray d ∧ NumC d ∧ BdC d := by
  obtain ⟨a, b, c, d, e, f, g, i, j, k, l, m, n, o, p, rfl⟩ := list15 hl
  obtain ⟨x0, e0, _⟩ := (h.atn Try.underlying31 0 _ rfl 1 one24).int Try.underlying3
  obtain ⟨x1, e1, _⟩ := (h.atn Try.underlying31 1 _ rfl 1 one24).int Try.underlying3
  obtain ⟨x2, e2, _⟩ := (h.atn Try.underlying31 2 _ rfl 1 one24).int Try.underlying3
  obtain ⟨x3, e3, _⟩ := (h.atn Try.underlying31 3 _ rfl 1 one24).int Try.underlying3
  obtain ⟨x4, e4, _⟩ := (h.atn Try.underlying31 4 _ rfl 1 one24).int Try.underlying3
  obtain ⟨x5, e5⟩ := (h.atn Try.underlying31 5 _ rfl 1 (by kernel_rfl)).bool Try.underlying4
  obtain ⟨v6, y6, e6, k6, l6, m6⟩ := adds23 (h.atn Try.underlying31 6 _ rfl 1 (by kernel_rfl))
  obtain ⟨v7, y7, e7, k7, l7, m7⟩ := ints24 (h.atn Try.underlying31 7 _ rfl 1 (by kernel_rfl))
  obtain ⟨v8, y8, e8, k8, l8, m8⟩ := seals25 (h.atn Try.underlying31 8 _ rfl 1 (by kernel_rfl))
  obtain ⟨v9, y9, e9, k9, l9, m9⟩ := joins26 (h.atn Try.underlying31 9 _ rfl 1 (by kernel_rfl))
  obtain ⟨x10, e10, _⟩ := (h.atn Try.underlying31 10 _ rfl 1 one24).int Try.underlying3
  obtain ⟨x11, e11, _⟩ := (h.atn Try.underlying31 11 _ rfl 1 one24).int Try.underlying3
  obtain ⟨v12, y12, e12, k12, l12, m12⟩ := tree29 (h.atn Try.underlying31 12 _ rfl 1 (by kernel_rfl)) rfl
  obtain ⟨x13, e13, _⟩ := (h.atn Try.underlying31 13 _ rfl 1 one24).int Try.underlying3
  obtain ⟨x14, e14, _⟩ := (h.atn Try.underlying31 14 _ rfl 1 one24).int Try.underlying3
  obtain rfl : a = .int .i64 x0 := s1 e0
  obtain rfl : b = .int .i64 x1 := s1 e1
  obtain rfl : c = .int .i64 x2 := s1 e2
  obtain rfl : d = .int .i64 x3 := s1 e3
  obtain rfl : e = .int .i64 x4 := s1 e4
  obtain rfl : f = .bool x5 := s1 e5
  obtain rfl : g = v6 := s1 e6
  obtain rfl : i = v7 := s1 e7
  obtain rfl : j = v8 := s1 e8
  obtain rfl : k = v9 := s1 e9
  obtain rfl : l = .int .i64 x10 := s1 e10
  obtain rfl : m = .int .i64 x11 := s1 e11
  obtain rfl : n = v12 := s1 e12
  obtain rfl : o = .int .i64 x13 := s1 e13
  obtain rfl : p = .int .i64 x14 := s1 e14
  exact ⟨⟨x0, x1, x2, x3, x4, x5, y6, y7, y8, y9, x10, x11, y12, x13, x14⟩, ⟨⟨_, _, _, _, _, rfl, k6, k7, k8, k9, k12⟩⟩, ⟨l6, l7, l8, l9, l12⟩, ⟨Nat.le_trans m6 (by decide), Nat.le_trans m7 (by decide), Nat.le_trans m8 (by decide), Nat.le_trans m9 (by decide), m12⟩⟩
theorem note38 {cs : List Value} (h : Opn enc Try.prog w 38 cs) (hl : cs.length = 5) : ∃ a b c d e : Int, cs = [.int .i64 a, .int .i64 b, .int .i64 c, .int .i64 d, .int .i64 e] := by
  obtain ⟨a, b, c, d, e, rfl⟩ := list5 hl
  obtain ⟨x0, e0, _⟩ := (h.atn Try.underlying38 0 _ rfl 1 one24).int Try.underlying3
  obtain ⟨x1, e1, _⟩ := (h.atn Try.underlying38 1 _ rfl 1 one24).int Try.underlying3
  obtain ⟨x2, e2, _⟩ := (h.atn Try.underlying38 2 _ rfl 1 one24).int Try.underlying3
  obtain ⟨x3, e3, _⟩ := (h.atn Try.underlying38 3 _ rfl 1 one24).int Try.underlying3
  obtain ⟨x4, e4, _⟩ := (h.atn Try.underlying38 4 _ rfl 1 one24).int Try.underlying3
  obtain rfl : a = .int .i64 x0 := s1 e0
  obtain rfl : b = .int .i64 x1 := s1 e1
  obtain rfl : c = .int .i64 x2 := s1 e2
  obtain rfl : d = .int .i64 x3 := s1 e3
  obtain rfl : e = .int .i64 x4 := s1 e4
  exact ⟨_, _, _, _, _, rfl⟩
theorem card34 {cs : List Value} (h : Opn enc Try.prog w 34 cs) (hl : cs.length = 3) : ∃ a b c : Int, cs = [.int .i64 a, .int .i64 b, .int .i64 c] := three h hl Try.underlying34 ⟨rfl, rfl⟩ ⟨rfl, rfl⟩ ⟨rfl, rfl⟩
theorem face36 {cs : List Value} (h : Opn enc Try.prog w 36 cs) (hl : cs.length = 4) : ∃ (a b c : Int) (v : Value) (ns : List NodeD), cs = [.int .i64 a, .int .i64 b, v, .int .i64 c] ∧ RdN (fun _ => True) w v ns ∧ NumN ns ∧ BdN ns := by
  obtain ⟨a, b, c, d, rfl⟩ := list4 hl
  obtain ⟨x0, e0, _⟩ := (h.atn Try.underlying36 0 _ rfl 1 one24).int Try.underlying3
  obtain ⟨x1, e1, _⟩ := (h.atn Try.underlying36 1 _ rfl 1 one24).int Try.underlying3
  obtain ⟨v2, y2, e2, k2, l2, m2⟩ := tree29 (h.atn Try.underlying36 2 _ rfl 1 (by kernel_rfl)) rfl
  obtain ⟨x3, e3, _⟩ := (h.atn Try.underlying36 3 _ rfl 1 one24).int Try.underlying3
  obtain rfl : a = .int .i64 x0 := s1 e0
  obtain rfl : b = .int .i64 x1 := s1 e1
  obtain rfl : c = v2 := s1 e2
  obtain rfl : d = .int .i64 x3 := s1 e3
  exact ⟨_, _, _, _, _, rfl, k2, l2, m2⟩
/-- A list cut in two at a place. -/
theorem cut {cs : List Value} (i n : Nat) : cs.drop i = (cs.drop i).take n ++ cs.drop (i + n) := by
  rw [← List.drop_drop]
  exact (List.take_append_drop n (cs.drop i)).symm
theorem mail40 {cs : List Value} (h : Opn enc Try.prog w 40 cs) (hl : cs.length = 30) : ∃ d, RdM (fun _ => True) w cs.toArray d ∧ NumM d ∧ BdM d := by
  obtain ⟨x0, e0, _⟩ := (h.atn Try.underlying40 0 _ rfl 1 (by kernel_rfl)).int Try.underlying32
  obtain ⟨d1, k1, l1, m1⟩ := commit31 (h.atn Try.underlying40 1 _ rfl 15 (by kernel_rfl)) (by simp [hl])
  obtain ⟨x2, e2, _⟩ := (h.atn Try.underlying40 2 _ rfl 1 one24).int Try.underlying3
  obtain ⟨x3, e3, _⟩ := (h.atn Try.underlying40 3 _ rfl 1 one24).int Try.underlying3
  obtain ⟨c0, c1, c2, e4⟩ := card34 (h.atn Try.underlying40 4 _ rfl 3 (by kernel_rfl)) (by simp [hl])
  obtain ⟨f0, f1, f2, v5, y5, e5, k5, l5, m5⟩ := face36 (h.atn Try.underlying40 5 _ rfl 4 (by kernel_rfl)) (by simp [hl])
  obtain ⟨n0, n1, n2, n3, n4, e6⟩ := note38 (h.atn Try.underlying40 6 _ rfl 5 (by kernel_rfl)) (by simp [hl])
  refine ⟨⟨x0, d1, x2, x3, c0, c1, c2, f0, f1, y5, f2, n0, n1, n2, n3, n4⟩, ⟨⟨((cs.drop 1).take 15).toArray, v5, ?_, k1, k5⟩⟩, ⟨l1, l5⟩, ⟨m1, m5⟩⟩
  apply Array.ext'
  have e : cs = [.int .u8 x0] ++ ((cs.drop 1).take 15 ++ ([.int .i64 x2] ++ ([.int .i64 x3] ++ ([.int .i64 c0, .int .i64 c1, .int .i64 c2] ++ ([.int .i64 f0, .int .i64 f1, v5, .int .i64 f2] ++ [.int .i64 n0, .int .i64 n1, .int .i64 n2, .int .i64 n3, .int .i64 n4]))))) := by
    conv => lhs; rw [← List.drop_zero (l := cs), cut 0 1, cut 1 15, cut 16 1, cut 17 1, cut 18 3, cut 21 4, cut 25 5]
    rw [show (cs.drop 0).take 1 = _ from e0, show (cs.drop 16).take 1 = _ from e2, show (cs.drop 17).take 1 = _ from e3, show (cs.drop 18).take 3 = _ from e4, show (cs.drop 21).take 4 = _ from e5, show (cs.drop 25).take 5 = _ from e6, show cs.drop (25 + 5) = [] from List.drop_of_length_le (by omega)]
    simp
  simp only [MailD.cs, MailD.m1, MailD.m2, Array.toList_append, List.toList_toArray]
  conv => lhs; rw [e]
  simp
theorem feed42 {cs : List Value} (h : Opn enc Try.prog w 42 cs) (hl : cs.length = 53) : ∃ d, RdF (fun _ => True) w cs.toArray d ∧ NumF d ∧ BdF d := by
  obtain ⟨x0, e0, _⟩ := (h.atn Try.underlying42 0 _ rfl 1 (by kernel_rfl)).int Try.underlying22
  obtain ⟨x1, e1, _⟩ := (h.atn Try.underlying42 1 _ rfl 1 one24).int Try.underlying3
  obtain ⟨x2, e2, _⟩ := (h.atn Try.underlying42 2 _ rfl 1 one24).int Try.underlying3
  obtain ⟨d3, k3, l3, m3⟩ := commit31 (h.atn Try.underlying42 3 _ rfl 15 (by kernel_rfl)) (by simp [hl])
  obtain ⟨d4, k4, l4, m4⟩ := mail40 (h.atn Try.underlying42 4 _ rfl 30 (by kernel_rfl)) (by simp [hl])
  obtain ⟨n0, n1, n2, n3, n4, e5⟩ := note38 (h.atn Try.underlying42 5 _ rfl 5 (by kernel_rfl)) (by simp [hl])
  refine ⟨⟨x0, x1, x2, d3, d4, n0, n1, n2, n3, n4⟩, ⟨⟨((cs.drop 3).take 15).toArray, ((cs.drop 18).take 30).toArray, ?_, k3, k4⟩⟩, ⟨l3, l4⟩, ⟨m3, m4⟩⟩
  apply Array.ext'
  have e : cs = [.int .u8 x0] ++ ([.int .i64 x1] ++ ([.int .i64 x2] ++ ((cs.drop 3).take 15 ++ ((cs.drop 18).take 30 ++ [.int .i64 n0, .int .i64 n1, .int .i64 n2, .int .i64 n3, .int .i64 n4])))) := by
    conv => lhs; rw [← List.drop_zero (l := cs), cut 0 1, cut 1 1, cut 2 1, cut 3 15, cut 18 30, cut 48 5]
    rw [show (cs.drop 0).take 1 = _ from e0, show (cs.drop 1).take 1 = _ from e1, show (cs.drop 2).take 1 = _ from e2, show (cs.drop 48).take 5 = _ from e5, show cs.drop (48 + 5) = [] from List.drop_of_length_le (by omega)]
    simp
  simp only [FeedD.cs, FeedD.m0, FeedD.m1, Array.toList_append, List.toList_toArray]
  conv => lhs; rw [e]
  simp
theorem packet44 {cs : List Value} (h : Opn enc Try.prog w 44 cs) (hl : cs.length = 57) : ∃ d, RdP (fun _ => True) w cs.toArray d ∧ NumF d.d ∧ BdF d.d := by
  obtain ⟨x0, e0, _⟩ := (h.atn Try.underlying44 0 _ rfl 1 one24).int Try.underlying3
  obtain ⟨x1, e1, _⟩ := (h.atn Try.underlying44 1 _ rfl 1 one24).int Try.underlying3
  obtain ⟨x2, e2⟩ := (h.atn Try.underlying44 2 _ rfl 1 (by kernel_rfl)).bool Try.underlying4
  obtain ⟨x3, e3, _⟩ := (h.atn Try.underlying44 3 _ rfl 1 one24).int Try.underlying3
  obtain ⟨d4, k4, l4, m4⟩ := feed42 (h.atn Try.underlying44 4 _ rfl 53 (by kernel_rfl)) (by simp [hl])
  refine ⟨⟨x0, x1, x2, x3, d4⟩, ⟨⟨((cs.drop 4).take 53).toArray, ?_, k4⟩⟩, l4, m4⟩
  apply Array.ext'
  have e : cs = [.int .i64 x0] ++ ([.int .i64 x1] ++ ([.bool x2] ++ ([.int .i64 x3] ++ (cs.drop 4).take 53))) := by
    conv => lhs; rw [← List.drop_zero (l := cs), cut 0 1, cut 1 1, cut 2 1, cut 3 1, cut 4 53]
    rw [show (cs.drop 0).take 1 = _ from e0, show (cs.drop 1).take 1 = _ from e1, show (cs.drop 2).take 1 = _ from e2, show (cs.drop 3).take 1 = _ from e3, List.drop_of_length_le (i := 57) (by omega)]
    simp
  simp only [PackD.cs, PackD.m0, Array.toList_append, List.toList_toArray]
  conv => lhs; rw [e]
  simp
theorem packets59 {cs : List Value} (h : Opn enc Try.prog w 59 cs) : ∃ v L, cs = [v] ∧ elemP.RdL (fun _ => True) w v L ∧ (∀ d ∈ L, NumF d.d ∧ BdF d.d) ∧ L.length ≤ 17592186044416 :=
  h.rdL elemP (fun d => NumF d.d ∧ BdF d.d) Try.underlying59 (by kernel_rfl) (by_ := 632) (by kernel_rfl) (by decide) fun cs' hl h' => packet44 h' hl
end
end Go.Proofs.Ythahadhdhpcndaa
