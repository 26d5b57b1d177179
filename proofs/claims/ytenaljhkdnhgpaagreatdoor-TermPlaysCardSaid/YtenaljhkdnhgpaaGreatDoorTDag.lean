/- Dag, walked: what it tells is what 'dagRun' comes to. -/
import Derived.Test.YtenaljhkdnhgpaaGreatDoorTDag0
import Derived.Test.YtenaljhkdnhgpaaGreatDoorPhase
namespace Go.Proofs.YtenaljhkdnhgpaaGreatDoor.T
open Go.RowKit Go.Maps Go.Proofs.Phase
set_option linter.unusedVariables false
set_option linter.unusedSimpArgs false

def dagRun (L : List Tm) : Nat → (Int → Option Int) → List Int → List Tm → Option (List Tm)
  | 0, _, _, _ => none
  | f + 1, told, todo, out => match todo.getLast? with
    | none => some out
    | some x => match told x with
      | some _ => dagRun L f told todo.dropLast out
      | none => if x < 1 then none else match L[(x - 1).toNat]? with
        | none => none
        | some t => match told t.a with
          | none => dagRun L f told (todo ++ [t.a]) out
          | some a => match told t.b with
            | none => dagRun L f told (todo ++ [t.b]) out
            | some b => dagRun L f (upd told x ((out.length : Int) + 1)) todo (out ++ [⟨t.k, t.n, a, b⟩])
def wfI (x : Int) : Prop := (Lit.int .i64 x).wf = true
theorem push2 {ops : Array Oper} {rest : List Oper} {o : Oper} {a : Act} {Q : Exit → Act → World → Prop} {w : World} {B nb : Nat} {v : Value} {l : List Int} {u : Int} (hnb : nb = w.heap.size)
    (hgd : o.guard = none) (s x : Operand) (ho : o.op = .call { callee := .builtin .append, args := #[s, x], argTypes := #[23, 23] })
    (hs : a.eval s = v) (hx : a.eval x = .slice (some ⟨nb, 0, none⟩) 1 1) (hown : Hid (OI w B v l)) (hB : B ≤ w.heap.size) (hl : l.length < 4294967296)
    (h : ∀ v' w', OI w' B v' (l ++ [u]) → (w.alloc (.cells #[.int .i64 u] 3)).grownBy w' v.ownBlock → wpList Tryz.prog ops Q rest (a.put o.dst v') w') :
    wpList Tryz.prog ops Q (o :: rest) a (w.alloc (.cells #[.int .i64 u] 3)) := by
  subst hnb
  exact push hgd s x ho hs hx hown hB hl h
theorem pushT {ops : Array Oper} {rest : List Oper} {o : Oper} {a : Act} {Q : Exit → Act → World → Prop} {w : World} {B : Nat} {v : Value} {l : List Tm} {u : Tm}
    (hgd : o.guard = none) (s x : Operand) (ho : o.op = .call { callee := .builtin .append, args := #[s, x], argTypes := #[22, 22] })
    (hs : a.eval s = v) (hx : a.eval x = .slice (some ⟨w.heap.size, 0, none⟩) 1 1) (hown : Hid (w.ownsRow B 69 4 v l.length (rowOf l))) (hB : B ≤ w.heap.size) (hl : l.length < 4294967296)
    (h : ∀ v' w', w'.ownsRow B 69 4 v' (l.length + 1) (rowOf l ++ u.cs) → (w.alloc (.cells #[.int .u8 u.k, .int .i64 u.n, .int .i64 u.a, .int .i64 u.b] 69)).grownBy w' v.ownBlock → wpList Tryz.prog ops Q rest (a.put o.dst v') w') :
    wpList Tryz.prog ops Q (o :: rest) a (w.alloc (.cells #[.int .u8 u.k, .int .i64 u.n, .int .i64 u.a, .int .i64 u.b] 69)) := by
  obtain ⟨i0, hinf, hz0, hz1, hz2⟩ := info_parts info30
  refine wpList_append_own _ hgd s x 22 ho B 69 i0 _ 4 32 Tryz.underlying22 hinf hz0 hz1 hz2 rfl (by decide) v l.length (rowOf l) hs (hown.out.alloc _) ⟨w.heap.size, 0, none⟩ 1 1 [.int .u8 u.k, .int .i64 u.n, .int .i64 u.a, .int .i64 u.b] hx rfl (World.news_of_block (heap_alloc_new _ _))
    (by simp [Value.oneCell']) (by unfold maxLen; omega) (by omega) (by simp; omega) (fun v' w' h1 h2 _ => h v' w' h1 h2)
theorem dagRun_step {L R : List Tm} {f : Nat} {told : Int → Option Int} {todo : List Int} {out : List Tm} (h : dagRun L f told todo out = some R) : ∃ f', f = f' + 1 ∧ ((todo = [] ∧ out = R) ∨ ∃ (N : Nat) (x : Int), todo.length = N + 1 ∧ todo[N]? = some x ∧
    ((∃ a, told x = some a ∧ dagRun L f' told todo.dropLast out = some R) ∨ (told x = none ∧ ∃ (i : Nat) (t : Tm), x = (i : Int) + 1 ∧ L[i]? = some t ∧
      ((told t.a = none ∧ dagRun L f' told (todo ++ [t.a]) out = some R) ∨ ∃ a, told t.a = some a ∧
        ((told t.b = none ∧ dagRun L f' told (todo ++ [t.b]) out = some R) ∨ ∃ b, told t.b = some b ∧ dagRun L f' (upd told x ((out.length : Int) + 1)) todo (out ++ [⟨t.k, t.n, a, b⟩]) = some R))))) := by
  cases f with
  | zero => cases h
  | succ f =>
    refine ⟨f, rfl, ?_⟩
    unfold dagRun at h
    rw [List.getLast?_eq_getElem?] at h
    cases e : todo[todo.length - 1]? with
    | none =>
      rw [e] at h
      left
      refine ⟨?_, Option.some.inj h⟩
      rw [List.getElem?_eq_none_iff] at e
      have : todo.length = 0 := by omega
      exact List.length_eq_zero_iff.1 this
    | some x =>
      rw [e] at h
      right
      have hl := (List.getElem?_eq_some_iff.1 e).1
      refine ⟨todo.length - 1, x, by omega, e, ?_⟩
      dsimp only at h
      cases e1 : told x with
      | some a => rw [e1] at h; exact .inl ⟨a, rfl, h⟩
      | none =>
        rw [e1] at h
        dsimp only at h
        refine .inr ⟨rfl, ?_⟩
        by_cases h1 : x < 1
        · rw [if_pos h1] at h; cases h
        · rw [if_neg h1] at h
          cases e2 : L[(x - 1).toNat]? with
          | none => rw [e2] at h; cases h
          | some t =>
            rw [e2] at h
            dsimp only at h
            refine ⟨(x - 1).toNat, t, by omega, e2, ?_⟩
            cases e3 : told t.a with
            | none => rw [e3] at h; exact .inl ⟨rfl, h⟩
            | some a =>
              rw [e3] at h
              dsimp only at h
              refine .inr ⟨a, rfl, ?_⟩
              cases e4 : told t.b with
              | none => rw [e4] at h; exact .inl ⟨rfl, h⟩
              | some b => rw [e4] at h; exact .inr ⟨b, rfl, h⟩
/-- The round's state. -/
def RI (L R : List Tm) (w : World) (mb C : Nat) (f : Nat) (v5 v7 : Value) (wr : World) : Prop :=
  ∃ told todo out n, dagRun L f told todo out = some R ∧ DSt wr w.heap.size mb n told v7 todo v5 out ∧ Below w.heap.size w wr ∧ out.length + f ≤ C ∧ todo.length + f ≤ C ∧ n + f ≤ C ∧ ∀ x ∈ todo, wfI x
set_option maxHeartbeats 4000000 in
set_option maxRecDepth 100000 in
theorem dag_loop (B g m : Nat) (L : List Tm) (v : Value) (x : Int) (hx : thereB L.length x = true) (hwf : ∀ t ∈ L, Tm.wf t) (R : List Tm) (F C : Nat) (hC : C ≤ 4000000000) (hF : F + 1 ≤ C) (w : World) (h : St w B g m L v)
    (hR : dagRun L F (upd (fun _ => none) 0 0) [x] [] = some R) :
    Calls Tryz.prog 9 #[.pointer (some ⟨g, 0, none⟩), .int .i64 x] w fun e w' => ∃ v, e = .returned v ∧ w'.ownsRow w.heap.size 69 4 v R.length (rowOf R) ∧ Below w.heap.size w w' := by
  have hM := made_yes g m w h.c1
  obtain ⟨AL, cL, hv⟩ := h.slice
  have hT := there g L.length cL AL x w (by rw [h.c0, hv])
  rw [show (decide (1 ≤ x) && decide (x ≤ L.length)) = true from hx] at hT
  have hmk : (Instr.makeMap 92 none).run Tryz.prog w = .ok (.map (some w.heap.size)) (w.alloc (.map #[] 0)) := by
    simp [Instr.makeMap, go_sem]
  have hm0 : MapI (w.alloc (.map #[] 0)) w.heap.size 0 (fun _ => none) := ⟨_, World.ownsMap_made w Tryz.prog 3 _, fun t kl _ z => rfl⟩
  obtain ⟨w1, r1, g1, m1⟩ := hm0.put (by unfold maxLen; omega) 0 0 (by decide) (by decide)
  have s1 : w.heap.size + 1 ≤ w1.heap.size := by have := g1.size; simpa using this
  have hwx : wfI x := by
    have := h.len_le
    unfold thereB at hx
    rw [Bool.and_eq_true, decide_eq_true_eq, decide_eq_true_eq] at hx
    exact wf_small x (by omega) (by omega)
  have b1 : Below w.heap.size w w1 := ((Below.refl _ _).alloc (Nat.le_refl _) _).grown g1 (by simp) (fun k hk => by injection hk with hk; omega)
  have b2 : Below w.heap.size w (w1.alloc (.cells #[.int .i64 x] 3)) := b1.alloc (by omega) _
  have d2 : DSt (w1.alloc (.cells #[.int .i64 x] 3)) w.heap.size w.heap.size 1 (upd (fun _ => none) 0 0) (.slice (some ⟨w1.heap.size, 0, none⟩) 1 1) [x] (.slice none 0 0) [] := by
    refine ⟨by simp; omega, Nat.le_refl _, m1.below (Below.heap_alloc w1 _ _ (by omega)), ?_, World.ownsRow_nil _ _ _ _⟩
    refine ⟨rfl, .inr ⟨w1.heap.size, 1, #[.int .i64 x], rfl, by omega, heap_alloc_new w1 _, by simp, by unfold maxLen; simp, rfl, rfl⟩⟩
  have HST : Hid (RI L R w w.heap.size C F (.slice none 0 0) (.slice (some ⟨w1.heap.size, 0, none⟩) 1 1) (w1.alloc (.cells #[.int .i64 x] 3))) := Lib.hid ⟨_, _, _, _, hR, d2, b2, by simp; omega, by simp; omega, by omega, by simpa using hwx⟩
  have HH := Lib.hid h
  have HWF := Lib.hid hwf
  have HV := Lib.hid hv
  clear hR h hwf hwx hm0 g1 m1 b1 b2 d2 hx hv
  go_enter Tryz.func9, Tryz.ntmps9
  go_wp2_with (first | (go_at_call 30; with_reducible refine hM.mono ?_; rintro e w' ⟨rfl, rfl⟩) | (go_at_call 31; with_reducible refine hT.mono ?_; rintro e w' ⟨rfl, rfl⟩))
  clear hM hT hmk r1
  go_loopg [5, 7] F (fun f v5 v7 wr => Hid (RI L R w w.heap.size C f v5 v7 wr))
  case atStart => exact HST
  case round =>
    clear HST
    obtain ⟨told, todo, out, n, hrun, hd, hb, q1, q2, q3, q4⟩ := hrel.out
    clear hrel
    obtain ⟨f, rfl, hcase⟩ := dagRun_step hrun
    have hlow := hd.hB
    have HD := Lib.hid hd
    have HB := Lib.hid hb
    have HQ := Lib.hid (And.intro q1 (And.intro q2 (And.intro q3 q4)))
    have HCC := Lib.hid hC
    rcases hcase with ⟨rfl, rfl⟩ | ⟨N, x1, hN, hx1, hcase⟩
    · obtain ⟨A, c, rfl, _⟩ := (OI_of hd).slice
      clear hd hb q1 q2 q3 q4 hrun
      go_wp2
      go_ret
      exact ⟨_, rfl, HD.out.out, HB.out⟩
    · obtain ⟨A, c, rfl, hA⟩ := (OI_of hd).slice
      obtain ⟨b, rfl⟩ := hA (by omega)
      have hcap : N + 1 ≤ c := by
        rcases hd.todo.2 with ⟨h1, h2⟩ | ⟨b', cap, cur, h1, h2, h3, h4, _⟩
        · omega
        · injection h1 with _ _ e3
          omega
      have cx := (OI_of hd).il.cell rfl N x1 hx1
      have wx := q4 x1 (List.mem_of_getElem? hx1)
      have i1 : (0 : Int) ≤ (N : Int) := by omega
      have i2 : (N : Int) < (N : Int) + 1 := by omega
      have i3 : (N : Int) ≤ 4000000000 := by omega
      have HX1 := Lib.hid hx1
      have HN := Lib.hid hN
      rw [hN]
      have hL1 := hd.map.look x1 wx
      have i4 : (N : Int) ≤ (c : Int) := by omega
      clear hx1 hN hA q1 q2 q3 q4
      rcases hcase with ⟨a, ha, hrun'⟩ | ⟨hno, i, t, rfl, ht, hcase⟩
      · rw [ha] at hL1
        simp only [Option.getD_some, Option.isSome_some] at hL1
        have HR := Lib.hid hrun'
        clear ha hrun' hd hb hrun wx hC
        go_wp2_with fail
        go_roundg f
        case measure => omega
        case rel =>
          have hd := HD.out
          rw [HN.out] at hd
          have := hd
          exact Lib.hid ⟨told, todo.dropLast, out, n, HR.out, by have h5 := HD.out.popped (by have := HN.out; omega); rw [show todo.length - 1 = N by have := HN.out; omega] at h5; exact h5, HB.out, by have := HQ.out.1; omega, by have := HQ.out.2.1; simp; omega, by have := HQ.out.2.2.1; omega, fun y hy => HQ.out.2.2.2 y (List.dropLast_subset _ hy)⟩
      · rw [hno] at hL1
        simp only [Option.getD_none, Option.isSome_none] at hL1
        have hwt := HWF.out t (List.mem_of_getElem? ht)
        obtain ⟨tk, tn, ta, tb⟩ := t
        have hS := HH.out.below hb
        have hlt : i < L.length := (List.getElem?_eq_some_iff.1 ht).1
        obtain ⟨gl, cl, rfl, _, _⟩ := hS.row.form (by omega)
        have c0 := hS.c0
        have y0 := row_cell hS.row rfl i _ ht 0 (by decide)
        have y1 := row_cell hS.row rfl i _ ht 1 (by decide)
        have y2 := row_cell hS.row rfl i _ ht 2 (by decide)
        have y3 := row_cell hS.row rfl i _ ht 3 (by decide)
        have x0 : wr.cell? ⟨gl, i * 4, none⟩ = some (.int .u8 tk) := y0
        have x1 : wr.cell? ⟨gl, i * 4 + 1, none⟩ = some (.int .i64 tn) := y1
        have x2 : wr.cell? ⟨gl, i * 4 + 2, none⟩ = some (.int .i64 ta) := y2
        have x3 : wr.cell? ⟨gl, i * 4 + 3, none⟩ = some (.int .i64 tb) := y3
        clear y0 y1 y2 y3
        have i5 : (0 : Int) ≤ (i : Int) := by omega
        have i6 : (i : Int) < (L.length : Int) := by omega
        have hlen := hS.len_le
        have hb3 : Below wr.heap.size wr (wr.alloc (.cells #[.int .u8 tk, .int .i64 tn, .int .i64 ta, .int .i64 tb] 69)) := (Below.refl _ _).alloc (Nat.le_refl _) _
        have hd3 := hd.below hb3
        have hL2 := hd3.map.look ta hwt.2.2.1
        have HD3 := Lib.hid hd3
        have HB3 := Lib.hid (hb.trans (hb3.mono hb.size))
        simp only at hcase
        have HWT := Lib.hid hwt
        rcases hcase with ⟨ha, hrun'⟩ | ⟨a, ha, hcase⟩
        · rw [ha] at hL2
          simp only [Option.getD_none, Option.isSome_none] at hL2
          have HR := Lib.hid hrun'
          have O3 : Hid (OI (wr.alloc (.cells #[.int .u8 tk, .int .i64 tn, .int .i64 ta, .int .i64 tb] 69)) w.heap.size (.slice (some ⟨b, 0, none⟩) (N + 1) c) todo) := Lib.hid (by rw [← HN.out]; exact OI_of hd3)
          have hB3 := hd3.hB
          clear ha hrun' hd hb hrun wx hC hS ht hlt hd3 hb3 hwt
          go_wp2_with (at_builtin; refine push2 (by simp) rfl _ _ rfl rfl rfl O3 hB3 ?c1 ?_)
          case c1 => have := HQ.out.2.1; have := HCC.out; omega
          intro v' w4 o1 o2
          have D4 := HD3.out.pushed o1 (by rw [show (Value.slice (some ⟨b, 0, none⟩) todo.length c).ownBlock = (Value.slice (some ⟨b, 0, none⟩) (N + 1) c).ownBlock from rfl]; exact o2)
          have B4 : Below w.heap.size w w4 := (HB3.out.alloc hB3 _).grown o2 (by simp; omega) (fun k hk => (World.ownsRow.lt O3.out k hk).1)
          have HD4 := Lib.hid D4
          have HB4 := Lib.hid B4
          clear D4 B4 o1 o2
          go_wp2_with fail
          go_roundg f
          case measure => omega
          case rel => exact Lib.hid ⟨told, todo ++ [ta], out, n, HR.out, HD4.out, HB4.out, by have := HQ.out.1; omega, by have := HQ.out.2.1; simp; omega, by have := HQ.out.2.2.1; omega, fun y hy => by
            rcases List.mem_append.1 hy with h5 | h5
            · exact HQ.out.2.2.2 y h5
            · rw [List.mem_singleton.1 h5]; exact HWT.out.2.2.1⟩
        · rw [ha] at hL2
          simp only [Option.getD_some, Option.isSome_some] at hL2
          have hL3 := hd3.map.look tb hwt.2.2.2
          rcases hcase with ⟨hb', hrun'⟩ | ⟨b', hb', hrun'⟩
          · rw [hb'] at hL3
            simp only [Option.getD_none, Option.isSome_none] at hL3
            have HR := Lib.hid hrun'
            have O3 : Hid (OI (wr.alloc (.cells #[.int .u8 tk, .int .i64 tn, .int .i64 ta, .int .i64 tb] 69)) w.heap.size (.slice (some ⟨b, 0, none⟩) (N + 1) c) todo) := Lib.hid (by rw [← HN.out]; exact OI_of hd3)
            have hB3 := hd3.hB
            clear ha hb' hrun' hd hb hrun wx hC hS ht hlt hd3 hb3 hwt
            go_wp2_with (at_builtin; refine push2 (by simp) rfl _ _ rfl rfl rfl O3 hB3 ?c1 ?_)
            case c1 => have := HQ.out.2.1; have := HCC.out; omega
            intro v' w4 o1 o2
            have D4 := HD3.out.pushed o1 (by rw [show (Value.slice (some ⟨b, 0, none⟩) todo.length c).ownBlock = (Value.slice (some ⟨b, 0, none⟩) (N + 1) c).ownBlock from rfl]; exact o2)
            have B4 : Below w.heap.size w w4 := (HB3.out.alloc hB3 _).grown o2 (by simp; omega) (fun k hk => (World.ownsRow.lt O3.out k hk).1)
            have HD4 := Lib.hid D4
            have HB4 := Lib.hid B4
            clear D4 B4 o1 o2
            go_wp2_with fail
            go_roundg f
            case measure => omega
            case rel => exact Lib.hid ⟨told, todo ++ [tb], out, n, HR.out, HD4.out, HB4.out, by have := HQ.out.1; omega, by have := HQ.out.2.1; simp; omega, by have := HQ.out.2.2.1; omega, fun y hy => by
              rcases List.mem_append.1 hy with h5 | h5
              · exact HQ.out.2.2.2 y h5
              · rw [List.mem_singleton.1 h5]; exact HWT.out.2.2.2⟩
          · rw [hb'] at hL3
            simp only [Option.getD_some, Option.isSome_some] at hL3
            have HA := Lib.hid ha
            have HB' := Lib.hid hb'
            have hL4 := fun j => (hd3.below (below_drewN (Below.refl _ _) j)).map.look1 ta hwt.2.2.1
            have hL5 := fun j => (hd3.below (below_drewN (Below.refl _ _) j)).map.look1 tb hwt.2.2.2
            rw [ha] at hL4
            rw [hb'] at hL5
            simp only [Option.getD_some] at hL4 hL5
            have HR := Lib.hid hrun'
            have hB3 := hd3.hB
            clear ha hb' hrun' hd hb hrun wx hC hS ht hlt hd3 hb3 hwt
            go_wp2_with fail
            have HLK : Hid (∀ w', Below wr.heap.size wr w' → (Instr.lookup 92 (.map (some w.heap.size)) (.int .i64 ta) false).run Tryz.prog w' = .ok (.int .i64 a) w' ∧ (Instr.lookup 92 (.map (some w.heap.size)) (.int .i64 tb) false).run Tryz.prog w' = .ok (.int .i64 b') w') := Lib.hid fun w' hw' => by
              have h1 := (HD.out.below hw').map.look1 ta HWT.out.2.2.1
              have h2 := (HD.out.below hw').map.look1 tb HWT.out.2.2.2
              rw [HA.out] at h1
              rw [HB'.out] at h2
              exact ⟨h1, h2⟩
            have hbw : Below wr.heap.size wr (wr.alloc (.cells #[.int .u8 tk, .int .i64 tn, .int .i64 ta, .int .i64 tb] 69)) := (Below.refl _ _).alloc (Nat.le_refl _) _
            have HBW := Lib.hid hbw
            clear hbw
            generalize hwb : wr.alloc (.cells #[.int .u8 tk, .int .i64 tn, .int .i64 ta, .int .i64 tb] 69) = wb at *
            have X := Lib.hid hwb
            have s0 : wb.heap[wr.heap.size]? = some (.cells #[.int .u8 tk, .int .i64 tn, .int .i64 ta, .int .i64 tb] 69 (0, 0)) := by rw [← hwb]; exact heap_alloc_new wr _
            have z2 : wb.cell? ⟨wr.heap.size, 2, none⟩ = some (.int .i64 ta) := by rw [cell_of_row wb _ 2 _ _ _ s0]; rfl
            have z3 : wb.cell? ⟨wr.heap.size, 3, none⟩ = some (.int .i64 tb) := by rw [cell_of_row wb _ 3 _ _ _ s0]; rfl
            have f2 : wb.frozen? ⟨wr.heap.size, 2, none⟩ = false := frozen_of_row wb _ 2 _ _ s0
            have f3 : wb.frozen? ⟨wr.heap.size, 3, none⟩ = false := frozen_of_row wb _ 3 _ _ s0
            have S0 := Lib.hid s0
            have HZ3 : Hid (∀ u, (wb.drew.setCell ⟨wr.heap.size, 2, none⟩ u).cell? ⟨wr.heap.size, 3, none⟩ = some (.int .i64 tb)) := Lib.hid fun u => by
              have h1 : wb.drew.heap[wr.heap.size]? = some (.cells #[.int .u8 tk, .int .i64 tn, .int .i64 ta, .int .i64 tb] 69 (0, 0)) := s0
              rw [cell_of_row _ _ 3 _ _ _ (heap_setCell_same wb.drew wr.heap.size 2 _ _ _ h1)]; rfl
            have HS4 : Hid ((((wb.setCell ⟨wr.heap.size, 2, none⟩ (.int .i64 a)).setCell ⟨wr.heap.size, 3, none⟩ (.int .i64 b')).drew).heap[wr.heap.size]? = some (.cells #[.int .u8 tk, .int .i64 tn, .int .i64 a, .int .i64 b'] 69 (0, 0))) := Lib.hid (by
              have h1 := heap_setCell_same wb wr.heap.size 2 _ _ (.int .i64 a) s0
              exact heap_setCell_same _ wr.heap.size 3 _ _ (.int .i64 b') h1)
            clear hwb s0
            refine Go.Proofs.Phase.wp_region_ph (S := (fun w' => w'.cell? ⟨wr.heap.size, 3, none⟩ = some (.int .i64 tb) ∧ (Instr.lookup 92 (.map (some w.heap.size)) (.int .i64 ta) false).run Tryz.prog w' = .ok (.int .i64 a) w' ∧ (Instr.lookup 92 (.map (some w.heap.size)) (.int .i64 tb) false).run Tryz.prog w' = .ok (.int .i64 b') w')) 11 (by kernel_rfl) ?_ (fun hHeld => ?_)
            · ((try dsimp only) <;> (first | exact ⟨z3, hL4 1, hL5 1⟩ | exact ⟨HZ3.out _, HLK.out _ ((below_drewN HBW.out 1).setCell (Nat.le_refl _) _)⟩))
            refine Go.Proofs.Phase.wpPh_take' (i := 0) (by simp only [List.getElem?_toArray, List.getElem?_cons_succ, List.getElem?_cons_zero]; rfl) ?_
            refine ⟨?_, ⟨by kernel_rfl, by kernel_rfl, by kernel_rfl, by kernel_rfl⟩, fun _ _ _ h => h, Or.inl ⟨by rfl, ?_⟩, by assumption, ?_⟩
            rotate_left
            · (intro w hSw; (try dsimp only at hSw); go_simp; with_reducible rfl)
            try simp only [Act.put, List.setIfInBounds_toArray, List.set_cons_zero, List.set_cons_succ]
            refine Go.Proofs.Phase.wpPh_take' (i := 1) (by simp only [List.getElem?_toArray, List.getElem?_cons_succ, List.getElem?_cons_zero]; rfl) ?_
            refine ⟨?_, ⟨by kernel_rfl, by kernel_rfl, by kernel_rfl, by kernel_rfl⟩, fun _ _ _ h => h, Or.inl ⟨by rfl, ?_⟩, by assumption, ?_⟩
            rotate_left
            · (intro w hSw; (try dsimp only at hSw); go_simp; with_reducible rfl)
            try simp only [Act.put, List.setIfInBounds_toArray, List.set_cons_zero, List.set_cons_succ]
            refine Go.Proofs.Phase.wpPh_take' (i := 4) (by simp only [List.getElem?_toArray, List.getElem?_cons_succ, List.getElem?_cons_zero]; rfl) ?_
            refine ⟨?_, ⟨by kernel_rfl, by kernel_rfl, by kernel_rfl, by kernel_rfl⟩, fun _ _ _ h => h, Or.inl ⟨by rfl, ?_⟩, by assumption, ?_⟩
            rotate_left
            · (intro w hSw; (try dsimp only at hSw); go_simp; with_reducible rfl)
            try simp only [Act.put, List.setIfInBounds_toArray, List.set_cons_zero, List.set_cons_succ]
            refine Go.Proofs.Phase.wpPh_take' (i := 5) (by simp only [List.getElem?_toArray, List.getElem?_cons_succ, List.getElem?_cons_zero]; rfl) ?_
            refine ⟨?_, ⟨by kernel_rfl, by kernel_rfl, by kernel_rfl, by kernel_rfl⟩, fun _ _ _ h => h, Or.inl ⟨by rfl, ?_⟩, by assumption, ?_⟩
            rotate_left
            · (intro w hSw; (try dsimp only at hSw); go_simp; with_reducible rfl)
            try simp only [Act.put, List.setIfInBounds_toArray, List.set_cons_zero, List.set_cons_succ]
            refine Go.Proofs.Phase.wpPh_take' (i := 6) (by simp only [List.getElem?_toArray, List.getElem?_cons_succ, List.getElem?_cons_zero]; rfl) ?_
            refine ⟨?_, ⟨by kernel_rfl, by kernel_rfl, by kernel_rfl, by kernel_rfl⟩, fun _ _ _ h => h, Or.inl ⟨by rfl, ?_⟩, by assumption, ?_⟩
            rotate_left
            · (intro w hSw; (try dsimp only at hSw); go_simp; with_reducible rfl)
            try simp only [Act.put, List.setIfInBounds_toArray, List.set_cons_zero, List.set_cons_succ]
            refine Go.Proofs.Phase.wpPh_take' (i := 7) (by simp only [List.getElem?_toArray, List.getElem?_cons_succ, List.getElem?_cons_zero]; rfl) ?_
            refine ⟨?_, ⟨by kernel_rfl, by kernel_rfl, by kernel_rfl, by kernel_rfl⟩, fun _ _ _ h => h, Or.inl ⟨by rfl, ?_⟩, by assumption, ?_⟩
            rotate_left
            · (intro w hSw; (try dsimp only at hSw); go_simp; with_reducible rfl)
            try simp only [Act.put, List.setIfInBounds_toArray, List.set_cons_zero, List.set_cons_succ]
            refine Go.Proofs.Phase.wpPh_before (i := 2) (by kernel_rfl) (by simp only [List.getElem?_toArray, List.getElem?_cons_succ, List.getElem?_cons_zero]; rfl) (fun K hK => ?_)
            go_simp
            refine hK.out _ _ ?_ (fun hHeldN => ?_)
            · ((try dsimp only) <;> (first | exact ⟨z3, hL4 1, hL5 1⟩ | exact ⟨HZ3.out _, HLK.out _ ((below_drewN HBW.out 1).setCell (Nat.le_refl _) _)⟩))
            clear hHeld
            have hHeld := hHeldN
            clear hHeldN
            clear hK K
            try simp only [Act.put, List.setIfInBounds_toArray, List.set_cons_zero, List.set_cons_succ]
            refine Go.Proofs.Phase.wpPh_take' (i := 3) (by simp only [List.getElem?_toArray, List.getElem?_cons_succ, List.getElem?_cons_zero]; rfl) ?_
            refine ⟨?_, ⟨by kernel_rfl, by kernel_rfl, by kernel_rfl, by kernel_rfl⟩, fun _ _ _ h => h, Or.inl ⟨by rfl, ?_⟩, by assumption, ?_⟩
            rotate_left
            · (intro w hSw; (try dsimp only at hSw); go_simp; with_reducible rfl)
            try simp only [Act.put, List.setIfInBounds_toArray, List.set_cons_zero, List.set_cons_succ]
            refine Go.Proofs.Phase.wpPh_take' (i := 8) (by simp only [List.getElem?_toArray, List.getElem?_cons_succ, List.getElem?_cons_zero]; rfl) ?_
            refine ⟨?_, ⟨by kernel_rfl, by kernel_rfl, by kernel_rfl, by kernel_rfl⟩, fun _ _ _ h => h, Or.inl ⟨by rfl, ?_⟩, by assumption, ?_⟩
            rotate_left
            · (intro w hSw; (try dsimp only at hSw); go_simp; with_reducible rfl)
            try simp only [Act.put, List.setIfInBounds_toArray, List.set_cons_zero, List.set_cons_succ]
            refine Go.Proofs.Phase.wpPh_before (i := 9) (by kernel_rfl) (by simp only [List.getElem?_toArray, List.getElem?_cons_succ, List.getElem?_cons_zero]; rfl) (fun K hK => ?_)
            go_simp
            refine hK.out _ _ ?_ (fun hHeldN => ?_)
            · ((try dsimp only) <;> (first | exact ⟨z3, hL4 1, hL5 1⟩ | exact ⟨HZ3.out _, HLK.out _ ((below_drewN HBW.out 1).setCell (Nat.le_refl _) _)⟩))
            clear hHeld
            have hHeld := hHeldN
            clear hHeldN
            clear hK K
            try simp only [Act.put, List.setIfInBounds_toArray, List.set_cons_zero, List.set_cons_succ]
            refine Go.Proofs.Phase.wpPh_take' (i := 10) (by simp only [List.getElem?_toArray, List.getElem?_cons_succ, List.getElem?_cons_zero]; rfl) ?_
            refine ⟨?_, ⟨by kernel_rfl, by kernel_rfl, by kernel_rfl, by kernel_rfl⟩, fun _ _ _ h => h, Or.inl ⟨by rfl, ?_⟩, by assumption, ?_⟩
            rotate_left
            · (intro w hSw; (try dsimp only at hSw); go_simp; with_reducible rfl)
            try simp only [Act.put, List.setIfInBounds_toArray, List.set_cons_zero, List.set_cons_succ]
            refine Go.Proofs.Phase.wpPh_behind (i := 11) (by kernel_rfl) (by simp only [List.getElem?_toArray, List.getElem?_cons_succ, List.getElem?_cons_zero]; rfl) (by kernel_rfl) (fun K hK => ?_)
            go_simp
            refine hK.out _ _ ?_
            clear hK K
            try simp only [Act.put, List.setIfInBounds_toArray, List.set_cons_zero, List.set_cons_succ]
            refine Go.Proofs.Phase.wpPh_done (by kernel_rfl) ?_ _
            have bc : Below wr.heap.size wr (((wb.setCell ⟨wr.heap.size, 2, none⟩ (.int .i64 a)).setCell ⟨wr.heap.size, 3, none⟩ (.int .i64 b')).drew) := ((HBW.out.setCell (Nat.le_refl _) _).setCell (Nat.le_refl _) _).drew
            have s4 := HS4.out
            generalize ((wb.setCell ⟨wr.heap.size, 2, none⟩ (.int .i64 a)).setCell ⟨wr.heap.size, 3, none⟩ (.int .i64 b')).drew = wc at *
            have k0 : wc.cell? ⟨wr.heap.size, 0, none⟩ = some (.int .u8 tk) := by rw [cell_of_row wc _ 0 _ _ _ s4]; rfl
            have k1 : wc.cell? ⟨wr.heap.size, 1, none⟩ = some (.int .i64 tn) := by rw [cell_of_row wc _ 1 _ _ _ s4]; rfl
            have k2 : wc.cell? ⟨wr.heap.size, 2, none⟩ = some (.int .i64 a) := by rw [cell_of_row wc _ 2 _ _ _ s4]; rfl
            have k3 : wc.cell? ⟨wr.heap.size, 3, none⟩ = some (.int .i64 b') := by rw [cell_of_row wc _ 3 _ _ _ s4]; rfl
            have dc := HD.out.below bc
            have O5 := Lib.hid dc.out
            have hB5 := dc.hB
            have HDC := Lib.hid dc
            have HBC := Lib.hid (HB.out.trans (bc.mono HB.out.size))
            clear bc s4 dc hL2 hL3 hL4 hL5 z2 z3 f2 f3
            go_wp2_with (at_builtin; refine pushT (u := ⟨tk, tn, a, b'⟩) rfl _ _ rfl rfl rfl O5 hB5 ?c1 ?_)
            case c1 => have := HQ.out.1; have := HCC.out; omega
            intro v5' w4 o1 o2
            have D4 := HDC.out.told' o1 o2
            have B4 : Below w.heap.size w w4 := (HBC.out.alloc hB5 _).grown o2 (by simp; omega) (fun k hk => (World.ownsRow.lt O5.out k hk).1)
            have wx : wfI ((i : Int) + 1) := wf_small _ (by omega) (by omega)
            obtain ⟨A5, c5, e5, _⟩ := RT.slice (l := out ++ [⟨tk, tn, a, b'⟩]) (show RT w4 v5' _ from ⟨D4.out.1, D4.out.2.imp id fun ⟨g, cap, cur, h1, h2, h3⟩ => ⟨g, cap, cur, h1, Nat.zero_le _, h3⟩⟩)
            obtain ⟨w6, r6, g6, m6⟩ := D4.map.put (by unfold maxLen; have := HQ.out.2.2.1; have := HCC.out; omega) ((i : Int) + 1) ((out.length : Int) + 1) wx (wf_small _ (by omega) (by have := HQ.out.1; have := HCC.out; omega))
            have D6 := D4.mapped m6 g6
            have B6 : Below w.heap.size w w6 := B4.grown g6 D4.hB (fun k hk => by injection hk with hk; omega)
            rw [List.length_append, List.length_singleton] at e5
            subst e5
            have HD6 := Lib.hid D6
            have HB6 := Lib.hid B6
            clear D4 B4 o1 o2 D6 B6 m6 g6 wx
            go_wp2_with fail
            go_roundg f
            case measure => omega
            case rel => exact Lib.hid ⟨_, todo, _, n + 1, HR.out, by rw [← HN.out]; exact HD6.out, HB6.out, by have := HQ.out.1; simp; omega, by have := HQ.out.2.1; omega, by have := HQ.out.2.2.1; omega, HQ.out.2.2.2⟩
end Go.Proofs.YtenaljhkdnhgpaaGreatDoor.T
