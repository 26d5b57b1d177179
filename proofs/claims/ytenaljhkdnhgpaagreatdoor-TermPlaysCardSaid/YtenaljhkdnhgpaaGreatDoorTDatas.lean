/- Data, walked. -/
import Derived.Test.YtenaljhkdnhgpaaGreatDoorTData
namespace Go.Proofs.YtenaljhkdnhgpaaGreatDoor.T
open Go.RowKit

/-- A row of int64s. -/
def I2 (w : World) (s : Value) (l : List Int) : Prop := w.ownsRow 0 2 1 s l.length (l.map (Value.int .i64))
theorem I2.kp {w w' : World} {B g m : Nat} {L : List Tm} {v s : Value} {l : List Int} (h : I2 w s l) (hS : St w B g m L v) (hk : Kp w w' g m v) : I2 w' s l := by
  refine ⟨h.1, ?_⟩
  rcases h.2 with h1 | ⟨b, cap, cur, rfl, h2, h3, h4⟩
  · exact .inl h1
  · refine .inr ⟨b, cap, cur, rfl, h2, ?_, h4⟩
    rw [hk b (lt_of_some h3) ?_ ?_ ?_]
    · exact h3
    · rintro rfl
      rw [hS.blk] at h3
      cases h3
    · rintro rfl
      obtain ⟨D, ⟨es, clock, hm, _⟩, _⟩ := hS.map
      rw [hm] at h3
      cases h3
    · intro e
      rcases hS.row.2 with ⟨z1, z2⟩ | ⟨g', cap', cur', z1, _, z3, _⟩
      · rw [z1] at e
        cases e
      · rw [z1] at e
        obtain rfl : b = g' := by simpa [Value.ownBlock] using e
        rw [z3] at h3
        cases h3
theorem I2.pushed {w w' : World} {B' : Nat} {s u : Value} {l k : List Int} {o : Obj} (h : I2 w u k) (ho : OI w B' s l) (hg : (w.alloc o).grownBy w' s.ownBlock) : I2 w' u k := by
  have h1 : I2 (w.alloc o) u k := World.ownsRow.alloc h o
  have ho1 : OI (w.alloc o) B' s l := World.ownsRow.alloc ho o
  refine h1.kept hg ?_
  by_cases e : u.ownBlock = none
  · exact .inl e
  · refine .inr fun e2 => ?_
    obtain ⟨b, hb⟩ := Option.ne_none_iff_exists'.1 e
    obtain ⟨cur, hc⟩ := ho1.typed b (by rw [← e2, hb])
    rcases h1.2 with ⟨z1, z2⟩ | ⟨b', cap, cur', z1, _, z3, _⟩
    · exact e (by rw [z1]; rfl)
    · rw [z1] at hb
      obtain rfl : b' = b := by simpa [Value.ownBlock] using hb
      rw [hc] at z3
      cases z3
theorem I2.cell {w : World} {b n c : Nat} {l : List Int} (h : I2 w (.slice (some ⟨b, 0, none⟩) n c) l) (hn : n = l.length) (i : Nat) (x : Int) (hi : l[i]? = some x) : w.cell? ⟨b, i, none⟩ = some (.int .i64 x) := by
  subst hn
  have hlt : i < l.length := (List.getElem?_eq_some_iff.1 hi).1
  have h : w.ownsRow 0 2 1 (.slice (some ⟨b, 0, none⟩) l.length c) l.length (l.map (Value.int .i64)) := h
  rw [h.cellAt i (by omega), List.getElem?_map, hi]
  rfl
theorem OI.slice {w : World} {B : Nat} {s : Value} {l : List Int} (h : OI w B s l) : ∃ A c, s = .slice A l.length c ∧ (0 < l.length → ∃ b, A = some ⟨b, 0, none⟩) := by
  rcases h.2 with ⟨h1, h2⟩ | ⟨g', cap, cur, h1, _⟩
  · exact ⟨none, 0, by rw [h1, h2], fun h0 => by omega⟩
  · exact ⟨_, _, h1, fun _ => ⟨g', rfl⟩⟩
theorem OI.kp {w w' : World} {B B' g m : Nat} {L : List Tm} {v s : Value} {l : List Int} (h : OI w B' s l) (hS : St w B g m L v) (hk : Kp w w' g m v) : OI w' B' s l := by
  refine ⟨h.1, ?_⟩
  rcases h.2 with h1 | ⟨b, cap, cur, h1, h2, h3, h4⟩
  · exact .inl h1
  · rcases (h.il.kp hS hk).2 with ⟨z1, z2⟩ | ⟨b', cap', cur', z1, z2, z3, z4⟩
    · rw [h1] at z1
      cases z1
    · rw [h1] at z1
      injection z1 with z5 z6 z7
      injection z5 with z5
      injection z5 with z5
      subst z5
      subst z7
      exact .inr ⟨b, cap, cur', h1, h2, z3, z4⟩
theorem list_any (B g m : Nat) (L : List Tm) (v s : Value) (l : List Int) (B' : Nat) (hsm : l.length ≤ 1048576) (hlen : L.length ≤ 1048576) (w : World) (h : St w B g m L v) (hl : OI w B' s l) :
    Calls Tryz.prog 136 #[.pointer (some ⟨g, 0, none⟩), s] w fun e w' => ∃ v', e = .returned (.tuple #[.int .i64 (listS L l).1, .int .i64 (listS L l).2.1]) ∧ St w' B g m (listS L l).2.2 v' ∧ Below B w w' ∧ KT w w' ∧ Fs w w' g m v v' := by
  obtain ⟨A, c, hs, hA⟩ := hl.slice
  subst hs
  by_cases h0 : l = []
  · subst h0
    exact (list_nil B g m L v A c w h).mono fun e w' h1 => by
      obtain ⟨rfl, rfl⟩ := h1
      exact ⟨_, rfl, h, Below.refl _ _, KT.refl _, Fs.refl _ _ _ _⟩
  · have hp : 0 < l.length := List.length_pos_iff.2 h0
    obtain ⟨b, rfl⟩ := hA hp
    exact list_cons B g m L v b c l.length l rfl hp hsm hlen w h hl.il
theorem Fs.pushed {w w2 w3 : World} {g m : Nat} {v v1 s : Value} {l : List Int} {o : Obj} (h : Fs w w2 g m v v1) (ho : OI w2 w.heap.size s l) (hg : (w2.alloc o).grownBy w3 s.ownBlock) (hs : w.heap.size ≤ w2.heap.size) : Fs w w3 g m v v1 := by
  refine ⟨fun k hk k1 k2 k3 => ?_, h.2⟩
  refine (hg.block k (by simp; omega) fun e => ?_).trans ((Below.heap_alloc w2 o k (by omega)).trans (h.1 k hk k1 k2 k3))
  have := (World.ownsRow.lt ho k e.symm).1
  omega
set_option maxHeartbeats 1000000 in
theorem data_any (B g m : Nat) (L : List Tm) (v : Value) (b c N : Nat) (l : List Int) (hN : N = l.length) (hsm : N ≤ 4096) (hwf : ∀ x ∈ l, (Lit.int .i64 x).wf = true) (hlen : L.length ≤ 1048576) (w : World) (h : St w B g m L v) (hl : I2 w (.slice (some ⟨b, 0, none⟩) N c) l) :
    Calls Tryz.prog 135 #[.pointer (some ⟨g, 0, none⟩), .slice (some ⟨b, 0, none⟩) N c] w fun e w' => ∃ v', e = .returned (.tuple #[.int .i64 (dataS L [] l).1, .int .i64 (dataS L [] l).2.1]) ∧ St w' B g m (dataS L [] l).2.2 v' ∧ Below B w w' ∧ Fs w w' g m v v' := by
  have hM := made_yes g m w h.c1
  obtain ⟨R, hR⟩ : ∃ R, R = dataS L [] l := ⟨_, rfl⟩
  rw [← hR]
  have HST : Hid (dataS L [] (l.drop 0) = R ∧ St w B g m L v ∧ OI w w.heap.size (.slice none 0 0) [] ∧ I2 w (.slice (some ⟨b, 0, none⟩) N c) l ∧ (Below B w w ∧ Fs w w g m v v) ∧ ([] : List Int).length ≤ 0 ∧ L.length ≤ 1048576) := Lib.hid ⟨hR.symm, h, World.ownsRow_nil _ _ _ _, hl, ⟨Below.refl _ _, Fs.refl _ _ _ _⟩, Nat.le_refl _, hlen⟩
  have HLO := Lib.hid h.hB
  have HWF := Lib.hid hwf
  have HN := Lib.hid hN
  clear hR h hl hN hwf hlen
  go_enter Tryz.func135, Tryz.ntmps135
  go_wp2_with (go_at_call 30; with_reducible refine hM.mono ?_; rintro e w' ⟨rfl, rfl⟩)
  go_loopw [6, 16] (fun v6 v16 wr => ∃ (k : Nat) (out : List Int) (L1 : List Tm) (v1 : Value), k ≤ N ∧ v16 = .int .i64 k ∧ Hid (dataS L1 out (l.drop k) = R ∧ St wr B g m L1 v1 ∧ OI wr w.heap.size v6 out ∧ I2 wr (.slice (some ⟨b, 0, none⟩) N c) l ∧ (Below B w wr ∧ Fs w wr g m v v1) ∧ out.length ≤ k ∧ L1.length ≤ 1048576)) (fun _ v16 _ => N - (intOf v16).toNat)
  case atStart => exact ⟨0, [], L, v, by omega, rfl, HST⟩
  case round =>
    obtain ⟨k, out, L1, v1, hk, rfl, HI⟩ := hrel
    by_cases hlt : k < N
    · obtain ⟨x, hx⟩ : ∃ x, l[k]? = some x := ⟨l[k]'(by have := HN.out; omega), List.getElem?_eq_getElem _⟩
      have c1 := HI.out.2.2.2.1.cell HN.out k x hx
      have hP := HI.out.1
      have e1 : l.drop k = x :: l.drop (k + 1) := by
        have h1 : k < l.length := (List.getElem?_eq_some_iff.1 hx).1
        rw [List.drop_eq_getElem_cons h1]
        have := (List.getElem?_eq_some_iff.1 hx).2
        rw [this]
      rw [e1] at hP
      unfold dataS at hP
      have hwf : Tm.wf ⟨2, x, 0, 0⟩ := by
        show (Lit.int .u8 2).wf = true ∧ (Lit.int .i64 x).wf = true ∧ (Lit.int .i64 0).wf = true ∧ (Lit.int .i64 0).wf = true
        exact ⟨by decide, HWF.out x (List.mem_of_getElem? hx), by decide, by decide⟩
      have hMk := make B g m L1 v1 2 x 0 0 hwf HI.out.2.2.2.2.2.2 wr HI.out.2.1
      have hrg := mk_range L1 ⟨2, x, 0, 0⟩ HI.out.2.2.2.2.2.2
      generalize mk L1 ⟨2, x, 0, 0⟩ = q at *
      obtain ⟨q1, q2, q3⟩ := q
      simp only at hMk hP hrg
      have HRG := Lib.hid hrg
      have i1 : (0 : Int) ≤ (k : Int) := by omega
      have i2 : (k : Int) < (N : Int) := by omega
      by_cases he : q2 = 0
      · rw [if_pos he] at hP
        subst he
        have HP := Lib.hid hP
        clear hP hx e1 hrg hwf hM
        go_wp2_with fail
        with_reducible refine hMk.mono ?_
        rintro e w2 ⟨v', rfl, S', B', K'⟩
        have O2 := Lib.hid (HI.out.2.2.1.kp HI.out.2.1 K'.1)
        have hB2 : w.heap.size ≤ w2.heap.size := Nat.le_trans HI.out.2.2.2.2.1.1.size B'.size
        have hBB := S'.hB
        have hlo := HLO.out
        go_wp2_with (at_builtin; refine push rfl _ _ rfl rfl rfl O2 hB2 ?c1 ?_)
        case c1 => have := HI.out.2.2.2.2.2.1; omega
        intro v6' w3 o1 o2
        have S3 := S'.pushed O2.out o2
        have R3 := ((HI.out.2.2.2.1.kp HI.out.2.1 K'.1)).pushed O2.out o2
        have B3 : Below B w w3 := ((HI.out.2.2.2.2.1.1.trans B').alloc hBB _).grown o2 (by simp; omega) (fun j hj => Nat.le_trans hlo (World.ownsRow.lt O2.out j hj).1)
        have F3 := (HI.out.2.2.2.2.1.2.trans K' HI.out.2.2.2.2.1.1.size).pushed O2.out o2 hB2
        go_wp2_with fail
        go_roundw
        case rel => exact ⟨k + 1, out ++ [q1], q3, v', by omega, by go_num, Lib.hid ⟨HP.out, S3, o1, R3, ⟨B3, F3⟩, by have := HI.out.2.2.2.2.2.1; simp; omega, HRG.out.2.2⟩⟩
        case measure => simp [intOf] <;> omega
      · rw [if_neg he] at hP
        have t1 : (q2 != 0) = true := by rw [bne_iff_ne]; exact he
        have HP := Lib.hid hP
        clear hP hx e1 hrg he hwf hM
        go_wp2_with (go_at_call 28; with_reducible refine hMk.mono ?_; rintro e w2 ⟨v', rfl, S', B', K'⟩)
        go_ret2
        rw [← HP.out]
        exact ⟨_, rfl, S', HI.out.2.2.2.2.1.1.trans B', HI.out.2.2.2.2.1.2.trans K' HI.out.2.2.2.2.1.1.size⟩
    · obtain rfl : k = N := by omega
      have hP := HI.out.1
      rw [List.drop_of_length_le (by have := HN.out; omega)] at hP
      unfold dataS at hP
      have hLi := list_any B g m L1 v1 _ out w.heap.size (by have := HI.out.2.2.2.2.2.1; omega) HI.out.2.2.2.2.2.2 wr HI.out.2.1 HI.out.2.2.1
      rw [hP] at hLi
      clear hP hM
      go_wp2_with (go_at_call 136; with_reducible refine hLi.mono ?_; rintro e w2 ⟨v', rfl, S', B', _, K'⟩)
      go_ret2
      exact ⟨_, rfl, S', HI.out.2.2.2.2.1.1.trans B', HI.out.2.2.2.2.1.2.trans K' HI.out.2.2.2.2.1.1.size⟩
end Go.Proofs.YtenaljhkdnhgpaaGreatDoor.T
