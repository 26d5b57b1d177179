/- The book's Numbers, Nodes, Tree, where numbers and nodes are held. -/
import Derived.Test.YtnahhclflnjmcaaGreatDoorBkAp2
import Derived.Test.YtnahhclflnjmcaaGreatDoorK1
import Derived.Test.YtnahhclflnjmcaaGreatDoorK3
namespace Go.Proofs.YtnahhclflnjmcaaGreatDoor.Bk
open Go Go.RowKit
set_option linter.unusedVariables false
set_option linter.unusedSimpArgs false
set_option maxRecDepth 100000

theorem ownH_lower2 {K : KD} {w : World} {B B' : Nat} {v : Value} {m : Int} {l k : Nat} (h : OwnH K w B v m l k) (hB : B' ≤ B) : OwnH K w B' v m l k := by
  rcases h with h1 | ⟨g, o, n, cap, cur, e, h3, h4, h5⟩
  · exact .inl h1
  · exact .inr ⟨g, o, n, cap, cur, e, ⟨h3.blk, Nat.le_trans hB h3.hB, h3.le, h3.mx, h3.fit, h3.kind⟩, h4, h5⟩
theorem ownH_slice {K : KD} {w : World} {B : Nat} {v : Value} {m : Int} {l k : Nat} (h : OwnH K w B v m l k) : ∃ A n c, v = .slice A n c := by
  rcases h with h1 | ⟨g, o, n, cap, cur, h1, _⟩
  · exact ⟨_, _, _, h1⟩
  · exact ⟨_, _, _, h1⟩
theorem numbers2 {w0 w : World} {B bb L N : Nat} {FP : Nat → Prop} {v : Value} (h : StM ksOf2 70 w0 w B bb (fun _ => L) (fun _ => 0) N FP) (hN : N ≤ 1000000) (hv : ∀ m, OwnH kdNumber w B v m L 0) (hd : ∀ b, v.ownBlock = some b → ¬ FP b ∧ b ≠ bb) :
    Calls Tryz.prog 20 #[.pointer (some ⟨bb, 0, none⟩), v] w fun e w' => e = .returned (.tuple #[]) ∧ StM ksOf2 70 w0 w' B bb (fun _ => L) (fun _ => 0) (N + 1) (fun b => FP b ∨ v.ownBlock = some b ∨ w.heap.size ≤ b) ∧ Chg (fun b => FP b ∨ b = bb) w w' := by
  obtain ⟨A, n, c, hvs⟩ := ownH_slice (hv 0)
  obtain ⟨bc, lv, hs, F, m, k1, k2, k4, k5, k6, k7, k8, k9, k10, k11, -, k13⟩ := h.at (j := 2) (by decide) (by decide) ksNumber2
  have M := Bk.keepNumber Bk.kdNumber rfl bb bc v m k6 k1 k4 k2 k7 (hv m) (fun b hb => ⟨fun e => (hd b hb).1 (k9 b e), (hd b hb).2⟩) (by omega) k5 k11
  have HK := Lib.hid (fun w' hP => k13 v w' (fun b hb => ⟨(hd b hb).1, (hd b hb).2, ((hv 0).lt hb).1, ((hv 0).lt hb).2⟩) hP)
  subst hvs
  clear h hv hd k1 k2 k4 k5 k6 k7 k8 k9 k10 k11 k13
  go_enter Tryz.func20, Tryz.ntmps20
  go_wp2_with fail
  refine M.mono ?_
  rintro e w' ⟨rfl, hP⟩
  have HP := Lib.hid (HK.out w' hP)
  clear M hP HK
  go_wp2_with fail
  go_end0
  exact ⟨rfl, HP.out⟩
theorem node2 {w0 w : World} {B bb L N : Nat} {FP : Nat → Prop} {v : Value} (p q e : Int) (h : StM ksOf2 70 w0 w B bb (fun _ => L) (fun _ => 0) N FP) (hN : N ≤ 1000000) (hv : ∀ m, OwnH kdNumber w B v m L 0) (hd : ∀ b, v.ownBlock = some b → ¬ FP b ∧ b ≠ bb) :
    Calls Tryz.prog 256 #[.pointer (some ⟨bb, 0, none⟩), .agg #[.int .i64 p, .int .i64 q, .int .i64 e, v]] w fun e w' => e = .returned (.tuple #[]) ∧ StM ksOf2 70 w0 w' B bb (fun _ => L) (fun _ => 0) (N + 1) (fun b => FP b ∨ v.ownBlock = some b ∨ w.heap.size ≤ b) ∧ Chg (fun b => FP b ∨ b = bb) w w' := by
  obtain ⟨A, n, c, rfl⟩ := ownH_slice (hv 0)
  have hb : Below w.heap.size w (w.alloc (.cells #[.int .i64 p, .int .i64 q, .int .i64 e, .slice A n c] 95)) := (Below.refl _ _).alloc (Nat.le_refl _) _
  have M := numbers2 (h.keep hb) hN (fun m => (hv m).keep fun b hb' => hb.block b ((hv m).lt hb').1) hd
  have HB := Lib.hid hb
  clear h hv hd hb
  go_enter Tryz.func256, Tryz.ntmps256
  go_wp2_with fail
  refine M.mono ?_
  rintro x w' ⟨rfl, h1, h2⟩
  have HP := Lib.hid (And.intro h1 h2)
  clear M h1 h2
  go_wp2_with fail
  go_end0
  refine ⟨rfl, HP.out.1.weak (Nat.le_refl _) fun b hb _ => ?_, (Chg.of_below HB.out).trans HP.out.2⟩
  rcases hb with hb | hb | hb
  · exact .inl hb
  · exact .inr (.inl hb)
  · exact .inr (.inr (by have := HB.out.size; omega))
/-- A tree in memory of its own, from s on and below t. -/
structure TrB (w : World) (s t : Nat) (v : Value) (n L : Nat) : Prop where
  out : (v = .slice none 0 0 ∧ n = 0) ∨ ∃ (b cap : Nat) (cur : Array Value) (uv : Nat → Value), v = .slice (some ⟨b, 0, none⟩) n cap ∧ s ≤ b ∧ b < t ∧ w.heap[b]? = some (.cells cur 95 (0, 0)) ∧ n ≤ cap ∧ cap ≤ maxLen ∧ cur.size = cap * 4 ∧
    (∀ y, y < n → ∃ p m e : Int, cur[y * 4]? = some (.int .i64 p) ∧ cur[y * 4 + 1]? = some (.int .i64 m) ∧ cur[y * 4 + 2]? = some (.int .i64 e) ∧ cur[y * 4 + 3]? = some (uv y)) ∧
    (∀ y, y < n → ∀ m, OwnH kdNumber w s (uv y) m L 0) ∧ (∀ y, y < n → ∀ q, (uv y).ownBlock = some q → q < t ∧ q ≠ b) ∧ (∀ y z, y < n → z < n → y ≠ z → ∀ q, (uv y).ownBlock = some q → (uv z).ownBlock ≠ some q)
theorem TrB.keep {w w' : World} {s t : Nat} {v : Value} {n L : Nat} (h : TrB w s t v n L) (hc : Chg (fun b => b < s ∨ t ≤ b) w w') : TrB w' s t v n L := by
  rcases h.out with h | ⟨b, cap, cur, uv, h1, h2, h3, h4, h5, h6, h7, h8, h9, h10, h11⟩
  · exact ⟨.inl h⟩
  · exact ⟨.inr ⟨b, cap, cur, uv, h1, h2, h3, hc.keep h4 (by omega), h5, h6, h7, h8, fun y hy m => (h9 y hy m).keep fun q hq => hc.block q ((h9 y hy m).lt hq).1 (by have := (h10 y hy q hq).1; have := ((h9 y hy m).lt hq).2; omega), h10, h11⟩⟩
/-- What Nodes leaves. -/
structure NodesP (w0 w : World) (B bb L N t : Nat) (w' : World) : Prop where
  st : StM ksOf2 70 w0 w' B bb (fun _ => L) (fun _ => 0) N (fun b => b < t ∨ bb ≤ b)
  chg : Chg (fun b => b < t ∨ bb ≤ b) w w'
/-- How far the loop has come. -/
structure NodesI (w0 w : World) (B bb L N s i : Nat) (uv : Nat → Value) (wr : World) : Prop where
  st : StM ksOf2 70 w0 wr B bb (fun _ => L) (fun _ => 0) (N + i) (fun b => b < s ∨ bb ≤ b ∨ ∃ y, y < i ∧ (uv y).ownBlock = some b)
  chg : Chg (fun b => b < s ∨ bb ≤ b ∨ ∃ y, y < i ∧ (uv y).ownBlock = some b) w wr
set_option maxHeartbeats 4000000 in
theorem nodes2 {w0 w : World} {B bb L N s t n : Nat} {v : Value} (h : StM ksOf2 70 w0 w B bb (fun _ => L) (fun _ => 0) N (fun b => b < s ∨ bb ≤ b)) (hN : N + n ≤ 1000000) (hBs : B ≤ s) (hst : s ≤ t) (ht : t ≤ bb) (hT : TrB w s t v n L) (hnL : n ≤ L) :
    Calls Tryz.prog 164 #[.pointer (some ⟨bb, 0, none⟩), v] w fun e w' => e = .returned (.tuple #[]) ∧ NodesP w0 w B bb L (N + n + 1) t w' := by
  obtain ⟨A, c, rfl⟩ : ∃ A c, v = .slice A n c := by
    rcases hT.out with ⟨h1, h2⟩ | ⟨b, cap, cur, uv, h1, _⟩
    · exact ⟨none, 0, by rw [h1, h2]⟩
    · exact ⟨_, _, h1⟩
  obtain ⟨uv, huv⟩ : ∃ uv : Nat → Value, (n = 0 ∧ A = none ∧ c = 0) ∨ ∃ (b : Nat) (cur : Array Value), A = some ⟨b, 0, none⟩ ∧ s ≤ b ∧ b < t ∧ w.heap[b]? = some (.cells cur 95 (0, 0)) ∧ n ≤ c ∧ c ≤ maxLen ∧ cur.size = c * 4 ∧
    (∀ y, y < n → ∃ p m e : Int, cur[y * 4]? = some (.int .i64 p) ∧ cur[y * 4 + 1]? = some (.int .i64 m) ∧ cur[y * 4 + 2]? = some (.int .i64 e) ∧ cur[y * 4 + 3]? = some (uv y)) ∧
    (∀ y, y < n → ∀ m, OwnH kdNumber w s (uv y) m L 0) ∧ (∀ y, y < n → ∀ q, (uv y).ownBlock = some q → q < t ∧ q ≠ b) ∧ (∀ y z, y < n → z < n → y ≠ z → ∀ q, (uv y).ownBlock = some q → (uv z).ownBlock ≠ some q) := by
    rcases hT.out with ⟨h1, h2⟩ | ⟨b, cap, cur, uv, h1, h2, h3⟩
    · injection h1 with e1 _ e3
      exact ⟨fun _ => .slice none 0 0, .inl ⟨h2, e1, e3⟩⟩
    · injection h1 with e1 _ e3
      subst e3
      exact ⟨uv, .inr ⟨b, cur, e1, h2, h3⟩⟩
  have hbbl := h.bbl
  have H0 : Hid (NodesI w0 w B bb L N s 0 uv w) := Lib.hid ⟨h.weak (Nat.le_refl _) fun b hb _ => hb.imp id .inl, Chg.refl _ _⟩
  have HC := Lib.hid (And.intro huv (And.intro hBs (And.intro hst (And.intro ht (And.intro hnL hbbl)))))
  have hn0 : (0 : Int) ≤ (n : Int) := by omega
  clear h hT huv hBs hst ht hnL hbbl
  go_enter Tryz.func164, Tryz.ntmps164
  go_wp2_with fail
  go_loopg [7] n (fun k vk wr => ∃ i : Nat, vk = .int .i64 (i : Int) ∧ i + k = n ∧ Hid (NodesI w0 w B bb L N s i uv wr))
  case atStart => exact ⟨0, rfl, by simp, H0⟩
  case round =>
    clear H0
    obtain ⟨i, rfl, hik, HI⟩ := hrel
    by_cases hi : i < n
    · obtain ⟨huv, hBs, hst, ht, hnL, hbbl⟩ := HC.out
      rcases huv with ⟨h0, -⟩ | ⟨b, cur, rfl, k2, k3, k4, k5, k6, k7, k8, k9, k10, k11⟩
      · omega
      have hbn : ¬ (b < s ∨ bb ≤ b ∨ ∃ y, y < i ∧ (uv y).ownBlock = some b) := fun e => by
        rcases e with e | e | ⟨y, hy, e⟩
        · omega
        · omega
        · exact (k10 y (by omega) b e).2 rfl
      have hbr := HI.out.chg.keep k4 hbn
      obtain ⟨p, m, e, x0, x1, x2, x3⟩ := k8 i hi
      have c0 : wr.cell? ⟨b, i * 4, none⟩ = some (.int .i64 p) := (cell_of_row wr b _ _ _ _ hbr).trans x0
      have c1 : wr.cell? ⟨b, i * 4 + 1, none⟩ = some (.int .i64 m) := (cell_of_row wr b _ _ _ _ hbr).trans x1
      have c2 : wr.cell? ⟨b, i * 4 + 2, none⟩ = some (.int .i64 e) := (cell_of_row wr b _ _ _ _ hbr).trans x2
      have c3 : wr.cell? ⟨b, i * 4 + 3, none⟩ = some (uv i) := (cell_of_row wr b _ _ _ _ hbr).trans x3
      have hnot : ∀ q, (uv i).ownBlock = some q → ¬ (q < s ∨ bb ≤ q ∨ ∃ y, y < i ∧ (uv y).ownBlock = some q) ∧ q ≠ bb := fun q hq => by
        have h1 := (k10 i hi q hq).1
        have h2 := ((k9 i hi 0).lt hq).2
        refine ⟨fun e => ?_, by omega⟩
        rcases e with e | e | ⟨y, hy, e⟩
        · omega
        · omega
        · exact k11 y i (by omega) hi (by omega) q e hq
      have hbbr := HI.out.chg.size
      have M := node2 p m e HI.out.st (by omega) (fun m => ownH_lower2 ((k9 i hi m).keep fun q hq => HI.out.chg.block q ((k9 i hi m).lt hq).1 (hnot q hq).1) hBs) hnot
      have HN : Hid (∀ w', StM ksOf2 70 w0 w' B bb (fun _ => L) (fun _ => 0) (N + i + 1) (fun b => (b < s ∨ bb ≤ b ∨ ∃ y, y < i ∧ (uv y).ownBlock = some b) ∨ (uv i).ownBlock = some b ∨ wr.heap.size ≤ b) → Chg (fun b => (b < s ∨ bb ≤ b ∨ ∃ y, y < i ∧ (uv y).ownBlock = some b) ∨ b = bb) wr w' → NodesI w0 w B bb L N s (i + 1) uv w') := Lib.hid fun w' h1 h2 => by
        have hw : ∀ b, (b < s ∨ bb ≤ b ∨ ∃ y, y < i ∧ (uv y).ownBlock = some b) → (b < s ∨ bb ≤ b ∨ ∃ y, y < i + 1 ∧ (uv y).ownBlock = some b) := fun b hb => by
          rcases hb with hb | hb | ⟨y, hy, hb⟩
          · exact .inl hb
          · exact .inr (.inl hb)
          · exact .inr (.inr ⟨y, by omega, hb⟩)
        refine ⟨h1.weak (by omega) fun b hb _ => ?_, (HI.out.chg.mono fun b _ hb => hw b hb).trans (h2.mono fun b _ hb => ?_)⟩
        · rcases hb with hb | hb | hb
          · exact hw b hb
          · exact .inr (.inr ⟨i, by omega, hb⟩)
          · exact .inr (.inl (by omega))
        · rcases hb with hb | hb
          · exact hw b hb
          · exact .inr (.inl (by omega))
      have i1 : (0 : Int) ≤ (i : Int) := by omega
      have i2 : (i : Int) < (n : Int) := by omega
      have HL := Lib.hid hi
      clear k2 k3 k4 k5 k6 k7 k8 k9 k10 k11 hbn hbr x0 x1 x2 x3 hnot hbbr hBs hst ht hnL hbbl hi
      generalize uv i = u at *
      go_wp2_with fail
      refine M.mono ?_
      rintro e' w' ⟨rfl, h1, h2⟩
      have HN2 := Lib.hid (HN.out w' h1 h2)
      clear M h1 h2 HN c0 c1 c2 c3
      go_wp2_with fail
      go_roundg (n - (i + 1))
      case measure => have := HL.out; omega
      case rel => exact ⟨i + 1, by go_num, by have := HL.out; omega, HN2⟩
    · obtain rfl : i = n := by omega
      obtain ⟨huv, hBs, hst, ht, hnL, hbbl⟩ := HC.out
      obtain ⟨bc, lv, hs, F, m, k1, k2, k4, k5, k6, k7, k8, k9, k10, k11, -, k13⟩ := HI.out.st.at (j := 19) (by decide) (by decide) ksNode2
      have hv : (∀ m, OwnH kdNode wr B (.slice A i c) m L 0) ∧ ∀ q, (Value.slice A i c).ownBlock = some q → ¬ (q < s ∨ bb ≤ q ∨ ∃ y, y < i ∧ (uv y).ownBlock = some q) ∧ q ≠ bb ∧ s ≤ q ∧ q < t ∧ q < wr.heap.size := by
        rcases huv with ⟨h0, rfl, rfl⟩ | ⟨b, cur, rfl, p2, p3, p4, p5, p6, p7, p8, p9, p10, p11⟩
        · exact ⟨fun m => .inl (by rw [h0]), fun q hq => by cases hq⟩
        · have hbn : ¬ (b < s ∨ bb ≤ b ∨ ∃ y, y < i ∧ (uv y).ownBlock = some b) := fun e => by
            rcases e with e | e | ⟨y, hy, e⟩
            · omega
            · omega
            · exact (p10 y (by omega) b e).2 rfl
          have hbr := HI.out.chg.keep p4 hbn
          refine ⟨fun m => .inr ⟨b, 0, i, c, cur, rfl, ⟨hbr, Nat.le_trans hBs p2, p5, p6, ?_, .inl ⟨rfl, p7⟩⟩, hnL, fun j hj => by rw [Nat.zero_min] at hj; omega⟩, fun q hq => ?_⟩
          · show 0 + i * 4 ≤ cur.size
            omega
          · obtain rfl : b = q := by simpa [Value.ownBlock] using hq
            exact ⟨hbn, by omega, p2, p3, lt_of_some hbr⟩
      have M := Bk.keepNode kdNode rfl bb bc (.slice A i c) m k6 k1 k4 k2 k7 (hv.1 m) (fun b hb => ⟨fun e => (hv.2 b hb).1 (k9 b e), (hv.2 b hb).2.1⟩) (by omega) k5 k11
      have hsz := HI.out.chg.size
      have HK : Hid (∀ w', KeepP kdNode wr B F bb bc 19 70 (.slice A i c) m hs (fun _ => L) (fun _ => 0) w' → NodesP w0 w B bb L (N + i + 1) t w') := Lib.hid fun w' hP => by
        obtain ⟨h1, h2⟩ := k13 (.slice A i c) w' (fun b hb => ⟨(hv.2 b hb).1, (hv.2 b hb).2.1, (hv.2 b hb).2.2.2.2, by have := (hv.2 b hb).2.2.1; omega⟩) hP
        have hw : ∀ b, (b < s ∨ bb ≤ b ∨ ∃ y, y < i ∧ (uv y).ownBlock = some b) → (b < t ∨ bb ≤ b) := fun b hb => by
          rcases hb with hb | hb | ⟨y, hy, hb⟩
          · exact .inl (by omega)
          · exact .inr hb
          · rcases huv with ⟨h0, -⟩ | ⟨_, _, _, _, _, _, _, _, _, _, _, p10, _⟩
            · omega
            · exact .inl (p10 y hy b hb).1
        refine ⟨h1.weak (Nat.le_refl _) fun b hb _ => ?_, (HI.out.chg.mono fun b _ hb => hw b hb).trans (h2.mono fun b _ hb => ?_)⟩
        · rcases hb with hb | hb | hb
          · exact hw b hb
          · exact .inl (hv.2 b hb).2.2.2.1
          · exact .inr (by omega)
        · rcases hb with hb | hb
          · exact hw b hb
          · exact .inr (by omega)
      clear k1 k2 k4 k5 k6 k7 k8 k9 k10 k11 k13 hv huv hBs hst ht hnL hbbl hi hsz
      go_wp2_with fail
      refine M.mono ?_
      rintro e' w' ⟨rfl, hP⟩
      have HP := Lib.hid (HK.out w' hP)
      clear M hP HK
      go_wp2_with fail
      go_end0
      exact ⟨rfl, HP.out⟩
theorem tree2 {w0 w : World} {B bb L N s t n : Nat} {v : Value} (h : StM ksOf2 70 w0 w B bb (fun _ => L) (fun _ => 0) N (fun b => b < s ∨ bb ≤ b)) (hN : N + n ≤ 1000000) (hBs : B ≤ s) (hst : s ≤ t) (ht : t ≤ bb) (hT : TrB w s t v n L) (hnL : n ≤ L) :
    Calls Tryz.prog 30 #[.pointer (some ⟨bb, 0, none⟩), .agg #[v]] w fun e w' => e = .returned (.tuple #[]) ∧ NodesP w0 w B bb L (N + n + 1) t w' := by
  obtain ⟨A, c, rfl⟩ : ∃ A c, v = .slice A n c := by
    rcases hT.out with ⟨h1, h2⟩ | ⟨b, cap, cur, uv, h1, _⟩
    · exact ⟨none, 0, by rw [h1, h2]⟩
    · exact ⟨_, _, h1⟩
  have hb : Below w.heap.size w (w.alloc (.cells #[.slice A n c] 24)) := (Below.refl _ _).alloc (Nat.le_refl _) _
  have M := nodes2 (h.keep hb) hN hBs hst ht (hT.keep (Chg.of_below hb)) hnL
  have HB := Lib.hid hb
  clear h hT hb
  go_enter Tryz.func30, Tryz.ntmps30
  go_wp2_with fail
  refine M.mono ?_
  rintro x w' ⟨rfl, h1⟩
  have HP := Lib.hid h1
  clear M h1
  go_wp2_with fail
  go_end0
  exact ⟨rfl, HP.out.st, (Chg.of_below HB.out).trans HP.out.chg⟩
end Go.Proofs.YtnahhclflnjmcaaGreatDoor.Bk
