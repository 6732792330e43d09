/- The reference's within, Valid, Before, After, ValidChange (written by wip/mk_r3a.py). -/
import Derived.Test.YtheebajklnljdaaGreatDoorGi
namespace Go.Proofs.YtheebajklnljdaaGreatDoor
open Go Go.RowKit
attribute [local go_sem] Oper.semAt_some

theorem rwithin_ok (n a b : Int) (w : World) :
    Calls Tryz.prog 90 #[.int .i64 n, .int .i64 a, .int .i64 b] w fun e w' => e = .returned (.bool (decide (a ≤ n) && decide (n ≤ b))) ∧ w' = w := by
  by_cases h1 : a ≤ n
  · have t1 : decide (a ≤ n) = true := by simpa using h1
    by_cases h2 : n ≤ b
    · have t2 : decide (n ≤ b) = true := by simpa using h2
      rw [t1, t2]
      go_enter Tryz.func90, Tryz.ntmps90
      go_wp2_with fail
      go_ret
      exact ⟨rfl, rfl⟩
    · have t2 : decide (n ≤ b) = false := by simpa using h2
      rw [t1, t2]
      go_enter Tryz.func90, Tryz.ntmps90
      go_wp2_with fail
      go_ret
      exact ⟨rfl, rfl⟩
  · have t1 : decide (a ≤ n) = false := by simpa using h1
    rw [t1, Bool.false_and]
    go_enter Tryz.func90, Tryz.ntmps90
    go_wp2_with fail
    go_ret
    exact ⟨rfl, rfl⟩

set_option maxRecDepth 100000 in
set_option maxHeartbeats 2000000 in
theorem rvalid_ok (t k : Int) (v : Int × Int × Int) (w : World) :
    Calls Tryz.prog 119 #[rowV t k v] w fun e w' => e = .returned (.bool (rowB t k v)) ∧ Below w.heap.size w w' := by
  obtain ⟨o0, o1, o2⟩ := v
  obtain ⟨y0, h0⟩ : ∃ y, valB o0 = y := ⟨_, rfl⟩
  obtain ⟨y1, h1⟩ : ∃ y, valB o1 = y := ⟨_, rfl⟩
  obtain ⟨y2, h2⟩ : ∃ y, valB o2 = y := ⟨_, rfl⟩
  obtain ⟨y3, h3⟩ : ∃ y, (decide (0 ≤ t) && decide (t ≤ 3)) = y := ⟨_, rfl⟩
  obtain ⟨y4, h4⟩ : ∃ y, (decide (1 ≤ k) && decide (k ≤ 1000000)) = y := ⟨_, rfl⟩
  have hR : rowB t k (o0, o1, o2) = (y3 && y4 && (y0 && y1 && y2)) := by unfold rowB; dsimp only; rw [h0, h1, h2, h3, h4]
  rw [hR]
  have c0 := fun W => rwithin_ok o0 (-1000000000) 1000000000 W
  have c1 := fun W => rwithin_ok o1 (-1000000000) 1000000000 W
  have c2 := fun W => rwithin_ok o2 (-1000000000) 1000000000 W
  have c3 := fun W => rwithin_ok t 0 3 W
  have c4 := fun W => rwithin_ok k 1 1000000 W
  unfold valB at h0 h1 h2
  rw [h0] at c0
  rw [h1] at c1
  rw [h2] at c2
  rw [h3] at c3
  rw [h4] at c4
  have H0 := Lib.hid c0
  have H1 := Lib.hid c1
  have H2 := Lib.hid c2
  have H3 := Lib.hid c3
  have H4 := Lib.hid c4
  unfold rowV
  dsimp only
  have hb := Below.alloc (Below.refl w.heap.size w) (Nat.le_refl _) (.cells #[.int .i64 t, .int .i64 k, .int .i64 o0, .int .i64 o1, .int .i64 o2] 156)
  have K := BlkIs.new w 156 #[.int .i64 t, .int .i64 k, .int .i64 o0, .int .i64 o1, .int .i64 o2]
  have hbH := Lib.hid hb
  have k0 : (w.alloc (.cells #[.int .i64 t, .int .i64 k, .int .i64 o0, .int .i64 o1, .int .i64 o2] 156)).cell? ⟨w.heap.size, 0, none⟩ = some (.int .i64 t) := K.cell 0
  have k1 : (w.alloc (.cells #[.int .i64 t, .int .i64 k, .int .i64 o0, .int .i64 o1, .int .i64 o2] 156)).cell? ⟨w.heap.size, 1, none⟩ = some (.int .i64 k) := K.cell 1
  have k2 : (w.alloc (.cells #[.int .i64 t, .int .i64 k, .int .i64 o0, .int .i64 o1, .int .i64 o2] 156)).cell? ⟨w.heap.size, 2, none⟩ = some (.int .i64 o0) := K.cell 2
  have k3 : (w.alloc (.cells #[.int .i64 t, .int .i64 k, .int .i64 o0, .int .i64 o1, .int .i64 o2] 156)).cell? ⟨w.heap.size, 3, none⟩ = some (.int .i64 o1) := K.cell 3
  have k4 : (w.alloc (.cells #[.int .i64 t, .int .i64 k, .int .i64 o0, .int .i64 o1, .int .i64 o2] 156)).cell? ⟨w.heap.size, 4, none⟩ = some (.int .i64 o2) := K.cell 4
  clear hR h0 h1 h2 h3 h4 c0 c1 c2 c3 c4 hb K
  go_enter Tryz.func119, Tryz.ntmps119
  go_wp2_with fail
  generalize w.alloc (.cells #[.int .i64 t, .int .i64 k, .int .i64 o0, .int .i64 o1, .int .i64 o2] 156) = w1 at *
  go_loopw [3] (fun iv wr => ∃ j : Nat, j ≤ 3 ∧ iv = .int .i64 j ∧ wr = w1 ∧ Hid ((0 < j → y0 = true) ∧ (1 < j → y1 = true) ∧ (2 < j → y2 = true))) (fun iv _ => 3 - (intOf iv).toNat)
  case atStart => exact ⟨0, by omega, rfl, rfl, Lib.hid ⟨fun h => by omega, fun h => by omega, fun h => by omega⟩⟩
  case round =>
    obtain ⟨j, hj, rfl, rfl, HY⟩ := hrel
    obtain rfl | rfl | rfl | rfl : j = 0 ∨ j = 1 ∨ j = 2 ∨ j = 3 := by omega
    · go_wp2_with fail
      refine (H0.out _).mono ?_
      rintro e w2 ⟨rfl, rfl⟩
      cases y0
      · go_wp2_with fail
        go_ret
        exact ⟨by simp, hbH.out⟩
      · go_wp2_with fail
        exact ⟨⟨1, by omega, by go_num, by trivial, Lib.hid (by simp)⟩, by simp [intOf]⟩
    · have e0 := HY.out.1 (by omega)
      subst e0
      go_wp2_with fail
      refine (H1.out _).mono ?_
      rintro e w2 ⟨rfl, rfl⟩
      cases y1
      · go_wp2_with fail
        go_ret
        exact ⟨by simp, hbH.out⟩
      · go_wp2_with fail
        exact ⟨⟨2, by omega, by go_num, by trivial, Lib.hid (by simp)⟩, by simp [intOf]⟩
    · have e0 := HY.out.1 (by omega)
      have e1 := HY.out.2.1 (by omega)
      subst e0 e1
      go_wp2_with fail
      refine (H2.out _).mono ?_
      rintro e w2 ⟨rfl, rfl⟩
      cases y2
      · go_wp2_with fail
        go_ret
        exact ⟨by simp, hbH.out⟩
      · go_wp2_with fail
        exact ⟨⟨3, by omega, by go_num, by trivial, Lib.hid (by simp)⟩, by simp [intOf]⟩
    · have e0 := HY.out.1 (by omega)
      have e1 := HY.out.2.1 (by omega)
      have e2 := HY.out.2.2 (by omega)
      subst e0 e1 e2
      go_wp2_with fail
      refine (H3.out _).mono ?_
      rintro e w2 ⟨rfl, rfl⟩
      cases y3
      · go_wp2_with fail
        go_ret
        exact ⟨rfl, hbH.out⟩
      go_wp2_with fail
      refine (H4.out _).mono ?_
      rintro e w3 ⟨rfl, rfl⟩
      go_wp2_with fail
      go_ret
      exact ⟨by simp, hbH.out⟩

set_option maxRecDepth 100000 in
set_option maxHeartbeats 4000000 in
theorem rbefore_ok (c : Chg) (w : World) :
    Calls Tryz.prog 117 #[chgV c] w fun e w' => e = .returned (.tuple #[halfV c c.had c.old, .bool c.had]) ∧ Below w.heap.size w w' := by
  obtain ⟨t, k, had, ⟨o0, o1, o2⟩, has, ⟨n0, n1, n2⟩⟩ := c
  have hb2 := fun o1 o2 => Below.alloc (Below.alloc (Below.refl w.heap.size w) (Nat.le_refl _) o1) (by rw [World.size_alloc]; omega) o2
  have HB := Lib.hid hb2
  clear hb2
  unfold chgV halfV rowV
  dsimp only
  cases had
  · rw [if_neg (by decide)]
    go_enter Tryz.func117, Tryz.ntmps117
    go_wp2_with fail
    go_returns
    exact ⟨rfl, HB.out _ _⟩
  · rw [if_pos rfl]
    go_enter Tryz.func117, Tryz.ntmps117
    go_wp2_with fail
    go_returns
    exact ⟨rfl, HB.out _ _⟩

set_option maxRecDepth 100000 in
set_option maxHeartbeats 4000000 in
theorem rafter_ok (c : Chg) (w : World) :
    Calls Tryz.prog 118 #[chgV c] w fun e w' => e = .returned (.tuple #[halfV c c.has c.new, .bool c.has]) ∧ Below w.heap.size w w' := by
  obtain ⟨t, k, had, ⟨o0, o1, o2⟩, has, ⟨n0, n1, n2⟩⟩ := c
  have hb2 := fun o1 o2 => Below.alloc (Below.alloc (Below.refl w.heap.size w) (Nat.le_refl _) o1) (by rw [World.size_alloc]; omega) o2
  have HB := Lib.hid hb2
  clear hb2
  unfold chgV halfV rowV
  dsimp only
  cases has
  · rw [if_neg (by decide)]
    go_enter Tryz.func118, Tryz.ntmps118
    go_wp2_with fail
    go_returns
    exact ⟨rfl, HB.out _ _⟩
  · rw [if_pos rfl]
    go_enter Tryz.func118, Tryz.ntmps118
    go_wp2_with fail
    go_returns
    exact ⟨rfl, HB.out _ _⟩

set_option maxRecDepth 100000 in
set_option maxHeartbeats 8000000 in
theorem rchg_ok (c : Chg) (w : World) :
    Calls Tryz.prog 91 #[chgV c] w fun e w' => e = .returned (.bool (chgB c)) ∧ Below w.heap.size w w' := by
  have hbe := fun W => rbefore_ok c W
  have haf := fun W => rafter_ok c W
  have hv1 := fun W => rvalid_ok c.table c.key c.old W
  have hv2 := fun W => rvalid_ok c.table c.key c.new W
  have hq := fun W => run_eqT W c.old c.new
  have hq1 := fun W => run_eqT W c.old (0, 0, 0)
  have hq2 := fun W => run_eqT W c.new (0, 0, 0)
  obtain ⟨y, hy⟩ : ∃ y, decide (c.old = c.new) = y := ⟨_, rfl⟩
  obtain ⟨z1, hz1⟩ : ∃ y, decide (c.old = (0, 0, 0)) = y := ⟨_, rfl⟩
  obtain ⟨z2, hz2⟩ : ∃ y, decide (c.new = (0, 0, 0)) = y := ⟨_, rfl⟩
  obtain ⟨r1, h1⟩ : ∃ y, rowB c.table c.key c.old = y := ⟨_, rfl⟩
  obtain ⟨r2, h2⟩ : ∃ y, rowB c.table c.key c.new = y := ⟨_, rfl⟩
  have hR : chgB c = (((c.had != c.has) || (c.had && !y)) && (c.had && r1 || !c.had && z1) && (c.has && r2 || !c.has && z2)) := by unfold chgB soundB; rw [hy, h1, h2, hz1, hz2]
  rw [hR]
  rw [hy] at hq
  rw [hz1] at hq1
  rw [hz2] at hq2
  rw [h1] at hv1
  rw [h2] at hv2
  have hgd := guard3
  have HBE := Lib.hid hbe
  have HAF := Lib.hid haf
  have HV1 := Lib.hid hv1
  have HV2 := Lib.hid hv2
  clear hR hy h1 h2 hz1 hz2 hbe haf hv1 hv2
  obtain ⟨t, k, had, ⟨o0, o1, o2⟩, has, ⟨n0, n1, n2⟩⟩ := c
  unfold chgV at HBE HAF
  unfold halfV rowV at HBE HAF
  unfold rowV at HV1 HV2
  unfold chgV
  dsimp only at HBE HAF HV1 HV2 hq hq1 hq2 ⊢
  cases had
  · cases has
    · simp only [if_false, Bool.false_eq_true] at HBE HAF
      have a0 := Below.alloc (Below.refl w.heap.size w) (Nat.le_refl _) (.cells #[.int .i64 t, .int .i64 k, .bool false, .int .i64 o0, .int .i64 o1, .int .i64 o2, .bool false, .int .i64 n0, .int .i64 n1, .int .i64 n2] 72)
      have K0 := BlkIs.new w 72 #[.int .i64 t, .int .i64 k, .bool false, .int .i64 o0, .int .i64 o1, .int .i64 o2, .bool false, .int .i64 n0, .int .i64 n1, .int .i64 n2]
      have c0 : (w.alloc (.cells #[.int .i64 t, .int .i64 k, .bool false, .int .i64 o0, .int .i64 o1, .int .i64 o2, .bool false, .int .i64 n0, .int .i64 n1, .int .i64 n2] 72)).cell? ⟨w.heap.size, 0, none⟩ = some (.int .i64 t) := K0.cell 0
      have c1 : (w.alloc (.cells #[.int .i64 t, .int .i64 k, .bool false, .int .i64 o0, .int .i64 o1, .int .i64 o2, .bool false, .int .i64 n0, .int .i64 n1, .int .i64 n2] 72)).cell? ⟨w.heap.size, 1, none⟩ = some (.int .i64 k) := K0.cell 1
      have c2 : (w.alloc (.cells #[.int .i64 t, .int .i64 k, .bool false, .int .i64 o0, .int .i64 o1, .int .i64 o2, .bool false, .int .i64 n0, .int .i64 n1, .int .i64 n2] 72)).cell? ⟨w.heap.size, 2, none⟩ = some (.bool false) := K0.cell 2
      have c3 : (w.alloc (.cells #[.int .i64 t, .int .i64 k, .bool false, .int .i64 o0, .int .i64 o1, .int .i64 o2, .bool false, .int .i64 n0, .int .i64 n1, .int .i64 n2] 72)).cell? ⟨w.heap.size, 3, none⟩ = some (.int .i64 o0) := K0.cell 3
      have c4 : (w.alloc (.cells #[.int .i64 t, .int .i64 k, .bool false, .int .i64 o0, .int .i64 o1, .int .i64 o2, .bool false, .int .i64 n0, .int .i64 n1, .int .i64 n2] 72)).cell? ⟨w.heap.size, 4, none⟩ = some (.int .i64 o1) := K0.cell 4
      have c5 : (w.alloc (.cells #[.int .i64 t, .int .i64 k, .bool false, .int .i64 o0, .int .i64 o1, .int .i64 o2, .bool false, .int .i64 n0, .int .i64 n1, .int .i64 n2] 72)).cell? ⟨w.heap.size, 5, none⟩ = some (.int .i64 o2) := K0.cell 5
      have c6 : (w.alloc (.cells #[.int .i64 t, .int .i64 k, .bool false, .int .i64 o0, .int .i64 o1, .int .i64 o2, .bool false, .int .i64 n0, .int .i64 n1, .int .i64 n2] 72)).cell? ⟨w.heap.size, 6, none⟩ = some (.bool false) := K0.cell 6
      have c7 : (w.alloc (.cells #[.int .i64 t, .int .i64 k, .bool false, .int .i64 o0, .int .i64 o1, .int .i64 o2, .bool false, .int .i64 n0, .int .i64 n1, .int .i64 n2] 72)).cell? ⟨w.heap.size, 7, none⟩ = some (.int .i64 n0) := K0.cell 7
      have c8 : (w.alloc (.cells #[.int .i64 t, .int .i64 k, .bool false, .int .i64 o0, .int .i64 o1, .int .i64 o2, .bool false, .int .i64 n0, .int .i64 n1, .int .i64 n2] 72)).cell? ⟨w.heap.size, 8, none⟩ = some (.int .i64 n1) := K0.cell 8
      have c9 : (w.alloc (.cells #[.int .i64 t, .int .i64 k, .bool false, .int .i64 o0, .int .i64 o1, .int .i64 o2, .bool false, .int .i64 n0, .int .i64 n1, .int .i64 n2] 72)).cell? ⟨w.heap.size, 9, none⟩ = some (.int .i64 n2) := K0.cell 9
      have A0 := Lib.hid a0
      have KK0 := Lib.hid K0
      clear a0 K0
      go_enter Tryz.func91, Tryz.ntmps91
      go_wp2_with fail
      refine (HBE.out _).mono ?_
      rintro e w1 ⟨rfl, b1⟩
      have hb1 := Below.next A0.out b1
      have a1 := Below.alloc (Below.refl w1.heap.size w1) (Nat.le_refl _) (.cells #[.int .i64 0, .int .i64 0, .int .i64 0, .int .i64 0, .int .i64 0] 156)
      have K1 := BlkIs.new w1 156 #[.int .i64 0, .int .i64 0, .int .i64 0, .int .i64 0, .int .i64 0]
      have K0 := (KK0.out.later b1).later a1
      have hb2 := Below.next hb1 a1
      clear c0 c1 c2 c3 c4 c5 c6 c7 c8 c9
      have c0 : (w1.alloc (.cells #[.int .i64 0, .int .i64 0, .int .i64 0, .int .i64 0, .int .i64 0] 156)).cell? ⟨w.heap.size, 0, none⟩ = some (.int .i64 t) := K0.cell 0
      have c1 : (w1.alloc (.cells #[.int .i64 0, .int .i64 0, .int .i64 0, .int .i64 0, .int .i64 0] 156)).cell? ⟨w.heap.size, 1, none⟩ = some (.int .i64 k) := K0.cell 1
      have c2 : (w1.alloc (.cells #[.int .i64 0, .int .i64 0, .int .i64 0, .int .i64 0, .int .i64 0] 156)).cell? ⟨w.heap.size, 2, none⟩ = some (.bool false) := K0.cell 2
      have c3 : (w1.alloc (.cells #[.int .i64 0, .int .i64 0, .int .i64 0, .int .i64 0, .int .i64 0] 156)).cell? ⟨w.heap.size, 3, none⟩ = some (.int .i64 o0) := K0.cell 3
      have c4 : (w1.alloc (.cells #[.int .i64 0, .int .i64 0, .int .i64 0, .int .i64 0, .int .i64 0] 156)).cell? ⟨w.heap.size, 4, none⟩ = some (.int .i64 o1) := K0.cell 4
      have c5 : (w1.alloc (.cells #[.int .i64 0, .int .i64 0, .int .i64 0, .int .i64 0, .int .i64 0] 156)).cell? ⟨w.heap.size, 5, none⟩ = some (.int .i64 o2) := K0.cell 5
      have c6 : (w1.alloc (.cells #[.int .i64 0, .int .i64 0, .int .i64 0, .int .i64 0, .int .i64 0] 156)).cell? ⟨w.heap.size, 6, none⟩ = some (.bool false) := K0.cell 6
      have c7 : (w1.alloc (.cells #[.int .i64 0, .int .i64 0, .int .i64 0, .int .i64 0, .int .i64 0] 156)).cell? ⟨w.heap.size, 7, none⟩ = some (.int .i64 n0) := K0.cell 7
      have c8 : (w1.alloc (.cells #[.int .i64 0, .int .i64 0, .int .i64 0, .int .i64 0, .int .i64 0] 156)).cell? ⟨w.heap.size, 8, none⟩ = some (.int .i64 n1) := K0.cell 8
      have c9 : (w1.alloc (.cells #[.int .i64 0, .int .i64 0, .int .i64 0, .int .i64 0, .int .i64 0] 156)).cell? ⟨w.heap.size, 9, none⟩ = some (.int .i64 n2) := K0.cell 9
      have KK1 := Lib.hid K1
      have KK2 := Lib.hid K0
      have HB2 := Lib.hid hb2
      clear K1 K0 a1 hb2 b1 hb1 KK0 A0
      go_wp2_with fail
      refine (HAF.out _).mono ?_
      rintro e w3 ⟨rfl, b3⟩
      have hb3 := Below.next HB2.out b3
      have a3 := Below.alloc (Below.refl w3.heap.size w3) (Nat.le_refl _) (.cells #[.int .i64 0, .int .i64 0, .int .i64 0, .int .i64 0, .int .i64 0] 156)
      have K3 := BlkIs.new w3 156 #[.int .i64 0, .int .i64 0, .int .i64 0, .int .i64 0, .int .i64 0]
      have K0 := (KK2.out.later b3).later a3
      have K1 := (KK1.out.later b3).later a3
      have hb4 := Below.next hb3 a3
      clear c0 c1 c2 c3 c4 c5 c6 c7 c8 c9
      have c0 : (w3.alloc (.cells #[.int .i64 0, .int .i64 0, .int .i64 0, .int .i64 0, .int .i64 0] 156)).cell? ⟨w.heap.size, 0, none⟩ = some (.int .i64 t) := K0.cell 0
      have c1 : (w3.alloc (.cells #[.int .i64 0, .int .i64 0, .int .i64 0, .int .i64 0, .int .i64 0] 156)).cell? ⟨w.heap.size, 1, none⟩ = some (.int .i64 k) := K0.cell 1
      have c2 : (w3.alloc (.cells #[.int .i64 0, .int .i64 0, .int .i64 0, .int .i64 0, .int .i64 0] 156)).cell? ⟨w.heap.size, 2, none⟩ = some (.bool false) := K0.cell 2
      have c3 : (w3.alloc (.cells #[.int .i64 0, .int .i64 0, .int .i64 0, .int .i64 0, .int .i64 0] 156)).cell? ⟨w.heap.size, 3, none⟩ = some (.int .i64 o0) := K0.cell 3
      have c4 : (w3.alloc (.cells #[.int .i64 0, .int .i64 0, .int .i64 0, .int .i64 0, .int .i64 0] 156)).cell? ⟨w.heap.size, 4, none⟩ = some (.int .i64 o1) := K0.cell 4
      have c5 : (w3.alloc (.cells #[.int .i64 0, .int .i64 0, .int .i64 0, .int .i64 0, .int .i64 0] 156)).cell? ⟨w.heap.size, 5, none⟩ = some (.int .i64 o2) := K0.cell 5
      have c6 : (w3.alloc (.cells #[.int .i64 0, .int .i64 0, .int .i64 0, .int .i64 0, .int .i64 0] 156)).cell? ⟨w.heap.size, 6, none⟩ = some (.bool false) := K0.cell 6
      have c7 : (w3.alloc (.cells #[.int .i64 0, .int .i64 0, .int .i64 0, .int .i64 0, .int .i64 0] 156)).cell? ⟨w.heap.size, 7, none⟩ = some (.int .i64 n0) := K0.cell 7
      have c8 : (w3.alloc (.cells #[.int .i64 0, .int .i64 0, .int .i64 0, .int .i64 0, .int .i64 0] 156)).cell? ⟨w.heap.size, 8, none⟩ = some (.int .i64 n1) := K0.cell 8
      have c9 : (w3.alloc (.cells #[.int .i64 0, .int .i64 0, .int .i64 0, .int .i64 0, .int .i64 0] 156)).cell? ⟨w.heap.size, 9, none⟩ = some (.int .i64 n2) := K0.cell 9
      have d0 : (w3.alloc (.cells #[.int .i64 0, .int .i64 0, .int .i64 0, .int .i64 0, .int .i64 0] 156)).cell? ⟨w1.heap.size, 0, none⟩ = some (.int .i64 0) := K1.cell 0
      have d1 : (w3.alloc (.cells #[.int .i64 0, .int .i64 0, .int .i64 0, .int .i64 0, .int .i64 0] 156)).cell? ⟨w1.heap.size, 1, none⟩ = some (.int .i64 0) := K1.cell 1
      have d2 : (w3.alloc (.cells #[.int .i64 0, .int .i64 0, .int .i64 0, .int .i64 0, .int .i64 0] 156)).cell? ⟨w1.heap.size, 2, none⟩ = some (.int .i64 0) := K1.cell 2
      have d3 : (w3.alloc (.cells #[.int .i64 0, .int .i64 0, .int .i64 0, .int .i64 0, .int .i64 0] 156)).cell? ⟨w1.heap.size, 3, none⟩ = some (.int .i64 0) := K1.cell 3
      have d4 : (w3.alloc (.cells #[.int .i64 0, .int .i64 0, .int .i64 0, .int .i64 0, .int .i64 0] 156)).cell? ⟨w1.heap.size, 4, none⟩ = some (.int .i64 0) := K1.cell 4
      have e0 : (w3.alloc (.cells #[.int .i64 0, .int .i64 0, .int .i64 0, .int .i64 0, .int .i64 0] 156)).cell? ⟨w3.heap.size, 0, none⟩ = some (.int .i64 0) := K3.cell 0
      have e1 : (w3.alloc (.cells #[.int .i64 0, .int .i64 0, .int .i64 0, .int .i64 0, .int .i64 0] 156)).cell? ⟨w3.heap.size, 1, none⟩ = some (.int .i64 0) := K3.cell 1
      have e2 : (w3.alloc (.cells #[.int .i64 0, .int .i64 0, .int .i64 0, .int .i64 0, .int .i64 0] 156)).cell? ⟨w3.heap.size, 2, none⟩ = some (.int .i64 0) := K3.cell 2
      have e3 : (w3.alloc (.cells #[.int .i64 0, .int .i64 0, .int .i64 0, .int .i64 0, .int .i64 0] 156)).cell? ⟨w3.heap.size, 3, none⟩ = some (.int .i64 0) := K3.cell 3
      have e4 : (w3.alloc (.cells #[.int .i64 0, .int .i64 0, .int .i64 0, .int .i64 0, .int .i64 0] 156)).cell? ⟨w3.heap.size, 4, none⟩ = some (.int .i64 0) := K3.cell 4
      have J0 := Lib.hid K0
      have J3 := Lib.hid K3
      have HB4 := Lib.hid hb4
      clear K0 K1 K3 a3 hb4 b3 hb3 KK1 KK2 HB2
      go_wp2_with fail
      go_ret
      exact ⟨rfl, HB4.out⟩
    · simp only [if_true, if_false, Bool.false_eq_true] at HBE HAF
      have a0 := Below.alloc (Below.refl w.heap.size w) (Nat.le_refl _) (.cells #[.int .i64 t, .int .i64 k, .bool false, .int .i64 o0, .int .i64 o1, .int .i64 o2, .bool true, .int .i64 n0, .int .i64 n1, .int .i64 n2] 72)
      have K0 := BlkIs.new w 72 #[.int .i64 t, .int .i64 k, .bool false, .int .i64 o0, .int .i64 o1, .int .i64 o2, .bool true, .int .i64 n0, .int .i64 n1, .int .i64 n2]
      have c0 : (w.alloc (.cells #[.int .i64 t, .int .i64 k, .bool false, .int .i64 o0, .int .i64 o1, .int .i64 o2, .bool true, .int .i64 n0, .int .i64 n1, .int .i64 n2] 72)).cell? ⟨w.heap.size, 0, none⟩ = some (.int .i64 t) := K0.cell 0
      have c1 : (w.alloc (.cells #[.int .i64 t, .int .i64 k, .bool false, .int .i64 o0, .int .i64 o1, .int .i64 o2, .bool true, .int .i64 n0, .int .i64 n1, .int .i64 n2] 72)).cell? ⟨w.heap.size, 1, none⟩ = some (.int .i64 k) := K0.cell 1
      have c2 : (w.alloc (.cells #[.int .i64 t, .int .i64 k, .bool false, .int .i64 o0, .int .i64 o1, .int .i64 o2, .bool true, .int .i64 n0, .int .i64 n1, .int .i64 n2] 72)).cell? ⟨w.heap.size, 2, none⟩ = some (.bool false) := K0.cell 2
      have c3 : (w.alloc (.cells #[.int .i64 t, .int .i64 k, .bool false, .int .i64 o0, .int .i64 o1, .int .i64 o2, .bool true, .int .i64 n0, .int .i64 n1, .int .i64 n2] 72)).cell? ⟨w.heap.size, 3, none⟩ = some (.int .i64 o0) := K0.cell 3
      have c4 : (w.alloc (.cells #[.int .i64 t, .int .i64 k, .bool false, .int .i64 o0, .int .i64 o1, .int .i64 o2, .bool true, .int .i64 n0, .int .i64 n1, .int .i64 n2] 72)).cell? ⟨w.heap.size, 4, none⟩ = some (.int .i64 o1) := K0.cell 4
      have c5 : (w.alloc (.cells #[.int .i64 t, .int .i64 k, .bool false, .int .i64 o0, .int .i64 o1, .int .i64 o2, .bool true, .int .i64 n0, .int .i64 n1, .int .i64 n2] 72)).cell? ⟨w.heap.size, 5, none⟩ = some (.int .i64 o2) := K0.cell 5
      have c6 : (w.alloc (.cells #[.int .i64 t, .int .i64 k, .bool false, .int .i64 o0, .int .i64 o1, .int .i64 o2, .bool true, .int .i64 n0, .int .i64 n1, .int .i64 n2] 72)).cell? ⟨w.heap.size, 6, none⟩ = some (.bool true) := K0.cell 6
      have c7 : (w.alloc (.cells #[.int .i64 t, .int .i64 k, .bool false, .int .i64 o0, .int .i64 o1, .int .i64 o2, .bool true, .int .i64 n0, .int .i64 n1, .int .i64 n2] 72)).cell? ⟨w.heap.size, 7, none⟩ = some (.int .i64 n0) := K0.cell 7
      have c8 : (w.alloc (.cells #[.int .i64 t, .int .i64 k, .bool false, .int .i64 o0, .int .i64 o1, .int .i64 o2, .bool true, .int .i64 n0, .int .i64 n1, .int .i64 n2] 72)).cell? ⟨w.heap.size, 8, none⟩ = some (.int .i64 n1) := K0.cell 8
      have c9 : (w.alloc (.cells #[.int .i64 t, .int .i64 k, .bool false, .int .i64 o0, .int .i64 o1, .int .i64 o2, .bool true, .int .i64 n0, .int .i64 n1, .int .i64 n2] 72)).cell? ⟨w.heap.size, 9, none⟩ = some (.int .i64 n2) := K0.cell 9
      have A0 := Lib.hid a0
      have KK0 := Lib.hid K0
      clear a0 K0
      go_enter Tryz.func91, Tryz.ntmps91
      go_wp2_with fail
      refine (HBE.out _).mono ?_
      rintro e w1 ⟨rfl, b1⟩
      have hb1 := Below.next A0.out b1
      have a1 := Below.alloc (Below.refl w1.heap.size w1) (Nat.le_refl _) (.cells #[.int .i64 0, .int .i64 0, .int .i64 0, .int .i64 0, .int .i64 0] 156)
      have K1 := BlkIs.new w1 156 #[.int .i64 0, .int .i64 0, .int .i64 0, .int .i64 0, .int .i64 0]
      have K0 := (KK0.out.later b1).later a1
      have hb2 := Below.next hb1 a1
      clear c0 c1 c2 c3 c4 c5 c6 c7 c8 c9
      have c0 : (w1.alloc (.cells #[.int .i64 0, .int .i64 0, .int .i64 0, .int .i64 0, .int .i64 0] 156)).cell? ⟨w.heap.size, 0, none⟩ = some (.int .i64 t) := K0.cell 0
      have c1 : (w1.alloc (.cells #[.int .i64 0, .int .i64 0, .int .i64 0, .int .i64 0, .int .i64 0] 156)).cell? ⟨w.heap.size, 1, none⟩ = some (.int .i64 k) := K0.cell 1
      have c2 : (w1.alloc (.cells #[.int .i64 0, .int .i64 0, .int .i64 0, .int .i64 0, .int .i64 0] 156)).cell? ⟨w.heap.size, 2, none⟩ = some (.bool false) := K0.cell 2
      have c3 : (w1.alloc (.cells #[.int .i64 0, .int .i64 0, .int .i64 0, .int .i64 0, .int .i64 0] 156)).cell? ⟨w.heap.size, 3, none⟩ = some (.int .i64 o0) := K0.cell 3
      have c4 : (w1.alloc (.cells #[.int .i64 0, .int .i64 0, .int .i64 0, .int .i64 0, .int .i64 0] 156)).cell? ⟨w.heap.size, 4, none⟩ = some (.int .i64 o1) := K0.cell 4
      have c5 : (w1.alloc (.cells #[.int .i64 0, .int .i64 0, .int .i64 0, .int .i64 0, .int .i64 0] 156)).cell? ⟨w.heap.size, 5, none⟩ = some (.int .i64 o2) := K0.cell 5
      have c6 : (w1.alloc (.cells #[.int .i64 0, .int .i64 0, .int .i64 0, .int .i64 0, .int .i64 0] 156)).cell? ⟨w.heap.size, 6, none⟩ = some (.bool true) := K0.cell 6
      have c7 : (w1.alloc (.cells #[.int .i64 0, .int .i64 0, .int .i64 0, .int .i64 0, .int .i64 0] 156)).cell? ⟨w.heap.size, 7, none⟩ = some (.int .i64 n0) := K0.cell 7
      have c8 : (w1.alloc (.cells #[.int .i64 0, .int .i64 0, .int .i64 0, .int .i64 0, .int .i64 0] 156)).cell? ⟨w.heap.size, 8, none⟩ = some (.int .i64 n1) := K0.cell 8
      have c9 : (w1.alloc (.cells #[.int .i64 0, .int .i64 0, .int .i64 0, .int .i64 0, .int .i64 0] 156)).cell? ⟨w.heap.size, 9, none⟩ = some (.int .i64 n2) := K0.cell 9
      have KK1 := Lib.hid K1
      have KK2 := Lib.hid K0
      have HB2 := Lib.hid hb2
      clear K1 K0 a1 hb2 b1 hb1 KK0 A0
      go_wp2_with fail
      refine (HAF.out _).mono ?_
      rintro e w3 ⟨rfl, b3⟩
      have hb3 := Below.next HB2.out b3
      have a3 := Below.alloc (Below.refl w3.heap.size w3) (Nat.le_refl _) (.cells #[.int .i64 t, .int .i64 k, .int .i64 n0, .int .i64 n1, .int .i64 n2] 156)
      have K3 := BlkIs.new w3 156 #[.int .i64 t, .int .i64 k, .int .i64 n0, .int .i64 n1, .int .i64 n2]
      have K0 := (KK2.out.later b3).later a3
      have K1 := (KK1.out.later b3).later a3
      have hb4 := Below.next hb3 a3
      clear c0 c1 c2 c3 c4 c5 c6 c7 c8 c9
      have c0 : (w3.alloc (.cells #[.int .i64 t, .int .i64 k, .int .i64 n0, .int .i64 n1, .int .i64 n2] 156)).cell? ⟨w.heap.size, 0, none⟩ = some (.int .i64 t) := K0.cell 0
      have c1 : (w3.alloc (.cells #[.int .i64 t, .int .i64 k, .int .i64 n0, .int .i64 n1, .int .i64 n2] 156)).cell? ⟨w.heap.size, 1, none⟩ = some (.int .i64 k) := K0.cell 1
      have c2 : (w3.alloc (.cells #[.int .i64 t, .int .i64 k, .int .i64 n0, .int .i64 n1, .int .i64 n2] 156)).cell? ⟨w.heap.size, 2, none⟩ = some (.bool false) := K0.cell 2
      have c3 : (w3.alloc (.cells #[.int .i64 t, .int .i64 k, .int .i64 n0, .int .i64 n1, .int .i64 n2] 156)).cell? ⟨w.heap.size, 3, none⟩ = some (.int .i64 o0) := K0.cell 3
      have c4 : (w3.alloc (.cells #[.int .i64 t, .int .i64 k, .int .i64 n0, .int .i64 n1, .int .i64 n2] 156)).cell? ⟨w.heap.size, 4, none⟩ = some (.int .i64 o1) := K0.cell 4
      have c5 : (w3.alloc (.cells #[.int .i64 t, .int .i64 k, .int .i64 n0, .int .i64 n1, .int .i64 n2] 156)).cell? ⟨w.heap.size, 5, none⟩ = some (.int .i64 o2) := K0.cell 5
      have c6 : (w3.alloc (.cells #[.int .i64 t, .int .i64 k, .int .i64 n0, .int .i64 n1, .int .i64 n2] 156)).cell? ⟨w.heap.size, 6, none⟩ = some (.bool true) := K0.cell 6
      have c7 : (w3.alloc (.cells #[.int .i64 t, .int .i64 k, .int .i64 n0, .int .i64 n1, .int .i64 n2] 156)).cell? ⟨w.heap.size, 7, none⟩ = some (.int .i64 n0) := K0.cell 7
      have c8 : (w3.alloc (.cells #[.int .i64 t, .int .i64 k, .int .i64 n0, .int .i64 n1, .int .i64 n2] 156)).cell? ⟨w.heap.size, 8, none⟩ = some (.int .i64 n1) := K0.cell 8
      have c9 : (w3.alloc (.cells #[.int .i64 t, .int .i64 k, .int .i64 n0, .int .i64 n1, .int .i64 n2] 156)).cell? ⟨w.heap.size, 9, none⟩ = some (.int .i64 n2) := K0.cell 9
      have d0 : (w3.alloc (.cells #[.int .i64 t, .int .i64 k, .int .i64 n0, .int .i64 n1, .int .i64 n2] 156)).cell? ⟨w1.heap.size, 0, none⟩ = some (.int .i64 0) := K1.cell 0
      have d1 : (w3.alloc (.cells #[.int .i64 t, .int .i64 k, .int .i64 n0, .int .i64 n1, .int .i64 n2] 156)).cell? ⟨w1.heap.size, 1, none⟩ = some (.int .i64 0) := K1.cell 1
      have d2 : (w3.alloc (.cells #[.int .i64 t, .int .i64 k, .int .i64 n0, .int .i64 n1, .int .i64 n2] 156)).cell? ⟨w1.heap.size, 2, none⟩ = some (.int .i64 0) := K1.cell 2
      have d3 : (w3.alloc (.cells #[.int .i64 t, .int .i64 k, .int .i64 n0, .int .i64 n1, .int .i64 n2] 156)).cell? ⟨w1.heap.size, 3, none⟩ = some (.int .i64 0) := K1.cell 3
      have d4 : (w3.alloc (.cells #[.int .i64 t, .int .i64 k, .int .i64 n0, .int .i64 n1, .int .i64 n2] 156)).cell? ⟨w1.heap.size, 4, none⟩ = some (.int .i64 0) := K1.cell 4
      have e0 : (w3.alloc (.cells #[.int .i64 t, .int .i64 k, .int .i64 n0, .int .i64 n1, .int .i64 n2] 156)).cell? ⟨w3.heap.size, 0, none⟩ = some (.int .i64 t) := K3.cell 0
      have e1 : (w3.alloc (.cells #[.int .i64 t, .int .i64 k, .int .i64 n0, .int .i64 n1, .int .i64 n2] 156)).cell? ⟨w3.heap.size, 1, none⟩ = some (.int .i64 k) := K3.cell 1
      have e2 : (w3.alloc (.cells #[.int .i64 t, .int .i64 k, .int .i64 n0, .int .i64 n1, .int .i64 n2] 156)).cell? ⟨w3.heap.size, 2, none⟩ = some (.int .i64 n0) := K3.cell 2
      have e3 : (w3.alloc (.cells #[.int .i64 t, .int .i64 k, .int .i64 n0, .int .i64 n1, .int .i64 n2] 156)).cell? ⟨w3.heap.size, 3, none⟩ = some (.int .i64 n1) := K3.cell 3
      have e4 : (w3.alloc (.cells #[.int .i64 t, .int .i64 k, .int .i64 n0, .int .i64 n1, .int .i64 n2] 156)).cell? ⟨w3.heap.size, 4, none⟩ = some (.int .i64 n2) := K3.cell 4
      have J0 := Lib.hid K0
      have J3 := Lib.hid K3
      have HB4 := Lib.hid hb4
      clear K0 K1 K3 a3 hb4 b3 hb3 KK1 KK2 HB2
      go_wp2_with fail
      generalize (w3.alloc (.cells #[.int .i64 t, .int .i64 k, .int .i64 n0, .int .i64 n1, .int .i64 n2] 156)) = w4 at *
      refine (HV2.out _).mono ?_
      rintro e w5 ⟨rfl, b5⟩
      have hb5 := Below.next HB4.out b5
      have K0 := J0.out.later b5
      clear c0 c1 c2 c3 c4 c5 c6 c7 c8 c9 d0 d1 d2 d3 d4 e0 e1 e2 e3 e4
      have c0 : w5.cell? ⟨w.heap.size, 0, none⟩ = some (.int .i64 t) := K0.cell 0
      have c1 : w5.cell? ⟨w.heap.size, 1, none⟩ = some (.int .i64 k) := K0.cell 1
      have c2 : w5.cell? ⟨w.heap.size, 2, none⟩ = some (.bool false) := K0.cell 2
      have c3 : w5.cell? ⟨w.heap.size, 3, none⟩ = some (.int .i64 o0) := K0.cell 3
      have c4 : w5.cell? ⟨w.heap.size, 4, none⟩ = some (.int .i64 o1) := K0.cell 4
      have c5 : w5.cell? ⟨w.heap.size, 5, none⟩ = some (.int .i64 o2) := K0.cell 5
      have c6 : w5.cell? ⟨w.heap.size, 6, none⟩ = some (.bool true) := K0.cell 6
      have c7 : w5.cell? ⟨w.heap.size, 7, none⟩ = some (.int .i64 n0) := K0.cell 7
      have c8 : w5.cell? ⟨w.heap.size, 8, none⟩ = some (.int .i64 n1) := K0.cell 8
      have c9 : w5.cell? ⟨w.heap.size, 9, none⟩ = some (.int .i64 n2) := K0.cell 9
      have HB5 := Lib.hid hb5
      clear K0 b5 hb5
      cases r2
      case false =>
        cases z1
        case false =>
          go_wp2_with fail
          go_ret
          exact ⟨rfl, HB5.out⟩
        case true =>
          go_wp2_with fail
          go_ret
          exact ⟨rfl, HB5.out⟩
      cases z1
      case false =>
        go_wp2_with fail
        go_ret
        exact ⟨rfl, HB5.out⟩
      go_wp2_with fail
      go_ret
      exact ⟨rfl, HB5.out⟩
  · cases has
    · simp only [if_true, if_false, Bool.false_eq_true] at HBE HAF
      have a0 := Below.alloc (Below.refl w.heap.size w) (Nat.le_refl _) (.cells #[.int .i64 t, .int .i64 k, .bool true, .int .i64 o0, .int .i64 o1, .int .i64 o2, .bool false, .int .i64 n0, .int .i64 n1, .int .i64 n2] 72)
      have K0 := BlkIs.new w 72 #[.int .i64 t, .int .i64 k, .bool true, .int .i64 o0, .int .i64 o1, .int .i64 o2, .bool false, .int .i64 n0, .int .i64 n1, .int .i64 n2]
      have c0 : (w.alloc (.cells #[.int .i64 t, .int .i64 k, .bool true, .int .i64 o0, .int .i64 o1, .int .i64 o2, .bool false, .int .i64 n0, .int .i64 n1, .int .i64 n2] 72)).cell? ⟨w.heap.size, 0, none⟩ = some (.int .i64 t) := K0.cell 0
      have c1 : (w.alloc (.cells #[.int .i64 t, .int .i64 k, .bool true, .int .i64 o0, .int .i64 o1, .int .i64 o2, .bool false, .int .i64 n0, .int .i64 n1, .int .i64 n2] 72)).cell? ⟨w.heap.size, 1, none⟩ = some (.int .i64 k) := K0.cell 1
      have c2 : (w.alloc (.cells #[.int .i64 t, .int .i64 k, .bool true, .int .i64 o0, .int .i64 o1, .int .i64 o2, .bool false, .int .i64 n0, .int .i64 n1, .int .i64 n2] 72)).cell? ⟨w.heap.size, 2, none⟩ = some (.bool true) := K0.cell 2
      have c3 : (w.alloc (.cells #[.int .i64 t, .int .i64 k, .bool true, .int .i64 o0, .int .i64 o1, .int .i64 o2, .bool false, .int .i64 n0, .int .i64 n1, .int .i64 n2] 72)).cell? ⟨w.heap.size, 3, none⟩ = some (.int .i64 o0) := K0.cell 3
      have c4 : (w.alloc (.cells #[.int .i64 t, .int .i64 k, .bool true, .int .i64 o0, .int .i64 o1, .int .i64 o2, .bool false, .int .i64 n0, .int .i64 n1, .int .i64 n2] 72)).cell? ⟨w.heap.size, 4, none⟩ = some (.int .i64 o1) := K0.cell 4
      have c5 : (w.alloc (.cells #[.int .i64 t, .int .i64 k, .bool true, .int .i64 o0, .int .i64 o1, .int .i64 o2, .bool false, .int .i64 n0, .int .i64 n1, .int .i64 n2] 72)).cell? ⟨w.heap.size, 5, none⟩ = some (.int .i64 o2) := K0.cell 5
      have c6 : (w.alloc (.cells #[.int .i64 t, .int .i64 k, .bool true, .int .i64 o0, .int .i64 o1, .int .i64 o2, .bool false, .int .i64 n0, .int .i64 n1, .int .i64 n2] 72)).cell? ⟨w.heap.size, 6, none⟩ = some (.bool false) := K0.cell 6
      have c7 : (w.alloc (.cells #[.int .i64 t, .int .i64 k, .bool true, .int .i64 o0, .int .i64 o1, .int .i64 o2, .bool false, .int .i64 n0, .int .i64 n1, .int .i64 n2] 72)).cell? ⟨w.heap.size, 7, none⟩ = some (.int .i64 n0) := K0.cell 7
      have c8 : (w.alloc (.cells #[.int .i64 t, .int .i64 k, .bool true, .int .i64 o0, .int .i64 o1, .int .i64 o2, .bool false, .int .i64 n0, .int .i64 n1, .int .i64 n2] 72)).cell? ⟨w.heap.size, 8, none⟩ = some (.int .i64 n1) := K0.cell 8
      have c9 : (w.alloc (.cells #[.int .i64 t, .int .i64 k, .bool true, .int .i64 o0, .int .i64 o1, .int .i64 o2, .bool false, .int .i64 n0, .int .i64 n1, .int .i64 n2] 72)).cell? ⟨w.heap.size, 9, none⟩ = some (.int .i64 n2) := K0.cell 9
      have A0 := Lib.hid a0
      have KK0 := Lib.hid K0
      clear a0 K0
      go_enter Tryz.func91, Tryz.ntmps91
      go_wp2_with fail
      refine (HBE.out _).mono ?_
      rintro e w1 ⟨rfl, b1⟩
      have hb1 := Below.next A0.out b1
      have a1 := Below.alloc (Below.refl w1.heap.size w1) (Nat.le_refl _) (.cells #[.int .i64 t, .int .i64 k, .int .i64 o0, .int .i64 o1, .int .i64 o2] 156)
      have K1 := BlkIs.new w1 156 #[.int .i64 t, .int .i64 k, .int .i64 o0, .int .i64 o1, .int .i64 o2]
      have K0 := (KK0.out.later b1).later a1
      have hb2 := Below.next hb1 a1
      clear c0 c1 c2 c3 c4 c5 c6 c7 c8 c9
      have c0 : (w1.alloc (.cells #[.int .i64 t, .int .i64 k, .int .i64 o0, .int .i64 o1, .int .i64 o2] 156)).cell? ⟨w.heap.size, 0, none⟩ = some (.int .i64 t) := K0.cell 0
      have c1 : (w1.alloc (.cells #[.int .i64 t, .int .i64 k, .int .i64 o0, .int .i64 o1, .int .i64 o2] 156)).cell? ⟨w.heap.size, 1, none⟩ = some (.int .i64 k) := K0.cell 1
      have c2 : (w1.alloc (.cells #[.int .i64 t, .int .i64 k, .int .i64 o0, .int .i64 o1, .int .i64 o2] 156)).cell? ⟨w.heap.size, 2, none⟩ = some (.bool true) := K0.cell 2
      have c3 : (w1.alloc (.cells #[.int .i64 t, .int .i64 k, .int .i64 o0, .int .i64 o1, .int .i64 o2] 156)).cell? ⟨w.heap.size, 3, none⟩ = some (.int .i64 o0) := K0.cell 3
      have c4 : (w1.alloc (.cells #[.int .i64 t, .int .i64 k, .int .i64 o0, .int .i64 o1, .int .i64 o2] 156)).cell? ⟨w.heap.size, 4, none⟩ = some (.int .i64 o1) := K0.cell 4
      have c5 : (w1.alloc (.cells #[.int .i64 t, .int .i64 k, .int .i64 o0, .int .i64 o1, .int .i64 o2] 156)).cell? ⟨w.heap.size, 5, none⟩ = some (.int .i64 o2) := K0.cell 5
      have c6 : (w1.alloc (.cells #[.int .i64 t, .int .i64 k, .int .i64 o0, .int .i64 o1, .int .i64 o2] 156)).cell? ⟨w.heap.size, 6, none⟩ = some (.bool false) := K0.cell 6
      have c7 : (w1.alloc (.cells #[.int .i64 t, .int .i64 k, .int .i64 o0, .int .i64 o1, .int .i64 o2] 156)).cell? ⟨w.heap.size, 7, none⟩ = some (.int .i64 n0) := K0.cell 7
      have c8 : (w1.alloc (.cells #[.int .i64 t, .int .i64 k, .int .i64 o0, .int .i64 o1, .int .i64 o2] 156)).cell? ⟨w.heap.size, 8, none⟩ = some (.int .i64 n1) := K0.cell 8
      have c9 : (w1.alloc (.cells #[.int .i64 t, .int .i64 k, .int .i64 o0, .int .i64 o1, .int .i64 o2] 156)).cell? ⟨w.heap.size, 9, none⟩ = some (.int .i64 n2) := K0.cell 9
      have KK1 := Lib.hid K1
      have KK2 := Lib.hid K0
      have HB2 := Lib.hid hb2
      clear K1 K0 a1 hb2 b1 hb1 KK0 A0
      go_wp2_with fail
      refine (HAF.out _).mono ?_
      rintro e w3 ⟨rfl, b3⟩
      have hb3 := Below.next HB2.out b3
      have a3 := Below.alloc (Below.refl w3.heap.size w3) (Nat.le_refl _) (.cells #[.int .i64 0, .int .i64 0, .int .i64 0, .int .i64 0, .int .i64 0] 156)
      have K3 := BlkIs.new w3 156 #[.int .i64 0, .int .i64 0, .int .i64 0, .int .i64 0, .int .i64 0]
      have K0 := (KK2.out.later b3).later a3
      have K1 := (KK1.out.later b3).later a3
      have hb4 := Below.next hb3 a3
      clear c0 c1 c2 c3 c4 c5 c6 c7 c8 c9
      have c0 : (w3.alloc (.cells #[.int .i64 0, .int .i64 0, .int .i64 0, .int .i64 0, .int .i64 0] 156)).cell? ⟨w.heap.size, 0, none⟩ = some (.int .i64 t) := K0.cell 0
      have c1 : (w3.alloc (.cells #[.int .i64 0, .int .i64 0, .int .i64 0, .int .i64 0, .int .i64 0] 156)).cell? ⟨w.heap.size, 1, none⟩ = some (.int .i64 k) := K0.cell 1
      have c2 : (w3.alloc (.cells #[.int .i64 0, .int .i64 0, .int .i64 0, .int .i64 0, .int .i64 0] 156)).cell? ⟨w.heap.size, 2, none⟩ = some (.bool true) := K0.cell 2
      have c3 : (w3.alloc (.cells #[.int .i64 0, .int .i64 0, .int .i64 0, .int .i64 0, .int .i64 0] 156)).cell? ⟨w.heap.size, 3, none⟩ = some (.int .i64 o0) := K0.cell 3
      have c4 : (w3.alloc (.cells #[.int .i64 0, .int .i64 0, .int .i64 0, .int .i64 0, .int .i64 0] 156)).cell? ⟨w.heap.size, 4, none⟩ = some (.int .i64 o1) := K0.cell 4
      have c5 : (w3.alloc (.cells #[.int .i64 0, .int .i64 0, .int .i64 0, .int .i64 0, .int .i64 0] 156)).cell? ⟨w.heap.size, 5, none⟩ = some (.int .i64 o2) := K0.cell 5
      have c6 : (w3.alloc (.cells #[.int .i64 0, .int .i64 0, .int .i64 0, .int .i64 0, .int .i64 0] 156)).cell? ⟨w.heap.size, 6, none⟩ = some (.bool false) := K0.cell 6
      have c7 : (w3.alloc (.cells #[.int .i64 0, .int .i64 0, .int .i64 0, .int .i64 0, .int .i64 0] 156)).cell? ⟨w.heap.size, 7, none⟩ = some (.int .i64 n0) := K0.cell 7
      have c8 : (w3.alloc (.cells #[.int .i64 0, .int .i64 0, .int .i64 0, .int .i64 0, .int .i64 0] 156)).cell? ⟨w.heap.size, 8, none⟩ = some (.int .i64 n1) := K0.cell 8
      have c9 : (w3.alloc (.cells #[.int .i64 0, .int .i64 0, .int .i64 0, .int .i64 0, .int .i64 0] 156)).cell? ⟨w.heap.size, 9, none⟩ = some (.int .i64 n2) := K0.cell 9
      have d0 : (w3.alloc (.cells #[.int .i64 0, .int .i64 0, .int .i64 0, .int .i64 0, .int .i64 0] 156)).cell? ⟨w1.heap.size, 0, none⟩ = some (.int .i64 t) := K1.cell 0
      have d1 : (w3.alloc (.cells #[.int .i64 0, .int .i64 0, .int .i64 0, .int .i64 0, .int .i64 0] 156)).cell? ⟨w1.heap.size, 1, none⟩ = some (.int .i64 k) := K1.cell 1
      have d2 : (w3.alloc (.cells #[.int .i64 0, .int .i64 0, .int .i64 0, .int .i64 0, .int .i64 0] 156)).cell? ⟨w1.heap.size, 2, none⟩ = some (.int .i64 o0) := K1.cell 2
      have d3 : (w3.alloc (.cells #[.int .i64 0, .int .i64 0, .int .i64 0, .int .i64 0, .int .i64 0] 156)).cell? ⟨w1.heap.size, 3, none⟩ = some (.int .i64 o1) := K1.cell 3
      have d4 : (w3.alloc (.cells #[.int .i64 0, .int .i64 0, .int .i64 0, .int .i64 0, .int .i64 0] 156)).cell? ⟨w1.heap.size, 4, none⟩ = some (.int .i64 o2) := K1.cell 4
      have e0 : (w3.alloc (.cells #[.int .i64 0, .int .i64 0, .int .i64 0, .int .i64 0, .int .i64 0] 156)).cell? ⟨w3.heap.size, 0, none⟩ = some (.int .i64 0) := K3.cell 0
      have e1 : (w3.alloc (.cells #[.int .i64 0, .int .i64 0, .int .i64 0, .int .i64 0, .int .i64 0] 156)).cell? ⟨w3.heap.size, 1, none⟩ = some (.int .i64 0) := K3.cell 1
      have e2 : (w3.alloc (.cells #[.int .i64 0, .int .i64 0, .int .i64 0, .int .i64 0, .int .i64 0] 156)).cell? ⟨w3.heap.size, 2, none⟩ = some (.int .i64 0) := K3.cell 2
      have e3 : (w3.alloc (.cells #[.int .i64 0, .int .i64 0, .int .i64 0, .int .i64 0, .int .i64 0] 156)).cell? ⟨w3.heap.size, 3, none⟩ = some (.int .i64 0) := K3.cell 3
      have e4 : (w3.alloc (.cells #[.int .i64 0, .int .i64 0, .int .i64 0, .int .i64 0, .int .i64 0] 156)).cell? ⟨w3.heap.size, 4, none⟩ = some (.int .i64 0) := K3.cell 4
      have J0 := Lib.hid K0
      have J3 := Lib.hid K3
      have HB4 := Lib.hid hb4
      clear K0 K1 K3 a3 hb4 b3 hb3 KK1 KK2 HB2
      go_wp2_with fail
      generalize (w3.alloc (.cells #[.int .i64 0, .int .i64 0, .int .i64 0, .int .i64 0, .int .i64 0] 156)) = w4 at *
      refine (HV1.out _).mono ?_
      rintro e w5 ⟨rfl, b5⟩
      have hb5 := Below.next HB4.out b5
      have K0 := J0.out.later b5
      have K3 := J3.out.later b5
      clear c0 c1 c2 c3 c4 c5 c6 c7 c8 c9 d0 d1 d2 d3 d4 e0 e1 e2 e3 e4
      have c0 : w5.cell? ⟨w.heap.size, 0, none⟩ = some (.int .i64 t) := K0.cell 0
      have c1 : w5.cell? ⟨w.heap.size, 1, none⟩ = some (.int .i64 k) := K0.cell 1
      have c2 : w5.cell? ⟨w.heap.size, 2, none⟩ = some (.bool true) := K0.cell 2
      have c3 : w5.cell? ⟨w.heap.size, 3, none⟩ = some (.int .i64 o0) := K0.cell 3
      have c4 : w5.cell? ⟨w.heap.size, 4, none⟩ = some (.int .i64 o1) := K0.cell 4
      have c5 : w5.cell? ⟨w.heap.size, 5, none⟩ = some (.int .i64 o2) := K0.cell 5
      have c6 : w5.cell? ⟨w.heap.size, 6, none⟩ = some (.bool false) := K0.cell 6
      have c7 : w5.cell? ⟨w.heap.size, 7, none⟩ = some (.int .i64 n0) := K0.cell 7
      have c8 : w5.cell? ⟨w.heap.size, 8, none⟩ = some (.int .i64 n1) := K0.cell 8
      have c9 : w5.cell? ⟨w.heap.size, 9, none⟩ = some (.int .i64 n2) := K0.cell 9
      have e0 : w5.cell? ⟨w3.heap.size, 0, none⟩ = some (.int .i64 0) := K3.cell 0
      have e1 : w5.cell? ⟨w3.heap.size, 1, none⟩ = some (.int .i64 0) := K3.cell 1
      have e2 : w5.cell? ⟨w3.heap.size, 2, none⟩ = some (.int .i64 0) := K3.cell 2
      have e3 : w5.cell? ⟨w3.heap.size, 3, none⟩ = some (.int .i64 0) := K3.cell 3
      have e4 : w5.cell? ⟨w3.heap.size, 4, none⟩ = some (.int .i64 0) := K3.cell 4
      have J0 := Lib.hid K0
      have HB5 := Lib.hid hb5
      clear K0 K3 b5 hb5
      cases r1
      case false =>
        go_wp2_with fail
        go_ret
        exact ⟨rfl, HB5.out⟩
      cases z2
      case false =>
        go_wp2_with fail
        go_ret
        exact ⟨rfl, HB5.out⟩
      go_wp2_with fail
      go_ret
      exact ⟨rfl, HB5.out⟩
    · simp only [if_true] at HBE HAF
      have a0 := Below.alloc (Below.refl w.heap.size w) (Nat.le_refl _) (.cells #[.int .i64 t, .int .i64 k, .bool true, .int .i64 o0, .int .i64 o1, .int .i64 o2, .bool true, .int .i64 n0, .int .i64 n1, .int .i64 n2] 72)
      have K0 := BlkIs.new w 72 #[.int .i64 t, .int .i64 k, .bool true, .int .i64 o0, .int .i64 o1, .int .i64 o2, .bool true, .int .i64 n0, .int .i64 n1, .int .i64 n2]
      have c0 : (w.alloc (.cells #[.int .i64 t, .int .i64 k, .bool true, .int .i64 o0, .int .i64 o1, .int .i64 o2, .bool true, .int .i64 n0, .int .i64 n1, .int .i64 n2] 72)).cell? ⟨w.heap.size, 0, none⟩ = some (.int .i64 t) := K0.cell 0
      have c1 : (w.alloc (.cells #[.int .i64 t, .int .i64 k, .bool true, .int .i64 o0, .int .i64 o1, .int .i64 o2, .bool true, .int .i64 n0, .int .i64 n1, .int .i64 n2] 72)).cell? ⟨w.heap.size, 1, none⟩ = some (.int .i64 k) := K0.cell 1
      have c2 : (w.alloc (.cells #[.int .i64 t, .int .i64 k, .bool true, .int .i64 o0, .int .i64 o1, .int .i64 o2, .bool true, .int .i64 n0, .int .i64 n1, .int .i64 n2] 72)).cell? ⟨w.heap.size, 2, none⟩ = some (.bool true) := K0.cell 2
      have c3 : (w.alloc (.cells #[.int .i64 t, .int .i64 k, .bool true, .int .i64 o0, .int .i64 o1, .int .i64 o2, .bool true, .int .i64 n0, .int .i64 n1, .int .i64 n2] 72)).cell? ⟨w.heap.size, 3, none⟩ = some (.int .i64 o0) := K0.cell 3
      have c4 : (w.alloc (.cells #[.int .i64 t, .int .i64 k, .bool true, .int .i64 o0, .int .i64 o1, .int .i64 o2, .bool true, .int .i64 n0, .int .i64 n1, .int .i64 n2] 72)).cell? ⟨w.heap.size, 4, none⟩ = some (.int .i64 o1) := K0.cell 4
      have c5 : (w.alloc (.cells #[.int .i64 t, .int .i64 k, .bool true, .int .i64 o0, .int .i64 o1, .int .i64 o2, .bool true, .int .i64 n0, .int .i64 n1, .int .i64 n2] 72)).cell? ⟨w.heap.size, 5, none⟩ = some (.int .i64 o2) := K0.cell 5
      have c6 : (w.alloc (.cells #[.int .i64 t, .int .i64 k, .bool true, .int .i64 o0, .int .i64 o1, .int .i64 o2, .bool true, .int .i64 n0, .int .i64 n1, .int .i64 n2] 72)).cell? ⟨w.heap.size, 6, none⟩ = some (.bool true) := K0.cell 6
      have c7 : (w.alloc (.cells #[.int .i64 t, .int .i64 k, .bool true, .int .i64 o0, .int .i64 o1, .int .i64 o2, .bool true, .int .i64 n0, .int .i64 n1, .int .i64 n2] 72)).cell? ⟨w.heap.size, 7, none⟩ = some (.int .i64 n0) := K0.cell 7
      have c8 : (w.alloc (.cells #[.int .i64 t, .int .i64 k, .bool true, .int .i64 o0, .int .i64 o1, .int .i64 o2, .bool true, .int .i64 n0, .int .i64 n1, .int .i64 n2] 72)).cell? ⟨w.heap.size, 8, none⟩ = some (.int .i64 n1) := K0.cell 8
      have c9 : (w.alloc (.cells #[.int .i64 t, .int .i64 k, .bool true, .int .i64 o0, .int .i64 o1, .int .i64 o2, .bool true, .int .i64 n0, .int .i64 n1, .int .i64 n2] 72)).cell? ⟨w.heap.size, 9, none⟩ = some (.int .i64 n2) := K0.cell 9
      have A0 := Lib.hid a0
      have KK0 := Lib.hid K0
      clear a0 K0
      go_enter Tryz.func91, Tryz.ntmps91
      go_wp2_with fail
      refine (HBE.out _).mono ?_
      rintro e w1 ⟨rfl, b1⟩
      have hb1 := Below.next A0.out b1
      have a1 := Below.alloc (Below.refl w1.heap.size w1) (Nat.le_refl _) (.cells #[.int .i64 t, .int .i64 k, .int .i64 o0, .int .i64 o1, .int .i64 o2] 156)
      have K1 := BlkIs.new w1 156 #[.int .i64 t, .int .i64 k, .int .i64 o0, .int .i64 o1, .int .i64 o2]
      have K0 := (KK0.out.later b1).later a1
      have hb2 := Below.next hb1 a1
      clear c0 c1 c2 c3 c4 c5 c6 c7 c8 c9
      have c0 : (w1.alloc (.cells #[.int .i64 t, .int .i64 k, .int .i64 o0, .int .i64 o1, .int .i64 o2] 156)).cell? ⟨w.heap.size, 0, none⟩ = some (.int .i64 t) := K0.cell 0
      have c1 : (w1.alloc (.cells #[.int .i64 t, .int .i64 k, .int .i64 o0, .int .i64 o1, .int .i64 o2] 156)).cell? ⟨w.heap.size, 1, none⟩ = some (.int .i64 k) := K0.cell 1
      have c2 : (w1.alloc (.cells #[.int .i64 t, .int .i64 k, .int .i64 o0, .int .i64 o1, .int .i64 o2] 156)).cell? ⟨w.heap.size, 2, none⟩ = some (.bool true) := K0.cell 2
      have c3 : (w1.alloc (.cells #[.int .i64 t, .int .i64 k, .int .i64 o0, .int .i64 o1, .int .i64 o2] 156)).cell? ⟨w.heap.size, 3, none⟩ = some (.int .i64 o0) := K0.cell 3
      have c4 : (w1.alloc (.cells #[.int .i64 t, .int .i64 k, .int .i64 o0, .int .i64 o1, .int .i64 o2] 156)).cell? ⟨w.heap.size, 4, none⟩ = some (.int .i64 o1) := K0.cell 4
      have c5 : (w1.alloc (.cells #[.int .i64 t, .int .i64 k, .int .i64 o0, .int .i64 o1, .int .i64 o2] 156)).cell? ⟨w.heap.size, 5, none⟩ = some (.int .i64 o2) := K0.cell 5
      have c6 : (w1.alloc (.cells #[.int .i64 t, .int .i64 k, .int .i64 o0, .int .i64 o1, .int .i64 o2] 156)).cell? ⟨w.heap.size, 6, none⟩ = some (.bool true) := K0.cell 6
      have c7 : (w1.alloc (.cells #[.int .i64 t, .int .i64 k, .int .i64 o0, .int .i64 o1, .int .i64 o2] 156)).cell? ⟨w.heap.size, 7, none⟩ = some (.int .i64 n0) := K0.cell 7
      have c8 : (w1.alloc (.cells #[.int .i64 t, .int .i64 k, .int .i64 o0, .int .i64 o1, .int .i64 o2] 156)).cell? ⟨w.heap.size, 8, none⟩ = some (.int .i64 n1) := K0.cell 8
      have c9 : (w1.alloc (.cells #[.int .i64 t, .int .i64 k, .int .i64 o0, .int .i64 o1, .int .i64 o2] 156)).cell? ⟨w.heap.size, 9, none⟩ = some (.int .i64 n2) := K0.cell 9
      have KK1 := Lib.hid K1
      have KK2 := Lib.hid K0
      have HB2 := Lib.hid hb2
      clear K1 K0 a1 hb2 b1 hb1 KK0 A0
      go_wp2_with fail
      refine (HAF.out _).mono ?_
      rintro e w3 ⟨rfl, b3⟩
      have hb3 := Below.next HB2.out b3
      have a3 := Below.alloc (Below.refl w3.heap.size w3) (Nat.le_refl _) (.cells #[.int .i64 t, .int .i64 k, .int .i64 n0, .int .i64 n1, .int .i64 n2] 156)
      have K3 := BlkIs.new w3 156 #[.int .i64 t, .int .i64 k, .int .i64 n0, .int .i64 n1, .int .i64 n2]
      have K0 := (KK2.out.later b3).later a3
      have K1 := (KK1.out.later b3).later a3
      have hb4 := Below.next hb3 a3
      clear c0 c1 c2 c3 c4 c5 c6 c7 c8 c9
      have c0 : (w3.alloc (.cells #[.int .i64 t, .int .i64 k, .int .i64 n0, .int .i64 n1, .int .i64 n2] 156)).cell? ⟨w.heap.size, 0, none⟩ = some (.int .i64 t) := K0.cell 0
      have c1 : (w3.alloc (.cells #[.int .i64 t, .int .i64 k, .int .i64 n0, .int .i64 n1, .int .i64 n2] 156)).cell? ⟨w.heap.size, 1, none⟩ = some (.int .i64 k) := K0.cell 1
      have c2 : (w3.alloc (.cells #[.int .i64 t, .int .i64 k, .int .i64 n0, .int .i64 n1, .int .i64 n2] 156)).cell? ⟨w.heap.size, 2, none⟩ = some (.bool true) := K0.cell 2
      have c3 : (w3.alloc (.cells #[.int .i64 t, .int .i64 k, .int .i64 n0, .int .i64 n1, .int .i64 n2] 156)).cell? ⟨w.heap.size, 3, none⟩ = some (.int .i64 o0) := K0.cell 3
      have c4 : (w3.alloc (.cells #[.int .i64 t, .int .i64 k, .int .i64 n0, .int .i64 n1, .int .i64 n2] 156)).cell? ⟨w.heap.size, 4, none⟩ = some (.int .i64 o1) := K0.cell 4
      have c5 : (w3.alloc (.cells #[.int .i64 t, .int .i64 k, .int .i64 n0, .int .i64 n1, .int .i64 n2] 156)).cell? ⟨w.heap.size, 5, none⟩ = some (.int .i64 o2) := K0.cell 5
      have c6 : (w3.alloc (.cells #[.int .i64 t, .int .i64 k, .int .i64 n0, .int .i64 n1, .int .i64 n2] 156)).cell? ⟨w.heap.size, 6, none⟩ = some (.bool true) := K0.cell 6
      have c7 : (w3.alloc (.cells #[.int .i64 t, .int .i64 k, .int .i64 n0, .int .i64 n1, .int .i64 n2] 156)).cell? ⟨w.heap.size, 7, none⟩ = some (.int .i64 n0) := K0.cell 7
      have c8 : (w3.alloc (.cells #[.int .i64 t, .int .i64 k, .int .i64 n0, .int .i64 n1, .int .i64 n2] 156)).cell? ⟨w.heap.size, 8, none⟩ = some (.int .i64 n1) := K0.cell 8
      have c9 : (w3.alloc (.cells #[.int .i64 t, .int .i64 k, .int .i64 n0, .int .i64 n1, .int .i64 n2] 156)).cell? ⟨w.heap.size, 9, none⟩ = some (.int .i64 n2) := K0.cell 9
      have d0 : (w3.alloc (.cells #[.int .i64 t, .int .i64 k, .int .i64 n0, .int .i64 n1, .int .i64 n2] 156)).cell? ⟨w1.heap.size, 0, none⟩ = some (.int .i64 t) := K1.cell 0
      have d1 : (w3.alloc (.cells #[.int .i64 t, .int .i64 k, .int .i64 n0, .int .i64 n1, .int .i64 n2] 156)).cell? ⟨w1.heap.size, 1, none⟩ = some (.int .i64 k) := K1.cell 1
      have d2 : (w3.alloc (.cells #[.int .i64 t, .int .i64 k, .int .i64 n0, .int .i64 n1, .int .i64 n2] 156)).cell? ⟨w1.heap.size, 2, none⟩ = some (.int .i64 o0) := K1.cell 2
      have d3 : (w3.alloc (.cells #[.int .i64 t, .int .i64 k, .int .i64 n0, .int .i64 n1, .int .i64 n2] 156)).cell? ⟨w1.heap.size, 3, none⟩ = some (.int .i64 o1) := K1.cell 3
      have d4 : (w3.alloc (.cells #[.int .i64 t, .int .i64 k, .int .i64 n0, .int .i64 n1, .int .i64 n2] 156)).cell? ⟨w1.heap.size, 4, none⟩ = some (.int .i64 o2) := K1.cell 4
      have e0 : (w3.alloc (.cells #[.int .i64 t, .int .i64 k, .int .i64 n0, .int .i64 n1, .int .i64 n2] 156)).cell? ⟨w3.heap.size, 0, none⟩ = some (.int .i64 t) := K3.cell 0
      have e1 : (w3.alloc (.cells #[.int .i64 t, .int .i64 k, .int .i64 n0, .int .i64 n1, .int .i64 n2] 156)).cell? ⟨w3.heap.size, 1, none⟩ = some (.int .i64 k) := K3.cell 1
      have e2 : (w3.alloc (.cells #[.int .i64 t, .int .i64 k, .int .i64 n0, .int .i64 n1, .int .i64 n2] 156)).cell? ⟨w3.heap.size, 2, none⟩ = some (.int .i64 n0) := K3.cell 2
      have e3 : (w3.alloc (.cells #[.int .i64 t, .int .i64 k, .int .i64 n0, .int .i64 n1, .int .i64 n2] 156)).cell? ⟨w3.heap.size, 3, none⟩ = some (.int .i64 n1) := K3.cell 3
      have e4 : (w3.alloc (.cells #[.int .i64 t, .int .i64 k, .int .i64 n0, .int .i64 n1, .int .i64 n2] 156)).cell? ⟨w3.heap.size, 4, none⟩ = some (.int .i64 n2) := K3.cell 4
      have J0 := Lib.hid K0
      have J3 := Lib.hid K3
      have HB4 := Lib.hid hb4
      clear K0 K1 K3 a3 hb4 b3 hb3 KK1 KK2 HB2
      cases y
      case true =>
        go_wp2_with fail
        go_ret
        exact ⟨rfl, HB4.out⟩
      go_wp2_with fail
      generalize (w3.alloc (.cells #[.int .i64 t, .int .i64 k, .int .i64 n0, .int .i64 n1, .int .i64 n2] 156)) = w4 at *
      refine (HV1.out _).mono ?_
      rintro e w5 ⟨rfl, b5⟩
      have hb5 := Below.next HB4.out b5
      have K0 := J0.out.later b5
      have K3 := J3.out.later b5
      clear c0 c1 c2 c3 c4 c5 c6 c7 c8 c9 d0 d1 d2 d3 d4 e0 e1 e2 e3 e4
      have c0 : w5.cell? ⟨w.heap.size, 0, none⟩ = some (.int .i64 t) := K0.cell 0
      have c1 : w5.cell? ⟨w.heap.size, 1, none⟩ = some (.int .i64 k) := K0.cell 1
      have c2 : w5.cell? ⟨w.heap.size, 2, none⟩ = some (.bool true) := K0.cell 2
      have c3 : w5.cell? ⟨w.heap.size, 3, none⟩ = some (.int .i64 o0) := K0.cell 3
      have c4 : w5.cell? ⟨w.heap.size, 4, none⟩ = some (.int .i64 o1) := K0.cell 4
      have c5 : w5.cell? ⟨w.heap.size, 5, none⟩ = some (.int .i64 o2) := K0.cell 5
      have c6 : w5.cell? ⟨w.heap.size, 6, none⟩ = some (.bool true) := K0.cell 6
      have c7 : w5.cell? ⟨w.heap.size, 7, none⟩ = some (.int .i64 n0) := K0.cell 7
      have c8 : w5.cell? ⟨w.heap.size, 8, none⟩ = some (.int .i64 n1) := K0.cell 8
      have c9 : w5.cell? ⟨w.heap.size, 9, none⟩ = some (.int .i64 n2) := K0.cell 9
      have e0 : w5.cell? ⟨w3.heap.size, 0, none⟩ = some (.int .i64 t) := K3.cell 0
      have e1 : w5.cell? ⟨w3.heap.size, 1, none⟩ = some (.int .i64 k) := K3.cell 1
      have e2 : w5.cell? ⟨w3.heap.size, 2, none⟩ = some (.int .i64 n0) := K3.cell 2
      have e3 : w5.cell? ⟨w3.heap.size, 3, none⟩ = some (.int .i64 n1) := K3.cell 3
      have e4 : w5.cell? ⟨w3.heap.size, 4, none⟩ = some (.int .i64 n2) := K3.cell 4
      have J0 := Lib.hid K0
      have HB5 := Lib.hid hb5
      clear K0 K3 b5 hb5
      cases r1
      case false =>
        go_wp2_with fail
        go_ret
        exact ⟨rfl, HB5.out⟩
      go_wp2_with fail
      refine (HV2.out _).mono ?_
      rintro e w6 ⟨rfl, b6⟩
      have hb6 := Below.next HB5.out b6
      have HB6 := Lib.hid hb6
      clear b6 hb6 c0 c1 c2 c3 c4 c5 c6 c7 c8 c9 e0 e1 e2 e3 e4
      cases r2
      case false =>
        go_wp2_with fail
        go_ret
        exact ⟨rfl, HB6.out⟩
      go_wp2_with fail
      go_ret
      exact ⟨rfl, HB6.out⟩
end Go.Proofs.YtheebajklnljdaaGreatDoor
