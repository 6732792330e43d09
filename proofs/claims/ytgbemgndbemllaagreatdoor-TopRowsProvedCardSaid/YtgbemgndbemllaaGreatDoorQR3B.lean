/- The reference's ValidRecord (written by wip/mk_r3b.py). -/
import Derived.Test.YtgbemgndbemllaaGreatDoorGi
namespace Go.Proofs.YtgbemgndbemllaaGreatDoor
open Go Go.RowKit
attribute [local go_sem] Oper.semAt_some

/-- the first k changes stand in order and are valid -/
def ascT (l : List Chg) (k : Nat) : Bool := ascB (-1) 0 (l.take k)
theorem chgB_pos {c : Chg} (h : chgB c = true) : 0 ≤ c.table ∧ 1 ≤ c.key := by
  unfold chgB soundB rowB at h
  obtain ⟨t, k, had, old, has, new⟩ := c
  dsimp only at h ⊢
  cases had <;> cases has <;> simp [Bool.and_eq_true, decide_eq_true_eq] at h <;> omega
theorem ascB_snoc (t k : Int) (a : List Chg) (p c : Chg) : ascB t k (a ++ [p] ++ [c]) = (ascB t k (a ++ [p]) && (chgB c && !(decide (c.table < p.table) || decide (c.table = p.table) && decide (c.key ≤ p.key)))) := by
  rw [List.append_assoc]
  show ascB t k (a ++ p :: [c]) = _
  rw [ascB_append]
  simp [ascB]
theorem ascB_prefix (t k : Int) : ∀ (a b : List Chg), ascB t k (a ++ b) = true → ascB t k a = true
  | [], _, _ => rfl
  | c :: a, b, h => by
    rw [List.cons_append, ascB_step] at h
    rw [ascB_step]
    simp only [Bool.and_eq_true] at h ⊢
    exact ⟨h.1, ascB_prefix _ _ a b h.2⟩
theorem ascT_first {l : List Chg} {x : Chg} (h : l[0]? = some x) : ascT l 1 = chgB x := by
  obtain ⟨h1, h2⟩ := List.getElem?_eq_some_iff.1 h
  unfold ascT
  rw [List.take_add_one, List.take_zero, h]
  show ascB (-1) 0 [x] = chgB x
  rw [ascB_step]
  cases hc : chgB x with
  | false => rfl
  | true =>
    obtain ⟨p, _⟩ := chgB_pos hc
    have e1 : decide (x.table < -1) = false := by simp; omega
    have e2 : decide (x.table = -1) = false := by simp; omega
    rw [e1, e2]; rfl
theorem ascT_next {l : List Chg} {k : Nat} {p x : Chg} (hp : l[k]? = some p) (hx : l[k + 1]? = some x) : ascT l (k + 2) = (ascT l (k + 1) && (chgB x && !(decide (x.table < p.table) || decide (x.table = p.table) && decide (x.key ≤ p.key)))) := by
  unfold ascT
  rw [List.take_add_one (i := k + 1), hx, List.take_add_one (i := k), hp]
  exact ascB_snoc _ _ _ _ _
theorem ascT_all {l : List Chg} {k : Nat} (h : l.length ≤ k) : ascT l k = ascB (-1) 0 l := by unfold ascT; rw [List.take_of_length_le h]
theorem ascT_fails {l : List Chg} {k : Nat} (h : ascT l k = false) : ascB (-1) 0 l = false := by
  cases hc : ascB (-1) 0 l with
  | false => rfl
  | true =>
    rw [← List.take_append_drop k l] at hc
    have := ascB_prefix _ _ _ _ hc
    unfold ascT at h
    rw [h] at this; cases this

set_option maxRecDepth 100000 in
set_option maxHeartbeats 8000000 in
theorem rrec_ok (p : Int) (A : Option Addr) (c : Nat) (l : List Chg) (w : World) (hv : ChgsAt w (.slice A l.length c) l) :
    Calls Tryz.prog 48 #[recV p (.slice A l.length c)] w fun e w' => e = .returned (.bool (recB ⟨p, l⟩)) ∧ Below w.heap.size w w' := by
  obtain ⟨y1, t1⟩ : ∃ y, (decide (1 ≤ p) && decide (p ≤ 10000)) = y := ⟨_, rfl⟩
  obtain ⟨y2, t2⟩ : ∃ y, (decide ((1 : Int) ≤ (l.length : Nat)) && decide (((l.length : Nat) : Int) ≤ 8)) = y := ⟨_, rfl⟩
  obtain ⟨R, hR⟩ : ∃ R, R = ascB (-1) 0 l := ⟨_, rfl⟩
  have hrec : recB ⟨p, l⟩ = (y1 && y2 && R) := by
    rw [← t1, ← t2, hR]
    have e1 : decide (1 ≤ l.length) = decide ((1 : Int) ≤ (l.length : Nat)) := by congr 1; simp; omega
    have e2 : decide (l.length ≤ 8) = decide (((l.length : Nat) : Int) ≤ 8) := by congr 1; simp; omega
    unfold recB
    dsimp only
    rw [e1, e2]
  rw [hrec]
  have c1 := fun W => rwithin_ok p 1 10000 W
  have c2 := fun W => rwithin_ok (l.length : Nat) 1 8 W
  rw [t1] at c1
  rw [t2] at c2
  have H1 := Lib.hid c1
  have H2 := Lib.hid c2
  have hlen : y2 = true → 1 ≤ l.length ∧ l.length ≤ 8 := by
    intro e
    rw [e] at t2
    simp only [Bool.and_eq_true, decide_eq_true_eq] at t2
    omega
  have HLEN := Lib.hid hlen
  have HR := Lib.hid hR
  have HV := Lib.hid hv
  unfold recV
  have a0 := Below.alloc (Below.refl w.heap.size w) (Nat.le_refl _) (.cells #[.int .i64 p, .slice A l.length c] 37)
  have K0 := BlkIs.new w 37 #[.int .i64 p, .slice A l.length c]
  have p0 : (w.alloc (.cells #[.int .i64 p, .slice A l.length c] 37)).cell? ⟨w.heap.size, 0, none⟩ = some (.int .i64 p) := K0.cell 0
  have p1 : (w.alloc (.cells #[.int .i64 p, .slice A l.length c] 37)).cell? ⟨w.heap.size, 1, none⟩ = some (.slice A l.length c) := K0.cell 1
  have A0 := Lib.hid a0
  have KK := Lib.hid K0
  clear hrec t1 t2 c1 c2 hlen hR hv a0 K0
  go_enter Tryz.func48, Tryz.ntmps48
  go_wp2_with fail
  refine (H1.out _).mono ?_
  rintro e w1 ⟨rfl, rfl⟩
  cases y1
  · go_wp2_with fail
    go_ret
    exact ⟨rfl, A0.out⟩
  go_wp2_with fail
  refine (H2.out _).mono ?_
  rintro e w2 ⟨rfl, rfl⟩
  cases y2
  · go_wp2_with fail
    go_ret
    exact ⟨rfl, A0.out⟩
  obtain ⟨l1, l8⟩ := HLEN.out rfl
  go_wp2_with fail
  generalize w.alloc (.cells #[.int .i64 p, .slice A l.length c] 37) = w0 at *
  clear p0 p1 HLEN
  go_loopw [3] (fun iv wr => ∃ k : Nat, k ≤ l.length ∧ iv = .int .i64 k ∧ BlkIs wr w.heap.size 37 [.int .i64 p, .slice A l.length c] ∧ Hid (ascT l k = true) ∧ Below w.heap.size w wr) (fun iv _ => l.length - (intOf iv).toNat)
  case atStart => exact ⟨0, by omega, rfl, KK.out, Lib.hid rfl, A0.out⟩
  case round =>
    obtain ⟨k, hk, rfl, hL, HA, hb⟩ := hrel
    have p1 : wr.cell? ⟨w.heap.size, 1, none⟩ = some (.slice A l.length c) := hL.cell 1
    by_cases h1 : k < l.length
    · have t1 : decide (k < l.length) = true := by simpa using h1
      obtain ⟨x, hx⟩ : ∃ x, l[k]? = some x := ⟨_, List.getElem?_eq_getElem h1⟩
      obtain ⟨A', c', hv, hc, hj⟩ := HV.out
      injection hv with e1 e2 e3
      subst e1 e3
      obtain ⟨g, o, rfl, hg, hj⟩ := hj (by omega)
      have hJ := Lib.hid hj
      have hcell : ∀ (i : Nat) u, (chgCells x)[i]? = some u → wr.cell? ⟨g, o + k * 10 + i, none⟩ = some u := fun i u hu => (hb.cell (p := ⟨g, o + k * 10 + i, none⟩) hg).trans (hj k x hx i u hu)
      have c0 : wr.cell? ⟨g, o + k * 10, none⟩ = some (.int .i64 x.table) := hcell 0 _ rfl
      have c1 : wr.cell? ⟨g, o + k * 10 + 1, none⟩ = some (.int .i64 x.key) := hcell 1 _ rfl
      have c2 : wr.cell? ⟨g, o + k * 10 + 2, none⟩ = some (.bool x.had) := hcell 2 _ rfl
      have c3 : wr.cell? ⟨g, o + k * 10 + 3, none⟩ = some (.int .i64 x.old.1) := hcell 3 _ rfl
      have c4 : wr.cell? ⟨g, o + k * 10 + 4, none⟩ = some (.int .i64 x.old.2.1) := hcell 4 _ rfl
      have c5 : wr.cell? ⟨g, o + k * 10 + 5, none⟩ = some (.int .i64 x.old.2.2) := hcell 5 _ rfl
      have c6 : wr.cell? ⟨g, o + k * 10 + 6, none⟩ = some (.bool x.has) := hcell 6 _ rfl
      have c7 : wr.cell? ⟨g, o + k * 10 + 7, none⟩ = some (.int .i64 x.new.1) := hcell 7 _ rfl
      have c8 : wr.cell? ⟨g, o + k * 10 + 8, none⟩ = some (.int .i64 x.new.2.1) := hcell 8 _ rfl
      have c9 : wr.cell? ⟨g, o + k * 10 + 9, none⟩ = some (.int .i64 x.new.2.2) := hcell 9 _ rfl
      have q0 : (0 : Int) ≤ (k : Int) := by omega
      have q1 : (k : Int) < (l.length : Int) := by omega
      have a1 := Below.alloc (Below.refl wr.heap.size wr) (Nat.le_refl _) (.cells #[.int .i64 x.table, .int .i64 x.key, .bool x.had, .int .i64 x.old.1, .int .i64 x.old.2.1, .int .i64 x.old.2.2, .bool x.has, .int .i64 x.new.1, .int .i64 x.new.2.1, .int .i64 x.new.2.2] 65)
      have K1 := BlkIs.new wr 65 #[.int .i64 x.table, .int .i64 x.key, .bool x.had, .int .i64 x.old.1, .int .i64 x.old.2.1, .int .i64 x.old.2.2, .bool x.has, .int .i64 x.new.1, .int .i64 x.new.2.1, .int .i64 x.new.2.2]
      have K0 := hL.later a1
      have d0 : (wr.alloc (.cells #[.int .i64 x.table, .int .i64 x.key, .bool x.had, .int .i64 x.old.1, .int .i64 x.old.2.1, .int .i64 x.old.2.2, .bool x.has, .int .i64 x.new.1, .int .i64 x.new.2.1, .int .i64 x.new.2.2] 65)).cell? ⟨wr.heap.size, 0, none⟩ = some (.int .i64 x.table) := K1.cell 0
      have d1 : (wr.alloc (.cells #[.int .i64 x.table, .int .i64 x.key, .bool x.had, .int .i64 x.old.1, .int .i64 x.old.2.1, .int .i64 x.old.2.2, .bool x.has, .int .i64 x.new.1, .int .i64 x.new.2.1, .int .i64 x.new.2.2] 65)).cell? ⟨wr.heap.size, 1, none⟩ = some (.int .i64 x.key) := K1.cell 1
      have d2 : (wr.alloc (.cells #[.int .i64 x.table, .int .i64 x.key, .bool x.had, .int .i64 x.old.1, .int .i64 x.old.2.1, .int .i64 x.old.2.2, .bool x.has, .int .i64 x.new.1, .int .i64 x.new.2.1, .int .i64 x.new.2.2] 65)).cell? ⟨wr.heap.size, 2, none⟩ = some (.bool x.had) := K1.cell 2
      have d3 : (wr.alloc (.cells #[.int .i64 x.table, .int .i64 x.key, .bool x.had, .int .i64 x.old.1, .int .i64 x.old.2.1, .int .i64 x.old.2.2, .bool x.has, .int .i64 x.new.1, .int .i64 x.new.2.1, .int .i64 x.new.2.2] 65)).cell? ⟨wr.heap.size, 3, none⟩ = some (.int .i64 x.old.1) := K1.cell 3
      have d4 : (wr.alloc (.cells #[.int .i64 x.table, .int .i64 x.key, .bool x.had, .int .i64 x.old.1, .int .i64 x.old.2.1, .int .i64 x.old.2.2, .bool x.has, .int .i64 x.new.1, .int .i64 x.new.2.1, .int .i64 x.new.2.2] 65)).cell? ⟨wr.heap.size, 4, none⟩ = some (.int .i64 x.old.2.1) := K1.cell 4
      have d5 : (wr.alloc (.cells #[.int .i64 x.table, .int .i64 x.key, .bool x.had, .int .i64 x.old.1, .int .i64 x.old.2.1, .int .i64 x.old.2.2, .bool x.has, .int .i64 x.new.1, .int .i64 x.new.2.1, .int .i64 x.new.2.2] 65)).cell? ⟨wr.heap.size, 5, none⟩ = some (.int .i64 x.old.2.2) := K1.cell 5
      have d6 : (wr.alloc (.cells #[.int .i64 x.table, .int .i64 x.key, .bool x.had, .int .i64 x.old.1, .int .i64 x.old.2.1, .int .i64 x.old.2.2, .bool x.has, .int .i64 x.new.1, .int .i64 x.new.2.1, .int .i64 x.new.2.2] 65)).cell? ⟨wr.heap.size, 6, none⟩ = some (.bool x.has) := K1.cell 6
      have d7 : (wr.alloc (.cells #[.int .i64 x.table, .int .i64 x.key, .bool x.had, .int .i64 x.old.1, .int .i64 x.old.2.1, .int .i64 x.old.2.2, .bool x.has, .int .i64 x.new.1, .int .i64 x.new.2.1, .int .i64 x.new.2.2] 65)).cell? ⟨wr.heap.size, 7, none⟩ = some (.int .i64 x.new.1) := K1.cell 7
      have d8 : (wr.alloc (.cells #[.int .i64 x.table, .int .i64 x.key, .bool x.had, .int .i64 x.old.1, .int .i64 x.old.2.1, .int .i64 x.old.2.2, .bool x.has, .int .i64 x.new.1, .int .i64 x.new.2.1, .int .i64 x.new.2.2] 65)).cell? ⟨wr.heap.size, 8, none⟩ = some (.int .i64 x.new.2.1) := K1.cell 8
      have d9 : (wr.alloc (.cells #[.int .i64 x.table, .int .i64 x.key, .bool x.had, .int .i64 x.old.1, .int .i64 x.old.2.1, .int .i64 x.old.2.2, .bool x.has, .int .i64 x.new.1, .int .i64 x.new.2.1, .int .i64 x.new.2.2] 65)).cell? ⟨wr.heap.size, 9, none⟩ = some (.int .i64 x.new.2.2) := K1.cell 9
      have p2 : (wr.alloc (.cells #[.int .i64 x.table, .int .i64 x.key, .bool x.had, .int .i64 x.old.1, .int .i64 x.old.2.1, .int .i64 x.old.2.2, .bool x.has, .int .i64 x.new.1, .int .i64 x.new.2.1, .int .i64 x.new.2.2] 65)).cell? ⟨w.heap.size, 1, none⟩ = some (.slice (some ⟨g, o, none⟩) l.length c) := K0.cell 1
      have HX := Lib.hid hx
      have HK1 := Lib.hid K1
      have HK0 := Lib.hid K0
      have HB1 := Lib.hid (Below.next hb a1)
      clear hcell hj hx K1 K0 a1 hL hb
      go_wp2_with fail
      generalize wr.alloc (.cells #[.int .i64 x.table, .int .i64 x.key, .bool x.had, .int .i64 x.old.1, .int .i64 x.old.2.1, .int .i64 x.old.2.2, .bool x.has, .int .i64 x.new.1, .int .i64 x.new.2.1, .int .i64 x.new.2.2] 65) = w4 at *
      refine (rchg_ok x _).mono ?_
      rintro e w5 ⟨rfl, b5⟩
      have K1 := HK1.out.later b5
      have K0 := HK0.out.later b5
      have hb5 := Below.next HB1.out b5
      clear c0 c1 c2 c3 c4 c5 c6 c7 c8 c9 d0 d1 d2 d3 d4 d5 d6 d7 d8 d9 p2 p1
      obtain ⟨r1, hr1⟩ : ∃ y, chgB x = y := ⟨_, rfl⟩
      rw [hr1]
      cases r1
      · have hRf : R = false := by
          rw [HR.out]
          refine ascT_fails (k := k + 1) ?_
          match k, HX.out with
          | 0, hx => rw [ascT_first hx, hr1]
          | k + 1, hx =>
            obtain ⟨pc, hpc⟩ : ∃ y, l[k]? = some y := ⟨_, List.getElem?_eq_getElem (by omega)⟩
            rw [ascT_next hpc hx, hr1]
            simp
        subst hRf
        clear hr1
        go_wp2_with fail
        go_ret
        exact ⟨rfl, hb5⟩
      have HR1 := Lib.hid hr1
      clear hr1
      cases k with
      | zero =>
        go_wp2_with fail
        exact ⟨⟨1, by omega, by go_num, K0, Lib.hid (by rw [ascT_first HX.out]; exact HR1.out), hb5⟩, by simp [intOf]; omega⟩
      | succ k =>
        obtain ⟨y, hy⟩ : ∃ y, l[k]? = some y := ⟨_, List.getElem?_eq_getElem (by omega)⟩
        have hnx := ascT_next hy HX.out
        rw [HA.out, HR1.out, Bool.true_and, Bool.true_and] at hnx
        have hcell : ∀ (i : Nat) u, (chgCells y)[i]? = some u → w5.cell? ⟨g, o + k * 10 + i, none⟩ = some u := fun i u hu => (hb5.cell (p := ⟨g, o + k * 10 + i, none⟩) hg).trans (hJ.out k y hy i u hu)
        have c0 : w5.cell? ⟨g, o + k * 10, none⟩ = some (.int .i64 y.table) := hcell 0 _ rfl
        have c1 : w5.cell? ⟨g, o + k * 10 + 1, none⟩ = some (.int .i64 y.key) := hcell 1 _ rfl
        have c2 : w5.cell? ⟨g, o + k * 10 + 2, none⟩ = some (.bool y.had) := hcell 2 _ rfl
        have c3 : w5.cell? ⟨g, o + k * 10 + 3, none⟩ = some (.int .i64 y.old.1) := hcell 3 _ rfl
        have c4 : w5.cell? ⟨g, o + k * 10 + 4, none⟩ = some (.int .i64 y.old.2.1) := hcell 4 _ rfl
        have c5 : w5.cell? ⟨g, o + k * 10 + 5, none⟩ = some (.int .i64 y.old.2.2) := hcell 5 _ rfl
        have c6 : w5.cell? ⟨g, o + k * 10 + 6, none⟩ = some (.bool y.has) := hcell 6 _ rfl
        have c7 : w5.cell? ⟨g, o + k * 10 + 7, none⟩ = some (.int .i64 y.new.1) := hcell 7 _ rfl
        have c8 : w5.cell? ⟨g, o + k * 10 + 8, none⟩ = some (.int .i64 y.new.2.1) := hcell 8 _ rfl
        have c9 : w5.cell? ⟨g, o + k * 10 + 9, none⟩ = some (.int .i64 y.new.2.2) := hcell 9 _ rfl
        have p1 : w5.cell? ⟨w.heap.size, 1, none⟩ = some (.slice (some ⟨g, o, none⟩) l.length c) := K0.cell 1
        have s0 : (0 : Int) ≤ (k : Int) := by omega
        have s1 : (k : Int) < (l.length : Int) := by omega
        have s2 : decide ((0 : Int) < ((k + 1 : Nat) : Int)) = true := by simp only [decide_eq_true_eq]; omega
        have s3 : IntKind.i64.wrap (((k + 1 : Nat) : Int) - 1) = (k : Int) := by
          rw [show ((k + 1 : Nat) : Int) - 1 = (k : Int) by omega]
          rw [IntKind.wrap_i64]; omega
        have a2 := Below.alloc (Below.refl w5.heap.size w5) (Nat.le_refl _) (.cells #[.int .i64 y.table, .int .i64 y.key, .bool y.had, .int .i64 y.old.1, .int .i64 y.old.2.1, .int .i64 y.old.2.2, .bool y.has, .int .i64 y.new.1, .int .i64 y.new.2.1, .int .i64 y.new.2.2] 65)
        have K2 := BlkIs.new w5 65 #[.int .i64 y.table, .int .i64 y.key, .bool y.had, .int .i64 y.old.1, .int .i64 y.old.2.1, .int .i64 y.old.2.2, .bool y.has, .int .i64 y.new.1, .int .i64 y.new.2.1, .int .i64 y.new.2.2]
        have K1' := K1.later a2
        have K0' := K0.later a2
        have hb6 := Below.next hb5 a2
        have d0 : (w5.alloc (.cells #[.int .i64 y.table, .int .i64 y.key, .bool y.had, .int .i64 y.old.1, .int .i64 y.old.2.1, .int .i64 y.old.2.2, .bool y.has, .int .i64 y.new.1, .int .i64 y.new.2.1, .int .i64 y.new.2.2] 65)).cell? ⟨wr.heap.size, 0, none⟩ = some (.int .i64 x.table) := K1'.cell 0
        have d1 : (w5.alloc (.cells #[.int .i64 y.table, .int .i64 y.key, .bool y.had, .int .i64 y.old.1, .int .i64 y.old.2.1, .int .i64 y.old.2.2, .bool y.has, .int .i64 y.new.1, .int .i64 y.new.2.1, .int .i64 y.new.2.2] 65)).cell? ⟨wr.heap.size, 1, none⟩ = some (.int .i64 x.key) := K1'.cell 1
        have d2 : (w5.alloc (.cells #[.int .i64 y.table, .int .i64 y.key, .bool y.had, .int .i64 y.old.1, .int .i64 y.old.2.1, .int .i64 y.old.2.2, .bool y.has, .int .i64 y.new.1, .int .i64 y.new.2.1, .int .i64 y.new.2.2] 65)).cell? ⟨wr.heap.size, 2, none⟩ = some (.bool x.had) := K1'.cell 2
        have d3 : (w5.alloc (.cells #[.int .i64 y.table, .int .i64 y.key, .bool y.had, .int .i64 y.old.1, .int .i64 y.old.2.1, .int .i64 y.old.2.2, .bool y.has, .int .i64 y.new.1, .int .i64 y.new.2.1, .int .i64 y.new.2.2] 65)).cell? ⟨wr.heap.size, 3, none⟩ = some (.int .i64 x.old.1) := K1'.cell 3
        have d4 : (w5.alloc (.cells #[.int .i64 y.table, .int .i64 y.key, .bool y.had, .int .i64 y.old.1, .int .i64 y.old.2.1, .int .i64 y.old.2.2, .bool y.has, .int .i64 y.new.1, .int .i64 y.new.2.1, .int .i64 y.new.2.2] 65)).cell? ⟨wr.heap.size, 4, none⟩ = some (.int .i64 x.old.2.1) := K1'.cell 4
        have d5 : (w5.alloc (.cells #[.int .i64 y.table, .int .i64 y.key, .bool y.had, .int .i64 y.old.1, .int .i64 y.old.2.1, .int .i64 y.old.2.2, .bool y.has, .int .i64 y.new.1, .int .i64 y.new.2.1, .int .i64 y.new.2.2] 65)).cell? ⟨wr.heap.size, 5, none⟩ = some (.int .i64 x.old.2.2) := K1'.cell 5
        have d6 : (w5.alloc (.cells #[.int .i64 y.table, .int .i64 y.key, .bool y.had, .int .i64 y.old.1, .int .i64 y.old.2.1, .int .i64 y.old.2.2, .bool y.has, .int .i64 y.new.1, .int .i64 y.new.2.1, .int .i64 y.new.2.2] 65)).cell? ⟨wr.heap.size, 6, none⟩ = some (.bool x.has) := K1'.cell 6
        have d7 : (w5.alloc (.cells #[.int .i64 y.table, .int .i64 y.key, .bool y.had, .int .i64 y.old.1, .int .i64 y.old.2.1, .int .i64 y.old.2.2, .bool y.has, .int .i64 y.new.1, .int .i64 y.new.2.1, .int .i64 y.new.2.2] 65)).cell? ⟨wr.heap.size, 7, none⟩ = some (.int .i64 x.new.1) := K1'.cell 7
        have d8 : (w5.alloc (.cells #[.int .i64 y.table, .int .i64 y.key, .bool y.had, .int .i64 y.old.1, .int .i64 y.old.2.1, .int .i64 y.old.2.2, .bool y.has, .int .i64 y.new.1, .int .i64 y.new.2.1, .int .i64 y.new.2.2] 65)).cell? ⟨wr.heap.size, 8, none⟩ = some (.int .i64 x.new.2.1) := K1'.cell 8
        have d9 : (w5.alloc (.cells #[.int .i64 y.table, .int .i64 y.key, .bool y.had, .int .i64 y.old.1, .int .i64 y.old.2.1, .int .i64 y.old.2.2, .bool y.has, .int .i64 y.new.1, .int .i64 y.new.2.1, .int .i64 y.new.2.2] 65)).cell? ⟨wr.heap.size, 9, none⟩ = some (.int .i64 x.new.2.2) := K1'.cell 9
        have e0 : (w5.alloc (.cells #[.int .i64 y.table, .int .i64 y.key, .bool y.had, .int .i64 y.old.1, .int .i64 y.old.2.1, .int .i64 y.old.2.2, .bool y.has, .int .i64 y.new.1, .int .i64 y.new.2.1, .int .i64 y.new.2.2] 65)).cell? ⟨w5.heap.size, 0, none⟩ = some (.int .i64 y.table) := K2.cell 0
        have e1 : (w5.alloc (.cells #[.int .i64 y.table, .int .i64 y.key, .bool y.had, .int .i64 y.old.1, .int .i64 y.old.2.1, .int .i64 y.old.2.2, .bool y.has, .int .i64 y.new.1, .int .i64 y.new.2.1, .int .i64 y.new.2.2] 65)).cell? ⟨w5.heap.size, 1, none⟩ = some (.int .i64 y.key) := K2.cell 1
        have e2 : (w5.alloc (.cells #[.int .i64 y.table, .int .i64 y.key, .bool y.had, .int .i64 y.old.1, .int .i64 y.old.2.1, .int .i64 y.old.2.2, .bool y.has, .int .i64 y.new.1, .int .i64 y.new.2.1, .int .i64 y.new.2.2] 65)).cell? ⟨w5.heap.size, 2, none⟩ = some (.bool y.had) := K2.cell 2
        have e3 : (w5.alloc (.cells #[.int .i64 y.table, .int .i64 y.key, .bool y.had, .int .i64 y.old.1, .int .i64 y.old.2.1, .int .i64 y.old.2.2, .bool y.has, .int .i64 y.new.1, .int .i64 y.new.2.1, .int .i64 y.new.2.2] 65)).cell? ⟨w5.heap.size, 3, none⟩ = some (.int .i64 y.old.1) := K2.cell 3
        have e4 : (w5.alloc (.cells #[.int .i64 y.table, .int .i64 y.key, .bool y.had, .int .i64 y.old.1, .int .i64 y.old.2.1, .int .i64 y.old.2.2, .bool y.has, .int .i64 y.new.1, .int .i64 y.new.2.1, .int .i64 y.new.2.2] 65)).cell? ⟨w5.heap.size, 4, none⟩ = some (.int .i64 y.old.2.1) := K2.cell 4
        have e5 : (w5.alloc (.cells #[.int .i64 y.table, .int .i64 y.key, .bool y.had, .int .i64 y.old.1, .int .i64 y.old.2.1, .int .i64 y.old.2.2, .bool y.has, .int .i64 y.new.1, .int .i64 y.new.2.1, .int .i64 y.new.2.2] 65)).cell? ⟨w5.heap.size, 5, none⟩ = some (.int .i64 y.old.2.2) := K2.cell 5
        have e6 : (w5.alloc (.cells #[.int .i64 y.table, .int .i64 y.key, .bool y.had, .int .i64 y.old.1, .int .i64 y.old.2.1, .int .i64 y.old.2.2, .bool y.has, .int .i64 y.new.1, .int .i64 y.new.2.1, .int .i64 y.new.2.2] 65)).cell? ⟨w5.heap.size, 6, none⟩ = some (.bool y.has) := K2.cell 6
        have e7 : (w5.alloc (.cells #[.int .i64 y.table, .int .i64 y.key, .bool y.had, .int .i64 y.old.1, .int .i64 y.old.2.1, .int .i64 y.old.2.2, .bool y.has, .int .i64 y.new.1, .int .i64 y.new.2.1, .int .i64 y.new.2.2] 65)).cell? ⟨w5.heap.size, 7, none⟩ = some (.int .i64 y.new.1) := K2.cell 7
        have e8 : (w5.alloc (.cells #[.int .i64 y.table, .int .i64 y.key, .bool y.had, .int .i64 y.old.1, .int .i64 y.old.2.1, .int .i64 y.old.2.2, .bool y.has, .int .i64 y.new.1, .int .i64 y.new.2.1, .int .i64 y.new.2.2] 65)).cell? ⟨w5.heap.size, 8, none⟩ = some (.int .i64 y.new.2.1) := K2.cell 8
        have e9 : (w5.alloc (.cells #[.int .i64 y.table, .int .i64 y.key, .bool y.had, .int .i64 y.old.1, .int .i64 y.old.2.1, .int .i64 y.old.2.2, .bool y.has, .int .i64 y.new.1, .int .i64 y.new.2.1, .int .i64 y.new.2.2] 65)).cell? ⟨w5.heap.size, 9, none⟩ = some (.int .i64 y.new.2.2) := K2.cell 9
        obtain ⟨y3, t3⟩ : ∃ z, decide (x.table < y.table) = z := ⟨_, rfl⟩
        obtain ⟨y4, t4⟩ : ∃ z, decide (x.table = y.table) = z := ⟨_, rfl⟩
        obtain ⟨y5, t5⟩ : ∃ z, decide (x.key ≤ y.key) = z := ⟨_, rfl⟩
        have t6 : (y.table == x.table) = y4 := by
          rw [← t4]
          by_cases h : x.table = y.table
          · rw [decide_eq_true h, h]; simp
          · rw [decide_eq_false h]; simpa using fun e => h e.symm
        rw [t3, t4, t5] at hnx
        have HNX := Lib.hid hnx
        have HK0 := Lib.hid K0'
        have HB6 := Lib.hid hb6
        clear hnx hcell hy K1 K0 K2 K1' K0' a2 hb5 hb6 t4 b5
        have hfail : ascT l (k + 2) = false → R = false := fun e => by rw [HR.out]; exact ascT_fails e
        have HFAIL := Lib.hid hfail
        clear hfail
        cases y3
        case true =>
          have hRf : R = false := HFAIL.out (by rw [HNX.out]; rfl)
          subst hRf
          go_wp2_with fail
          go_ret
          exact ⟨rfl, HB6.out⟩
        cases y4
        case false =>
          go_wp2_with fail
          exact ⟨⟨k + 2, by omega, by go_num, HK0.out, Lib.hid (by rw [HNX.out]; rfl), HB6.out⟩, by simp [intOf]; omega⟩
        cases y5
        case true =>
          have hRf : R = false := HFAIL.out (by rw [HNX.out]; rfl)
          subst hRf
          go_wp2_with fail
          go_ret
          exact ⟨rfl, HB6.out⟩
        go_wp2_with fail
        exact ⟨⟨k + 2, by omega, by go_num, HK0.out, Lib.hid (by rw [HNX.out]; rfl), HB6.out⟩, by simp [intOf]; omega⟩
    · have t1 : decide (k < l.length) = false := by simpa using h1
      have hr : R = true := by
        rw [HR.out, ← ascT_all (Nat.not_lt.1 h1)]
        exact HA.out
      subst hr
      go_wp2_with fail
      go_ret
      exact ⟨rfl, hb⟩
end Go.Proofs.YtgbemgndbemllaaGreatDoor
