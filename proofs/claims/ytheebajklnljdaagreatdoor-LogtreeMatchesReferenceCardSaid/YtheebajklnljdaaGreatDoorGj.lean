/- Joined: R3B RowH RowI. -/
import Derived.Test.YtheebajklnljdaaGreatDoorQR3A
import Derived.Test.YtheebajklnljdaaGreatDoorGi
import Derived.Test.YtheebajklnljdaaGreatDoorGh

section
/- The reference's ValidRecord (written by wip/mk_r3b.py). -/
namespace Go.Proofs.YtheebajklnljdaaGreatDoor
open Go Go.RowKit
attribute [local go_sem] Oper.semAt_some

/-- the first k changes stand in order and are valid -/
def ascT (l : List Chg) (k : Nat) : Bool := ascB (-1) 0 (l.take k)
theorem chgB_pos {c : Chg} (h : chgB c = true) : 0 ≤ c.table ∧ 1 ≤ c.key := by
  unfold chgB soundB rowB at h
  obtain ⟨t, k, had, old, has, new⟩ := c
  dsimp only at h ⊢
  cases had <;> cases has <;> simp [Bool.and_eq_true, decide_eq_true_eq] at h <;> omega
theorem ascB_snoc (t k : Int) (a : List Chg) (p c : Chg) : ascB t k (a ++ [p] ++ [c]) = (ascB t k (a ++ [p]) && (chgB c && !(decide (c.table < p.table) || decide (c.table = p.table) && decide (c.key ≤ p.key)))) := by
  rw [List.append_assoc]
  show ascB t k (a ++ p :: [c]) = _
  rw [ascB_append]
  simp [ascB]
theorem ascB_prefix (t k : Int) : ∀ (a b : List Chg), ascB t k (a ++ b) = true → ascB t k a = true
  | [], _, _ => rfl
  | c :: a, b, h => by
    rw [List.cons_append, ascB_step] at h
    rw [ascB_step]
    simp only [Bool.and_eq_true] at h ⊢
    exact ⟨h.1, ascB_prefix _ _ a b h.2⟩
theorem ascT_first {l : List Chg} {x : Chg} (h : l[0]? = some x) : ascT l 1 = chgB x := by
  obtain ⟨h1, h2⟩ := List.getElem?_eq_some_iff.1 h
  unfold ascT
  rw [List.take_add_one, List.take_zero, h]
  show ascB (-1) 0 [x] = chgB x
  rw [ascB_step]
  cases hc : chgB x with
  | false => rfl
  | true =>
    obtain ⟨p, _⟩ := chgB_pos hc
    have e1 : decide (x.table < -1) = false := by simp; omega
    have e2 : decide (x.table = -1) = false := by simp; omega
    rw [e1, e2]; rfl
theorem ascT_next {l : List Chg} {k : Nat} {p x : Chg} (hp : l[k]? = some p) (hx : l[k + 1]? = some x) : ascT l (k + 2) = (ascT l (k + 1) && (chgB x && !(decide (x.table < p.table) || decide (x.table = p.table) && decide (x.key ≤ p.key)))) := by
  unfold ascT
  rw [List.take_add_one (i := k + 1), hx, List.take_add_one (i := k), hp]
  exact ascB_snoc _ _ _ _ _
theorem ascT_all {l : List Chg} {k : Nat} (h : l.length ≤ k) : ascT l k = ascB (-1) 0 l := by unfold ascT; rw [List.take_of_length_le h]
theorem ascT_fails {l : List Chg} {k : Nat} (h : ascT l k = false) : ascB (-1) 0 l = false := by
  cases hc : ascB (-1) 0 l with
  | false => rfl
  | true =>
    rw [← List.take_append_drop k l] at hc
    have := ascB_prefix _ _ _ _ hc
    unfold ascT at h
    rw [h] at this; cases this

set_option maxRecDepth 100000 in
set_option maxHeartbeats 8000000 in
theorem rrec_ok (p : Int) (A : Option Addr) (c : Nat) (l : List Chg) (w : World) (hv : ChgsAt w (.slice A l.length c) l) :
    Calls Tryz.prog 59 #[recV p (.slice A l.length c)] w fun e w' => e = .returned (.bool (recB ⟨p, l⟩)) ∧ Below w.heap.size w w' := by
  obtain ⟨y1, t1⟩ : ∃ y, (decide (1 ≤ p) && decide (p ≤ 10000)) = y := ⟨_, rfl⟩
  obtain ⟨y2, t2⟩ : ∃ y, (decide ((1 : Int) ≤ (l.length : Nat)) && decide (((l.length : Nat) : Int) ≤ 8)) = y := ⟨_, rfl⟩
  obtain ⟨R, hR⟩ : ∃ R, R = ascB (-1) 0 l := ⟨_, rfl⟩
  have hrec : recB ⟨p, l⟩ = (y1 && y2 && R) := by
    rw [← t1, ← t2, hR]
    have e1 : decide (1 ≤ l.length) = decide ((1 : Int) ≤ (l.length : Nat)) := by congr 1; simp; omega
    have e2 : decide (l.length ≤ 8) = decide (((l.length : Nat) : Int) ≤ 8) := by congr 1; simp; omega
    unfold recB
    dsimp only
    rw [e1, e2]
  rw [hrec]
  have c1 := fun W => rwithin_ok p 1 10000 W
  have c2 := fun W => rwithin_ok (l.length : Nat) 1 8 W
  rw [t1] at c1
  rw [t2] at c2
  have H1 := Lib.hid c1
  have H2 := Lib.hid c2
  have hlen : y2 = true → 1 ≤ l.length ∧ l.length ≤ 8 := by
    intro e
    rw [e] at t2
    simp only [Bool.and_eq_true, decide_eq_true_eq] at t2
    omega
  have HLEN := Lib.hid hlen
  have HR := Lib.hid hR
  have HV := Lib.hid hv
  unfold recV
  have a0 := Below.alloc (Below.refl w.heap.size w) (Nat.le_refl _) (.cells #[.int .i64 p, .slice A l.length c] 35)
  have K0 := BlkIs.new w 35 #[.int .i64 p, .slice A l.length c]
  have p0 : (w.alloc (.cells #[.int .i64 p, .slice A l.length c] 35)).cell? ⟨w.heap.size, 0, none⟩ = some (.int .i64 p) := K0.cell 0
  have p1 : (w.alloc (.cells #[.int .i64 p, .slice A l.length c] 35)).cell? ⟨w.heap.size, 1, none⟩ = some (.slice A l.length c) := K0.cell 1
  have A0 := Lib.hid a0
  have KK := Lib.hid K0
  clear hrec t1 t2 c1 c2 hlen hR hv a0 K0
  go_enter Tryz.func59, Tryz.ntmps59
  go_wp2_with fail
  refine (H1.out _).mono ?_
  rintro e w1 ⟨rfl, rfl⟩
  cases y1
  · go_wp2_with fail
    go_ret
    exact ⟨rfl, A0.out⟩
  go_wp2_with fail
  refine (H2.out _).mono ?_
  rintro e w2 ⟨rfl, rfl⟩
  cases y2
  · go_wp2_with fail
    go_ret
    exact ⟨rfl, A0.out⟩
  obtain ⟨l1, l8⟩ := HLEN.out rfl
  go_wp2_with fail
  generalize w.alloc (.cells #[.int .i64 p, .slice A l.length c] 35) = w0 at *
  clear p0 p1 HLEN
  go_loopw [3] (fun iv wr => ∃ k : Nat, k ≤ l.length ∧ iv = .int .i64 k ∧ BlkIs wr w.heap.size 35 [.int .i64 p, .slice A l.length c] ∧ Hid (ascT l k = true) ∧ Below w.heap.size w wr) (fun iv _ => l.length - (intOf iv).toNat)
  case atStart => exact ⟨0, by omega, rfl, KK.out, Lib.hid rfl, A0.out⟩
  case round =>
    obtain ⟨k, hk, rfl, hL, HA, hb⟩ := hrel
    have p1 : wr.cell? ⟨w.heap.size, 1, none⟩ = some (.slice A l.length c) := hL.cell 1
    by_cases h1 : k < l.length
    · have t1 : decide (k < l.length) = true := by simpa using h1
      obtain ⟨x, hx⟩ : ∃ x, l[k]? = some x := ⟨_, List.getElem?_eq_getElem h1⟩
      obtain ⟨A', c', hv, hc, hj⟩ := HV.out
      injection hv with e1 e2 e3
      subst e1 e3
      obtain ⟨g, o, rfl, hg, hj⟩ := hj (by omega)
      have hJ := Lib.hid hj
      have hcell : ∀ (i : Nat) u, (chgCells x)[i]? = some u → wr.cell? ⟨g, o + k * 10 + i, none⟩ = some u := fun i u hu => (hb.cell (p := ⟨g, o + k * 10 + i, none⟩) hg).trans (hj k x hx i u hu)
      have c0 : wr.cell? ⟨g, o + k * 10, none⟩ = some (.int .i64 x.table) := hcell 0 _ rfl
      have c1 : wr.cell? ⟨g, o + k * 10 + 1, none⟩ = some (.int .i64 x.key) := hcell 1 _ rfl
      have c2 : wr.cell? ⟨g, o + k * 10 + 2, none⟩ = some (.bool x.had) := hcell 2 _ rfl
      have c3 : wr.cell? ⟨g, o + k * 10 + 3, none⟩ = some (.int .i64 x.old.1) := hcell 3 _ rfl
      have c4 : wr.cell? ⟨g, o + k * 10 + 4, none⟩ = some (.int .i64 x.old.2.1) := hcell 4 _ rfl
      have c5 : wr.cell? ⟨g, o + k * 10 + 5, none⟩ = some (.int .i64 x.old.2.2) := hcell 5 _ rfl
      have c6 : wr.cell? ⟨g, o + k * 10 + 6, none⟩ = some (.bool x.has) := hcell 6 _ rfl
      have c7 : wr.cell? ⟨g, o + k * 10 + 7, none⟩ = some (.int .i64 x.new.1) := hcell 7 _ rfl
      have c8 : wr.cell? ⟨g, o + k * 10 + 8, none⟩ = some (.int .i64 x.new.2.1) := hcell 8 _ rfl
      have c9 : wr.cell? ⟨g, o + k * 10 + 9, none⟩ = some (.int .i64 x.new.2.2) := hcell 9 _ rfl
      have q0 : (0 : Int) ≤ (k : Int) := by omega
      have q1 : (k : Int) < (l.length : Int) := by omega
      have a1 := Below.alloc (Below.refl wr.heap.size wr) (Nat.le_refl _) (.cells #[.int .i64 x.table, .int .i64 x.key, .bool x.had, .int .i64 x.old.1, .int .i64 x.old.2.1, .int .i64 x.old.2.2, .bool x.has, .int .i64 x.new.1, .int .i64 x.new.2.1, .int .i64 x.new.2.2] 72)
      have K1 := BlkIs.new wr 72 #[.int .i64 x.table, .int .i64 x.key, .bool x.had, .int .i64 x.old.1, .int .i64 x.old.2.1, .int .i64 x.old.2.2, .bool x.has, .int .i64 x.new.1, .int .i64 x.new.2.1, .int .i64 x.new.2.2]
      have K0 := hL.later a1
      have d0 : (wr.alloc (.cells #[.int .i64 x.table, .int .i64 x.key, .bool x.had, .int .i64 x.old.1, .int .i64 x.old.2.1, .int .i64 x.old.2.2, .bool x.has, .int .i64 x.new.1, .int .i64 x.new.2.1, .int .i64 x.new.2.2] 72)).cell? ⟨wr.heap.size, 0, none⟩ = some (.int .i64 x.table) := K1.cell 0
      have d1 : (wr.alloc (.cells #[.int .i64 x.table, .int .i64 x.key, .bool x.had, .int .i64 x.old.1, .int .i64 x.old.2.1, .int .i64 x.old.2.2, .bool x.has, .int .i64 x.new.1, .int .i64 x.new.2.1, .int .i64 x.new.2.2] 72)).cell? ⟨wr.heap.size, 1, none⟩ = some (.int .i64 x.key) := K1.cell 1
      have d2 : (wr.alloc (.cells #[.int .i64 x.table, .int .i64 x.key, .bool x.had, .int .i64 x.old.1, .int .i64 x.old.2.1, .int .i64 x.old.2.2, .bool x.has, .int .i64 x.new.1, .int .i64 x.new.2.1, .int .i64 x.new.2.2] 72)).cell? ⟨wr.heap.size, 2, none⟩ = some (.bool x.had) := K1.cell 2
      have d3 : (wr.alloc (.cells #[.int .i64 x.table, .int .i64 x.key, .bool x.had, .int .i64 x.old.1, .int .i64 x.old.2.1, .int .i64 x.old.2.2, .bool x.has, .int .i64 x.new.1, .int .i64 x.new.2.1, .int .i64 x.new.2.2] 72)).cell? ⟨wr.heap.size, 3, none⟩ = some (.int .i64 x.old.1) := K1.cell 3
      have d4 : (wr.alloc (.cells #[.int .i64 x.table, .int .i64 x.key, .bool x.had, .int .i64 x.old.1, .int .i64 x.old.2.1, .int .i64 x.old.2.2, .bool x.has, .int .i64 x.new.1, .int .i64 x.new.2.1, .int .i64 x.new.2.2] 72)).cell? ⟨wr.heap.size, 4, none⟩ = some (.int .i64 x.old.2.1) := K1.cell 4
      have d5 : (wr.alloc (.cells #[.int .i64 x.table, .int .i64 x.key, .bool x.had, .int .i64 x.old.1, .int .i64 x.old.2.1, .int .i64 x.old.2.2, .bool x.has, .int .i64 x.new.1, .int .i64 x.new.2.1, .int .i64 x.new.2.2] 72)).cell? ⟨wr.heap.size, 5, none⟩ = some (.int .i64 x.old.2.2) := K1.cell 5
      have d6 : (wr.alloc (.cells #[.int .i64 x.table, .int .i64 x.key, .bool x.had, .int .i64 x.old.1, .int .i64 x.old.2.1, .int .i64 x.old.2.2, .bool x.has, .int .i64 x.new.1, .int .i64 x.new.2.1, .int .i64 x.new.2.2] 72)).cell? ⟨wr.heap.size, 6, none⟩ = some (.bool x.has) := K1.cell 6
      have d7 : (wr.alloc (.cells #[.int .i64 x.table, .int .i64 x.key, .bool x.had, .int .i64 x.old.1, .int .i64 x.old.2.1, .int .i64 x.old.2.2, .bool x.has, .int .i64 x.new.1, .int .i64 x.new.2.1, .int .i64 x.new.2.2] 72)).cell? ⟨wr.heap.size, 7, none⟩ = some (.int .i64 x.new.1) := K1.cell 7
      have d8 : (wr.alloc (.cells #[.int .i64 x.table, .int .i64 x.key, .bool x.had, .int .i64 x.old.1, .int .i64 x.old.2.1, .int .i64 x.old.2.2, .bool x.has, .int .i64 x.new.1, .int .i64 x.new.2.1, .int .i64 x.new.2.2] 72)).cell? ⟨wr.heap.size, 8, none⟩ = some (.int .i64 x.new.2.1) := K1.cell 8
      have d9 : (wr.alloc (.cells #[.int .i64 x.table, .int .i64 x.key, .bool x.had, .int .i64 x.old.1, .int .i64 x.old.2.1, .int .i64 x.old.2.2, .bool x.has, .int .i64 x.new.1, .int .i64 x.new.2.1, .int .i64 x.new.2.2] 72)).cell? ⟨wr.heap.size, 9, none⟩ = some (.int .i64 x.new.2.2) := K1.cell 9
      have p2 : (wr.alloc (.cells #[.int .i64 x.table, .int .i64 x.key, .bool x.had, .int .i64 x.old.1, .int .i64 x.old.2.1, .int .i64 x.old.2.2, .bool x.has, .int .i64 x.new.1, .int .i64 x.new.2.1, .int .i64 x.new.2.2] 72)).cell? ⟨w.heap.size, 1, none⟩ = some (.slice (some ⟨g, o, none⟩) l.length c) := K0.cell 1
      have HX := Lib.hid hx
      have HK1 := Lib.hid K1
      have HK0 := Lib.hid K0
      have HB1 := Lib.hid (Below.next hb a1)
      clear hcell hj hx K1 K0 a1 hL hb
      go_wp2_with fail
      generalize wr.alloc (.cells #[.int .i64 x.table, .int .i64 x.key, .bool x.had, .int .i64 x.old.1, .int .i64 x.old.2.1, .int .i64 x.old.2.2, .bool x.has, .int .i64 x.new.1, .int .i64 x.new.2.1, .int .i64 x.new.2.2] 72) = w4 at *
      refine (rchg_ok x _).mono ?_
      rintro e w5 ⟨rfl, b5⟩
      have K1 := HK1.out.later b5
      have K0 := HK0.out.later b5
      have hb5 := Below.next HB1.out b5
      clear c0 c1 c2 c3 c4 c5 c6 c7 c8 c9 d0 d1 d2 d3 d4 d5 d6 d7 d8 d9 p2 p1
      obtain ⟨r1, hr1⟩ : ∃ y, chgB x = y := ⟨_, rfl⟩
      rw [hr1]
      cases r1
      · have hRf : R = false := by
          rw [HR.out]
          refine ascT_fails (k := k + 1) ?_
          match k, HX.out with
          | 0, hx => rw [ascT_first hx, hr1]
          | k + 1, hx =>
            obtain ⟨pc, hpc⟩ : ∃ y, l[k]? = some y := ⟨_, List.getElem?_eq_getElem (by omega)⟩
            rw [ascT_next hpc hx, hr1]
            simp
        subst hRf
        clear hr1
        go_wp2_with fail
        go_ret
        exact ⟨rfl, hb5⟩
      have HR1 := Lib.hid hr1
      clear hr1
      cases k with
      | zero =>
        go_wp2_with fail
        exact ⟨⟨1, by omega, by go_num, K0, Lib.hid (by rw [ascT_first HX.out]; exact HR1.out), hb5⟩, by simp [intOf]; omega⟩
      | succ k =>
        obtain ⟨y, hy⟩ : ∃ y, l[k]? = some y := ⟨_, List.getElem?_eq_getElem (by omega)⟩
        have hnx := ascT_next hy HX.out
        rw [HA.out, HR1.out, Bool.true_and, Bool.true_and] at hnx
        have hcell : ∀ (i : Nat) u, (chgCells y)[i]? = some u → w5.cell? ⟨g, o + k * 10 + i, none⟩ = some u := fun i u hu => (hb5.cell (p := ⟨g, o + k * 10 + i, none⟩) hg).trans (hJ.out k y hy i u hu)
        have c0 : w5.cell? ⟨g, o + k * 10, none⟩ = some (.int .i64 y.table) := hcell 0 _ rfl
        have c1 : w5.cell? ⟨g, o + k * 10 + 1, none⟩ = some (.int .i64 y.key) := hcell 1 _ rfl
        have c2 : w5.cell? ⟨g, o + k * 10 + 2, none⟩ = some (.bool y.had) := hcell 2 _ rfl
        have c3 : w5.cell? ⟨g, o + k * 10 + 3, none⟩ = some (.int .i64 y.old.1) := hcell 3 _ rfl
        have c4 : w5.cell? ⟨g, o + k * 10 + 4, none⟩ = some (.int .i64 y.old.2.1) := hcell 4 _ rfl
        have c5 : w5.cell? ⟨g, o + k * 10 + 5, none⟩ = some (.int .i64 y.old.2.2) := hcell 5 _ rfl
        have c6 : w5.cell? ⟨g, o + k * 10 + 6, none⟩ = some (.bool y.has) := hcell 6 _ rfl
        have c7 : w5.cell? ⟨g, o + k * 10 + 7, none⟩ = some (.int .i64 y.new.1) := hcell 7 _ rfl
        have c8 : w5.cell? ⟨g, o + k * 10 + 8, none⟩ = some (.int .i64 y.new.2.1) := hcell 8 _ rfl
        have c9 : w5.cell? ⟨g, o + k * 10 + 9, none⟩ = some (.int .i64 y.new.2.2) := hcell 9 _ rfl
        have p1 : w5.cell? ⟨w.heap.size, 1, none⟩ = some (.slice (some ⟨g, o, none⟩) l.length c) := K0.cell 1
        have s0 : (0 : Int) ≤ (k : Int) := by omega
        have s1 : (k : Int) < (l.length : Int) := by omega
        have s2 : decide ((0 : Int) < ((k + 1 : Nat) : Int)) = true := by simp only [decide_eq_true_eq]; omega
        have s3 : IntKind.i64.wrap (((k + 1 : Nat) : Int) - 1) = (k : Int) := by
          rw [show ((k + 1 : Nat) : Int) - 1 = (k : Int) by omega]
          rw [IntKind.wrap_i64]; omega
        have a2 := Below.alloc (Below.refl w5.heap.size w5) (Nat.le_refl _) (.cells #[.int .i64 y.table, .int .i64 y.key, .bool y.had, .int .i64 y.old.1, .int .i64 y.old.2.1, .int .i64 y.old.2.2, .bool y.has, .int .i64 y.new.1, .int .i64 y.new.2.1, .int .i64 y.new.2.2] 72)
        have K2 := BlkIs.new w5 72 #[.int .i64 y.table, .int .i64 y.key, .bool y.had, .int .i64 y.old.1, .int .i64 y.old.2.1, .int .i64 y.old.2.2, .bool y.has, .int .i64 y.new.1, .int .i64 y.new.2.1, .int .i64 y.new.2.2]
        have K1' := K1.later a2
        have K0' := K0.later a2
        have hb6 := Below.next hb5 a2
        have d0 : (w5.alloc (.cells #[.int .i64 y.table, .int .i64 y.key, .bool y.had, .int .i64 y.old.1, .int .i64 y.old.2.1, .int .i64 y.old.2.2, .bool y.has, .int .i64 y.new.1, .int .i64 y.new.2.1, .int .i64 y.new.2.2] 72)).cell? ⟨wr.heap.size, 0, none⟩ = some (.int .i64 x.table) := K1'.cell 0
        have d1 : (w5.alloc (.cells #[.int .i64 y.table, .int .i64 y.key, .bool y.had, .int .i64 y.old.1, .int .i64 y.old.2.1, .int .i64 y.old.2.2, .bool y.has, .int .i64 y.new.1, .int .i64 y.new.2.1, .int .i64 y.new.2.2] 72)).cell? ⟨wr.heap.size, 1, none⟩ = some (.int .i64 x.key) := K1'.cell 1
        have d2 : (w5.alloc (.cells #[.int .i64 y.table, .int .i64 y.key, .bool y.had, .int .i64 y.old.1, .int .i64 y.old.2.1, .int .i64 y.old.2.2, .bool y.has, .int .i64 y.new.1, .int .i64 y.new.2.1, .int .i64 y.new.2.2] 72)).cell? ⟨wr.heap.size, 2, none⟩ = some (.bool x.had) := K1'.cell 2
        have d3 : (w5.alloc (.cells #[.int .i64 y.table, .int .i64 y.key, .bool y.had, .int .i64 y.old.1, .int .i64 y.old.2.1, .int .i64 y.old.2.2, .bool y.has, .int .i64 y.new.1, .int .i64 y.new.2.1, .int .i64 y.new.2.2] 72)).cell? ⟨wr.heap.size, 3, none⟩ = some (.int .i64 x.old.1) := K1'.cell 3
        have d4 : (w5.alloc (.cells #[.int .i64 y.table, .int .i64 y.key, .bool y.had, .int .i64 y.old.1, .int .i64 y.old.2.1, .int .i64 y.old.2.2, .bool y.has, .int .i64 y.new.1, .int .i64 y.new.2.1, .int .i64 y.new.2.2] 72)).cell? ⟨wr.heap.size, 4, none⟩ = some (.int .i64 x.old.2.1) := K1'.cell 4
        have d5 : (w5.alloc (.cells #[.int .i64 y.table, .int .i64 y.key, .bool y.had, .int .i64 y.old.1, .int .i64 y.old.2.1, .int .i64 y.old.2.2, .bool y.has, .int .i64 y.new.1, .int .i64 y.new.2.1, .int .i64 y.new.2.2] 72)).cell? ⟨wr.heap.size, 5, none⟩ = some (.int .i64 x.old.2.2) := K1'.cell 5
        have d6 : (w5.alloc (.cells #[.int .i64 y.table, .int .i64 y.key, .bool y.had, .int .i64 y.old.1, .int .i64 y.old.2.1, .int .i64 y.old.2.2, .bool y.has, .int .i64 y.new.1, .int .i64 y.new.2.1, .int .i64 y.new.2.2] 72)).cell? ⟨wr.heap.size, 6, none⟩ = some (.bool x.has) := K1'.cell 6
        have d7 : (w5.alloc (.cells #[.int .i64 y.table, .int .i64 y.key, .bool y.had, .int .i64 y.old.1, .int .i64 y.old.2.1, .int .i64 y.old.2.2, .bool y.has, .int .i64 y.new.1, .int .i64 y.new.2.1, .int .i64 y.new.2.2] 72)).cell? ⟨wr.heap.size, 7, none⟩ = some (.int .i64 x.new.1) := K1'.cell 7
        have d8 : (w5.alloc (.cells #[.int .i64 y.table, .int .i64 y.key, .bool y.had, .int .i64 y.old.1, .int .i64 y.old.2.1, .int .i64 y.old.2.2, .bool y.has, .int .i64 y.new.1, .int .i64 y.new.2.1, .int .i64 y.new.2.2] 72)).cell? ⟨wr.heap.size, 8, none⟩ = some (.int .i64 x.new.2.1) := K1'.cell 8
        have d9 : (w5.alloc (.cells #[.int .i64 y.table, .int .i64 y.key, .bool y.had, .int .i64 y.old.1, .int .i64 y.old.2.1, .int .i64 y.old.2.2, .bool y.has, .int .i64 y.new.1, .int .i64 y.new.2.1, .int .i64 y.new.2.2] 72)).cell? ⟨wr.heap.size, 9, none⟩ = some (.int .i64 x.new.2.2) := K1'.cell 9
        have e0 : (w5.alloc (.cells #[.int .i64 y.table, .int .i64 y.key, .bool y.had, .int .i64 y.old.1, .int .i64 y.old.2.1, .int .i64 y.old.2.2, .bool y.has, .int .i64 y.new.1, .int .i64 y.new.2.1, .int .i64 y.new.2.2] 72)).cell? ⟨w5.heap.size, 0, none⟩ = some (.int .i64 y.table) := K2.cell 0
        have e1 : (w5.alloc (.cells #[.int .i64 y.table, .int .i64 y.key, .bool y.had, .int .i64 y.old.1, .int .i64 y.old.2.1, .int .i64 y.old.2.2, .bool y.has, .int .i64 y.new.1, .int .i64 y.new.2.1, .int .i64 y.new.2.2] 72)).cell? ⟨w5.heap.size, 1, none⟩ = some (.int .i64 y.key) := K2.cell 1
        have e2 : (w5.alloc (.cells #[.int .i64 y.table, .int .i64 y.key, .bool y.had, .int .i64 y.old.1, .int .i64 y.old.2.1, .int .i64 y.old.2.2, .bool y.has, .int .i64 y.new.1, .int .i64 y.new.2.1, .int .i64 y.new.2.2] 72)).cell? ⟨w5.heap.size, 2, none⟩ = some (.bool y.had) := K2.cell 2
        have e3 : (w5.alloc (.cells #[.int .i64 y.table, .int .i64 y.key, .bool y.had, .int .i64 y.old.1, .int .i64 y.old.2.1, .int .i64 y.old.2.2, .bool y.has, .int .i64 y.new.1, .int .i64 y.new.2.1, .int .i64 y.new.2.2] 72)).cell? ⟨w5.heap.size, 3, none⟩ = some (.int .i64 y.old.1) := K2.cell 3
        have e4 : (w5.alloc (.cells #[.int .i64 y.table, .int .i64 y.key, .bool y.had, .int .i64 y.old.1, .int .i64 y.old.2.1, .int .i64 y.old.2.2, .bool y.has, .int .i64 y.new.1, .int .i64 y.new.2.1, .int .i64 y.new.2.2] 72)).cell? ⟨w5.heap.size, 4, none⟩ = some (.int .i64 y.old.2.1) := K2.cell 4
        have e5 : (w5.alloc (.cells #[.int .i64 y.table, .int .i64 y.key, .bool y.had, .int .i64 y.old.1, .int .i64 y.old.2.1, .int .i64 y.old.2.2, .bool y.has, .int .i64 y.new.1, .int .i64 y.new.2.1, .int .i64 y.new.2.2] 72)).cell? ⟨w5.heap.size, 5, none⟩ = some (.int .i64 y.old.2.2) := K2.cell 5
        have e6 : (w5.alloc (.cells #[.int .i64 y.table, .int .i64 y.key, .bool y.had, .int .i64 y.old.1, .int .i64 y.old.2.1, .int .i64 y.old.2.2, .bool y.has, .int .i64 y.new.1, .int .i64 y.new.2.1, .int .i64 y.new.2.2] 72)).cell? ⟨w5.heap.size, 6, none⟩ = some (.bool y.has) := K2.cell 6
        have e7 : (w5.alloc (.cells #[.int .i64 y.table, .int .i64 y.key, .bool y.had, .int .i64 y.old.1, .int .i64 y.old.2.1, .int .i64 y.old.2.2, .bool y.has, .int .i64 y.new.1, .int .i64 y.new.2.1, .int .i64 y.new.2.2] 72)).cell? ⟨w5.heap.size, 7, none⟩ = some (.int .i64 y.new.1) := K2.cell 7
        have e8 : (w5.alloc (.cells #[.int .i64 y.table, .int .i64 y.key, .bool y.had, .int .i64 y.old.1, .int .i64 y.old.2.1, .int .i64 y.old.2.2, .bool y.has, .int .i64 y.new.1, .int .i64 y.new.2.1, .int .i64 y.new.2.2] 72)).cell? ⟨w5.heap.size, 8, none⟩ = some (.int .i64 y.new.2.1) := K2.cell 8
        have e9 : (w5.alloc (.cells #[.int .i64 y.table, .int .i64 y.key, .bool y.had, .int .i64 y.old.1, .int .i64 y.old.2.1, .int .i64 y.old.2.2, .bool y.has, .int .i64 y.new.1, .int .i64 y.new.2.1, .int .i64 y.new.2.2] 72)).cell? ⟨w5.heap.size, 9, none⟩ = some (.int .i64 y.new.2.2) := K2.cell 9
        obtain ⟨y3, t3⟩ : ∃ z, decide (x.table < y.table) = z := ⟨_, rfl⟩
        obtain ⟨y4, t4⟩ : ∃ z, decide (x.table = y.table) = z := ⟨_, rfl⟩
        obtain ⟨y5, t5⟩ : ∃ z, decide (x.key ≤ y.key) = z := ⟨_, rfl⟩
        have t6 : (y.table == x.table) = y4 := by
          rw [← t4]
          by_cases h : x.table = y.table
          · rw [decide_eq_true h, h]; simp
          · rw [decide_eq_false h]; simpa using fun e => h e.symm
        rw [t3, t4, t5] at hnx
        have HNX := Lib.hid hnx
        have HK0 := Lib.hid K0'
        have HB6 := Lib.hid hb6
        clear hnx hcell hy K1 K0 K2 K1' K0' a2 hb5 hb6 t4 b5
        have hfail : ascT l (k + 2) = false → R = false := fun e => by rw [HR.out]; exact ascT_fails e
        have HFAIL := Lib.hid hfail
        clear hfail
        cases y3
        case true =>
          have hRf : R = false := HFAIL.out (by rw [HNX.out]; rfl)
          subst hRf
          go_wp2_with fail
          go_ret
          exact ⟨rfl, HB6.out⟩
        cases y4
        case false =>
          go_wp2_with fail
          exact ⟨⟨k + 2, by omega, by go_num, HK0.out, Lib.hid (by rw [HNX.out]; rfl), HB6.out⟩, by simp [intOf]; omega⟩
        cases y5
        case true =>
          have hRf : R = false := HFAIL.out (by rw [HNX.out]; rfl)
          subst hRf
          go_wp2_with fail
          go_ret
          exact ⟨rfl, HB6.out⟩
        go_wp2_with fail
        exact ⟨⟨k + 2, by omega, by go_num, HK0.out, Lib.hid (by rw [HNX.out]; rfl), HB6.out⟩, by simp [intOf]; omega⟩
    · have t1 : decide (k < l.length) = false := by simpa using h1
      have hr : R = true := by
        rw [HR.out, ← ascT_all (Nat.not_lt.1 h1)]
        exact HA.out
      subst hr
      go_wp2_with fail
      go_ret
      exact ⟨rfl, hb⟩
end Go.Proofs.YtheebajklnljdaaGreatDoor
end

section
/- EncodeRecord: its plain laws. -/
namespace Go.Proofs.YtheebajklnljdaaGreatDoor
open Go Go.RowKit

/-- EncodeRecord -/
def encRecE (r : Rec) : List UInt8 × Int := if recB r then (encRec r, 0) else ([], 30)

theorem ascB_mem : ∀ {l : List Chg} {t k : Int}, ascB t k l = true → ∀ c ∈ l, chgB c = true
  | [], _, _, _, c, hc => by simp at hc
  | x :: l, t, k, h, c, hc => by
    rw [ascB_step] at h
    simp only [Bool.and_eq_true] at h
    rcases List.mem_cons.1 hc with rfl | hc
    · exact h.1.1
    · exact ascB_mem h.2 c hc
theorem recB_mem {r : Rec} (h : recB r = true) : ∀ c ∈ r.chs, chgB c = true := by
  unfold recB at h
  simp only [Bool.and_eq_true] at h
  exact ascB_mem h.2

theorem rowB_parts {t k : Int} {v : Int × Int × Int} (h : rowB t k v = true) : 0 ≤ t ∧ t ≤ 3 ∧ 1 ≤ k ∧ k ≤ 1000000 ∧ (∀ n ∈ tri v, -1000000000 ≤ n ∧ n ≤ 1000000000) := by
  unfold rowB valB at h
  simp only [Bool.and_eq_true, decide_eq_true_eq] at h
  obtain ⟨⟨⟨h1, h2⟩, h3, h4⟩, ⟨h5, h6⟩, h7⟩ := h
  refine ⟨h1, h2, h3, h4, fun n hn => ?_⟩
  unfold tri at hn
  simp only [List.mem_cons, List.not_mem_nil, or_false] at hn
  rcases hn with rfl | rfl | rfl
  · exact h5
  · exact h6
  · exact h7
theorem soundB_row {c : Chg} {v : Int × Int × Int} (h : soundB c true v = true) : rowB c.table c.key v = true := by
  unfold soundB at h
  simpa using h
theorem chgB_parts {c : Chg} (h : chgB c = true) : (c.had = true ∨ c.has = true) ∧ 0 ≤ c.table ∧ c.table ≤ 3 ∧ 1 ≤ c.key ∧ c.key ≤ 1000000 ∧ (∀ n ∈ valsC c, -1000000000 ≤ n ∧ n ≤ 1000000000) := by
  unfold chgB at h
  simp only [Bool.and_eq_true] at h
  obtain ⟨⟨h1, h2⟩, h3⟩ := h
  have hh : c.had = true ∨ c.has = true := by
    cases h4 : c.had <;> cases h5 : c.has
    · rw [h4, h5] at h1; simp at h1
    · exact .inr rfl
    · exact .inl rfl
    · exact .inl rfl
  have hr : (c.had = true → rowB c.table c.key c.old = true) ∧ (c.has = true → rowB c.table c.key c.new = true) :=
    ⟨fun e => by rw [e] at h2; exact soundB_row h2, fun e => by rw [e] at h3; exact soundB_row h3⟩
  have ht : 0 ≤ c.table ∧ c.table ≤ 3 ∧ 1 ≤ c.key ∧ c.key ≤ 1000000 := by
    rcases hh with e | e
    · obtain ⟨a, b, d, f, _⟩ := rowB_parts (hr.1 e); exact ⟨a, b, d, f⟩
    · obtain ⟨a, b, d, f, _⟩ := rowB_parts (hr.2 e); exact ⟨a, b, d, f⟩
  refine ⟨hh, ht.1, ht.2.1, ht.2.2.1, ht.2.2.2, fun n hn => ?_⟩
  unfold valsC at hn
  rcases List.mem_append.1 hn with hn | hn
  · split at hn
    · rename_i e
      exact (rowB_parts (hr.1 e)).2.2.2.2 n hn
    · simp at hn
  · split at hn
    · rename_i e
      exact (rowB_parts (hr.2 e)).2.2.2.2 n hn
    · simp at hn

theorem encChg_len (c : Chg) : (encChg c).length ≤ 81 := by
  unfold encChg
  rw [List.length_append]
  have h1 := putsL_len [c.table, c.key, flagsC c]
  have h2 := putsL_len (valsC c)
  have h3 : (valsC c).length ≤ 6 := by
    unfold valsC tri
    rw [List.length_append]
    split <;> split <;> simp
  simp only [List.length_cons, List.length_nil] at h1
  omega
theorem encs_len (l : List Chg) : (l.flatMap encChg).length ≤ 81 * l.length := by
  induction l with
  | nil => simp
  | cons c l ih =>
    rw [List.flatMap_cons, List.length_append, List.length_cons]
    have := encChg_len c
    omega
theorem encRec_len {r : Rec} (h : recB r = true) : (encRec r).length ≤ 1000 := by
  obtain ⟨_, _, _, h8⟩ := recB_pos h
  unfold encRec
  rw [List.length_append]
  have h1 := putsL_len [r.pos, (r.chs.length : Nat)]
  have h2 := encs_len r.chs
  simp only [List.length_cons, List.length_nil] at h1
  omega

/-- behind k changes -/
def encP (p : Int) (l : List Chg) (k : Nat) : List UInt8 := putsL [p, (l.length : Nat)] ++ (l.take k).flatMap encChg
theorem encP_len (p : Int) (l : List Chg) (k : Nat) (h : l.length ≤ 8) : (encP p l k).length ≤ 1000 := by
  unfold encP
  rw [List.length_append]
  have h1 := putsL_len [p, (l.length : Nat)]
  have h2 := encs_len (l.take k)
  rw [List.length_take] at h2
  simp only [List.length_cons, List.length_nil] at h1
  omega
theorem encP_zero (p : Int) (l : List Chg) : encP p l 0 = putsL [p, (l.length : Nat)] := by simp [encP]
theorem encP_succ (p : Int) (l : List Chg) (k : Nat) (x : Chg) (h : l[k]? = some x) : encP p l (k + 1) = encP p l k ++ encChg x := by
  unfold encP
  rw [List.take_add_one, h, List.flatMap_append, List.append_assoc]
  simp
theorem encP_all (p : Int) (l : List Chg) (k : Nat) (h : l.length ≤ k) : encP p l k = encRec ⟨p, l⟩ := by
  unfold encP encRec
  rw [List.take_of_length_le h]

/-- cells to be appended, in a block that is known whole -/
theorem blk_news {w : World} {g : Nat} {t : TypeId} {cs : List Value} (h : BlkIs w g t cs) (o : Nat) (news : List Value) (hn : (cs.drop o).take news.length = news) : ∀ (j : Nat) u, news[j]? = some u → w.cell? ((⟨g, o, none⟩ : Addr).add j) = some u := by
  intro j u hu
  rw [add_off, h.cell]
  rw [← hn, List.getElem?_take, List.getElem?_drop] at hu
  split at hu
  · exact hu
  · cases hu
/-- a row of numbers is read -/
theorem row_ints {w : World} {base gv n cap : Nat} (l : List Int) (own : w.ownsRow base 3 1 (.slice (some ⟨gv, 0, none⟩) n cap) n (l.map iv64)) : ∀ (j : Nat) y, l[j]? = some y → w.cell? ⟨gv, 0 + j, none⟩ = some (.int .i64 y) := by
  intro j y hy
  rw [Nat.zero_add]
  exact ownsRow_cell own j _ (by rw [List.getElem?_map, hy]; rfl)
theorem below_fresh {B : Nat} {a w w' : World} (h : Below B a w) (hB : B ≤ w.heap.size) {v : Value} (g : w.grownBy w' v.ownBlock) (hv : ∀ k, v.ownBlock = some k → B ≤ k) : Below B a w' :=
  h.trans ⟨g.os, g.tape, g.output, g.size, fun j hj => g.block j (by omega) fun e => by have := hv j e.symm; omega⟩
end Go.Proofs.YtheebajklnljdaaGreatDoor
end

section
/- EncodeRecord. -/
namespace Go.Proofs.YtheebajklnljdaaGreatDoor
open Go Go.RowKit
attribute [local go_sem] Oper.semAt_some

set_option maxRecDepth 100000 in
set_option maxHeartbeats 8000000 in
theorem enc_ok (p : Int) (A : Option Addr) (c : Nat) (l : List Chg) (w : World) (hv : ChgsAt w (.slice A l.length c) l) :
    Calls Tryz.prog 55 #[recV p (.slice A l.length c)] w fun e w' => e = .returned (.tuple #[.string (str (encRecE ⟨p, l⟩).1), .int .i64 (encRecE ⟨p, l⟩).2]) ∧ Below w.heap.size w w' := by
  obtain ⟨i0, hi0, hz0, hz1, hz2⟩ := info_int
  have hb1 := Below.alloc (Below.refl w.heap.size w) (Nat.le_refl _) (.cells #[.int .i64 p, .slice A l.length c] 35)
  have hval := recValid_ok p A c l _ (hv.below hb1)
  obtain ⟨R, hR⟩ : ∃ R, recB ⟨p, l⟩ = R := ⟨_, rfl⟩
  rw [hR] at hval
  have HVAL := Lib.hid hval
  have HV := Lib.hid hv
  have HB := Lib.hid hb1
  cases R
  · have he : encRecE ⟨p, l⟩ = ([], 30) := by unfold encRecE; rw [hR]; rfl
    rw [he]
    unfold recV
    unfold recV at HVAL
    clear hval hv hb1 hR he
    go_enter Tryz.func55, Tryz.ntmps55
    go_wp2_with fail
    refine (HVAL.out).mono ?_
    rintro e w1 ⟨rfl, b1⟩
    have hb2 := Below.next HB.out b1
    go_wp2_with fail
    go_ret2
    exact ⟨rfl, hb2⟩
  have he : encRecE ⟨p, l⟩ = (encRec ⟨p, l⟩, 0) := by unfold encRecE; rw [hR]; rfl
  obtain ⟨p1, p2, l1, l8⟩ := recB_pos hR
  dsimp only at p1 p2 l1 l8
  have hmem := recB_mem hR
  dsimp only at hmem
  have HMEM := Lib.hid hmem
  rw [he]
  unfold recV
  unfold recV at HVAL
  clear hval hv hb1 hR he hmem
  go_enter Tryz.func55, Tryz.ntmps55
  go_wp2_with fail
  refine (HVAL.out).mono ?_
  rintro e w1 ⟨rfl, b1⟩
  have h1 : BlkIs w1 w.heap.size 35 [.int .i64 p, .slice A l.length c] := (b1.block w.heap.size (by simp [World.size_alloc])).trans (World.alloc_heap_new w _)
  have c0 : w1.cell? ⟨w.heap.size, 0, none⟩ = some (.int .i64 p) := h1.cell 0
  have c1 : w1.cell? ⟨w.heap.size, 1, none⟩ = some (.slice A l.length c) := h1.cell 1
  have hb1 := Below.next HB.out b1
  have hle1 := hb1.size
  clear b1
  go_wp2_with fail
  refine (put_ok w1.heap.size 0 2 [p, ((l.length : Nat) : Int)] _ (by simp [World.size_alloc]) (by simp) ?_ ?_).mono ?_
  · intro n hn
    simp only [List.mem_cons, List.not_mem_nil, or_false] at hn
    rcases hn with rfl | rfl
    · exact ⟨by omega, by omega⟩
    · exact ⟨by omega, by omega⟩
  · intro j x hj
    match j, hj with
    | 0, hj => cases hj; rw [cell_of_row _ _ 0 _ _ _ (World.alloc_heap_new w1 _)]; rfl
    | 1, hj => cases hj; rw [cell_of_row _ _ 1 _ _ _ (World.alloc_heap_new w1 _)]; rfl
  rintro e w2 ⟨rfl, b2⟩
  have hlt1 := h1.lt
  have h2 : BlkIs w2 w.heap.size 35 [.int .i64 p, .slice A l.length c] := (b2.block w.heap.size (by rw [World.size_alloc]; omega)).trans ((Below.heap_alloc _ _ w.heap.size hlt1).trans h1)
  have d1 : w2.cell? ⟨w.heap.size, 1, none⟩ = some (.slice A l.length c) := h2.cell 1
  have hb2 := Below.next (Below.alloc hb1 hle1 _) b2
  clear b2 h1 c0 c1 hb1 h2
  rw [← encP_zero]
  go_wp2_with fail
  clear d1
  go_loopw [4, 22] (fun ov iv wr => ∃ k : Nat, k ≤ l.length ∧ iv = .int .i64 k ∧ ov = .string (str (encP p l k)) ∧ Below w.heap.size w wr) (fun _ iv _ => l.length - (intOf iv).toNat)
  case atStart => exact ⟨0, by omega, rfl, rfl, hb2⟩
  case round =>
    clear hb2
    obtain ⟨k, hk, rfl, rfl, hb⟩ := hrel
    by_cases h1 : k < l.length
    · have t1 : decide (k < l.length) = true := by simpa using h1
      obtain ⟨x, hx⟩ : ∃ x, l[k]? = some x := ⟨_, List.getElem?_eq_getElem h1⟩
      obtain ⟨A', c', hv, hc, hj⟩ := HV.out
      injection hv with e1 e2 e3
      subst e1 e3
      obtain ⟨g, o, rfl, hg, hj⟩ := hj (by omega)
      have hcell : ∀ (i : Nat) u, (chgCells x)[i]? = some u → wr.cell? ⟨g, o + k * 10 + i, none⟩ = some u := fun i u hu => (hb.cell (p := ⟨g, o + k * 10 + i, none⟩) hg).trans (hj k x hx i u hu)
      have hchg := HMEM.out x (List.mem_of_getElem? hx)
      obtain ⟨hh, v1, v2, v3, v4, v5⟩ := chgB_parts hchg
      have hP := encP_len p l k l8
      have hN := encP_succ p l k x hx
      have hxl := encChg_len x
      obtain ⟨P, hPe⟩ : ∃ P, P = encP p l k := ⟨_, rfl⟩
      rw [← hPe] at hP hN ⊢
      clear hPe hchg hj hx
      obtain ⟨t, ky, had, ⟨o0, o1, o2⟩, has, ⟨n0, n1, n2⟩⟩ := x
      dsimp only at hh v1 v2 v3 v4
      have hxe : encChg ⟨t, ky, had, (o0, o1, o2), has, (n0, n1, n2)⟩ = putsL [t, ky, flagsC ⟨t, ky, had, (o0, o1, o2), has, (n0, n1, n2)⟩] ++ putsL (valsC ⟨t, ky, had, (o0, o1, o2), has, (n0, n1, n2)⟩) := rfl
      have c0 : wr.cell? ⟨g, o + k * 10, none⟩ = some (.int .i64 t) := hcell 0 _ rfl
      have c1 : wr.cell? ⟨g, o + k * 10 + 1, none⟩ = some (.int .i64 ky) := hcell 1 _ rfl
      have c2 : wr.cell? ⟨g, o + k * 10 + 2, none⟩ = some (.bool had) := hcell 2 _ rfl
      have c3 : wr.cell? ⟨g, o + k * 10 + 3, none⟩ = some (.int .i64 o0) := hcell 3 _ rfl
      have c4 : wr.cell? ⟨g, o + k * 10 + 4, none⟩ = some (.int .i64 o1) := hcell 4 _ rfl
      have c5 : wr.cell? ⟨g, o + k * 10 + 5, none⟩ = some (.int .i64 o2) := hcell 5 _ rfl
      have c6 : wr.cell? ⟨g, o + k * 10 + 6, none⟩ = some (.bool has) := hcell 6 _ rfl
      have c7 : wr.cell? ⟨g, o + k * 10 + 7, none⟩ = some (.int .i64 n0) := hcell 7 _ rfl
      have c8 : wr.cell? ⟨g, o + k * 10 + 8, none⟩ = some (.int .i64 n1) := hcell 8 _ rfl
      have c9 : wr.cell? ⟨g, o + k * 10 + 9, none⟩ = some (.int .i64 n2) := hcell 9 _ rfl
      have q0 : (0 : Int) ≤ (k : Int) := by omega
      have q1 : (k : Int) < (l.length : Int) := by omega
      have hle := hb.size
      have hx0 := BlkIs.new wr 72 #[.int .i64 t, .int .i64 ky, .bool had, .int .i64 o0, .int .i64 o1, .int .i64 o2, .bool has, .int .i64 n0, .int .i64 n1, .int .i64 n2]
      dsimp only at hx0
      have hb0 := Below.alloc hb hle (.cells #[.int .i64 t, .int .i64 ky, .bool had, .int .i64 o0, .int .i64 o1, .int .i64 o2, .bool has, .int .i64 n0, .int .i64 n1, .int .i64 n2] 72)
      have hle0 := hb0.size
      have HN := Lib.hid hN
      have HXE := Lib.hid hxe
      have HV5 := Lib.hid v5
      clear hcell hN hxe v5
      cases had <;> cases has
      · simp at hh
      · go_wp2_with (at_builtin; refine wpList_append_own _ rfl _ _ 44 rfl w.heap.size 3 i0 (.int .i64 0) 1 8 Tryz.underlying44 hi0 hz0 hz1 hz2 rfl (by decide) (.slice none 0 0) 0 [] rfl (World.ownsRow_nil _ _ _ 1) ⟨wr.heap.size, 7, none⟩ 3 3 [.int .i64 n0, .int .i64 n1, .int .i64 n2] rfl rfl (blk_news hx0 7 [.int .i64 n0, .int .i64 n1, .int .i64 n2] rfl) (by simp [Value.oneCell']) (by unfold maxLen; omega) (by omega) (by first | omega | (simp; omega)) ?_; intro v5 w5 own5 g5 _; have hx5 := BlkIs.kept hx0 g5 (by simp [Value.ownBlock]); have hb5 := below_fresh hb0 hle0 g5 (fun k hk => by simp [Value.ownBlock] at hk); clear hx0 hb0 g5; have d0 : w5.cell? ⟨wr.heap.size, 0, none⟩ = some (.int .i64 t) := hx5.cell 0; have d1 : w5.cell? ⟨wr.heap.size, 1, none⟩ = some (.int .i64 ky) := hx5.cell 1; obtain ⟨gv, capv, csv, hve, hgb, hbv, hcn, hcm, _⟩ := ownsRow_blk own5 (by decide); subst hve; have HCV := Lib.hid (row_ints ([n0, n1, n2] : List Int) own5); have hltv := hbv.lt; clear own5 hbv hx5)
        have hok : ∀ y ∈ ([n0, n1, n2] : List Int), IntOk y := fun y hy => by
          have := HV5.out y hy
          exact ⟨by omega, by omega⟩
        have HOK := Lib.hid hok
        clear hok
        refine (put_ok w5.heap.size 0 3 [t, ky, 2] _ (by simp [World.size_alloc]) (by simp) ?_ ?_).mono ?_
        · intro y hy
          simp only [List.mem_cons, List.not_mem_nil, or_false] at hy
          rcases hy with rfl | rfl | rfl <;> exact ⟨by omega, by omega⟩
        · intro j y hj
          match j, hj with
          | 0, hj => cases hj; rw [cell_of_row _ _ 0 _ _ _ (World.alloc_heap_new w5 _)]; rfl
          | 1, hj => cases hj; rw [cell_of_row _ _ 1 _ _ _ (World.alloc_heap_new w5 _)]; rfl
          | 2, hj => cases hj; rw [cell_of_row _ _ 2 _ _ _ (World.alloc_heap_new w5 _)]; rfl
        rintro e w7 ⟨rfl, b7⟩
        have hle7 := hb5.size
        have hb7 := Below.next (Below.alloc hb5 hle7 _) b7
        have hlt7 : gv < w7.heap.size := by have := b7.size; rw [World.size_alloc] at this; omega
        have hcv7 : ∀ (j : Nat) y, ([n0, n1, n2] : List Int)[j]? = some y → w7.cell? ⟨gv, 0 + j, none⟩ = some (.int .i64 y) := fun j y hy =>
          (b7.cell (p := ⟨gv, 0 + j, none⟩) (Nat.lt_of_lt_of_le hltv (by rw [World.size_alloc]; omega))).trans ((World.cell?_of_block (Below.heap_alloc w5 _ gv hltv)).trans (HCV.out j y hy))
        have HCV7 := Lib.hid hcv7
        clear hcv7 d0 d1
        go_wp2_with fail
        refine (put_ok gv 0 capv [n0, n1, n2] _ hlt7 (by simp) HOK.out HCV7.out).mono ?_
        rintro e w8 ⟨rfl, b8⟩
        have hb8 := Below.next hb7 b8
        have hl3 := putsL_len [t, ky, 2]
        have hl4 := putsL_len [n0, n1, n2]
        simp only [List.length_cons, List.length_nil] at hl3 hl4
        have hcat1 : str (putsL [t, ky, 2]) ++ str (putsL [n0, n1, n2]) = str (encChg ⟨t, ky, false, (o0, o1, o2), true, (n0, n1, n2)⟩) := by rw [cat_str, HXE.out]; rfl
        have hcat2 : str P ++ (str (putsL [t, ky, 2]) ++ str (putsL [n0, n1, n2])) = str (encP p l (k + 1)) := by rw [hcat1, cat_str, HN.out]
        have s1 : ¬ 9223372036854775807 < (putsL [t, ky, 2]).length + (putsL [n0, n1, n2]).length := by omega
        have s2 : ¬ 9223372036854775807 < P.length + ((putsL [t, ky, 2]).length + (putsL [n0, n1, n2]).length) := by omega
        have HC2 := Lib.hid hcat2
        clear hcat1 hcat2
        go_wp2_with fail
        exact ⟨⟨k + 1, by omega, by go_num, by rw [← HC2.out], hb8⟩, by simp [intOf]; omega⟩
      · go_wp2_with (at_builtin; refine wpList_append_own _ rfl _ _ 44 rfl w.heap.size 3 i0 (.int .i64 0) 1 8 Tryz.underlying44 hi0 hz0 hz1 hz2 rfl (by decide) (.slice none 0 0) 0 [] rfl (World.ownsRow_nil _ _ _ 1) ⟨wr.heap.size, 3, none⟩ 3 3 [.int .i64 o0, .int .i64 o1, .int .i64 o2] rfl rfl (blk_news hx0 3 [.int .i64 o0, .int .i64 o1, .int .i64 o2] rfl) (by simp [Value.oneCell']) (by unfold maxLen; omega) (by omega) (by first | omega | (simp; omega)) ?_; intro v5 w5 own5 g5 _; have hx5 := BlkIs.kept hx0 g5 (by simp [Value.ownBlock]); have hb5 := below_fresh hb0 hle0 g5 (fun k hk => by simp [Value.ownBlock] at hk); have e6 : w5.cell? ⟨wr.heap.size, 6, none⟩ = some (.bool false) := hx5.cell 6; clear hx0 hb0 g5; have d0 : w5.cell? ⟨wr.heap.size, 0, none⟩ = some (.int .i64 t) := hx5.cell 0; have d1 : w5.cell? ⟨wr.heap.size, 1, none⟩ = some (.int .i64 ky) := hx5.cell 1; obtain ⟨gv, capv, csv, hve, hgb, hbv, hcn, hcm, _⟩ := ownsRow_blk own5 (by decide); subst hve; have HCV := Lib.hid (row_ints ([o0, o1, o2] : List Int) own5); have hltv := hbv.lt; clear own5 hbv hx5)
        have hok : ∀ y ∈ ([o0, o1, o2] : List Int), IntOk y := fun y hy => by
          have := HV5.out y hy
          exact ⟨by omega, by omega⟩
        have HOK := Lib.hid hok
        clear hok
        refine (put_ok w5.heap.size 0 3 [t, ky, 1] _ (by simp [World.size_alloc]) (by simp) ?_ ?_).mono ?_
        · intro y hy
          simp only [List.mem_cons, List.not_mem_nil, or_false] at hy
          rcases hy with rfl | rfl | rfl <;> exact ⟨by omega, by omega⟩
        · intro j y hj
          match j, hj with
          | 0, hj => cases hj; rw [cell_of_row _ _ 0 _ _ _ (World.alloc_heap_new w5 _)]; rfl
          | 1, hj => cases hj; rw [cell_of_row _ _ 1 _ _ _ (World.alloc_heap_new w5 _)]; rfl
          | 2, hj => cases hj; rw [cell_of_row _ _ 2 _ _ _ (World.alloc_heap_new w5 _)]; rfl
        rintro e w7 ⟨rfl, b7⟩
        have hle7 := hb5.size
        have hb7 := Below.next (Below.alloc hb5 hle7 _) b7
        have hlt7 : gv < w7.heap.size := by have := b7.size; rw [World.size_alloc] at this; omega
        have hcv7 : ∀ (j : Nat) y, ([o0, o1, o2] : List Int)[j]? = some y → w7.cell? ⟨gv, 0 + j, none⟩ = some (.int .i64 y) := fun j y hy =>
          (b7.cell (p := ⟨gv, 0 + j, none⟩) (Nat.lt_of_lt_of_le hltv (by rw [World.size_alloc]; omega))).trans ((World.cell?_of_block (Below.heap_alloc w5 _ gv hltv)).trans (HCV.out j y hy))
        have HCV7 := Lib.hid hcv7
        clear hcv7 d0 d1
        go_wp2_with fail
        refine (put_ok gv 0 capv [o0, o1, o2] _ hlt7 (by simp) HOK.out HCV7.out).mono ?_
        rintro e w8 ⟨rfl, b8⟩
        have hb8 := Below.next hb7 b8
        have hl3 := putsL_len [t, ky, 1]
        have hl4 := putsL_len [o0, o1, o2]
        simp only [List.length_cons, List.length_nil] at hl3 hl4
        have hcat1 : str (putsL [t, ky, 1]) ++ str (putsL [o0, o1, o2]) = str (encChg ⟨t, ky, true, (o0, o1, o2), false, (n0, n1, n2)⟩) := by rw [cat_str, HXE.out]; rfl
        have hcat2 : str P ++ (str (putsL [t, ky, 1]) ++ str (putsL [o0, o1, o2])) = str (encP p l (k + 1)) := by rw [hcat1, cat_str, HN.out]
        have s1 : ¬ 9223372036854775807 < (putsL [t, ky, 1]).length + (putsL [o0, o1, o2]).length := by omega
        have s2 : ¬ 9223372036854775807 < P.length + ((putsL [t, ky, 1]).length + (putsL [o0, o1, o2]).length) := by omega
        have HC2 := Lib.hid hcat2
        clear hcat1 hcat2
        go_wp2_with fail
        exact ⟨⟨k + 1, by omega, by go_num, by rw [← HC2.out], hb8⟩, by simp [intOf]; omega⟩
      · go_wp2_with (first | (at_builtin; refine wpList_append_own _ rfl _ _ 44 rfl w.heap.size 3 i0 (.int .i64 0) 1 8 Tryz.underlying44 hi0 hz0 hz1 hz2 rfl (by decide) (.slice none 0 0) 0 [] rfl (World.ownsRow_nil _ _ _ 1) ⟨wr.heap.size, 3, none⟩ 3 3 [.int .i64 o0, .int .i64 o1, .int .i64 o2] rfl rfl (blk_news hx0 3 [.int .i64 o0, .int .i64 o1, .int .i64 o2] rfl) (by simp [Value.oneCell']) (by unfold maxLen; omega) (by omega) (by first | omega | (simp; omega)) ?_; intro v5 w5 own5 g5 _; have hx5 := BlkIs.kept hx0 g5 (by simp [Value.ownBlock]); have hb5 := below_fresh hb0 hle0 g5 (fun k hk => by simp [Value.ownBlock] at hk); have hle5 := hb5.size; have e6 : w5.cell? ⟨wr.heap.size, 6, none⟩ = some (.bool true) := hx5.cell 6; clear hx0 hb0 g5) | (at_builtin; refine wpList_append_own _ rfl _ _ 44 rfl w.heap.size 3 i0 (.int .i64 0) 1 8 Tryz.underlying44 hi0 hz0 hz1 hz2 rfl (by decide) v5 3 [.int .i64 o0, .int .i64 o1, .int .i64 o2] rfl own5 ⟨wr.heap.size, 7, none⟩ 3 3 [.int .i64 n0, .int .i64 n1, .int .i64 n2] rfl rfl (blk_news hx5 7 [.int .i64 n0, .int .i64 n1, .int .i64 n2] rfl) (by simp [Value.oneCell']) (by unfold maxLen; omega) (by omega) (by first | omega | (simp; omega)) ?_; intro v6 w6 own6 g6 _; have hx6 := BlkIs.kept hx5 g6 (hx5.not_row (by decide) own5); have hb6 := below_fresh hb5 hle5 g6 (fun k hk => (own5.lt k hk).1); clear hx5 hb5 g6 own5 e6; have d0 : w6.cell? ⟨wr.heap.size, 0, none⟩ = some (.int .i64 t) := hx6.cell 0; have d1 : w6.cell? ⟨wr.heap.size, 1, none⟩ = some (.int .i64 ky) := hx6.cell 1; obtain ⟨gv, capv, csv, hve, hgb, hbv, hcn, hcm, _⟩ := ownsRow_blk own6 (by decide); subst hve; have HCV := Lib.hid (row_ints ([o0, o1, o2, n0, n1, n2] : List Int) own6); have hltv := hbv.lt; clear own6 hbv hx6))
        have hok : ∀ y ∈ ([o0, o1, o2, n0, n1, n2] : List Int), IntOk y := fun y hy => by
          have := HV5.out y hy
          exact ⟨by omega, by omega⟩
        have HOK := Lib.hid hok
        clear hok
        refine (put_ok w6.heap.size 0 3 [t, ky, 3] _ (by simp [World.size_alloc]) (by simp) ?_ ?_).mono ?_
        · intro y hy
          simp only [List.mem_cons, List.not_mem_nil, or_false] at hy
          rcases hy with rfl | rfl | rfl <;> exact ⟨by omega, by omega⟩
        · intro j y hj
          match j, hj with
          | 0, hj => cases hj; rw [cell_of_row _ _ 0 _ _ _ (World.alloc_heap_new w6 _)]; rfl
          | 1, hj => cases hj; rw [cell_of_row _ _ 1 _ _ _ (World.alloc_heap_new w6 _)]; rfl
          | 2, hj => cases hj; rw [cell_of_row _ _ 2 _ _ _ (World.alloc_heap_new w6 _)]; rfl
        rintro e w7 ⟨rfl, b7⟩
        have hle7 := hb6.size
        have hb7 := Below.next (Below.alloc hb6 hle7 _) b7
        have hlt7 : gv < w7.heap.size := by have := b7.size; rw [World.size_alloc] at this; omega
        have hcv7 : ∀ (j : Nat) y, ([o0, o1, o2, n0, n1, n2] : List Int)[j]? = some y → w7.cell? ⟨gv, 0 + j, none⟩ = some (.int .i64 y) := fun j y hy =>
          (b7.cell (p := ⟨gv, 0 + j, none⟩) (Nat.lt_of_lt_of_le hltv (by rw [World.size_alloc]; omega))).trans ((World.cell?_of_block (Below.heap_alloc w6 _ gv hltv)).trans (HCV.out j y hy))
        have HCV7 := Lib.hid hcv7
        clear hcv7 d0 d1
        go_wp2_with fail
        refine (put_ok gv 0 capv [o0, o1, o2, n0, n1, n2] _ hlt7 (by simp) HOK.out HCV7.out).mono ?_
        rintro e w8 ⟨rfl, b8⟩
        have hb8 := Below.next hb7 b8
        have hl3 := putsL_len [t, ky, 3]
        have hl4 := putsL_len [o0, o1, o2, n0, n1, n2]
        simp only [List.length_cons, List.length_nil] at hl3 hl4
        have hcat1 : str (putsL [t, ky, 3]) ++ str (putsL [o0, o1, o2, n0, n1, n2]) = str (encChg ⟨t, ky, true, (o0, o1, o2), true, (n0, n1, n2)⟩) := by rw [cat_str, HXE.out]; rfl
        have hcat2 : str P ++ (str (putsL [t, ky, 3]) ++ str (putsL [o0, o1, o2, n0, n1, n2])) = str (encP p l (k + 1)) := by rw [hcat1, cat_str, HN.out]
        have s1 : ¬ 9223372036854775807 < (putsL [t, ky, 3]).length + (putsL [o0, o1, o2, n0, n1, n2]).length := by omega
        have s2 : ¬ 9223372036854775807 < P.length + ((putsL [t, ky, 3]).length + (putsL [o0, o1, o2, n0, n1, n2]).length) := by omega
        have HC2 := Lib.hid hcat2
        clear hcat1 hcat2
        go_wp2_with fail
        exact ⟨⟨k + 1, by omega, by go_num, by rw [← HC2.out], hb8⟩, by simp [intOf]; omega⟩
    · have t1 : decide (k < l.length) = false := by simpa using h1
      have hr := encP_all p l k (by omega)
      have HR := Lib.hid hr
      clear hr
      go_wp2_with fail
      go_ret2
      exact ⟨by rw [← HR.out]; rfl, hb⟩
end Go.Proofs.YtheebajklnljdaaGreatDoor
end

