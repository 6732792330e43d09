/- VerifyExtension, where no side is taken. -/
import Derived.Test.YtednkommpmdikaaDoorVerA
namespace Go.Proofs.YtednkommpmdikaaDoor
open Go Go.RowKit
attribute [local go_sem] Oper.semAt_some

/-- what VerifyExtension answers -/
def extB (old : List UInt8) (m : Int) (root : List UInt8) (n : Int) (p : List (List UInt8)) : Bool :=
  decide (0 ≤ m ∧ m ≤ n) && (p.all fun x => decide (x.length = 32)) && decide (old.length = 32) && decide (root.length = 32) &&
    (if m = 0 then decide (p = []) && decide (old = shaL []) else if m = n then decide (p = []) && decide (old = root) else bothR old p.reverse m.toNat n.toNat true == some (old, root))

theorem vx_no (old root : ByteArray) (m n : Int) (v : Value) (p : List (List UInt8)) (w : World) (hi : m < 0 ∨ n < m) :
    Calls Tryd.prog 20 #[.string old, .int .i64 m, .string root, .int .i64 n, v] w fun e w' => e = .returned (.bool (extB old.data.toList m root.data.toList n p)) ∧ w = w' := by
  have hr : extB old.data.toList m root.data.toList n p = false := by
    unfold extB
    rw [decide_eq_false (by omega)]
    rfl
  rw [hr]
  clear hr
  by_cases h : m < 0
  · have t0 : decide (m < 0) = true := by simp; omega
    go_enter Tryd.func20, Tryd.ntmps20
    go_wp2_with fail
    go_ret
    exact ⟨rfl, rfl⟩
  · have t0 : decide (m < 0) = false := by simp; omega
    have t1 : decide (n < m) = true := by simp; omega
    go_enter Tryd.func20, Tryd.ntmps20
    go_wp2_with fail
    go_ret
    exact ⟨rfl, rfl⟩

theorem vx_odd (old root : ByteArray) (m n : Nat) (v : Value) (p : List (List UInt8)) (w : World) (hv : ListAt w v p) (hi : m ≤ n) (hp : (p.all fun x => decide (x.length = 32)) = false) :
    Calls Tryd.prog 20 #[.string old, .int .i64 m, .string root, .int .i64 n, v] w fun e w' => e = .returned (.bool (extB old.data.toList m root.data.toList n p)) ∧ Below w.heap.size w w' := by
  have hr : extB old.data.toList m root.data.toList n p = false := by
    unfold extB
    rw [hp, Bool.and_false]
    rfl
  rw [hr]
  have hall := all_list v p w hv
  rw [hp] at hall
  have t0 : decide ((m : Int) < 0) = false := by simp
  have t1 : decide (n < m) = false := by simp; omega
  clear hr hp
  go_enter Tryd.func20, Tryd.ntmps20
  go_wp2_with fail
  refine hall.mono ?_
  rintro e w1 ⟨rfl, q, rfl⟩
  go_wp2_with fail
  go_ret
  exact ⟨rfl, below_drewN' (Below.refl _ _) q⟩

theorem vx_old (old root : ByteArray) (m n : Nat) (v : Value) (p : List (List UInt8)) (w : World) (hv : ListAt w v p) (hi : m ≤ n) (hp : (p.all fun x => decide (x.length = 32)) = true) (ho : old.size ≠ 32) :
    Calls Tryd.prog 20 #[.string old, .int .i64 m, .string root, .int .i64 n, v] w fun e w' => e = .returned (.bool (extB old.data.toList m root.data.toList n p)) ∧ Below w.heap.size w w' := by
  have hr : extB old.data.toList m root.data.toList n p = false := by
    unfold extB
    rw [len_data, decide_eq_false ho, Bool.and_false]
    rfl
  rw [hr]
  have hall := all_list v p w hv
  rw [hp] at hall
  have t0 : decide ((m : Int) < 0) = false := by simp
  have t1 : decide (n < m) = false := by simp; omega
  have hd : ∀ W, Calls Tryd.prog 42 #[.string old] W fun e w' => e = .returned (.bool false) ∧ w' = W := by
    intro W
    have := isDigest_ok old W
    rw [decide_eq_false ho] at this
    exact this
  clear hr hp ho
  go_enter Tryd.func20, Tryd.ntmps20
  go_wp2_with fail
  refine hall.mono ?_
  rintro e w1 ⟨rfl, q, rfl⟩
  go_wp2_with fail
  refine (hd _).mono ?_
  rintro e w1 ⟨rfl, rfl⟩
  go_wp2_with fail
  go_ret
  exact ⟨rfl, below_drewN' (Below.refl _ _) q⟩

theorem vx_root (old root : ByteArray) (m n : Nat) (v : Value) (p : List (List UInt8)) (w : World) (hv : ListAt w v p) (hi : m ≤ n) (hp : (p.all fun x => decide (x.length = 32)) = true) (ho : old.size = 32) (hr0 : root.size ≠ 32) :
    Calls Tryd.prog 20 #[.string old, .int .i64 m, .string root, .int .i64 n, v] w fun e w' => e = .returned (.bool (extB old.data.toList m root.data.toList n p)) ∧ Below w.heap.size w w' := by
  have hr : extB old.data.toList m root.data.toList n p = false := by
    unfold extB
    rw [len_data, len_data, decide_eq_false hr0, Bool.and_false]
    rfl
  rw [hr]
  have hall := all_list v p w hv
  rw [hp] at hall
  have t0 : decide ((m : Int) < 0) = false := by simp
  have t1 : decide (n < m) = false := by simp; omega
  have hd : ∀ W, Calls Tryd.prog 42 #[.string old] W fun e w' => e = .returned (.bool true) ∧ w' = W := by
    intro W
    have := isDigest_ok old W
    rw [decide_eq_true ho] at this
    exact this
  have hd2 : ∀ W, Calls Tryd.prog 42 #[.string root] W fun e w' => e = .returned (.bool false) ∧ w' = W := by
    intro W
    have := isDigest_ok root W
    rw [decide_eq_false hr0] at this
    exact this
  clear hr hp ho hr0
  go_enter Tryd.func20, Tryd.ntmps20
  go_wp2_with fail
  refine hall.mono ?_
  rintro e w1 ⟨rfl, q, rfl⟩
  go_wp2_with fail
  refine (hd _).mono ?_
  rintro e w1 ⟨rfl, rfl⟩
  go_wp2_with fail
  refine (hd2 _).mono ?_
  rintro e w1 ⟨rfl, rfl⟩
  go_wp2_with fail
  go_ret
  exact ⟨rfl, below_drewN' (Below.refl _ _) q⟩

set_option maxRecDepth 100000 in
set_option maxHeartbeats 4000000 in
/-- m = 0 or m = n -/
theorem vx_edge (old root : ByteArray) (m n : Nat) (v : Value) (p : List (List UInt8)) (w : World) (hv : ListAt w v p) (hi : m ≤ n) (hp : (p.all fun x => decide (x.length = 32)) = true) (ho : old.size = 32) (hr0 : root.size = 32) (hm : m = 0 ∨ m = n) (hR : RoundOk w) :
    Calls Tryd.prog 20 #[.string old, .int .i64 m, .string root, .int .i64 n, v] w fun e w' => e = .returned (.bool (extB old.data.toList m root.data.toList n p)) ∧ Below w.heap.size w w' := by
  obtain ⟨B, hB⟩ : ∃ B, B = extB old.data.toList m root.data.toList n p := ⟨_, rfl⟩
  rw [← hB]
  have hr : B = (decide (p = []) && (if m = 0 then old.toList == shaL [] else old.toList == root.toList)) := by
    have e0 : ((m : Int) = 0) = (m = 0) := by simp
    have e1 : ((m : Int) = (n : Int)) = (m = n) := propext ⟨fun h => by omega, fun h => by omega⟩
    rw [hB]
    unfold extB
    rw [hp, len_data, len_data, decide_eq_true ho, decide_eq_true hr0, decide_eq_true (by omega), Lib.toList_data, Lib.toList_data]
    simp only [Bool.true_and, e0, e1]
    by_cases h0 : m = 0
    · rw [if_pos h0, if_pos h0, Bool.eq_iff_iff]; simp
    · rw [if_neg h0, if_neg h0, if_pos (by omega), Bool.eq_iff_iff]; simp
  have hall := all_list v p w hv
  rw [hp] at hall
  have t0 : decide ((m : Int) < 0) = false := by simp
  have t1 : decide (n < m) = false := by simp; omega
  have hd : ∀ W, Calls Tryd.prog 42 #[.string old] W fun e w' => e = .returned (.bool true) ∧ w' = W := by
    intro W
    have := isDigest_ok old W
    rw [decide_eq_true ho] at this
    exact this
  have hd2 : ∀ W, Calls Tryd.prog 42 #[.string root] W fun e w' => e = .returned (.bool true) ∧ w' = W := by
    intro W
    have := isDigest_ok root W
    rw [decide_eq_true hr0] at this
    exact this
  clear hp ho hr0 hB
  obtain ⟨A, c, rfl⟩ := hv.len
  have hb0 : ∀ q, Below w.heap.size w (w.drewN q) := fun q => below_drewN' (Below.refl _ _) q
  by_cases h0 : m = 0
  · rw [if_pos h0] at hr
    subst h0
    by_cases h3 : p = []
    · subst h3
      rw [decide_eq_true rfl, Bool.true_and] at hr
      have HRR := Lib.hid hr
      clear hr
      go_enter Tryd.func20, Tryd.ntmps20
      go_wp2_with fail
      refine hall.mono ?_
      rintro e w1 ⟨rfl, q, rfl⟩
      go_wp2_with fail
      refine (hd _).mono ?_
      rintro e w1 ⟨rfl, rfl⟩
      go_wp2_with fail
      refine (hd2 _).mono ?_
      rintro e w1 ⟨rfl, rfl⟩
      go_wp2_with fail
      refine (sum_ok ⟨#[]⟩ _ (by decide) (hR.later (hb0 q))).mono ?_
      rintro e w2 ⟨rfl, b2⟩
      have hb2 := Below.next (hb0 q) b2
      go_wp2_with fail
      go_ret
      exact ⟨congrArg (fun b => Ending.returned (Value.bool b)) HRR.out.symm, hb2⟩
    · have t3 : ((p.length : Int) == 0) = false := by simpa using h3
      rw [decide_eq_false h3, Bool.false_and] at hr
      clear h3
      have HRR := Lib.hid hr
      clear hr
      go_enter Tryd.func20, Tryd.ntmps20
      go_wp2_with fail
      refine hall.mono ?_
      rintro e w1 ⟨rfl, q, rfl⟩
      go_wp2_with fail
      refine (hd _).mono ?_
      rintro e w1 ⟨rfl, rfl⟩
      go_wp2_with fail
      refine (hd2 _).mono ?_
      rintro e w1 ⟨rfl, rfl⟩
      go_wp2_with fail
      go_ret
      exact ⟨congrArg (fun b => Ending.returned (Value.bool b)) HRR.out.symm, hb0 q⟩
  · rw [if_neg h0] at hr
    have t4 : ((m : Int) == 0) = false := by simp; omega
    have hmn : m = n := by omega
    subst hmn
    clear h0 hm
    by_cases h3 : p = []
    · subst h3
      rw [decide_eq_true rfl, Bool.true_and] at hr
      have HRR := Lib.hid hr
      clear hr
      go_enter Tryd.func20, Tryd.ntmps20
      go_wp2_with fail
      refine hall.mono ?_
      rintro e w1 ⟨rfl, q, rfl⟩
      go_wp2_with fail
      refine (hd _).mono ?_
      rintro e w1 ⟨rfl, rfl⟩
      go_wp2_with fail
      refine (hd2 _).mono ?_
      rintro e w1 ⟨rfl, rfl⟩
      go_wp2_with fail
      go_ret
      exact ⟨congrArg (fun b => Ending.returned (Value.bool b)) HRR.out.symm, hb0 q⟩
    · have t3 : ((p.length : Int) == 0) = false := by simpa using h3
      rw [decide_eq_false h3, Bool.false_and] at hr
      clear h3
      have HRR := Lib.hid hr
      clear hr
      go_enter Tryd.func20, Tryd.ntmps20
      go_wp2_with fail
      refine hall.mono ?_
      rintro e w1 ⟨rfl, q, rfl⟩
      go_wp2_with fail
      refine (hd _).mono ?_
      rintro e w1 ⟨rfl, rfl⟩
      go_wp2_with fail
      refine (hd2 _).mono ?_
      rintro e w1 ⟨rfl, rfl⟩
      go_wp2_with fail
      go_ret
      exact ⟨congrArg (fun b => Ending.returned (Value.bool b)) HRR.out.symm, hb0 q⟩
end Go.Proofs.YtednkommpmdikaaDoor
