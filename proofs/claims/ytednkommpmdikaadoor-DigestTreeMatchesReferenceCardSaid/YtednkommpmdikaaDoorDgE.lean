/- The program's functions on any list and any numbers; the laws' own small functions. -/
import Derived.Test.YtednkommpmdikaaDoorDgD
import Derived.Test.YtednkommpmdikaaDoorDgA
namespace Go.Proofs.YtednkommpmdikaaDoor
open Go Go.RowKit

theorem extB_accept (l : List (List UInt8)) (m : Nat) (hm : m ≤ l.length) : extB (rootL (l.take m)) m (rootL l) (l.length : Nat) (extL l m) = true := by
  unfold extB
  have h32 : (extL l m).all (fun x => decide (x.length = 32)) = true := by
    rw [List.all_eq_true]; intro x hx; simpa using extL_len32 l m x hx
  rw [h32, decide_eq_true (rootL_len _), decide_eq_true (rootL_len _), decide_eq_true (by omega)]
  simp only [Bool.true_and]
  by_cases h0 : m = 0
  · subst h0
    rw [if_pos (by simp)]
    unfold extL
    rw [if_pos rfl, List.take_zero]
    simp [rootL_nil]
  · rw [if_neg (by omega)]
    unfold extL
    rw [if_neg h0]
    by_cases he : m = l.length
    · rw [if_pos (by omega), partL_all l m true (by omega), he, List.take_length]
      simp
    · rw [if_neg (by omega), Int.toNat_natCast, Int.toNat_natCast, partL_ok l.length l m true _ (Nat.le_refl _) (by omega) hm (fun _ => rfl)]
      simp

theorem RowsAt.nil_list {w : World} {A : Option Addr} {c : Nat} : ListAt w (.slice A 0 c) [] := .inl ⟨rfl, A, c, rfl⟩

/-- Root of any list -/
theorem root_list (v : Value) (l : List (List UInt8)) (w : World) (hv : ListAt w v l) (hl : l.length ≤ 1000000) (hs : ∀ x ∈ l, x.length ≤ 900000) (hR : RoundOk w) :
    Calls Tryd.prog 17 #[v] w fun e w' => e = .returned (.string (str (rootL l))) ∧ Below w.heap.size w w' := by
  by_cases h0 : l = []
  · subst h0
    obtain ⟨A, c, rfl⟩ := hv.nil
    exact root_ok _ [] w ⟨A, c, rfl, Nat.zero_le _, fun h => absurd h (by simp [svs])⟩ (by decide) (by simp) hR
  · obtain ⟨g, o, c, rfl, hrow⟩ := hv.rows h0
    exact root_ok _ l w hrow.slice hl hs hR

/-- Extension of any list by a number that is in it -/
theorem ext_list (v : Value) (l : List (List UInt8)) (m : Nat) (w : World) (hv : ListAt w v l) (hl : l.length ≤ 1000000) (hm : m ≤ l.length) (hs : ∀ x ∈ l, x.length ≤ 900000) (hR : RoundOk w) :
    Calls Tryd.prog 14 #[v, .int .i64 m] w fun e w' => ∃ A c, e = .returned (.tuple #[.slice A (extL l m).length c, .int .i64 0]) ∧ ListAt w' (.slice A (extL l m).length c) (extL l m) ∧ Below w.heap.size w w' := by
  by_cases h0 : m = 0
  · subst h0
    obtain ⟨A, c, rfl⟩ := hv.len
    refine (ext_zero A l.length c w).mono ?_
    rintro e w' ⟨rfl, rfl⟩
    exact ⟨none, 0, rfl, .inl ⟨rfl, _, _, rfl⟩, Below.refl _ _⟩
  · obtain ⟨g, o, c, rfl, hrow⟩ := hv.rows (by rintro rfl; simp at hm; omega)
    refine (ext_ok g o l.length c l m w hrow hl (by omega) hm hs hR).mono ?_
    rintro e w' ⟨v', rfl, own, hb⟩
    have hL := listAt_own own
    obtain ⟨A, c', rfl⟩ := hL.len
    exact ⟨A, c', rfl, hL, hb⟩

theorem proof_list (v : Value) (l : List (List UInt8)) (i : Nat) (w : World) (hv : ListAt w v l) (hl : l.length ≤ 1000000) (hi : i < l.length) (hs : ∀ x ∈ l, x.length ≤ 900000) (hR : RoundOk w) :
    Calls Tryd.prog 12 #[v, .int .i64 i] w fun e w' => ∃ A c, e = .returned (.tuple #[.slice A (proofL l i).length c, .int .i64 0]) ∧ ListAt w' (.slice A (proofL l i).length c) (proofL l i) ∧ Below w.heap.size w w' := by
  obtain ⟨g, o, c, rfl, hrow⟩ := hv.rows (by rintro rfl; simp at hi)
  refine (proof_ok g o l.length c l i w hrow hl hi hs hR).mono ?_
  rintro e w' ⟨v', rfl, own, hb⟩
  have hL := listAt_own own
  obtain ⟨A, c', rfl⟩ := hL.len
  exact ⟨A, c', rfl, hL, hb⟩

/-- Verify of any numbers -/
theorem ver_any (root s : ByteArray) (n i : Int) (v : Value) (p : List (List UInt8)) (w : World) (hv : ListAt w v p) (hn : n ≤ 9223372036854775807) (hpl : p.length ≤ 100) (hs : s.size ≤ 900000) (hR : RoundOk w) :
    Calls Tryd.prog 21 #[.string root, .int .i64 n, .int .i64 i, .string s, v] w fun e w' => e = .returned (.bool (verB root.data.toList n i s.data.toList p)) ∧ Below w.heap.size w w' := by
  by_cases hi : i < 0 ∨ n ≤ i
  · exact (ver_no root s n i v p w hi).mono fun e w' ⟨he, hw⟩ => ⟨he, hw ▸ Below.refl _ _⟩
  · obtain ⟨I, rfl⟩ : ∃ I : Nat, i = (I : Int) := ⟨i.toNat, by omega⟩
    obtain ⟨N, rfl⟩ : ∃ N : Nat, n = (N : Int) := ⟨n.toNat, by omega⟩
    cases hp : p.all (fun x => decide (x.length = 32)) with
    | false => exact ver_odd root s N I v p w hv (by omega) hp
    | true => exact ver_ok root s N I v p w hv (by omega) (by omega) hpl hp hs hR

/-- VerifyExtension of any numbers -/
theorem vx_any (old root : ByteArray) (m n : Int) (v : Value) (p : List (List UInt8)) (w : World) (hv : ListAt w v p) (hn : n ≤ 9223372036854775807) (hpl : p.length ≤ 100) (hR : RoundOk w) :
    Calls Tryd.prog 20 #[.string old, .int .i64 m, .string root, .int .i64 n, v] w fun e w' => e = .returned (.bool (extB old.data.toList m root.data.toList n p)) ∧ Below w.heap.size w w' := by
  by_cases hi : m < 0 ∨ n < m
  · exact (vx_no old root m n v p w hi).mono fun e w' ⟨he, hw⟩ => ⟨he, hw ▸ Below.refl _ _⟩
  · obtain ⟨M, rfl⟩ : ∃ M : Nat, m = (M : Int) := ⟨m.toNat, by omega⟩
    obtain ⟨N, rfl⟩ : ∃ N : Nat, n = (N : Int) := ⟨n.toNat, by omega⟩
    cases hp : p.all (fun x => decide (x.length = 32)) with
    | false => exact vx_odd old root M N v p w hv (by omega) hp
    | true =>
      by_cases ho : old.size = 32
      · by_cases hr : root.size = 32
        · by_cases he : M = 0 ∨ M = N
          · exact vx_edge old root M N v p w hv (by omega) hp ho hr he hR
          · exact vx_ok old root M N v p w hv (by omega) (by omega) (by omega) hpl hp ho hr hR
        · exact vx_root old root M N v p w hv (by omega) hp ho hr
      · exact vx_old old root M N v p w hv (by omega) hp ho

theorem binN_half (n : Nat) (h : 0 < n) : binN n = binN (n / 2) + 1 := by
  unfold binN
  rw [if_neg (by omega), Nat.log2_def]
  by_cases h2 : 2 ≤ n
  · rw [if_pos h2, if_neg (by omega)]
  · rw [if_neg h2, if_pos (by omega)]
theorem binN_le (n : Nat) : binN n ≤ n := by
  induction n using Nat.strongRecOn with
  | ind n ih =>
    by_cases h : 0 < n
    · rw [binN_half n h]
      have := ih (n / 2) (by omega)
      by_cases h1 : n = 1
      · subst h1; decide
      · omega
    · have : n = 0 := by omega
      subst this; decide
theorem binary_ok (n : Nat) (w : World) (hn : n ≤ 1000000) : Calls Tryd.prog 19 #[.int .i64 n] w fun e w' => e = .returned (.int .i64 (binN n)) ∧ w' = w := by
  go_enter Tryd.func19, Tryd.ntmps19
  go_wp2_with fail
  go_loop [0, 3] (fun nv kv => ∃ (a k : Nat), nv = .int .i64 a ∧ kv = .int .i64 k ∧ a ≤ n ∧ k ≤ n ∧ Hid (binN n = k + binN a)) (fun nv _ => (intOf nv).toNat)
  case atStart => exact ⟨n, 0, rfl, rfl, Nat.le_refl _, by omega, Lib.hid (by omega)⟩
  case round =>
    obtain ⟨a, k, rfl, rfl, ha, hk, HB⟩ := hrel
    by_cases h : 0 < a
    · have t1 : decide ((0 : Int) < (a : Int)) = true := by simp; omega
      have t2 : decide (0 < a) = true := by simp; omega
      have hh := binN_half a h
      have hl := binN_le n
      have h1 := HB.out
      have hk1 : k + 1 ≤ n := by omega
      have HB2 : Hid (binN n = (k + 1) + binN (a / 2)) := Lib.hid (by omega)
      obtain ⟨b, hb⟩ : ∃ b, b = a / 2 := ⟨_, rfl⟩
      have e2 : (a : Int) / 2 = (b : Int) := by omega
      have hba : b < a := by omega
      rw [← hb] at HB2
      clear hh hl h1 hb
      go_wp2_with fail
      go_round
      case rel => exact ⟨b, k + 1, rfl, by go_num, by omega, hk1, HB2⟩
      case measure => simp [intOf]; omega
    · have t1 : decide ((0 : Int) < (a : Int)) = false := by simp; omega
      have t2 : decide (0 < a) = false := by simp; omega
      have hb : binN n = k := by
        have : a = 0 := by omega
        rw [HB.out, this]; rfl
      have HB2 := Lib.hid hb
      clear hb
      go_wp2_with fail
      go_ret
      exact ⟨ret_i64 (congrArg (fun x : Nat => (x : Int)) HB2.out.symm), rfl⟩

theorem lawLeft_ok (n : Nat) (w : World) (h2 : 2 ≤ n) (hn : n ≤ 9223372036854775807) : Calls Tryd.prog 27 #[.int .i64 n] w fun e w' => e = .returned (.int .i64 (leftN n)) ∧ w' = w := by
  go_enter Tryd.func27, Tryd.ntmps27
  go_wp2_with fail
  go_loop [3] (fun kv => ∃ (k j : Nat), kv = .int .i64 k ∧ Hid (k = 2 ^ j) ∧ k < n ∧ 1 ≤ k) (fun kv => n - (intOf kv).toNat)
  case atStart => exact ⟨1, 0, rfl, rfl, by omega, by omega⟩
  case round =>
    obtain ⟨k, j, rfl, HK, hk, hk1⟩ := hrel
    obtain ⟨d, hd⟩ : ∃ d, d = n - k := ⟨_, rfl⟩
    have e1 : (n : Int) - (k : Int) = (d : Int) := by omega
    by_cases h : k < d
    · have t1 : decide (k < d) = true := by simpa using h
      have hlt : 2 * k < n := by omega
      obtain ⟨b, hb⟩ : ∃ b, b = 2 * k := ⟨_, rfl⟩
      have e2 : (2 : Int) * (k : Int) = (b : Int) := by omega
      have HB : Hid (b = 2 ^ (j + 1)) := Lib.hid (by rw [hb, HK.out, Nat.pow_succ]; omega)
      have hbn : b < n := by omega
      have hb1 : 1 ≤ b := by omega
      have hbk : k < b := by omega
      clear hd hb hlt
      go_wp2_with fail
      go_round
      case rel => exact ⟨b, j + 1, rfl, HB, hbn, hb1⟩
      case measure => simp [intOf]; omega
    · have t1 : decide (k < d) = false := by simpa using h
      have hb : leftN n = k := by
        rw [HK.out]
        exact leftN_eq n j (by rw [← HK.out]; exact hk) (by rw [Nat.pow_succ, ← HK.out]; omega)
      have HB2 := Lib.hid hb
      clear hb hd
      go_wp2_with fail
      go_ret
      exact ⟨ret_i64 (congrArg (fun x : Nat => (x : Int)) HB2.out.symm), rfl⟩
end Go.Proofs.YtednkommpmdikaaDoor
