/- left, isDigest, take, join. -/
import Derived.Test.YtgbemgndbemllaaGreatDoorQLeaf
import Derived.Deep.DeepCutAuto
import Derived.Lib.ItoaNum
import Derived.OwnWalk
namespace Go.Proofs.YtgbemgndbemllaaGreatDoor
open Go Go.RowKit

theorem left_ok (n : Nat) (h2 : 2 ≤ n) (hn : n ≤ 9223372036854775807) (w : World) :
    Calls Tryz.prog 67 #[.int .i64 n] w fun e w' => e = .returned (.int .i64 (leftN n)) ∧ w' = w := by
  obtain ⟨M, hM⟩ : ∃ M, M = n - 1 := ⟨_, rfl⟩
  obtain ⟨L, hL⟩ : ∃ L, L = M.log2 := ⟨_, rfl⟩
  have hlt := Nat.log2_self_le (n := M) (by omega)
  have hL40 : L < 63 := by
    apply Nat.lt_of_not_le; intro h
    rw [hL] at h
    have := Nat.pow_le_pow_right (n := 2) (by omega) h
    omega
  have hb : Lib.bitLen M = L + 1 := by
    obtain ⟨q1, q2, q3⟩ := Lib.bitLenAux_bounds 64 M (by omega) (by omega)
    have : M.log2 = Lib.bitLenAux 64 M - 1 := (Nat.log2_eq_iff (by omega)).2 ⟨q2, by rw [Nat.sub_add_cancel q1]; exact q3⟩
    unfold Lib.bitLen
    omega
  have e1 : (n : Int) - 1 = (M : Int) := by omega
  have m1 : (M : Int) ≤ 9223372036854775806 := by omega
  have m0 : (0 : Int) ≤ (M : Int) := by omega
  have hleft : leftN n = 2 ^ L := by unfold leftN; rw [← hM, hL]
  rw [hleft]
  have hpn : 2 ^ L ≤ 4611686018427387904 := Nat.le_trans (Nat.pow_le_pow_right (n := 2) (by omega) (show L ≤ 62 by omega)) (by decide)
  have ep : ((2 ^ L : Nat) : Int) = (2 : Int) ^ L := Int.natCast_pow 2 L
  have hp : (2 : Int) ^ L ≤ 4611686018427387904 := by omega
  have hp0 : (0 : Int) < (2 : Int) ^ L := by have := Nat.two_pow_pos L; omega
  rw [ep]
  clear hleft hL hlt hM
  have HB := Lib.hid hb
  clear hb
  go_enter Tryz.func67, Tryz.ntmps67
  go_wp2_with fail
  refine (Tryz.bits_Len (M : Int) w (by omega) (by omega)).mono ?_
  rintro e w1 ⟨rfl, rfl⟩
  rw [Int.toNat_natCast, HB.out]
  go_wp2_with fail
  go_ret
  exact ⟨rfl, rfl⟩

theorem isDigest_ok (s : ByteArray) (w : World) : Calls Tryz.prog 100 #[.string s] w fun e w' => e = .returned (.bool (decide (s.size = 32))) ∧ w' = w := by
  go_enter Tryz.func100, Tryz.ntmps100
  by_cases h : s.size = 32
  · have t : ((s.size : Int) == 32) = true := by simp; omega
    have h' : decide (s.size = 32) = true := by simp [h]
    rw [h']
    go_wp2_with fail
    go_ret
    exact ⟨rfl, rfl⟩
  · have t : ((s.size : Int) == 32) = false := by simp; omega
    have h' : decide (s.size = 32) = false := by simp [h]
    rw [h']
    go_wp2_with fail
    go_ret
    exact ⟨rfl, rfl⟩

/-- take of a proof with something in it -/
theorem take_ok (g o n c : Nat) (x : ByteArray) (w : World) (hn : n + 1 ≤ c) (hn2 : n ≤ 1000000) (hx : w.cell? ⟨g, o + n, none⟩ = some (.string x)) :
    Calls Tryz.prog 71 #[.slice (some ⟨g, o, none⟩) (n + 1) c] w fun e w' => e = .returned (.tuple #[.string x, .slice (some ⟨g, o, none⟩) n c, .bool true]) ∧ ∃ q, w' = w.drewN q := by
  obtain ⟨m, hm⟩ : ∃ m, m = n + 1 := ⟨_, rfl⟩
  have e1 : (m : Int) - 1 = (n : Int) := by omega
  have n0 : (0 : Int) ≤ (n : Int) := by omega
  have n1 : (n : Int) < (m : Int) := by omega
  have n2 : (n : Int) ≤ (c : Int) := by omega
  have t : ((m : Int) == 0) = false := by simp; omega
  have m2 : (m : Int) ≤ 1000001 := by omega
  have hx2 : w.cell? ((⟨g, o, none⟩ : Addr).add n) = some (.string x) := by
    have : (⟨g, o, none⟩ : Addr).add n = ⟨g, o + n, none⟩ := by unfold Addr.add; split <;> simp_all
    rw [this]; exact hx
  rw [← hm]
  clear hm
  go_enter Tryz.func71, Tryz.ntmps71
  go_wp2_with fail
  go_region
  go_wp2_with fail
  exact bodyPost_ret (results_tmp3 rfl _ _ _) rfl ⟨rfl, ⟨_, rfl⟩⟩
theorem take_none (A : Option Addr) (c : Nat) (w : World) :
    Calls Tryz.prog 71 #[.slice A 0 c] w fun e w' => e = .returned (.tuple #[.string ⟨#[]⟩, .slice none 0 0, .bool false]) ∧ w' = w := by
  go_enter Tryz.func71, Tryz.ntmps71
  go_wp2_with fail
  exact bodyPost_ret (results_tmp3 rfl _ _ _) rfl ⟨rfl, rfl⟩
end Go.Proofs.YtgbemgndbemllaaGreatDoor
