/- The reference's rotations. -/
import Derived.Test.YtheebajklnljdaaGreatDoorQShaA
import Derived.Deep.QuietTactic
import Derived.BigQuiet
namespace Go.Proofs.YtheebajklnljdaaGreatDoor
open Go Go.RowKit

theorem rot_eq2 (x n p q : Nat) (hx : x < 4294967296) (hp : p = 2 ^ (32 - n)) (hq : q = 2 ^ n) :
    bits BinOp.or IntKind.u32 ((x : Int) / q) ((x : Int) * p % 4294967296) = ((rotN x n : Nat) : Int) := by
  have e1 : (x : Int) * p % 4294967296 = ((x * p % 4294967296 : Nat) : Int) := by rw [Int.natCast_emod, Int.natCast_mul]; rfl
  have e2 : (x : Int) / q = ((x / q : Nat) : Int) := by rw [Int.natCast_ediv]
  rw [e1, e2, u32_or_nat _ _ (Nat.lt_of_le_of_lt (Nat.div_le_self _ _) hx) (Nat.mod_lt _ (by omega)), hp, hq]
  rfl

set_option maxHeartbeats 1000000 in
theorem rd_2 (x : Nat) (w : World) (hx : x < 4294967296) :
    Calls Tryz.prog 125 #[.int .u32 (x : Int), .int .i64 2] w fun e w' => e = .returned (.int .u32 (rotN x 2 : Nat)) ∧ ∃ q, w' = w.drewN q := by
  go_enter Tryz.func125, Tryz.ntmps125
  go_wp2_with fail
  go_quiet (fail)
  go_wp2_with fail
  go_ret
  exact ⟨ret_u32 (rot_eq2 x 2 1073741824 4 hx rfl rfl), _, rfl⟩

set_option maxHeartbeats 1000000 in
theorem rd_6 (x : Nat) (w : World) (hx : x < 4294967296) :
    Calls Tryz.prog 125 #[.int .u32 (x : Int), .int .i64 6] w fun e w' => e = .returned (.int .u32 (rotN x 6 : Nat)) ∧ ∃ q, w' = w.drewN q := by
  go_enter Tryz.func125, Tryz.ntmps125
  go_wp2_with fail
  go_quiet (fail)
  go_wp2_with fail
  go_ret
  exact ⟨ret_u32 (rot_eq2 x 6 67108864 64 hx rfl rfl), _, rfl⟩

set_option maxHeartbeats 1000000 in
theorem rd_7 (x : Nat) (w : World) (hx : x < 4294967296) :
    Calls Tryz.prog 125 #[.int .u32 (x : Int), .int .i64 7] w fun e w' => e = .returned (.int .u32 (rotN x 7 : Nat)) ∧ ∃ q, w' = w.drewN q := by
  go_enter Tryz.func125, Tryz.ntmps125
  go_wp2_with fail
  go_quiet (fail)
  go_wp2_with fail
  go_ret
  exact ⟨ret_u32 (rot_eq2 x 7 33554432 128 hx rfl rfl), _, rfl⟩

set_option maxHeartbeats 1000000 in
theorem rd_11 (x : Nat) (w : World) (hx : x < 4294967296) :
    Calls Tryz.prog 125 #[.int .u32 (x : Int), .int .i64 11] w fun e w' => e = .returned (.int .u32 (rotN x 11 : Nat)) ∧ ∃ q, w' = w.drewN q := by
  go_enter Tryz.func125, Tryz.ntmps125
  go_wp2_with fail
  go_quiet (fail)
  go_wp2_with fail
  go_ret
  exact ⟨ret_u32 (rot_eq2 x 11 2097152 2048 hx rfl rfl), _, rfl⟩

set_option maxHeartbeats 1000000 in
theorem rd_13 (x : Nat) (w : World) (hx : x < 4294967296) :
    Calls Tryz.prog 125 #[.int .u32 (x : Int), .int .i64 13] w fun e w' => e = .returned (.int .u32 (rotN x 13 : Nat)) ∧ ∃ q, w' = w.drewN q := by
  go_enter Tryz.func125, Tryz.ntmps125
  go_wp2_with fail
  go_quiet (fail)
  go_wp2_with fail
  go_ret
  exact ⟨ret_u32 (rot_eq2 x 13 524288 8192 hx rfl rfl), _, rfl⟩

set_option maxHeartbeats 1000000 in
theorem rd_17 (x : Nat) (w : World) (hx : x < 4294967296) :
    Calls Tryz.prog 125 #[.int .u32 (x : Int), .int .i64 17] w fun e w' => e = .returned (.int .u32 (rotN x 17 : Nat)) ∧ ∃ q, w' = w.drewN q := by
  go_enter Tryz.func125, Tryz.ntmps125
  go_wp2_with fail
  go_quiet (fail)
  go_wp2_with fail
  go_ret
  exact ⟨ret_u32 (rot_eq2 x 17 32768 131072 hx rfl rfl), _, rfl⟩

set_option maxHeartbeats 1000000 in
theorem rd_18 (x : Nat) (w : World) (hx : x < 4294967296) :
    Calls Tryz.prog 125 #[.int .u32 (x : Int), .int .i64 18] w fun e w' => e = .returned (.int .u32 (rotN x 18 : Nat)) ∧ ∃ q, w' = w.drewN q := by
  go_enter Tryz.func125, Tryz.ntmps125
  go_wp2_with fail
  go_quiet (fail)
  go_wp2_with fail
  go_ret
  exact ⟨ret_u32 (rot_eq2 x 18 16384 262144 hx rfl rfl), _, rfl⟩

set_option maxHeartbeats 1000000 in
theorem rd_19 (x : Nat) (w : World) (hx : x < 4294967296) :
    Calls Tryz.prog 125 #[.int .u32 (x : Int), .int .i64 19] w fun e w' => e = .returned (.int .u32 (rotN x 19 : Nat)) ∧ ∃ q, w' = w.drewN q := by
  go_enter Tryz.func125, Tryz.ntmps125
  go_wp2_with fail
  go_quiet (fail)
  go_wp2_with fail
  go_ret
  exact ⟨ret_u32 (rot_eq2 x 19 8192 524288 hx rfl rfl), _, rfl⟩

set_option maxHeartbeats 1000000 in
theorem rd_22 (x : Nat) (w : World) (hx : x < 4294967296) :
    Calls Tryz.prog 125 #[.int .u32 (x : Int), .int .i64 22] w fun e w' => e = .returned (.int .u32 (rotN x 22 : Nat)) ∧ ∃ q, w' = w.drewN q := by
  go_enter Tryz.func125, Tryz.ntmps125
  go_wp2_with fail
  go_quiet (fail)
  go_wp2_with fail
  go_ret
  exact ⟨ret_u32 (rot_eq2 x 22 1024 4194304 hx rfl rfl), _, rfl⟩

set_option maxHeartbeats 1000000 in
theorem rd_25 (x : Nat) (w : World) (hx : x < 4294967296) :
    Calls Tryz.prog 125 #[.int .u32 (x : Int), .int .i64 25] w fun e w' => e = .returned (.int .u32 (rotN x 25 : Nat)) ∧ ∃ q, w' = w.drewN q := by
  go_enter Tryz.func125, Tryz.ntmps125
  go_wp2_with fail
  go_quiet (fail)
  go_wp2_with fail
  go_ret
  exact ⟨ret_u32 (rot_eq2 x 25 128 33554432 hx rfl rfl), _, rfl⟩
end Go.Proofs.YtheebajklnljdaaGreatDoor
