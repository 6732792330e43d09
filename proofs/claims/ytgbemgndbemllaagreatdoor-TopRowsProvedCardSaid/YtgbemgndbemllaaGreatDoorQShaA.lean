/- Rotations and their combinations. -/
import Derived.Test.YtgbemgndbemllaaGreatDoorQDBase
import Derived.Test.YtgbemgndbemllaaGreatDoorGc
import Derived.Laws.BitsAllLaws
import Derived.Laws.Bits64
import Derived.Laws.DeepNot64
import Derived.Test.YtgbemgndbemllaaGreatDoorChecked
import Derived.WalkKit
import Derived.WalkSpells
import Derived.WalkLawsBesides
namespace Go.Proofs.YtgbemgndbemllaaGreatDoor
open Go Go.RowKit

theorem rot_eq (x n p q : Nat) (hx : x < 4294967296) (hp : p = 2 ^ (32 - n)) (hq : q = 2 ^ n) :
    bits BinOp.or IntKind.u32 ((x : Int) * p % 4294967296) ((x : Int) / q) = ((rotN x n : Nat) : Int) := by
  have e1 : (x : Int) * p % 4294967296 = ((x * p % 4294967296 : Nat) : Int) := by rw [Int.natCast_emod, Int.natCast_mul]; rfl
  have e2 : (x : Int) / q = ((x / q : Nat) : Int) := by rw [Int.natCast_ediv]
  rw [e1, e2, u32_or_nat _ _ (Nat.mod_lt _ (by omega)) (Nat.lt_of_le_of_lt (Nat.div_le_self _ _) hx), Nat.or_comm, hp, hq]
  rfl

theorem rotN_lt (x n : Nat) (hx : x < 4294967296) : rotN x n < 4294967296 :=
  Nat.or_lt_two_pow (n := 32) (Nat.lt_of_le_of_lt (Nat.div_le_self _ _) hx) (Nat.mod_lt _ (by omega))

theorem xor32_lt {a b : Nat} (ha : a < 4294967296) (hb : b < 4294967296) : a ^^^ b < 4294967296 := Nat.xor_lt_two_pow (n := 32) ha hb

set_option maxHeartbeats 1000000 in
theorem rot_2 (x : Nat) (w : World) (hx : x < 4294967296) :
    Calls Tryz.prog 130 #[.int .u32 (x : Int), .int .i64 (-2)] w fun e w' => e = .returned (.int .u32 (rotN x 2 : Nat)) ∧ w = w' := by
  have hs : bits BinOp.and IntKind.u64 (IntKind.u64.wrap (-2)) 31 = 30 := by decide +kernel
  go_enter Tryz.func130, Tryz.ntmps130
  go_wp2_with fail
  go_ret
  exact ⟨ret_u32 (rot_eq x 2 1073741824 4 hx rfl rfl), rfl⟩

set_option maxHeartbeats 1000000 in
theorem rot_6 (x : Nat) (w : World) (hx : x < 4294967296) :
    Calls Tryz.prog 130 #[.int .u32 (x : Int), .int .i64 (-6)] w fun e w' => e = .returned (.int .u32 (rotN x 6 : Nat)) ∧ w = w' := by
  have hs : bits BinOp.and IntKind.u64 (IntKind.u64.wrap (-6)) 31 = 26 := by decide +kernel
  go_enter Tryz.func130, Tryz.ntmps130
  go_wp2_with fail
  go_ret
  exact ⟨ret_u32 (rot_eq x 6 67108864 64 hx rfl rfl), rfl⟩

set_option maxHeartbeats 1000000 in
theorem rot_7 (x : Nat) (w : World) (hx : x < 4294967296) :
    Calls Tryz.prog 130 #[.int .u32 (x : Int), .int .i64 (-7)] w fun e w' => e = .returned (.int .u32 (rotN x 7 : Nat)) ∧ w = w' := by
  have hs : bits BinOp.and IntKind.u64 (IntKind.u64.wrap (-7)) 31 = 25 := by decide +kernel
  go_enter Tryz.func130, Tryz.ntmps130
  go_wp2_with fail
  go_ret
  exact ⟨ret_u32 (rot_eq x 7 33554432 128 hx rfl rfl), rfl⟩

set_option maxHeartbeats 1000000 in
theorem rot_11 (x : Nat) (w : World) (hx : x < 4294967296) :
    Calls Tryz.prog 130 #[.int .u32 (x : Int), .int .i64 (-11)] w fun e w' => e = .returned (.int .u32 (rotN x 11 : Nat)) ∧ w = w' := by
  have hs : bits BinOp.and IntKind.u64 (IntKind.u64.wrap (-11)) 31 = 21 := by decide +kernel
  go_enter Tryz.func130, Tryz.ntmps130
  go_wp2_with fail
  go_ret
  exact ⟨ret_u32 (rot_eq x 11 2097152 2048 hx rfl rfl), rfl⟩

set_option maxHeartbeats 1000000 in
theorem rot_13 (x : Nat) (w : World) (hx : x < 4294967296) :
    Calls Tryz.prog 130 #[.int .u32 (x : Int), .int .i64 (-13)] w fun e w' => e = .returned (.int .u32 (rotN x 13 : Nat)) ∧ w = w' := by
  have hs : bits BinOp.and IntKind.u64 (IntKind.u64.wrap (-13)) 31 = 19 := by decide +kernel
  go_enter Tryz.func130, Tryz.ntmps130
  go_wp2_with fail
  go_ret
  exact ⟨ret_u32 (rot_eq x 13 524288 8192 hx rfl rfl), rfl⟩

set_option maxHeartbeats 1000000 in
theorem rot_17 (x : Nat) (w : World) (hx : x < 4294967296) :
    Calls Tryz.prog 130 #[.int .u32 (x : Int), .int .i64 (-17)] w fun e w' => e = .returned (.int .u32 (rotN x 17 : Nat)) ∧ w = w' := by
  have hs : bits BinOp.and IntKind.u64 (IntKind.u64.wrap (-17)) 31 = 15 := by decide +kernel
  go_enter Tryz.func130, Tryz.ntmps130
  go_wp2_with fail
  go_ret
  exact ⟨ret_u32 (rot_eq x 17 32768 131072 hx rfl rfl), rfl⟩

set_option maxHeartbeats 1000000 in
theorem rot_18 (x : Nat) (w : World) (hx : x < 4294967296) :
    Calls Tryz.prog 130 #[.int .u32 (x : Int), .int .i64 (-18)] w fun e w' => e = .returned (.int .u32 (rotN x 18 : Nat)) ∧ w = w' := by
  have hs : bits BinOp.and IntKind.u64 (IntKind.u64.wrap (-18)) 31 = 14 := by decide +kernel
  go_enter Tryz.func130, Tryz.ntmps130
  go_wp2_with fail
  go_ret
  exact ⟨ret_u32 (rot_eq x 18 16384 262144 hx rfl rfl), rfl⟩

set_option maxHeartbeats 1000000 in
theorem rot_19 (x : Nat) (w : World) (hx : x < 4294967296) :
    Calls Tryz.prog 130 #[.int .u32 (x : Int), .int .i64 (-19)] w fun e w' => e = .returned (.int .u32 (rotN x 19 : Nat)) ∧ w = w' := by
  have hs : bits BinOp.and IntKind.u64 (IntKind.u64.wrap (-19)) 31 = 13 := by decide +kernel
  go_enter Tryz.func130, Tryz.ntmps130
  go_wp2_with fail
  go_ret
  exact ⟨ret_u32 (rot_eq x 19 8192 524288 hx rfl rfl), rfl⟩

set_option maxHeartbeats 1000000 in
theorem rot_22 (x : Nat) (w : World) (hx : x < 4294967296) :
    Calls Tryz.prog 130 #[.int .u32 (x : Int), .int .i64 (-22)] w fun e w' => e = .returned (.int .u32 (rotN x 22 : Nat)) ∧ w = w' := by
  have hs : bits BinOp.and IntKind.u64 (IntKind.u64.wrap (-22)) 31 = 10 := by decide +kernel
  go_enter Tryz.func130, Tryz.ntmps130
  go_wp2_with fail
  go_ret
  exact ⟨ret_u32 (rot_eq x 22 1024 4194304 hx rfl rfl), rfl⟩

set_option maxHeartbeats 1000000 in
theorem rot_25 (x : Nat) (w : World) (hx : x < 4294967296) :
    Calls Tryz.prog 130 #[.int .u32 (x : Int), .int .i64 (-25)] w fun e w' => e = .returned (.int .u32 (rotN x 25 : Nat)) ∧ w = w' := by
  have hs : bits BinOp.and IntKind.u64 (IntKind.u64.wrap (-25)) 31 = 7 := by decide +kernel
  go_enter Tryz.func130, Tryz.ntmps130
  go_wp2_with fail
  go_ret
  exact ⟨ret_u32 (rot_eq x 25 128 33554432 hx rfl rfl), rfl⟩

set_option maxRecDepth 100000 in
set_option maxHeartbeats 2000000 in
theorem mixed_s0 (x : Nat) (g : Nat) (w : World) (hx : x < 4294967296) (h0 : w.cell? ⟨g, 0, none⟩ = some (.int .i64 7)) (h1 : w.cell? ⟨g, 1, none⟩ = some (.int .i64 18)) :
    Calls Tryz.prog 115 #[.int .u32 (x : Int), .slice (some ⟨g, 0, none⟩) 2 2] w fun e w' => e = .returned (.int .u32 ((rotN x 7 ^^^ rotN x 18 : Nat) : Int)) ∧ w = w' := by
  have s7 : bits BinOp.and IntKind.u64 (IntKind.u64.wrap (-7)) 31 = 25 := by decide +kernel
  have s18 : bits BinOp.and IntKind.u64 (IntKind.u64.wrap (-18)) 31 = 14 := by decide +kernel
  go_enter Tryz.func115, Tryz.ntmps115
  go_wp2_with fail
  go_rounds 3
  go_ret
  refine ⟨ret_u32 ?_, rfl⟩
  have e0 := u32_xor_nat 0 (rotN x 7) (by omega) (rotN_lt _ _ hx)
  rw [Nat.zero_xor] at e0
  have r7 : bits BinOp.or IntKind.u32 ((x : Int) * 33554432 % 4294967296) ((x : Int) / 128) = ((rotN x 7 : Nat) : Int) := rot_eq x 7 33554432 128 hx rfl rfl
  have r18 : bits BinOp.or IntKind.u32 ((x : Int) * 16384 % 4294967296) ((x : Int) / 262144) = ((rotN x 18 : Nat) : Int) := rot_eq x 18 16384 262144 hx rfl rfl
  rw [r7, r18]
  rw [show (0 : Int) = ((0 : Nat) : Int) from rfl, e0, u32_xor_nat _ _ (rotN_lt _ _ hx) (rotN_lt _ _ hx)]

set_option maxRecDepth 100000 in
set_option maxHeartbeats 2000000 in
theorem mixed_s1 (x : Nat) (g : Nat) (w : World) (hx : x < 4294967296) (h0 : w.cell? ⟨g, 0, none⟩ = some (.int .i64 17)) (h1 : w.cell? ⟨g, 1, none⟩ = some (.int .i64 19)) :
    Calls Tryz.prog 115 #[.int .u32 (x : Int), .slice (some ⟨g, 0, none⟩) 2 2] w fun e w' => e = .returned (.int .u32 ((rotN x 17 ^^^ rotN x 19 : Nat) : Int)) ∧ w = w' := by
  have s17 : bits BinOp.and IntKind.u64 (IntKind.u64.wrap (-17)) 31 = 15 := by decide +kernel
  have s19 : bits BinOp.and IntKind.u64 (IntKind.u64.wrap (-19)) 31 = 13 := by decide +kernel
  go_enter Tryz.func115, Tryz.ntmps115
  go_wp2_with fail
  go_rounds 3
  go_ret
  refine ⟨ret_u32 ?_, rfl⟩
  have e0 := u32_xor_nat 0 (rotN x 17) (by omega) (rotN_lt _ _ hx)
  rw [Nat.zero_xor] at e0
  have r17 : bits BinOp.or IntKind.u32 ((x : Int) * 32768 % 4294967296) ((x : Int) / 131072) = ((rotN x 17 : Nat) : Int) := rot_eq x 17 32768 131072 hx rfl rfl
  have r19 : bits BinOp.or IntKind.u32 ((x : Int) * 8192 % 4294967296) ((x : Int) / 524288) = ((rotN x 19 : Nat) : Int) := rot_eq x 19 8192 524288 hx rfl rfl
  rw [r17, r19]
  rw [show (0 : Int) = ((0 : Nat) : Int) from rfl, e0, u32_xor_nat _ _ (rotN_lt _ _ hx) (rotN_lt _ _ hx)]

set_option maxRecDepth 100000 in
set_option maxHeartbeats 2000000 in
theorem mixed_b0 (x : Nat) (g : Nat) (w : World) (hx : x < 4294967296) (h0 : w.cell? ⟨g, 0, none⟩ = some (.int .i64 2)) (h1 : w.cell? ⟨g, 1, none⟩ = some (.int .i64 13)) (h2 : w.cell? ⟨g, 2, none⟩ = some (.int .i64 22)) :
    Calls Tryz.prog 115 #[.int .u32 (x : Int), .slice (some ⟨g, 0, none⟩) 3 3] w fun e w' => e = .returned (.int .u32 ((rotN x 2 ^^^ rotN x 13 ^^^ rotN x 22 : Nat) : Int)) ∧ w = w' := by
  have s2 : bits BinOp.and IntKind.u64 (IntKind.u64.wrap (-2)) 31 = 30 := by decide +kernel
  have s13 : bits BinOp.and IntKind.u64 (IntKind.u64.wrap (-13)) 31 = 19 := by decide +kernel
  have s22 : bits BinOp.and IntKind.u64 (IntKind.u64.wrap (-22)) 31 = 10 := by decide +kernel
  go_enter Tryz.func115, Tryz.ntmps115
  go_wp2_with fail
  go_rounds 4
  go_ret
  refine ⟨ret_u32 ?_, rfl⟩
  have e0 := u32_xor_nat 0 (rotN x 2) (by omega) (rotN_lt _ _ hx)
  rw [Nat.zero_xor] at e0
  have r2 : bits BinOp.or IntKind.u32 ((x : Int) * 1073741824 % 4294967296) ((x : Int) / 4) = ((rotN x 2 : Nat) : Int) := rot_eq x 2 1073741824 4 hx rfl rfl
  have r13 : bits BinOp.or IntKind.u32 ((x : Int) * 524288 % 4294967296) ((x : Int) / 8192) = ((rotN x 13 : Nat) : Int) := rot_eq x 13 524288 8192 hx rfl rfl
  have r22 : bits BinOp.or IntKind.u32 ((x : Int) * 1024 % 4294967296) ((x : Int) / 4194304) = ((rotN x 22 : Nat) : Int) := rot_eq x 22 1024 4194304 hx rfl rfl
  rw [r2, r13, r22]
  rw [show (0 : Int) = ((0 : Nat) : Int) from rfl, e0, u32_xor_nat _ _ (rotN_lt _ _ hx) (rotN_lt _ _ hx), u32_xor_nat _ _ (xor32_lt (rotN_lt _ _ hx) (rotN_lt _ _ hx)) (rotN_lt _ _ hx)]

set_option maxRecDepth 100000 in
set_option maxHeartbeats 2000000 in
theorem mixed_b1 (x : Nat) (g : Nat) (w : World) (hx : x < 4294967296) (h0 : w.cell? ⟨g, 0, none⟩ = some (.int .i64 6)) (h1 : w.cell? ⟨g, 1, none⟩ = some (.int .i64 11)) (h2 : w.cell? ⟨g, 2, none⟩ = some (.int .i64 25)) :
    Calls Tryz.prog 115 #[.int .u32 (x : Int), .slice (some ⟨g, 0, none⟩) 3 3] w fun e w' => e = .returned (.int .u32 ((rotN x 6 ^^^ rotN x 11 ^^^ rotN x 25 : Nat) : Int)) ∧ w = w' := by
  have s6 : bits BinOp.and IntKind.u64 (IntKind.u64.wrap (-6)) 31 = 26 := by decide +kernel
  have s11 : bits BinOp.and IntKind.u64 (IntKind.u64.wrap (-11)) 31 = 21 := by decide +kernel
  have s25 : bits BinOp.and IntKind.u64 (IntKind.u64.wrap (-25)) 31 = 7 := by decide +kernel
  go_enter Tryz.func115, Tryz.ntmps115
  go_wp2_with fail
  go_rounds 4
  go_ret
  refine ⟨ret_u32 ?_, rfl⟩
  have e0 := u32_xor_nat 0 (rotN x 6) (by omega) (rotN_lt _ _ hx)
  rw [Nat.zero_xor] at e0
  have r6 : bits BinOp.or IntKind.u32 ((x : Int) * 67108864 % 4294967296) ((x : Int) / 64) = ((rotN x 6 : Nat) : Int) := rot_eq x 6 67108864 64 hx rfl rfl
  have r11 : bits BinOp.or IntKind.u32 ((x : Int) * 2097152 % 4294967296) ((x : Int) / 2048) = ((rotN x 11 : Nat) : Int) := rot_eq x 11 2097152 2048 hx rfl rfl
  have r25 : bits BinOp.or IntKind.u32 ((x : Int) * 128 % 4294967296) ((x : Int) / 33554432) = ((rotN x 25 : Nat) : Int) := rot_eq x 25 128 33554432 hx rfl rfl
  rw [r6, r11, r25]
  rw [show (0 : Int) = ((0 : Nat) : Int) from rfl, e0, u32_xor_nat _ _ (rotN_lt _ _ hx) (rotN_lt _ _ hx), u32_xor_nat _ _ (xor32_lt (rotN_lt _ _ hx) (rotN_lt _ _ hx)) (rotN_lt _ _ hx)]

end Go.Proofs.YtgbemgndbemllaaGreatDoor
