/- Facts on bit operations in the walk's own form. Plain. -/
import Derived.Laws.BitsAllLaws
import Derived.Laws.Bits64
import Derived.WalkKit
import Derived.Laws.DeepNot64
import Derived.Test.YtgbemgndbemllaaGreatDoorGc
namespace Go.Proofs.YtgbemgndbemllaaGreatDoor
open Go Go.RowKit

theorem and127_u64 (y : Nat) (h : y < 18446744073709551616) : bits BinOp.and IntKind.u64 (y : Int) 127 = ((y % 128 : Nat) : Int) := by
  have := u64_and_nat y 127 h (by omega)
  rw [nat_mask7] at this; exact this
theorem and1_u64 (y : Nat) (h : y < 18446744073709551616) : bits BinOp.and IntKind.u64 (y : Int) 1 = ((y % 2 : Nat) : Int) := by
  have := u64_and_nat y 1 h (by omega)
  rw [nat_mask1] at this; exact this
theorem and127_u8 (y : Nat) (h : y < 256) : bits BinOp.and IntKind.u8 (y : Int) 127 = ((y % 128 : Nat) : Int) := by
  have := u8_and_nat y 127 h (by omega)
  rw [nat_mask7] at this; exact this
theorem or128_u8 (y : Nat) (h : y < 128) : bits BinOp.or IntKind.u8 (y : Int) 128 = ((y + 128 : Nat) : Int) := by
  have := u8_or_nat y 128 (by omega) (by omega)
  rw [Nat.or_comm, nat_join 7 128 y (by decide) (by omega)] at this
  rw [Nat.add_comm]; exact this
theorem and15_u32 (y : Nat) (h : y < 4294967296) : bits BinOp.and IntKind.u32 (y : Int) 15 = ((y % 16 : Nat) : Int) := by
  have := u32_and_nat y 15 h (by omega)
  rw [nat_mask4] at this; exact this

theorem i64_xor_neg (a : Nat) (h : a < 9223372036854775808) : bits BinOp.xor IntKind.i64 (a : Int) (-1) = -1 - (a : Int) := by
  rw [← i64_not a h]
  show IntKind.i64.wrap ((BitVec.ofInt 64 (a : Int) ^^^ BitVec.ofInt 64 (-1)).toNat : Int) = IntKind.i64.wrap ((BitVec.ofInt 64 (-1) ^^^ BitVec.ofInt 64 (a : Int)).toNat : Int)
  rw [BitVec.xor_comm]

theorem i64_xor_zero (a : Nat) (h : a < 9223372036854775808) : bits BinOp.xor IntKind.i64 (a : Int) 0 = (a : Int) := by
  show IntKind.i64.wrap ((BitVec.ofInt 64 (a : Int) ^^^ BitVec.ofInt 64 0).toNat : Int) = (a : Int)
  rw [show BitVec.ofInt 64 0 = 0#64 by rfl, BitVec.xor_zero, ofInt_u64 a (by omega), IntKind.wrap_i64]
  omega

/-- the next number, by shift and or -/
theorem step_or (y c k : Nat) (hc : c < 256) (hy : y < 2 ^ (7 * k)) (hk : k < 9) :
    bits BinOp.or IntKind.u64 (y : Int) (IntKind.u64.wrap (IntKind.u64.wrap (bits BinOp.and IntKind.u8 (c : Int) 127) * 2 ^ (7 * k))) = ((y + c % 128 * 2 ^ (7 * k) : Nat) : Int) := by
  have hp : 2 ^ (7 * k) ≤ 2 ^ 56 := Nat.pow_le_pow_right (by omega) (by omega)
  have hm : c % 128 < 128 := Nat.mod_lt _ (by omega)
  have hmul : c % 128 * 2 ^ (7 * k) < 128 * 2 ^ 56 := Nat.lt_of_lt_of_le (Nat.mul_lt_mul_of_pos_right hm (Nat.two_pow_pos _)) (Nat.mul_le_mul_left _ hp)
  rw [and127_u8 c hc]
  have e1 : IntKind.u64.wrap ((c % 128 : Nat) : Int) = ((c % 128 : Nat) : Int) := by rw [IntKind.wrap_u64]; omega
  have e2 : ((c % 128 : Nat) : Int) * 2 ^ (7 * k) = ((c % 128 * 2 ^ (7 * k) : Nat) : Int) := by rw [Int.natCast_mul, Int.natCast_pow]; rfl
  rw [e1, e2]
  have e3 : IntKind.u64.wrap ((c % 128 * 2 ^ (7 * k) : Nat) : Int) = ((c % 128 * 2 ^ (7 * k) : Nat) : Int) := by rw [IntKind.wrap_u64]; omega
  rw [e3, u64_or_nat _ _ (by omega) (by omega), Nat.or_comm, nat_join (7 * k) _ _ (Nat.mul_mod_left _ _) hy, Nat.add_comm]

/-- the next number, by sum -/
theorem step_add (y c k : Nat) (hy : y < 2 ^ (7 * k)) (hk : k < 9) :
    IntKind.u64.wrap ((y : Int) + IntKind.u64.wrap ((c : Int) % 128 * 2 ^ (7 * k))) = ((y + c % 128 * 2 ^ (7 * k) : Nat) : Int) := by
  have hp : 2 ^ (7 * k) ≤ 2 ^ 56 := Nat.pow_le_pow_right (by omega) (by omega)
  have hm : c % 128 < 128 := Nat.mod_lt _ (by omega)
  have hmul : c % 128 * 2 ^ (7 * k) < 128 * 2 ^ 56 := Nat.lt_of_lt_of_le (Nat.mul_lt_mul_of_pos_right hm (Nat.two_pow_pos _)) (Nat.mul_le_mul_left _ hp)
  have e2 : (c : Int) % 128 * 2 ^ (7 * k) = ((c % 128 * 2 ^ (7 * k) : Nat) : Int) := by rw [Int.natCast_mul, Int.natCast_pow]; rfl
  rw [e2]
  have e3 : IntKind.u64.wrap ((c % 128 * 2 ^ (7 * k) : Nat) : Int) = ((c % 128 * 2 ^ (7 * k) : Nat) : Int) := by rw [IntKind.wrap_u64]; omega
  rw [e3, IntKind.wrap_u64]; omega

/-- the integer of a number, by shift and xor -/
theorem unzz_xor (y : Nat) (h : y < 9223372036854775808) :
    bits BinOp.xor IntKind.i64 (wrap64 ((y : Int) / 2)) (wrap64 (-wrap64 (bits BinOp.and IntKind.u64 (y : Int) 1))) = unzz y := by
  rw [and1_u64 y (by omega)]
  have e1 : wrap64 ((y : Int) / 2) = ((y / 2 : Nat) : Int) := by unfold wrap64; omega
  rw [e1]
  unfold unzz
  split
  · rename_i h0
    rw [h0, show wrap64 (-wrap64 ((0 : Nat) : Int)) = 0 by simp [wrap64], i64_xor_zero _ (by omega)]
  · rw [show y % 2 = 1 by omega, show wrap64 (-wrap64 ((1 : Nat) : Int)) = -1 by simp [wrap64], i64_xor_neg _ (by omega)]
    omega

end Go.Proofs.YtgbemgndbemllaaGreatDoor
