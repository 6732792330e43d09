/- The walk of sane, of the laws of package wire. -/
import Derived.Test.YtflnbhhgdlehbaaDoorStrW
import Derived.Test.YtflnbhhgdlehbaaDoorSumW
import Derived.Test.YtflnbhhgdlehbaaDoorPickW
namespace Go.Proofs.YtflnbhhgdlehbaaDoor
open Go Go.RowKit

theorem c_put1 : putL (-64) = [127] := by decide +kernel
theorem c_put2 : putL 64 = [128, 1] := by decide +kernel
theorem c_int1 : getInt [97, 172, 2, 98] 1 = (150, 3, 0) := by decide +kernel
theorem c_int2 : getInt [128, 0] 0 = (0, 0, 10) := by decide +kernel
theorem c_int3 : getInt [] 1 = (0, 0, 2) := by decide +kernel
theorem c_puts : putS [97, 98] = [4, 97, 98] := by decide +kernel
theorem c_str1 : getStr [4, 97, 98, 99] 0 = ([97, 98], 3, 0) := by decide +kernel
theorem c_str2 : getStr [4, 97] 0 = ([], 0, 10) := by decide +kernel
theorem c_sum : sumL [49, 50, 51, 52, 53, 54, 55, 56, 57] = 3808858755 := by decide +kernel

/-- what PutInt returns -/
def putA (n : Int) : List UInt8 := if n < -4611686018427387903 ∨ 4611686018427387903 < n then [] else putL n
def putE (n : Int) : Int := if n < -4611686018427387903 ∨ 4611686018427387903 < n then 10 else 0

theorem putInt_all (n : Int) (w : World) :
    Calls Tryd.prog 12 #[.int .i64 n] w fun e w' => e = .returned (.tuple #[.string ⟨(putA n).toArray⟩, .int .i64 (putE n)]) ∧ Below w.heap.size w w' := by
  unfold putA putE
  by_cases h : n < -4611686018427387903 ∨ 4611686018427387903 < n
  · rw [if_pos h, if_pos h]
    exact (putInt_bad n h w).mono fun e w' ⟨he, hw⟩ => ⟨he, hw ▸ Below.refl _ _⟩
  · rw [if_neg h, if_neg h]
    exact putInt_ok n (by omega) (by omega) w

theorem rPutInt_all (n : Int) (w : World) :
    Calls Tryd.prog 13 #[.int .i64 n] w fun e w' => e = .returned (.tuple #[.string ⟨(putA n).toArray⟩, .int .i64 (putE n)]) ∧ Below w.heap.size w w' := by
  unfold putA putE
  by_cases h : n < -4611686018427387903 ∨ 4611686018427387903 < n
  · rw [if_pos h, if_pos h]
    exact (rPutInt_bad n h w).mono fun e w' ⟨he, hw⟩ => ⟨he, hw ▸ Below.refl _ _⟩
  · rw [if_neg h, if_neg h]
    exact rPutInt_ok n (by omega) (by omega) w

set_option maxRecDepth 100000 in
set_option maxHeartbeats 1000000 in
theorem sane_any (w : World) (hT : TabOk w) :
    Calls Tryd.prog 10 #[] w fun e w' => e = .returned (.bool true) ∧ Below w.heap.size w w' := by
  have HT := Lib.hid hT
  clear hT
  go_enter Tryd.func10, Tryd.ntmps10
  go_wp2_with fail
  refine (putInt_ok (-64) (by omega) (by omega) _).mono ?_
  rintro e w1 ⟨rfl, b1⟩
  rw [c_put1]
  go_wp2_with fail
  refine (putInt_ok 64 (by omega) (by omega) _).mono ?_
  rintro e w2 ⟨rfl, b2⟩
  rw [c_put2]
  go_wp2_with fail
  refine (int_any _ 1 _ (by decide) (by omega) (by omega) _ _ _ c_int1).mono ?_
  rintro e w' ⟨rfl, rfl⟩
  go_wp2_with fail
  refine (int_any _ 0 _ (by decide) (by omega) (by omega) _ _ _ c_int2).mono ?_
  rintro e w' ⟨rfl, rfl⟩
  go_wp2_with fail
  refine (putString_ok _ _ (by decide)).mono ?_
  rintro e w3 ⟨rfl, b3⟩
  rw [show (⟨#[97, 98]⟩ : ByteArray).data.toList = [97, 98] from rfl, c_puts]
  go_wp2_with fail
  refine (string_any _ 0 _ (by decide) (by omega) (by omega) _ _ _ c_str1).mono ?_
  rintro e w' ⟨rfl, rfl⟩
  go_wp2_with fail
  refine (string_any _ 0 _ (by decide) (by omega) (by omega) _ _ _ c_str2).mono ?_
  rintro e w' ⟨rfl, rfl⟩
  go_wp2_with fail
  refine (putInt_bad 4611686018427387904 (.inr (by omega)) _).mono ?_
  rintro e w' ⟨rfl, rfl⟩
  go_wp2_with fail
  refine (int_any _ 1 _ (by decide) (by omega) (by omega) _ _ _ c_int3).mono ?_
  rintro e w' ⟨rfl, rfl⟩
  have bb : Below w.heap.size w w3 := b1.trans ((b2.trans (b3.mono b2.size)).mono b1.size)
  have hT3 := HT.out.later bb
  have HT3 := Lib.hid hT3
  clear hT3 b1 b2 b3
  go_wp2_with fail
  refine (sum_any _ _ (by decide) HT3.out).mono ?_
  rintro e w' ⟨rfl, rfl⟩
  rw [show (⟨#[49, 50, 51, 52, 53, 54, 55, 56, 57]⟩ : ByteArray).data.toList = [49, 50, 51, 52, 53, 54, 55, 56, 57] from rfl, c_sum]
  go_wp2_with fail
  go_ret
  exact ⟨rfl, bb⟩

end Go.Proofs.YtflnbhhgdlehbaaDoor
