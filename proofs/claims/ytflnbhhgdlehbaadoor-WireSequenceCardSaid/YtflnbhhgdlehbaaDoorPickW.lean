/- The walks of pick and NumberFrom of the laws of package wire. -/
import Derived.Test.YtflnbhhgdlehbaaDoorWireP
import Derived.Test.YtflnbhhgdlehbaaDoorChecked
import Derived.WalkKit
import Derived.WalkSpells
import Derived.WalkLawsBesides
import Derived.Lib.Hide
namespace Go.Proofs.YtflnbhhgdlehbaaDoor
open Go Go.RowKit

/-- pick -/
def pickZ (c n : Int) : Int := if c < 0 then (-(c + 1)) % n else c % n

theorem pickZ_range (c n : Int) (h : 0 < n) : 0 ≤ pickZ c n ∧ pickZ c n < n := by
  unfold pickZ; split
  · exact ⟨Int.emod_nonneg _ (by omega), Int.emod_lt_of_pos _ h⟩
  · exact ⟨Int.emod_nonneg _ (by omega), Int.emod_lt_of_pos _ h⟩

theorem ret_int' {k : IntKind} {a b : Int} (h : a = b) : Ending.returned (.int k a) = Ending.returned (.int k b) := by rw [h]

set_option maxHeartbeats 400000 in
theorem pick_any (c n : Int) (w : World) (h1 : -9223372036854775808 ≤ c) (h2 : c ≤ 9223372036854775807) (h3 : 0 < n) (h4 : n ≤ 4611686018427387904) :
    Calls Tryd.prog 14 #[.int .i64 c, .int .i64 n] w fun e w' => e = .returned (.int .i64 (pickZ c n)) ∧ w = w' := by
  by_cases hc : c < 0
  · go_enter Tryd.func14, Tryd.ntmps14
    go_wp2
    go_ret
    refine ⟨ret_int' (a := -((c + 1).tmod n)) ?_, rfl⟩
    rw [pickZ, if_pos hc, ← Int.neg_tmod, Int.tmod_eq_emod_of_nonneg (by omega)]
  · go_enter Tryd.func14, Tryd.ntmps14
    go_wp2
    go_ret
    exact ⟨ret_int' (by rw [pickZ, if_neg (by omega)]), rfl⟩

/-- the eight sizes of NumberFrom -/
def nfT : List Int := [64, 128, 8192, 16384, 1073741824, 36028797018963968, 576460752303423488, 2]

/-- NumberFrom -/
def numZ (c : Int) : Int :=
  if 8 ≤ pickZ c 16 then -(pickZ (pickZ c 4611686018427387904 / 8) (nfT.getD (pickZ c 8).toNat 0)) else pickZ (pickZ c 4611686018427387904 / 8) (nfT.getD (pickZ c 8).toNat 0)

theorem nfT_range (i : Nat) (h : i < 8) : 0 < nfT.getD i 0 ∧ nfT.getD i 0 ≤ 576460752303423488 := by
  have : ∀ i, i < 8 → 0 < nfT.getD i 0 ∧ nfT.getD i 0 ≤ 576460752303423488 := by decide
  exact this i h

theorem numZ_range (c : Int) : -576460752303423488 ≤ numZ c ∧ numZ c ≤ 576460752303423488 := by
  have h := pickZ_range c 8 (by omega)
  have h2 := nfT_range (pickZ c 8).toNat (by omega)
  have h3 := pickZ_range (pickZ c 4611686018427387904 / 8) _ h2.1
  unfold numZ; split <;> omega

theorem numZ_ok (c : Int) : IntOk (numZ c) := by
  have := numZ_range c
  exact ⟨by omega, by omega⟩

theorem nfT_at (j : Nat) (h : j < 8) : ([Value.int IntKind.i64 64, Value.int IntKind.i64 128, Value.int IntKind.i64 8192, Value.int IntKind.i64 16384,
        Value.int IntKind.i64 1073741824, Value.int IntKind.i64 36028797018963968, Value.int IntKind.i64 576460752303423488, Value.int IntKind.i64 2] : List Value)[j]'h = .int .i64 (nfT.getD j 0) := by
  match j, h with
  | 0, _ => rfl
  | 1, _ => rfl
  | 2, _ => rfl
  | 3, _ => rfl
  | 4, _ => rfl
  | 5, _ => rfl
  | 6, _ => rfl
  | 7, _ => rfl
  | j + 8, h => exact absurd h (by omega)

set_option maxRecDepth 100000 in
set_option maxHeartbeats 400000 in
theorem numberFrom_any (c : Int) (w : World) (h1 : -9223372036854775808 ≤ c) (h2 : c ≤ 9223372036854775807) :
    Calls Tryd.prog 11 #[.int .i64 c] w fun e w' => e = .returned (.int .i64 (numZ c)) ∧ Below w.heap.size w w' := by
  have hp := pickZ_range c 8 (by omega)
  have hq := pickZ_range c 4611686018427387904 (by omega)
  have hr := pickZ_range c 16 (by omega)
  have ht := nfT_range (pickZ c 8).toNat (by omega)
  have hnum : numZ c = if 8 ≤ pickZ c 16 then -(pickZ (pickZ c 4611686018427387904 / 8) (nfT.getD (pickZ c 8).toNat 0)) else pickZ (pickZ c 4611686018427387904 / 8) (nfT.getD (pickZ c 8).toNat 0) := rfl
  have HN := Lib.hid hnum
  have hpk := pickZ_range (pickZ c 4611686018427387904 / 8) _ ht.1
  clear hnum
  go_enter Tryd.func11, Tryd.ntmps11
  go_wp2_with fail
  refine (pick_any c 4611686018427387904 _ h1 h2 (by omega) (by omega)).mono ?_
  rintro e w' ⟨rfl, rfl⟩
  go_wp2_with fail
  refine (pick_any c 8 _ h1 h2 (by omega) (by omega)).mono ?_
  rintro e w' ⟨rfl, rfl⟩
  go_wp2_with fail
  rw [nfT_at]
  obtain ⟨m, hm⟩ : ∃ m, m = nfT.getD (pickZ c 8).toNat 0 := ⟨_, rfl⟩
  rw [← hm] at ht hpk ⊢
  have HM := Lib.hid hm
  clear hm
  refine (pick_any _ m _ (by omega) (by omega) (by omega) (by omega)).mono ?_
  rintro e w' ⟨rfl, rfl⟩
  go_wp2_with fail
  refine (pick_any c 16 _ h1 h2 (by omega) (by omega)).mono ?_
  rintro e w' ⟨rfl, rfl⟩
  by_cases h8 : 8 ≤ pickZ c 16
  · have hd : decide (8 ≤ pickZ c 16) = true := decide_eq_true h8
    go_wp2
    go_ret
    refine ⟨ret_int' ?_, (Below.refl _ _).alloc (Nat.le_refl _) _⟩
    rw [HN.out, if_pos h8, HM.out]
  · have hd : decide (8 ≤ pickZ c 16) = false := decide_eq_false h8
    go_wp2
    go_ret
    refine ⟨ret_int' ?_, (Below.refl _ _).alloc (Nat.le_refl _) _⟩
    rw [HN.out, if_neg (by omega), HM.out]

end Go.Proofs.YtflnbhhgdlehbaaDoor
