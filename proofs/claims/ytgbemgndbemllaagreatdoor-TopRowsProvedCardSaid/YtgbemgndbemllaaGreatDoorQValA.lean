/- Value of a row's column. -/
import Derived.Test.YtgbemgndbemllaaGreatDoorQMapG
import Derived.Test.YtgbemgndbemllaaGreatDoorGc
import Derived.Test.YtgbemgndbemllaaGreatDoorQDBase
import Derived.Test.YtgbemgndbemllaaGreatDoorChecked
import Derived.Shelf.Abstract
import Derived.Shelf.RegionOpen
import Derived.WalkSpells
import Derived.Lib.Hide
import Derived.WalkLawsBesides
namespace Go.Proofs.YtgbemgndbemllaaGreatDoor
open Go Go.RowKit
attribute [local go_sem] Oper.semAt_some

set_option maxRecDepth 100000 in
set_option maxHeartbeats 4000000 in
theorem value_ok (r : Rw) (c : Int) (w : World) :
    Calls Tryz.prog 39 #[rwV r, .int .i64 c] w fun e w' => e = .returned (.int .i64 (r.val c)) ∧ w' = w.alloc (.cells (rwC r).toArray 67) := by
  obtain ⟨t, k, v0, v1, v2⟩ := r
  unfold rwV rwC
  dsimp only
  by_cases c0 : c = 0
  · subst c0
    go_enter Tryz.func39, Tryz.ntmps39
    go_wp2_with fail
    go_ret
    exact ⟨rfl, rfl⟩
  by_cases c1 : c = 1
  · subst c1
    go_enter Tryz.func39, Tryz.ntmps39
    go_wp2_with fail
    go_ret
    exact ⟨rfl, rfl⟩
  by_cases c2 : c = 2
  · subst c2
    go_enter Tryz.func39, Tryz.ntmps39
    go_wp2_with fail
    go_ret
    exact ⟨rfl, rfl⟩
  by_cases c3 : c = 3
  · subst c3
    go_enter Tryz.func39, Tryz.ntmps39
    go_wp2_with fail
    go_ret
    exact ⟨rfl, rfl⟩
  · have e : Rw.val ⟨t, k, v0, v1, v2⟩ c = 0 := by simp [Rw.val, c0, c1, c2, c3]
    have t0 : (c == 0) = false := by simpa using c0
    have t1 : (c == 1) = false := by simpa using c1
    have t2 : (c == 2) = false := by simpa using c2
    have t3 : (c == 3) = false := by simpa using c3
    rw [e]
    clear e
    go_enter Tryz.func39, Tryz.ntmps39
    go_wp2_with fail
    go_ret
    exact ⟨rfl, rfl⟩
theorem value_below (r : Rw) (c : Int) (w : World) :
    Calls Tryz.prog 39 #[rwV r, .int .i64 c] w fun e w' => e = .returned (.int .i64 (r.val c)) ∧ Below w.heap.size w w' := by
  refine (value_ok r c w).mono ?_
  rintro e w' ⟨rfl, rfl⟩
  exact ⟨rfl, Below.alloc (Below.refl _ _) (Nat.le_refl _) _⟩
end Go.Proofs.YtgbemgndbemllaaGreatDoor
