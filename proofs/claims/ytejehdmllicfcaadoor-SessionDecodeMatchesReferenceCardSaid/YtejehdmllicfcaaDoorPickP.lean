/- pick, as plain Lean. -/
import Derived.Test.YtejehdmllicfcaaDoorChecked
import Derived.WalkKit
namespace Go.Proofs.YtejehdmllicfcaaDoor
open Go Go.RowKit

/-- pick -/
def pickZ (c n : Int) : Int := if c < 0 then (-(c + 1)) % n else c % n

theorem pickZ_range (c n : Int) (h : 0 < n) : 0 ≤ pickZ c n ∧ pickZ c n < n := by
  unfold pickZ; split
  · exact ⟨Int.emod_nonneg _ (by omega), Int.emod_lt_of_pos _ h⟩
  · exact ⟨Int.emod_nonneg _ (by omega), Int.emod_lt_of_pos _ h⟩

theorem ret_int' {k : IntKind} {a b : Int} (h : a = b) : Ending.returned (.int k a) = Ending.returned (.int k b) := by rw [h]

end Go.Proofs.YtejehdmllicfcaaDoor
