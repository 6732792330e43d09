/- The reference's constants. -/
import Derived.Test.YtednkommpmdikaaDoorShaC
namespace Go.Proofs.YtednkommpmdikaaDoor
open Go Go.RowKit

set_option maxRecDepth 100000 in
set_option maxHeartbeats 4000000 in
theorem constants_ok (w : World) :
    Calls Tryd.prog 63 #[] w fun e w' => e = .returned (.slice (some ⟨w.heap.size, 0, none⟩) 64 64) ∧ w' = w.alloc (.cells (uv k256).toArray 64) := by
  go_enter Tryd.func63, Tryd.ntmps63
  go_wp2_with fail
  go_ret
  exact ⟨rfl, by kernel_rfl⟩
end Go.Proofs.YtednkommpmdikaaDoor
