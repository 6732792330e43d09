/- Below, once. -/
import Derived.Below
set_option linter.all false
namespace Go.Proofs.YtmhpfoicloojcaaGreatDoor
set_option maxRecDepth 100000
set_option maxHeartbeats 16000000
section
open Go Go.RowKit
theorem Below.al (w:World) (o:Obj):Below w.heap.size w (w.alloc o):=Below.alloc (Below.refl w.heap.size w) (Nat.le_refl _) o
end
end Go.Proofs.YtmhpfoicloojcaaGreatDoor
