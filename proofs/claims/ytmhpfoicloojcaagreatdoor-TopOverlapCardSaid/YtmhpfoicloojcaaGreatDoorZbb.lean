/- Drawn regions along a tree, with a hidden condition. -/
import Derived.Test.YtmhpfoicloojcaaGreatDoorZay
import Derived.Below
set_option linter.all false
namespace Go.Proofs.YtmhpfoicloojcaaGreatDoor
set_option maxRecDepth 100000
set_option maxHeartbeats 16000000
section
open Go Go.RowKit
theorem aIu {P : Program} {Q : Exit -> Act -> World -> Prop} {id b : Nat} {a : Act} {w u : World} {l : List Oper} {S : World -> Prop} (t : Tr) (HS : Hid (∀ V : World, Below b u V -> S V)) (z : Below b u w.drew) (h : aAd P l.toArray (NoPanic Q) t S a w.drew) (hm : P.follows .mixedOrders = true := by kernel_rfl) (hsel : Region.noSelect l.toArray = true := by as_aux_lemma => kernel_rfl) (hok : okT l t l.length 0 = true := by as_aux_lemma => kernel_rfl) : (Code.region id l.toArray true).wp P Q a w :=
 bCd S t (HS.out _ z) h hm hsel hok
end
end Go.Proofs.YtmhpfoicloojcaaGreatDoor
