/- join: a step from a part of a tree to the whole. -/
import Derived.Test.YtednkommpmdikaaDoorTreC
namespace Go.Proofs.YtednkommpmdikaaDoor
open Go Go.RowKit

/-- the whole's value, of a step (the other part's root, is it first) and the part's value -/
def joinL (x : List UInt8 × Bool) (part : List UInt8) : List UInt8 := if x.2 then nodeL x.1 part else nodeL part x.1

theorem join_ok (r p : ByteArray) (f : Bool) (w : World) (hs : r.size + p.size ≤ 900000) (hR : RoundOk w) :
    Calls Tryd.prog 45 #[.agg #[.string r, .bool f], .string p] w fun e w' => e = .returned (.string (str (joinL (r.data.toList, f) p.data.toList))) ∧ Below w.heap.size w w' := by
  go_enter Tryd.func45, Tryd.ntmps45
  have h0 := Below.refl w.heap.size w
  have a1 := Below.alloc h0 (Nat.le_refl _) (.cells #[.string r, .bool f] 58)
  cases f with
  | true =>
    go_wp2_with fail
    refine (node_ok r p _ hs (hR.alloc _)).mono ?_
    rintro e w2 ⟨rfl, b2⟩
    have b := Below.next a1 b2
    go_wp2_with fail
    go_ret
    exact ⟨rfl, b⟩
  | false =>
    go_wp2_with fail
    refine (node_ok p r _ (by omega) (hR.alloc _)).mono ?_
    rintro e w2 ⟨rfl, b2⟩
    have b := Below.next a1 b2
    go_wp2_with fail
    go_ret
    exact ⟨rfl, b⟩
end Go.Proofs.YtednkommpmdikaaDoor
