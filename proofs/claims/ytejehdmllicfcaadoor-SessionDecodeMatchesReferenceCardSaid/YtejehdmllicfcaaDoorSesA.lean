/- The small functions of package session. -/
import Derived.Test.YtejehdmllicfcaaDoorSesP
import Derived.Test.YtejehdmllicfcaaDoorUpd
import Derived.Test.YtejehdmllicfcaaDoorChecked
import Derived.WalkKit
import Derived.WalkSpells
import Derived.WalkLawsBesides
import Derived.Lib.Hide
import Derived.Handy
namespace Go.Proofs.YtejehdmllicfcaaDoor
open Go Go.RowKit

/-- block b is a session whose token is t -/
def SesIs (w : World) (b : Nat) (t : Int) : Prop := BlkIs w b 69 [.int .i64 t]

theorem SesIs.cell {w : World} {b : Nat} {t : Int} (h : SesIs w b t) : w.cell? ⟨b, 0, none⟩ = some (.int .i64 t) := BlkIs.cell h 0
theorem SesIs.frozen {w : World} {b : Nat} {t : Int} (h : SesIs w b t) : w.frozen? ⟨b, 0, none⟩ = false := BlkIs.frozen h 0

theorem newS (w : World) :
    Calls Tryd.prog 11 #[] w fun e w' => e = .returned (.pointer (some ⟨w.heap.size, 0, none⟩)) ∧ w' = w.alloc (.cells #[.int .i64 0] 69) := by
  go_enter Tryd.func11, Tryd.ntmps11
  go_wp2_with fail
  go_ret
  exact ⟨rfl, rfl⟩

theorem tokenS (w : World) (b : Nat) (t : Int) (h : SesIs w b t) :
    Calls Tryd.prog 19 #[.pointer (some ⟨b, 0, none⟩)] w fun e w' => e = .returned (.int .i64 t) ∧ w = w' := by
  have hc := h.cell
  go_enter Tryd.func19, Tryd.ntmps19
  go_wp2_with fail
  go_ret
  exact ⟨rfl, rfl⟩

theorem tokenS_nil (w : World) :
    Calls Tryd.prog 19 #[.pointer none] w fun e w' => e = .returned (.int .i64 0) ∧ w = w' := by
  go_enter Tryd.func19, Tryd.ntmps19
  go_wp2_with fail
  go_ret
  exact ⟨rfl, rfl⟩

theorem raiseW (w : World) (b : Nat) (t n : Int) (h : SesIs w b t) :
    Calls Tryd.prog 30 #[.pointer (some ⟨b, 0, none⟩), .int .i64 n] w fun e w' => e = .returned (.tuple #[]) ∧ w' = w.setCell ⟨b, 0, none⟩ (.int .i64 (raiseS t n)) := by
  have hc := h.cell
  have hf := h.frozen
  have hm : (if t < n then n else t) = raiseS t n := rfl
  go_enter Tryd.func30, Tryd.ntmps30
  go_wp2_with fail
  go_end0
  exact ⟨rfl, rfl⟩

theorem isPos1 (w : World) (g : Nat) (n : Int) (h0 : w.cell? ⟨g, 0, none⟩ = some (.int .i64 n)) :
    Calls Tryd.prog 29 #[.slice (some ⟨g, 0, none⟩) 1 1] w fun e w' => e = .returned (.bool (decide (0 ≤ n ∧ n ≤ 10000))) ∧ w = w' := by
  go_enter Tryd.func29, Tryd.ntmps29
  go_wp2_with fail
  go_rounds 2
  all_goals
    go_ret
    refine ⟨congrArg (fun x => Ending.returned (Value.bool x)) ?_, rfl⟩
    simp
    omega

theorem isPos2 (w : World) (g : Nat) (m n : Int) (h0 : w.cell? ⟨g, 0, none⟩ = some (.int .i64 m)) (h1 : w.cell? ⟨g, 1, none⟩ = some (.int .i64 n)) :
    Calls Tryd.prog 29 #[.slice (some ⟨g, 0, none⟩) 2 2] w fun e w' => e = .returned (.bool (decide (0 ≤ m ∧ m ≤ 10000 ∧ 0 ≤ n ∧ n ≤ 10000))) ∧ w = w' := by
  go_enter Tryd.func29, Tryd.ntmps29
  go_wp2_with fail
  go_rounds 3
  all_goals
    go_ret
    refine ⟨congrArg (fun x => Ending.returned (Value.bool x)) ?_, rfl⟩
    simp
    omega

end Go.Proofs.YtejehdmllicfcaaDoor
