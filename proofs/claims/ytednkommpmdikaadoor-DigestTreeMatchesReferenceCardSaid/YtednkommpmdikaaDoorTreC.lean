/- Rows of strings that came in; all; join. -/
import Derived.Test.YtednkommpmdikaaDoorTreB
import Derived.Test.YtednkommpmdikaaDoorShelf
namespace Go.Proofs.YtednkommpmdikaaDoor
open Go Go.RowKit

/-- v is a slice of just these strings -/
def StrsAt (w : World) (v : Value) (xs : List ByteArray) : Prop :=
  (xs = [] ∧ ∃ A c, v = .slice A 0 c) ∨
  ∃ g o c, v = .slice (some ⟨g, o, none⟩) xs.length c ∧ xs.length ≤ c ∧ c ≤ 9223372036854775807 ∧ g < w.heap.size ∧ ∀ (j : Nat) x, xs[j]? = some x → w.cell? ⟨g, o + j, none⟩ = some (.string x)

theorem StrsAt.below {w w' : World} {v : Value} {xs : List ByteArray} (h : StrsAt w v xs) (hb : Below w.heap.size w w') : StrsAt w' v xs := by
  rcases h with h | ⟨g, o, c, h1, h2, h3, h4, h5⟩
  · exact .inl h
  · exact .inr ⟨g, o, c, h1, h2, h3, Nat.lt_of_lt_of_le h4 hb.size, fun j x hx => (hb.cell (p := ⟨g, o + j, none⟩) h4).trans (h5 j x hx)⟩

theorem all1_ok (s : ByteArray) (w : World) : Calls Tryd.prog 54 #[.string s] w fun e w' => e = .returned (.bool (!decide (s.size = 32))) ∧ w' = w := by
  go_enter Tryd.func54, Tryd.ntmps54
  go_wp2_with fail
  refine (isDigest_ok s w).mono ?_
  rintro e w1 ⟨rfl, rfl⟩
  go_wp2_with fail
  go_ret
  exact ⟨rfl, rfl⟩

theorem all_ok (v : Value) (xs : List ByteArray) (w : World) (hv : StrsAt w v xs) :
    Calls Tryd.prog 41 #[v] w fun e w' => e = .returned (.bool (xs.all fun s => decide (s.size = 32))) ∧ ∃ q, w' = w.drewN q := by
  have hp : Go.Proofs.PredAt Tryd.prog 54 #[] Value.string (fun s => !decide (s.size = 32)) w := by
    intro W x _
    exact (all1_ok x W).mono fun e w' ⟨he, hw⟩ => ⟨he, 0, hw⟩
  have hall : (!xs.any fun s => !decide (s.size = 32)) = xs.all fun s => decide (s.size = 32) := by
    rw [List.all_eq_not_any_not]
  rcases hv with ⟨rfl, A, c, rfl⟩ | ⟨g, o, c, rfl, h2, h3, h4, h5⟩
  · go_enter Tryd.func41, Tryd.ntmps41
    go_wp2_with fail
    refine (Tryd.slices_ContainsFunc_empty (α := ByteArray) _ _ _ _).mono ?_
    rintro e w1 ⟨rfl, rfl⟩
    go_wp2_with fail
    go_ret
    exact ⟨rfl, 0, rfl⟩
  · have hc : ∀ j, j < xs.length → w.cell? ⟨g, o + j, none⟩ = some (Value.string xs[j]!) := by
      intro j hj
      exact h5 j _ (by rw [List.getElem!_eq_getElem?_getD, List.getElem?_eq_getElem hj]; rfl)
    have HALL := Lib.hid hall
    have HC := Lib.hid hc
    clear hall hc h5
    go_enter Tryd.func41, Tryd.ntmps41
    go_wp2_with fail
    refine (Tryd.slices_ContainsFunc Value.string _ 54 #[] (enters_of Tryd.func54 (by kernel_rfl) rfl) g o xs.length c xs w hp (Nat.le_refl _) (by omega) HC.out).mono ?_
    rintro e w1 ⟨rfl, q, rfl⟩
    go_wp2_with fail
    refine bodyPost_ret (results_tmp rfl _ _ _) rfl ⟨?_, q, rfl⟩
    rw [← HALL.out]
    rfl
end Go.Proofs.YtednkommpmdikaaDoor
