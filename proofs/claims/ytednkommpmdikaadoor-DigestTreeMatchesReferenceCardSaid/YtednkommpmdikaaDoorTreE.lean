/- Slices of entries, cut. -/
import Derived.Test.YtednkommpmdikaaDoorTreD
import Derived.Test.YtednkommpmdikaaDoorTreeQ
namespace Go.Proofs.YtednkommpmdikaaDoor
open Go Go.RowKit

/-- a slice at a known place that holds just these entries -/
def RowsAt (w : World) (g o n c : Nat) (l : List (List UInt8)) : Prop :=
  n = l.length ∧ n ≤ c ∧ c ≤ 9223372036854775807 ∧ g < w.heap.size ∧ ∀ (j : Nat) x, l[j]? = some x → w.cell? ⟨g, o + j, none⟩ = some (.string (str x))

theorem RowsAt.below {w w' : World} {g o n c : Nat} {l : List (List UInt8)} (h : RowsAt w g o n c l) (hb : Below w.heap.size w w') : RowsAt w' g o n c l := by
  obtain ⟨h1, h2, h3, h4, h5⟩ := h
  exact ⟨h1, h2, h3, Nat.lt_of_lt_of_le h4 hb.size, fun j x hx => (hb.cell (p := ⟨g, o + j, none⟩) h4).trans (h5 j x hx)⟩
theorem RowsAt.take {w : World} {g o n c : Nat} {l : List (List UInt8)} (h : RowsAt w g o n c l) (k : Nat) (hk : k ≤ n) : RowsAt w g o k c (l.take k) := by
  obtain ⟨h1, h2, h3, h4, h5⟩ := h
  refine ⟨by rw [List.length_take]; omega, by omega, h3, h4, fun j x hx => h5 j x ?_⟩
  rw [List.getElem?_take] at hx
  split at hx
  · exact hx
  · cases hx
theorem RowsAt.drop {w : World} {g o n c : Nat} {l : List (List UInt8)} (h : RowsAt w g o n c l) (k : Nat) (hk : k ≤ n) : RowsAt w g (o + k) (n - k) (c - k) (l.drop k) := by
  obtain ⟨h1, h2, h3, h4, h5⟩ := h
  refine ⟨by rw [List.length_drop]; omega, by omega, by omega, h4, fun j x hx => ?_⟩
  rw [List.getElem?_drop] at hx
  have := h5 (k + j) x hx
  rwa [← Nat.add_assoc] at this
theorem add_off (g o k : Nat) : (⟨g, o, none⟩ : Addr).add k = ⟨g, o + k, none⟩ := by unfold Addr.add; split <;> simp_all
theorem RowsAt.slice {w : World} {g o n c : Nat} {l : List (List UInt8)} (h : RowsAt w g o n c l) : SliceAt w (.slice (some ⟨g, o, none⟩) n c) (svs l) := by
  obtain ⟨h1, h2, h3, h4, h5⟩ := h
  have hl : (svs l).length = l.length := svs_length l
  refine ⟨_, c, by rw [hl, h1], by omega, fun _ => ⟨_, rfl, h4, fun j u hu => ?_⟩⟩
  have hu2 : ∃ x, l[j]? = some x ∧ u = .string (str x) := by
    unfold svs at hu
    rw [List.getElem?_map] at hu
    cases h3 : l[j]? with
    | none => rw [h3] at hu; cases hu
    | some y => rw [h3] at hu; cases hu; exact ⟨y, rfl, rfl⟩
  obtain ⟨x, hx, rfl⟩ := hu2
  rw [add_off]
  exact h5 j x hx
end Go.Proofs.YtednkommpmdikaaDoor
