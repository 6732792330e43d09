/- Opening a slice of truth values. -/
import Derived.Test.YtheebajklnljdaaGreatDoorQCardLgD
import Derived.Deep.Grids
namespace Go.Proofs.YtheebajklnljdaaGreatDoor
open Go Go.ChangeShapes Go.WideShapes Go.ChangeAt Go.RowKit
section
variable {H : Type} {enc : TypeId × Value → H} {P : Program} {w : World} {base : Nat} {held : Bool}

theorem open_boolsIn {r : Reach} {b0 : Nat} {t e : TypeId} {v : Value} {d : DataW H} {ps : List MemPlace} (ht : P.underlying t = some (.slice e)) (he : P.underlying e = some .bool) (hc1 : P.cellsOf e = 1)
    (hv : Value.okWide P w r b0 t v) (h : DataW.Trod enc P w base (fun _ => true) held t v d ps) :
    ∃ bs : List Bool, SliceAt w v (bs.map Value.bool) := by
  obtain ⟨a0, l0, c0, rfl⟩ := okWide_slice ht hv
  obtain ⟨fuel, hf⟩ := h
  rcases Go.Deep.open_bools ht he hc1 hf with ⟨hcs, _⟩ | ⟨a, len, cap, B, hcs, _, hl, hm, _, hcell⟩
  · simp [Value.cells] at hcs
    obtain ⟨rfl, rfl, rfl⟩ := hcs
    exact ⟨[], none, 0, rfl, Nat.le_refl _, fun h => absurd h (by simp)⟩
  · simp [Value.cells] at hcs
    obtain ⟨rfl, rfl, rfl⟩ := hcs
    refine ⟨(List.range l0).map B, ⟨some a, c0, by simp, by simp; omega, fun h0 => ⟨a, rfl, ?_, fun j u hu => ?_⟩⟩⟩
    · have := block_of_cell (hcell 0 (by simp at h0; omega))
      rwa [block_add] at this
    · simp only [List.getElem?_map, Option.map_eq_some_iff] at hu
      obtain ⟨z, ⟨k, hz', rfl⟩, rfl⟩ := hu
      have hj : j < l0 := by
        have := (List.getElem?_eq_some_iff.1 hz').1
        simpa using this
      rw [hcell j (by omega)]
      rw [List.getElem?_range hj] at hz'
      obtain rfl := Option.some.inj hz'
      rfl
end
end Go.Proofs.YtheebajklnljdaaGreatDoor
