/- Opening slices of slices of numbers, and records. -/
import Derived.Test.YtheebajklnljdaaGreatDoorQCardLog
import Derived.Test.YtheebajklnljdaaGreatDoorGq
import Derived.Deep.Slices
import Derived.Deep.Fields
namespace Go.Proofs.YtheebajklnljdaaGreatDoor
open Go Go.ChangeShapes Go.WideShapes Go.ChangeAt Go.RowKit Go.Deep
section
variable {H : Type} {enc : TypeId × Value → H} {P : Program} {w : World} {base : Nat} {sp : Nat → Bool} {held : Bool}

theorem open_intsCells {fuel : Nat} {t e : TypeId} {cs : List Value} {x : DataW H × List MemPlace} (ht : P.underlying t = some (.slice e)) (he : P.underlying e = some (.int .i64)) (hc1 : P.cellsOf e = 1)
    (hf : DataW.trod enc P w base sp held fuel t cs = some x) : ∃ u, cs = [u] ∧ ∃ zs : List Int, SliceAt w u (zs.map (Value.int .i64)) ∧ ∀ z ∈ zs, -9223372036854775808 ≤ z ∧ z ≤ 9223372036854775807 := by
  rcases open_ints ht he hc1 hf with ⟨rfl, _⟩ | ⟨a, l0, c0, zs, rfl, _, hl, hm, hz, _, hcell, hwf⟩
  · exact ⟨_, rfl, [], ⟨none, 0, rfl, Nat.le_refl _, fun h => absurd h (by simp)⟩, fun z hz => by simp at hz⟩
  · have hlen : l0 ≤ zs.length := by rw [hz]; split <;> omega
    refine ⟨_, rfl, zs.take l0, ⟨some a, c0, by simp [Nat.min_eq_left hlen], by simp; omega, fun h0 => ⟨a, rfl, ?_, fun j u hu => ?_⟩⟩, fun z hz => bounds_i64 (hwf z (List.mem_of_mem_take hz))⟩
    · have := block_of_cell (hcell 0 (by simp at h0; omega))
      rwa [block_add] at this
    · simp only [List.getElem?_map, Option.map_eq_some_iff] at hu
      obtain ⟨z, hz', rfl⟩ := hu
      have hj : j < zs.length := by
        have := (List.getElem?_eq_some_iff.1 hz').1
        simp at this; omega
      rw [hcell j hj]
      rw [List.getElem?_take] at hz'
      split at hz'
      · simp [List.getD, hz']
      · cases hz'

theorem open_rows {r : Reach} {b0 : Nat} {t e i : TypeId} {v : Value} {d : DataW H} {ps : List MemPlace} (ht : P.underlying t = some (.slice e)) (he : P.underlying e = some (.slice i)) (hi : P.underlying i = some (.int .i64)) (hc : P.cellsOf e = 1) (hc1 : P.cellsOf i = 1)
    (hv : Value.okWide P w r b0 t v) (h : DataW.Trod enc P w base sp held t v d ps) : IntRows w v := by
  obtain ⟨a0, l0, c0, rfl⟩ := okWide_slice ht hv
  obtain ⟨fuel, hf⟩ := h
  rcases open_slice ht hf with ⟨hcs, _⟩ | ⟨a, len, cap, m, n, D, Pl, hcs, _, hl, _, hm, _, hii⟩
  · simp [Value.cells] at hcs
    obtain ⟨rfl, rfl, rfl⟩ := hcs
    exact ⟨[], ⟨none, 0, rfl, Nat.le_refl _, fun h => absurd h (by simp)⟩, fun u hu => by simp at hu⟩
  · simp [Value.cells] at hcs
    obtain ⟨rfl, rfl, rfl⟩ := hcs
    have hlm : l0 ≤ m := by rw [hm]; split <;> omega
    have hx : ∀ j, j < l0 → ∃ u : Value, w.cell? (a.add j) = some u ∧ ∃ zs : List Int, SliceAt w u (zs.map (Value.int .i64)) ∧ ∀ z ∈ zs, -9223372036854775808 ≤ z ∧ z ≤ 9223372036854775807 := by
      intro j hj
      obtain ⟨cs, hcc, htr⟩ := hii j (by omega)
      rw [hc, Nat.mul_one] at hcc
      obtain ⟨_, hlen, hat⟩ := World.cells?_some hcc
      obtain ⟨u, rfl, hz⟩ := open_intsCells he hi hc1 htr
      have h0 := hat 0 (by omega)
      rw [Go.Deep.add_add, Nat.add_zero] at h0
      exact ⟨u, h0, hz⟩
    have hx' : ∃ F : Nat → Value, ∀ j, j < l0 → w.cell? (a.add j) = some (F j) ∧ ∃ zs : List Int, SliceAt w (F j) (zs.map (Value.int .i64)) ∧ ∀ z ∈ zs, -9223372036854775808 ≤ z ∧ z ≤ 9223372036854775807 := by
      refine ⟨fun i => if h : i < l0 then Classical.choose (hx i h) else undef, fun i hil => ?_⟩
      simp only [dif_pos hil]
      exact Classical.choose_spec (hx i hil)
    obtain ⟨F, hF⟩ := hx'
    have hlen : ((List.range l0).map F).length = l0 := by simp
    refine ⟨(List.range l0).map F, ⟨some a, c0, by rw [hlen], by rw [hlen]; exact hl, fun h0 => ⟨a, rfl, ?_, fun j u hj => ?_⟩⟩, fun u hu => ?_⟩
    · rw [hlen] at h0
      have := block_of_cell (hF 0 h0).1
      rwa [block_add] at this
    · rw [List.getElem?_map] at hj
      have hjl : j < l0 := by
        have := (List.getElem?_eq_some_iff.1 (show (List.range l0)[j]? = some _ from (Option.map_eq_some_iff.1 hj).choose_spec.1)).1
        simpa using this
      rw [List.getElem?_range hjl] at hj
      obtain rfl := Option.some.inj hj
      exact (hF j hjl).1
    · obtain ⟨j, hj, rfl⟩ := List.mem_map.1 hu
      exact (hF j (List.mem_range.1 hj)).2
end
end Go.Proofs.YtheebajklnljdaaGreatDoor
