/- Opening a slice of arrays of six numbers. -/
import Derived.Test.YtgbemgndbemllaaGreatDoorQCardLog
import Derived.Test.YtgbemgndbemllaaGreatDoorGs
import Derived.Deep.Slices
import Derived.Deep.Fields
namespace Go.Proofs.YtgbemgndbemllaaGreatDoor
open Go Go.ChangeShapes Go.WideShapes Go.ChangeAt Go.RowKit Go.Deep
section
variable {H : Type} {enc : TypeId × Value → H} {P : Program} {w : World} {base : Nat} {sp : Nat → Bool} {held : Bool}

theorem six_trod {fuel : Nat} {e i : TypeId} {cs : List Value} {y : DataW H × List MemPlace} (he : P.underlying e = some (.array 6 i)) (hi : P.underlying i = some (.int .i64)) (hc1 : P.cellsOf i = 1) (hlen : cs.length = 6)
    (h : DataW.trod enc P w base sp held fuel e cs = some y) : ∃ x : List Int, x.length = 6 ∧ cs = x.map (Value.int .i64) ∧ ∀ z ∈ x, -9223372036854775808 ≤ z ∧ z ≤ 9223372036854775807 := by
  obtain ⟨ys, n, _, _, _, hyl, hg⟩ := DataW.trod_array he h
  have hk : ∀ k, k < 6 → ∃ z : Int, cs[k]? = some (.int .i64 z) ∧ -9223372036854775808 ≤ z ∧ z ≤ 9223372036854775807 := by
    intro k hk
    have h1 := hg k hk
    rw [hc1, Nat.mul_one, List.getElem?_eq_getElem (by omega), List.drop_eq_getElem_cons (by omega)] at h1
    obtain ⟨z, e1, _, wf⟩ := DataW.trod_int hi h1
    simp only [List.take_succ_cons, List.take_zero, List.cons.injEq, and_true] at e1
    exact ⟨z, by rw [List.getElem?_eq_getElem (by omega), e1], bounds_i64 wf⟩
  obtain ⟨z0, a0, b0⟩ := hk 0 (by omega)
  obtain ⟨z1, a1, b1⟩ := hk 1 (by omega)
  obtain ⟨z2, a2, b2⟩ := hk 2 (by omega)
  obtain ⟨z3, a3, b3⟩ := hk 3 (by omega)
  obtain ⟨z4, a4, b4⟩ := hk 4 (by omega)
  obtain ⟨z5, a5, b5⟩ := hk 5 (by omega)
  refine ⟨[z0, z1, z2, z3, z4, z5], rfl, ?_, fun z hz => ?_⟩
  · refine List.ext_getElem? fun k => ?_
    by_cases hk6 : k < 6
    · have : k = 0 ∨ k = 1 ∨ k = 2 ∨ k = 3 ∨ k = 4 ∨ k = 5 := by omega
      rcases this with rfl | rfl | rfl | rfl | rfl | rfl <;> simp only [a0, a1, a2, a3, a4, a5] <;> rfl
    · rw [List.getElem?_eq_none (by omega), List.getElem?_eq_none (by simp; omega)]
  · simp only [List.mem_cons, List.not_mem_nil, or_false] at hz
    rcases hz with rfl | rfl | rfl | rfl | rfl | rfl <;> assumption

theorem open_six {r : Reach} {b0 : Nat} {t e i : TypeId} {v : Value} {d : DataW H} {ps : List MemPlace} (ht : P.underlying t = some (.slice e)) (he : P.underlying e = some (.array 6 i)) (hi : P.underlying i = some (.int .i64)) (hc : P.cellsOf e = 6) (hc1 : P.cellsOf i = 1)
    (hv : Value.okWide P w r b0 t v) (h : DataW.Trod enc P w base sp held t v d ps) : ∃ (A : Option Addr) (c : Nat) (xs : List (List Int)), v = .slice A xs.length c ∧ SixAt w (.slice A xs.length c) xs := by
  obtain ⟨a0, l0, c0, rfl⟩ := okWide_slice ht hv
  obtain ⟨fuel, hf⟩ := h
  rcases open_slice ht hf with ⟨hcs, _⟩ | ⟨a, len, cap, m, n, D, Pl, hcs, _, hl, _, hm, _, hii⟩
  · simp [Value.cells] at hcs
    obtain ⟨rfl, rfl, rfl⟩ := hcs
    exact ⟨none, 0, [], rfl, none, 0, rfl, Nat.le_refl _, fun h => absurd h (by simp)⟩
  · simp [Value.cells] at hcs
    obtain ⟨rfl, rfl, rfl⟩ := hcs
    have hlm : l0 ≤ m := by rw [hm]; split <;> omega
    have hx : ∀ j, j < l0 → ∃ x : List Int, x.length = 6 ∧ ∀ (k : Nat) z, x[k]? = some z → w.cell? (a.add (j * 6 + k)) = some (.int .i64 z) ∧ -9223372036854775808 ≤ z ∧ z ≤ 9223372036854775807 := by
      intro j hj
      obtain ⟨cs, hcc, htr⟩ := hii j (by omega)
      rw [hc] at hcc
      obtain ⟨_, hlen, hat⟩ := World.cells?_some hcc
      obtain ⟨x, h6, rfl, hz⟩ := six_trod he hi hc1 hlen htr
      refine ⟨x, h6, fun k z hk => ⟨?_, hz z (List.mem_of_getElem? hk)⟩⟩
      have hk6 : k < 6 := by have := (List.getElem?_eq_some_iff.1 hk).1; omega
      have h0 := hat k hk6
      rw [Go.Deep.add_add, List.getElem?_map, hk] at h0
      exact h0
    have hx' : ∃ F : Nat → List Int, ∀ j, j < l0 → (F j).length = 6 ∧ ∀ (k : Nat) z, (F j)[k]? = some z → w.cell? (a.add (j * 6 + k)) = some (.int .i64 z) ∧ -9223372036854775808 ≤ z ∧ z ≤ 9223372036854775807 := by
      refine ⟨fun i => if h : i < l0 then Classical.choose (hx i h) else [], fun i hil => ?_⟩
      simp only [dif_pos hil]
      exact Classical.choose_spec (hx i hil)
    obtain ⟨F, hF⟩ := hx'
    have hlen : ((List.range l0).map F).length = l0 := by simp
    refine ⟨some a, c0, (List.range l0).map F, by rw [hlen], some a, c0, by rw [hlen], by rw [hlen]; exact hl, fun h0 => ⟨a, rfl, ?_, fun j x hj => ?_⟩⟩
    · rw [hlen] at h0
      obtain ⟨z, hz⟩ : ∃ z, (F 0)[0]? = some z := ⟨_, List.getElem?_eq_getElem (by rw [(hF 0 h0).1]; omega)⟩
      have := block_of_cell ((hF 0 h0).2 0 z hz).1
      rwa [block_add] at this
    · rw [List.getElem?_map] at hj
      have hjl : j < l0 := by
        have := (List.getElem?_eq_some_iff.1 (show (List.range l0)[j]? = some _ from (Option.map_eq_some_iff.1 hj).choose_spec.1)).1
        simpa using this
      rw [List.getElem?_range hjl] at hj
      obtain rfl := Option.some.inj hj
      exact hF j hjl
end
end Go.Proofs.YtgbemgndbemllaaGreatDoor
