/- Opening slices of records, of strings, of truth values. -/
import Derived.Test.YtheebajklnljdaaGreatDoorQCardLgC
import Derived.Test.YtheebajklnljdaaGreatDoorGu
namespace Go.Proofs.YtheebajklnljdaaGreatDoor
open Go Go.ChangeShapes Go.WideShapes Go.ChangeAt Go.RowKit Go.Deep
section
variable {H : Type} {enc : TypeId × Value → H} {P : Program} {w : World} {base : Nat} {sp : Nat → Bool} {held : Bool}

theorem spot_none {a : Addr} {u : Value} (h : w.cell? a = some u) : a = ⟨a.block, a.off, none⟩ := by
  obtain ⟨ab, ao, ap⟩ := a
  cases ap with
  | none => rfl
  | some s =>
    unfold World.cell? at h
    split at h <;> simp at h

theorem open_recs {r : Reach} {b0 : Nat} {t0 t e i : TypeId} {gs fs : Array Field} {v : Value} {d : DataW H} {ps : List MemPlace} (ht0 : P.underlying t0 = some (.slice t)) (ht : P.underlying t = some (.struct gs)) (hC : P.cellsOf t = 2) (g0 : FieldAt P gs 0 0 1 (some (.int .i64))) (g1 : FieldAt P gs 1 1 1 (some (.slice e)))
    (he : P.underlying e = some (.struct fs)) (hi : P.underlying i = some (.int .i64)) (hc1 : P.cellsOf i = 1) (hc : P.cellsOf e = 10)
    (f0 : FieldAt P fs 0 0 1 (some (.int .i64))) (f1 : FieldAt P fs 1 1 1 (some (.int .i64))) (f2 : FieldAt P fs 2 2 1 (some .bool)) (f3 : FieldAt P fs 3 3 3 (some (.array 3 i))) (f4 : FieldAt P fs 4 6 1 (some .bool)) (f5 : FieldAt P fs 5 7 3 (some (.array 3 i)))
    (hv : Value.okWide P w r b0 t0 v) (h : DataW.Trod enc P w base sp held t0 v d ps) : ∃ l : List Rec, RecsIn w v l := by
  obtain ⟨a0, l0, c0, rfl⟩ := okWide_slice ht0 hv
  obtain ⟨fuel, hf⟩ := h
  rcases open_slice ht0 hf with ⟨hcs, _⟩ | ⟨a, len, cap, m, n, D, Pl, hcs, _, hl, _, hm, _, hii⟩
  · simp [Value.cells] at hcs
    obtain ⟨rfl, rfl, rfl⟩ := hcs
    exact ⟨[], none, 0, rfl, fun h => absurd h (by simp)⟩
  · simp [Value.cells] at hcs
    obtain ⟨rfl, rfl, rfl⟩ := hcs
    have hlm : l0 ≤ m := by rw [hm]; split <;> omega
    have hx : ∀ j, j < l0 → ∃ q : Rec, w.cell? (a.add (j * 2)) = some (.int .i64 q.pos) ∧ ∃ Ac cc, w.cell? (a.add (j * 2 + 1)) = some (.slice Ac q.chs.length cc) ∧ ChgsAt w (.slice Ac q.chs.length cc) q.chs ∧ (Ac = none → cc = 0) ∧ cc ≤ maxLen := by
      intro j hj
      obtain ⟨cs, hcc, htr⟩ := hii j (by omega)
      rw [hC] at hcc
      obtain ⟨_, hlen, hat⟩ := World.cells?_some hcc
      match cs, hlen with
      | [x0, x1], _ =>
        obtain ⟨t1, n1, z1, u1, k1⟩ := field_trod ht htr g0
        obtain ⟨t2, n2, z2, u2, k2⟩ := field_trod ht htr g1
        simp only [List.drop_zero, List.drop_succ_cons, List.take_succ_cons, List.take_zero] at k1 k2
        obtain ⟨p, e0, _⟩ := DataW.trod_int u1 k1
        obtain ⟨A, c, l, e1, hl, hA, hmx⟩ := chgs_trod u2 he hi hc1 hc f0 f1 f2 f3 f4 f5 k2
        simp only [List.cons.injEq, and_true] at e0 e1
        subst e0 e1
        have h0 := hat 0 (by omega)
        have h1 := hat 1 (by omega)
        rw [Go.Deep.add_add, Nat.add_zero] at h0
        rw [Go.Deep.add_add] at h1
        exact ⟨⟨p, l⟩, h0, A, c, h1, hl, hA, hmx⟩
    have hx' : ∃ F : Nat → Rec, ∀ j, j < l0 → w.cell? (a.add (j * 2)) = some (.int .i64 (F j).pos) ∧ ∃ Ac cc, w.cell? (a.add (j * 2 + 1)) = some (.slice Ac (F j).chs.length cc) ∧ ChgsAt w (.slice Ac (F j).chs.length cc) (F j).chs ∧ (Ac = none → cc = 0) ∧ cc ≤ maxLen := by
      refine ⟨fun i => if h : i < l0 then Classical.choose (hx i h) else ⟨0, []⟩, fun i hil => ?_⟩
      simp only [dif_pos hil]
      exact Classical.choose_spec (hx i hil)
    obtain ⟨F, hF⟩ := hx'
    have hlen : ((List.range l0).map F).length = l0 := by simp
    refine ⟨(List.range l0).map F, some a, c0, by rw [hlen], fun h0 => ?_⟩
    rw [hlen] at h0
    have hc0 := (hF 0 h0).1
    rw [Nat.zero_mul] at hc0
    have e0 : a.add 0 = a := by unfold Addr.add; rw [if_pos rfl]
    rw [e0] at hc0
    have hsp := spot_none hc0
    generalize a.block = ab at hsp
    generalize a.off = ao at hsp
    subst hsp
    refine ⟨ab, ao, rfl, block_of_cell hc0, fun j q hj => ?_⟩
    rw [List.getElem?_map] at hj
    have hjl : j < l0 := by
      have := (List.getElem?_eq_some_iff.1 (show (List.range l0)[j]? = some _ from (Option.map_eq_some_iff.1 hj).choose_spec.1)).1
      simpa using this
    rw [List.getElem?_range hjl] at hj
    obtain rfl := Option.some.inj hj
    obtain ⟨k0, Ac, cc, k1, k2⟩ := hF j hjl
    rw [add_off] at k0 k1
    exact ⟨k0, Ac, cc, by rw [Nat.add_assoc]; exact k1, k2⟩

theorem open_strsIn {r : Reach} {b0 : Nat} {t e : TypeId} {v : Value} {d : DataW H} {ps : List MemPlace} (ht : P.underlying t = some (.slice e)) (he : P.underlying e = some .string) (hc1 : P.cellsOf e = 1)
    (hv : Value.okWide P w r b0 t v) (h : DataW.Trod enc P w base sp held t v d ps) : ∃ ss : List (List UInt8), StrsIn w v ss := by
  obtain ⟨a0, l0, c0, rfl⟩ := okWide_slice ht hv
  obtain ⟨fuel, hf⟩ := h
  rcases open_strings ht he hc1 hf with ⟨hcs, _⟩ | ⟨a, len, cap, zs, hcs, _, hl, hm, hz, _, hcell, hwf⟩
  · simp [Value.cells] at hcs
    obtain ⟨rfl, rfl, rfl⟩ := hcs
    exact ⟨[], none, 0, rfl, Nat.le_refl _, fun _ => rfl, Nat.zero_le _, fun h => absurd h (by simp)⟩
  · simp [Value.cells] at hcs
    obtain ⟨rfl, rfl, rfl⟩ := hcs
    have hlen : l0 ≤ zs.length := by rw [hz]; split <;> omega
    have hlt : ((zs.take l0).map fun z => z.data.toList).length = l0 := by simp [Nat.min_eq_left hlen]
    refine ⟨(zs.take l0).map fun z => z.data.toList, some a, c0, by rw [hlt], by rw [hlt]; exact hl, fun h => (by cases h), hm, fun h0 => ?_⟩
    rw [hlt] at h0
    have hc0 := hcell 0 (by omega)
    have e0 : a.add 0 = a := by unfold Addr.add; rw [if_pos rfl]
    rw [e0] at hc0
    have hsp := spot_none hc0
    generalize a.block = ab at hsp
    generalize a.off = ao at hsp
    subst hsp
    refine ⟨ab, ao, rfl, block_of_cell hc0, fun j x hj => ?_⟩
    rw [List.getElem?_map, Option.map_eq_some_iff] at hj
    obtain ⟨z, hz', rfl⟩ := hj
    rw [List.getElem?_take] at hz'
    split at hz'
    · have hj : j < zs.length := (List.getElem?_eq_some_iff.1 hz').1
      have := hcell j hj
      rw [add_off] at this
      rw [this]
      simp [List.getD, hz', mk_data]
    · cases hz'
end
end Go.Proofs.YtheebajklnljdaaGreatDoor
