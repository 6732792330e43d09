/- Opening a slice of steps. -/
import Derived.Test.YtejehdmllicfcaaDoorCardBase
import Derived.Test.YtejehdmllicfcaaDoorSesS
import Derived.Deep.Slices
import Derived.Deep.Fields
namespace Go.Proofs.YtejehdmllicfcaaDoor
open Go Go.ChangeShapes Go.WideShapes Go.ChangeAt Go.RowKit Go.Deep
section
variable {H : Type} {enc : TypeId × Value → H} {P : Program} {w : World} {base : Nat} {sp : Nat → Bool} {held : Bool}

/-- a field of one cell: its place and type -/
def FieldIs (P : Program) (fs : Array Field) (j : Nat) (u : Option TypeDesc) : Prop := ∃ f, fs[j]? = some f ∧ f.offset = j ∧ P.cellsOf f.type = 1 ∧ P.underlying f.type = u

theorem one_of_three {cs : List Value} (h : cs.length = 3) (j : Nat) (hj : j < 3) : ∃ c, cs[j]? = some c ∧ (cs.drop j).take 1 = [c] := by
  refine ⟨cs[j]'(by omega), List.getElem?_eq_getElem (by omega), ?_⟩
  rw [List.drop_eq_getElem_cons (by omega)]
  rfl

theorem open_stepsAt {r : Reach} {b0 : Nat} {t e : TypeId} {fs : Array Field} {v : Value} {d : DataW H} {ps : List MemPlace} (ht : P.underlying t = some (.slice e)) (he : P.underlying e = some (.struct fs)) (hc : P.cellsOf e = 3)
    (f0 : FieldIs P fs 0 (some .bool)) (f1 : FieldIs P fs 1 (some (.int .i64))) (f2 : FieldIs P fs 2 (some (.int .i64)))
    (hv : Value.okWide P w r b0 t v) (h : DataW.Trod enc P w base sp held t v d ps) : ∃ (A : Option Addr) (c : Nat) (xs : List Step), v = .slice A xs.length c ∧ StepsAt w v xs := by
  obtain ⟨a0, l0, c0, rfl⟩ := okWide_slice ht hv
  obtain ⟨fuel, hf⟩ := h
  rcases open_slice ht hf with ⟨hcs, _⟩ | ⟨a, len, cap, m, n, D, Pl, hcs, _, hl, _, hm, _, hi⟩
  · simp [Value.cells] at hcs
    obtain ⟨rfl, rfl, rfl⟩ := hcs
    exact ⟨none, 0, [], rfl, none, 0, rfl, Nat.le_refl _, fun h => absurd h (by simp)⟩
  · simp [Value.cells] at hcs
    obtain ⟨rfl, rfl, rfl⟩ := hcs
    have hlm : l0 ≤ m := by rw [hm]; split <;> omega
    have hx : ∀ i, i < l0 → ∃ x : Step, w.cell? (a.add (i * 3)) = some (.bool x.w) ∧ w.cell? (a.add (i * 3 + 1)) = some (.int .i64 x.a) ∧ w.cell? (a.add (i * 3 + 2)) = some (.int .i64 x.b) := by
      intro i hil
      obtain ⟨cs, hcc, htr⟩ := hi i (by omega)
      rw [hc] at hcc
      obtain ⟨_, hlen, hat⟩ := World.cells?_some hcc
      obtain ⟨xs, n', _, _, _, hxl, hg⟩ := DataW.trod_struct he htr
      obtain ⟨g0, a1, a2, a3, a4⟩ := f0
      obtain ⟨g1, b1, b2, b3, b4⟩ := f1
      obtain ⟨g2, c1, c2, c3, c4⟩ := f2
      have k0 := hg 0 g0 a1
      have k1 := hg 1 g1 b1
      have k2 := hg 2 g2 c1
      rw [a2, a3] at k0
      rw [b2, b3] at k1
      rw [c2, c3] at k2
      obtain ⟨u0, p0, q0⟩ := one_of_three hlen 0 (by omega)
      obtain ⟨u1, p1, q1⟩ := one_of_three hlen 1 (by omega)
      obtain ⟨u2, p2, q2⟩ := one_of_three hlen 2 (by omega)
      rw [q0] at k0
      rw [q1] at k1
      rw [q2] at k2
      have hsz : ∀ (j : Nat) (f : Field), fs[j]? = some f → j < xs.length := fun j f hj => by rw [hxl]; exact (Array.getElem?_eq_some_iff.1 hj).1
      rw [List.getElem?_eq_getElem (hsz 0 g0 a1)] at k0
      rw [List.getElem?_eq_getElem (hsz 1 g1 b1)] at k1
      rw [List.getElem?_eq_getElem (hsz 2 g2 c1)] at k2
      obtain ⟨bb, e0, _⟩ := DataW.trod_bool a4 k0
      obtain ⟨na, e1, _⟩ := DataW.trod_int b4 k1
      obtain ⟨nb, e2, _⟩ := DataW.trod_int c4 k2
      simp only [List.cons.injEq, and_true] at e0 e1 e2
      have h0 := hat 0 (by omega)
      have h1 := hat 1 (by omega)
      have h2 := hat 2 (by omega)
      rw [Go.Deep.add_add] at h0 h1 h2
      exact ⟨⟨bb, na, nb⟩, by rw [← e0, ← p0, ← h0, Nat.add_zero], by rw [← e1, ← p1, ← h1], by rw [← e2, ← p2, ← h2]⟩
    have hx' : ∃ F : Nat → Step, ∀ i, i < l0 → w.cell? (a.add (i * 3)) = some (.bool (F i).w) ∧ w.cell? (a.add (i * 3 + 1)) = some (.int .i64 (F i).a) ∧ w.cell? (a.add (i * 3 + 2)) = some (.int .i64 (F i).b) := by
      refine ⟨fun i => if h : i < l0 then Classical.choose (hx i h) else ⟨false, 0, 0⟩, fun i hil => ?_⟩
      simp only [dif_pos hil]
      exact Classical.choose_spec (hx i hil)
    obtain ⟨F, hF⟩ := hx'
    have hlen : ((List.range l0).map F).length = l0 := by simp
    refine ⟨some a, c0, (List.range l0).map F, by rw [hlen], some a, c0, by rw [hlen], by rw [hlen]; exact hl, fun h0 => ⟨a, rfl, ?_, fun j x hj => ?_⟩⟩
    · rw [hlen] at h0
      have := block_of_cell (hF 0 h0).1
      rwa [block_add] at this
    · rw [List.getElem?_map] at hj
      have hjl : j < l0 := by
        have := (List.getElem?_eq_some_iff.1 (show (List.range l0)[j]? = some _ from (Option.map_eq_some_iff.1 hj).choose_spec.1)).1
        simpa using this
      rw [List.getElem?_range hjl] at hj
      obtain rfl := Option.some.inj hj
      exact hF j hjl
end
end Go.Proofs.YtejehdmllicfcaaDoor
