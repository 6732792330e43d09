/- Opening a record. -/
import Derived.Test.YtheebajklnljdaaGreatDoorQCardLgB
import Derived.Laws.IdiomArrays
namespace Go.Proofs.YtheebajklnljdaaGreatDoor
open Go Go.ChangeShapes Go.WideShapes Go.ChangeAt Go.RowKit Go.Deep
section
variable {H : Type} {enc : TypeId × Value → H} {P : Program} {w : World} {base : Nat} {sp : Nat → Bool} {held : Bool}

/-- a field: its place, its cells, its type -/
def FieldAt (P : Program) (fs : Array Field) (j off n : Nat) (u : Option TypeDesc) : Prop := ∃ f, fs[j]? = some f ∧ f.offset = off ∧ P.cellsOf f.type = n ∧ P.underlying f.type = u

theorem field_trod {fuel : Nat} {e : TypeId} {fs : Array Field} {cs : List Value} {y : DataW H × List MemPlace} (he : P.underlying e = some (.struct fs)) (h : DataW.trod enc P w base sp held fuel e cs = some y) {j off n : Nat} {u : Option TypeDesc} (hf : FieldAt P fs j off n u) :
    ∃ (t : TypeId) (k : Nat) (z : DataW H × List MemPlace), P.underlying t = u ∧ DataW.trod enc P w base sp held k t ((cs.drop off).take n) = some z := by
  obtain ⟨xs, k, _, _, _, hxl, hg⟩ := DataW.trod_struct he h
  obtain ⟨f, f1, f2, f3, f4⟩ := hf
  have k0 := hg j f f1
  rw [f2, f3, List.getElem?_eq_getElem (by rw [hxl]; exact (Array.getElem?_eq_some_iff.1 f1).1)] at k0
  exact ⟨f.type, k, _, f4, k0⟩

theorem tri_trod {fuel : Nat} {t i : TypeId} {c0 c1 c2 : Value} {y : DataW H × List MemPlace} (ht : P.underlying t = some (.array 3 i)) (hi : P.underlying i = some (.int .i64)) (hc1 : P.cellsOf i = 1) (h : DataW.trod enc P w base sp held fuel t [c0, c1, c2] = some y) :
    ∃ a b d : Int, c0 = .int .i64 a ∧ c1 = .int .i64 b ∧ c2 = .int .i64 d := by
  obtain ⟨y0, y1, y2, n, _, h0, h1, h2⟩ := trod_array3 ht hc1 h
  obtain ⟨a, e0, _⟩ := DataW.trod_int hi h0
  obtain ⟨b, e1, _⟩ := DataW.trod_int hi h1
  obtain ⟨d, e2, _⟩ := DataW.trod_int hi h2
  simp only [List.cons.injEq, and_true] at e0 e1 e2
  exact ⟨a, b, d, e0, e1, e2⟩

theorem chg_trod {fuel : Nat} {e i : TypeId} {fs : Array Field} {cs : List Value} {y : DataW H × List MemPlace} (he : P.underlying e = some (.struct fs)) (hi : P.underlying i = some (.int .i64)) (hc1 : P.cellsOf i = 1) (hlen : cs.length = 10)
    (f0 : FieldAt P fs 0 0 1 (some (.int .i64))) (f1 : FieldAt P fs 1 1 1 (some (.int .i64))) (f2 : FieldAt P fs 2 2 1 (some .bool)) (f3 : FieldAt P fs 3 3 3 (some (.array 3 i))) (f4 : FieldAt P fs 4 6 1 (some .bool)) (f5 : FieldAt P fs 5 7 3 (some (.array 3 i)))
    (h : DataW.trod enc P w base sp held fuel e cs = some y) : ∃ x : Chg, cs = chgCells x := by
  match cs, hlen with
  | [c0, c1, c2, c3, c4, c5, c6, c7, c8, c9], _ =>
    obtain ⟨t0, n0, z0, u0, k0⟩ := field_trod he h f0
    obtain ⟨t1, n1, z1, u1, k1⟩ := field_trod he h f1
    obtain ⟨t2, n2, z2, u2, k2⟩ := field_trod he h f2
    obtain ⟨t3, n3, z3, u3, k3⟩ := field_trod he h f3
    obtain ⟨t4, n4, z4, u4, k4⟩ := field_trod he h f4
    obtain ⟨t5, n5, z5, u5, k5⟩ := field_trod he h f5
    simp only [List.drop_zero, List.drop_succ_cons, List.take_succ_cons, List.take_zero] at k0 k1 k2 k3 k4 k5
    obtain ⟨a0, e0, _⟩ := DataW.trod_int u0 k0
    obtain ⟨a1, e1, _⟩ := DataW.trod_int u1 k1
    obtain ⟨a2, e2, _⟩ := DataW.trod_bool u2 k2
    obtain ⟨a3, a4, a5, rfl, rfl, rfl⟩ := tri_trod u3 hi hc1 k3
    obtain ⟨a6, e6, _⟩ := DataW.trod_bool u4 k4
    obtain ⟨a7, a8, a9, rfl, rfl, rfl⟩ := tri_trod u5 hi hc1 k5
    simp only [List.cons.injEq, and_true] at e0 e1 e2 e6
    subst e0 e1 e2 e6
    exact ⟨⟨a0, a1, a2, (a3, a4, a5), a6, (a7, a8, a9)⟩, rfl⟩

theorem chgs_trod {fuel : Nat} {t e i : TypeId} {fs : Array Field} {cs : List Value} {y : DataW H × List MemPlace} (ht : P.underlying t = some (.slice e)) (he : P.underlying e = some (.struct fs)) (hi : P.underlying i = some (.int .i64)) (hc1 : P.cellsOf i = 1) (hc : P.cellsOf e = 10)
    (f0 : FieldAt P fs 0 0 1 (some (.int .i64))) (f1 : FieldAt P fs 1 1 1 (some (.int .i64))) (f2 : FieldAt P fs 2 2 1 (some .bool)) (f3 : FieldAt P fs 3 3 3 (some (.array 3 i))) (f4 : FieldAt P fs 4 6 1 (some .bool)) (f5 : FieldAt P fs 5 7 3 (some (.array 3 i)))
    (hf : DataW.trod enc P w base sp held fuel t cs = some y) : ∃ (A : Option Addr) (c : Nat) (l : List Chg), cs = [.slice A l.length c] ∧ ChgsAt w (.slice A l.length c) l ∧ (A = none → c = 0) ∧ c ≤ maxLen := by
  rcases open_slice ht hf with ⟨rfl, _⟩ | ⟨a, l0, c0, m, n, D, Pl, rfl, _, hl, hmx, hm, _, hii⟩
  · exact ⟨none, 0, [], rfl, ⟨none, 0, rfl, Nat.le_refl _, fun h => absurd h (by simp)⟩, fun _ => rfl, Nat.zero_le _⟩
  · have hlm : l0 ≤ m := by rw [hm]; split <;> omega
    have hx : ∀ j, j < l0 → ∃ x : Chg, ∀ (k : Nat) u, (chgCells x)[k]? = some u → w.cell? (a.add (j * 10 + k)) = some u := by
      intro j hj
      obtain ⟨cs, hcc, htr⟩ := hii j (by omega)
      rw [hc] at hcc
      obtain ⟨_, hlen, hat⟩ := World.cells?_some hcc
      obtain ⟨x, rfl⟩ := chg_trod he hi hc1 hlen f0 f1 f2 f3 f4 f5 htr
      refine ⟨x, fun k u hu => ?_⟩
      have hk : k < 10 := (List.getElem?_eq_some_iff.1 hu).1
      have h0 := hat k hk
      rw [Go.Deep.add_add, hu] at h0
      exact h0
    have hx' : ∃ F : Nat → Chg, ∀ j, j < l0 → ∀ (k : Nat) u, (chgCells (F j))[k]? = some u → w.cell? (a.add (j * 10 + k)) = some u := by
      refine ⟨fun i => if h : i < l0 then Classical.choose (hx i h) else ⟨0, 0, false, (0, 0, 0), false, (0, 0, 0)⟩, fun i hil => ?_⟩
      simp only [dif_pos hil]
      exact Classical.choose_spec (hx i hil)
    obtain ⟨F, hF⟩ := hx'
    have hlen : ((List.range l0).map F).length = l0 := by simp
    refine ⟨some a, c0, (List.range l0).map F, by rw [hlen], ?_, fun h => (by cases h), hmx⟩
    by_cases h0 : 0 < l0
    · have hc0 : w.cell? (a.add 0) = _ := hF 0 h0 0 _ rfl
      obtain ⟨ab, ao, ap⟩ := a
      have e0 : (⟨ab, ao, ap⟩ : Addr).add 0 = ⟨ab, ao, ap⟩ := by unfold Addr.add; rw [if_pos rfl]
      rw [e0] at hc0
      have hsp : ap = none := by
        cases ap with
        | none => rfl
        | some s =>
          unfold World.cell? at hc0
          split at hc0 <;> simp at hc0
      subst hsp
      refine ⟨_, c0, by rw [hlen], by rw [hlen]; exact hl, fun _ => ⟨ab, ao, rfl, block_of_cell hc0, fun j x hj k u hu => ?_⟩⟩
      rw [List.getElem?_map] at hj
      have hjl : j < l0 := by
        have := (List.getElem?_eq_some_iff.1 (show (List.range l0)[j]? = some _ from (Option.map_eq_some_iff.1 hj).choose_spec.1)).1
        simpa using this
      rw [List.getElem?_range hjl] at hj
      obtain rfl := Option.some.inj hj
      have := hF j hjl k u hu
      rw [add_off] at this
      rw [Nat.add_assoc]
      exact this
    · exact ⟨_, c0, by rw [hlen], by rw [hlen]; exact hl, fun h => absurd h (by rw [hlen]; exact h0)⟩

theorem open_rec {r : Reach} {b0 : Nat} {t e i : TypeId} {gs fs : Array Field} {v : Value} {d : DataW H} {ps : List MemPlace} (ht : P.underlying t = some (.struct gs)) (hC : P.cellsOf t = 2) (g0 : FieldAt P gs 0 0 1 (some (.int .i64))) (g1 : FieldAt P gs 1 1 1 (some (.slice e)))
    (he : P.underlying e = some (.struct fs)) (hi : P.underlying i = some (.int .i64)) (hc1 : P.cellsOf i = 1) (hc : P.cellsOf e = 10)
    (f0 : FieldAt P fs 0 0 1 (some (.int .i64))) (f1 : FieldAt P fs 1 1 1 (some (.int .i64))) (f2 : FieldAt P fs 2 2 1 (some .bool)) (f3 : FieldAt P fs 3 3 3 (some (.array 3 i))) (f4 : FieldAt P fs 4 6 1 (some .bool)) (f5 : FieldAt P fs 5 7 3 (some (.array 3 i)))
    (hv : Value.okWide P w r b0 t v) (h : DataW.Trod enc P w base sp held t v d ps) :
    ∃ (p : Int) (A : Option Addr) (c : Nat) (l : List Chg), v = recV p (.slice A l.length c) ∧ ChgsAt w (.slice A l.length c) l ∧ (A = none → c = 0) ∧ c ≤ maxLen := by
  simp only [Value.okWide, ht] at hv
  obtain ⟨cs, rfl, h2, _⟩ := hv
  rw [hC] at h2
  obtain ⟨l⟩ := cs
  have hlen : l.length = 2 := by simpa using h2
  obtain ⟨fuel, hf⟩ := h
  obtain ⟨t0, n0, z0, u0, k0⟩ := field_trod ht hf g0
  obtain ⟨t1, n1, z1, u1, k1⟩ := field_trod ht hf g1
  match l, hlen with
  | [c0, c1], _ =>
    simp only [Value.cells, List.drop_zero, List.drop_succ_cons, List.take_succ_cons, List.take_zero] at k0 k1
    obtain ⟨a0, e0, _⟩ := DataW.trod_int u0 k0
    obtain ⟨A, c, l, e1, hl, hA, hm⟩ := chgs_trod u1 he hi hc1 hc f0 f1 f2 f3 f4 f5 k1
    simp only [List.cons.injEq, and_true] at e0 e1
    subst e0 e1
    exact ⟨a0, A, c, l, rfl, hl, hA, hm⟩
end
end Go.Proofs.YtheebajklnljdaaGreatDoor
