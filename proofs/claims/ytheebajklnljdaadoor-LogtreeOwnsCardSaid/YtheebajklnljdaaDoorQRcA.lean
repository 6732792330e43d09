/- The row of records that the law makes: each record's changes lie in a block of their own. -/
import Derived.Test.YtheebajklnljdaaDoorQR3B
import Derived.Test.YtheebajklnljdaaDoorGm
namespace Go.Proofs.YtheebajklnljdaaDoor
open Go Go.RowKit

theorem ownsRow_mono {w : World} {a b : Nat} {e : TypeId} {size : Nat} {v : Value} {n : Nat} {xs : List Value} (h : w.ownsRow b e size v n xs) (hab : a ≤ b) : w.ownsRow a e size v n xs := by
  refine ⟨h.1, ?_⟩
  rcases h.2 with h0 | ⟨g, cap, cur, hv, hb, rest⟩
  · exact .inl h0
  · exact .inr ⟨g, cap, cur, hv, Nat.le_trans hab hb, rest⟩

structure RecOwn (W : World) (base : Nat) (v : Value) (ps : List (Rec × Value)) : Prop where
  row : W.ownsRow base 34 2 v ps.length (ps.flatMap recCells)
  chs : ∀ p ∈ ps, W.ownsRow base 45 10 p.2 p.1.chs.length (p.1.chs.flatMap chgCells)
  apart : ps.Pairwise fun p q => p.2.ownBlock ≠ q.2.ownBlock
  good : ∀ (i : Nat) p, ps[i]? = some p → recB p.1 = true ∧ p.1.pos = (i : Int) + 1

theorem RecOwn.nil (w : World) (base : Nat) : RecOwn w base (.slice none 0 0) [] := ⟨World.ownsRow_nil w _ _ _, by simp, .nil, by simp⟩
theorem RecOwn.later {W W' : World} {base : Nat} {v : Value} {ps : List (Rec × Value)} (h : RecOwn W base v ps) (hb : Below W.heap.size W W') : RecOwn W' base v ps :=
  ⟨ownsRow_later hb h.row, fun p hp => ownsRow_later hb (h.chs p hp), h.apart, h.good⟩
theorem RecOwn.form {W : World} {base : Nat} {v : Value} {ps : List (Rec × Value)} (h : RecOwn W base v ps) : ∃ A c, v = .slice A ps.length c ∧ ps.length ≤ c := by
  obtain ⟨A, c, hv, hc, _⟩ := ownsRow_form h.row
  exact ⟨A, c, hv, hc⟩
theorem RecOwn.recs {W : World} {base : Nat} {v : Value} {ps : List (Rec × Value)} (h : RecOwn W base v ps) : RecsAt W v (ps.map (·.1)) :=
  RecRow.recs (S := fun _ => True) ⟨ps, rfl, ownsRow_base0 h.row, fun _ _ => trivial, fun p hp => ⟨ownsRow_base0 (h.chs p hp), fun _ _ => trivial⟩⟩

theorem ownsRow_some {w : World} {base : Nat} {e : TypeId} {size : Nat} {v : Value} {n : Nat} {xs : List Value} (h : w.ownsRow base e size v n xs) (hn : 0 < n) : ∃ g, v.ownBlock = some g ∧ base ≤ g ∧ g < w.heap.size := by
  obtain ⟨A, c, _, _, _, hx⟩ := ownsRow_form h
  obtain ⟨g, _, _, hg, _⟩ := hx hn
  exact ⟨g, hg, (h.lt g hg).1, (h.lt g hg).2⟩

theorem RecOwn.add {W W' : World} {base B : Nat} {v v' cv : Value} {ps : List (Rec × Value)} {r : Rec} (h : RecOwn W base v ps) (hg : W.grownBy W' v.ownBlock) (own : W'.ownsRow base 34 2 v' (ps.length + 1) (ps.flatMap recCells ++ recCells (r, cv)))
    (hc : W.ownsRow B 45 10 cv r.chs.length (r.chs.flatMap chgCells)) (hB : ∀ p ∈ ps, ∀ k, p.2.ownBlock = some k → k < B) (hbase : base ≤ B) (hr : recB r = true) (hpos : r.pos = (ps.length : Nat) + 1) : RecOwn W' base v' (ps ++ [(r, cv)]) := by
  refine ⟨?_, ?_, ?_, ?_⟩
  · rw [List.length_append, List.length_singleton, List.flatMap_append]
    simpa using own
  · intro p hp
    rcases List.mem_append.1 hp with hp | hp
    · exact (h.chs p hp).kept hg (rows_apart2 h.row (h.chs p hp) (by decide))
    · rw [List.mem_singleton] at hp
      subst hp
      exact ownsRow_mono (hc.kept hg (rows_apart2 h.row hc (by decide))) hbase
  · refine List.pairwise_append.2 ⟨h.apart, List.pairwise_singleton _ _, fun p hp q hq => ?_⟩
    rw [List.mem_singleton] at hq
    subst hq
    obtain ⟨i, hi⟩ := List.getElem?_of_mem hp
    obtain ⟨g, e1, e2, e3⟩ := ownsRow_some (h.chs p hp) (by have := recB_pos (h.good i p hi).1; omega)
    obtain ⟨g', f1, f2, _⟩ := ownsRow_some hc (by have := recB_pos hr; omega)
    have := hB p hp g e1
    dsimp only
    rw [e1, f1]
    intro e
    cases e
    omega
  · intro i p hi
    by_cases c : i < ps.length
    · rw [List.getElem?_append_left c] at hi
      exact h.good i p hi
    · rw [List.getElem?_append_right (by omega)] at hi
      have hlt := (List.getElem?_eq_some_iff.1 hi).1
      simp only [List.length_singleton] at hlt
      obtain rfl : i = ps.length := by omega
      rw [Nat.sub_self] at hi
      simp only [List.getElem?_cons_zero, Option.some.injEq] at hi
      subst hi
      exact ⟨hr, hpos⟩

/-- a slice of slices of numbers -/
def IntRows (w : World) (v : Value) : Prop := ∃ us : List Value, SliceAt w v us ∧ ∀ u ∈ us, ∃ zs : List Int, SliceAt w u (zs.map (Value.int .i64)) ∧ ∀ z ∈ zs, -9223372036854775808 ≤ z ∧ z ≤ 9223372036854775807
theorem IntRows.below {w w' : World} {v : Value} (h : IntRows w v) (hb : Below w.heap.size w w') : IntRows w' v := by
  obtain ⟨us, h1, h2⟩ := h
  refine ⟨us, h1.below hb, fun u hu => ?_⟩
  obtain ⟨zs, h3, h4⟩ := h2 u hu
  exact ⟨zs, h3.below hb, h4⟩

theorem recCells_one (p : Rec × Value) (h : p.2.oneCell' = true) : ∀ u ∈ recCells p, u.oneCell' = true := by
  intro u hu
  unfold recCells at hu
  simp only [List.mem_cons, List.not_mem_nil, or_false] at hu
  rcases hu with rfl | rfl
  · rfl
  · exact h
theorem chgCells_one (c : Chg) : ∀ u ∈ chgCells c, u.oneCell' = true := by
  intro u hu
  unfold chgCells at hu
  simp only [List.mem_cons, List.not_mem_nil, or_false] at hu
  rcases hu with rfl | rfl | rfl | rfl | rfl | rfl | rfl | rfl | rfl | rfl <;> rfl
end Go.Proofs.YtheebajklnljdaaDoor
