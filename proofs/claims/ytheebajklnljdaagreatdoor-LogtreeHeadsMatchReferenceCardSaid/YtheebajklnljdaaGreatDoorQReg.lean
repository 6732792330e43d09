/- A region whose last operations come in one forced order and may write what its loads have read: the front in whatever order, under a condition on the world; the tail as a list. Over any program. -/
import Derived.StillTail
import Derived.Deep.RegionHeld3
namespace Go.Proofs.YtheebajklnljdaaGreatDoor
open Go

section
variable {P : Program} {ops : Array Oper} {Q : Exit → Act → World → Prop} {md : Region.Mode} {S : World → Prop} {n : Nat} {L : Array Bool → Act → World → Prop}

/-- f operations below n come up, in whatever order; S holds behind each; then L. -/
def FrontH (P : Program) (md : Region.Mode) (ops : Array Oper) (Q : Exit → Act → World → Prop) (S : World → Prop) (n : Nat) (L : Array Bool → Act → World → Prop) : Nat → Array Bool → Act → World → Prop
  | 0, ls, a, w => L ls a w
  | f + 1, ls, a, w => Region.ready md ops ls ≠ [] ∧ ∀ i ∈ Region.ready md ops ls, i < n ∧ wpOp P ops Q i (fun a' w' => S w' ∧ FrontH P md ops Q S n L f (ls.setIfInBounds i true) a' w') a w

theorem FrontH.any {g : Nat} (hL : ∀ ls a w, L ls a w → wpAny P md ops Q g ls a w) : ∀ (f : Nat) (ls : Array Bool) (a : Act) (w : World), FrontH P md ops Q S n L f ls a w → wpAny P md ops Q (f + g) ls a w
  | 0, ls, a, w, h => by rw [Nat.zero_add]; exact hL _ _ _ h
  | f + 1, ls, a, w, h => by
    rw [Nat.add_right_comm]
    exact ⟨fun e => absurd e h.1, fun i hi => wpOp_mono (fun a' w' k => FrontH.any hL f _ a' w' k.2) (h.2 i hi).2⟩

/-- each operation below n, but for those of E, is waited for by a later one, not beyond n -/
def sinkE (md : Region.Mode) (ops : Array Oper) (n : Nat) (E : List Nat) : Bool :=
  (List.range n).all fun i => E.contains i || (List.range (n + 1)).any fun j => decide (i < j) && !E.contains j && Region.waitsFor md ops j i

/-- what holds of the region's edges, for the kernel -/
structure Cut (md : Region.Mode) (ops : Array Oper) (n : Nat) (E : List Nat) : Prop where
  sel : Region.noSelect ops = true
  sink : sinkE md ops n E = true
  chain : Region.chainB md ops n = true
  lt : n < ops.size

variable {E : List Nat}

theorem Cut.waits (hc : Cut md ops n E) {ls : Array Bool} (inv : HeadInv md ops n ls) : ∀ (d i : Nat), n - i = d → i < n → E.contains i = false → ls.getD i true = false → ∀ t, n ≤ t → t ∉ Region.ready md ops ls := by
  intro d
  induction d using Nat.strongRecOn with
  | _ d ih =>
    intro i hd hin hE hun t hnt hr
    obtain ⟨_, ot, hot, hall⟩ := mem_ready.1 hr
    have htl : t < ops.size := (Array.getElem?_eq_some_iff.1 hot).1
    rcases Nat.eq_or_lt_of_le hnt with e | hlt
    · subst e
      have h1 := List.all_eq_true.1 hc.sink i (List.mem_range.2 hin)
      rw [hE, Bool.false_or] at h1
      obtain ⟨j, hj, h2⟩ := List.any_eq_true.1 h1
      simp only [Bool.and_eq_true, decide_eq_true_eq, Bool.not_eq_true'] at h2
      obtain ⟨⟨hij, hEj⟩, hw⟩ := h2
      obtain ⟨oj, hoj, e, he, hb, hon⟩ := Region.waitsFor_spec hw
      have hjn : j ≤ n := by have := List.mem_range.1 hj; omega
      have no : ls.getD e.on false = true → False := fun k => by rw [hon, getD_both hun] at k; cases k
      rcases Nat.eq_or_lt_of_le hjn with e1 | hjl
      · subst e1
        have : oj = ot := Option.some.inj (hoj.symm.trans hot)
        subst this
        exact no (hall e he hb)
      · cases hl : ls.getD j false with
        | true => exact no (inv.closed j oj hoj hl e he hb)
        | false => exact ih (n - j) (by omega) j rfl hjl hEj (getD_in (by rw [inv.size]; omega) hl) n (Nat.le_refl _) hr
    · have h1 := List.all_eq_true.1 hc.chain t (List.mem_range.2 htl)
      simp only [Bool.or_eq_true, decide_eq_true_eq] at h1
      rcases h1 with h1 | h1
      · omega
      · obtain ⟨o', ho', e, he, hb, hon⟩ := Region.waitsFor_spec h1
        have : o' = ot := Option.some.inj (ho'.symm.trans hot)
        subst this
        have h2 := hall e he hb
        rw [hon, getD_both (inv.tail (t - 1) (by omega) (by omega))] at h2
        cases h2

theorem Cut.below (hc : Cut md ops n E) {ls : Array Bool} (inv : HeadInv md ops n ls) {i : Nat} (hE : E.contains i = false) (hr : i ∈ Region.ready md ops ls) (hi : i < n) {j : Nat} (hj : j ∈ Region.ready md ops ls) : j < n := by
  apply Nat.lt_of_not_le
  intro h
  exact hc.waits inv _ i rfl hi hE (mem_ready.1 hr).1 j h hj

/-- take number i first -/
theorem FrontH.first (hc : Cut md ops n E) (hL : ∀ ls a w, L ls a w → ∀ j ∈ Region.ready md ops ls, n ≤ j) {i : Nat} {oi : Oper} {v : Value} (hi : ops[i]? = some oi) (hin : i < n) (hE : E.contains i = false)
    (hQ : ∀ c a w, Q (.panic c) (a.put oi.dst v) w → Q (.panic c) a w) :
    ∀ (f : Nat) (ls : Array Bool) (a : Act) (w : World), HeadInv md ops n ls →
      (∀ j oj, ops[j]? = some oj → j ≠ i → ls.getD j true = false → (∀ e ∈ oj.after, Region.binds md e = true → e.on ≠ i) → oi.apart ops oj = true) →
      i ∈ Region.ready md ops ls → YieldsIf P ops S oi v a → S w → FrontH P md ops Q S n L f (ls.setIfInBounds i true) (a.put oi.dst v) w → FrontH P md ops Q S n L (f + 1) ls a w := by
  have hsel := Region.noSelect_spec hc.sel
  intro f
  induction f with
  | zero =>
    intro ls a w inv _ hr hy hS H
    refine ⟨fun e => by rw [e] at hr; simp at hr, fun j hj => ⟨hc.below inv hE hr hin hj, ?_⟩⟩
    by_cases e : j = i
    · subst e; exact hy.wpOp hi hS ⟨hS, H⟩
    · exact absurd (hL _ _ _ H j (ready_mono hj e)) (Nat.not_le.2 (hc.below inv hE hr hin hj))
  | succ f ih =>
    intro ls a w inv hap hr hy hS H
    refine ⟨fun e => by rw [e] at hr; simp at hr, fun j hj => ⟨hc.below inv hE hr hin hj, ?_⟩⟩
    by_cases e : j = i
    · subst e; exact hy.wpOp hi hS ⟨hS, H⟩
    obtain ⟨hju, oj, hoj, hall⟩ := mem_ready.1 hj
    have hun := (mem_ready.1 hr).1
    have hfar : ∀ d ∈ oj.after, Region.binds md d = true → d.on ≠ i := by
      intro d hd hb he
      have k := hall d hd hb
      rw [he, getD_both hun] at k
      cases k
    have step := wpOp_putIf hoj (hap j oj hoj e hju hfar) (fun cs b => hsel i oi cs b hi) (fun cs b => hsel j oj cs b hoj) hQ hy (H.2 j (ready_mono hj e)).2
    refine wpOp_mono (fun a' w' k => ⟨k.2.1, ih (ls.setIfInBounds j true) a' w' (inv.set hj (hc.below inv hE hr hin hj)) ?_ (ready_mono hr (Ne.symm e)) k.1 k.2.1 ?_⟩) step
    · intro m om hm hmi hmu hmf
      refine hap m om hm hmi ?_ hmf
      by_cases hjm : j = m
      · subst hjm; exact hju
      · rw [getD_set_ne true hjm] at hmu; exact hmu
    · rw [Array.setIfInBounds_comm _ _ e]
      exact k.2.2

/-- the move: take number i first; the condition on what has come up is handed on -/
theorem FrontH.take (hc : Cut md ops n E) (hL : ∀ ls a w, L ls a w → ∀ j ∈ Region.ready md ops ls, n ≤ j) {f : Nat} {ls : Array Bool} {a : Act} {w : World} (inv : HeadInv md ops n ls) (i : Nat) {oi : Oper} {v : Value} (hi : ops[i]? = some oi) (hin : i < n) (hE : E.contains i = false)
    (hf : Region.free md ops ls i = true) (hr : (Region.ready md ops ls).contains i = true) (hQ : ∀ c a w, Q (.panic c) (a.put oi.dst v) w → Q (.panic c) a w) (hy : YieldsIf P ops S oi v a) (hS : S w)
    (h : HeadInv md ops n (ls.setIfInBounds i true) → FrontH P md ops Q S n L f (ls.setIfInBounds i true) (a.put oi.dst v) w) : FrontH P md ops Q S n L (f + 1) ls a w :=
  have hm : i ∈ Region.ready md ops ls := by simpa using hr
  FrontH.first hc hL hi hin hE hQ f ls a w inv (Region.free_spec hi hf) hm hy hS (h (inv.set hm hin))

/-- the move: one of these comes up -/
def EachH (P : Program) (md : Region.Mode) (ops : Array Oper) (Q : Exit → Act → World → Prop) (S : World → Prop) (n : Nat) (L : Array Bool → Act → World → Prop) (f : Nat) (ls : Array Bool) (a : Act) (w : World) (rs : List Nat) : Prop :=
  ∀ i ∈ rs, i < n ∧ wpOp P ops Q i (fun a' w' => S w' ∧ FrontH P md ops Q S n L f (ls.setIfInBounds i true) a' w') a w
theorem EachH.nil {f : Nat} {ls : Array Bool} {a : Act} {w : World} : EachH P md ops Q S n L f ls a w [] := fun _ h => by simp at h
theorem EachH.cons {f : Nat} {ls : Array Bool} {a : Act} {w : World} {rs : List Nat} (inv : HeadInv md ops n ls) (i : Nat) {o : Oper} (ho : ops[i]? = some o) (hin : i < n) (hr : (Region.ready md ops ls).contains i = true)
    (h : HeadInv md ops n (ls.setIfInBounds i true) → ∀ K : Act → World → Prop, Shut (∀ a w, S w → FrontH P md ops Q S n L f (ls.setIfInBounds i true) a w → K a w) → if Region.wanted o (yielded ops a.tmps) = true then Oper.wp P o a w K Q else K (a.put o.dst undef) w)
    (hs : EachH P md ops Q S n L f ls a w rs) : EachH P md ops Q S n L f ls a w (i :: rs) := by
  intro j hj
  rcases List.mem_cons.1 hj with rfl | hj
  · exact ⟨hin, wpOp_step ho fun K hK => h (inv.set (by simpa using hr) hin) K fun a w k1 k2 => hK a w ⟨k1, k2⟩⟩
  · exact hs j hj
theorem FrontH.each {rs : List Nat} {f : Nat} {ls : Array Bool} {a : Act} {w : World} (hr : Region.ready md ops ls = rs) (hne : rs ≠ []) (h : EachH P md ops Q S n L f ls a w rs) : FrontH P md ops Q S n L (f + 1) ls a w :=
  ⟨by rw [hr]; exact hne, by rw [hr]; exact h⟩
end

/-- THE BEGINNING: one operation, which yields in whatever world, is taken first; the front is what is left below n -/
theorem wp_region_front {P : Program} {Q : Exit → Act → World → Prop} (S : World → Prop) {id : Nat} {a : Act} {w : World} {l : List Oper} (n g i : Nat) {oi : Oper} {v : Value} (hm : P.follows .mixedOrders = true) (hng : n + 1 + g = l.length) (hi : l.toArray[i]? = some oi) (hin : i < n + 1)
    (hsel : Region.noSelect l.toArray = true) (hsink : sinkE .any l.toArray (n + 1) [i] = true) (hchain : Region.chainB .any l.toArray (n + 1) = true) (hlt : 0 < g)
    (hf : Region.free .any l.toArray (Array.replicate l.toArray.size false) i = true) (hr : (Region.ready .any l.toArray (Array.replicate l.toArray.size false)).contains i = true) (hQ : ∀ c a w, Q (.panic c) (a.put oi.dst v) w → Q (.panic c) a w) (hy : Yields P l.toArray oi v a) (hS : S w.drew)
    (h : Cut .any l.toArray (n + 1) [i] → HeadInv .any l.toArray (n + 1) ((Array.replicate l.toArray.size false).setIfInBounds i true) → S w.drew →
      FrontH P .any l.toArray Q S (n + 1) (fun ls a w => Region.seqB .any l.toArray g (n + 1) ls = true ∧ wpList P l.toArray Q (l.drop (n + 1)) a w) n ((Array.replicate l.toArray.size false).setIfInBounds i true) (a.put oi.dst v) w.drew) :
    (Code.region id l.toArray true).wp P Q a w := by
  have hs : l.toArray.size = n + g + 1 := by simp; omega
  have hcut : Cut .any l.toArray (n + 1) [i] := ⟨hsel, hsink, hchain, by omega⟩
  have inv0 : HeadInv .any l.toArray (n + 1) (Array.replicate l.toArray.size false) :=
    ⟨by simp, fun j oj _ hl => (by rw [getD_replicate_false] at hl; cases hl), fun t _ ht => getD_in (by simpa using ht) (getD_replicate_false _ _)⟩
  have hdl : (l.drop (n + 1)).length = g := by rw [List.length_drop]; omega
  refine wp_region_any hm ?_
  have H := FrontH.any (md := .any) (g := g) (L := fun ls a w => Region.seqB .any l.toArray g (n + 1) ls = true ∧ wpList P l.toArray Q (l.drop (n + 1)) a w) (fun ls a' w' hL => by
    have := wpAny_of_seq (md := .any) (Q' := Q) (l.drop (n + 1)) (n + 1) ls a' w' (fun j => by simp [List.getElem?_drop]) (by rw [hdl]; exact hL.1) hL.2
    rwa [hdl] at this) n _ _ _ (h hcut (inv0.set (by simpa using hr) hin) hS)
  have T := wpAny_take (w := { w with drawn := w.drawn + 1 }) hi hsel hf hr hQ hy H
  rw [← hs] at T
  exact T

/-- what the end of the front asks -/
theorem front_done {P : Program} {Q : Exit → Act → World → Prop} {l : List Oper} {n g : Nat} : ∀ (ls : Array Bool) (a : Act) (w : World), (Region.seqB .any l.toArray g n ls = true ∧ wpList P l.toArray Q (l.drop n) a w) → ∀ j ∈ Region.ready .any l.toArray ls, n ≤ j :=
  fun _ _ _ h => seqB_ready h.1
end Go.Proofs.YtheebajklnljdaaGreatDoor
