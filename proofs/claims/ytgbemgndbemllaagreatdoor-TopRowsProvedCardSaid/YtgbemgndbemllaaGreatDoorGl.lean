/- Joined: Reg SeqF SeqG. -/
import Derived.StillTail
import Derived.Deep.RegionHeld3
import Derived.Test.YtgbemgndbemllaaGreatDoorGh

section
/- A region whose last operations come in one forced order and may write what its loads have read: the front in whatever order, under a condition on the world; the tail as a list. Over any program. -/
namespace Go.Proofs.YtgbemgndbemllaaGreatDoor
open Go

section
variable {P : Program} {ops : Array Oper} {Q : Exit → Act → World → Prop} {md : Region.Mode} {S : World → Prop} {n : Nat} {L : Array Bool → Act → World → Prop}

/-- f operations below n come up, in whatever order; S holds behind each; then L. -/
def FrontH (P : Program) (md : Region.Mode) (ops : Array Oper) (Q : Exit → Act → World → Prop) (S : World → Prop) (n : Nat) (L : Array Bool → Act → World → Prop) : Nat → Array Bool → Act → World → Prop
  | 0, ls, a, w => L ls a w
  | f + 1, ls, a, w => Region.ready md ops ls ≠ [] ∧ ∀ i ∈ Region.ready md ops ls, i < n ∧ wpOp P ops Q i (fun a' w' => S w' ∧ FrontH P md ops Q S n L f (ls.setIfInBounds i true) a' w') a w

theorem FrontH.any {g : Nat} (hL : ∀ ls a w, L ls a w → wpAny P md ops Q g ls a w) : ∀ (f : Nat) (ls : Array Bool) (a : Act) (w : World), FrontH P md ops Q S n L f ls a w → wpAny P md ops Q (f + g) ls a w
  | 0, ls, a, w, h => by rw [Nat.zero_add]; exact hL _ _ _ h
  | f + 1, ls, a, w, h => by
    rw [Nat.add_right_comm]
    exact ⟨fun e => absurd e h.1, fun i hi => wpOp_mono (fun a' w' k => FrontH.any hL f _ a' w' k.2) (h.2 i hi).2⟩

/-- each operation below n, but for those of E, is waited for by a later one, not beyond n -/
def sinkE (md : Region.Mode) (ops : Array Oper) (n : Nat) (E : List Nat) : Bool :=
  (List.range n).all fun i => E.contains i || (List.range (n + 1)).any fun j => decide (i < j) && !E.contains j && Region.waitsFor md ops j i

/-- what holds of the region's edges, for the kernel -/
structure Cut (md : Region.Mode) (ops : Array Oper) (n : Nat) (E : List Nat) : Prop where
  sel : Region.noSelect ops = true
  sink : sinkE md ops n E = true
  chain : Region.chainB md ops n = true
  lt : n < ops.size

variable {E : List Nat}

theorem Cut.waits (hc : Cut md ops n E) {ls : Array Bool} (inv : HeadInv md ops n ls) : ∀ (d i : Nat), n - i = d → i < n → E.contains i = false → ls.getD i true = false → ∀ t, n ≤ t → t ∉ Region.ready md ops ls := by
  intro d
  induction d using Nat.strongRecOn with
  | _ d ih =>
    intro i hd hin hE hun t hnt hr
    obtain ⟨_, ot, hot, hall⟩ := mem_ready.1 hr
    have htl : t < ops.size := (Array.getElem?_eq_some_iff.1 hot).1
    rcases Nat.eq_or_lt_of_le hnt with e | hlt
    · subst e
      have h1 := List.all_eq_true.1 hc.sink i (List.mem_range.2 hin)
      rw [hE, Bool.false_or] at h1
      obtain ⟨j, hj, h2⟩ := List.any_eq_true.1 h1
      simp only [Bool.and_eq_true, decide_eq_true_eq, Bool.not_eq_true'] at h2
      obtain ⟨⟨hij, hEj⟩, hw⟩ := h2
      obtain ⟨oj, hoj, e, he, hb, hon⟩ := Region.waitsFor_spec hw
      have hjn : j ≤ n := by have := List.mem_range.1 hj; omega
      have no : ls.getD e.on false = true → False := fun k => by rw [hon, getD_both hun] at k; cases k
      rcases Nat.eq_or_lt_of_le hjn with e1 | hjl
      · subst e1
        have : oj = ot := Option.some.inj (hoj.symm.trans hot)
        subst this
        exact no (hall e he hb)
      · cases hl : ls.getD j false with
        | true => exact no (inv.closed j oj hoj hl e he hb)
        | false => exact ih (n - j) (by omega) j rfl hjl hEj (getD_in (by rw [inv.size]; omega) hl) n (Nat.le_refl _) hr
    · have h1 := List.all_eq_true.1 hc.chain t (List.mem_range.2 htl)
      simp only [Bool.or_eq_true, decide_eq_true_eq] at h1
      rcases h1 with h1 | h1
      · omega
      · obtain ⟨o', ho', e, he, hb, hon⟩ := Region.waitsFor_spec h1
        have : o' = ot := Option.some.inj (ho'.symm.trans hot)
        subst this
        have h2 := hall e he hb
        rw [hon, getD_both (inv.tail (t - 1) (by omega) (by omega))] at h2
        cases h2

theorem Cut.below (hc : Cut md ops n E) {ls : Array Bool} (inv : HeadInv md ops n ls) {i : Nat} (hE : E.contains i = false) (hr : i ∈ Region.ready md ops ls) (hi : i < n) {j : Nat} (hj : j ∈ Region.ready md ops ls) : j < n := by
  apply Nat.lt_of_not_le
  intro h
  exact hc.waits inv _ i rfl hi hE (mem_ready.1 hr).1 j h hj

/-- take number i first -/
theorem FrontH.first (hc : Cut md ops n E) (hL : ∀ ls a w, L ls a w → ∀ j ∈ Region.ready md ops ls, n ≤ j) {i : Nat} {oi : Oper} {v : Value} (hi : ops[i]? = some oi) (hin : i < n) (hE : E.contains i = false)
    (hQ : ∀ c a w, Q (.panic c) (a.put oi.dst v) w → Q (.panic c) a w) :
    ∀ (f : Nat) (ls : Array Bool) (a : Act) (w : World), HeadInv md ops n ls →
      (∀ j oj, ops[j]? = some oj → j ≠ i → ls.getD j true = false → (∀ e ∈ oj.after, Region.binds md e = true → e.on ≠ i) → oi.apart ops oj = true) →
      i ∈ Region.ready md ops ls → YieldsIf P ops S oi v a → S w → FrontH P md ops Q S n L f (ls.setIfInBounds i true) (a.put oi.dst v) w → FrontH P md ops Q S n L (f + 1) ls a w := by
  have hsel := Region.noSelect_spec hc.sel
  intro f
  induction f with
  | zero =>
    intro ls a w inv _ hr hy hS H
    refine ⟨fun e => by rw [e] at hr; simp at hr, fun j hj => ⟨hc.below inv hE hr hin hj, ?_⟩⟩
    by_cases e : j = i
    · subst e; exact hy.wpOp hi hS ⟨hS, H⟩
    · exact absurd (hL _ _ _ H j (ready_mono hj e)) (Nat.not_le.2 (hc.below inv hE hr hin hj))
  | succ f ih =>
    intro ls a w inv hap hr hy hS H
    refine ⟨fun e => by rw [e] at hr; simp at hr, fun j hj => ⟨hc.below inv hE hr hin hj, ?_⟩⟩
    by_cases e : j = i
    · subst e; exact hy.wpOp hi hS ⟨hS, H⟩
    obtain ⟨hju, oj, hoj, hall⟩ := mem_ready.1 hj
    have hun := (mem_ready.1 hr).1
    have hfar : ∀ d ∈ oj.after, Region.binds md d = true → d.on ≠ i := by
      intro d hd hb he
      have k := hall d hd hb
      rw [he, getD_both hun] at k
      cases k
    have step := wpOp_putIf hoj (hap j oj hoj e hju hfar) (fun cs b => hsel i oi cs b hi) (fun cs b => hsel j oj cs b hoj) hQ hy (H.2 j (ready_mono hj e)).2
    refine wpOp_mono (fun a' w' k => ⟨k.2.1, ih (ls.setIfInBounds j true) a' w' (inv.set hj (hc.below inv hE hr hin hj)) ?_ (ready_mono hr (Ne.symm e)) k.1 k.2.1 ?_⟩) step
    · intro m om hm hmi hmu hmf
      refine hap m om hm hmi ?_ hmf
      by_cases hjm : j = m
      · subst hjm; exact hju
      · rw [getD_set_ne true hjm] at hmu; exact hmu
    · rw [Array.setIfInBounds_comm _ _ e]
      exact k.2.2

/-- the move: take number i first; the condition on what has come up is handed on -/
theorem FrontH.take (hc : Cut md ops n E) (hL : ∀ ls a w, L ls a w → ∀ j ∈ Region.ready md ops ls, n ≤ j) {f : Nat} {ls : Array Bool} {a : Act} {w : World} (inv : HeadInv md ops n ls) (i : Nat) {oi : Oper} {v : Value} (hi : ops[i]? = some oi) (hin : i < n) (hE : E.contains i = false)
    (hf : Region.free md ops ls i = true) (hr : (Region.ready md ops ls).contains i = true) (hQ : ∀ c a w, Q (.panic c) (a.put oi.dst v) w → Q (.panic c) a w) (hy : YieldsIf P ops S oi v a) (hS : S w)
    (h : HeadInv md ops n (ls.setIfInBounds i true) → FrontH P md ops Q S n L f (ls.setIfInBounds i true) (a.put oi.dst v) w) : FrontH P md ops Q S n L (f + 1) ls a w :=
  have hm : i ∈ Region.ready md ops ls := by simpa using hr
  FrontH.first hc hL hi hin hE hQ f ls a w inv (Region.free_spec hi hf) hm hy hS (h (inv.set hm hin))

/-- the move: one of these comes up -/
def EachH (P : Program) (md : Region.Mode) (ops : Array Oper) (Q : Exit → Act → World → Prop) (S : World → Prop) (n : Nat) (L : Array Bool → Act → World → Prop) (f : Nat) (ls : Array Bool) (a : Act) (w : World) (rs : List Nat) : Prop :=
  ∀ i ∈ rs, i < n ∧ wpOp P ops Q i (fun a' w' => S w' ∧ FrontH P md ops Q S n L f (ls.setIfInBounds i true) a' w') a w
theorem EachH.nil {f : Nat} {ls : Array Bool} {a : Act} {w : World} : EachH P md ops Q S n L f ls a w [] := fun _ h => by simp at h
theorem EachH.cons {f : Nat} {ls : Array Bool} {a : Act} {w : World} {rs : List Nat} (inv : HeadInv md ops n ls) (i : Nat) {o : Oper} (ho : ops[i]? = some o) (hin : i < n) (hr : (Region.ready md ops ls).contains i = true)
    (h : HeadInv md ops n (ls.setIfInBounds i true) → ∀ K : Act → World → Prop, Shut (∀ a w, S w → FrontH P md ops Q S n L f (ls.setIfInBounds i true) a w → K a w) → if Region.wanted o (yielded ops a.tmps) = true then Oper.wp P o a w K Q else K (a.put o.dst undef) w)
    (hs : EachH P md ops Q S n L f ls a w rs) : EachH P md ops Q S n L f ls a w (i :: rs) := by
  intro j hj
  rcases List.mem_cons.1 hj with rfl | hj
  · exact ⟨hin, wpOp_step ho fun K hK => h (inv.set (by simpa using hr) hin) K fun a w k1 k2 => hK a w ⟨k1, k2⟩⟩
  · exact hs j hj
theorem FrontH.each {rs : List Nat} {f : Nat} {ls : Array Bool} {a : Act} {w : World} (hr : Region.ready md ops ls = rs) (hne : rs ≠ []) (h : EachH P md ops Q S n L f ls a w rs) : FrontH P md ops Q S n L (f + 1) ls a w :=
  ⟨by rw [hr]; exact hne, by rw [hr]; exact h⟩
end

/-- THE BEGINNING: one operation, which yields in whatever world, is taken first; the front is what is left below n -/
theorem wp_region_front {P : Program} {Q : Exit → Act → World → Prop} (S : World → Prop) {id : Nat} {a : Act} {w : World} {l : List Oper} (n g i : Nat) {oi : Oper} {v : Value} (hm : P.follows .mixedOrders = true) (hng : n + 1 + g = l.length) (hi : l.toArray[i]? = some oi) (hin : i < n + 1)
    (hsel : Region.noSelect l.toArray = true) (hsink : sinkE .any l.toArray (n + 1) [i] = true) (hchain : Region.chainB .any l.toArray (n + 1) = true) (hlt : 0 < g)
    (hf : Region.free .any l.toArray (Array.replicate l.toArray.size false) i = true) (hr : (Region.ready .any l.toArray (Array.replicate l.toArray.size false)).contains i = true) (hQ : ∀ c a w, Q (.panic c) (a.put oi.dst v) w → Q (.panic c) a w) (hy : Yields P l.toArray oi v a) (hS : S w.drew)
    (h : Cut .any l.toArray (n + 1) [i] → HeadInv .any l.toArray (n + 1) ((Array.replicate l.toArray.size false).setIfInBounds i true) → S w.drew →
      FrontH P .any l.toArray Q S (n + 1) (fun ls a w => Region.seqB .any l.toArray g (n + 1) ls = true ∧ wpList P l.toArray Q (l.drop (n + 1)) a w) n ((Array.replicate l.toArray.size false).setIfInBounds i true) (a.put oi.dst v) w.drew) :
    (Code.region id l.toArray true).wp P Q a w := by
  have hs : l.toArray.size = n + g + 1 := by simp; omega
  have hcut : Cut .any l.toArray (n + 1) [i] := ⟨hsel, hsink, hchain, by omega⟩
  have inv0 : HeadInv .any l.toArray (n + 1) (Array.replicate l.toArray.size false) :=
    ⟨by simp, fun j oj _ hl => (by rw [getD_replicate_false] at hl; cases hl), fun t _ ht => getD_in (by simpa using ht) (getD_replicate_false _ _)⟩
  have hdl : (l.drop (n + 1)).length = g := by rw [List.length_drop]; omega
  refine wp_region_any hm ?_
  have H := FrontH.any (md := .any) (g := g) (L := fun ls a w => Region.seqB .any l.toArray g (n + 1) ls = true ∧ wpList P l.toArray Q (l.drop (n + 1)) a w) (fun ls a' w' hL => by
    have := wpAny_of_seq (md := .any) (Q' := Q) (l.drop (n + 1)) (n + 1) ls a' w' (fun j => by simp [List.getElem?_drop]) (by rw [hdl]; exact hL.1) hL.2
    rwa [hdl] at this) n _ _ _ (h hcut (inv0.set (by simpa using hr) hin) hS)
  have T := wpAny_take (w := { w with drawn := w.drawn + 1 }) hi hsel hf hr hQ hy H
  rw [← hs] at T
  exact T

/-- what the end of the front asks -/
theorem front_done {P : Program} {Q : Exit → Act → World → Prop} {l : List Oper} {n g : Nat} : ∀ (ls : Array Bool) (a : Act) (w : World), (Region.seqB .any l.toArray g n ls = true ∧ wpList P l.toArray Q (l.drop n) a w) → ∀ j ∈ Region.ready .any l.toArray ls, n ≤ j :=
  fun _ _ _ h => seqB_ready h.1
end Go.Proofs.YtgbemgndbemllaaGreatDoor
end

section
/- A drawn region whose last operations are one forced chain and may write what its loads have read, walked in one order that the kernel checks once. Over any program. -/
namespace Go.Proofs.YtgbemgndbemllaaGreatDoor
open Go

/-- the order serves: all of it lies ahead of the chain, which begins at n -/
def okF (l : List Oper) (n g i0 : Nat) : List (Nat × Bool) → Nat → Bool
  | [], m => Region.seqB .any l.toArray g n (maskOf l.length m)
  | (i, b) :: rest, m => (Nat.blt i n && !Nat.beq i i0) && (match l[i]? with | none => false | some o => readyB l.length m i o && (bif b then aloneB m i l 0 else freeB m i o l.toArray l 0)) && okF l n g i0 rest (m ||| 1 <<< i)

section
variable {P : Program} {ops : Array Oper} {Q : Exit → Act → World → Prop} {S : World → Prop} {T : Act → World → Prop}

/-- the operations come up in this order; then T -/
def SeqF (P : Program) (ops : Array Oper) (Q : Exit → Act → World → Prop) (S : World → Prop) (T : Act → World → Prop) : List (Nat × Bool) → Act → World → Prop
  | [], a, w => T a w
  | (i, b) :: rest, a, w => ∃ o, ops[i]? = some o ∧ ((∃ v, YieldsIf P ops S o v a ∧ SeqF P ops Q S T rest (a.put o.dst v) w) ∨ (b = true ∧ wpOp P ops Q i (fun a' w' => S w' ∧ SeqF P ops Q S T rest a' w') a w))

theorem SeqF.done {a : Act} {w : World} (h : T a w) : SeqF P ops Q S T [] a w := h
theorem SeqF.take {i : Nat} {b : Bool} {rest : List (Nat × Bool)} {a : Act} {w : World} {o : Oper} {v : Value} (ho : ops[i]? = some o) (hw : Region.wanted o (yielded ops a.tmps) = true) (hy : ∀ w, S w → (execOp a.eval o).run P w = .ok (.value v) w)
    (h : SeqF P ops Q S T rest (a.put o.dst v) w) : SeqF P ops Q S T ((i, b) :: rest) a w := ⟨o, ho, .inl ⟨v, .inl ⟨hw, hy⟩, h⟩⟩
theorem SeqF.step {i : Nat} {rest : List (Nat × Bool)} {a : Act} {w : World} {o : Oper} (ho : ops[i]? = some o)
    (h : ∀ K' : Act → World → Prop, Shut (∀ a w, S w → (S w → SeqF P ops Q S T rest a w) → K' a w) → if Region.wanted o (yielded ops a.tmps) = true then Oper.wp P o a w K' Q else K' (a.put o.dst undef) w) : SeqF P ops Q S T ((i, true) :: rest) a w :=
  ⟨o, ho, .inr ⟨rfl, wpOp_step ho fun K' hK => h K' fun a w hS hW => hK a w ⟨hS, hW hS⟩⟩⟩
theorem SeqF.take0 {l : List Oper} {i : Nat} {b : Bool} {rest : List (Nat × Bool)} {a : Act} {w : World} {o : Oper} {v : Value} (ho : l[i]? = some o) (hg : o.guard = none) (hy : ∀ w, S w → (execOp a.eval o).run P w = .ok (.value v) w)
    (h : SeqF P l.toArray Q S T rest (a.put o.dst v) w) : SeqF P l.toArray Q S T ((i, b) :: rest) a w := SeqF.take (by simpa using ho) (wanted_none hg) hy h
theorem SeqF.step0 {l : List Oper} {i : Nat} {rest : List (Nat × Bool)} {a : Act} {w : World} {o : Oper} (ho : l[i]? = some o) (hg : o.guard = none)
    (h : ∀ K' : Act → World → Prop, Shut (∀ a w, S w → (S w → SeqF P l.toArray Q S T rest a w) → K' a w) → Oper.wp P o a w K' Q) : SeqF P l.toArray Q S T ((i, true) :: rest) a w :=
  SeqF.step (by simpa using ho) fun K' hK => by rw [if_pos (wanted_none hg)]; exact h K' hK

theorem frontH_seq {l : List Oper} {n g i0 : Nat} (hc : Cut .any l.toArray n [i0]) (hQ : ∀ (d : Option Tmp) (v : Value) c a w, Q (.panic c) (a.put d v) w → Q (.panic c) a w) :
    ∀ (ord : List (Nat × Bool)) (m : Nat) (a : Act) (w : World), okF l n g i0 ord m = true → HeadInv .any l.toArray n (maskOf l.length m) → S w → SeqF P l.toArray Q S (wpList P l.toArray Q (l.drop n)) ord a w →
      FrontH P .any l.toArray Q S n (fun ls a w => Region.seqB .any l.toArray g n ls = true ∧ wpList P l.toArray Q (l.drop n) a w) ord.length (maskOf l.length m) a w
  | [], m, a, w, hok, _, _, h => ⟨hok, h⟩
  | (i, b) :: rest, m, a, w, hok, inv, hS, h => by
    obtain ⟨o, ho, h⟩ := h
    have hol : l[i]? = some o := by simpa using ho
    have hlt : i < l.length := (List.getElem?_eq_some_iff.1 hol).1
    simp only [okF, hol, Bool.and_eq_true] at hok
    obtain ⟨⟨⟨hin, hi0⟩, hr, hb⟩, hrest⟩ := hok
    have hin : i < n := by simpa using hin
    have hne : i ≠ i0 := fun e => by rw [e] at hi0; simp at hi0
    simp only [readyB, Bool.and_eq_true, Bool.not_eq_true'] at hr
    have hri : i ∈ Region.ready .any l.toArray (maskOf l.length m) := by
      refine mem_ready.2 ⟨by rw [maskOf_get, if_pos hlt]; exact hr.1, o, ho, fun e he hbe => ?_⟩
      have := List.all_eq_true.1 hr.2 e (by simpa using he)
      rw [hbe] at this
      simp only [Bool.not_true, Bool.false_or, Bool.and_eq_true, Nat.blt_eq] at this
      rw [maskOf_get, if_pos this.2]
      exact this.1
    have inv2 := inv.set hri hin
    rw [maskOf_set] at inv2
    have IH := fun a' w' (hS' : S w') (h' : SeqF P l.toArray Q S (wpList P l.toArray Q (l.drop n)) rest a' w') => frontH_seq hc hQ rest (m ||| 1 <<< i) a' w' hrest inv2 hS' h'
    simp only [← maskOf_set] at IH
    show FrontH P .any l.toArray Q S n _ (rest.length + 1) (maskOf l.length m) a w
    cases b with
    | true =>
      have hal : ∀ j ∈ Region.ready .any l.toArray (maskOf l.length m), j = i := by
        intro j hj
        obtain ⟨h1, oj, hoj, h2⟩ := mem_ready.1 hj
        have hjl : l[j]? = some oj := by simpa using hoj
        have hjlt : j < l.length := (List.getElem?_eq_some_iff.1 hjl).1
        rw [maskOf_get, if_pos hjlt] at h1
        have := aloneB_spec (k := 0) hb j oj hjl (by rw [Nat.zero_add]; exact h1) (fun e he hbe => by
          have := h2 e he hbe
          rw [maskOf_get] at this
          split at this
          · exact this
          · cases this)
        omega
      refine ⟨fun e => by rw [e] at hri; simp at hri, fun j hj => ?_⟩
      obtain rfl := hal j hj
      refine ⟨hin, ?_⟩
      rcases h with ⟨v, hy, h⟩ | ⟨_, h⟩
      · exact hy.wpOp ho hS ⟨hS, IH _ _ hS h⟩
      · exact wpOp_mono (fun a' w' k => ⟨k.1, IH _ _ k.1 k.2⟩) h
    | false =>
      rcases h with ⟨v, hy, h⟩ | ⟨hf, _⟩
      · refine FrontH.first hc (fun ls a w h => front_done ls a w h) ho hin (by simp; exact hne) (fun c a w => hQ _ _ c a w) rest.length _ a w inv ?_ hri hy hS (IH _ _ hS h)
        intro j oj hoj hne hun hno
        have hjl : l[j]? = some oj := by simpa using hoj
        have hjlt : j < l.length := (List.getElem?_eq_some_iff.1 hjl).1
        rw [maskOf_get, if_pos hjlt] at hun
        exact freeB_spec (k := 0) hb j oj hjl (by omega) (by rw [Nat.zero_add]; exact hun) hno
      · cases hf

/-- THE BEGINNING: one operation, which yields in whatever world, is taken first -/
theorem wp_region_ordF {id : Nat} {a : Act} {w : World} {l : List Oper} (S : World → Prop) (n g i : Nat) (ord : List (Nat × Bool)) {oi : Oper} {v : Value} (hm : P.follows .mixedOrders = true) (hng : n + 1 + g = l.length) (hi : l.toArray[i]? = some oi) (hin : i < n + 1) (hlen : ord.length = n)
    (hsel : Region.noSelect l.toArray = true) (hsink : sinkE .any l.toArray (n + 1) [i] = true) (hchain : Region.chainB .any l.toArray (n + 1) = true) (hlt : 0 < g)
    (hf : Region.free .any l.toArray (Array.replicate l.toArray.size false) i = true) (hr : (Region.ready .any l.toArray (Array.replicate l.toArray.size false)).contains i = true) (hok : okF l (n + 1) g i ord (0 ||| 1 <<< i) = true)
    (hQ : ∀ (d : Option Tmp) (v : Value) c a w, Q (.panic c) (a.put d v) w → Q (.panic c) a w) (hy : Yields P l.toArray oi v a) (hS : S w.drew)
    (h : S w.drew → SeqF P l.toArray Q S (wpList P l.toArray Q (l.drop (n + 1))) ord (a.put oi.dst v) w.drew) : (Code.region id l.toArray true).wp P Q a w := by
  refine wp_region_front S n g i hm hng hi hin hsel hsink hchain hlt hf hr (fun c a w => hQ _ _ c a w) hy hS fun hc inv hS => ?_
  have hm0 : (Array.replicate l.toArray.size false).setIfInBounds i true = maskOf l.length (0 ||| 1 <<< i) := by
    rw [show l.toArray.size = l.length by simp, ← maskOf_zero, maskOf_set]
  rw [hm0] at inv ⊢
  have := frontH_seq (P := P) (Q := Q) (S := S) hc hQ ord (0 ||| 1 <<< i) (a.put oi.dst v) w.drew hok inv hS (h hS)
  rw [hlen] at this
  exact this
end
end Go.Proofs.YtgbemgndbemllaaGreatDoor
end

section
/- A drawn region walked in one order up to a place where two operations may come up; on from there in one order each. Over any program. -/
namespace Go.Proofs.YtgbemgndbemllaaGreatDoor
open Go

/-- the order serves from mask m to mask e -/
def okG (l : List Oper) (n : Nat) : List (Nat × Bool) → Nat → Nat → Bool
  | [], m, e => Nat.beq m e
  | (i, b) :: rest, m, e => (match l[i]? with | none => false | some o => readyB n m i o && (bif b then aloneB m i l 0 else freeB m i o l.toArray l 0)) && okG l n rest (m ||| 1 <<< i) e

section
variable {P : Program} {Q : Exit → Act → World → Prop} {S : World → Prop}

theorem wpAnyH_seqG {l : List Oper} (hsel : Region.noSelect l.toArray = true) (hQ : ∀ (d : Option Tmp) (v : Value) c a w, Q (.panic c) (a.put d v) w → Q (.panic c) a w) :
    ∀ (ord : List (Nat × Bool)) (m e k : Nat) (a : Act) (w : World), okG l l.length ord m e = true → S w → SeqF P l.toArray Q S (fun a w => wpAnyH P .any l.toArray Q S k (maskOf l.length e) a w) ord a w → wpAnyH P .any l.toArray Q S (ord.length + k) (maskOf l.length m) a w
  | [], m, e, k, a, w, hok, _, h => by
    have : m = e := by simpa [okG] using hok
    subst this
    rw [List.length_nil, Nat.zero_add]
    exact h
  | (i, b) :: rest, m, e, k, a, w, hok, hS, h => by
    obtain ⟨o, ho, h⟩ := h
    have hol : l[i]? = some o := by simpa using ho
    have hlt : i < l.length := (List.getElem?_eq_some_iff.1 hol).1
    simp only [okG, hol, Bool.and_eq_true] at hok
    obtain ⟨⟨hr, hb⟩, hrest⟩ := hok
    simp only [readyB, Bool.and_eq_true, Bool.not_eq_true'] at hr
    have hri : i ∈ Region.ready .any l.toArray (maskOf l.length m) := by
      refine mem_ready.2 ⟨by rw [maskOf_get, if_pos hlt]; exact hr.1, o, ho, fun e he hbe => ?_⟩
      have := List.all_eq_true.1 hr.2 e (by simpa using he)
      rw [hbe] at this
      simp only [Bool.not_true, Bool.false_or, Bool.and_eq_true, Nat.blt_eq] at this
      rw [maskOf_get, if_pos this.2]
      exact this.1
    have IH := fun a' w' (hS' : S w') (h' : SeqF P l.toArray Q S _ rest a' w') => wpAnyH_seqG hsel hQ rest (m ||| 1 <<< i) e k a' w' hrest hS' h'
    simp only [← maskOf_set] at IH
    rw [List.length_cons, Nat.add_right_comm]
    cases b with
    | true =>
      have hal : ∀ j ∈ Region.ready .any l.toArray (maskOf l.length m), j = i := by
        intro j hj
        obtain ⟨h1, oj, hoj, h2⟩ := mem_ready.1 hj
        have hjl : l[j]? = some oj := by simpa using hoj
        have hjlt : j < l.length := (List.getElem?_eq_some_iff.1 hjl).1
        rw [maskOf_get, if_pos hjlt] at h1
        have := aloneB_spec (k := 0) hb j oj hjl (by rw [Nat.zero_add]; exact h1) (fun e he hbe => by
          have := h2 e he hbe
          rw [maskOf_get] at this
          split at this
          · exact this
          · cases this)
        omega
      refine ⟨fun e => by rw [e] at hri; simp at hri, fun j hj => ?_⟩
      obtain rfl := hal j hj
      rcases h with ⟨v, hy, h⟩ | ⟨_, h⟩
      · exact hy.wpOp ho hS ⟨hS, IH _ _ hS h⟩
      · exact wpOp_mono (fun a' w' k => ⟨k.1, IH _ _ k.1 k.2⟩) h
    | false =>
      rcases h with ⟨v, hy, h⟩ | ⟨hf, _⟩
      · refine wpAnyH_first ho (Region.noSelect_spec hsel) (fun c a w => hQ _ _ c a w) (rest.length + k) _ a w ?_ hri hy hS (IH _ _ hS h)
        intro j oj hoj hne hun hno
        have hjl : l[j]? = some oj := by simpa using hoj
        have hjlt : j < l.length := (List.getElem?_eq_some_iff.1 hjl).1
        rw [maskOf_get, if_pos hjlt] at hun
        exact freeB_spec (k := 0) hb j oj hjl (by omega) (by rw [Nat.zero_add]; exact hun) hno
      · cases hf

/-- THE BEGINNING -/
theorem wp_region_ordG {id : Nat} {a : Act} {w : World} {l : List Oper} (S : World → Prop) (ord : List (Nat × Bool)) (e k : Nat) (hm : P.follows .mixedOrders = true) (hsel : Region.noSelect l.toArray = true) (hlen : ord.length + k = l.length) (hok : okG l l.length ord 0 e = true)
    (hQ : ∀ (d : Option Tmp) (v : Value) c a w, Q (.panic c) (a.put d v) w → Q (.panic c) a w) (hS : S w.drew) (h : S w.drew → SeqF P l.toArray Q S (fun a w => wpAnyH P .any l.toArray Q S k (maskOf l.length e) a w) ord a w.drew) : (Code.region id l.toArray true).wp P Q a w := by
  refine wp_region_held_drew (S := S) hm hS fun hS => ?_
  have := wpAnyH_seqG (P := P) (Q := Q) (S := S) hsel hQ ord 0 e k a w.drew hok hS (h hS)
  rw [maskOf_zero, hlen] at this
  simpa using this

/-- two may come up, without guards -/
theorem two_ready {l : List Oper} {m k i j : Nat} {a : Act} {w : World} {oi oj : Oper} (hr : Region.ready .any l.toArray (maskOf l.length m) = [i, j]) (hi : l[i]? = some oi) (hgi : oi.guard = none) (hj : l[j]? = some oj) (hgj : oj.guard = none)
    (h1 : ∀ K' : Act → World → Prop, Shut (∀ a w, S w → (S w → wpAnyH P .any l.toArray Q S k (maskOf l.length (m ||| 1 <<< i)) a w) → K' a w) → Oper.wp P oi a w K' Q)
    (h2 : ∀ K' : Act → World → Prop, Shut (∀ a w, S w → (S w → wpAnyH P .any l.toArray Q S k (maskOf l.length (m ||| 1 <<< j)) a w) → K' a w) → Oper.wp P oj a w K' Q) : wpAnyH P .any l.toArray Q S (k + 1) (maskOf l.length m) a w := by
  refine ⟨by rw [hr]; simp, fun x hx => ?_⟩
  rw [hr] at hx
  simp only [List.mem_cons, List.not_mem_nil, or_false] at hx
  rcases hx with rfl | rfl
  · rw [maskOf_set]
    exact wpOp_step (by simpa using hi) fun K' hK => by rw [if_pos (wanted_none hgi)]; exact h1 K' fun a w hS hW => hK a w ⟨hS, hW hS⟩
  · rw [maskOf_set]
    exact wpOp_step (by simpa using hj) fun K' hK => by rw [if_pos (wanted_none hgj)]; exact h2 K' fun a w hS hW => hK a w ⟨hS, hW hS⟩

/-- on from a mask, to the end -/
theorem seqG_end {l : List Oper} {a : Act} {w : World} (ord : List (Nat × Bool)) (m e k : Nat) (hk : k = ord.length) (hsel : Region.noSelect l.toArray = true) (hok : okG l l.length ord m e = true) (hr : (Region.ready .any l.toArray (maskOf l.length e)).isEmpty = true)
    (hQ : ∀ (d : Option Tmp) (v : Value) c a w, Q (.panic c) (a.put d v) w → Q (.panic c) a w) (hS : S w) (h : SeqF P l.toArray Q S (fun a w => Q .normal a w) ord a w) : wpAnyH P .any l.toArray Q S k (maskOf l.length m) a w := by
  have := wpAnyH_seqG (P := P) (Q := Q) (S := S) hsel hQ ord m e 0 a w hok hS (by
    have conv : ∀ (ord : List (Nat × Bool)) (a : Act) (w : World), SeqF P l.toArray Q S (fun a w => Q .normal a w) ord a w → SeqF P l.toArray Q S (fun a w => wpAnyH P .any l.toArray Q S 0 (maskOf l.length e) a w) ord a w := by
      intro ord
      induction ord with
      | nil => intro a w h; exact ⟨by simpa using hr, h⟩
      | cons x rest ih =>
        obtain ⟨i, b⟩ := x
        rintro a w ⟨o, ho, h⟩
        refine ⟨o, ho, ?_⟩
        rcases h with ⟨v, hy, h⟩ | ⟨hb, h⟩
        · exact .inl ⟨v, hy, ih _ _ h⟩
        · exact .inr ⟨hb, wpOp_mono (fun a' w' k => ⟨k.1, ih _ _ k.2⟩) h⟩
    exact conv ord a w h)
  rw [hk]
  simpa using this
end
end Go.Proofs.YtgbemgndbemllaaGreatDoor
end

