/- Joined: SeqF SeqG. -/
import Derived.Test.YtheebajklnljdaaGreatDoorQReg
import Derived.Test.YtheebajklnljdaaGreatDoorGq

section
/- A drawn region whose last operations are one forced chain and may write what its loads have read, walked in one order that the kernel checks once. Over any program. -/
namespace Go.Proofs.YtheebajklnljdaaGreatDoor
open Go

/-- the order serves: all of it lies ahead of the chain, which begins at n -/
def okF (l : List Oper) (n g i0 : Nat) : List (Nat × Bool) → Nat → Bool
  | [], m => Region.seqB .any l.toArray g n (maskOf l.length m)
  | (i, b) :: rest, m => (Nat.blt i n && !Nat.beq i i0) && (match l[i]? with | none => false | some o => readyB l.length m i o && (bif b then aloneB m i l 0 else freeB m i o l.toArray l 0)) && okF l n g i0 rest (m ||| 1 <<< i)

section
variable {P : Program} {ops : Array Oper} {Q : Exit → Act → World → Prop} {S : World → Prop} {T : Act → World → Prop}

/-- the operations come up in this order; then T -/
def SeqF (P : Program) (ops : Array Oper) (Q : Exit → Act → World → Prop) (S : World → Prop) (T : Act → World → Prop) : List (Nat × Bool) → Act → World → Prop
  | [], a, w => T a w
  | (i, b) :: rest, a, w => ∃ o, ops[i]? = some o ∧ ((∃ v, YieldsIf P ops S o v a ∧ SeqF P ops Q S T rest (a.put o.dst v) w) ∨ (b = true ∧ wpOp P ops Q i (fun a' w' => S w' ∧ SeqF P ops Q S T rest a' w') a w))

theorem SeqF.done {a : Act} {w : World} (h : T a w) : SeqF P ops Q S T [] a w := h
theorem SeqF.take {i : Nat} {b : Bool} {rest : List (Nat × Bool)} {a : Act} {w : World} {o : Oper} {v : Value} (ho : ops[i]? = some o) (hw : Region.wanted o (yielded ops a.tmps) = true) (hy : ∀ w, S w → (execOp a.eval o).run P w = .ok (.value v) w)
    (h : SeqF P ops Q S T rest (a.put o.dst v) w) : SeqF P ops Q S T ((i, b) :: rest) a w := ⟨o, ho, .inl ⟨v, .inl ⟨hw, hy⟩, h⟩⟩
theorem SeqF.step {i : Nat} {rest : List (Nat × Bool)} {a : Act} {w : World} {o : Oper} (ho : ops[i]? = some o)
    (h : ∀ K' : Act → World → Prop, Shut (∀ a w, S w → (S w → SeqF P ops Q S T rest a w) → K' a w) → if Region.wanted o (yielded ops a.tmps) = true then Oper.wp P o a w K' Q else K' (a.put o.dst undef) w) : SeqF P ops Q S T ((i, true) :: rest) a w :=
  ⟨o, ho, .inr ⟨rfl, wpOp_step ho fun K' hK => h K' fun a w hS hW => hK a w ⟨hS, hW hS⟩⟩⟩
theorem SeqF.take0 {l : List Oper} {i : Nat} {b : Bool} {rest : List (Nat × Bool)} {a : Act} {w : World} {o : Oper} {v : Value} (ho : l[i]? = some o) (hg : o.guard = none) (hy : ∀ w, S w → (execOp a.eval o).run P w = .ok (.value v) w)
    (h : SeqF P l.toArray Q S T rest (a.put o.dst v) w) : SeqF P l.toArray Q S T ((i, b) :: rest) a w := SeqF.take (by simpa using ho) (wanted_none hg) hy h
theorem SeqF.step0 {l : List Oper} {i : Nat} {rest : List (Nat × Bool)} {a : Act} {w : World} {o : Oper} (ho : l[i]? = some o) (hg : o.guard = none)
    (h : ∀ K' : Act → World → Prop, Shut (∀ a w, S w → (S w → SeqF P l.toArray Q S T rest a w) → K' a w) → Oper.wp P o a w K' Q) : SeqF P l.toArray Q S T ((i, true) :: rest) a w :=
  SeqF.step (by simpa using ho) fun K' hK => by rw [if_pos (wanted_none hg)]; exact h K' hK

theorem frontH_seq {l : List Oper} {n g i0 : Nat} (hc : Cut .any l.toArray n [i0]) (hQ : ∀ (d : Option Tmp) (v : Value) c a w, Q (.panic c) (a.put d v) w → Q (.panic c) a w) :
    ∀ (ord : List (Nat × Bool)) (m : Nat) (a : Act) (w : World), okF l n g i0 ord m = true → HeadInv .any l.toArray n (maskOf l.length m) → S w → SeqF P l.toArray Q S (wpList P l.toArray Q (l.drop n)) ord a w →
      FrontH P .any l.toArray Q S n (fun ls a w => Region.seqB .any l.toArray g n ls = true ∧ wpList P l.toArray Q (l.drop n) a w) ord.length (maskOf l.length m) a w
  | [], m, a, w, hok, _, _, h => ⟨hok, h⟩
  | (i, b) :: rest, m, a, w, hok, inv, hS, h => by
    obtain ⟨o, ho, h⟩ := h
    have hol : l[i]? = some o := by simpa using ho
    have hlt : i < l.length := (List.getElem?_eq_some_iff.1 hol).1
    simp only [okF, hol, Bool.and_eq_true] at hok
    obtain ⟨⟨⟨hin, hi0⟩, hr, hb⟩, hrest⟩ := hok
    have hin : i < n := by simpa using hin
    have hne : i ≠ i0 := fun e => by rw [e] at hi0; simp at hi0
    simp only [readyB, Bool.and_eq_true, Bool.not_eq_true'] at hr
    have hri : i ∈ Region.ready .any l.toArray (maskOf l.length m) := by
      refine mem_ready.2 ⟨by rw [maskOf_get, if_pos hlt]; exact hr.1, o, ho, fun e he hbe => ?_⟩
      have := List.all_eq_true.1 hr.2 e (by simpa using he)
      rw [hbe] at this
      simp only [Bool.not_true, Bool.false_or, Bool.and_eq_true, Nat.blt_eq] at this
      rw [maskOf_get, if_pos this.2]
      exact this.1
    have inv2 := inv.set hri hin
    rw [maskOf_set] at inv2
    have IH := fun a' w' (hS' : S w') (h' : SeqF P l.toArray Q S (wpList P l.toArray Q (l.drop n)) rest a' w') => frontH_seq hc hQ rest (m ||| 1 <<< i) a' w' hrest inv2 hS' h'
    simp only [← maskOf_set] at IH
    show FrontH P .any l.toArray Q S n _ (rest.length + 1) (maskOf l.length m) a w
    cases b with
    | true =>
      have hal : ∀ j ∈ Region.ready .any l.toArray (maskOf l.length m), j = i := by
        intro j hj
        obtain ⟨h1, oj, hoj, h2⟩ := mem_ready.1 hj
        have hjl : l[j]? = some oj := by simpa using hoj
        have hjlt : j < l.length := (List.getElem?_eq_some_iff.1 hjl).1
        rw [maskOf_get, if_pos hjlt] at h1
        have := aloneB_spec (k := 0) hb j oj hjl (by rw [Nat.zero_add]; exact h1) (fun e he hbe => by
          have := h2 e he hbe
          rw [maskOf_get] at this
          split at this
          · exact this
          · cases this)
        omega
      refine ⟨fun e => by rw [e] at hri; simp at hri, fun j hj => ?_⟩
      obtain rfl := hal j hj
      refine ⟨hin, ?_⟩
      rcases h with ⟨v, hy, h⟩ | ⟨_, h⟩
      · exact hy.wpOp ho hS ⟨hS, IH _ _ hS h⟩
      · exact wpOp_mono (fun a' w' k => ⟨k.1, IH _ _ k.1 k.2⟩) h
    | false =>
      rcases h with ⟨v, hy, h⟩ | ⟨hf, _⟩
      · refine FrontH.first hc (fun ls a w h => front_done ls a w h) ho hin (by simp; exact hne) (fun c a w => hQ _ _ c a w) rest.length _ a w inv ?_ hri hy hS (IH _ _ hS h)
        intro j oj hoj hne hun hno
        have hjl : l[j]? = some oj := by simpa using hoj
        have hjlt : j < l.length := (List.getElem?_eq_some_iff.1 hjl).1
        rw [maskOf_get, if_pos hjlt] at hun
        exact freeB_spec (k := 0) hb j oj hjl (by omega) (by rw [Nat.zero_add]; exact hun) hno
      · cases hf

/-- THE BEGINNING: one operation, which yields in whatever world, is taken first -/
theorem wp_region_ordF {id : Nat} {a : Act} {w : World} {l : List Oper} (S : World → Prop) (n g i : Nat) (ord : List (Nat × Bool)) {oi : Oper} {v : Value} (hm : P.follows .mixedOrders = true) (hng : n + 1 + g = l.length) (hi : l.toArray[i]? = some oi) (hin : i < n + 1) (hlen : ord.length = n)
    (hsel : Region.noSelect l.toArray = true) (hsink : sinkE .any l.toArray (n + 1) [i] = true) (hchain : Region.chainB .any l.toArray (n + 1) = true) (hlt : 0 < g)
    (hf : Region.free .any l.toArray (Array.replicate l.toArray.size false) i = true) (hr : (Region.ready .any l.toArray (Array.replicate l.toArray.size false)).contains i = true) (hok : okF l (n + 1) g i ord (0 ||| 1 <<< i) = true)
    (hQ : ∀ (d : Option Tmp) (v : Value) c a w, Q (.panic c) (a.put d v) w → Q (.panic c) a w) (hy : Yields P l.toArray oi v a) (hS : S w.drew)
    (h : S w.drew → SeqF P l.toArray Q S (wpList P l.toArray Q (l.drop (n + 1))) ord (a.put oi.dst v) w.drew) : (Code.region id l.toArray true).wp P Q a w := by
  refine wp_region_front S n g i hm hng hi hin hsel hsink hchain hlt hf hr (fun c a w => hQ _ _ c a w) hy hS fun hc inv hS => ?_
  have hm0 : (Array.replicate l.toArray.size false).setIfInBounds i true = maskOf l.length (0 ||| 1 <<< i) := by
    rw [show l.toArray.size = l.length by simp, ← maskOf_zero, maskOf_set]
  rw [hm0] at inv ⊢
  have := frontH_seq (P := P) (Q := Q) (S := S) hc hQ ord (0 ||| 1 <<< i) (a.put oi.dst v) w.drew hok inv hS (h hS)
  rw [hlen] at this
  exact this
end
end Go.Proofs.YtheebajklnljdaaGreatDoor
end

section
/- A drawn region walked in one order up to a place where two operations may come up; on from there in one order each. Over any program. -/
namespace Go.Proofs.YtheebajklnljdaaGreatDoor
open Go

/-- the order serves from mask m to mask e -/
def okG (l : List Oper) (n : Nat) : List (Nat × Bool) → Nat → Nat → Bool
  | [], m, e => Nat.beq m e
  | (i, b) :: rest, m, e => (match l[i]? with | none => false | some o => readyB n m i o && (bif b then aloneB m i l 0 else freeB m i o l.toArray l 0)) && okG l n rest (m ||| 1 <<< i) e

section
variable {P : Program} {Q : Exit → Act → World → Prop} {S : World → Prop}

theorem wpAnyH_seqG {l : List Oper} (hsel : Region.noSelect l.toArray = true) (hQ : ∀ (d : Option Tmp) (v : Value) c a w, Q (.panic c) (a.put d v) w → Q (.panic c) a w) :
    ∀ (ord : List (Nat × Bool)) (m e k : Nat) (a : Act) (w : World), okG l l.length ord m e = true → S w → SeqF P l.toArray Q S (fun a w => wpAnyH P .any l.toArray Q S k (maskOf l.length e) a w) ord a w → wpAnyH P .any l.toArray Q S (ord.length + k) (maskOf l.length m) a w
  | [], m, e, k, a, w, hok, _, h => by
    have : m = e := by simpa [okG] using hok
    subst this
    rw [List.length_nil, Nat.zero_add]
    exact h
  | (i, b) :: rest, m, e, k, a, w, hok, hS, h => by
    obtain ⟨o, ho, h⟩ := h
    have hol : l[i]? = some o := by simpa using ho
    have hlt : i < l.length := (List.getElem?_eq_some_iff.1 hol).1
    simp only [okG, hol, Bool.and_eq_true] at hok
    obtain ⟨⟨hr, hb⟩, hrest⟩ := hok
    simp only [readyB, Bool.and_eq_true, Bool.not_eq_true'] at hr
    have hri : i ∈ Region.ready .any l.toArray (maskOf l.length m) := by
      refine mem_ready.2 ⟨by rw [maskOf_get, if_pos hlt]; exact hr.1, o, ho, fun e he hbe => ?_⟩
      have := List.all_eq_true.1 hr.2 e (by simpa using he)
      rw [hbe] at this
      simp only [Bool.not_true, Bool.false_or, Bool.and_eq_true, Nat.blt_eq] at this
      rw [maskOf_get, if_pos this.2]
      exact this.1
    have IH := fun a' w' (hS' : S w') (h' : SeqF P l.toArray Q S _ rest a' w') => wpAnyH_seqG hsel hQ rest (m ||| 1 <<< i) e k a' w' hrest hS' h'
    simp only [← maskOf_set] at IH
    rw [List.length_cons, Nat.add_right_comm]
    cases b with
    | true =>
      have hal : ∀ j ∈ Region.ready .any l.toArray (maskOf l.length m), j = i := by
        intro j hj
        obtain ⟨h1, oj, hoj, h2⟩ := mem_ready.1 hj
        have hjl : l[j]? = some oj := by simpa using hoj
        have hjlt : j < l.length := (List.getElem?_eq_some_iff.1 hjl).1
        rw [maskOf_get, if_pos hjlt] at h1
        have := aloneB_spec (k := 0) hb j oj hjl (by rw [Nat.zero_add]; exact h1) (fun e he hbe => by
          have := h2 e he hbe
          rw [maskOf_get] at this
          split at this
          · exact this
          · cases this)
        omega
      refine ⟨fun e => by rw [e] at hri; simp at hri, fun j hj => ?_⟩
      obtain rfl := hal j hj
      rcases h with ⟨v, hy, h⟩ | ⟨_, h⟩
      · exact hy.wpOp ho hS ⟨hS, IH _ _ hS h⟩
      · exact wpOp_mono (fun a' w' k => ⟨k.1, IH _ _ k.1 k.2⟩) h
    | false =>
      rcases h with ⟨v, hy, h⟩ | ⟨hf, _⟩
      · refine wpAnyH_first ho (Region.noSelect_spec hsel) (fun c a w => hQ _ _ c a w) (rest.length + k) _ a w ?_ hri hy hS (IH _ _ hS h)
        intro j oj hoj hne hun hno
        have hjl : l[j]? = some oj := by simpa using hoj
        have hjlt : j < l.length := (List.getElem?_eq_some_iff.1 hjl).1
        rw [maskOf_get, if_pos hjlt] at hun
        exact freeB_spec (k := 0) hb j oj hjl (by omega) (by rw [Nat.zero_add]; exact hun) hno
      · cases hf

/-- THE BEGINNING -/
theorem wp_region_ordG {id : Nat} {a : Act} {w : World} {l : List Oper} (S : World → Prop) (ord : List (Nat × Bool)) (e k : Nat) (hm : P.follows .mixedOrders = true) (hsel : Region.noSelect l.toArray = true) (hlen : ord.length + k = l.length) (hok : okG l l.length ord 0 e = true)
    (hQ : ∀ (d : Option Tmp) (v : Value) c a w, Q (.panic c) (a.put d v) w → Q (.panic c) a w) (hS : S w.drew) (h : S w.drew → SeqF P l.toArray Q S (fun a w => wpAnyH P .any l.toArray Q S k (maskOf l.length e) a w) ord a w.drew) : (Code.region id l.toArray true).wp P Q a w := by
  refine wp_region_held_drew (S := S) hm hS fun hS => ?_
  have := wpAnyH_seqG (P := P) (Q := Q) (S := S) hsel hQ ord 0 e k a w.drew hok hS (h hS)
  rw [maskOf_zero, hlen] at this
  simpa using this

/-- two may come up, without guards -/
theorem two_ready {l : List Oper} {m k i j : Nat} {a : Act} {w : World} {oi oj : Oper} (hr : Region.ready .any l.toArray (maskOf l.length m) = [i, j]) (hi : l[i]? = some oi) (hgi : oi.guard = none) (hj : l[j]? = some oj) (hgj : oj.guard = none)
    (h1 : ∀ K' : Act → World → Prop, Shut (∀ a w, S w → (S w → wpAnyH P .any l.toArray Q S k (maskOf l.length (m ||| 1 <<< i)) a w) → K' a w) → Oper.wp P oi a w K' Q)
    (h2 : ∀ K' : Act → World → Prop, Shut (∀ a w, S w → (S w → wpAnyH P .any l.toArray Q S k (maskOf l.length (m ||| 1 <<< j)) a w) → K' a w) → Oper.wp P oj a w K' Q) : wpAnyH P .any l.toArray Q S (k + 1) (maskOf l.length m) a w := by
  refine ⟨by rw [hr]; simp, fun x hx => ?_⟩
  rw [hr] at hx
  simp only [List.mem_cons, List.not_mem_nil, or_false] at hx
  rcases hx with rfl | rfl
  · rw [maskOf_set]
    exact wpOp_step (by simpa using hi) fun K' hK => by rw [if_pos (wanted_none hgi)]; exact h1 K' fun a w hS hW => hK a w ⟨hS, hW hS⟩
  · rw [maskOf_set]
    exact wpOp_step (by simpa using hj) fun K' hK => by rw [if_pos (wanted_none hgj)]; exact h2 K' fun a w hS hW => hK a w ⟨hS, hW hS⟩

/-- on from a mask, to the end -/
theorem seqG_end {l : List Oper} {a : Act} {w : World} (ord : List (Nat × Bool)) (m e k : Nat) (hk : k = ord.length) (hsel : Region.noSelect l.toArray = true) (hok : okG l l.length ord m e = true) (hr : (Region.ready .any l.toArray (maskOf l.length e)).isEmpty = true)
    (hQ : ∀ (d : Option Tmp) (v : Value) c a w, Q (.panic c) (a.put d v) w → Q (.panic c) a w) (hS : S w) (h : SeqF P l.toArray Q S (fun a w => Q .normal a w) ord a w) : wpAnyH P .any l.toArray Q S k (maskOf l.length m) a w := by
  have := wpAnyH_seqG (P := P) (Q := Q) (S := S) hsel hQ ord m e 0 a w hok hS (by
    have conv : ∀ (ord : List (Nat × Bool)) (a : Act) (w : World), SeqF P l.toArray Q S (fun a w => Q .normal a w) ord a w → SeqF P l.toArray Q S (fun a w => wpAnyH P .any l.toArray Q S 0 (maskOf l.length e) a w) ord a w := by
      intro ord
      induction ord with
      | nil => intro a w h; exact ⟨by simpa using hr, h⟩
      | cons x rest ih =>
        obtain ⟨i, b⟩ := x
        rintro a w ⟨o, ho, h⟩
        refine ⟨o, ho, ?_⟩
        rcases h with ⟨v, hy, h⟩ | ⟨hb, h⟩
        · exact .inl ⟨v, hy, ih _ _ h⟩
        · exact .inr ⟨hb, wpOp_mono (fun a' w' k => ⟨k.1, ih _ _ k.2⟩) h⟩
    exact conv ord a w h)
  rw [hk]
  simpa using this
end
end Go.Proofs.YtheebajklnljdaaGreatDoor
end

