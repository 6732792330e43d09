/- Joined: SeqO SeqP. -/
import Derived.Deep.RegionHeld3

section
/- A drawn region walked in one order: the order is checked once, by the kernel. Over any program. -/
namespace Go.Proofs.YtgbemgndbemllaaGreatDoor
open Go

/-- what has come up, as an array: bit j of m -/
def maskOf (n m : Nat) : Array Bool := Array.ofFn (n := n) fun j => m.testBit j
theorem maskOf_get (n m j : Nat) (d : Bool) : (maskOf n m).getD j d = if j < n then m.testBit j else d := by
  unfold maskOf
  rw [Array.getD_eq_getD_getElem?, Array.getElem?_ofFn]
  split <;> rfl
theorem maskOf_zero (n : Nat) : maskOf n 0 = Array.replicate n false := by
  apply Array.ext_getElem?
  intro j
  unfold maskOf
  rw [Array.getElem?_ofFn, Array.getElem?_replicate]
  split <;> simp
theorem maskOf_set (n m i : Nat) : (maskOf n m).setIfInBounds i true = maskOf n (m ||| 1 <<< i) := by
  apply Array.ext_getElem?
  intro j
  unfold maskOf
  rw [Array.getElem?_setIfInBounds, Array.getElem?_ofFn, Array.getElem?_ofFn]
  by_cases h : i = j
  · subst h
    rw [if_pos rfl]
    by_cases h2 : i < n
    · simp [h2, Nat.testBit_or, Nat.one_shiftLeft]
    · simp [h2]
  · rw [if_neg h]
    by_cases h2 : j < n
    · simp [h2, Nat.testBit_or, Nat.one_shiftLeft, h]
    · simp [h2]

/-- nothing but number i may come up -/
def aloneB (m i : Nat) : List Oper → Nat → Bool
  | [], _ => true
  | o :: os, j => (Nat.beq j i || m.testBit j || o.after.toList.any fun e => Region.binds .any e && !m.testBit e.on) && aloneB m i os (j + 1)
theorem aloneB_spec {m i : Nat} : ∀ {l : List Oper} {k : Nat}, aloneB m i l k = true → ∀ (j : Nat) (o : Oper), l[j]? = some o → m.testBit (k + j) = false → (∀ e ∈ o.after, Region.binds .any e = true → m.testBit e.on = true) → k + j = i
  | [], _, _, j, o, hj, _, _ => by simp at hj
  | x :: xs, k, h, 0, o, hj, hm, he => by
    simp only [List.getElem?_cons_zero, Option.some.injEq] at hj
    subst hj
    simp only [aloneB, Bool.and_eq_true, Bool.or_eq_true, Nat.beq_eq] at h
    rcases h.1 with (h1 | h1) | h1
    · omega
    · rw [Nat.add_zero] at hm; rw [hm] at h1; cases h1
    · obtain ⟨e, h2, h3⟩ := List.any_eq_true.1 h1
      simp only [Bool.and_eq_true, Bool.not_eq_true'] at h3
      have := he e (by simpa using h2) h3.1
      rw [h3.2] at this; cases this
  | x :: xs, k, h, j + 1, o, hj, hm, he => by
    simp only [aloneB, Bool.and_eq_true] at h
    have := aloneB_spec h.2 j o (by simpa using hj) (by rw [← hm]; congr 1; omega) he
    omega

/-- number i may come up -/
def readyB (n m i : Nat) (o : Oper) : Bool := !m.testBit i && o.after.toList.all fun e => !Region.binds .any e || (m.testBit e.on && Nat.blt e.on n)

/-- what has not come up and does not wait for number i is apart from it -/
def freeB (m i : Nat) (oi : Oper) (ops : Array Oper) : List Oper → Nat → Bool
  | [], _ => true
  | o :: os, j => (Nat.beq j i || m.testBit j || (o.after.toList.any fun e => Region.binds .any e && Nat.beq e.on i) || oi.apart ops o) && freeB m i oi ops os (j + 1)
theorem freeB_spec {m i : Nat} {oi : Oper} {ops : Array Oper} : ∀ {l : List Oper} {k : Nat}, freeB m i oi ops l k = true → ∀ (j : Nat) (o : Oper), l[j]? = some o → k + j ≠ i → m.testBit (k + j) = false → (∀ e ∈ o.after, Region.binds .any e = true → e.on ≠ i) → oi.apart ops o = true
  | [], _, _, j, o, hj, _, _, _ => by simp at hj
  | x :: xs, k, h, 0, o, hj, hne, hm, he => by
    simp only [List.getElem?_cons_zero, Option.some.injEq] at hj
    subst hj
    simp only [freeB, Bool.and_eq_true, Bool.or_eq_true, Nat.beq_eq] at h
    rcases h.1 with ((h1 | h1) | h1) | h1
    · omega
    · rw [Nat.add_zero] at hm; rw [hm] at h1; cases h1
    · obtain ⟨e, h2, h3⟩ := List.any_eq_true.1 h1
      simp only [Bool.and_eq_true, Nat.beq_eq] at h3
      exact absurd h3.2 (he e (by simpa using h2) h3.1)
    · exact h1
  | x :: xs, k, h, j + 1, o, hj, hne, hm, he => by
    simp only [freeB, Bool.and_eq_true] at h
    exact freeB_spec h.2 j o (by simpa using hj) (by omega) (by rw [← hm]; congr 1; omega) he

/-- the order serves: what is marked comes up alone, the rest may be taken first -/
def okO (l : List Oper) (n : Nat) : List (Nat × Bool) → Nat → Bool
  | [], m => (List.range n).all fun j => m.testBit j
  | (i, b) :: rest, m => (match l[i]? with | none => false | some o => readyB n m i o && (bif b then aloneB m i l 0 else freeB m i o l.toArray l 0)) && okO l n rest (m ||| 1 <<< i)

section
variable {P : Program} {ops : Array Oper} {Q : Exit → Act → World → Prop} {S : World → Prop}

/-- the operations come up in this order; what is marked may be carried out -/
def SeqO (P : Program) (ops : Array Oper) (Q : Exit → Act → World → Prop) (S : World → Prop) : List (Nat × Bool) → Act → World → Prop
  | [], a, w => Q .normal a w
  | (i, b) :: rest, a, w => ∃ o, ops[i]? = some o ∧ ((∃ v, YieldsIf P ops S o v a ∧ SeqO P ops Q S rest (a.put o.dst v) w) ∨ (b = true ∧ wpOp P ops Q i (fun a' w' => S w' ∧ SeqO P ops Q S rest a' w') a w))

theorem SeqO.done {a : Act} {w : World} (h : Q .normal a w) : SeqO P ops Q S [] a w := h
theorem SeqO.take {i : Nat} {b : Bool} {rest : List (Nat × Bool)} {a : Act} {w : World} {o : Oper} {v : Value} (ho : ops[i]? = some o) (hw : Region.wanted o (yielded ops a.tmps) = true) (hy : ∀ w, S w → (execOp a.eval o).run P w = .ok (.value v) w)
    (h : SeqO P ops Q S rest (a.put o.dst v) w) : SeqO P ops Q S ((i, b) :: rest) a w := ⟨o, ho, .inl ⟨v, .inl ⟨hw, hy⟩, h⟩⟩
theorem SeqO.unwanted {i : Nat} {b : Bool} {rest : List (Nat × Bool)} {a : Act} {w : World} {o : Oper} (ho : ops[i]? = some o) (hw : Region.wanted o (yielded ops a.tmps) = false)
    (h : SeqO P ops Q S rest (a.put o.dst undef) w) : SeqO P ops Q S ((i, b) :: rest) a w := ⟨o, ho, .inl ⟨undef, .inr ⟨hw, rfl⟩, h⟩⟩
theorem SeqO.step {i : Nat} {rest : List (Nat × Bool)} {a : Act} {w : World} {o : Oper} (ho : ops[i]? = some o)
    (h : ∀ K' : Act → World → Prop, Shut (∀ a w, S w → (S w → SeqO P ops Q S rest a w) → K' a w) → if Region.wanted o (yielded ops a.tmps) = true then Oper.wp P o a w K' Q else K' (a.put o.dst undef) w) : SeqO P ops Q S ((i, true) :: rest) a w :=
  ⟨o, ho, .inr ⟨rfl, wpOp_step ho fun K' hK => h K' fun a w hS hW => hK a w ⟨hS, hW hS⟩⟩⟩

theorem wanted_none {o : Oper} {y : Nat → Option Bool} (hg : o.guard = none) : Region.wanted o y = true := by unfold Region.wanted; rw [hg]
theorem wanted_some {l : List Oper} {ts : List Value} {ds : List Deferred} {o oj : Oper} {j d : Nat} (hg : o.guard = some (j, true)) (hj : l[j]? = some oj) (hd : oj.dst = some d) (ht : ts[d]? = some (.bool true)) : Region.wanted o (yielded l.toArray (Act.mk ts.toArray ds).tmps) = true := by
  unfold Region.wanted yielded
  rw [hg]
  simp [hj, hd, ht]
/-- an operation without a guard is taken first -/
theorem SeqO.take0 {l : List Oper} {i : Nat} {b : Bool} {rest : List (Nat × Bool)} {a : Act} {w : World} {o : Oper} {v : Value} (ho : l[i]? = some o) (hg : o.guard = none) (hy : ∀ w, S w → (execOp a.eval o).run P w = .ok (.value v) w)
    (h : SeqO P l.toArray Q S rest (a.put o.dst v) w) : SeqO P l.toArray Q S ((i, b) :: rest) a w := SeqO.take (by simpa using ho) (wanted_none hg) hy h
/-- an operation whose guard holds is taken first -/
theorem SeqO.take1 {l : List Oper} {i : Nat} {b : Bool} {rest : List (Nat × Bool)} {ts : List Value} {ds : List Deferred} {w : World} {o oj : Oper} {v : Value} {j d : Nat} (ho : l[i]? = some o) (hg : o.guard = some (j, true)) (hj : l[j]? = some oj) (hd : oj.dst = some d) (ht : ts[d]? = some (.bool true)) (hy : ∀ w, S w → (execOp (Act.mk ts.toArray ds).eval o).run P w = .ok (.value v) w)
    (h : SeqO P l.toArray Q S rest ((Act.mk ts.toArray ds).put o.dst v) w) : SeqO P l.toArray Q S ((i, b) :: rest) ⟨ts.toArray, ds⟩ w := SeqO.take (by simpa using ho) (wanted_some hg hj hd ht) hy h
/-- an operation without a guard is carried out -/
theorem SeqO.step0 {l : List Oper} {i : Nat} {rest : List (Nat × Bool)} {a : Act} {w : World} {o : Oper} (ho : l[i]? = some o) (hg : o.guard = none)
    (h : ∀ K' : Act → World → Prop, Shut (∀ a w, S w → (S w → SeqO P l.toArray Q S rest a w) → K' a w) → Oper.wp P o a w K' Q) : SeqO P l.toArray Q S ((i, true) :: rest) a w :=
  SeqO.step (by simpa using ho) fun K' hK => by rw [if_pos (wanted_none hg)]; exact h K' hK
/-- an operation whose guard holds is carried out -/
theorem SeqO.step1 {l : List Oper} {i : Nat} {rest : List (Nat × Bool)} {ts : List Value} {ds : List Deferred} {w : World} {o oj : Oper} {j d : Nat} (ho : l[i]? = some o) (hg : o.guard = some (j, true)) (hj : l[j]? = some oj) (hd : oj.dst = some d) (ht : ts[d]? = some (.bool true))
    (h : ∀ K' : Act → World → Prop, Shut (∀ a w, S w → (S w → SeqO P l.toArray Q S rest a w) → K' a w) → Oper.wp P o ⟨ts.toArray, ds⟩ w K' Q) : SeqO P l.toArray Q S ((i, true) :: rest) ⟨ts.toArray, ds⟩ w :=
  SeqO.step (by simpa using ho) fun K' hK => by rw [if_pos (wanted_some hg hj hd ht)]; exact h K' hK

theorem wpAnyH_seq {l : List Oper} (hsel : Region.noSelect l.toArray = true) (hQ : ∀ (d : Option Tmp) (v : Value) c a w, Q (.panic c) (a.put d v) w → Q (.panic c) a w) :
    ∀ (ord : List (Nat × Bool)) (m : Nat) (a : Act) (w : World), okO l l.length ord m = true → S w → SeqO P l.toArray Q S ord a w → wpAnyH P .any l.toArray Q S ord.length (maskOf l.length m) a w
  | [], m, a, w, hok, _, h => by
    refine ⟨?_, h⟩
    cases hr : Region.ready .any l.toArray (maskOf l.length m) with
    | nil => rfl
    | cons j js =>
      have hj : j ∈ Region.ready .any l.toArray (maskOf l.length m) := by rw [hr]; exact List.mem_cons_self
      obtain ⟨h1, o, ho, _⟩ := mem_ready.1 hj
      have hlt : j < l.length := by simpa using (Array.getElem?_eq_some_iff.1 ho).1
      rw [maskOf_get, if_pos hlt] at h1
      have := List.all_eq_true.1 hok j (List.mem_range.2 hlt)
      rw [h1] at this; cases this
  | (i, b) :: rest, m, a, w, hok, hS, h => by
    obtain ⟨o, ho, h⟩ := h
    have hol : l[i]? = some o := by simpa using ho
    have hlt : i < l.length := (List.getElem?_eq_some_iff.1 hol).1
    simp only [okO, hol, Bool.and_eq_true] at hok
    obtain ⟨⟨hr, hb⟩, hrest⟩ := hok
    simp only [readyB, Bool.and_eq_true, Bool.not_eq_true'] at hr
    have hri : i ∈ Region.ready .any l.toArray (maskOf l.length m) := by
      refine mem_ready.2 ⟨by rw [maskOf_get, if_pos hlt]; exact hr.1, o, ho, fun e he hbe => ?_⟩
      have := List.all_eq_true.1 hr.2 e (by simpa using he)
      rw [hbe] at this
      simp only [Bool.not_true, Bool.false_or, Bool.and_eq_true, Nat.blt_eq] at this
      rw [maskOf_get, if_pos this.2]
      exact this.1
    have IH := fun a' w' (hS' : S w') (h' : SeqO P l.toArray Q S rest a' w') => wpAnyH_seq hsel hQ rest (m ||| 1 <<< i) a' w' hrest hS' h'
    simp only [← maskOf_set] at IH
    show wpAnyH P .any l.toArray Q S (rest.length + 1) (maskOf l.length m) a w
    cases b with
    | true =>
      have hal : ∀ j ∈ Region.ready .any l.toArray (maskOf l.length m), j = i := by
        intro j hj
        obtain ⟨h1, oj, hoj, h2⟩ := mem_ready.1 hj
        have hjl : l[j]? = some oj := by simpa using hoj
        have hjlt : j < l.length := (List.getElem?_eq_some_iff.1 hjl).1
        rw [maskOf_get, if_pos hjlt] at h1
        have := aloneB_spec (k := 0) hb j oj hjl (by rw [Nat.zero_add]; exact h1) (fun e he hbe => by
          have := h2 e he hbe
          rw [maskOf_get] at this
          split at this
          · exact this
          · cases this)
        omega
      refine ⟨fun e => by rw [e] at hri; simp at hri, fun j hj => ?_⟩
      obtain rfl := hal j hj
      rcases h with ⟨v, hy, h⟩ | ⟨_, h⟩
      · exact hy.wpOp ho hS ⟨hS, IH _ _ hS h⟩
      · exact wpOp_mono (fun a' w' k => ⟨k.1, IH _ _ k.1 k.2⟩) h
    | false =>
      rcases h with ⟨v, hy, h⟩ | ⟨hf, _⟩
      · refine wpAnyH_first ho (Region.noSelect_spec hsel) (fun c a w => hQ _ _ c a w) rest.length _ a w ?_ hri hy hS (IH _ _ hS h)
        intro j oj hoj hne hun hno
        have hjl : l[j]? = some oj := by simpa using hoj
        have hjlt : j < l.length := (List.getElem?_eq_some_iff.1 hjl).1
        rw [maskOf_get, if_pos hjlt] at hun
        exact freeB_spec (k := 0) hb j oj hjl (by omega) (by rw [Nat.zero_add]; exact hun) hno
      · cases hf

/-- THE BEGINNING: the region's list is written out; the order is given -/
theorem wp_region_ord {id : Nat} {a : Act} {w : World} {l : List Oper} (S : World → Prop) (ord : List (Nat × Bool)) (hm : P.follows .mixedOrders = true) (hsel : Region.noSelect l.toArray = true) (hlen : ord.length = l.length) (hok : okO l l.length ord 0 = true)
    (hQ : ∀ (d : Option Tmp) (v : Value) c a w, Q (.panic c) (a.put d v) w → Q (.panic c) a w) (hS : S w.drew) (h : S w.drew → SeqO P l.toArray Q S ord a w.drew) : (Code.region id l.toArray true).wp P Q a w := by
  refine wp_region_held_drew (S := S) hm hS fun hS => ?_
  have := wpAnyH_seq (P := P) (Q := Q) (S := S) hsel hQ ord 0 a w.drew hok hS (h hS)
  rw [maskOf_zero, hlen] at this
  simpa using this
end

end Go.Proofs.YtgbemgndbemllaaGreatDoor
end

section
/- SeqO: guards that hold or not. Over any program. -/
namespace Go.Proofs.YtgbemgndbemllaaGreatDoor
open Go
section
variable {P : Program} {Q : Exit → Act → World → Prop} {S : World → Prop}
theorem wanted_at {l : List Oper} {ts : List Value} {ds : List Deferred} {o oj : Oper} {j d : Nat} {bb : Bool} (hg : o.guard = some (j, bb)) (hj : l[j]? = some oj) (hd : oj.dst = some d) (ht : ts[d]? = some (.bool bb)) : Region.wanted o (yielded l.toArray (Act.mk ts.toArray ds).tmps) = true := by
  unfold Region.wanted yielded
  rw [hg]
  simp [hj, hd, ht]
theorem unwanted_at {l : List Oper} {ts : List Value} {ds : List Deferred} {o oj : Oper} {j d : Nat} {bb b' : Bool} (hg : o.guard = some (j, bb)) (hj : l[j]? = some oj) (hd : oj.dst = some d) (ht : ts[d]? = some (.bool b')) (hne : (b' == bb) = false) : Region.wanted o (yielded l.toArray (Act.mk ts.toArray ds).tmps) = false := by
  unfold Region.wanted yielded
  rw [hg]
  simp [hj, hd, ht]
  simpa using hne
theorem SeqO.takeG {l : List Oper} {i : Nat} {b : Bool} {rest : List (Nat × Bool)} {ts : List Value} {ds : List Deferred} {w : World} {o oj : Oper} {v : Value} {j d : Nat} {bb : Bool} (ho : l[i]? = some o) (hg : o.guard = some (j, bb)) (hj : l[j]? = some oj) (hd : oj.dst = some d) (ht : ts[d]? = some (.bool bb)) (hy : ∀ w, S w → (execOp (Act.mk ts.toArray ds).eval o).run P w = .ok (.value v) w)
    (h : SeqO P l.toArray Q S rest ((Act.mk ts.toArray ds).put o.dst v) w) : SeqO P l.toArray Q S ((i, b) :: rest) ⟨ts.toArray, ds⟩ w := SeqO.take (by simpa using ho) (wanted_at hg hj hd ht) hy h
theorem SeqO.skipG {l : List Oper} {i : Nat} {b : Bool} {rest : List (Nat × Bool)} {ts : List Value} {ds : List Deferred} {w : World} {o oj : Oper} {j d : Nat} {bb b' : Bool} (ho : l[i]? = some o) (hg : o.guard = some (j, bb)) (hj : l[j]? = some oj) (hd : oj.dst = some d) (ht : ts[d]? = some (.bool b')) (hne : (b' == bb) = false)
    (h : SeqO P l.toArray Q S rest ((Act.mk ts.toArray ds).put o.dst undef) w) : SeqO P l.toArray Q S ((i, b) :: rest) ⟨ts.toArray, ds⟩ w := SeqO.unwanted (by simpa using ho) (unwanted_at hg hj hd ht hne) h
theorem SeqO.stepG {l : List Oper} {i : Nat} {rest : List (Nat × Bool)} {ts : List Value} {ds : List Deferred} {w : World} {o oj : Oper} {j d : Nat} {bb : Bool} (ho : l[i]? = some o) (hg : o.guard = some (j, bb)) (hj : l[j]? = some oj) (hd : oj.dst = some d) (ht : ts[d]? = some (.bool bb))
    (h : ∀ K' : Act → World → Prop, Shut (∀ a w, S w → (S w → SeqO P l.toArray Q S rest a w) → K' a w) → Oper.wp P o ⟨ts.toArray, ds⟩ w K' Q) : SeqO P l.toArray Q S ((i, true) :: rest) ⟨ts.toArray, ds⟩ w :=
  SeqO.step (by simpa using ho) fun K' hK => by rw [if_pos (wanted_at hg hj hd ht)]; exact h K' hK
end
end Go.Proofs.YtgbemgndbemllaaGreatDoor
end

