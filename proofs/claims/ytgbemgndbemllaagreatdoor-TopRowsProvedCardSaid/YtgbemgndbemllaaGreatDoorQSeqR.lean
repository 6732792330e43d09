/- A drawn region inside the body of a range over a function, walked in one order. Over any program. -/
import Derived.Test.YtgbemgndbemllaaGreatDoorGh
import Derived.Test.YtgbemgndbemllaaGreatDoorGl
import Derived.Test.YtgbemgndbemllaaGreatDoorQRf
namespace Go.Proofs.YtgbemgndbemllaaGreatDoor
open Go

/-- nothing but the end -/
def OnlyN (Q : Exit → Act → World → Prop) : Exit → Act → World → Prop
  | .normal, a, w => Q .normal a w
  | _, _, _ => False
theorem OnlyN.normal {Q : Exit → Act → World → Prop} {a : Act} {w : World} (h : Q .normal a w) : OnlyN Q .normal a w := h
theorem onlyN_lets {Q : Exit → Act → World → Prop} : ¬ LetsOut (OnlyN Q) := fun ⟨_, _, h⟩ => h
def noDefer (o : Oper) : Bool := match o.op with
  | .defer _ => false
  | _ => true
theorem noDefer_spec {o : Oper} (h : noDefer o = true) : ∀ c, o.op ≠ .defer c := fun c e => by
  unfold noDefer at h
  rw [e] at h
  cases h

theorem uponIn_of {L n : Nat} {P : Program} {o : Oper} {a : Act} {K K' : Act → World → Prop} {Q : Exit → Act → World → Prop} (hK : ∀ a w, K a w → K' a w) {r : Result Next} (h : o.upon P a K (OnlyN Q) r) : o.uponIn (Fence.wide.inRound L) n P a K' Q r := by
  cases r with
  | ok x w =>
    cases x with
    | value v => exact hK _ _ h
    | skip => exact hK _ _ h
    | defer d => exact hK _ _ h
    | enter f args =>
      refine ⟨fun e => Bool.noConfusion (show false = true from e), CallsIn.inRound L (callsIn_wide.2 (Calls.mono h ?_))⟩
      intro e w' he
      cases e with
      | returned v => exact hK _ _ he
      | panicked c => exact he.elim
      | outgrown => exact (onlyN_lets he).elim
    | row row args =>
      refine ⟨fun e => Bool.noConfusion (show false = true from e), fun c cs _ => ?_⟩
      obtain ⟨v, w', r, s⟩ := h c cs
      exact ⟨v, w', hK _ _ r, stepsIn_wide.2 s⟩
    | round => exact h.elim
    | _ => exact h.elim
  | halt x w =>
    cases x with
    | panic v => exact (h : False).elim
    | _ => exact (h : False).elim

theorem wpOpsIn_of {L n : Nat} {P : Program} {ops : Array Oper} {Q : Exit → Act → World → Prop} (hd : ∀ o ∈ ops.toList, noDefer o = true) : ∀ (l : List Nat) (a : Act) (w : World), wpOps P ops (OnlyN Q) l a w → wpOpsIn (Fence.wide.inRound L) n P ops Q l a w
  | [], _, _, h => h
  | i :: rest, a, w, h => by
    unfold wpOps at h
    unfold wpOpsIn
    cases ho : ops[i]? with
    | none =>
      rw [ho] at h
      exact wpOpsIn_of hd rest a w h
    | some o =>
      rw [ho] at h
      dsimp only at h ⊢
      split
      · rename_i hw
        rw [if_pos hw] at h
        rcases h with h | ⟨_, h⟩
        · refine ⟨fun _ _ => trivial, ?_⟩
          rw [Oper.semAt_eq _ _ _ (noDefer_spec (hd o (by
            have := Array.mem_of_getElem? ho
            simpa using this)))]
          exact uponIn_of (fun a w => wpOpsIn_of hd rest a w) h
        · exact (onlyN_lets h).elim
      · rename_i hw
        rw [if_neg hw] at h
        exact ⟨fun _ _ => trivial, wpOpsIn_of hd rest _ _ h⟩

/-- as wp_region_front, of the list of operations -/
theorem any_front {P : Program} {Q : Exit → Act → World → Prop} (S : World → Prop) {a : Act} {w : World} {l : List Oper} (n g i : Nat) {oi : Oper} {v : Value} (hng : n + 1 + g = l.length) (hi : l.toArray[i]? = some oi) (hin : i < n + 1)
    (hsel : Region.noSelect l.toArray = true) (hsink : sinkE .any l.toArray (n + 1) [i] = true) (hchain : Region.chainB .any l.toArray (n + 1) = true) (hlt : 0 < g)
    (hf : Region.free .any l.toArray (Array.replicate l.toArray.size false) i = true) (hr : (Region.ready .any l.toArray (Array.replicate l.toArray.size false)).contains i = true) (hQ : ∀ c a w, Q (.panic c) (a.put oi.dst v) w → Q (.panic c) a w) (hy : Yields P l.toArray oi v a) (hS : S w.drew)
    (h : Cut .any l.toArray (n + 1) [i] → HeadInv .any l.toArray (n + 1) ((Array.replicate l.toArray.size false).setIfInBounds i true) → S w.drew →
      FrontH P .any l.toArray Q S (n + 1) (fun ls a w => Region.seqB .any l.toArray g (n + 1) ls = true ∧ wpList P l.toArray Q (l.drop (n + 1)) a w) n ((Array.replicate l.toArray.size false).setIfInBounds i true) (a.put oi.dst v) w.drew) :
    wpAny P .any l.toArray Q l.toArray.size (Array.replicate l.toArray.size false) a w.drew := by
  have hs : l.toArray.size = n + g + 1 := by simp; omega
  have hcut : Cut .any l.toArray (n + 1) [i] := ⟨hsel, hsink, hchain, by omega⟩
  have inv0 : HeadInv .any l.toArray (n + 1) (Array.replicate l.toArray.size false) :=
    ⟨by simp, fun j oj _ hl => (by rw [getD_replicate_false] at hl; cases hl), fun t _ ht => getD_in (by simpa using ht) (getD_replicate_false _ _)⟩
  have hdl : (l.drop (n + 1)).length = g := by rw [List.length_drop]; omega
  have H := FrontH.any (md := .any) (g := g) (L := fun ls a w => Region.seqB .any l.toArray g (n + 1) ls = true ∧ wpList P l.toArray Q (l.drop (n + 1)) a w) (fun ls a' w' hL => by
    have := wpAny_of_seq (md := .any) (Q' := Q) (l.drop (n + 1)) (n + 1) ls a' w' (fun j => by simp [List.getElem?_drop]) (by rw [hdl]; exact hL.1) hL.2
    rwa [hdl] at this) n _ _ _ (h hcut (inv0.set (by simpa using hr) hin) hS)
  have T := wpAny_take (w := w.drew) hi hsel hf hr hQ hy H
  rw [← hs] at T
  exact T


section
variable {P : Program} {Q : Exit → Act → World → Prop}
/-- THE BEGINNING -/
theorem wpIn_region_ord {id L n : Nat} {a : Act} {w : World} {l : List Oper} (S : World → Prop) (ord : List (Nat × Bool)) (hm : P.follows .mixedOrders = true) (hsel : Region.noSelect l.toArray = true) (hlen : ord.length = l.length) (hok : okO l l.length ord 0 = true)
    (hd : l.all noDefer = true) (hS : S w.drew) (h : S w.drew → SeqO P l.toArray (OnlyN Q) S ord a w.drew) : (Code.region id l.toArray true).wpIn (Fence.wide.inRound L) n P Q a w := by
  refine wpIn_region_draw fun t => ?_
  simp only [Region.schedule, hm, Bool.true_or, if_true]
  have h1 := wpAnyH_seq (P := P) (Q := OnlyN Q) (S := S) hsel (fun _ _ _ _ _ h => h) ord 0 a w.drew hok hS (h hS)
  rw [maskOf_zero, hlen] at h1
  refine wpOpsIn_of (fun o ho => List.all_eq_true.1 hd o (by simpa using ho)) _ _ _ ?_
  have h2 := wpAny_sound l.length t _ a _ (wpAny_of_held _ _ _ _ h1)
  have e : Region.linearise Region.Mode.any l.toArray t = Region.linearise.go Region.Mode.any l.toArray l.length t (Array.replicate l.length false) [] := by
    unfold Region.linearise
    simp
  rw [e]
  exact h2
/-- as wp_region_ordF, in a round -/
theorem wpIn_region_ordF {id L m0 : Nat} {a : Act} {w : World} {l : List Oper} (S : World → Prop) (n g i : Nat) (ord : List (Nat × Bool)) {oi : Oper} {v : Value} (hm : P.follows .mixedOrders = true) (hng : n + 1 + g = l.length) (hi : l.toArray[i]? = some oi) (hin : i < n + 1) (hlen : ord.length = n)
    (hsel : Region.noSelect l.toArray = true) (hsink : sinkE .any l.toArray (n + 1) [i] = true) (hchain : Region.chainB .any l.toArray (n + 1) = true) (hlt : 0 < g)
    (hf : Region.free .any l.toArray (Array.replicate l.toArray.size false) i = true) (hr : (Region.ready .any l.toArray (Array.replicate l.toArray.size false)).contains i = true) (hok : okF l (n + 1) g i ord (0 ||| 1 <<< i) = true)
    (hd : l.all noDefer = true) (hy : Yields P l.toArray oi v a) (hS : S w.drew)
    (h : S w.drew → SeqF P l.toArray (OnlyN Q) S (wpList P l.toArray (OnlyN Q) (l.drop (n + 1))) ord (a.put oi.dst v) w.drew) : (Code.region id l.toArray true).wpIn (Fence.wide.inRound L) m0 P Q a w := by
  have hQ : ∀ (d : Option Tmp) (v : Value) c a w, OnlyN Q (.panic c) (a.put d v) w → OnlyN Q (.panic c) a w := fun _ _ _ _ _ h => h
  refine wpIn_region_draw fun t => ?_
  simp only [Region.schedule, hm, Bool.true_or, if_true]
  refine wpOpsIn_of (fun o ho => List.all_eq_true.1 hd o (by simpa using ho)) _ _ _ ?_
  have e : Region.linearise Region.Mode.any l.toArray t = Region.linearise.go Region.Mode.any l.toArray l.toArray.size t (Array.replicate l.toArray.size false) [] := by
    unfold Region.linearise
    simp
  rw [e]
  refine wpAny_sound _ t _ a _ ?_
  refine any_front S n g i hng hi hin hsel hsink hchain hlt hf hr (fun c a w => hQ _ _ c a w) hy hS fun hc inv hS => ?_
  have hmm : (Array.replicate l.toArray.size false).setIfInBounds i true = maskOf l.length (0 ||| 1 <<< i) := by
    rw [show l.toArray.size = l.length by simp, ← maskOf_zero, maskOf_set]
  rw [hmm] at inv ⊢
  have := frontH_seq (P := P) (Q := OnlyN Q) (S := S) hc hQ ord (0 ||| 1 <<< i) (a.put oi.dst v) w.drew hok inv hS (h hS)
  rw [hlen] at this
  exact this
end
end Go.Proofs.YtgbemgndbemllaaGreatDoor
