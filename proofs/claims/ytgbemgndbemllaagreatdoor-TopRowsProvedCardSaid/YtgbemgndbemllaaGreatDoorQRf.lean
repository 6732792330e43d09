/-
  Two laws on a range over a function, in a raw form: the statement's own obligation is the one call of the iterator
  with the loop's record laid; a call of yield is one walk of the loop's body. Over any program.
-/
import Derived.RangeFuncNested
import Derived.RangeFuncBound
import Derived.RangeFuncCalls
import Derived.RangeFuncLeaves
import Derived.WalkKit
import Derived.OwnWalkIn
import Derived.TacticsInMore
import Derived.LoopNIn
import Derived.LoopIn
namespace Go.Proofs.YtgbemgndbemllaaGreatDoor
open Go Go.RowKit

/-- The record of a loop over a function. -/
def rfRec (fn : FuncId) (tmps : Array Value) (ps : Array Tmp) (assign body : Code) (D : Nat) (st : LoopState) (pe : Option Code) : Loop :=
  { state := st, pending := pe, fn, tmps, params := ps, assign, body, defers := D }

/-- The activation behind the statement: the mark of the block for deferred calls is pushed. -/
def rfAct (a : Act) (D : Nat) : Act := { a with defers := { target := .collected D, args := #[] } :: a.defers }

theorem rangeFunc_raw {F : Fence} {n : Nat} {P : Program} {g : Operand} {ps : Array Tmp} {assign body : Code} {Q : Exit → Act → World → Prop} {a : Act} {w : World}
    (hro : F.round = none) (h1 : 1 ≤ n) {gf : Nat} {lb : Array Value} (hg : a.eval g = .func (.func gf) #[] lb) (hFg : F.fn gf)
    (eg : ∀ args w, (callFunc gf args).run P w = .ok (.enter gf args) w)
    (h : ∀ fn, F.fn fn → ∀ (rec : LoopState → Option Code → Loop) (D L : Nat) (W1 : World), rec = rfRec fn a.tmps ps assign body D → D = w.heap.size → L = D + 1 →
      W1 = (w.alloc (.deferred (some []))).alloc (.loop (rec .ready none)) →
      CallsIn F (n - 1) P gf (#[.func (.yield L) #[] #[]] ++ lb) W1 fun e W2 => (∃ v, e = .returned v) ∧
        ∃ st jump, st ≠ LoopState.busy ∧ W2.heap[L]? = some (.loop (rec st jump)) ∧
          (match jump with
           | none => Q .normal (rfAct a D) (W2.putObj L (.loop (rec .exhausted none)))
           | some c => c.wpIn F n P Q (rfAct a D) (W2.putObj L (.loop (rec .exhausted (some c)))))) :
    (Code.rangeFunc g ps assign body).wpIn F n P Q a w := by
  refine wpIn_rangeFunc ?_
  intro fn hfn
  rw [hro]
  obtain ⟨W1, hW1⟩ : ∃ W1, W1 = (w.alloc (.deferred (some []))).alloc (.loop (rfRec fn a.tmps ps assign body w.heap.size .ready none)) := ⟨_, rfl⟩
  have h' := h fn hfn _ _ _ W1 rfl rfl rfl hW1
  refine ⟨w.heap.size + 1, [{ target := .collected w.heap.size, args := #[] }], W1, { target := .fn (.func gf) lb, args := #[.func (.yield (w.heap.size + 1)) #[] #[]] }, W1, gf,
    #[.func (.yield (w.heap.size + 1)) #[] #[]] ++ lb, W1, ?_, ?_, ?_, ?_, fun _ => h1, ?_⟩
  · rw [hW1]; exact run_enterLoop_outer _ _ _ _ _
  · simp only [resolve, hg]
    simp [go_sem]
  · intro f' hf'; simp [Target.leads] at hf'; subst hf'; exact hFg
  · simp [invoke, go_sem, eg]
  · refine ⟨h'.1, fun cs hr => ?_⟩
    obtain ⟨e, w', fr, hR, hs, hfn', hl⟩ := h'.2 cs hr
    refine ⟨e, w', fr, ?_, hs, hfn', hl⟩
    obtain ⟨⟨v, rfl⟩, st, jump, hst, hrec, hq⟩ := hR
    refine ⟨jump, _, run_endLoop hrec hst, ?_⟩
    cases jump with
    | none => exact hq
    | some c => exact hq

theorem yield_raw {F : Fence} {n : Nat} {P : Program} {rec : LoopState → Option Code → Loop} {fn : FuncId} {tmps : Array Value} {ps : Array Tmp} {assign body : Code} {D L : Nat} {W : World} {args : Array Value} {R : Ending → World → Prop}
    (hF : F.fn fn) (hrec : rec = rfRec fn tmps ps assign body D) (hl : W.heap[L]? = some (.loop (rec .ready none))) (hps : args.size = ps.size)
    (h : assign.wpIn (F.inRound L) n P (Exit.then (fun a₁ w₁ => w₁.heap[L]? = some (.loop (rec .ready none)) ∧
        body.wpIn (F.inRound L) n P (roundPost P L R) a₁ (w₁.putObj L (.loop (rec .busy none)))) (fun _ _ _ => False))
      { tmps := (ps.zip args).foldl (fun t (p, v) => t.setIfInBounds p v) tmps, defers := [] } W) :
    YieldAt F n P L args W R := by
  subst hrec
  refine ⟨fn, _, assign, body, run_yield (P := P) hl hps, roundIn_of_wpIn hF (wpIn_mono h ?_)⟩
  intro e a w' hq
  cases e with
  | normal => exact ⟨_, run_beginRound hq.1 rfl, hq.2⟩
  | _ => exact hq.elim

/-- A round's end, off the body's end: the record is ready again. -/
theorem roundPost_normal {P : Program} {rec : LoopState → Option Code → Loop} {fn : FuncId} {tmps : Array Value} {ps : Array Tmp} {assign body : Code} {D L : Nat} {W : World} {R : Ending → World → Prop} {a : Act}
    (hrec : rec = rfRec fn tmps ps assign body D) (hl : W.heap[L]? = some (.loop (rec .busy none)))
    (h : R (.returned (.bool true)) (W.putObj L (.loop (rec .ready none)))) : roundPost P L R .normal a W := by
  subst hrec; exact ⟨_, _, run_endRound none hl, h⟩

theorem roundPost_ret {P : Program} {rec : LoopState → Option Code → Loop} {fn : FuncId} {tmps : Array Value} {ps : Array Tmp} {assign body : Code} {D L : Nat} {W : World} {R : Ending → World → Prop} {a : Act}
    (hrec : rec = rfRec fn tmps ps assign body D) (hl : W.heap[L]? = some (.loop (rec .busy none)))
    (h : R (.returned (.bool false)) (W.putObj L (.loop (rec .done (some .ret))))) : roundPost P L R .ret a W := by
  subst hrec; exact ⟨_, _, run_endRound (some .ret) hl, h⟩

end Go.Proofs.YtgbemgndbemllaaGreatDoor
