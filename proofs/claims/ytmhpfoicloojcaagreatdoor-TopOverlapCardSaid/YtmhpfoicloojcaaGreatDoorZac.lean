/- Range over a function. -/
import Derived.RangeFuncNested
import Derived.RangeFuncBound
import Derived.WalkKit
import Derived.OwnWalkIn
import Derived.TacticsInMore
import Derived.LoopNIn
import Derived.LoopIn
import Derived.Test.YtmhpfoicloojcaaGreatDoorZab
set_option linter.all false
open Go renaming World→aA,Value→aB
namespace Go.Proofs.YtmhpfoicloojcaaGreatDoor
set_option maxRecDepth 100000
set_option maxHeartbeats 16000000
section
open Go Go.RowKit
variable {P:Program}
def aR7 (fn:FuncId) (tmps:Array aB) (ps:Array Tmp) (assign body:Code) (D:Nat) (st:LoopState) (pe:Option Code):Loop:=
 {state:=st,pending:=pe,fn,tmps,params:=ps,assign,body,defers:=D}
def aH6 (a:Act) (D:Nat):Act:={a with defers:={target:= .collected D,args:=#[]} :: a.defers}
theorem aBe {F:Fence} {n:Nat} {g:Operand} {ps:Array Tmp} {assign body:Code} {Q:Exit->Act->aA->Prop} {a:Act} {w:aA}
 (hro:F.round=none) (h1:1<=n) {gf:Nat} {lb:Array aB} (hg:a.eval g= .func (.func gf) #[] lb) (hFg:F.fn gf)
 (eg:∀args w,(callFunc gf args).run P w= .ok (.enter gf args) w)
 (h:∀fn,F.fn fn->∀(rec:LoopState->Option Code->Loop) (D L:Nat) (W1:aA),rec=aR7 fn a.tmps ps assign body D->D=w.heap.size->L=D+1->
   W1=(w.alloc (.deferred (some []))).alloc (.loop (rec .ready none))->
   CallsIn F (n-1) P gf (#[.func (.yield L) #[] #[]]++lb) W1 fun e W2=>(∃v,e= .returned v)/\
     ∃st jump,st≠LoopState.busy/\W2.heap[L]? =some (.loop (rec st jump))/\
       (match jump with
        | none=>Q .normal (aH6 a D) (W2.putObj L (.loop (rec .exhausted none)))
        | some c=>c.wpIn F n P Q (aH6 a D) (W2.putObj L (.loop (rec .exhausted (some c)))))) :
 (Code.rangeFunc g ps assign body).wpIn F n P Q a w:=by
  refine wpIn_rangeFunc ?_;intro fn k;rw[hro];obtain⟨W1,i⟩:=ex_ ((w.alloc (.deferred (some []))).alloc (.loop (aR7 fn a.tmps ps assign body w.heap.size .ready none)));have m:=h fn k _ _ _ W1 rfl rfl rfl i
  refine⟨w.heap.size+1,[{target:= .collected w.heap.size,args:=#[]}],W1,{target:= .fn (.func gf) lb,args:=#[.func (.yield (w.heap.size+1)) #[] #[]]},W1,gf,
    #[.func (.yield (w.heap.size+1)) #[] #[]]++lb,W1,?_,?_,?_,?_,fun _=>h1,?_⟩
  . rw[i];exact run_enterLoop_outer _ _ _ _ _
  . simp only[resolve,hg];simp[go_sem]
  . intro x f;simp[Target.leads]at f;subst f;exact hFg
  . simp[invoke,go_sem,eg]
  . refine⟨m.1,fun u q=>?_⟩;obtain⟨e,o,t,s,p,d,r⟩:=m.2 u q;refine⟨e,o,t,?_,p,d,r⟩;obtain⟨⟨v,rfl⟩,st,jump,j,b,l⟩:=s;refine⟨jump,_,run_endLoop b j,?_⟩;cases jump with
    | none=>exact l
    | some c=>exact l
theorem aCr {F:Fence} {n:Nat} {rec:LoopState->Option Code->Loop} {fn:FuncId} {tmps:Array aB} {ps:Array Tmp} {assign body:Code} {D L:Nat} {W:aA} {args:Array aB} {R:Ending->aA->Prop}
 (hF:F.fn fn) (hrec:rec=aR7 fn tmps ps assign body D) (hl:W.heap[L]? =some (.loop (rec .ready none))) (hps:args.size=ps.size)
 (h:assign.wpIn (F.inRound L) n P (Exit.then (fun a₁ w₁=>w₁.heap[L]? =some (.loop (rec .ready none))/\
     body.wpIn (F.inRound L) n P (roundPost P L R) a₁ (w₁.putObj L (.loop (rec .busy none)))) (fun _ _ _=>False))
   {tmps:=(ps.zip args).foldl (fun t (p,v)=>t.setIfInBounds p v) tmps,defers:=[]} W) :
 YieldAt F n P L args W R:=by
 subst hrec;refine⟨fn,_,assign,body,run_yield (P:=P) hl hps,roundIn_of_wpIn hF (wpIn_mono h ?_)⟩;intro e a c b;cases e with
 | normal=>exact⟨_,run_beginRound b.1 rfl,b.2⟩
 | _=>exact b.elim
theorem aA2 {rec:LoopState->Option Code->Loop} {fn:FuncId} {tmps:Array aB} {ps:Array Tmp} {assign body:Code} {D L:Nat} {W:aA} {R:Ending->aA->Prop} {a:Act}
 (hrec:rec=aR7 fn tmps ps assign body D) (hl:W.heap[L]? =some (.loop (rec .busy none)))
 (h:R (.returned (.bool true)) (W.putObj L (.loop (rec .ready none)))):roundPost P L R .normal a W:=by
  subst hrec;exact⟨_,_,run_endRound none hl,h⟩
theorem aGg {F:Fence} {n:Nat} {P:Program} {g:Operand} {ps:Array Tmp} {assign body:Code} {Q:Exit->Act->aA->Prop} {a:Act} {w:aA}
 {l₀:Nat} {r₀:Loop} (hro:F.round=some l₀) (hl₀:w.heap[l₀]? =some (.loop r₀)) (h1:1<=n) {gf:Nat} {lb:Array aB} (hg:a.eval g= .func (.func gf) #[] lb) (hFg:F.fn gf)
 (eg:∀args w,(callFunc gf args).run P w= .ok (.enter gf args) w)
 (h:∀fn,F.fn fn->∀(rec:LoopState->Option Code->Loop) (L:Nat) (W1:aA),rec=aR7 fn a.tmps ps assign body r₀.defers->L=w.heap.size->
   W1=w.alloc (.loop (rec .ready none))->
   CallsIn F (n-1) P gf (#[.func (.yield L) #[] #[]]++lb) W1 fun e W2=>(∃v,e= .returned v)/\
     ∃st jump,st≠LoopState.busy/\W2.heap[L]? =some (.loop (rec st jump))/\
       (match jump with
        | none=>Q .normal a (W2.putObj L (.loop (rec .exhausted none)))
        | some c=>c.wpIn F n P Q a (W2.putObj L (.loop (rec .exhausted (some c)))))) :
 (Code.rangeFunc g ps assign body).wpIn F n P Q a w:=by
  refine wpIn_rangeFunc ?_;intro fn k;rw[hro];obtain⟨W1,i⟩:=ex_ (w.alloc (.loop (aR7 fn a.tmps ps assign body r₀.defers .ready none)));have m:=h fn k _ _ W1 rfl rfl i
  refine⟨w.heap.size,[],W1,{target:= .fn (.func gf) lb,args:=#[.func (.yield w.heap.size) #[] #[]]},W1,gf,
    #[.func (.yield w.heap.size) #[] #[]]++lb,W1,?_,?_,?_,?_,fun _=>h1,?_⟩
  . rw[i];exact run_enterLoop_inner hl₀ _ _ _ _ _
  . simp only[resolve,hg];simp[go_sem]
  . intro x f;simp[Target.leads]at f;subst f;exact hFg
  . simp[invoke,go_sem,eg]
  . refine⟨m.1,fun u q=>?_⟩;obtain⟨e,o,t,s,p,d,r⟩:=m.2 u q;refine⟨e,o,t,?_,p,d,r⟩;obtain⟨⟨v,rfl⟩,st,jump,j,b,l⟩:=s;refine⟨jump,_,run_endLoop b j,?_⟩;cases jump with
    | none=>exact l
    | some c=>exact l
end
end Go.Proofs.YtmhpfoicloojcaaGreatDoor
