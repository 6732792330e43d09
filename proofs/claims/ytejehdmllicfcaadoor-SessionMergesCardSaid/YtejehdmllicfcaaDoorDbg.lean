/- For exploring only; never handed in. -/
import Derived.WalkKit
namespace Go.Proofs
open Lean Elab Tactic Meta in
elab "dbg" : tactic => do
  for g in ← getGoals do
    g.withContext do
      let mut s := m!""
      for d in ← getLCtx do
        if d.isImplementationDetail then continue
        if d.isLet then continue
        let ty ← instantiateMVars d.type
        if ty.isForall && !(← Meta.isProp ty) then continue
        if ty.isForall && ty.getForallBody.getAppFn.isFVar then continue
        unless (← Meta.isProp ty) do continue
        let f ← ppExpr ty
        let t := (toString f)
        s := s ++ m!"{d.userName} : {t.take 300}\n"
      let t ← instantiateMVars (← g.getType)
      let args := t.getAppArgs
      let hd := t.getAppFn
      let mut u := m!"⊢ HEAD {hd}"
      if args.size > 5 then
        for a in args do
          let x := toString (← ppExpr a)
          if !a.isFVar && !(x.startsWith "Tryd.prog") && !(x.startsWith "fun") then u := u ++ m!"\n   · {x.take 700}"
      else u := m!"⊢ {(toString (← ppExpr t)).take 3000}"
      logInfo (s ++ u)
end Go.Proofs
