/- Slices of structs. -/
import Derived.Test.YtmhpfoicloojcaaGreatDoorZaz
import Derived.Lib.Overlaps
import Derived.Lib.AppendZerosOnto
set_option linter.all false
open List renaming take_append_drop→aA,flatMap_append→aC
open Go.Builtin renaming zeroCells→aB
open Go renaming Value→aD,TypeId→aE
namespace Go.Proofs.YtmhpfoicloojcaaGreatDoor
set_option maxRecDepth 100000
set_option maxHeartbeats 16000000
section
open Go Go.RowKit
variable {w:World} {g:Nat} {t:aE} {cs:List aD}
theorem BlkIs.rangeAt (h:BlkIs w g t cs) {o:Nat} {vs:List aD} (hv:∀j u,vs[j]? =some u->cs[o+j]? =some u):w.rangeAt g o vs:=fun j u hu=>by
 rw[h.cell];exact hv j u hu
theorem BlkIs.there (h:BlkIs w g t cs) {o n:Nat} (hn:o+n<=cs.length):w.there g o n:=fun j hj=>by
 refine⟨?_,h.frozen _⟩;rw[h.cell,List.getElem?_eq_getElem (by omega)];rfl
theorem aAz {B:Nat} {W:World} (h:Below B w W) {g:Nat} (hg:B<=g):∀(vs:List aD) (o:Nat),Below B w (W.setCells g o vs):=by
 intro vs
 induction vs generalizing W with
 | nil=>intro o;exact h
 | cons v r ih=>
   intro o;exact ih (h.setCell (p:=⟨g,o,none⟩) hg v) (o+1)
theorem aCd {k:Nat} (hk:k≠g):∀(vs:List aD) (o:Nat),(w.setCells g o vs).heap[k]? =w.heap[k]? :=by
 intro vs
 induction vs generalizing w with
 | nil=>intro o;rfl
 | cons v r ih=>
   intro o;exact(ih (w:=w.setCell (g,o) v) (o+1)).trans (heap_setCell_other w ⟨g,o,none⟩ k v hk)
section
variable {α:Type} {C:α->List aD} {K:Nat}
theorem aD2 (hC:∀a,(C a).length=K) (l:List α) (t:List aD) (i:Nat) (hi:i<=l.length):(l.flatMap C++t).take (i*K)=(l.take i).flatMap C:=by
 have e:l.flatMap C=(l.take i).flatMap C++(l.drop i).flatMap C:=by rw[<-aC,aA]
 rw[e,List.append_assoc];refine List.take_left' ?_;rw[aAk C K hC,List.length_take,Nat.min_eq_left hi]
theorem aVc (hC:∀a,(C a).length=K) (l:List α) (t:List aD) (i:Nat) (hi:i<=l.length):(l.flatMap C++t).drop (i*K)=(l.drop i).flatMap C++t:=by
 have e:l.flatMap C=(l.take i).flatMap C++(l.drop i).flatMap C:=by rw[<-aC,aA]
 rw[e,List.append_assoc];refine List.drop_left' ?_;rw[aAk C K hC,List.length_take,Nat.min_eq_left hi]
theorem aRl (hC:∀a,(C a).length=K) (l:List α) (t:List aD) (i:Nat) (x:α) (hi:i<l.length) :
 (l.flatMap C++t).take (i*K)++C x++(l.flatMap C++t).drop (i*K+(C x).length)=(l.set i x).flatMap C++t:=by
  rw[hC x,show i*K+K=(i+1)*K by rw[Nat.add_mul];omega,aD2 hC l t i (by omega),aVc hC l t (i+1) (by omega),List.set_eq_take_append_cons_drop,if_pos hi];simp
theorem aQe (hC:∀a,(C a).length=K) {l:List α} {t:List aD} {i:Nat} {x:α} (hx:l[i]? =some x):∀j u,(C x)[j]? =some u->(l.flatMap C++t)[i*K+j]? =some u:=fun j u hu=>by
 have h:=aBk C K hC l i j x u hx hu;rw[List.getElem?_append_left (List.getElem?_eq_some_iff.1 h).1];exact h
theorem aFf (h1:∀a,∀u∈C a,u.oneCell'=true) (l:List α):∀u∈l.flatMap C,u.oneCell'=true:=fun u hu=>by
 obtain⟨a,_,h⟩:=List.mem_flatMap.1 hu;exact h1 a u h
theorem aEv (hC:∀a,(C a).length=K) {l:List α} {t:List aD} {i m:Nat} (him:i+m<=l.length):∀j u,(((l.drop i).take m).flatMap C)[j]? =some u->(l.flatMap C++t)[i*K+j]? =some u:=fun j u hu=>by
 have e:l=l.take i++((l.drop i).take m++(l.drop i).drop m):=by rw[aA,aA]
 have h:l.flatMap C++t=(l.take i).flatMap C++(((l.drop i).take m).flatMap C++(((l.drop i).drop m).flatMap C++t)):=by
  conv=>lhs;rw[e]
  simp only[aC,List.append_assoc]
 have b:((l.take i).flatMap C).length=i*K:=by rw[aAk C K hC,List.length_take,Nat.min_eq_left (by omega)]
 rw[h,List.getElem?_append_right (by omega),b,Nat.add_sub_cancel_left,List.getElem?_append_left (List.getElem?_eq_some_iff.1 hu).1];exact hu
end
theorem aGe {P:Program} {e ty:aE} {z:aD} {n:Nat} (ht:P.underlying t=some (.slice e)) (hv:(zeroValue e).run P w= .ok z w) (h1:∀u∈(aB z.cells n).toList,u.oneCell'=true)
 {T:aE} {cs:List aD} (g o c:Nat) (hn:0<n) (hb:BlkIs w g T cs) (hl:o+(aB z.cells n).toList.length<=cs.length) :
 (Builtin.clear_ #[t] ty #[.slice (some (g,o)) n c]).run P w= .ok (.tuple #[]) (w.setCells g o (aB z.cells n).toList):=by
  have a:=hb.there hl;have b:=run_storeCells_cells (P:=P) g o (aB z.cells n).toList 0 w (fun j d=>(a j d).1) (fun j d=>(a j d).2) h1;simp only[Nat.add_zero]at b;obtain⟨m,rfl⟩:∃m,n=m+1:=⟨n-1,by omega⟩;simp[Builtin.clear_,run_underlying ht,hv,b]
theorem aBu {P:Program} {dT sT ty e T:aE} {K:Nat} (hu:P.underlying dT=some (.slice e)) (hs:(P.info? e).map (·.size)=some K) {cs:List aD} (g o dLen dCap:Nat) (a:Addr) (sLen sCap m:Nat) (vs:List aD)
 (hm:Nat.min sLen dLen=m) (hvl:vs.length=m*K) (hsrc:∀j v,vs[j]? =some v->w.cell? (a.add j)=some v) (hb:BlkIs w g T cs) (hl:o+vs.length<=cs.length) (h1:∀v∈vs,v.oneCell'=true) :
 (Builtin.copy_ #[dT,sT] ty #[.slice (some (g,o)) dLen dCap,.slice (some a) sLen sCap]).run P w= .ok (goInt m) (w.setCells g o vs):=by
  have d:=run_loadCells_list (P:=P) w a vs hsrc;have b:=hb.there hl;have c:=run_storeCells_cells (P:=P) g o vs 0 w (fun j h=>(b j h).1) (fun j h=>(b j h).2) h1;simp only[Nat.add_zero]at c;cases f:P.info? e with
  | none=>simp[f]at hs
  | some i=>
    have k:i.size=K:=by simpa[f]using hs
    rw[hvl]at d;simp[Builtin.copy_,run_underlying hu,Builtin.lenOf,Builtin.firstCells,sizeOf,typeInfo,f,k,hm,d,c]
theorem aEe (h:BlkIs w g t cs):w.shape? g=some (t,cs.length):=by
 unfold World.shape?;rw[h];simp
end
end Go.Proofs.YtmhpfoicloojcaaGreatDoor
