/- Opening arrays of six. -/
import Derived.Test.YtmhpfoicloojcaaGreatDoorZau
import Derived.Test.YtmhpfoicloojcaaGreatDoorZbg
import Derived.Deep.Slices
import Derived.Deep.Fields
set_option linter.all false
open List renaming getElem?_eq_getElem→aA
namespace Go.Proofs.YtmhpfoicloojcaaGreatDoor
set_option maxRecDepth 100000
set_option maxHeartbeats 16000000
section
open Go Go.ChangeShapes Go.WideShapes Go.ChangeAt Go.RowKit Go.Deep
section
variable {H:Type} {enc:TypeId×Value->H} {P:Program} {w:World} {base:Nat} {sp:Nat->Bool} {held:Bool}
theorem aWn {fuel:Nat} {e i:TypeId} {cs:List Value} {y:DataW H×List MemPlace} (he:P.underlying e=some (.array 6 i)) (hi:P.underlying i=some (.int .i64)) (hc1:P.cellsOf i=1) (hlen:cs.length=6)
 (h:DataW.trod enc P w base sp held fuel e cs=some y):∃x:List Int,x.length=6/\cs=x.map (Value.int .i64)/\∀z∈x,-9223372036854775808<=z/\z<=9223372036854775807:=by
  obtain⟨D,n,_,_,_,q,s⟩:=DataW.trod_array he h
  have a:∀k,k<6->∃z:Int,cs[k]? =some (.int .i64 z)/\ -9223372036854775808<=z/\z<=9223372036854775807:=by
   intro k a;have c:=s k a;rw[hc1,Nat.mul_one,aA (by omega),List.drop_eq_getElem_cons (by omega)]at c;obtain⟨z,d,_,p⟩:=DataW.trod_int hi c;simp only[List.take_succ_cons,List.take_zero,List.cons.injEq,and_true]at d;exact⟨z,by rw[aA (by omega),d],bounds_i64 p⟩
  obtain⟨o,C,L⟩:=a 0 (by omega);obtain⟨m,B,K⟩:=a 1 (by omega);obtain⟨l,A,J⟩:=a 2 (by omega);obtain⟨j,v,G⟩:=a 3 (by omega);obtain⟨g,u,F⟩:=a 4 (by omega);obtain⟨f,t,E⟩:=a 5 (by omega);refine⟨[o,m,l,j,g,f],rfl,?_,fun z b=>?_⟩
  . refine List.ext_getElem? fun k=>?_;by_cases r:k<6
    . have:k=0\/k=1\/k=2\/k=3\/k=4\/k=5:=by omega
      rcases this with rfl|rfl|rfl|rfl|rfl|rfl <;> simp only[C,B,A,v,u,t] <;> rfl
    . rw[List.getElem?_eq_none (by omega),List.getElem?_eq_none (by simp;omega)]
  . simp only[List.mem_cons,List.not_mem_nil,or_false]at b;rcases b with rfl|rfl|rfl|rfl|rfl|rfl <;> assumption
theorem aXh {r:Reach} {b0:Nat} {t e i:TypeId} {v:Value} {d:DataW H} {ps:List MemPlace} (ht:P.underlying t=some (.slice e)) (he:P.underlying e=some (.array 6 i)) (hi:P.underlying i=some (.int .i64)) (hc:P.cellsOf e=6) (hc1:P.cellsOf i=1)
 (hv:Value.okWide P w r b0 t v) (h:DataW.Trod enc P w base sp held t v d ps):∃(A:Option Addr) (c:Nat) (xs:List (List Int)),v= .slice A xs.length c/\aK5 w (.slice A xs.length c) xs:=by
  obtain⟨R,f,L,rfl⟩:=okWide_slice ht hv;obtain⟨K,N⟩:=h;rcases open_slice ht N with⟨hcs,_⟩|⟨a,len,cap,m,n,D,Pl,hcs,_,hl,_,hm,_,hii⟩
  . simp[Value.cells]at hcs;obtain⟨rfl,rfl,rfl⟩:=hcs;exact⟨none,0,[],rfl,none,0,rfl,Nat.le_refl _,fun h=>absurd h (by simp)⟩
  . simp[Value.cells]at hcs;obtain⟨rfl,rfl,rfl⟩:=hcs;have M:f<=m:=by rw[hm];split <;> omega
    have J:∀j,j<f->∃x:List Int,x.length=6/\∀(k:Nat) z,x[k]? =some z->w.cell? (a.add (j*6+k))=some (.int .i64 z)/\ -9223372036854775808<=z/\z<=9223372036854775807:=by
     intro j o;obtain⟨Q,q,y⟩:=hii j (by omega);rw[hc]at q;obtain⟨_,b,E⟩:=World.cells?_some q;obtain⟨x,O,rfl,s⟩:=aWn he hi hc1 b y;refine⟨x,O,fun k z C=>⟨?_,s z (List.mem_of_getElem? C)⟩⟩;have B:k<6:=by have:=(List.getElem?_eq_some_iff.1 C).1;omega
     have g:=E k B;rw[Go.Deep.add_add,List.getElem?_map,C]at g;exact g
    have u:∃F:Nat->List Int,∀j,j<f->(F j).length=6/\∀(k:Nat) z,(F j)[k]? =some z->w.cell? (a.add (j*6+k))=some (.int .i64 z)/\ -9223372036854775808<=z/\z<=9223372036854775807:=by
     refine⟨fun i=>if h:i<f then Classical.choose (J i h)else[],fun i p=>?_⟩;simp only[dif_pos p];exact Classical.choose_spec (J i p)
    obtain⟨F,G⟩:=u;have b:((List.range f).map F).length=f:=by simp
    refine⟨some a,L,(List.range f).map F,by rw[b],some a,L,by rw[b],by rw[b];exact hl,fun g=>⟨a,rfl,?_,fun j x o=>?_⟩⟩
    . rw[b]at g;obtain⟨z,s⟩:∃z,(F 0)[0]? =some z:=⟨_,aA (by rw[(G 0 g).1];omega)⟩;have:=aAl ((G 0 g).2 0 z s).1
      rwa [aHt]at this
    . rw[List.getElem?_map]at o
      have l:j<f:=by
       have:=(List.getElem?_eq_some_iff.1 (show(List.range f)[j]? =some _ from(Option.map_eq_some_iff.1 o).choose_spec.1)).1
       simpa using this
      rw[List.getElem?_range l]at o;obtain rfl:=Option.some.inj o;exact G j l
end
end
end Go.Proofs.YtmhpfoicloojcaaGreatDoor
