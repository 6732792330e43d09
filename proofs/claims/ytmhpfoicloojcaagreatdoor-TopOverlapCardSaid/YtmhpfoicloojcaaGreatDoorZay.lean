/- Drawn regions along a tree of orders. -/
import Derived.StillTail
import Derived.Deep.RegionHeld3
import Derived.Test.YtmhpfoicloojcaaGreatDoorZax
set_option linter.all false
open Go.Region renaming ready→aA,noSelect→aE,wanted→aH,seqB→aJ,noSelect_spec→aN,Mode→aP,free→aQ,chainB→aR,binds→aS
open Bool renaming and_eq_true→aB,not_eq_true'→aI,false_or→aL
open List renaming getElem?_eq_some_iff→aC,all_eq_true→aG,mem_range→aO
open Array renaming replicate→aD
open Nat renaming zero_add→aF,blt_eq→aK
open Go.Oper renaming wp→aM
open Go renaming World→aT,Value→aU
namespace Go.Proofs.YtmhpfoicloojcaaGreatDoor
set_option maxRecDepth 100000
set_option maxHeartbeats 16000000
section
open Go
variable {f:Nat} {ls:Array Bool} {a:Act} {w:aT}
section
variable {P:Program} {ops:Array Oper} {Q:Exit->Act->aT->Prop} {md:aP} {S:aT->Prop} {n:Nat} {L:Array Bool->Act->aT->Prop}
def aA5 (P:Program) (md:aP) (ops:Array Oper) (Q:Exit->Act->aT->Prop) (S:aT->Prop) (n:Nat) (L:Array Bool->Act->aT->Prop):Nat->Array Bool->Act->aT->Prop
 | 0,ls,a,w=>L ls a w
 | f+1,ls,a,w=>aA md ops ls≠[]/\∀i∈aA md ops ls,i<n/\wpOp P ops Q i (fun a' w'=>S w'/\aA5 P md ops Q S n L f (ls.setIfInBounds i true) a' w') a w
theorem aA5.any {g:Nat} (hL:∀ls a w,L ls a w->wpAny P md ops Q g ls a w):∀(f:Nat) (ls:Array Bool) (a:Act) (w:aT),aA5 P md ops Q S n L f ls a w->wpAny P md ops Q (f+g) ls a w
 | 0,ls,a,w,h=>by rw[aF];exact hL _ _ _ h
 | f+1,ls,a,w,h=>by
   rw[Nat.add_right_comm];exact⟨fun e=>absurd e h.1,fun i hi=>wpOp_mono (fun a' w' k=>aA5.any hL f _ a' w' k.2) (h.2 i hi).2⟩
def sinkE (md:aP) (ops:Array Oper) (n:Nat) (E:List Nat):Bool:=
 (List.range n).all fun i=>E.contains i ||(List.range (n+1)).any fun j=>decide (i<j)&&!E.contains j&&Region.waitsFor md ops j i
structure Cut (md:aP) (ops:Array Oper) (n:Nat) (E:List Nat):Prop where
 sel:aE ops=true
 sink:sinkE md ops n E=true
 chain:aR md ops n=true
 lt:n<ops.size
variable {E:List Nat}
theorem Cut.waits (hc:Cut md ops n E) {ls:Array Bool} (inv:HeadInv md ops n ls):∀(d i:Nat),n-i=d->i<n->E.contains i=false->ls.getD i true=false->∀t,n<=t->t∉aA md ops ls:=by
 intro d
 induction d using Nat.strongRecOn with
 | _ d ih=>
   intro i H u G o t r z;obtain⟨_,x,c,a⟩:=mem_ready.1 z;have p:t<ops.size:=(Array.getElem?_eq_some_iff.1 c).1;rcases Nat.eq_or_lt_of_le r with e|hlt
   . subst e;have b:=aG.1 hc.sink i (aO.2 u);rw[G,aL]at b;obtain⟨j,D,h⟩:=List.any_eq_true.1 b;simp only[aB,decide_eq_true_eq,aI]at h;obtain⟨⟨F,v⟩,C⟩:=h;obtain⟨y,g,e,l,m,f⟩:=Region.waitsFor_spec C;have s:j<=n:=by have:=aO.1 D;omega
     have no:ls.getD e.on false=true->False:=fun k=>by rw[f,getD_both o]at k;cases k
     rcases Nat.eq_or_lt_of_le s with e1|hjl
     . subst e1;have:y=x:=Option.some.inj (g.symm.trans c);subst this;exact no (a e l m)
     . cases A:ls.getD j false with
       | true=>exact no (inv.closed j y g A e l m)
       | false=>exact ih (n-j) (by omega) j rfl hjl v (getD_in (by rw[inv.size];omega) A) n (Nat.le_refl _) z
   . have b:=aG.1 hc.chain t (aO.2 p);simp only[Bool.or_eq_true,decide_eq_true_eq]at b;rcases b with b|b
     . omega
     . obtain⟨B,q,e,l,m,f⟩:=Region.waitsFor_spec b;have:B=x:=Option.some.inj (q.symm.trans c);subst this;have h:=a e l m;rw[f,getD_both (inv.tail (t-1) (by omega) (by omega))]at h;cases h
theorem Cut.below (hc:Cut md ops n E) {ls:Array Bool} (inv:HeadInv md ops n ls) {i:Nat} (hE:E.contains i=false) (hr:i∈aA md ops ls) (hi:i<n) {j:Nat} (hj:j∈aA md ops ls):j<n:=by
 apply Nat.lt_of_not_le;intro h;exact hc.waits inv _ i rfl hi hE (mem_ready.1 hr).1 j h hj
theorem aA5.first (hc:Cut md ops n E) (hL:∀ls a w,L ls a w->∀j∈aA md ops ls,n<=j) {i:Nat} {oi:Oper} {v:aU} (hi:ops[i]? =some oi) (hin:i<n) (hE:E.contains i=false)
 (hQ:∀c a w,Q (.panic c) (a.put oi.dst v) w->Q (.panic c) a w) :
 ∀(f:Nat) (ls:Array Bool) (a:Act) (w:aT),HeadInv md ops n ls->
   (∀j oj,ops[j]? =some oj->j≠i->ls.getD j true=false->(∀e∈oj.after,aS md e=true->e.on≠i)->oi.apart ops oj=true)->
   i∈aA md ops ls->YieldsIf P ops S oi v a->S w->aA5 P md ops Q S n L f (ls.setIfInBounds i true) (a.put oi.dst v) w->aA5 P md ops Q S n L (f+1) ls a w:=by
 have l:=aN hc.sel;intro f
 induction f with
 | zero=>
   intro ls a w inv _ g y x H;refine⟨fun e=>by rw[e]at g;simp at g,fun j h=>⟨hc.below inv hE g hin h,?_⟩⟩;by_cases e:j=i
   . subst e;exact y.wpOp hi x ⟨x,H⟩
   . exact absurd (hL _ _ _ H j (ready_mono h e)) (Nat.not_le.2 (hc.below inv hE g hin h))
 | succ f ih=>
   intro ls a w inv t g y x H;refine⟨fun e=>by rw[e]at g;simp at g,fun j h=>⟨hc.below inv hE g hin h,?_⟩⟩;by_cases e:j=i
   . subst e;exact y.wpOp hi x ⟨x,H⟩
   obtain⟨q,oj,o,u⟩:=mem_ready.1 h;have z:=(mem_ready.1 g).1
   have s:∀d∈oj.after,aS md d=true->d.on≠i:=by
    intro d K M J;have k:=u d K M;rw[J,getD_both z]at k;cases k
   have step:=wpOp_putIf o (t j oj o e q s) (fun C b=>l i oi C b hi) (fun C b=>l j oj C b o) hQ y (H.2 j (ready_mono h e)).2;refine wpOp_mono (fun N D k=>⟨k.2.1,ih (ls.setIfInBounds j true) N D (inv.set h (hc.below inv hE g hin h)) ?_ (ready_mono g (Ne.symm e)) k.1 k.2.1 ?_⟩) step
   . intro m F G A p B;refine t m F G A ?_ B;by_cases r:j=m
     . subst r;exact q
     . rw[getD_set_ne true r]at p;exact p
   . rw[Array.setIfInBounds_comm _ _ e];exact k.2.2
theorem aA5.take (hc:Cut md ops n E) (hL:∀ls a w,L ls a w->∀j∈aA md ops ls,n<=j) {f:Nat} {ls:Array Bool} {a:Act} {w:aT} (inv:HeadInv md ops n ls) (i:Nat) {oi:Oper} {v:aU} (hi:ops[i]? =some oi) (hin:i<n) (hE:E.contains i=false)
 (hf:aQ md ops ls i=true) (hr:(aA md ops ls).contains i=true) (hQ:∀c a w,Q (.panic c) (a.put oi.dst v) w->Q (.panic c) a w) (hy:YieldsIf P ops S oi v a) (hS:S w)
 (h:HeadInv md ops n (ls.setIfInBounds i true)->aA5 P md ops Q S n L f (ls.setIfInBounds i true) (a.put oi.dst v) w):aA5 P md ops Q S n L (f+1) ls a w:=
  have hm:i∈aA md ops ls:=by simpa using hr
  aA5.first hc hL hi hin hE hQ f ls a w inv (Region.free_spec hi hf) hm hy hS (h (inv.set hm hin))
def aDl (P:Program) (md:aP) (ops:Array Oper) (Q:Exit->Act->aT->Prop) (S:aT->Prop) (n:Nat) (L:Array Bool->Act->aT->Prop) (f:Nat) (ls:Array Bool) (a:Act) (w:aT) (rs:List Nat):Prop:=
 ∀i∈rs,i<n/\wpOp P ops Q i (fun a' w'=>S w'/\aA5 P md ops Q S n L f (ls.setIfInBounds i true) a' w') a w
theorem aDl.nil:aDl P md ops Q S n L f ls a w []:=fun _ h=>by simp at h
theorem aDl.cons {rs:List Nat} (inv:HeadInv md ops n ls) (i:Nat) {o:Oper} (ho:ops[i]? =some o) (hin:i<n) (hr:(aA md ops ls).contains i=true)
 (h:HeadInv md ops n (ls.setIfInBounds i true)->∀K:Act->aT->Prop,Shut (∀a w,S w->aA5 P md ops Q S n L f (ls.setIfInBounds i true) a w->K a w)->if aH o (yielded ops a.tmps)=true then aM P o a w K Q else K (a.put o.dst undef) w)
 (hs:aDl P md ops Q S n L f ls a w rs):aDl P md ops Q S n L f ls a w (i :: rs):=by
  intro j b;rcases List.mem_cons.1 b with rfl|b
  . exact⟨hin,wpOp_step ho fun K e=>h (inv.set (by simpa using hr) hin) K fun a w d c=>e a w ⟨d,c⟩⟩
  . exact hs j b
theorem aA5.each {rs:List Nat} (hr:aA md ops ls=rs) (hne:rs≠[]) (h:aDl P md ops Q S n L f ls a w rs):aA5 P md ops Q S n L (f+1) ls a w:=
 ⟨by rw[hr];exact hne,by rw[hr];exact h⟩
end
theorem aFn {P:Program} {Q:Exit->Act->aT->Prop} (S:aT->Prop) {id:Nat} {a:Act} {w:aT} {l:List Oper} (n g i:Nat) {oi:Oper} {v:aU} (hm:P.follows .mixedOrders=true) (hng:n+1+g=l.length) (hi:l.toArray[i]? =some oi) (hin:i<n+1)
 (hsel:aE l.toArray=true) (hsink:sinkE .any l.toArray (n+1) [i]=true) (hchain:aR .any l.toArray (n+1)=true) (hlt:0<g)
 (hf:aQ .any l.toArray (aD l.toArray.size false) i=true) (hr:(aA .any l.toArray (aD l.toArray.size false)).contains i=true) (hQ:∀c a w,Q (.panic c) (a.put oi.dst v) w->Q (.panic c) a w) (hy:Yields P l.toArray oi v a) (hS:S w.drew)
 (h:Cut .any l.toArray (n+1) [i]->HeadInv .any l.toArray (n+1) ((aD l.toArray.size false).setIfInBounds i true)->S w.drew->
   aA5 P .any l.toArray Q S (n+1) (fun ls a w=>aJ .any l.toArray g (n+1) ls=true/\wpList P l.toArray Q (l.drop (n+1)) a w) n ((aD l.toArray.size false).setIfInBounds i true) (a.put oi.dst v) w.drew) :
 (Code.region id l.toArray true).wp P Q a w:=by
  have p:l.toArray.size=n+g+1:=by simp;omega
  have e:Cut .any l.toArray (n+1) [i]:=⟨hsel,hsink,hchain,by omega⟩
  have b:HeadInv .any l.toArray (n+1) (aD l.toArray.size false):=
    ⟨by simp,fun j r _ f=>(by rw[getD_replicate_false]at f;cases f),fun t _ o=>getD_in (by simpa using o) (getD_replicate_false _ _)⟩
  have d:(l.drop (n+1)).length=g:=by rw[List.length_drop];omega
  refine wp_region_any hm ?_
  have H:=aA5.any (md:= .any) (g:=g) (L:=fun ls a w=>aJ .any l.toArray g (n+1) ls=true/\wpList P l.toArray Q (l.drop (n+1)) a w) (fun ls q m k=>by
   have:=wpAny_of_seq (md:= .any) (Q':=Q) (l.drop (n+1)) (n+1) ls q m (fun j=>by simp[List.getElem?_drop]) (by rw[d];exact k.1) k.2
   rwa [d]at this) n _ _ _ (h e (b.set (by simpa using hr) hin) hS)
  have T:=wpAny_take (w:={w with drawn:=w.drawn+1}) hi hsel hf hr hQ hy H;rw[<-p]at T;exact T
theorem aBn {P:Program} {Q:Exit->Act->aT->Prop} {l:List Oper} {n g:Nat}:∀(ls:Array Bool) (a:Act) (w:aT),(aJ .any l.toArray g n ls=true/\wpList P l.toArray Q (l.drop n) a w)->∀j∈aA .any l.toArray ls,n<=j:=
 fun _ _ _ h=>seqB_ready h.1
variable {a:Act} {w:aT} {i:Nat} {rest:List (Nat×Bool)} {o:Oper} {l:List Oper}
def okF (l:List Oper) (n g i0:Nat):List (Nat×Bool)->Nat->Bool
 | [],m=>aJ .any l.toArray g n (aA9 l.length m)
 | (i,b) :: rest,m=>(Nat.blt i n&&!Nat.beq i i0)&&(match l[i]? with|none=>false|some o=>aGf l.length m i o&&(bif b then aIp m i l 0 else aM2 m i o l.toArray l 0))&&okF l n g i0 rest (m ||| 1 <<< i)
section
variable {P:Program} {ops:Array Oper} {Q:Exit->Act->aT->Prop} {S:aT->Prop} {T:Act->aT->Prop}
def aBi (P:Program) (ops:Array Oper) (Q:Exit->Act->aT->Prop) (S:aT->Prop) (T:Act->aT->Prop):List (Nat×Bool)->Act->aT->Prop
 | [],a,w=>T a w
 | (i,b) :: rest,a,w=>∃o,ops[i]? =some o/\((∃v,YieldsIf P ops S o v a/\aBi P ops Q S T rest (a.put o.dst v) w)\/(b=true/\wpOp P ops Q i (fun a' w'=>S w'/\aBi P ops Q S T rest a' w') a w))
theorem aBi.done (h:T a w):aBi P ops Q S T [] a w:=h
theorem aBi.take {b:Bool} {v:aU} (ho:ops[i]? =some o) (hw:aH o (yielded ops a.tmps)=true) (hy:∀w,S w->(execOp a.eval o).run P w= .ok (.value v) w)
 (h:aBi P ops Q S T rest (a.put o.dst v) w):aBi P ops Q S T ((i,b) :: rest) a w:=⟨o,ho,.inl ⟨v,.inl ⟨hw,hy⟩,h⟩⟩
theorem aBi.step (ho:ops[i]? =some o)
 (h:∀K':Act->aT->Prop,Shut (∀a w,S w->(S w->aBi P ops Q S T rest a w)->K' a w)->if aH o (yielded ops a.tmps)=true then aM P o a w K' Q else K' (a.put o.dst undef) w):aBi P ops Q S T ((i,true) :: rest) a w:=
  ⟨o,ho,.inr ⟨rfl,wpOp_step ho fun K' hK=>h K' fun a w hS hW=>hK a w ⟨hS,hW hS⟩⟩⟩
theorem aBi.take0 {b:Bool} {v:aU} (ho:l[i]? =some o) (hg:o.guard=none) (hy:∀w,S w->(execOp a.eval o).run P w= .ok (.value v) w)
 (h:aBi P l.toArray Q S T rest (a.put o.dst v) w):aBi P l.toArray Q S T ((i,b) :: rest) a w:=aBi.take (by simpa using ho) (aB4 hg) hy h
theorem aBi.step0 (ho:l[i]? =some o) (hg:o.guard=none)
 (h:∀K':Act->aT->Prop,Shut (∀a w,S w->(S w->aBi P l.toArray Q S T rest a w)->K' a w)->aM P o a w K' Q):aBi P l.toArray Q S T ((i,true) :: rest) a w:=
  aBi.step (by simpa using ho) fun K' hK=>by rw[if_pos (aB4 hg)];exact h K' hK
theorem aIa {l:List Oper} {n g i0:Nat} (hc:Cut .any l.toArray n [i0]) (hQ:∀(d:Option Tmp) (v:aU) c a w,Q (.panic c) (a.put d v) w->Q (.panic c) a w) :
 ∀(ord:List (Nat×Bool)) (m:Nat) (a:Act) (w:aT),okF l n g i0 ord m=true->HeadInv .any l.toArray n (aA9 l.length m)->S w->aBi P l.toArray Q S (wpList P l.toArray Q (l.drop n)) ord a w->
   aA5 P .any l.toArray Q S n (fun ls a w=>aJ .any l.toArray g n ls=true/\wpList P l.toArray Q (l.drop n) a w) ord.length (aA9 l.length m) a w
  | [],m,a,w,hok,_,_,h=>⟨hok,h⟩
  | (i,b) :: rest,m,a,w,hok,inv,hS,h=>by
    obtain⟨o,ho,h⟩:=h;have hol:l[i]? =some o:=by simpa using ho
    have hlt:i<l.length:=(aC.1 hol).1;simp only[okF,hol,aB]at hok;obtain⟨⟨⟨hin,hi0⟩,hr,hb⟩,hrest⟩:=hok;have hin:i<n:=by simpa using hin
    have hne:i≠i0:=fun e=>by rw[e]at hi0;simp at hi0
    simp only[aGf,aB,aI]at hr
    have hri:i∈aA .any l.toArray (aA9 l.length m):=by
     refine mem_ready.2 ⟨by rw[aAt,if_pos hlt];exact hr.1,o,ho,fun e B s=>?_⟩;have:=aG.1 hr.2 e (by simpa using B);rw[s]at this;simp only[Bool.not_true,aL,aB,aK]at this;rw[aAt,if_pos this.2];exact this.1
    have q:=inv.set hri hin;rw[aBg]at q;have y:=fun E x (D:S x) (H:aBi P l.toArray Q S (wpList P l.toArray Q (l.drop n)) rest E x)=>aIa hc hQ rest (m ||| 1 <<< i) E x hrest q D H;simp only[<-aBg]at y
    show aA5 P .any l.toArray Q S n _ (rest.length+1) (aA9 l.length m) a w
    cases b with
    | true=>
      have C:∀j∈aA .any l.toArray (aA9 l.length m),j=i:=by
       intro j A;obtain⟨F,t,r,G⟩:=mem_ready.1 A;have p:l[j]? =some t:=by simpa using r
       have f:j<l.length:=(aC.1 p).1;rw[aAt,if_pos f]at F
       have:=aD7 (k:=0) hb j t p (by rw[aF];exact F) (fun e B s=>by
        have:=G e B s;rw[aAt]at this;split at this
        . exact this
        . cases this)
       omega
      refine⟨fun e=>by rw[e]at hri;simp at hri,fun j A=>?_⟩;obtain rfl:=C j A;refine⟨hin,?_⟩;rcases h with⟨v,hy,h⟩|⟨_,h⟩
      . exact hy.wpOp ho hS ⟨hS,y _ _ hS h⟩
      . exact wpOp_mono (fun E x k=>⟨k.1,y _ _ k.1 k.2⟩) h
    | false=>
      rcases h with⟨v,hy,h⟩|⟨hf,_⟩
      . refine aA5.first hc (fun ls a w h=>aBn ls a w h) ho hin (by simp;exact hne) (fun c a w=>hQ _ _ c a w) rest.length _ a w inv ?_ hri hy hS (y _ _ hS h);intro j t r hne u z;have p:l[j]? =some t:=by simpa using r
        have f:j<l.length:=(aC.1 p).1;rw[aAt,if_pos f]at u;exact aDx (k:=0) hb j t p (by omega) (by rw[aF];exact u) z
      . cases hf
theorem aGd {id:Nat} (S:aT->Prop) (n g i:Nat) (ord:List (Nat×Bool)) {oi:Oper} {v:aU} (hm:P.follows .mixedOrders=true) (hng:n+1+g=l.length) (hi:l.toArray[i]? =some oi) (hin:i<n+1) (hlen:ord.length=n)
 (hsel:aE l.toArray=true) (hsink:sinkE .any l.toArray (n+1) [i]=true) (hchain:aR .any l.toArray (n+1)=true) (hlt:0<g)
 (hf:aQ .any l.toArray (aD l.toArray.size false) i=true) (hr:(aA .any l.toArray (aD l.toArray.size false)).contains i=true) (hok:okF l (n+1) g i ord (0 ||| 1 <<< i)=true)
 (hQ:∀(d:Option Tmp) (v:aU) c a w,Q (.panic c) (a.put d v) w->Q (.panic c) a w) (hy:Yields P l.toArray oi v a) (hS:S w.drew)
 (h:S w.drew->aBi P l.toArray Q S (wpList P l.toArray Q (l.drop (n+1))) ord (a.put oi.dst v) w.drew):(Code.region id l.toArray true).wp P Q a w:=by
  refine aFn S n g i hm hng hi hin hsel hsink hchain hlt hf hr (fun c a w=>hQ _ _ c a w) hy hS fun e inv hS=>?_
  have b:(aD l.toArray.size false).setIfInBounds i true=aA9 l.length (0 ||| 1 <<< i):=by
   rw[show l.toArray.size=l.length by simp,<-aCv,aBg]
  rw[b]at inv⊢;have:=aIa (P:=P) (Q:=Q) (S:=S) e hQ ord (0 ||| 1 <<< i) (a.put oi.dst v) w.drew hok inv hS (h hS);rw[hlen]at this;exact this
end
variable {a:Act} {w:aT} {l:List Oper}
def okG (l:List Oper) (n:Nat):List (Nat×Bool)->Nat->Nat->Bool
 | [],m,e=>Nat.beq m e
 | (i,b) :: rest,m,e=>(match l[i]? with|none=>false|some o=>aGf n m i o&&(bif b then aIp m i l 0 else aM2 m i o l.toArray l 0))&&okG l n rest (m ||| 1 <<< i) e
section
variable {P:Program} {Q:Exit->Act->aT->Prop} {S:aT->Prop}
theorem aGm {l:List Oper} (hsel:aE l.toArray=true) (hQ:∀(d:Option Tmp) (v:aU) c a w,Q (.panic c) (a.put d v) w->Q (.panic c) a w) :
 ∀(ord:List (Nat×Bool)) (m e k:Nat) (a:Act) (w:aT),okG l l.length ord m e=true->S w->aBi P l.toArray Q S (fun a w=>wpAnyH P .any l.toArray Q S k (aA9 l.length e) a w) ord a w->wpAnyH P .any l.toArray Q S (ord.length+k) (aA9 l.length m) a w
  | [],m,e,k,a,w,hok,_,h=>by
    have:m=e:=by simpa[okG]using hok
    subst this;rw[List.length_nil,aF];exact h
  | (i,b) :: rest,m,e,k,a,w,hok,hS,h=>by
    obtain⟨o,ho,h⟩:=h;have hol:l[i]? =some o:=by simpa using ho
    have hlt:i<l.length:=(aC.1 hol).1;simp only[okG,hol,aB]at hok;obtain⟨⟨hr,hb⟩,hrest⟩:=hok;simp only[aGf,aB,aI]at hr
    have hri:i∈aA .any l.toArray (aA9 l.length m):=by
     refine mem_ready.2 ⟨by rw[aAt,if_pos hlt];exact hr.1,o,ho,fun e y p=>?_⟩;have:=aG.1 hr.2 e (by simpa using y);rw[p]at this;simp only[Bool.not_true,aL,aB,aK]at this;rw[aAt,if_pos this.2];exact this.1
    have t:=fun B s (A:S s) (F:aBi P l.toArray Q S _ rest B s)=>aGm hsel hQ rest (m ||| 1 <<< i) e k B s hrest A F;simp only[<-aBg]at t;rw[List.length_cons,Nat.add_right_comm];cases b with
    | true=>
      have z:∀j∈aA .any l.toArray (aA9 l.length m),j=i:=by
       intro j x;obtain⟨C,q,n,E⟩:=mem_ready.1 x;have g:l[j]? =some q:=by simpa using n
       have f:j<l.length:=(aC.1 g).1;rw[aAt,if_pos f]at C
       have:=aD7 (k:=0) hb j q g (by rw[aF];exact C) (fun e y p=>by
        have:=E e y p;rw[aAt]at this;split at this
        . exact this
        . cases this)
       omega
      refine⟨fun e=>by rw[e]at hri;simp at hri,fun j x=>?_⟩;obtain rfl:=z j x;rcases h with⟨v,hy,h⟩|⟨_,h⟩
      . exact hy.wpOp ho hS ⟨hS,t _ _ hS h⟩
      . exact wpOp_mono (fun B s k=>⟨k.1,t _ _ k.1 k.2⟩) h
    | false=>
      rcases h with⟨v,hy,h⟩|⟨hf,_⟩
      . refine wpAnyH_first ho (aN hsel) (fun c a w=>hQ _ _ c a w) (rest.length+k) _ a w ?_ hri hy hS (t _ _ hS h);intro j q n D r u;have g:l[j]? =some q:=by simpa using n
        have f:j<l.length:=(aC.1 g).1;rw[aAt,if_pos f]at r;exact aDx (k:=0) hb j q g (by omega) (by rw[aF];exact r) u
      . cases hf
theorem aKv {id:Nat} (S:aT->Prop) (ord:List (Nat×Bool)) (e k:Nat) (hm:P.follows .mixedOrders=true) (hsel:aE l.toArray=true) (hlen:ord.length+k=l.length) (hok:okG l l.length ord 0 e=true)
 (hQ:∀(d:Option Tmp) (v:aU) c a w,Q (.panic c) (a.put d v) w->Q (.panic c) a w) (hS:S w.drew) (h:S w.drew->aBi P l.toArray Q S (fun a w=>wpAnyH P .any l.toArray Q S k (aA9 l.length e) a w) ord a w.drew):(Code.region id l.toArray true).wp P Q a w:=by
  refine wp_region_held_drew (S:=S) hm hS fun hS=>?_;have:=aGm (P:=P) (Q:=Q) (S:=S) hsel hQ ord 0 e k a w.drew hok hS (h hS);rw[aCv,hlen]at this
  simpa using this
theorem aTd {m k i j:Nat} {oi oj:Oper} (hr:aA .any l.toArray (aA9 l.length m)=[i,j]) (hi:l[i]? =some oi) (hgi:oi.guard=none) (hj:l[j]? =some oj) (hgj:oj.guard=none)
 (h1:∀K':Act->aT->Prop,Shut (∀a w,S w->(S w->wpAnyH P .any l.toArray Q S k (aA9 l.length (m ||| 1 <<< i)) a w)->K' a w)->aM P oi a w K' Q)
 (h2:∀K':Act->aT->Prop,Shut (∀a w,S w->(S w->wpAnyH P .any l.toArray Q S k (aA9 l.length (m ||| 1 <<< j)) a w)->K' a w)->aM P oj a w K' Q):wpAnyH P .any l.toArray Q S (k+1) (aA9 l.length m) a w:=by
  refine⟨by rw[hr];simp,fun x c=>?_⟩;rw[hr]at c;simp only[List.mem_cons,List.not_mem_nil,or_false]at c;rcases c with rfl|rfl
  . rw[aBg];exact wpOp_step (by simpa using hi) fun K' e=>by rw[if_pos (aB4 hgi)];exact h1 K' fun a w b d=>e a w ⟨b,d b⟩
  . rw[aBg];exact wpOp_step (by simpa using hj) fun K' e=>by rw[if_pos (aB4 hgj)];exact h2 K' fun a w b d=>e a w ⟨b,d b⟩
theorem aQx (ord:List (Nat×Bool)) (m e k:Nat) (hk:k=ord.length) (hsel:aE l.toArray=true) (hok:okG l l.length ord m e=true) (hr:(aA .any l.toArray (aA9 l.length e)).isEmpty=true)
 (hQ:∀(d:Option Tmp) (v:aU) c a w,Q (.panic c) (a.put d v) w->Q (.panic c) a w) (hS:S w) (h:aBi P l.toArray Q S (fun a w=>Q .normal a w) ord a w):wpAnyH P .any l.toArray Q S k (aA9 l.length m) a w:=by
  have:=aGm (P:=P) (Q:=Q) (S:=S) hsel hQ ord m e 0 a w hok hS (by
   have f:∀(ord:List (Nat×Bool)) (a:Act) (w:aT),aBi P l.toArray Q S (fun a w=>Q .normal a w) ord a w->aBi P l.toArray Q S (fun a w=>wpAnyH P .any l.toArray Q S 0 (aA9 l.length e) a w) ord a w:=by
    intro ord
    induction ord with
    | nil=>intro a w h;exact⟨by simpa using hr,h⟩
    | cons x rest ih=>
      obtain⟨i,b⟩:=x;rintro a w ⟨o,g,h⟩;refine⟨o,g,?_⟩;rcases h with⟨v,hy,h⟩|⟨hb,h⟩
      . exact .inl ⟨v,hy,ih _ _ h⟩
      . exact .inr ⟨hb,wpOp_mono (fun n j k=>⟨k.1,ih _ _ k.2⟩) h⟩
   exact f ord a w h)
  rw[hk]
  simpa using this
end
section
variable {P:Program} {Q:Exit->Act->aT->Prop} {S S':aT->Prop} {T:Act->aT->Prop}
theorem aBi.takeG {l:List Oper} {i:Nat} {b:Bool} {rest:List (Nat×Bool)} {ts:List aU} {ds:List Deferred} {w:aT} {o oj:Oper} {v:aU} {j d:Nat} {bb:Bool} (ho:l[i]? =some o) (hg:o.guard=some (j,bb)) (hj:l[j]? =some oj) (hd:oj.dst=some d) (ht:ts[d]? =some (.bool bb)) (hy:∀w,S w->(execOp (Act.mk ts.toArray ds).eval o).run P w= .ok (.value v) w)
 (h:aBi P l.toArray Q S T rest ((Act.mk ts.toArray ds).put o.dst v) w):aBi P l.toArray Q S T ((i,b) :: rest) ⟨ts.toArray,ds⟩ w:=aBi.take (by simpa using ho) (aDz hg hj hd ht) hy h
theorem aBi.stepG {l:List Oper} {i:Nat} {rest:List (Nat×Bool)} {ts:List aU} {ds:List Deferred} {w:aT} {o oj:Oper} {j d:Nat} {bb:Bool} (ho:l[i]? =some o) (hg:o.guard=some (j,bb)) (hj:l[j]? =some oj) (hd:oj.dst=some d) (ht:ts[d]? =some (.bool bb))
 (h:∀K':Act->aT->Prop,Shut (∀a w,S w->(S w->aBi P l.toArray Q S T rest a w)->K' a w)->aM P o ⟨ts.toArray,ds⟩ w K' Q):aBi P l.toArray Q S T ((i,true) :: rest) ⟨ts.toArray,ds⟩ w:=
  aBi.step (by simpa using ho) fun K' hK=>by rw[if_pos (aDz hg hj hd ht)];exact h K' hK
theorem aDy {ops:Array Oper} (hS:∀w,S' w->S w):∀(k:Nat) (ls:Array Bool) (a:Act) (w:aT),wpAnyH P .any ops Q S' k ls a w->wpAnyH P .any ops Q S k ls a w
 | 0,_,_,_,h=>h
 | k+1,_,_,_,h=>⟨h.1,fun i hi=>wpOp_mono (fun a' w' q=>⟨hS w' q.1,aDy hS k _ a' w' q.2⟩) (h.2 i hi)⟩
end
variable {a:Act} {w:aT} {i j d:Nat} {o oj:Oper} {v:aU} {T:Act->aT->Prop} {l:List Oper} {ts:List aU} {ds:List Deferred} {bb:Bool}
inductive Tr where
 | done
 | take (i:Nat) (t:Tr)
 | step (i:Nat) (t:Tr)
 | fork (i:Nat) (t:Tr) (j:Nat) (u:Tr)
 | fork3 (i:Nat) (t:Tr) (j:Nat) (u:Tr) (k:Nat) (v:Tr)
def aN6 (m i j k:Nat):List Oper->Nat->Bool
 | [],_=>true
 | o :: os,n=>(Nat.beq n i || Nat.beq n j || Nat.beq n k || m.testBit n || o.after.toList.any fun e=>aS .any e&&!m.testBit e.on)&&aN6 m i j k os (n+1)
theorem aLj {m i j k:Nat}:∀{l:List Oper} {n:Nat},aN6 m i j k l n=true->∀(d:Nat) (o:Oper),l[d]? =some o->m.testBit (n+d)=false->(∀e∈o.after,aS .any e=true->m.testBit e.on=true)->n+d=i\/n+d=j\/n+d=k
 | [],_,_,d,o,hj,_,_=>by simp at hj
 | x :: xs,n,h,0,o,hj,hm,he=>by
   simp only[List.getElem?_cons_zero,Option.some.injEq]at hj;subst hj;simp only[aN6,aB,Bool.or_eq_true,Nat.beq_eq]at h;rcases h.1 with(((h1|h1)|h1)|h1)|h1
   . omega
   . omega
   . omega
   . rw[Nat.add_zero]at hm;rw[hm]at h1;cases h1
   . obtain⟨e,h2,h3⟩:=List.any_eq_true.1 h1;simp only[aB,aI]at h3;have:=he e (by simpa using h2) h3.1;rw[h3.2]at this;cases this
 | x :: xs,n,h,d+1,o,hj,hm,he=>by
   simp only[aN6,aB]at h;have:=aLj h.2 d o (by simpa using hj) (by rw[<-hm];congr 1;omega) he;omega
def aW3 (l:List Oper) (m i:Nat):Bool:=match l[i]? with|none=>false|some o=>aGf l.length m i o
def bE6 (l:List Oper) (m i:Nat):Bool:=match l[i]? with|none=>false|some o=>aM2 m i o l.toArray l 0
def okT (l:List Oper):Tr->Nat->Nat->Bool
 | .done,n,m=>Nat.beq n 0&&(List.range l.length).all fun j=>m.testBit j
 | .take i t,n,m=>Nat.blt 0 n&&(aW3 l m i&&bE6 l m i)&&okT l t (n-1) (m ||| 1 <<< i)
 | .step i t,n,m=>Nat.blt 0 n&&(aW3 l m i&&aN6 m i i i l 0)&&okT l t (n-1) (m ||| 1 <<< i)
 | .fork i t j u,n,m=>Nat.blt 0 n&&(aW3 l m i&&(aW3 l m j&&aN6 m i j j l 0))&&(okT l t (n-1) (m ||| 1 <<< i)&&okT l u (n-1) (m ||| 1 <<< j))
 | .fork3 i t j u k v,n,m=>Nat.blt 0 n&&(aW3 l m i&&(aW3 l m j&&(aW3 l m k&&aN6 m i j k l 0)))&&(okT l t (n-1) (m ||| 1 <<< i)&&(okT l u (n-1) (m ||| 1 <<< j)&&okT l v (n-1) (m ||| 1 <<< k)))
section
variable {P:Program} {ops:Array Oper} {Q:Exit->Act->aT->Prop}
def GoT (P:Program) (ops:Array Oper) (Q:Exit->Act->aT->Prop) (S:aT->Prop) (i:Nat) (T:Act->aT->Prop) (a:Act) (w:aT):Prop:=
 (∃o v,ops[i]? =some o/\YieldsIf P ops S o v a/\T (a.put o.dst v) w)\/wpOp P ops Q i (fun a' w'=>S w'/\T a' w') a w
def aAd (P:Program) (ops:Array Oper) (Q:Exit->Act->aT->Prop):Tr->(aT->Prop)->Act->aT->Prop
 | .done,_,a,w=>Q .normal a w
 | .take i t,S,a,w=>∃S':aT->Prop,(S'=S\/(S' w/\∀w,S' w->S w))/\∃o v,ops[i]? =some o/\YieldsIf P ops S' o v a/\aAd P ops Q t S' (a.put o.dst v) w
 | .step i t,S,a,w=>∃S':aT->Prop,(S'=S\/(S' w/\∀w,S' w->S w))/\GoT P ops Q S' i (aAd P ops Q t S') a w
 | .fork i t j u,S,a,w=>∃S':aT->Prop,(S'=S\/(S' w/\∀w,S' w->S w))/\GoT P ops Q S' i (aAd P ops Q t S') a w/\GoT P ops Q S' j (aAd P ops Q u S') a w
 | .fork3 i t j u k v,S,a,w=>∃S':aT->Prop,(S'=S\/(S' w/\∀w,S' w->S w))/\GoT P ops Q S' i (aAd P ops Q t S') a w/\GoT P ops Q S' j (aAd P ops Q u S') a w/\GoT P ops Q S' k (aAd P ops Q v S') a w
variable {S:aT->Prop}
theorem aAd.grow (S':aT->Prop) {t:Tr} {a:Act} {w:aT} (hw:S' w) (hi:∀w,S' w->S w) (h:aAd P ops Q t S' a w):aAd P ops Q t S a w:=by
 have b:∀c:aT->Prop,(c=S'\/(c w/\∀w,c w->S' w))->(c=S\/(c w/\∀w,c w->S w)):=by
  intro c d;refine .inr ?_;rcases d with rfl|d
  . exact⟨hw,hi⟩
  . exact⟨d.1,fun w k=>hi w (d.2 w k)⟩
 cases t with
 | done=>exact h
 | take i t=>exact⟨h.choose,b _ h.choose_spec.1,h.choose_spec.2⟩
 | step i t=>exact⟨h.choose,b _ h.choose_spec.1,h.choose_spec.2⟩
 | fork i t j u=>exact⟨h.choose,b _ h.choose_spec.1,h.choose_spec.2⟩
 | fork3 i t j u k v=>exact⟨h.choose,b _ h.choose_spec.1,h.choose_spec.2⟩
theorem aAd.done (h:Q .normal a w):aAd P ops Q .done S a w:=h
theorem aAd.take {t:Tr} (ho:ops[i]? =some o) (hw:aH o (yielded ops a.tmps)=true) (hy:∀w,S w->(execOp a.eval o).run P w= .ok (.value v) w)
 (h:aAd P ops Q t S (a.put o.dst v) w):aAd P ops Q (.take i t) S a w:=⟨S,.inl rfl,o,v,ho,.inl ⟨hw,hy⟩,h⟩
theorem aAd.unwanted {t:Tr} (ho:ops[i]? =some o) (hw:aH o (yielded ops a.tmps)=false) (h:aAd P ops Q t S (a.put o.dst undef) w):aAd P ops Q (.take i t) S a w:=
 ⟨S,.inl rfl,o,undef,ho,.inr ⟨hw,rfl⟩,h⟩
theorem aAd.step {t:Tr} (h:GoT P ops Q S i (aAd P ops Q t S) a w):aAd P ops Q (.step i t) S a w:=⟨S,.inl rfl,h⟩
theorem aAd.fork {t u:Tr} (h:GoT P ops Q S i (aAd P ops Q t S) a w) (h2:GoT P ops Q S j (aAd P ops Q u S) a w):aAd P ops Q (.fork i t j u) S a w:=⟨S,.inl rfl,h,h2⟩
theorem aAd.fork3 {k:Nat} {t u v:Tr} (h:GoT P ops Q S i (aAd P ops Q t S) a w) (h2:GoT P ops Q S j (aAd P ops Q u S) a w) (h3:GoT P ops Q S k (aAd P ops Q v S) a w):aAd P ops Q (.fork3 i t j u k v) S a w:=⟨S,.inl rfl,h,h2,h3⟩
theorem GoT.take (ho:ops[i]? =some o) (hw:aH o (yielded ops a.tmps)=true) (hy:∀w,S w->(execOp a.eval o).run P w= .ok (.value v) w)
 (h:T (a.put o.dst v) w):GoT P ops Q S i T a w:= .inl ⟨o,v,ho,.inl ⟨hw,hy⟩,h⟩
theorem GoT.unwanted (ho:ops[i]? =some o) (hw:aH o (yielded ops a.tmps)=false) (h:T (a.put o.dst undef) w):GoT P ops Q S i T a w:=
 .inl ⟨o,undef,ho,.inr ⟨hw,rfl⟩,h⟩
theorem GoT.step (ho:ops[i]? =some o)
 (h:∀K':Act->aT->Prop,Shut (∀a w,S w->(S w->T a w)->K' a w)->if aH o (yielded ops a.tmps)=true then aM P o a w K' Q else K' (a.put o.dst undef) w):GoT P ops Q S i T a w:=
  .inr (wpOp_step ho fun K' hK=>h K' fun a w hS hW=>hK a w ⟨hS,hW hS⟩)
end
section
variable {P:Program} {Q:Exit->Act->aT->Prop} {S:aT->Prop}
theorem aAd.take0 {t:Tr} (ho:l[i]? =some o) (hg:o.guard=none) (hy:∀w,S w->(execOp a.eval o).run P w= .ok (.value v) w)
 (h:aAd P l.toArray Q t S (a.put o.dst v) w):aAd P l.toArray Q (.take i t) S a w:=aAd.take (by simpa using ho) (aB4 hg) hy h
theorem aAd.takeG {t:Tr} (ho:l[i]? =some o) (hg:o.guard=some (j,bb)) (hj:l[j]? =some oj) (hd:oj.dst=some d) (ht:ts[d]? =some (.bool bb)) (hy:∀w,S w->(execOp (Act.mk ts.toArray ds).eval o).run P w= .ok (.value v) w)
 (h:aAd P l.toArray Q t S ((Act.mk ts.toArray ds).put o.dst v) w):aAd P l.toArray Q (.take i t) S ⟨ts.toArray,ds⟩ w:=aAd.take (by simpa using ho) (aDz hg hj hd ht) hy h
theorem aAd.skipG {t:Tr} {b':Bool} (ho:l[i]? =some o) (hg:o.guard=some (j,bb)) (hj:l[j]? =some oj) (hd:oj.dst=some d) (ht:ts[d]? =some (.bool b')) (hne:(b'== bb)=false)
 (h:aAd P l.toArray Q t S ((Act.mk ts.toArray ds).put o.dst undef) w):aAd P l.toArray Q (.take i t) S ⟨ts.toArray,ds⟩ w:=aAd.unwanted (by simpa using ho) (aGn hg hj hd ht hne) h
theorem GoT.take0 (ho:l[i]? =some o) (hg:o.guard=none) (hy:∀w,S w->(execOp a.eval o).run P w= .ok (.value v) w)
 (h:T (a.put o.dst v) w):GoT P l.toArray Q S i T a w:=GoT.take (by simpa using ho) (aB4 hg) hy h
theorem GoT.takeG (ho:l[i]? =some o) (hg:o.guard=some (j,bb)) (hj:l[j]? =some oj) (hd:oj.dst=some d) (ht:ts[d]? =some (.bool bb)) (hy:∀w,S w->(execOp (Act.mk ts.toArray ds).eval o).run P w= .ok (.value v) w)
 (h:T ((Act.mk ts.toArray ds).put o.dst v) w):GoT P l.toArray Q S i T ⟨ts.toArray,ds⟩ w:=GoT.take (by simpa using ho) (aDz hg hj hd ht) hy h
theorem GoT.skipG {b':Bool} (ho:l[i]? =some o) (hg:o.guard=some (j,bb)) (hj:l[j]? =some oj) (hd:oj.dst=some d) (ht:ts[d]? =some (.bool b')) (hne:(b'== bb)=false)
 (h:T ((Act.mk ts.toArray ds).put o.dst undef) w):GoT P l.toArray Q S i T ⟨ts.toArray,ds⟩ w:=GoT.unwanted (by simpa using ho) (aGn hg hj hd ht hne) h
theorem GoT.step0 (ho:l[i]? =some o) (hg:o.guard=none)
 (h:∀K':Act->aT->Prop,Shut (∀a w,S w->(S w->T a w)->K' a w)->aM P o a w K' Q):GoT P l.toArray Q S i T a w:=
  GoT.step (by simpa using ho) fun K' hK=>by rw[if_pos (aB4 hg)];exact h K' hK
theorem GoT.stepG (ho:l[i]? =some o) (hg:o.guard=some (j,bb)) (hj:l[j]? =some oj) (hd:oj.dst=some d) (ht:ts[d]? =some (.bool bb))
 (h:∀K':Act->aT->Prop,Shut (∀a w,S w->(S w->T a w)->K' a w)->aM P o ⟨ts.toArray,ds⟩ w K' Q):GoT P l.toArray Q S i T ⟨ts.toArray,ds⟩ w:=
  GoT.step (by simpa using ho) fun K' hK=>by rw[if_pos (aDz hg hj hd ht)];exact h K' hK
theorem GoT.wpOp {n:Nat} {ls:Array Bool} (hS:S w) (h:GoT P l.toArray Q S i T a w) (IH:∀a' w',S w'->T a' w'->wpAnyH P .any l.toArray Q S n ls a' w') :
 Go.wpOp P l.toArray Q i (fun a' w'=>S w'/\wpAnyH P .any l.toArray Q S n ls a' w') a w:=by
 rcases h with⟨o,v,ho,hy,h⟩|h
 . exact hy.wpOp ho hS ⟨hS,IH _ _ hS h⟩
 . exact wpOp_mono (fun a' w' k=>⟨k.1,IH _ _ k.1 k.2⟩) h
theorem aI2 {m:Nat} (h:aW3 l m i=true):i∈aA .any l.toArray (aA9 l.length m):=by
 unfold aW3 at h;cases a:l[i]? with
 | none=>rw[a]at h;cases h
 | some o=>
   rw[a]at h;dsimp only at h;have b:i<l.length:=(aC.1 a).1;simp only[aGf,aB,aI]at h;refine mem_ready.2 ⟨by rw[aAt,if_pos b];exact h.1,o,by simpa using a,fun e d c=>?_⟩;have:=aG.1 h.2 e (by simpa using d);rw[c]at this;simp only[Bool.not_true,aL,aB,aK]at this;rw[aAt,if_pos this.2];exact this.1
theorem aPt {m k:Nat} (h:aN6 m i j k l 0=true):∀d∈aA .any l.toArray (aA9 l.length m),d=i\/d=j\/d=k:=by
 intro d q;obtain⟨o,g,c,r⟩:=mem_ready.1 q;have b:l[d]? =some g:=by simpa using c
 have a:d<l.length:=(aC.1 b).1;rw[aAt,if_pos a]at o
 have:=aLj (n:=0) h d g b (by rw[aF];exact o) (fun e p f=>by
  have:=r e p f;rw[aAt]at this;split at this
  . exact this
  . cases this)
 omega
theorem aB3 {l:List Oper} (hsel:aE l.toArray=true) (hQ:∀(d:Option Tmp) (v:aU) c a w,Q (.panic c) (a.put d v) w->Q (.panic c) a w) :
 ∀(t:Tr) (S:aT->Prop) (n m:Nat) (a:Act) (w:aT),okT l t n m=true->S w->aAd P l.toArray Q t S a w->wpAnyH P .any l.toArray Q S n (aA9 l.length m) a w
  | .done,S,n,m,a,w,hok,_,h=>by
    simp only[okT,aB,Nat.beq_eq]at hok;obtain⟨rfl,hok⟩:=hok;refine⟨?_,h⟩;cases hr:aA .any l.toArray (aA9 l.length m)with
    | nil=>rfl
    | cons j js=>
      have hj:j∈aA .any l.toArray (aA9 l.length m):=by rw[hr];exact List.mem_cons_self
      obtain⟨h1,o,ho,_⟩:=mem_ready.1 hj;have hlt:j<l.length:=by simpa using(Array.getElem?_eq_some_iff.1 ho).1
      rw[aAt,if_pos hlt]at h1;have:=aG.1 hok j (aO.2 hlt);rw[h1]at this;cases this
  | .take i t,S0,n,m,a,w,hok,hS0,h=>by
    obtain⟨S,hgr,o,v,ho,hy,h⟩:=h
    have hS:S w:=by
     rcases hgr with rfl|hgr
     . exact hS0
     . exact hgr.1
    have s:∀w,S w->S0 w:=by
     rcases hgr with rfl|hgr
     . exact fun _ h=>h
     . exact hgr.2
    refine aDy s _ _ _ _ ?_;simp only[okT,aB,aK]at hok;obtain⟨⟨L,hr,A⟩,b⟩:=hok;obtain⟨n,rfl⟩:∃k,n=k+1:=⟨n-1,by omega⟩;have H:l[i]? =some o:=by simpa using ho
    have p:=aI2 hr;unfold bE6 at A;rw[H]at A;dsimp only at A;have z:=aB3 hsel hQ t S n (m ||| 1 <<< i) (a.put o.dst v) w b hS h;rw[<-aBg]at z;refine wpAnyH_first ho (aN hsel) (fun c a w=>hQ _ _ c a w) n _ a w ?_ p hy hS z;intro j O J T C K;have E:l[j]? =some O:=by simpa using J
    have D:j<l.length:=(aC.1 E).1;rw[aAt,if_pos D]at C;exact aDx (k:=0) A j O E (by omega) (by rw[aF];exact C) K
  | .step i t,S0,n,m,a,w,hok,hS0,h=>by
    obtain⟨S,hgr,h⟩:=h
    have hS:S w:=by
     rcases hgr with rfl|hgr
     . exact hS0
     . exact hgr.1
    have s:∀w,S w->S0 w:=by
     rcases hgr with rfl|hgr
     . exact fun _ h=>h
     . exact hgr.2
    refine aDy s _ _ _ _ ?_;simp only[okT,aB,aK]at hok;obtain⟨⟨L,hr,A⟩,b⟩:=hok;obtain⟨n,rfl⟩:∃k,n=k+1:=⟨n-1,by omega⟩;have p:=aI2 hr;have z:=fun r f (g:S f) (x:aAd P l.toArray Q t S r f)=>aB3 hsel hQ t S n (m ||| 1 <<< i) r f b g x;simp only[<-aBg]at z;refine⟨fun e=>by rw[e]at p;simp at p,fun j hj=>?_⟩;obtain rfl:j=i:=by have:=aPt A j hj;omega
    exact h.wpOp hS z
  | .fork i t j u,S0,n,m,a,w,hok,hS0,h=>by
    obtain⟨S,hgr,h1,N⟩:=h
    have hS:S w:=by
     rcases hgr with rfl|hgr
     . exact hS0
     . exact hgr.1
    have s:∀w,S w->S0 w:=by
     rcases hgr with rfl|hgr
     . exact fun _ h=>h
     . exact hgr.2
    refine aDy s _ _ _ _ ?_;simp only[okT,aB,aK]at hok;obtain⟨⟨L,hr,G,A⟩,b,q⟩:=hok;obtain⟨n,rfl⟩:∃k,n=k+1:=⟨n-1,by omega⟩;have p:=aI2 hr;have z:=fun r f (g:S f) (x:aAd P l.toArray Q t S r f)=>aB3 hsel hQ t S n (m ||| 1 <<< i) r f b g x;have y:=fun r f (g:S f) (x:aAd P l.toArray Q u S r f)=>aB3 hsel hQ u S n (m ||| 1 <<< j) r f q g x;simp only[<-aBg]at z y;refine⟨fun e=>by rw[e]at p;simp at p,fun d M=>?_⟩;have:=aPt A d M;by_cases e:d=i
    . subst e;exact h1.wpOp hS z
    . obtain rfl:d=j:=by omega
      exact N.wpOp hS y
  | .fork3 i t j u k v,S0,n,m,a,w,hok,hS0,h=>by
    obtain⟨S,hgr,h1,N,U⟩:=h
    have hS:S w:=by
     rcases hgr with rfl|hgr
     . exact hS0
     . exact hgr.1
    have s:∀w,S w->S0 w:=by
     rcases hgr with rfl|hgr
     . exact fun _ h=>h
     . exact hgr.2
    refine aDy s _ _ _ _ ?_;simp only[okT,aB,aK]at hok;obtain⟨⟨L,hr,G,R,A⟩,b,q,B⟩:=hok;obtain⟨n,rfl⟩:∃k,n=k+1:=⟨n-1,by omega⟩;have p:=aI2 hr;have z:=fun r f (g:S f) (x:aAd P l.toArray Q t S r f)=>aB3 hsel hQ t S n (m ||| 1 <<< i) r f b g x;have y:=fun r f (g:S f) (x:aAd P l.toArray Q u S r f)=>aB3 hsel hQ u S n (m ||| 1 <<< j) r f q g x;have F:=fun r f (g:S f) (x:aAd P l.toArray Q v S r f)=>aB3 hsel hQ v S n (m ||| 1 <<< k) r f B g x;simp only[<-aBg]at z y F;refine⟨fun e=>by rw[e]at p;simp at p,fun d M=>?_⟩;have:=aPt A d M;by_cases e:d=i
    . subst e;exact h1.wpOp hS z
    . by_cases V:d=j
      . subst V;exact N.wpOp hS y
      . obtain rfl:d=k:=by omega
        exact U.wpOp hS F
theorem aKu {id:Nat} (S:aT->Prop) (t:Tr) (hm:P.follows .mixedOrders=true) (hsel:aE l.toArray=true) (hok:okT l t l.length 0=true)
 (hQ:∀(d:Option Tmp) (v:aU) c a w,Q (.panic c) (a.put d v) w->Q (.panic c) a w) (hS:S w.drew) (h:S w.drew->aAd P l.toArray Q t S a w.drew):(Code.region id l.toArray true).wp P Q a w:=by
  refine wp_region_held_drew (S:=S) hm hS fun hS=>?_;have:=aB3 (P:=P) (Q:=Q) hsel hQ t S l.length 0 a w.drew hok hS (h hS);rw[aCv]at this
  simpa using this
end
section
variable {P:Program} {Q:Exit->Act->aT->Prop} {S:aT->Prop}
theorem aAd.A0 {l:List Oper} {i:Nat} {t:Tr} {a:Act} {w:World} {o:Oper} {v:Value} {a':Act} (h:aAd P l.toArray Q t S a' w) (ho:l[i]? =some o:=by exact rfl) (hg:o.guard=none:=by exact rfl) (hy:∀w,S w->(execOp a.eval o).run P w= .ok (.value v) w:=by(intro w hSw;(try dsimp only at hSw);go_simp;try with_reducible rfl)) (hp:a.put o.dst v=a':=by((try simp only[Act.put,List.setIfInBounds_toArray,List.set_cons_zero,List.set_cons_succ]) <;> exact rfl)):aAd P l.toArray Q (.take i t) S a w:=aAd.take0 ho hg hy (hp▸h)
theorem GoT.A0 {l:List Oper} {i:Nat} {T:Act->World->Prop} {a:Act} {w:World} {o:Oper} {v:Value} {a':Act} (h:T a' w) (ho:l[i]? =some o:=by exact rfl) (hg:o.guard=none:=by exact rfl) (hy:∀w,S w->(execOp a.eval o).run P w= .ok (.value v) w:=by(intro w hSw;(try dsimp only at hSw);go_simp;try with_reducible rfl)) (hp:a.put o.dst v=a':=by((try simp only[Act.put,List.setIfInBounds_toArray,List.set_cons_zero,List.set_cons_succ]) <;> exact rfl)):GoT P l.toArray Q S i T a w:=GoT.take0 ho hg hy (hp▸h)
theorem aAd.AG {l:List Oper} {i:Nat} {t:Tr} {ts:List Value} {ds:List Deferred} {w:World} {o oj:Oper} {v:Value} {j d:Nat} {bb:Bool} {a':Act} (h:aAd P l.toArray Q t S a' w) (ho:l[i]? =some o:=by exact rfl) (hg:o.guard=some (j,bb):=by exact rfl) (hj:l[j]? =some oj:=by exact rfl) (hd:oj.dst=some d:=by exact rfl) (ht:ts[d]? =some (.bool bb):=by exact rfl) (hy:∀w,S w->(execOp (Act.mk ts.toArray ds).eval o).run P w= .ok (.value v) w:=by(intro w hSw;(try dsimp only at hSw);go_simp;try with_reducible rfl)) (hp:(Act.mk ts.toArray ds).put o.dst v=a':=by((try simp only[Act.put,List.setIfInBounds_toArray,List.set_cons_zero,List.set_cons_succ]) <;> exact rfl)):aAd P l.toArray Q (.take i t) S ⟨ts.toArray,ds⟩ w:=aAd.takeG ho hg hj hd ht hy (hp▸h)
theorem GoT.AG {l:List Oper} {i:Nat} {T:Act->World->Prop} {ts:List Value} {ds:List Deferred} {w:World} {o oj:Oper} {v:Value} {j d:Nat} {bb:Bool} {a':Act} (h:T a' w) (ho:l[i]? =some o:=by exact rfl) (hg:o.guard=some (j,bb):=by exact rfl) (hj:l[j]? =some oj:=by exact rfl) (hd:oj.dst=some d:=by exact rfl) (ht:ts[d]? =some (.bool bb):=by exact rfl) (hy:∀w,S w->(execOp (Act.mk ts.toArray ds).eval o).run P w= .ok (.value v) w:=by(intro w hSw;(try dsimp only at hSw);go_simp;try with_reducible rfl)) (hp:(Act.mk ts.toArray ds).put o.dst v=a':=by((try simp only[Act.put,List.setIfInBounds_toArray,List.set_cons_zero,List.set_cons_succ]) <;> exact rfl)):GoT P l.toArray Q S i T ⟨ts.toArray,ds⟩ w:=GoT.takeG ho hg hj hd ht hy (hp▸h)
theorem aAd.AS {l:List Oper} {i:Nat} {t:Tr} {ts:List Value} {ds:List Deferred} {w:World} {o oj:Oper} {j d:Nat} {bb b':Bool} {a':Act} (h:aAd P l.toArray Q t S a' w) (ho:l[i]? =some o:=by exact rfl) (hg:o.guard=some (j,bb):=by exact rfl) (hj:l[j]? =some oj:=by exact rfl) (hd:oj.dst=some d:=by exact rfl) (ht:ts[d]? =some (.bool b'):=by exact rfl) (hne:(b'== bb)=false:=by exact rfl) (hp:(Act.mk ts.toArray ds).put o.dst undef=a':=by((try simp only[Act.put,List.setIfInBounds_toArray,List.set_cons_zero,List.set_cons_succ]) <;> exact rfl)):aAd P l.toArray Q (.take i t) S ⟨ts.toArray,ds⟩ w:=aAd.skipG ho hg hj hd ht hne (hp▸h)
theorem GoT.AS {l:List Oper} {i:Nat} {T:Act->World->Prop} {ts:List Value} {ds:List Deferred} {w:World} {o oj:Oper} {j d:Nat} {bb b':Bool} {a':Act} (h:T a' w) (ho:l[i]? =some o:=by exact rfl) (hg:o.guard=some (j,bb):=by exact rfl) (hj:l[j]? =some oj:=by exact rfl) (hd:oj.dst=some d:=by exact rfl) (ht:ts[d]? =some (.bool b'):=by exact rfl) (hne:(b'== bb)=false:=by exact rfl) (hp:(Act.mk ts.toArray ds).put o.dst undef=a':=by((try simp only[Act.put,List.setIfInBounds_toArray,List.set_cons_zero,List.set_cons_succ]) <;> exact rfl)):GoT P l.toArray Q S i T ⟨ts.toArray,ds⟩ w:=GoT.skipG ho hg hj hd ht hne (hp▸h)
theorem GoT.P0 {l:List Oper} {i:Nat} {T:Act->World->Prop} {a:Act} {w:World} {o:Oper} (h:∀K':Act->World->Prop,Shut (∀a w,S w->(S w->T a w)->K' a w)->Oper.wp P o a w K' Q) (ho:l[i]? =some o:=by exact rfl) (hg:o.guard=none:=by exact rfl):GoT P l.toArray Q S i T a w:=GoT.step0 ho hg h
theorem GoT.PG {l:List Oper} {i:Nat} {T:Act->World->Prop} {ts:List Value} {ds:List Deferred} {w:World} {o oj:Oper} {j d:Nat} {bb:Bool} (h:∀K':Act->World->Prop,Shut (∀a w,S w->(S w->T a w)->K' a w)->Oper.wp P o ⟨ts.toArray,ds⟩ w K' Q) (ho:l[i]? =some o:=by exact rfl) (hg:o.guard=some (j,bb):=by exact rfl) (hj:l[j]? =some oj:=by exact rfl) (hd:oj.dst=some d:=by exact rfl) (ht:ts[d]? =some (.bool bb):=by exact rfl):GoT P l.toArray Q S i T ⟨ts.toArray,ds⟩ w:=GoT.stepG ho hg hj hd ht h
theorem bCd {id : Nat} {a : Act} {w : World} {l : List Oper} (S : World -> Prop) (t : Tr) (hS : S w.drew) (h : aAd P l.toArray (NoPanic Q) t S a w.drew) (hm : P.follows .mixedOrders = true := by kernel_rfl) (hsel : Region.noSelect l.toArray = true := by as_aux_lemma => kernel_rfl) (hok : okT l t l.length 0 = true := by as_aux_lemma => kernel_rfl) : (Code.region id l.toArray true).wp P Q a w :=
 wp_region_noPanic (aKu S t hm hsel hok (fun _ _ _ _ _ h=>h) hS fun _=>h)
theorem aAd.fin {Q:Exit->Act->aT->Prop} {ops:Array Oper} {a:Act} {w:aT} (h:Q .normal a w):aAd P ops (NoPanic Q) .done S a w:=aAd.done (NoPanic.normal h)
theorem aLd {G' G:Prop} (k:G') (f:G'->G:=by(intro k_;(repeat (first|refine aAd.A0 ?_|refine aAd.AG ?_|refine aAd.AS ?_|with_reducible apply aAd.fork3|refine GoT.A0 ?_|refine GoT.AG ?_|refine GoT.AS ?_|fail));exact k_)):G:=f k
end
section
variable {P:Program} {Q:Exit->Act->aT->Prop} {S:aT->Prop} {T:Act->aT->Prop}
theorem aBi.A0 {l:List Oper} {i:Nat} {b:Bool} {rest:List (Nat×Bool)} {a:Act} {w:World} {o:Oper} {v:Value} {a':Act} (h:aBi P l.toArray Q S T rest a' w) (ho:l[i]? =some o:=by exact rfl) (hg:o.guard=none:=by exact rfl) (hy:∀w,S w->(execOp a.eval o).run P w= .ok (.value v) w:=by(intro w hSw;(try dsimp only at hSw);go_simp;try with_reducible rfl)) (hp:a.put o.dst v=a':=by((try simp only[Act.put,List.setIfInBounds_toArray,List.set_cons_zero,List.set_cons_succ]) <;> exact rfl)):aBi P l.toArray Q S T ((i,b) :: rest) a w:=aBi.take0 ho hg hy (hp▸h)
theorem aBi.AG {l:List Oper} {i:Nat} {b:Bool} {rest:List (Nat×Bool)} {ts:List Value} {ds:List Deferred} {w:World} {o oj:Oper} {v:Value} {j d:Nat} {bb:Bool} {a':Act} (h:aBi P l.toArray Q S T rest a' w) (ho:l[i]? =some o:=by exact rfl) (hg:o.guard=some (j,bb):=by exact rfl) (hj:l[j]? =some oj:=by exact rfl) (hd:oj.dst=some d:=by exact rfl) (ht:ts[d]? =some (.bool bb):=by exact rfl) (hy:∀w,S w->(execOp (Act.mk ts.toArray ds).eval o).run P w= .ok (.value v) w:=by(intro w hSw;(try dsimp only at hSw);go_simp;try with_reducible rfl)) (hp:(Act.mk ts.toArray ds).put o.dst v=a':=by((try simp only[Act.put,List.setIfInBounds_toArray,List.set_cons_zero,List.set_cons_succ]) <;> exact rfl)):aBi P l.toArray Q S T ((i,b) :: rest) ⟨ts.toArray,ds⟩ w:=aBi.takeG ho hg hj hd ht hy (hp▸h)
theorem aBi.P0 {l:List Oper} {i:Nat} {rest:List (Nat×Bool)} {a:Act} {w:World} {o:Oper} (h:∀K':Act->World->Prop,Shut (∀a w,S w->(S w->aBi P l.toArray Q S T rest a w)->K' a w)->Oper.wp P o a w K' Q) (ho:l[i]? =some o:=by exact rfl) (hg:o.guard=none:=by exact rfl):aBi P l.toArray Q S T ((i,true) :: rest) a w:=aBi.step0 ho hg h
theorem aBi.PG {l:List Oper} {i:Nat} {rest:List (Nat×Bool)} {ts:List Value} {ds:List Deferred} {w:World} {o oj:Oper} {j d:Nat} {bb:Bool} (h:∀K':Act->World->Prop,Shut (∀a w,S w->(S w->aBi P l.toArray Q S T rest a w)->K' a w)->Oper.wp P o ⟨ts.toArray,ds⟩ w K' Q) (ho:l[i]? =some o:=by exact rfl) (hg:o.guard=some (j,bb):=by exact rfl) (hj:l[j]? =some oj:=by exact rfl) (hd:oj.dst=some d:=by exact rfl) (ht:ts[d]? =some (.bool bb):=by exact rfl):aBi P l.toArray Q S T ((i,true) :: rest) ⟨ts.toArray,ds⟩ w:=aBi.stepG ho hg hj hd ht h
end
def okE (l:List Oper) (n g:Nat) (E:List Nat):List (Nat×Bool)->Nat->Bool
 | [],m=>aJ .any l.toArray g n (aA9 l.length m)
 | (i,b) :: rest,m=>(Nat.blt i n&&!E.contains i)&&(match l[i]? with|none=>false|some o=>aGf l.length m i o&&(bif b then aIp m i l 0 else aM2 m i o l.toArray l 0))&&okE l n g E rest (m ||| 1 <<< i)
section
variable {P:Program} {ops:Array Oper} {Q:Exit->Act->aT->Prop} {S:aT->Prop} {T:Act->aT->Prop}
theorem aJ9 {l:List Oper} {n g:Nat} {E:List Nat} (hc:Cut .any l.toArray n E) (hQ:∀(d:Option Tmp) (v:aU) c a w,Q (.panic c) (a.put d v) w->Q (.panic c) a w) :
 ∀(ord:List (Nat×Bool)) (m:Nat) (a:Act) (w:aT),okE l n g E ord m=true->HeadInv .any l.toArray n (aA9 l.length m)->S w->aBi P l.toArray Q S (wpList P l.toArray Q (l.drop n)) ord a w->
   aA5 P .any l.toArray Q S n (fun ls a w=>aJ .any l.toArray g n ls=true/\wpList P l.toArray Q (l.drop n) a w) ord.length (aA9 l.length m) a w
  | [],m,a,w,hok,_,_,h=>⟨hok,h⟩
  | (i,b) :: rest,m,a,w,hok,inv,hS,h=>by
    obtain⟨o,ho,h⟩:=h;have hol:l[i]? =some o:=by simpa using ho
    have hlt:i<l.length:=(aC.1 hol).1;simp only[okE,hol,aB]at hok;obtain⟨⟨⟨hin,hi0⟩,hr,hb⟩,hrest⟩:=hok;have hin:i<n:=by simpa using hin
    have hne:E.contains i=false:=by simpa using hi0
    simp only[aGf,aB,aI]at hr
    have hri:i∈aA .any l.toArray (aA9 l.length m):=by
     refine mem_ready.2 ⟨by rw[aAt,if_pos hlt];exact hr.1,o,ho,fun e B s=>?_⟩;have:=aG.1 hr.2 e (by simpa using B);rw[s]at this;simp only[Bool.not_true,aL,aB,aK]at this;rw[aAt,if_pos this.2];exact this.1
    have q:=inv.set hri hin;rw[aBg]at q;have y:=fun F x (D:S x) (J:aBi P l.toArray Q S (wpList P l.toArray Q (l.drop n)) rest F x)=>aJ9 hc hQ rest (m ||| 1 <<< i) F x hrest q D J;simp only[<-aBg]at y
    show aA5 P .any l.toArray Q S n _ (rest.length+1) (aA9 l.length m) a w
    cases b with
    | true=>
      have C:∀j∈aA .any l.toArray (aA9 l.length m),j=i:=by
       intro j A;obtain⟨G,t,r,H⟩:=mem_ready.1 A;have p:l[j]? =some t:=by simpa using r
       have f:j<l.length:=(aC.1 p).1;rw[aAt,if_pos f]at G
       have:=aD7 (k:=0) hb j t p (by rw[aF];exact G) (fun e B s=>by
        have:=H e B s;rw[aAt]at this;split at this
        . exact this
        . cases this)
       omega
      refine⟨fun e=>by rw[e]at hri;simp at hri,fun j A=>?_⟩;obtain rfl:=C j A;refine⟨hin,?_⟩;rcases h with⟨v,hy,h⟩|⟨_,h⟩
      . exact hy.wpOp ho hS ⟨hS,y _ _ hS h⟩
      . exact wpOp_mono (fun F x k=>⟨k.1,y _ _ k.1 k.2⟩) h
    | false=>
      rcases h with⟨v,hy,h⟩|⟨hf,_⟩
      . refine aA5.first hc (fun ls a w h=>aBn ls a w h) ho hin hne (fun c a w=>hQ _ _ c a w) rest.length _ a w inv ?_ hri hy hS (y _ _ hS h);intro j t r hne u z;have p:l[j]? =some t:=by simpa using r
        have f:j<l.length:=(aC.1 p).1;rw[aAt,if_pos f]at u;exact aDx (k:=0) hb j t p (by omega) (by rw[aF];exact u) z
      . cases hf
theorem aKw {id:Nat} {a:Act} {w:aT} {l:List Oper} (S:aT->Prop) (n g i j:Nat) (ord:List (Nat×Bool)) {oi oj:Oper} {v u:aU} (hm:P.follows .mixedOrders=true) (hng:n+2+g=l.length) (hi:l.toArray[i]? =some oi) (hj:l.toArray[j]? =some oj)
 (hin:i<n+2) (hjn:j<n+2) (hlen:ord.length=n) (hsel:aE l.toArray=true) (hsink:sinkE .any l.toArray (n+2) [i,j]=true) (hchain:aR .any l.toArray (n+2)=true) (hlt:0<g)
 (hf:aQ .any l.toArray (aD l.toArray.size false) i=true) (hr:(aA .any l.toArray (aD l.toArray.size false)).contains i=true)
 (hf2:aQ .any l.toArray ((aD l.toArray.size false).setIfInBounds i true) j=true) (hr2:(aA .any l.toArray ((aD l.toArray.size false).setIfInBounds i true)).contains j=true)
 (hok:okE l (n+2) g [i,j] ord (0 ||| 1 <<< i ||| 1 <<< j)=true)
 (hQ:∀(d:Option Tmp) (v:aU) c a w,Q (.panic c) (a.put d v) w->Q (.panic c) a w) (hy:Yields P l.toArray oi v a) (hy2:Yields P l.toArray oj u (a.put oi.dst v)) (hS:S w.drew)
 (h:S w.drew->aBi P l.toArray Q S (wpList P l.toArray Q (l.drop (n+2))) ord ((a.put oi.dst v).put oj.dst u) w.drew):(Code.region id l.toArray true).wp P Q a w:=by
  have A:l.toArray.size=n+g+1+1:=by simp;omega
  have o:Cut .any l.toArray (n+2) [i,j]:=⟨hsel,hsink,hchain,by simp;omega⟩
  have k:HeadInv .any l.toArray (n+2) (aD l.toArray.size false):=
    ⟨by simp,fun j oj _ r=>(by rw[getD_replicate_false]at r;cases r),fun t _ z=>getD_in (by simpa using z) (getD_replicate_false _ _)⟩
  have f:=k.set (by simpa using hr) hin;have b:=f.set (by simpa using hr2) hjn;have m:(l.drop (n+2)).length=g:=by rw[List.length_drop];omega
  refine wp_region_any hm ?_
  have p:((aD l.toArray.size false).setIfInBounds i true).setIfInBounds j true=aA9 l.length (0 ||| 1 <<< i ||| 1 <<< j):=by
   rw[show l.toArray.size=l.length by simp,<-aCv,aBg,aBg]
  have q:aA5 P .any l.toArray Q S (n+2) (fun e a w=>aJ .any l.toArray g (n+2) e=true/\wpList P l.toArray Q (l.drop (n+2)) a w) n (((aD l.toArray.size false).setIfInBounds i true).setIfInBounds j true) ((a.put oi.dst v).put oj.dst u) w.drew:=by
   rw[p]at b⊢;have:=aJ9 (P:=P) (Q:=Q) (S:=S) o hQ ord (0 ||| 1 <<< i ||| 1 <<< j) ((a.put oi.dst v).put oj.dst u) w.drew hok b hS (h hS);rw[hlen]at this;exact this
  have H:=aA5.any (md:= .any) (g:=g) (L:=fun e a w=>aJ .any l.toArray g (n+2) e=true/\wpList P l.toArray Q (l.drop (n+2)) a w) (fun e B y s=>by
   have:=wpAny_of_seq (md:= .any) (Q':=Q) (l.drop (n+2)) (n+2) e B y (fun j=>by simp[List.getElem?_drop]) (by rw[m];exact s.1) s.2
   rwa [m]at this) n _ _ _ q
  have C:=wpAny_take (w:={w with drawn:=w.drawn+1}) hj hsel hf2 hr2 (fun c a w=>hQ _ _ c a w) hy2 H;have x:=wpAny_take (w:={w with drawn:=w.drawn+1}) hi hsel hf hr (fun c a w=>hQ _ _ c a w) hy C;rw[<-A]at x;exact x
end
end
end Go.Proofs.YtmhpfoicloojcaaGreatDoor
