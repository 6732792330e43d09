/- Drawn regions that store; in a round. -/
import Derived.Test.YtmhpfoicloojcaaGreatDoorZax
import Derived.Test.YtmhpfoicloojcaaGreatDoorZay
import Derived.Test.YtmhpfoicloojcaaGreatDoorZac
set_option linter.all false
open Array renaming replicate→aA
open Go.Region renaming linearise→aB
open Go renaming World→aC
namespace Go.Proofs.YtmhpfoicloojcaaGreatDoor
set_option maxRecDepth 100000
set_option maxHeartbeats 16000000
section
open Go
variable {a:Act}
def aGc (Q:Exit->Act->aC->Prop):Exit->Act->aC->Prop
 | .normal,a,w=>Q .normal a w
 | _,_,_=>False
theorem aGc.normal {Q:Exit->Act->aC->Prop} {w:aC} (h:Q .normal a w):aGc Q .normal a w:=h
theorem aLi {Q:Exit->Act->aC->Prop}:¬LetsOut (aGc Q):=fun⟨_,_,h⟩=>h
def aJ4 (o:Oper):Bool:=match o.op with
 | .defer _=>false
 | _=>true
theorem aN8 {o:Oper} (h:aJ4 o=true):∀c,o.op≠ .defer c:=fun c e=>by
 unfold aJ4 at h;rw[e]at h;cases h
theorem aTc {L n:Nat} {P:Program} {o:Oper} {K K':Act->aC->Prop} {Q:Exit->Act->aC->Prop} (hK:∀a w,K a w->K' a w) {r:Result Next} (h:o.upon P a K (aGc Q) r):o.uponIn (Fence.wide.inRound L) n P a K' Q r:=by
 cases r with
 | ok x w=>
   cases x with
   | value v=>exact hK _ _ h
   | skip=>exact hK _ _ h
   | defer d=>exact hK _ _ h
   | enter f args=>
     refine⟨fun e=>Bool.noConfusion (show false=true from e),CallsIn.inRound L (callsIn_wide.2 (Calls.mono h ?_))⟩;intro e g b;cases e with
     | returned v=>exact hK _ _ b
     | panicked c=>exact b.elim
     | outgrown=>exact(aLi b).elim
   | row row args=>
     refine⟨fun e=>Bool.noConfusion (show false=true from e),fun c i _=>?_⟩;obtain⟨v,g,r,s⟩:=h c i;exact⟨v,g,hK _ _ r,stepsIn_wide.2 s⟩
   | round=>exact h.elim
   | _=>exact h.elim
 | halt x w=>
   cases x with
   | panic v=>exact(h:False).elim
   | _=>exact(h:False).elim
theorem aEm {L n:Nat} {P:Program} {ops:Array Oper} {Q:Exit->Act->aC->Prop} (hd:∀o∈ops.toList,aJ4 o=true):∀(l:List Nat) (a:Act) (w:aC),wpOps P ops (aGc Q) l a w->wpOpsIn (Fence.wide.inRound L) n P ops Q l a w
 | [],_,_,h=>h
 | i :: rest,a,w,h=>by
   unfold wpOps at h;unfold wpOpsIn;cases ho:ops[i]? with
   | none=>
     rw[ho]at h;exact aEm hd rest a w h
   | some o=>
     rw[ho]at h;dsimp only at h⊢;split
     . rename_i hw
       rw[if_pos hw]at h;rcases h with h|⟨_,h⟩
       . refine⟨fun _ _=>trivial,?_⟩
         rw[Oper.semAt_eq _ _ _ (aN8 (hd o (by
          have:=Array.mem_of_getElem? ho
          simpa using this)))]
         exact aTc (fun a w=>aEm hd rest a w) h
       . exact(aLi h).elim
     . rename_i hw
       rw[if_neg hw]at h;exact⟨fun _ _=>trivial,aEm hd rest _ _ h⟩
theorem aV5 {P:Program} {Q:Exit->Act->aC->Prop} (S:aC->Prop) {a:Act} {w:aC} {l:List Oper} (n g i:Nat) {oi:Oper} {v:Value} (hng:n+1+g=l.length) (hi:l.toArray[i]? =some oi) (hin:i<n+1)
 (hsel:Region.noSelect l.toArray=true) (hsink:sinkE .any l.toArray (n+1) [i]=true) (hchain:Region.chainB .any l.toArray (n+1)=true) (hlt:0<g)
 (hf:Region.free .any l.toArray (aA l.toArray.size false) i=true) (hr:(Region.ready .any l.toArray (aA l.toArray.size false)).contains i=true) (hQ:∀c a w,Q (.panic c) (a.put oi.dst v) w->Q (.panic c) a w) (hy:Yields P l.toArray oi v a) (hS:S w.drew)
 (h:Cut .any l.toArray (n+1) [i]->HeadInv .any l.toArray (n+1) ((aA l.toArray.size false).setIfInBounds i true)->S w.drew->
   aA5 P .any l.toArray Q S (n+1) (fun ls a w=>Region.seqB .any l.toArray g (n+1) ls=true/\wpList P l.toArray Q (l.drop (n+1)) a w) n ((aA l.toArray.size false).setIfInBounds i true) (a.put oi.dst v) w.drew) :
 wpAny P .any l.toArray Q l.toArray.size (aA l.toArray.size false) a w.drew:=by
 have p:l.toArray.size=n+g+1:=by simp;omega
 have e:Cut .any l.toArray (n+1) [i]:=⟨hsel,hsink,hchain,by omega⟩
 have b:HeadInv .any l.toArray (n+1) (aA l.toArray.size false):=
   ⟨by simp,fun j r _ f=>(by rw[getD_replicate_false]at f;cases f),fun t _ o=>getD_in (by simpa using o) (getD_replicate_false _ _)⟩
 have d:(l.drop (n+1)).length=g:=by rw[List.length_drop];omega
 have H:=aA5.any (md:= .any) (g:=g) (L:=fun ls a w=>Region.seqB .any l.toArray g (n+1) ls=true/\wpList P l.toArray Q (l.drop (n+1)) a w) (fun ls q m k=>by
  have:=wpAny_of_seq (md:= .any) (Q':=Q) (l.drop (n+1)) (n+1) ls q m (fun j=>by simp[List.getElem?_drop]) (by rw[d];exact k.1) k.2
  rwa [d]at this) n _ _ _ (h e (b.set (by simpa using hr) hin) hS)
 have T:=wpAny_take (w:=w.drew) hi hsel hf hr hQ hy H;rw[<-p]at T;exact T
section
variable {P:Program} {Q:Exit->Act->aC->Prop}
theorem aIs {id L m0:Nat} {w:aC} {l:List Oper} (S:aC->Prop) (n g i:Nat) (ord:List (Nat×Bool)) {oi:Oper} {v:Value} (hm:P.follows .mixedOrders=true) (hng:n+1+g=l.length) (hi:l.toArray[i]? =some oi) (hin:i<n+1) (hlen:ord.length=n)
 (hsel:Region.noSelect l.toArray=true) (hsink:sinkE .any l.toArray (n+1) [i]=true) (hchain:Region.chainB .any l.toArray (n+1)=true) (hlt:0<g)
 (hf:Region.free .any l.toArray (aA l.toArray.size false) i=true) (hr:(Region.ready .any l.toArray (aA l.toArray.size false)).contains i=true) (hok:okF l (n+1) g i ord (0 ||| 1 <<< i)=true)
 (hd:l.all aJ4=true) (hy:Yields P l.toArray oi v a) (hS:S w.drew)
 (h:S w.drew->aBi P l.toArray (aGc Q) S (wpList P l.toArray (aGc Q) (l.drop (n+1))) ord (a.put oi.dst v) w.drew):(Code.region id l.toArray true).wpIn (Fence.wide.inRound L) m0 P Q a w:=by
  have f:∀(d:Option Tmp) (v:Value) c a w,aGc Q (.panic c) (a.put d v) w->aGc Q (.panic c) a w:=fun _ _ _ _ _ h=>h;refine wpIn_region_draw fun t=>?_;simp only[Region.schedule,hm,Bool.true_or,if_true];refine aEm (fun o j=>List.all_eq_true.1 hd o (by simpa using j)) _ _ _ ?_
  have e:aB Region.Mode.any l.toArray t=aB.go Region.Mode.any l.toArray l.toArray.size t (aA l.toArray.size false) []:=by
   unfold aB;simp
  rw[e];refine wpAny_sound _ t _ a _ ?_;refine aV5 S n g i hng hi hin hsel hsink hchain hlt hf hr (fun c a w=>f _ _ c a w) hy hS fun k inv hS=>?_
  have b:(aA l.toArray.size false).setIfInBounds i true=aA9 l.length (0 ||| 1 <<< i):=by
   rw[show l.toArray.size=l.length by simp,<-aCv,aBg]
  rw[b]at inv⊢;have:=aIa (P:=P) (Q:=aGc Q) (S:=S) k f ord (0 ||| 1 <<< i) (a.put oi.dst v) w.drew hok inv hS (h hS);rw[hlen]at this;exact this
end
section
variable {P:Program} {Q:Exit->Act->aC->Prop}
theorem aDm {id L n:Nat} {a:Act} {w:aC} {l:List Oper} (S:aC->Prop) (t:Tr) (hm:P.follows .mixedOrders=true) (hsel:Region.noSelect l.toArray=true) (hok:okT l t l.length 0=true)
 (hd:l.all aJ4=true) (hS:S w.drew) (h:S w.drew->aAd P l.toArray (aGc Q) t S a w.drew):(Code.region id l.toArray true).wpIn (Fence.wide.inRound L) n P Q a w:=by
  refine wpIn_region_draw fun u=>?_;simp only[Region.schedule,hm,Bool.true_or,if_true];have b:=aB3 (P:=P) (Q:=aGc Q) hsel (fun _ _ _ _ _ h=>h) t S l.length 0 a w.drew hok hS (h hS);rw[aCv]at b;refine aEm (fun o c=>List.all_eq_true.1 hd o (by simpa using c)) _ _ _ ?_;have d:=wpAny_sound l.length u _ a _ (wpAny_of_held _ _ _ _ b)
  have e:aB Region.Mode.any l.toArray u=aB.go Region.Mode.any l.toArray l.length u (aA l.length false) []:=by
   unfold aB;simp
  rw[e];exact d
end
end
end Go.Proofs.YtmhpfoicloojcaaGreatDoor
