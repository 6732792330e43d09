/- Drawn regions in one order. -/
import Derived.Deep.RegionHeld3
import Derived.Test.YtmhpfoicloojcaaGreatDoorZab
set_option linter.all false
open Bool renaming and_eq_true→aA
open Go.Region renaming wanted→aB,binds→aE,ready→aF
open Array renaming getElem?_ofFn→aC
open List renaming getElem?_eq_some_iff→aD
open Go renaming World→aG,Value→aH
namespace Go.Proofs.YtmhpfoicloojcaaGreatDoor
set_option maxRecDepth 100000
set_option maxHeartbeats 16000000
section
open Go
variable {a:Act} {w:aG} {i:Nat} {b:Bool} {rest:List (Nat×Bool)} {o:Oper} {l:List Oper}
def aA9 (n m:Nat):Array Bool:=Array.ofFn (n:=n) fun j=>m.testBit j
theorem aAt (n m j:Nat) (d:Bool):(aA9 n m).getD j d=if j<n then m.testBit j else d:=by
 unfold aA9;rw[Array.getD_eq_getD_getElem?,aC];split <;> rfl
theorem aCv (n:Nat):aA9 n 0=Array.replicate n false:=by
 apply Array.ext_getElem?;intro j;unfold aA9;rw[aC,Array.getElem?_replicate];split <;> simp
theorem aBg (n m i:Nat):(aA9 n m).setIfInBounds i true=aA9 n (m ||| 1 <<< i):=by
 apply Array.ext_getElem?;intro j;unfold aA9;rw[Array.getElem?_setIfInBounds,aC,aC];by_cases h:i=j
 . subst h;rw[if_pos rfl];by_cases a:i<n
   . simp[a,Nat.testBit_or,Nat.one_shiftLeft]
   . simp[a]
 . rw[if_neg h];by_cases a:j<n
   . simp[a,Nat.testBit_or,Nat.one_shiftLeft,h]
   . simp[a]
def aIp (m i:Nat):List Oper->Nat->Bool
 | [],_=>true
 | o :: os,j=>(Nat.beq j i || m.testBit j || o.after.toList.any fun e=>aE .any e&&!m.testBit e.on)&&aIp m i os (j+1)
theorem aD7 {m i:Nat}:∀{l:List Oper} {k:Nat},aIp m i l k=true->∀(j:Nat) (o:Oper),l[j]? =some o->m.testBit (k+j)=false->(∀e∈o.after,aE .any e=true->m.testBit e.on=true)->k+j=i
 | [],_,_,j,o,hj,_,_=>by simp at hj
 | x :: xs,k,h,0,o,hj,hm,he=>by
   simp only[List.getElem?_cons_zero,Option.some.injEq]at hj;subst hj;simp only[aIp,aA,Bool.or_eq_true,Nat.beq_eq]at h;rcases h.1 with(h1|h1)|h1
   . omega
   . rw[Nat.add_zero]at hm;rw[hm]at h1;cases h1
   . obtain⟨e,h2,h3⟩:=List.any_eq_true.1 h1;simp only[aA,Bool.not_eq_true']at h3;have:=he e (by simpa using h2) h3.1;rw[h3.2]at this;cases this
 | x :: xs,k,h,j+1,o,hj,hm,he=>by
   simp only[aIp,aA]at h;have:=aD7 h.2 j o (by simpa using hj) (by rw[<-hm];congr 1;omega) he;omega
def aGf (n m i:Nat) (o:Oper):Bool:=!m.testBit i&&o.after.toList.all fun e=>!aE .any e ||(m.testBit e.on&&Nat.blt e.on n)
def aM2 (m i:Nat) (oi:Oper) (ops:Array Oper):List Oper->Nat->Bool
 | [],_=>true
 | o :: os,j=>(Nat.beq j i || m.testBit j ||(o.after.toList.any fun e=>aE .any e&&Nat.beq e.on i) || oi.apart ops o)&&aM2 m i oi ops os (j+1)
theorem aDx {m i:Nat} {oi:Oper} {ops:Array Oper}:∀{l:List Oper} {k:Nat},aM2 m i oi ops l k=true->∀(j:Nat) (o:Oper),l[j]? =some o->k+j≠i->m.testBit (k+j)=false->(∀e∈o.after,aE .any e=true->e.on≠i)->oi.apart ops o=true
 | [],_,_,j,o,hj,_,_,_=>by simp at hj
 | x :: xs,k,h,0,o,hj,hne,hm,he=>by
   simp only[List.getElem?_cons_zero,Option.some.injEq]at hj;subst hj;simp only[aM2,aA,Bool.or_eq_true,Nat.beq_eq]at h;rcases h.1 with((h1|h1)|h1)|h1
   . omega
   . rw[Nat.add_zero]at hm;rw[hm]at h1;cases h1
   . obtain⟨e,h2,h3⟩:=List.any_eq_true.1 h1;simp only[aA,Nat.beq_eq]at h3;exact absurd h3.2 (he e (by simpa using h2) h3.1)
   . exact h1
 | x :: xs,k,h,j+1,o,hj,hne,hm,he=>by
   simp only[aM2,aA]at h;exact aDx h.2 j o (by simpa using hj) (by omega) (by rw[<-hm];congr 1;omega) he
def okO (l:List Oper) (n:Nat):List (Nat×Bool)->Nat->Bool
 | [],m=>(List.range n).all fun j=>m.testBit j
 | (i,b) :: rest,m=>(match l[i]? with|none=>false|some o=>aGf n m i o&&(bif b then aIp m i l 0 else aM2 m i o l.toArray l 0))&&okO l n rest (m ||| 1 <<< i)
section
variable {P:Program} {ops:Array Oper} {Q:Exit->Act->aG->Prop} {S:aG->Prop}
def aAq (P:Program) (ops:Array Oper) (Q:Exit->Act->aG->Prop) (S:aG->Prop):List (Nat×Bool)->Act->aG->Prop
 | [],a,w=>Q .normal a w
 | (i,b) :: rest,a,w=>∃o,ops[i]? =some o/\((∃v,YieldsIf P ops S o v a/\aAq P ops Q S rest (a.put o.dst v) w)\/(b=true/\wpOp P ops Q i (fun a' w'=>S w'/\aAq P ops Q S rest a' w') a w))
theorem aAq.done (h:Q .normal a w):aAq P ops Q S [] a w:=h
theorem aAq.take {v:aH} (ho:ops[i]? =some o) (hw:aB o (yielded ops a.tmps)=true) (hy:∀w,S w->(execOp a.eval o).run P w= .ok (.value v) w)
 (h:aAq P ops Q S rest (a.put o.dst v) w):aAq P ops Q S ((i,b) :: rest) a w:=⟨o,ho,.inl ⟨v,.inl ⟨hw,hy⟩,h⟩⟩
theorem aAq.unwanted (ho:ops[i]? =some o) (hw:aB o (yielded ops a.tmps)=false)
 (h:aAq P ops Q S rest (a.put o.dst undef) w):aAq P ops Q S ((i,b) :: rest) a w:=⟨o,ho,.inl ⟨undef,.inr ⟨hw,rfl⟩,h⟩⟩
theorem aAq.step (ho:ops[i]? =some o)
 (h:∀K':Act->aG->Prop,Shut (∀a w,S w->(S w->aAq P ops Q S rest a w)->K' a w)->if aB o (yielded ops a.tmps)=true then Oper.wp P o a w K' Q else K' (a.put o.dst undef) w):aAq P ops Q S ((i,true) :: rest) a w:=
  ⟨o,ho,.inr ⟨rfl,wpOp_step ho fun K' hK=>h K' fun a w hS hW=>hK a w ⟨hS,hW hS⟩⟩⟩
theorem aB4 {y:Nat->Option Bool} (hg:o.guard=none):aB o y=true:=by unfold aB;rw[hg]
theorem aAq.take0 {v:aH} (ho:l[i]? =some o) (hg:o.guard=none) (hy:∀w,S w->(execOp a.eval o).run P w= .ok (.value v) w)
 (h:aAq P l.toArray Q S rest (a.put o.dst v) w):aAq P l.toArray Q S ((i,b) :: rest) a w:=aAq.take (by simpa using ho) (aB4 hg) hy h
theorem aAq.step0 (ho:l[i]? =some o) (hg:o.guard=none)
 (h:∀K':Act->aG->Prop,Shut (∀a w,S w->(S w->aAq P l.toArray Q S rest a w)->K' a w)->Oper.wp P o a w K' Q):aAq P l.toArray Q S ((i,true) :: rest) a w:=
  aAq.step (by simpa using ho) fun K' hK=>by rw[if_pos (aB4 hg)];exact h K' hK
theorem aK6 {l:List Oper} (hsel:Region.noSelect l.toArray=true) (hQ:∀(d:Option Tmp) (v:aH) c a w,Q (.panic c) (a.put d v) w->Q (.panic c) a w) :
 ∀(ord:List (Nat×Bool)) (m:Nat) (a:Act) (w:aG),okO l l.length ord m=true->S w->aAq P l.toArray Q S ord a w->wpAnyH P .any l.toArray Q S ord.length (aA9 l.length m) a w
  | [],m,a,w,hok,_,h=>by
    refine⟨?_,h⟩;cases hr:aF .any l.toArray (aA9 l.length m)with
    | nil=>rfl
    | cons j js=>
      have hj:j∈aF .any l.toArray (aA9 l.length m):=by rw[hr];exact List.mem_cons_self
      obtain⟨h1,o,ho,_⟩:=mem_ready.1 hj;have hlt:j<l.length:=by simpa using(Array.getElem?_eq_some_iff.1 ho).1
      rw[aAt,if_pos hlt]at h1;have:=List.all_eq_true.1 hok j (List.mem_range.2 hlt);rw[h1]at this;cases this
  | (i,b) :: rest,m,a,w,hok,hS,h=>by
    obtain⟨o,ho,h⟩:=h;have hol:l[i]? =some o:=by simpa using ho
    have hlt:i<l.length:=(aD.1 hol).1;simp only[okO,hol,aA]at hok;obtain⟨⟨hr,hb⟩,hrest⟩:=hok;simp only[aGf,aA,Bool.not_eq_true']at hr
    have hri:i∈aF .any l.toArray (aA9 l.length m):=by
     refine mem_ready.2 ⟨by rw[aAt,if_pos hlt];exact hr.1,o,ho,fun e x p=>?_⟩;have:=List.all_eq_true.1 hr.2 e (by simpa using x);rw[p]at this;simp only[Bool.not_true,Bool.false_or,aA,Nat.blt_eq]at this;rw[aAt,if_pos this.2];exact this.1
    have t:=fun A s (z:S s) (D:aAq P l.toArray Q S rest A s)=>aK6 hsel hQ rest (m ||| 1 <<< i) A s hrest z D;simp only[<-aBg]at t
    show wpAnyH P .any l.toArray Q S (rest.length+1) (aA9 l.length m) a w
    cases b with
    | true=>
      have y:∀j∈aF .any l.toArray (aA9 l.length m),j=i:=by
       intro j hj;obtain⟨h1,q,n,C⟩:=mem_ready.1 hj;have g:l[j]? =some q:=by simpa using n
       have f:j<l.length:=(aD.1 g).1;rw[aAt,if_pos f]at h1
       have:=aD7 (k:=0) hb j q g (by rw[Nat.zero_add];exact h1) (fun e x p=>by
        have:=C e x p;rw[aAt]at this;split at this
        . exact this
        . cases this)
       omega
      refine⟨fun e=>by rw[e]at hri;simp at hri,fun j hj=>?_⟩;obtain rfl:=y j hj;rcases h with⟨v,hy,h⟩|⟨_,h⟩
      . exact hy.wpOp ho hS ⟨hS,t _ _ hS h⟩
      . exact wpOp_mono (fun A s k=>⟨k.1,t _ _ k.1 k.2⟩) h
    | false=>
      rcases h with⟨v,hy,h⟩|⟨hf,_⟩
      . refine wpAnyH_first ho (Region.noSelect_spec hsel) (fun c a w=>hQ _ _ c a w) rest.length _ a w ?_ hri hy hS (t _ _ hS h);intro j q n B r u;have g:l[j]? =some q:=by simpa using n
        have f:j<l.length:=(aD.1 g).1;rw[aAt,if_pos f]at r;exact aDx (k:=0) hb j q g (by omega) (by rw[Nat.zero_add];exact r) u
      . cases hf
theorem aL5 {id:Nat} (S:aG->Prop) (ord:List (Nat×Bool)) (hm:P.follows .mixedOrders=true) (hsel:Region.noSelect l.toArray=true) (hlen:ord.length=l.length) (hok:okO l l.length ord 0=true)
 (hQ:∀(d:Option Tmp) (v:aH) c a w,Q (.panic c) (a.put d v) w->Q (.panic c) a w) (hS:S w.drew) (h:S w.drew->aAq P l.toArray Q S ord a w.drew):(Code.region id l.toArray true).wp P Q a w:=by
  refine wp_region_held_drew (S:=S) hm hS fun hS=>?_;have:=aK6 (P:=P) (Q:=Q) (S:=S) hsel hQ ord 0 a w.drew hok hS (h hS);rw[aCv,hlen]at this
  simpa using this
end
variable {l:List Oper} {ts:List aH} {ds:List Deferred} {o oj:Oper} {j d i:Nat} {bb:Bool} {rest:List (Nat×Bool)} {w:aG}
section
variable {P:Program} {Q:Exit->Act->aG->Prop} {S:aG->Prop}
theorem aDz (hg:o.guard=some (j,bb)) (hj:l[j]? =some oj) (hd:oj.dst=some d) (ht:ts[d]? =some (.bool bb)):aB o (yielded l.toArray (Act.mk ts.toArray ds).tmps)=true:=by
 unfold aB yielded;rw[hg];simp[hj,hd,ht]
theorem aGn {b':Bool} (hg:o.guard=some (j,bb)) (hj:l[j]? =some oj) (hd:oj.dst=some d) (ht:ts[d]? =some (.bool b')) (hne:(b'== bb)=false):aB o (yielded l.toArray (Act.mk ts.toArray ds).tmps)=false:=by
 unfold aB yielded;rw[hg];simp[hj,hd,ht]
 simpa using hne
theorem aAq.takeG {b:Bool} {v:aH} (ho:l[i]? =some o) (hg:o.guard=some (j,bb)) (hj:l[j]? =some oj) (hd:oj.dst=some d) (ht:ts[d]? =some (.bool bb)) (hy:∀w,S w->(execOp (Act.mk ts.toArray ds).eval o).run P w= .ok (.value v) w)
 (h:aAq P l.toArray Q S rest ((Act.mk ts.toArray ds).put o.dst v) w):aAq P l.toArray Q S ((i,b) :: rest) ⟨ts.toArray,ds⟩ w:=aAq.take (by simpa using ho) (aDz hg hj hd ht) hy h
theorem aAq.skipG {b:Bool} {b':Bool} (ho:l[i]? =some o) (hg:o.guard=some (j,bb)) (hj:l[j]? =some oj) (hd:oj.dst=some d) (ht:ts[d]? =some (.bool b')) (hne:(b'== bb)=false)
 (h:aAq P l.toArray Q S rest ((Act.mk ts.toArray ds).put o.dst undef) w):aAq P l.toArray Q S ((i,b) :: rest) ⟨ts.toArray,ds⟩ w:=aAq.unwanted (by simpa using ho) (aGn hg hj hd ht hne) h
theorem aAq.stepG (ho:l[i]? =some o) (hg:o.guard=some (j,bb)) (hj:l[j]? =some oj) (hd:oj.dst=some d) (ht:ts[d]? =some (.bool bb))
 (h:∀K':Act->aG->Prop,Shut (∀a w,S w->(S w->aAq P l.toArray Q S rest a w)->K' a w)->Oper.wp P o ⟨ts.toArray,ds⟩ w K' Q):aAq P l.toArray Q S ((i,true) :: rest) ⟨ts.toArray,ds⟩ w:=
  aAq.step (by simpa using ho) fun K' hK=>by rw[if_pos (aDz hg hj hd ht)];exact h K' hK
end
section
variable {P:Program} {Q:Exit->Act->aG->Prop} {S:aG->Prop}
theorem aAq.A0 {l:List Oper} {i:Nat} {b:Bool} {rest:List (Nat×Bool)} {a:Act} {w:World} {o:Oper} {v:Value} {a':Act} (h:aAq P l.toArray Q S rest a' w) (ho:l[i]? =some o:=by exact rfl) (hg:o.guard=none:=by exact rfl) (hy:∀w,S w->(execOp a.eval o).run P w= .ok (.value v) w:=by(intro w hSw;(try dsimp only at hSw);go_simp;try with_reducible rfl)) (hp:a.put o.dst v=a':=by((try simp only[Act.put,List.setIfInBounds_toArray,List.set_cons_zero,List.set_cons_succ]) <;> exact rfl)):aAq P l.toArray Q S ((i,b) :: rest) a w:=aAq.take0 ho hg hy (hp▸h)
theorem aAq.AG {l:List Oper} {i:Nat} {b:Bool} {rest:List (Nat×Bool)} {ts:List Value} {ds:List Deferred} {w:World} {o oj:Oper} {v:Value} {j d:Nat} {bb:Bool} {a':Act} (h:aAq P l.toArray Q S rest a' w) (ho:l[i]? =some o:=by exact rfl) (hg:o.guard=some (j,bb):=by exact rfl) (hj:l[j]? =some oj:=by exact rfl) (hd:oj.dst=some d:=by exact rfl) (ht:ts[d]? =some (.bool bb):=by exact rfl) (hy:∀w,S w->(execOp (Act.mk ts.toArray ds).eval o).run P w= .ok (.value v) w:=by(intro w hSw;(try dsimp only at hSw);go_simp;try with_reducible rfl)) (hp:(Act.mk ts.toArray ds).put o.dst v=a':=by((try simp only[Act.put,List.setIfInBounds_toArray,List.set_cons_zero,List.set_cons_succ]) <;> exact rfl)):aAq P l.toArray Q S ((i,b) :: rest) ⟨ts.toArray,ds⟩ w:=aAq.takeG ho hg hj hd ht hy (hp▸h)
theorem aAq.AS {l:List Oper} {i:Nat} {b:Bool} {rest:List (Nat×Bool)} {ts:List Value} {ds:List Deferred} {w:World} {o oj:Oper} {j d:Nat} {bb b':Bool} {a':Act} (h:aAq P l.toArray Q S rest a' w) (ho:l[i]? =some o:=by exact rfl) (hg:o.guard=some (j,bb):=by exact rfl) (hj:l[j]? =some oj:=by exact rfl) (hd:oj.dst=some d:=by exact rfl) (ht:ts[d]? =some (.bool b'):=by exact rfl) (hne:(b'== bb)=false:=by exact rfl) (hp:(Act.mk ts.toArray ds).put o.dst undef=a':=by((try simp only[Act.put,List.setIfInBounds_toArray,List.set_cons_zero,List.set_cons_succ]) <;> exact rfl)):aAq P l.toArray Q S ((i,b) :: rest) ⟨ts.toArray,ds⟩ w:=aAq.skipG ho hg hj hd ht hne (hp▸h)
theorem aAq.P0 {l:List Oper} {i:Nat} {rest:List (Nat×Bool)} {a:Act} {w:World} {o:Oper} (h:∀K':Act->World->Prop,Shut (∀a w,S w->(S w->aAq P l.toArray Q S rest a w)->K' a w)->Oper.wp P o a w K' Q) (ho:l[i]? =some o:=by exact rfl) (hg:o.guard=none:=by exact rfl):aAq P l.toArray Q S ((i,true) :: rest) a w:=aAq.step0 ho hg h
theorem aAq.PG {l:List Oper} {i:Nat} {rest:List (Nat×Bool)} {ts:List Value} {ds:List Deferred} {w:World} {o oj:Oper} {j d:Nat} {bb:Bool} (h:∀K':Act->World->Prop,Shut (∀a w,S w->(S w->aAq P l.toArray Q S rest a w)->K' a w)->Oper.wp P o ⟨ts.toArray,ds⟩ w K' Q) (ho:l[i]? =some o:=by exact rfl) (hg:o.guard=some (j,bb):=by exact rfl) (hj:l[j]? =some oj:=by exact rfl) (hd:oj.dst=some d:=by exact rfl) (ht:ts[d]? =some (.bool bb):=by exact rfl):aAq P l.toArray Q S ((i,true) :: rest) ⟨ts.toArray,ds⟩ w:=aAq.stepG ho hg hj hd ht h
theorem aAq.fin {Q:Exit->Act->aG->Prop} {ops:Array Oper} {a:Act} {w:aG} (h:Q .normal a w):aAq P ops (NoPanic Q) S [] a w:=aAq.done (NoPanic.normal h)
theorem aKs {id : Nat} {a : Act} {w : World} {l : List Oper} (S : World -> Prop) (ord : List (Nat × Bool)) (hS : S w.drew) (h : aAq P l.toArray (NoPanic Q) S ord a w.drew) (hm : P.follows .mixedOrders = true := by kernel_rfl) (hsel : Region.noSelect l.toArray = true := by as_aux_lemma => kernel_rfl) (hlen : ord.length = l.length := by rfl) (hok : okO l l.length ord 0 = true := by as_aux_lemma => kernel_rfl) : (Code.region id l.toArray true).wp P Q a w :=
 wp_region_noPanic (aL5 S ord hm hsel hlen hok (fun _ _ _ _ _ h=>h) hS fun _=>h)
end
theorem aAe {P:Program} {a:Act} {o:Oper} {w:aG} (ty:TypeId) (x:Operand) (ho:o.op= .load ty x) (g:Nat) (hx:a.eval x= .pointer (some (g,0))) (t:TypeId) (cs:Array aH) (fr:Nat×Nat) (d:TypeDesc)
 (hg:w.heap[g]? =some (.cells cs t fr)) (hu:P.underlying ty=some d) (hd:(match d with| .struct _| .array _ _=>true|_=>false)=true) (hi:(P.info? ty).map (·.size)=some cs.size) :
 (execOp a.eval o).run P w= .ok (.value (.agg cs)) w:=by
  unfold execOp;simp only[ho,hx,Instr.loadAt,Instr.sureAddr,Sem.run_bind,Sem.run_pure,Result.andThen_ok,run_loadVar_row w g t ty cs fr d hg hu hd hi]
end
end Go.Proofs.YtmhpfoicloojcaaGreatDoor
