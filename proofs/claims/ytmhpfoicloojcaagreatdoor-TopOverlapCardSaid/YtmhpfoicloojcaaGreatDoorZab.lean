/- Plain laws: queries, results, replay, the overlap. -/
import GoSem.Core.Value
import GoSem.Core.World
import Derived.Test.YtmhpfoicloojcaaGreatDoorZaa
set_option linter.all false
open Bool renaming and_eq_true→aA,not_eq_true'→aG,or_eq_true→aN,or_eq_false_iff→aP
open List renaming getElem?_eq_some_iff→aB,mem_cons_self→aC,pairwise_cons→aD,mem_append→aE,mem_cons_of_mem→aF,mem_cons→aH,Pairwise→aI,mem_filter→aK,take_append_drop→aL,length_append→aM,length_take→aQ,filter_cons→aS,length_cons→aT,getElem?_eq_getElem→aU,filter_append→aV,take_add_one→aW,findIdx_le_length→aX,filter_eq_nil_iff→aY,map_append→aZ,foldl_cons→a0,sum_append→a3,take_succ_cons→a4
open Option renaming some→aJ,isSome_iff_exists→aR
open Nat renaming min_eq_left→aO
open Go renaming Value→a5
namespace Go.Proofs.YtmhpfoicloojcaaGreatDoor
set_option maxRecDepth 100000
set_option maxHeartbeats 16000000
section
open Go
instance:Coe Int a5:=⟨.int .i64⟩
instance:Coe Nat a5:=⟨fun n=> .int .i64 (n:Int)⟩
instance:Coe Bool a5:=⟨.bool⟩
instance:CoeDep Unit () a5:=⟨.int .i64 0⟩
instance:CoeDep (Unit×Unit) ((),()) a5:=⟨.slice none 0 0⟩
instance (a b:Nat):CoeDep (Nat×Nat) (a,b) Addr:=⟨⟨a,b,none⟩⟩
instance (a:World) (b:Nat):CoeDep (World×Nat) (a,b) Addr:=⟨⟨a.heap.size,b,none⟩⟩
instance:Coe World Nat:=⟨fun w=>w.heap.size⟩
theorem ex_ {α:Type} (a:α):∃x,x=a:=⟨a,rfl⟩
theorem sx1 {α:Type} (l:List α) (i:Nat) (a:α):l.toArray.setIfInBounds i a=(l.set i a).toArray:=List.setIfInBounds_toArray ..
theorem sx2 {α:Type} (x:α) (xs:List α) (a:α):(x :: xs).set 0 a=a :: xs:=List.set_cons_zero ..
theorem sx3 {α:Type} (x:α) (xs:List α) (n:Nat) (a:α):(x :: xs).set (n+1) a=x :: xs.set n a:=List.set_cons_succ ..
theorem aQn {w:World} {g a:Nat} {u0 u1 u2 u3 u4 u5 u6 u7 u8 u9:a5} (h:∀(i:Nat) u,[u0,u1,u2,u3,u4,u5,u6,u7,u8,u9][i]? =some u->w.cell? ⟨g,a+i,none⟩=some u):w.cell? ⟨g,a,none⟩=some u0/\w.cell? ⟨g,a+1,none⟩=some u1/\w.cell? ⟨g,a+2,none⟩=some u2/\w.cell? ⟨g,a+3,none⟩=some u3/\w.cell? ⟨g,a+4,none⟩=some u4/\w.cell? ⟨g,a+5,none⟩=some u5/\w.cell? ⟨g,a+6,none⟩=some u6/\w.cell? ⟨g,a+7,none⟩=some u7/\w.cell? ⟨g,a+8,none⟩=some u8/\w.cell? ⟨g,a+9,none⟩=some u9:=⟨h 0 _ rfl,h 1 _ rfl,h 2 _ rfl,h 3 _ rfl,h 4 _ rfl,h 5 _ rfl,h 6 _ rfl,h 7 _ rfl,h 8 _ rfl,h 9 _ rfl⟩
theorem aBq {G' G:Prop} (k:G') (f:G'->G:=by(intro k_;(try simp only[Act.put,List.setIfInBounds_toArray,List.set_cons_zero,List.set_cons_succ]);exact k_)):G:=f k
end
section
variable {c t:Int} {a b:Rw} {l O:List Rw}
def Rw.val (r:Rw) (c:Int):Int:=if c=0 then r.key else if c=1 then r.v.1 else if c=2 then r.v.2.1 else if c=3 then r.v.2.2 else 0
def ltO (c:Int) (a b:Rw):Bool:=decide (a.val c<b.val c) ||(decide (a.val c=b.val c)&&decide (a.key<b.key))
theorem aFb:ltO c a b=true↔a.val c<b.val c\/a.val c=b.val c/\a.key<b.key:=by simp[ltO]
theorem aLm:ltO c a b=false↔¬(a.val c<b.val c\/a.val c=b.val c/\a.key<b.key):=by rw[<-Bool.not_eq_true,aFb]
def leO (c:Int) (a b:Rw):Bool:=!ltO c b a
theorem aGw:leO c a b=true↔¬(b.val c<a.val c\/b.val c=a.val c/\b.key<a.key):=by unfold leO;rw[aG,aLm]
def aQ4 (l:List Rw) (p:Rw->Bool) (c:Int):List Rw:=(l.filter p).mergeSort (leO c)
theorem aB9 (l:List Rw) (p:Rw->Bool) (c:Int):(aQ4 l p c).Perm (l.filter p):=List.mergeSort_perm _ _
theorem aGs (l:List Rw) (p:Rw->Bool) (c:Int):(aQ4 l p c).Pairwise fun a b=>leO c a b=true:=
 List.pairwise_mergeSort (fun a b d h k=>by rw[aGw]at *;omega) (fun a b=>by rw[aN,aGw,aGw];omega) _
theorem aLb {le:Rw->Rw->Bool}:∀{a b:List Rw},a.Perm b->a.Pairwise (fun x y=>le x y=true)->b.Pairwise (fun x y=>le x y=true)->(∀x∈a,∀y∈a,le x y=true->le y x=true->x=y)->a=b
 | [],b,hp,_,_,_=>by simpa using hp.symm.eq_nil.symm
 | x :: a,[],hp,_,_,_=>by simp at hp
 | x :: a,y :: b,hp,ha,hb,hx=>by
   obtain⟨a1,a2⟩:=aD.1 ha;obtain⟨b1,b2⟩:=aD.1 hb
   have e:x=y:=by
    by_cases h:x=y
    . exact h
    . have d:x∈b:=by
       rcases aH.1 (hp.mem_iff.1 (aC ..))with e|h1
       . exact absurd e h
       . exact h1
      have c:y∈a:=by
       rcases aH.1 (hp.mem_iff.2 (aC ..))with e|h1
       . exact absurd e.symm h
       . exact h1
      exact hx x (by simp) y (by simp[c]) (a1 y c) (b1 x d)
   subst e;rw[aLb (List.Perm.cons_inv hp) a2 b2 fun u g v f=>hx u (by simp[g]) v (by simp[f])]
theorem SortS.key_eq (h:SortS l) {x y:Rw} (hx:x∈l) (hy:y∈l) (ht:x.table=y.table) (hk:x.key=y.key):x=y:=by
 have b:=h.get hx;have a:=h.get hy;rw[ht,hk]at b;rw[b]at a;exact aJ.inj a
theorem aUj (h:SortS l) {p:Rw->Bool} {t:Int} (hp:∀r,p r=true->r.table=t) (c:Int):∀x∈l.filter p,∀y∈l.filter p,leO c x y=true->leO c y x=true->x=y:=by
 intro x b y a g f;rw[aGw]at g f;obtain⟨b,e⟩:=aK.1 b;obtain⟨a,d⟩:=aK.1 a;exact h.key_eq b a ((hp x e).trans (hp y d).symm) (by omega)
theorem aT9 (h:SortS l) {p:Rw->Bool} {t:Int} (hp:∀r,p r=true->r.table=t) (c:Int) {d:List Rw} (hd:d.Perm (l.filter p)) (hs:d.Pairwise fun a b=>leO c a b=true):d=aQ4 l p c:=
 aLb (hd.trans (aB9 l p c).symm) hs (aGs l p c) fun x hx y hy=>aUj h hp c x (hd.mem_iff.1 hx) y (hd.mem_iff.1 hy)
theorem aSg (h:SortS l) {p:Rw->Bool} {t:Int} (hp:∀r,p r=true->r.table=t) (c:Int) (q:Rw->Bool):(aQ4 l p c).filter q=aQ4 l (fun r=>p r&&q r) c:=by
 refine aT9 h (p:=fun r=>p r&&q r) (t:=t) (fun r a=>hp r (by simp at a;exact a.1)) c ?_ ((aGs l p c).filter _);have:=(aB9 l p c).filter q;rw[List.filter_filter]at this;refine this.trans ?_;have e:(fun r=>q r&&p r)=fun r=>p r&&q r:=by funext r;exact Bool.and_comm _ _
 rw[e]
theorem aF3 (h:SortS l) {p:Rw->Bool} {t:Int} (hp:∀r,p r=true->r.table=t) (c:Int):(aQ4 l p c).Pairwise fun a b=>ltO c a b=true:=by
 have j:(l.filter p).Nodup:=aI.imp (fun i e=>by subst e;unfold Rw.before at i;omega) (aI.filter p h);have f:(aQ4 l p c).Nodup:=(aB9 l p c).nodup_iff.2 j;have m:=aI.and_mem.1 (aI.and f (aGs l p c));refine m.imp fun{a b} ⟨k,i,d,g⟩=>?_;rw[aGw]at g;rw[aFb];apply Decidable.byContradiction;intro n;refine d (aUj h hp c a ((aB9 l p c).mem_iff.1 k) b ((aB9 l p c).mem_iff.1 i) ?_ ?_)
 . rw[aGw];omega
 . rw[aGw];omega
def inT (t:Int) (r:Rw):Bool:=decide (r.table=t)
def inR (t c lo hi:Int) (r:Rw):Bool:=decide (r.table=t)&&(decide (lo<=r.val c)&&decide (r.val c<=hi))
theorem aFy (r:Rw) (h:inT t r=true):r.table=t:=by simpa[inT]using h
theorem aHk {lo hi:Int} (r:Rw) (h:inR t c lo hi r=true):r.table=t:=by simp[inR]at h;exact h.1
def tabS (l:List Rw) (t c:Int):List Rw:=aQ4 l (inT t) c
def aC2 (l:List Rw) (t c lo hi:Int):List Rw:=aQ4 l (inR t c lo hi) c
theorem aI1 {k:Int} {v:Int×Int×Int} (h:rowB t k v=true):0<=t/\t<=3/\1<=k/\k<=1000000/\(-1000000000<=v.1/\v.1<=1000000000)/\(-1000000000<=v.2.1/\v.2.1<=1000000000)/\(-1000000000<=v.2.2/\v.2.2<=1000000000):=by
 unfold rowB aWg at h;simp only[aA,decide_eq_true_eq]at h;omega
theorem aF0 {r:Rw} (h:rowB r.table r.key r.v=true) (c:Int): -1000000000<=r.val c/\r.val c<=1000000000:=by
 have:=aI1 h;unfold Rw.val;repeat' split
 all_goals omega
theorem aTv {s:StT} (g:GoodS s) (t c:Int):aC2 s.rows t c (-1000000000) 1000000000=tabS s.rows t c:=by
 unfold aC2 tabS aQ4;rw[List.filter_congr (q:=inT t)];intro r a;have:=aF0 (g.rows r a) c;unfold inR inT;simp[this.1,this.2]
theorem aNr (h:SortS l) (t c lo hi:Int):(tabS l t c).filter (fun r=>decide (lo<=r.val c)&&decide (r.val c<=hi))=aC2 l t c lo hi:=
 aSg h aFy c _
def aDi (O:List Rw) (c lo:Int):Nat:=O.findIdx (fun r=>decide (lo<=r.val c))-1
def toO (O:List Rw) (c hi:Int):Nat:=min (O.findIdx (fun r=>decide (hi<r.val c))+1) O.length
def cutO (O:List Rw) (c lo hi:Int):List Rw:=(O.take (toO O c hi)).drop (aDi O c lo)
structure CompleteO (n first:Nat) (l:List Rw) (t c lo hi:Int):Prop where
 small:n<=2000
 fits:first+l.length<=n
 none_:l.length=0->n=0
 rows:∀(k:Nat) x,l[k]? =some x->rowB x.table x.key x.v=true/\x.table=t/\(0<k->lo<=x.val c)/\(k+1<l.length->x.val c<=hi)
 asc:∀(k:Nat) x y,l[k]? =some x->l[k+1]? =some y->ltO c x y=true
 left:∀x,l[0]? =some x->first=0\/x.val c<lo
 right:∀x,l[l.length-1]? =some x->first+l.length=n\/hi<x.val c
theorem aDe {f:Rw->Bool} {k:Nat} {x:Rw} (h:k<O.findIdx f) (hx:O[k]? =some x):f x=false:=by
 have:=List.not_of_lt_findIdx h;rw[<-(aB.1 hx).2]
 simpa using this
theorem aF6 {f:Rw->Bool} {x:Rw} (hx:O[O.findIdx f]? =some x):f x=true:=by
 have a:=(aB.1 hx).1;have:=List.findIdx_getElem (w:=a);rw[<-(aB.1 hx).2];exact this
theorem aLa (hO:O.Pairwise fun a b=>ltO c a b=true) {i j:Nat} {x y:Rw} (hij:i<=j) (hx:O[i]? =some x) (hy:O[j]? =some y):x.val c<=y.val c:=by
 by_cases e:i=j
 . subst e;rw[hx]at hy;obtain rfl:=aJ.inj hy;exact Int.le_refl _
 . obtain⟨f,rfl⟩:=aB.1 hx;obtain⟨d,rfl⟩:=aB.1 hy;have:=aFb.1 (List.pairwise_iff_getElem.1 hO i j f d (by omega));omega
theorem aHr (O:List Rw) (c lo hi:Int) {k:Nat} {x:Rw} (h:(cutO O c lo hi)[k]? =some x):O[aDi O c lo+k]? =some x/\aDi O c lo+k<toO O c hi:=by
 unfold cutO at h;rw[List.getElem?_drop,List.getElem?_take]at h;split at h
 . exact⟨h,by assumption⟩
 . cases h
theorem aY4 (O:List Rw) (c lo hi:Int):(cutO O c lo hi).length=toO O c hi-aDi O c lo:=by
 unfold cutO;have:toO O c hi<=O.length:=Nat.min_le_right _ _;rw[List.length_drop,aQ,aO this]
theorem aOu {lo hi:Int} (hlh:lo<=hi):O.findIdx (fun r=>decide (lo<=r.val c))<=O.findIdx (fun r=>decide (hi<r.val c)):=by
 apply Decidable.byContradiction;intro h;have e:=aX (xs:=O) (p:=fun r=>decide (lo<=r.val c));obtain⟨x,a⟩:∃x,O[O.findIdx (fun r=>decide (hi<r.val c))]? =some x:=⟨_,aU (by omega)⟩;have d:=aF6 a;have b:=aDe (f:=fun r=>decide (lo<=r.val c)) (by omega) a;simp only[decide_eq_true_eq,decide_eq_false_iff_not]at d b;omega
theorem aOv {s:StT} (g:GoodS s) (t c lo hi:Int) (hlh:lo<=hi) :
 CompleteO (tabS s.rows t c).length (aDi (tabS s.rows t c) c lo) (cutO (tabS s.rows t c) c lo hi) t c lo hi:=by
 have d:=aF3 g.sort (p:=inT t) (t:=t) aFy c
 have m:∀x∈tabS s.rows t c,x∈s.rows/\x.table=t:=fun x a=>by
  have:=aK.1 ((aB9 _ _ _).mem_iff.1 a);exact⟨this.1,aFy x this.2⟩
 have n:(tabS s.rows t c).length<=2000:=by
  have:=(aB9 s.rows (inT t) c).length_eq;have b:=List.length_filter_le (inT t) s.rows;have K:=g.small;unfold tabS;omega
 change (tabS s.rows t c).Pairwise _ at d
 generalize tabS s.rows t c=O at *;have G:=aOu (O:=O) (c:=c) hlh;have A:=aX (xs:=O) (p:=fun r=>decide (lo<=r.val c));have z:=aX (xs:=O) (p:=fun r=>decide (hi<r.val c));have J:=aY4 O c lo hi;obtain⟨F,u⟩:=ex_ (O.findIdx (fun r=>decide (lo<=r.val c)));obtain⟨T,q⟩:=ex_ (O.findIdx (fun r=>decide (hi<r.val c)));have N:aDi O c lo=F-1:=by unfold aDi;rw[u]
 have M:toO O c hi=min (T+1) O.length:=by unfold toO;rw[q]
 rw[<-u,<-q]at G;rw[<-u]at A;rw[<-q]at z;refine⟨n,by omega,fun h=>by omega,fun k x a=>?_,fun k x y a l=>?_,fun x a=>?_,fun x a=>?_⟩
 . obtain⟨a,o⟩:=aHr O c lo hi a;obtain⟨E,D⟩:=m x (List.mem_of_getElem? a);refine⟨g.rows x E,D,fun v=>?_,fun L=>?_⟩
   . by_cases H:F<O.length
     . obtain⟨y,l⟩:∃y,O[F]? =some y:=⟨_,aU H⟩;have b:=aF6 (f:=fun r=>decide (lo<=r.val c)) (u▸l);have K:=aLa d (i:=F) (j:=aDi O c lo+k) (by omega) l a;simp only[decide_eq_true_eq]at b;omega
     . omega
   . have b:=aDe (f:=fun r=>decide (hi<r.val c)) (k:=aDi O c lo+k) (by omega) a;simp only[decide_eq_false_iff_not]at b;omega
 . obtain⟨a,o⟩:=aHr O c lo hi a;obtain⟨l,o⟩:=aHr O c lo hi l;obtain⟨C,rfl⟩:=aB.1 a;obtain⟨B,rfl⟩:=aB.1 l;exact List.pairwise_iff_getElem.1 d _ _ C B (by omega)
 . obtain⟨a,o⟩:=aHr O c lo hi a;rw[Nat.add_zero]at a;by_cases v:aDi O c lo=0
   . exact .inl v
   . have b:=aDe (f:=fun r=>decide (lo<=r.val c)) (k:=aDi O c lo) (by omega) a;simp only[decide_eq_false_iff_not]at b;exact .inr (by omega)
 . obtain⟨a,o⟩:=aHr O c lo hi a;by_cases v:aDi O c lo+(cutO O c lo hi).length=O.length
   . exact .inl v
   . have e:aDi O c lo+((cutO O c lo hi).length-1)=T:=by omega
     rw[e]at a;have b:=aF6 (f:=fun r=>decide (hi<r.val c)) (q▸a);simp only[decide_eq_true_eq]at b;exact .inr b
theorem aY2 (h:SortS l) (t c lo hi:Int) (hlh:lo<=hi):(cutO (tabS l t c) c lo hi).filter (fun r=>decide (lo<=r.val c)&&decide (r.val c<=hi))=aC2 l t c lo hi:=by
 rw[<-aNr h];have b:=aF3 h (p:=inT t) (t:=t) aFy c
 change (tabS l t c).Pairwise _ at b
 generalize tabS l t c=O at *
 conv=>rhs;rw[<-aL (toO O c hi) O,<-aL (aDi O c lo) (O.take (toO O c hi))]
 rw[aV,aV]
 have m:((O.take (toO O c hi)).take (aDi O c lo)).filter (fun r=>decide (lo<=r.val c)&&decide (r.val c<=hi))=[]:=by
  rw[aY];intro x e;obtain⟨k,a⟩:=List.getElem?_of_mem e;rw[List.getElem?_take]at a;split at a
  . rename_i d
    rw[List.getElem?_take]at a;split at a
    . have g:=aDe (f:=fun r=>decide (lo<=r.val c)) (k:=k) (by unfold aDi at d;omega) a;simp[g]
    . cases a
  . cases a
 have j:(O.drop (toO O c hi)).filter (fun r=>decide (lo<=r.val c)&&decide (r.val c<=hi))=[]:=by
  rw[aY];intro x e;obtain⟨k,a⟩:=List.getElem?_of_mem e;rw[List.getElem?_drop]at a;have d:=(aB.1 a).1;have n:O.findIdx (fun r=>decide (hi<r.val c))<=toO O c hi+k:=by unfold toO at *;omega
  obtain⟨y,i⟩:∃y,O[O.findIdx (fun r=>decide (hi<r.val c))]? =some y:=⟨_,aU (by omega)⟩;have g:=aF6 i;have o:=aLa b n i a;simp only[decide_eq_true_eq]at g;simp;intro _;omega
 rw[m,j,List.append_nil,List.nil_append];rfl
variable {c:Chg} {a x:Rw} {l:List Rw} {better:Int->Int->Bool}
structure Qy where
 kind:Int
 table:Int
 column:Int
 low:Int
 high:Int
 by_:Int
 other:Int
deriving DecidableEq
structure Res where
 rows:List Rw
 value:Int
 found:Bool
deriving DecidableEq
def res0:Res:=⟨[],0,false⟩
def ltB (a b:Int):Bool:=decide (a<b)
def gtB (a b:Int):Bool:=decide (b<a)
def aGj (better:Int->Int->Bool) (r:Res) (n:Int):Res:=⟨r.rows,if(!r.found) || better n r.value then n else r.value,true⟩
def aA7 (q:Qy) (rows:List Rw):List Int:=rows.map fun x=>x.val q.by_
def aCh (g:Int->Option Rw) (m:Int) (rows:List Rw):List (Rw×Rw):=rows.filterMap fun x=>(g (x.val m)).map fun y=>(x,y)
def aCa:List (Rw×Rw)->List Rw
 | []=>[]
 | p :: l=>p.1 :: p.2 :: aCa l
def aEc:List Rw->List (Rw×Rw)
 | a :: b :: l=>(a,b) :: aEc l
 | _=>[]
def aCe (q:Qy) (rows:List Rw) (g:Int->Option Rw):Res:=
 if q.kind=3 then⟨[],rows.length,false⟩
 else if q.kind=4 then⟨[],(aA7 q rows).sum,false⟩
 else if q.kind=5 then(aA7 q rows).foldl (aGj ltB) res0
 else if q.kind=6 then(aA7 q rows).foldl (aGj gtB) res0
 else if q.kind=7 then⟨aCa (aCh g q.by_ rows),0,false⟩
 else⟨rows,0,false⟩
def aAy (q:Qy) (l:List Rw):List Rw:=aC2 l q.table q.column q.low q.high
def evalQ (q:Qy) (l:List Rw):Res:=aCe q (aAy q l) (getS l q.other)
def aD0 (c:Chg):Rw:=⟨c.table,c.key,c.old⟩
def aQa (q:Qy) (x:Rw):Bool:=inR q.table q.column q.low q.high x
def befQ (q:Qy) (c:Chg):Option Rw:=if c.had&&aQa q (aD0 c)then some (aD0 c)else none
def aftQ (q:Qy) (c:Chg):Option Rw:=if c.has&&aQa q (aB1 c)then some (aB1 c)else none
def aGa (q:Qy) (o:Option Rw):Int:=match o with|some x=>x.val q.by_|none=>0
def aC7 (q:Qy) (c:Chg):Int:=aGa q (befQ q c)
def aCq (q:Qy) (c:Chg):Int:=aGa q (aftQ q c)
def aO8 (q:Qy) (c:Chg):Bool:=(befQ q c).isSome ||(aftQ q c).isSome
def aO7 (q:Qy) (c:Chg):Bool:=(befQ q c).isNone !=(aftQ q c).isNone
def touchQ (q:Qy) (c:Chg):Bool:=
 if q.kind=3 then aO7 q c
 else if q.kind=4 then decide (aC7 q c≠aCq q c)
 else if q.kind=5 then aO7 q c || decide (aC7 q c≠aCq q c)
 else if q.kind=6 then aO7 q c || decide (aC7 q c≠aCq q c)
 else if q.kind=7 then aO8 q c || decide (c.table=q.other)
 else aO8 q c
def aDn (c:Chg) (x:Rw):Bool:=decide (x.table=c.table)&&decide (x.key=c.key)
def aDv {α:Type} (p:α->Bool) (x:α) (l:List α):List α:=l.take (l.findIdx p)++x :: l.drop (l.findIdx p)
def aH7 (q:Qy) (c:Chg) (r:Res):Res×Bool:=
 (⟨match aftQ q c with
   | some a=>aDv (ltO q.column a) a (r.rows.filter fun x=>!aDn c x)
   | none=>r.rows.filter fun x=>!aDn c x,r.value,r.found⟩,true)
def aHd (q:Qy) (c:Chg) (r:Res):Res×Bool:=(⟨r.rows,if(aftQ q c).isSome then r.value+1 else r.value-1,r.found⟩,true)
def aNx (q:Qy) (c:Chg) (r:Res):Res×Bool:=(⟨r.rows,r.value+(aCq q c-aC7 q c),r.found⟩,true)
def aEh (better:Int->Int->Bool) (q:Qy) (c:Chg) (r:Res):Res×Bool:=
 if(befQ q c).isSome&&((!r.found) || !better r.value (aC7 q c))then
   (⟨r.rows,aCq q c,r.found⟩,(aftQ q c).isSome&&r.found&&!better r.value (aCq q c))
 else if(aftQ q c).isSome then(⟨r.rows,if(!r.found) || better (aCq q c) r.value then aCq q c else r.value,true⟩,true)
 else(r,true)
def aBf (c:Chg) (p:Rw×Rw):Rw×Rw:=if p.2.key=c.key then(p.1,aB1 c)else p
def aGt (c:Chg) (p:Rw×Rw):Bool:=!decide (p.2.key=c.key)
def aEr (c:Chg) (p:Rw×Rw):Bool:=!decide (p.1.key=c.key)
def aHi (q:Qy) (c:Chg) (l:List (Rw×Rw)):List (Rw×Rw)×Bool:=
 if c.table=q.other then
   if c.has then(l.map (aBf c),c.had)else(l.filter (aGt c),c.had)
 else match aftQ q c with
   | none=>(l.filter (aEr c),true)
   | some a=>match l.find? (fun p=>decide (p.2.key=aCq q c))with
     | none=>(l.filter (aEr c),(befQ q c).isSome&&decide (aC7 q c=aCq q c))
     | some p=>(aDv (fun z=>ltO q.column a z.1) (a,p.2) (l.filter (aEr c)),true)
def aJv (q:Qy) (c:Chg) (r:Res):Res×Bool:=
 if q.table=q.other then(r,false)else(⟨aCa (aHi q c (aEc r.rows)).1,r.value,r.found⟩,(aHi q c (aEc r.rows)).2)
def patK (q:Qy) (c:Chg) (r:Res):Res×Bool:=
 if q.kind=3 then aHd q c r
 else if q.kind=4 then aNx q c r
 else if q.kind=5 then aEh ltB q c r
 else if q.kind=6 then aEh gtB q c r
 else if q.kind=7 then aJv q c r
 else aH7 q c r
def aHc (q:Qy) (r:Res) (c:Chg):Option Res:=if touchQ q c then(if(patK q c r).2 then some (patK q c r).1 else none)else some r
theorem aJd:∀l:List (Rw×Rw),aEc (aCa l)=l
 | []=>rfl
 | p :: l=>by unfold aCa aEc;rw[aJd l]
theorem aUi {c:Int}:ltO c a a=false:=by rw[aLm];omega
theorem aJ7 {c:Int} {b d:Rw} (h:ltO c a b=true) (k:ltO c b d=true):ltO c a d=true:=by rw[aFb]at *;omega
theorem aXu {c:Int} {b:Rw} (h:ltO c a b=true):ltO c b a=false:=by rw[aLm];rw[aFb]at h;omega
def aDr (c:Int) (l:List Rw):Prop:=l.Pairwise fun a b=>ltO c a b=true
theorem aEo {c:Int}:∀{a b:List Rw},aDr c a->aDr c b->(∀x,x∈a↔x∈b)->a=b
 | [],[],_,_,_=>rfl
 | [],y :: b,_,_,h=>absurd ((h y).2 (aC)) (by simp)
 | x :: a,[],_,_,h=>absurd ((h x).1 (aC)) (by simp)
 | x :: a,y :: b,ha,hb,h=>by
   obtain⟨a1,a2⟩:=aD.1 ha;obtain⟨b1,b2⟩:=aD.1 hb
   have e:x=y:=by
    rcases aH.1 ((h x).1 (aC))with e|e
    . exact e
    . rcases aH.1 ((h y).2 (aC))with e'|e'
      . exact e'.symm
      . have f:=aXu (b1 x e);rw[a1 y e']at f;cases f
   subst e;rw[aEo (c:=c) a2 b2 fun z=>?_]
   constructor
   . intro d;rcases aH.1 ((h z).1 (aF _ d))with e|e
     . subst e;have:=a1 z d;rw[aUi]at this;cases this
     . exact e
   . intro d;rcases aH.1 ((h z).2 (aF _ d))with e|e
     . subst e;have:=b1 z d;rw[aUi]at this;cases this
     . exact e
theorem aEp {α:Type} {p:α->Bool}:∀{l:List α},l.Pairwise (fun a b=>p a=true->p b=true)->l.take (l.findIdx p)=l.filter (fun x=>!p x)/\l.drop (l.findIdx p)=l.filter p
 | [],_=>⟨rfl,rfl⟩
 | a :: l,h=>by
   obtain⟨h1,h2⟩:=aD.1 h;rw[List.findIdx_cons];cases e:p a
   . obtain⟨i1,i2⟩:=aEp h2;refine⟨?_,?_⟩
     . simp only[Bool.not_false,cond_false,a4,aS,e,i1];rfl
     . simp only[cond_false,List.drop_succ_cons,aS,e,i2];rfl
   . refine⟨?_,?_⟩
     . simp only[cond_true,List.take_zero,aS,e];have:l.filter (fun x=>!p x)=[]:=aY.2 fun b hb k=>by simp[h1 b hb e]at k
       simp[this]
     . simp only[cond_true,List.drop_zero,aS,e];have:l.filter p=l:=List.filter_eq_self.2 fun b hb=>h1 b hb e;simp[this]
theorem aMw {α:Type} {p:α->Bool} {x:α} {l:List α} (h:l.Pairwise (fun a b=>p a=true->p b=true)):aDv p x l=l.filter (fun x=>!p x)++x :: l.filter p:=by
 unfold aDv;rw[(aEp h).1,(aEp h).2]
theorem aLo {α:Type} (p:α->Bool) (x:α) (l:List α):(aDv p x l).Perm (x :: l):=by
 unfold aDv;refine List.perm_middle.trans ?_;rw[aL]
theorem aDr.mono {c:Int} (h:aDr c l) (a:Rw):l.Pairwise (fun x y=>ltO c a x=true->ltO c a y=true):=
 aI.imp (fun h k=>aJ7 k h) h
theorem aDr.insert {c:Int} (h:aDr c l) {a:Rw} (ha:∀x∈l,x.key≠a.key):aDr c (aDv (ltO c a) a l):=by
 rw[aMw (h.mono a)];refine List.pairwise_append.2 ⟨aI.filter _ h,aD.2 ⟨fun b g=>(aK.1 g).2,aI.filter _ h⟩,fun x f y e=>?_⟩
 have d:ltO c x a=true:=by
  obtain⟨d,i⟩:=aK.1 f;have:=ha x d;rw[aG,aLm]at i;rw[aFb];omega
 rcases aH.1 e with rfl|e
 . exact d
 . exact aJ7 d (aK.1 e).2
theorem aE1 (h:SortS l) (q:Qy):aDr q.column (aAy q l):=aF3 h aHk _
theorem aE7 {q:Qy}:x∈aAy q l↔x∈l/\aQa q x=true:=by
 unfold aAy aC2;rw[(aB9 _ _ _).mem_iff,aK];rfl
theorem aEt {q:Qy} (h:aQa q x=true):x.table=q.table:=aHk x h
theorem aJm:aDn c x=true↔x.table=c.table/\x.key=c.key:=by simp[aDn]
def aGp (q:Qy) (l:List Rw) (c:Chg):List Rw:=(aAy q l).filter fun x=>!aDn c x
theorem aE3 (h:SortS l) (q:Qy) (c:Chg):aDr q.column (aGp q l c):=aI.filter _ (aE1 h q)
theorem aMm {q:Qy}:x∈aGp q l c↔(x∈l/\aQa q x=true)/\¬(x.table=c.table/\x.key=c.key):=by
 unfold aGp;rw[aK,aE7,aG,<-Bool.not_eq_true,aJm]
theorem aJc {q:Qy} (h:aftQ q c=some a):c.has=true/\a=aB1 c/\aQa q a=true:=by
 unfold aftQ at h;split at h
 . rename_i e
   rw[aA]at e;obtain rfl:=aJ.inj h;exact⟨e.1,rfl,e.2⟩
 . cases h
theorem aZm {q:Qy} (h:aftQ q c=none):¬(c.has=true/\aQa q (aB1 c)=true):=by
 unfold aftQ at h;split at h
 . cases h
 . rename_i e
   rw[aA]at e;exact e
theorem aM4 {q:Qy} (h:befQ q c=some a):c.had=true/\a=aD0 c/\aQa q a=true:=by
 unfold befQ at h;split at h
 . rename_i e
   rw[aA]at e;obtain rfl:=aJ.inj h;exact⟨e.1,rfl,e.2⟩
 . cases h
theorem aWy {q:Qy} (ha:aftQ q c=some a):∀x∈aGp q l c,x.key≠a.key:=by
 intro x b e;obtain⟨_,rfl,f⟩:=aJc ha;obtain⟨⟨h,g⟩,d⟩:=aMm.1 b;exact d ⟨(aEt g).trans (aEt f).symm,e⟩
theorem aIz (h:SortS l) (q:Qy) (c:Chg):aAy q (aBs l c)=match aftQ q c with
 | some a=>aDv (ltO q.column a) a (aGp q l c)
 | none=>aGp q l c:=by
  have g:=aE1 (h.app c) q;cases f:aftQ q c with
  | none=>
    refine aEo g (aE3 h q c) fun x=>?_;rw[aE7,aMm,aE8]
    constructor
    . rintro⟨⟨b,rfl⟩|⟨b,e⟩,d⟩
      . exact absurd ⟨b,d⟩ (aZm f)
      . exact⟨⟨b,d⟩,e⟩
    . rintro⟨⟨b,d⟩,e⟩;exact⟨.inr ⟨b,e⟩,d⟩
  | some a=>
    refine aEo g ((aE3 h q c).insert (aWy f)) fun x=>?_;rw[(aLo _ _ _).mem_iff,aH,aE7,aMm,aE8];obtain⟨j,rfl,i⟩:=aJc f
    constructor
    . rintro⟨⟨b,rfl⟩|⟨b,e⟩,d⟩
      . exact .inl rfl
      . exact .inr ⟨⟨b,d⟩,e⟩
    . rintro(rfl|⟨⟨b,d⟩,e⟩)
      . exact⟨.inl ⟨j,rfl⟩,i⟩
      . exact⟨.inr ⟨b,e⟩,d⟩
theorem aE2 (h:SortS l) (q:Qy) (c:Chg):(aAy q (aBs l c)).Perm ((aftQ q c).toList++aGp q l c):=by
 rw[aIz h];cases b:aftQ q c with
 | none=>exact List.Perm.refl _
 | some a=>exact aLo _ _ _
theorem aQc (h:SortS l) {c:Chg} (hc:aEl l c=true) {x:Rw}:(x∈l/\x.table=c.table/\x.key=c.key)↔(c.had=true/\x=aD0 c):=by
 unfold aEl at hc
 constructor
 . rintro⟨d,b,a⟩;have e:=h.get d;rw[b,a]at e;rw[e]at hc;simp only[aA,decide_eq_true_eq]at hc;refine⟨hc.1,?_⟩;obtain⟨t,k,v⟩:=x;unfold aD0;dsimp only at b a hc;rw[b,a,hc.2]
 . rintro⟨d,rfl⟩;cases e:getS l c.table c.key with
   | none=>rw[e]at hc;simp[d]at hc
   | some y=>
     rw[e]at hc;simp only[aA,decide_eq_true_eq]at hc;obtain⟨b,a,f⟩:=aBo e
     have:y=aD0 c:=by
      obtain⟨t,k,v⟩:=y;unfold aD0;dsimp only at a f hc;rw[a,f,hc.2]
     rw[this]at b;exact⟨b,rfl,rfl⟩
theorem aFq (h:SortS l) (q:Qy) {c:Chg} (hc:aEl l c=true):(aAy q l).Perm ((befQ q c).toList++aGp q l c):=by
 have e:(aAy q l).filter (aDn c)=(befQ q c).toList:=by
  refine aEo (c:=q.column) (aI.filter _ (aE1 h q)) (by cases befQ q c <;> simp[aDr]) fun x=>?_;rw[aK,aE7,aJm,Option.mem_toList]
  constructor
  . rintro⟨⟨k,j⟩,i⟩;obtain⟨a,rfl⟩:=(aQc h hc).1 ⟨k,i⟩;unfold befQ;rw[a,j];rfl
  . intro e;obtain⟨a,g,f⟩:=aM4 e;obtain⟨d,b⟩:=(aQc h hc).2 ⟨a,g⟩;exact⟨⟨d,f⟩,b⟩
 have:=(List.filter_append_perm (aDn c) (aAy q l)).symm;rw[e]at this;exact this
theorem aWz (h:SortS l) (q:Qy) {c:Chg} (hc:aEl l c=true) (hb:befQ q c=none):aGp q l c=aAy q l:=by
 refine aEo (aE3 h q c) (aE1 h q) fun x=>?_;have:=(aFq h q hc).mem_iff (a:=x);rw[hb]at this
 simpa using this.symm
theorem aIy {a b:List Int} (h:a.Perm b):a.sum=b.sum:=by
 induction h with
 | nil=>rfl
 | cons x _ ih=>rw[List.sum_cons,List.sum_cons,ih]
 | swap x y l=>simp only[List.sum_cons];omega
 | trans _ _ h1 h2=>exact h1.trans h2
theorem aMq (h:SortS l) (q:Qy) (c:Chg):(aA7 q (aAy q (aBs l c))).Perm (aA7 q (aftQ q c).toList++aA7 q (aGp q l c)):=by
 have:=(aE2 h q c).map fun x=>x.val q.by_
 rwa [aZ]at this
theorem aMp (h:SortS l) (q:Qy) {c:Chg} (hc:aEl l c=true):(aA7 q (aAy q l)).Perm (aA7 q (befQ q c).toList++aA7 q (aGp q l c)):=by
 have:=(aFq h q hc).map fun x=>x.val q.by_
 rwa [aZ]at this
theorem aL9 (q:Qy) (o:Option Rw):(aA7 q o.toList).sum=aGa q o:=by
 cases o with
 | none=>rfl
 | some x=>simp[aA7,aGa]
structure ExtIs (better:Int->Int->Bool) (ms:List Int) (r:Res):Prop where
 rows:r.rows=[]
 none_:ms=[]->r=res0
 found:ms≠[]->r.found=true
 mem:ms≠[]->r.value∈ms
 best:∀n∈ms,better n r.value=false
def aO9 (better:Int->Int->Bool):Prop:=better=ltB\/better=gtB
theorem aO9.irr (h:aO9 better) (a:Int):better a a=false:=by rcases h with rfl|rfl <;> simp[ltB,gtB]
theorem aO9.eq (h:aO9 better) {a b:Int} (h1:better a b=false) (h2:better b a=false):a=b:=by
 rcases h with rfl|rfl <;> simp[ltB,gtB]at h1 h2 <;> omega
theorem aO9.trans (h:aO9 better) {a b c:Int} (h1:better a b=false) (h2:better b c=false):better a c=false:=by
 rcases h with rfl|rfl <;> simp[ltB,gtB]at* <;> omega
theorem aO9.asym (h:aO9 better) {a b:Int} (h1:better a b=true):better b a=false:=by
 rcases h with rfl|rfl <;> simp[ltB,gtB]at* <;> omega
theorem aRn {better:Int->Int->Bool} (hb:aO9 better):∀(ms:List Int) (r:Res),r.rows=[]->r.found=true->((ms.foldl (aGj better) r).rows=[]/\(ms.foldl (aGj better) r).found=true/\(ms.foldl (aGj better) r).value∈r.value :: ms/\∀n∈r.value :: ms,better n (ms.foldl (aGj better) r).value=false)
 | [],r,h1,h2=>⟨h1,h2,aC,fun n hn=>by simp at hn;subst hn;exact hb.irr _⟩
 | m :: ms,r,h1,h2=>by
   obtain⟨i1,i2,i3,i4⟩:=aRn hb ms (aGj better r m) h1 rfl;refine⟨i1,i2,?_,?_⟩
   . rw[a0];rcases aH.1 i3 with e|e
     . rw[e];unfold aGj;dsimp only;split <;> simp
     . exact aF _ (aF _ e)
   . rw[a0];have hv:=i4 (aGj better r m).value aC
     have hx:better r.value (aGj better r m).value=false/\better m (aGj better r m).value=false:=by
      unfold aGj;simp only[h2,Bool.not_true,Bool.false_or];cases e:better m r.value
      . simp[hb.irr,e]
      . simp[hb.irr,hb.asym e]
     intro n hn;rcases aH.1 hn with rfl|hn
     . exact hb.trans hx.1 hv
     . rcases aH.1 hn with rfl|hn
       . exact hb.trans hx.2 hv
       . exact i4 n (aF _ hn)
theorem aKc (hb:aO9 better) (ms:List Int):ExtIs better ms (ms.foldl (aGj better) res0):=by
 cases ms with
 | nil=>exact⟨rfl,fun _=>rfl,fun h=>absurd rfl h,fun h=>absurd rfl h,fun n f=>by simp at f⟩
 | cons m ms=>
   obtain⟨d,c,b,a⟩:=aRn hb ms (aGj better res0 m) rfl rfl;have e:(aGj better res0 m).value=m:=rfl;rw[e]at b a;exact⟨d,fun h=>by simp at h,fun _=>c,fun _=>b,a⟩
theorem ExtIs.one (hb:aO9 better) {a b:List Int} {r s:Res} (h:ExtIs better a r) (k:ExtIs better b s) (hm:∀n,n∈a↔n∈b):r=s:=by
 have d:a=[]↔b=[]:=by
  constructor
  . intro e;apply List.eq_nil_iff_forall_not_mem.2;intro n c;have:=(hm n).2 c;rw[e]at this;cases this
  . intro e;apply List.eq_nil_iff_forall_not_mem.2;intro n c;have:=(hm n).1 c;rw[e]at this;cases this
 by_cases e:a=[]
 . rw[h.none_ e,k.none_ (d.1 e)]
 . have f:¬b=[]:=fun x=>e (d.2 x);obtain⟨v,u,t⟩:=r;obtain⟨q,p,o⟩:=s;have m:=h.rows;have i:=k.rows;have l:=h.found e;have g:=k.found f;have j:=hb.eq (k.best _ ((hm _).1 (h.mem e))) (h.best _ ((hm _).2 (k.mem f)));dsimp only at *;rw[m,i,l,g,j]
theorem aYz (hb:aO9 better) {ms:List Int} {r:Res} (h:ExtIs better ms r):ms.foldl (aGj better) res0=r:=(aKc hb ms).one hb h fun _=>Iff.rfl
theorem aYy (hb:aO9 better) {a b:List Int} (h:a.Perm b):a.foldl (aGj better) res0=b.foldl (aGj better) res0:=(aKc hb a).one hb (aKc hb b) fun _=>h.mem_iff
theorem aOb {q:Qy} {o:Option Rw} (h:o.isSome=false):aA7 q o.toList=[]:=by cases o <;> simp_all [aA7]
theorem aHf {q:Qy} {o:Option Rw} (h:o.isSome=true):aA7 q o.toList=[aGa q o]:=by cases o <;> simp_all [aA7,aGa]
theorem aOq (hb:aO9 better) {q:Qy} {l:List Rw} (h:SortS l) {c:Chg} (hc:aEl l c=true) {r:Res}
 (hp:aEh better q c ((aA7 q (aAy q l)).foldl (aGj better) res0)=(r,true)):r=(aA7 q (aAy q (aBs l c))).foldl (aGj better) res0:=by
  have D:=aMq h q c;have C:=aMp h q hc;obtain⟨R,u⟩:=ex_ ((aA7 q (aAy q l)).foldl (aGj better) res0);have f:=aKc hb (aA7 q (aAy q l));rw[<-u]at hp f;refine(aYz hb ?_).symm;generalize aA7 q (aAy q l)=M at *;generalize aA7 q (aAy q (aBs l c))=M' at *;generalize aA7 q (aGp q l c)=N at *;clear u;have F:aC7 q c=aGa q (befQ q c):=rfl;have G:aCq q c=aGa q (aftQ q c):=rfl;unfold aEh at hp;rw[F,G]at hp;generalize befQ q c=B at *;generalize aftQ q c=A at *;have b:∀n,n∈M'↔n∈aA7 q A.toList++N:=fun n=>D.mem_iff;have i:∀n,n∈M↔n∈aA7 q B.toList++N:=fun n=>C.mem_iff;split at hp
  . rename_i m
    rw[aA]at m;simp only[Prod.mk.injEq,aA,aG]at hp;obtain⟨rfl,⟨z,y⟩,x⟩:=hp;rw[aHf z]at b;rw[aHf m.1]at i
    have j:M'≠[]:=fun e=>by
     have:=(b (aGa q A)).2 (by simp);rw[e]at this;cases this
    refine⟨f.rows,fun e=>absurd e j,fun _=>y,fun _=>(b _).2 (by simp),fun n g=>?_⟩;dsimp only;rcases aE.1 ((b n).1 g)with e|e
    . simp at e;subst e;exact hb.irr _
    . exact hb.trans (f.best n ((i n).2 (aE.2 (.inr e)))) x
  . rename_i m
    rw[aA,aN,aG,aG]at m
    have o:B.isSome=true->R.found=true/\better R.value (aGa q B)=true:=fun e=>by
     refine⟨?_,?_⟩
     . cases a:R.found
       . exact absurd ⟨e,.inl a⟩ m
       . rfl
     . cases a:better R.value (aGa q B)
       . exact absurd ⟨e,.inr a⟩ m
       . rfl
    have k:M≠[]->R.value∈N:=fun e=>by
     rcases aE.1 ((i _).1 (f.mem e))with a|a
     . cases p:B.isSome
       . rw[aOb p]at a;cases a
       . rw[aHf p]at a;simp at a;have:=(o p).2;rw[<-a,hb.irr]at this;cases this
     . exact a
    have t:R.found=true↔M≠[]:=by
     constructor
     . intro e a;rw[f.none_ a]at e;cases e
     . exact f.found
    split at hp
    . rename_i s
      simp only[Prod.mk.injEq,and_true]at hp;obtain rfl:=hp;rw[aHf s]at b
      have j:M'≠[]:=fun e=>by
       have:=(b (aGa q A)).2 (by simp);rw[e]at this;cases this
      refine⟨f.rows,fun e=>absurd e j,fun _=>rfl,fun _=>?_,fun n g=>?_⟩
      . dsimp only;rw[b];split
        . simp
        . rename_i d
          rw[aN,aG]at d;have:M≠[]:=t.1 (by cases e:R.found;exact absurd (.inl e) d;rfl);exact aE.2 (.inr (k this))
      . dsimp only;have v:∀n∈N,better n R.value=false:=fun n g=>f.best n ((i n).2 (aE.2 (.inr g)));split
        . rename_i d
          rw[aN,aG]at d;rcases aE.1 ((b n).1 g)with e|e
          . simp at e;subst e;exact hb.irr _
          . rcases d with d|d
            . have:M≠[]:=fun a=>by
               have:=(i n).2 (aE.2 (.inr e));rw[a]at this;cases this
              rw[t.2 this]at d;cases d
            . exact hb.trans (v n e) (hb.asym d)
        . rename_i d
          rw[aN]at d;rcases aE.1 ((b n).1 g)with e|e
          . simp at e;subst e;cases e:better (aGa q A) R.value
            . rfl
            . exact absurd (.inr e) d
          . exact v n e
    . rename_i s
      simp only[Prod.mk.injEq,and_true]at hp;obtain rfl:=hp;rw[aOb (by simpa using s)]at b;refine⟨f.rows,fun e=>?_,fun e=>?_,fun e=>(b _).2 ?_,fun n g=>f.best n ((i n).2 (aE.2 (.inr ?_)))⟩
      . refine f.none_ ?_;apply Decidable.byContradiction;intro a;have:=(b _).2 (aE.2 (.inr (k a)));rw[e]at this;cases this
      . obtain⟨n,g⟩:=List.exists_mem_of_ne_nil _ e;have:=(b n).1 g;refine f.found fun a=>?_;have:=(i n).2 (aE.2 (.inr (by simpa using this)));rw[a]at this;cases this
      . obtain⟨n,g⟩:=List.exists_mem_of_ne_nil _ e;have E:=(b n).1 g;refine aE.2 (.inr (k fun a=>?_));have:=(i n).2 (aE.2 (.inr (by simpa using E)));rw[a]at this;cases this
      . simpa using(b n).1 g
end
section
open Go
instance:Coe Qy (List a5):=⟨fun q=>[.int .i64 q.kind,.int .i64 q.table,.int .i64 q.column,.int .i64 q.low,.int .i64 q.high,.int .i64 q.by_,.int .i64 q.other]⟩
instance:Coe Qy (Array a5):=⟨fun q=>#[.int .i64 q.kind,.int .i64 q.table,.int .i64 q.column,.int .i64 q.low,.int .i64 q.high,.int .i64 q.by_,.int .i64 q.other]⟩
instance:Coe Chg (List a5):=⟨fun c=>[.int .i64 c.table,.int .i64 c.key,.bool c.had,.int .i64 c.old.1,.int .i64 c.old.2.1,.int .i64 c.old.2.2,.bool c.has,.int .i64 c.new.1,.int .i64 c.new.2.1,.int .i64 c.new.2.2]⟩
instance:Coe Chg (Array a5):=⟨fun c=>#[.int .i64 c.table,.int .i64 c.key,.bool c.had,.int .i64 c.old.1,.int .i64 c.old.2.1,.int .i64 c.old.2.2,.bool c.has,.int .i64 c.new.1,.int .i64 c.new.2.1,.int .i64 c.new.2.2]⟩
instance:Coe Rw (List a5):=⟨fun x=>[.int .i64 x.table,.int .i64 x.key,.int .i64 x.v.1,.int .i64 x.v.2.1,.int .i64 x.v.2.2]⟩
instance:Coe Rw (Array a5):=⟨fun x=>#[.int .i64 x.table,.int .i64 x.key,.int .i64 x.v.1,.int .i64 x.v.2.1,.int .i64 x.v.2.2]⟩
end
section
def aHq (r:Rw):List UInt8:=aFm [r.table,r.key]++aFm (tri r.v)
def entsS (l:List Rw) (t c:Int):List (List UInt8):=(tabS l t c).map aHq
def bDs (l:List Rw) (t c:Int):List UInt8:=aPo (((tabS l t c).length:Nat):Int)++rootL (entsS l t c)
def aT5:List (Int×Int):=[(0,0),(0,1),(0,2),(0,3),(1,0),(1,1),(1,2),(1,3),(2,0),(2,1),(2,2),(2,3),(3,0),(3,1),(3,2),(3,3)]
def sumsS (l:List Rw):List (List UInt8):=aT5.map fun p=>bDs l p.1 p.2
theorem aDf (l:List Rw):(sumsS l).length=16:=by simp[sumsS,aT5]
theorem aD3 (l:List Rw) (t c:Int):(entsS l t c).length=(tabS l t c).length:=by simp[entsS]
variable {l:List Rw} {q:Qy} {c:Chg}
theorem aBz (g:Int->Option Rw) (m:Int) (x:Rw) (l:List Rw):aCh g m (x :: l)=(match g (x.val m)with|some y=>[(x,y)]|none=>[])++aCh g m l:=by
 unfold aCh;rw[List.filterMap_cons];cases g (x.val m) <;> rfl
theorem aIk (g:Int->Option Rw) (m:Int) (a b:List Rw):aCh g m (a++b)=aCh g m a++aCh g m b:=List.filterMap_append
theorem aFv {g:Int->Option Rw} {m:Int} {p:Rw×Rw}:p∈aCh g m l↔p.1∈l/\g (p.1.val m)=some p.2:=by
 unfold aCh;rw[List.mem_filterMap]
 constructor
 . rintro⟨x,b,a⟩;rw[Option.map_eq_some_iff]at a;obtain⟨y,a,rfl⟩:=a;exact⟨b,a⟩
 . rintro⟨b,a⟩;exact⟨p.1,b,by rw[a];rfl⟩
theorem aEi (g:Int->Option Rw) (m:Int) (f:Rw->Bool):∀l:List Rw,aCh g m (l.filter f)=(aCh g m l).filter fun p=>f p.1
 | []=>rfl
 | x :: l=>by
   have ih:=aEi g m f l;rw[aBz,aV,<-ih,aS];cases e:f x
   . cases g (x.val m) <;> simp[e]
   . rw[if_pos rfl,aBz];cases g (x.val m) <;> simp[e]
theorem aGh {c:Int} (g:Int->Option Rw) (m:Int):∀{l:List Rw},aDr c l->(aCh g m l).Pairwise fun a b=>ltO c a.1 b.1=true
 | [],_=>aI.nil
 | x :: l,h=>by
   obtain⟨h1,h2⟩:=aD.1 h;have ih:=aGh g m h2;rw[aBz];cases g (x.val m)with
   | none=>exact ih
   | some y=>exact aD.2 ⟨fun b hb=>h1 _ (aFv.1 hb).1,ih⟩
theorem aFd {g g':Int->Option Rw} {m:Int}:∀{l:List Rw},(∀x∈l,g (x.val m)=g' (x.val m))->aCh g m l=aCh g' m l
 | [],_=>rfl
 | x :: l,h=>by
   rw[aBz,aBz,h x aC,aFd (l:=l) fun y hy=>h y (aF _ hy)]
theorem aQf {α:Type} {p:α->Bool} {l:List α} (h:l.Pairwise (fun a b=>p a=true->p b=true)):l.filter (fun x=>!p x)++l.filter p=l:=by
 rw[<-(aEp h).1,<-(aEp h).2,aL]
theorem aSm (h:SortS l) {q:Qy} {c:Chg} (hc:aEl l c=true) (hd:c.had=true) (ht:c.table=q.other) (R:List Rw) :
 (if c.has then(aCh (getS l q.other) q.by_ R).map (aBf c)else(aCh (getS l q.other) q.by_ R).filter (aGt c))=aCh (getS (aBs l c) q.other) q.by_ R:=by
  have a:=h.get_same c;have b:getS l c.table c.key=some (aD0 c):=h.get ((aQc h hc).2 ⟨hd,rfl⟩).1;rw[ht]at a b;cases e:c.has
  . rw[e]at a;simp only[Bool.false_eq_true,if_false]at a⊢
    induction R with
    | nil=>rfl
    | cons x R ih=>
      rw[aBz,aBz,aV,ih]
      congr 1
      by_cases k:x.val q.by_=c.key
      . rw[k,a,b];simp[aGt,aD0]
      . rw[h.get_other c (fun e=>k e.2.symm)];cases d:getS l q.other (x.val q.by_)with
        | none=>rfl
        | some y=>
          have:=(aBo d).2.2;simp[aGt,this,k]
  . rw[e]at a;simp only[if_true]at a⊢
    induction R with
    | nil=>rfl
    | cons x R ih=>
      rw[aBz,aBz,aZ,ih]
      congr 1
      by_cases k:x.val q.by_=c.key
      . rw[k,a,b];simp[aBf,aD0]
      . rw[h.get_other c (fun e=>k e.2.symm)];cases d:getS l q.other (x.val q.by_)with
        | none=>rfl
        | some y=>
          have:=(aBo d).2.2;simp[aBf,this,k]
theorem aO4 (h:aO8 q c=true):c.table=q.table:=by
 unfold aO8 at h;rw[aN]at h;rcases h with h|h
 . obtain⟨a,b⟩:=aR.1 h;obtain⟨_,rfl,d⟩:=aM4 b;exact aEt d
 . obtain⟨a,b⟩:=aR.1 h;obtain⟨_,rfl,d⟩:=aJc b;exact aEt d
theorem aPu (h:aO8 q c=false):befQ q c=none/\aftQ q c=none:=by
 unfold aO8 at h;rw[aP]at h;exact⟨by simpa using h.1,by simpa using h.2⟩
theorem aSe (h:c.table≠q.table):befQ q c=none/\aftQ q c=none:=by
 refine aPu ?_;cases e:aO8 q c
 . rfl
 . exact absurd (aO4 e) h
theorem aJl (h:SortS l) {q:Qy} {c:Chg} (hc:aEl l c=true) (hb:befQ q c=none) (ha:aftQ q c=none):aAy q (aBs l c)=aAy q l:=by
 rw[aIz h,ha];exact aWz h q hc hb
theorem aSn (h:SortS l) {q:Qy} {c:Chg} (hc:aEl l c=true) (hne:q.table≠q.other) (ht:aO8 q c=true\/c.table=q.other) (P:List (Rw×Rw))
 (hp:aHi q c (aCh (getS l q.other) q.by_ (aAy q l))=(P,true)):P=aCh (getS (aBs l c) q.other) q.by_ (aAy q (aBs l c)):=by
  unfold aHi at hp;by_cases k:c.table=q.other
  . rw[if_pos k]at hp;obtain⟨v,t⟩:=aSe (q:=q) (c:=c) (by rw[k];exact Ne.symm hne);rw[aJl h hc v t]
    have H:c.had=true:=by
     split at hp
     . exact(Prod.mk.inj hp).2
     . exact(Prod.mk.inj hp).2
    rw[<-aSm h hc H k];split at hp
    . rename_i e
      rw[if_pos e];exact(Prod.mk.inj hp).1.symm
    . rename_i e
      rw[if_neg e];exact(Prod.mk.inj hp).1.symm
  . rw[if_neg k]at hp;have s:aO8 q c=true:=ht.resolve_right k;have A:=aO4 s;have G:∀x,getS (aBs l c) q.other x=getS l q.other x:=fun x=>h.get_other c fun e=>k e.1;rw[aFd (g:=getS (aBs l c) q.other) (g':=getS l q.other) fun x _=>G _]
    have f:(aCh (getS l q.other) q.by_ (aAy q l)).filter (aEr c)=aCh (getS l q.other) q.by_ (aGp q l c):=by
     unfold aGp;rw[aEi];refine List.filter_congr fun p hp=>?_;have:=aEt (aE7.1 (aFv.1 hp).1).2;unfold aEr aDn;rw[this,A];simp
    rw[f]at hp;rw[aIz h];have m:=aE3 h q c;cases t:aftQ q c with
    | none=>
      rw[t]at hp;exact(Prod.mk.inj hp).1.symm
    | some a=>
      rw[t]at hp;dsimp only at hp⊢;have F:=m.mono a
      have r:(aCh (getS l q.other) q.by_ (aGp q l c)).Pairwise fun x y=>ltO q.column a x.1=true->ltO q.column a y.1=true:=
        aI.imp (fun h k=>aJ7 k h) (aGh (getS l q.other) q.by_ m)
      rw[aMw F,aIk,aBz,aEi,aEi];have d:aCq q c=a.val q.by_:=by unfold aCq;rw[t];rfl
      split at hp
      . rename_i u
        have i:=(Prod.mk.inj hp).2;rw[aA,decide_eq_true_eq]at i;obtain⟨b,v⟩:=aR.1 i.1;have n:aC7 q c=b.val q.by_:=by unfold aC7;rw[v];rfl
        have B:b∈aAy q l:=by
         rw[(aFq h q hc).mem_iff,v];simp
        have z:getS l q.other (a.val q.by_)=none:=by
         cases e:getS l q.other (a.val q.by_)with
         | none=>rfl
         | some y=>
           have o:(b,y)∈aCh (getS l q.other) q.by_ (aAy q l):=aFv.2 ⟨B,by dsimp only;rw[<-n,i.2,d];exact e⟩;have:=List.find?_eq_none.1 u _ o;simp[d,(aBo e).2.2]at this
        rw[z,List.nil_append,aQf r];exact(Prod.mk.inj hp).1.symm
      . rename_i p u
        obtain⟨K,E⟩:=p;have D:=aFv.1 (List.mem_of_find?_eq_some u);have C:=List.find?_some u;simp only[decide_eq_true_eq]at C;have J:=(aBo D.2).2.2;have j:getS l q.other (a.val q.by_)=some E:=by rw[<-d,<-C,J];exact D.2
        rw[j,<-(Prod.mk.inj hp).1,aMw r];rfl
theorem aGk (h:SortS l) {q:Qy} {c:Chg} (hc:aEl l c=true) (ht:touchQ q c=false):evalQ q (aBs l c)=evalQ q l:=by
 have o:=aFq h q hc;have m:=aE2 h q c;have n:=aMp h q hc;have g:=aMq h q c
 have b:∀{a},aO9 a->aO7 q c=false->aC7 q c=aCq q c->(aA7 q (aAy q (aBs l c))).foldl (aGj a) res0=(aA7 q (aAy q l)).foldl (aGj a) res0:=by
  intro a p j i;refine aYy p (g.trans (List.Perm.trans ?_ n.symm));unfold aC7 aCq at i;unfold aO7 at j;cases d:befQ q c <;> cases f:aftQ q c <;> rw[d,f]at j i
  . simp at j
  . simp at j
  . simp only[aGa]at i;simp[aA7,i]
 unfold touchQ at ht;unfold evalQ aCe;split
 . rename_i k
   rw[if_pos k]at ht
   congr 2
   rw[o.length_eq,m.length_eq,aM,aM];unfold aO7 at ht;cases d:befQ q c <;> cases f:aftQ q c <;> simp[d,f]at ht⊢
 . rename_i k
   rw[if_neg k]at ht;split
   . rename_i k
     rw[if_pos k]at ht
     congr 1
     rw[aIy n,aIy g,a3,a3,aL9,aL9];simp only[ne_eq,decide_eq_false_iff_not,Decidable.not_not]at ht;unfold aC7 aCq at ht;omega
   . rename_i k
     rw[if_neg k]at ht;split
     . rename_i k
       rw[if_pos k,aP]at ht;exact b (.inl rfl) ht.1 (by simpa using ht.2)
     . rename_i k
       rw[if_neg k]at ht;split
       . rename_i k
         rw[if_pos k,aP]at ht;exact b (.inr rfl) ht.1 (by simpa using ht.2)
       . rename_i k
         rw[if_neg k]at ht;split
         . rename_i k
           rw[if_pos k,aP]at ht;obtain⟨d,f⟩:=aPu ht.1;rw[aJl h hc d f]
           congr 2
           refine aFd fun x _=>h.get_other c fun e=>?_;have:=ht.2;simp[e.1]at this
         . rename_i k
           rw[if_neg k]at ht;obtain⟨d,f⟩:=aPu ht;rw[aJl h hc d f]
theorem aOs (h:SortS l) {q:Qy} {c:Chg} (hc:aEl l c=true) (ht:touchQ q c=true) {r:Res} (hk:patK q c (evalQ q l)=(r,true)):r=evalQ q (aBs l c):=by
 have e:=aFq h q hc;have a:=aE2 h q c;have f:=aMp h q hc;have d:=aMq h q c;unfold touchQ at ht;unfold patK at hk;unfold evalQ aCe at hk⊢;split
 . rename_i k
   rw[if_pos k,if_pos k]at hk;rw[if_pos k]at ht;unfold aHd at hk;obtain rfl:=(Prod.mk.inj hk).1
   congr 1
   dsimp only;rw[e.length_eq,a.length_eq,aM,aM];unfold aO7 at ht;cases j:befQ q c <;> cases m:aftQ q c <;> simp[j,m]at ht⊢<;> omega
 . rename_i k
   rw[if_neg k,if_neg k]at hk;rw[if_neg k]at ht;split
   . rename_i k
     rw[if_pos k,if_pos k]at hk;unfold aNx at hk;obtain rfl:=(Prod.mk.inj hk).1
     congr 1
     dsimp only;rw[aIy f,aIy d,a3,a3,aL9,aL9];unfold aC7 aCq;omega
   . rename_i k
     rw[if_neg k,if_neg k]at hk;rw[if_neg k]at ht;split
     . rename_i k
       rw[if_pos k,if_pos k]at hk;exact aOq (.inl rfl) h hc hk
     . rename_i k
       rw[if_neg k,if_neg k]at hk;rw[if_neg k]at ht;split
       . rename_i k
         rw[if_pos k,if_pos k]at hk;exact aOq (.inr rfl) h hc hk
       . rename_i k
         rw[if_neg k,if_neg k]at hk;rw[if_neg k]at ht;split
         . rename_i k
           rw[if_pos k,if_pos k]at hk;rw[if_pos k,aN,decide_eq_true_eq]at ht;unfold aJv at hk;split at hk
           . have:=(Prod.mk.inj hk).2;cases this
           . rename_i b
             dsimp only at hk;rw[aJd]at hk;obtain⟨i,g⟩:=Prod.mk.inj hk;obtain rfl:=i;rw[<-aSn h hc b ht _ (Prod.ext rfl g)]
         . rename_i k
           rw[if_neg k,if_neg k]at hk;unfold aH7 at hk;obtain rfl:=(Prod.mk.inj hk).1;rw[aIz h];rfl
theorem aQg (h:SortS l) {q:Qy} {c:Chg} (hc:aEl l c=true) {r:Res} (hp:aHc q (evalQ q l) c=some r):r=evalQ q (aBs l c):=by
 unfold aHc at hp;cases a:touchQ q c
 . rw[a]at hp;simp only[Bool.false_eq_true,if_false]at hp;rw[aGk h hc a];exact(aJ.inj hp).symm
 . rw[a]at hp;simp only[if_true]at hp;split at hp
   . rename_i e
     obtain rfl:=aJ.inj hp;exact aOs h hc a (Prod.ext rfl e)
   . cases hp
def aHa (q:Qy):Res->List Chg->Option (Res×Bool)
 | r,[]=>some (r,false)
 | r,c :: l=>match aHc q r c with
   | none=>none
   | some r'=>(aHa q r' l).map fun p=>(p.1,touchQ q c || p.2)
theorem aG0 {q:Qy}:∀{chs:List Chg} {l:List Rw},SortS l->chs.all (aEl l)=true->chs.Pairwise (fun a b=>¬(a.table=b.table/\a.key=b.key))->∀{r:Res} {t:Bool},aHa q (evalQ q l) chs=some (r,t)->
 r=evalQ q (chs.foldl aBs l)/\(t=false->r=evalQ q l)
  | [],l,_,_,_,r,t,hr=>by
    simp only[aHa,aJ.injEq,Prod.mk.injEq]at hr;exact⟨hr.1.symm,fun _=>hr.1.symm⟩
  | c :: chs,l,h,hall,hpw,r,t,hr=>by
    rw[List.all_cons,aA]at hall;obtain⟨p1,p2⟩:=aD.1 hpw;unfold aHa at hr;split at hr
    . cases hr
    . rename_i r' hr'
      have e:=aQg h hall.1 hr';subst e;rw[Option.map_eq_some_iff]at hr;obtain⟨⟨r2,t2⟩,h2,h3⟩:=hr;obtain⟨e1,e2⟩:=Prod.mk.inj h3;dsimp only at e1 e2;subst e1
      have hall2:chs.all (aEl (aBs l c))=true:=by
       rw[List.all_eq_true]at hall⊢;intro d g;rw[aH8 h c d (p1 d g)];exact hall.2 d g
      obtain⟨j,i⟩:=aG0 (h.app c) hall2 p2 h2;refine⟨j,fun f=>?_⟩;rw[<-e2,aP]at f;rw[i f.2,aGk h hall.1 f.1]
variable {q:Qy} {s:StT} {l:List Rw}
theorem aKp:∀{t k:Int} {chs:List Chg},aEy t k chs=true->chs.Pairwise fun a b=>¬(a.table=b.table/\a.key=b.key)
 | _,_,[],_=>aI.nil
 | t,k,c :: chs,h=>by
   obtain⟨_,_,h3⟩:=aEx h;refine aD.2 ⟨fun d hd=>?_,aKp h3⟩;have:=aFj h3 d hd;unfold aIr at this;omega
theorem aOr {s':StT} {x:Rec} (g:GoodS s) (h:aF9 s x=some s') {r:Res} {t:Bool} (hr:aHa q (evalQ q s.rows) x.chs=some (r,t)) :
 r=evalQ q s'.rows/\(t=false->evalQ q s.rows=evalQ q s'.rows):=by
 unfold aF9 at h;split at h
 . rename_i c
   obtain rfl:=aJ.inj h;obtain⟨e,j,d,i⟩:=aB7 c;obtain⟨a,f⟩:=aG0 g.sort d (aKp (aEg e)) hr;exact⟨a,fun b=>(f b).symm.trans a⟩
 . cases h
def replayQ (q:Qy):Res->Int->List Rec->Option (Res×Int)
 | r,since,[]=>some (r,since)
 | r,since,x :: l=>match aHa q r x.chs with
   | none=>none
   | some p=>replayQ q p.1 (if p.2 then x.pos else since) l
theorem aGq {q:Qy}:∀{l:List Rec} {s s':StT},GoodS s->runS s l=some s'->∀{since since':Int} {r:Res},since<=s.pos->replayQ q (evalQ q s.rows) since l=some (r,since')->
 r=evalQ q s'.rows/\since<=since'/\since'<=s'.pos/\∀j sj,runS s (l.take j)=some sj->since'<=sj.pos->evalQ q sj.rows=r
  | [],s,s',g,h,since,since',r,hs,hr=>by
    obtain rfl:=aJ.inj h;simp only[replayQ,aJ.injEq,Prod.mk.injEq]at hr;obtain⟨rfl,rfl⟩:=hr;refine⟨rfl,Int.le_refl _,hs,fun j sj hj _=>?_⟩;simp only[List.take_nil,runS,aJ.injEq]at hj;rw[hj]
  | x :: l,s,s',g,h,since,since',r,hs,hr=>by
    simp only[runS]at h;cases e:aF9 s x with
    | none=>rw[e]at h;cases h
    | some s1=>
      rw[e]at h;obtain⟨g1,p1,_,p2⟩:=g.step e;unfold replayQ at hr;split at hr
      . cases hr
      . rename_i p hp
        obtain⟨r1,t⟩:=p;obtain⟨e1,e2⟩:=aOr g e hp;subst e1;dsimp only at hr;obtain⟨i1,i2,i3,i4⟩:=aGq g1 h (by cases t <;> simp <;> omega) hr;refine⟨i1,?_,i3,fun j sj hj hle=>?_⟩
        . cases t <;> simp at i2 <;> omega
        . cases j with
          | zero=>
            simp only[List.take_zero,runS,aJ.injEq]at hj;subst hj;cases t
            . rw[e2 rfl];exact i4 0 s1 (by simp[runS]) (by omega)
            . simp at i2;omega
          | succ j=>
            rw[a4,runS,e]at hj;exact i4 j sj hj hle
structure AnsOf (q:Qy) (ps:List Rec) (base till:Nat) (r:Res) (since:Int):Prop where
 le:base<=till
 len:till<=ps.length
 run:∃s,runS st0 (ps.take base)=some s/\replayQ q (evalQ q s.rows) base ((ps.take till).drop base)=some (r,since)
theorem aPf:st0.pos=0:=rfl
theorem AnsOf.at_ {ps:List Rec} (hs:runS st0 ps=some s) {base till:Nat} {r:Res} {since:Int} (h:AnsOf q ps base till r since) :
 (base:Int)<=since/\since<=till/\∀p:Nat,since<=p->p<=till->∀sp,runS st0 (ps.take p)=some sp->evalQ q sp.rows=r:=by
  obtain⟨d,i,x⟩:=h.run;obtain⟨y,m⟩:=aBy aCl i;rw[aQ,aO (Nat.le_trans h.le h.len),aPf]at m;obtain⟨st,g⟩:=aDh hs till
  have a:∀p,base<=p->p<=till->runS st0 (ps.take p)=runS d (((ps.take till).drop base).take (p-base)):=fun p f u=>by
   have e:ps.take p=ps.take base++((ps.take till).drop base).take (p-base):=by
    rw[List.take_drop,Nat.add_sub_cancel' f,List.take_take,aO u];have:=(aL base (ps.take p)).symm
    rwa [List.take_take,aO f]at this
   rw[e,aCf,i];rfl
  have B:((ps.take till).drop base).length=till-base:=by
   rw[List.length_drop,aQ,aO h.len]
  have v:runS d ((ps.take till).drop base)=some st:=by
   have:=a till h.le (Nat.le_refl _);rw[List.take_of_length_le (l:=(ps.take till).drop base) (by omega)]at this;rw[<-this];exact g
  obtain⟨gt,j⟩:=aBy aCl g;rw[aQ,aO h.len,aPf]at j;obtain⟨A,o,z,n⟩:=aGq y v (by omega) x;refine⟨o,by omega,fun p t c sp b=>?_⟩;obtain⟨C,k⟩:=aBy aCl b;rw[aQ,aO (by have:=h.len;omega),aPf]at k;exact n (p-base) sp (by rw[<-a p (by omega) c];exact b) (by omega)
theorem bAt {ps:List Rec} (hs:runS st0 ps=some s) {b1 t1 b2 t2:Nat} {r1 r2:Res} {s1 s2:Int} (h1:AnsOf q ps b1 t1 r1 s1) (h2:AnsOf q ps b2 t2 r2 s2)
 (c1:s1<=t2) (c2:s2<=t1):r1=r2:=by
  obtain⟨h,f,c⟩:=h1.at_ hs;obtain⟨g,d,b⟩:=h2.at_ hs;obtain⟨p,i⟩:∃p:Nat,(p:Int)=max s1 s2:=⟨(max s1 s2).toNat,by omega⟩;obtain⟨a,e⟩:=aDh hs p;exact(c p (by omega) (by omega) a e).symm.trans (b p (by omega) (by omega) a e)
theorem aTa (h:∀r∈l,rowB r.table r.key r.v=true) (m:Int):∀n∈l.map (fun x=>x.val m),-1000000000<=n/\n<=1000000000:=fun n hn=>by
 obtain⟨x,hx,rfl⟩:=List.mem_map.1 hn;exact aF0 (h x hx) m
theorem aPe:∀{l:List Int},(∀n∈l,-1000000000<=n/\n<=1000000000)-> -(1000000000*(l.length:Int))<=l.sum/\l.sum<=1000000000*(l.length:Int)
 | [],_=>by simp
 | a :: l,h=>by
   have h1:=h a aC;have h2:=aPe (l:=l) fun n hn=>h n (aF _ hn);rw[List.sum_cons,aT]
   push_cast
   omega
theorem aMe (q:Qy) (l:List Rw):(aAy q l).length<=l.length:=by
 unfold aAy aC2;rw[(aB9 _ _ _).length_eq];exact List.length_filter_le _ _
theorem aTl (h:∀r∈l,rowB r.table r.key r.v=true):∀r∈aAy q l,rowB r.table r.key r.v=true:=fun r hr=>h r (aE7.1 hr).1
theorem aHm:∀l:List (Rw×Rw),(aCa l).length=2*l.length
 | []=>rfl
 | p :: l=>by simp[aCa,aHm l];omega
theorem aOa:∀{l:List (Rw×Rw)} {x:Rw},x∈aCa l->∃p∈l,x=p.1\/x=p.2
 | p :: l,x,h=>by
   simp only[aCa,aH]at h;rcases h with h|h|h
   . exact⟨p,aC,.inl h⟩
   . exact⟨p,aC,.inr h⟩
   . obtain⟨p',h1,h2⟩:=aOa h;exact⟨p',aF _ h1,h2⟩
theorem aOd (g:Int->Option Rw) (m:Int) (l:List Rw):(aCh g m l).length<=l.length:=List.length_filterMap_le _ _
structure ResB (r:Res) (n:Nat):Prop where
 len:r.rows.length<=2*n
 lo: -(1000000000*(n:Int))-1000000000<=r.value
 hi:r.value<=1000000000*(n:Int)+1000000000
 rows:∀x∈r.rows,rowB x.table x.key x.v=true
theorem aHn (h:∀r∈l,rowB r.table r.key r.v=true):ResB (evalQ q l) l.length:=by
 have n:=aMe q l;have c:=aTl (q:=q) h;have d:=aTa c q.by_
 have b:∀{a},aO9 a->ResB ((aA7 q (aAy q l)).foldl (aGj a) res0) l.length:=by
  intro a f;have:=aKc f (aA7 q (aAy q l))
  have m: -1000000000<=((aA7 q (aAy q l)).foldl (aGj a) res0).value/\((aA7 q (aAy q l)).foldl (aGj a) res0).value<=1000000000:=by
   by_cases e:aA7 q (aAy q l)=[]
   . rw[e];simp[res0]
   . exact d _ (this.mem e)
  refine⟨by rw[this.rows];simp,by omega,by omega,by rw[this.rows];simp⟩
 unfold evalQ aCe;split
 . exact⟨by simp,by dsimp only;omega,by dsimp only;omega,by simp⟩
 . split
   . have:=aPe d;rw[List.length_map]at this;unfold aA7;exact⟨by simp,by dsimp only;omega,by dsimp only;omega,by simp⟩
   . split
     . exact b (.inl rfl)
     . split
       . exact b (.inr rfl)
       . split
         . refine⟨?_,by dsimp only;omega,by dsimp only;omega,fun x b=>?_⟩
           . dsimp only;rw[aHm];have:=aOd (getS l q.other) q.by_ (aAy q l);omega
           . obtain⟨p,k,j⟩:=aOa b;obtain⟨i,g⟩:=aFv.1 k;rcases j with rfl|rfl
             . exact c _ i
             . exact h _ (aBo g).1
         . exact⟨by dsimp only;omega,by dsimp only;omega,by dsimp only;omega,c⟩
variable {l:List Rw}
structure GoodQ (q:Qy):Prop where
 k1:1<=q.kind
 k7:q.kind<=7
 t0:0<=q.table
 t3:q.table<=3
 c0:0<=q.column
 c3:q.column<=3
 lo: -1000000000<=q.low
 le:q.low<=q.high
 hi:q.high<=1000000000
 row:q.kind=1->q.column=0/\q.low=q.high/\1<=q.low/\q.low<=1000000/\q.by_=0/\q.other=0
 few:q.kind=2\/q.kind=3->q.by_=0/\q.other=0
 agg:4<=q.kind/\q.kind<=6->1<=q.by_/\q.by_<=3/\q.other=0
 join:q.kind=7->1<=q.by_/\q.by_<=3/\0<=q.other/\q.other<=3
def aBw (q:Qy) (l:List Rw) (rows:List Rw):List Rw:=rows.flatMap fun x=>aC2 l q.other 0 (x.val q.by_) (x.val q.by_)
def aB8 (q:Qy) (others:List Rw) (k:Int):Option Rw:=others.find? (eqK q.other k)
theorem aMn {t k:Int} {y:Rw}:y∈aC2 l t 0 k k↔y∈l/\y.table=t/\y.key=k:=by
 unfold aC2;rw[(aB9 _ _ _).mem_iff,aK];have d:y.val 0=y.key:=rfl;unfold inR;rw[d];simp only[aA,decide_eq_true_eq]
 constructor
 . rintro⟨b,a,c,e⟩;exact⟨b,a,by omega⟩
 . rintro⟨b,a,c⟩;exact⟨b,a,by omega,by omega⟩
theorem bAs (h:SortS l) {q:Qy} {rows:List Rw} {x:Rw} (hx:x∈rows):aB8 q (aBw q l rows) (x.val q.by_)=getS l q.other (x.val q.by_):=by
 have g:∀y∈aBw q l rows,y∈l:=fun y f=>by
  obtain⟨z,_,d⟩:=List.mem_flatMap.1 f;exact(aMn.1 d).1
 unfold aB8;cases e:(aBw q l rows).find? (eqK q.other (x.val q.by_))with
 | some y=>
   have b:=g y (List.mem_of_find?_eq_some e);have a:=aEk.1 (List.find?_some e);have:=h.get b;rw[a.1,a.2]at this;exact this.symm
 | none=>
   cases i:getS l q.other (x.val q.by_)with
   | none=>rfl
   | some y=>
     obtain⟨b,a,c⟩:=aBo i;have:y∈aBw q l rows:=List.mem_flatMap.2 ⟨x,hx,aMn.2 ⟨b,a,c⟩⟩;have:=List.find?_eq_none.1 e y this;rw[aEk.2 ⟨a,c⟩]at this;exact absurd rfl this
theorem aU9 (h:SortS l) (q:Qy) {others:List Rw} (ho:q.kind=7->others=aBw q l (aAy q l)):aCe q (aAy q l) (aB8 q others)=evalQ q l:=by
 unfold evalQ aCe;by_cases k:q.kind=7
 . rw[ho k,aFd (g:=aB8 q (aBw q l (aAy q l))) (g':=getS l q.other) fun x a=>bAs h a]
 . simp only[if_neg k]
variable {q:Qy} {r:Res}
theorem aGr (q:Qy):∀(a b:List Chg) (r:Res),aHa q r (a++b)=(aHa q r a).bind fun p=>(aHa q p.1 b).map fun s=>(s.1,p.2 || s.2)
 | [],b,r=>by
   simp only[List.nil_append,aHa,Option.bind_some];cases aHa q r b <;> simp
 | c :: a,b,r=>by
   simp only[List.cons_append,aHa];cases aHc q r c with
   | none=>rfl
   | some r'=>
     dsimp only;rw[aGr q a b r'];cases aHa q r' a with
     | none=>rfl
     | some p=>
       simp only[Option.bind_some,Option.map_some];cases aHa q p.1 b <;> simp[Bool.or_assoc]
theorem aW1 {rk:Res} {tk:Bool} {l:List Chg} {k:Nat} {c:Chg} (h:aHa q r (l.take k)=some (rk,tk)) (hc:l[k]? =some c) :
 aHa q r (l.take (k+1))=(aHc q rk c).map fun r'=>(r',tk || touchQ q c):=by
 rw[aW,hc,aGr,h];simp only[Option.toList_some,Option.bind_some,aHa];cases aHc q rk c <;> simp
theorem aW2 {l:List Chg} {k:Nat} (h:aHa q r (l.take k)=none):aHa q r l=none:=by
 rw[<-aL k l,aGr,h];rfl
theorem aO3:∀{t k:Int} {l:List Chg},aEy t k l=true->∀i,aEy t k (l.take i)=true
 | _,_,[],_,i=>by simp[aEy]
 | _,_,c :: l,_,0=>by simp[aEy]
 | _,_,c :: l,h,i+1=>by
   rw[a4];unfold aEy at h⊢;simp only[aA]at h⊢;exact⟨h.1,aO3 h.2 i⟩
theorem bCb {l:List Rw} (h:SortS l) (c:Chg):(aBs l c).length<=l.length+1:=by
 have e:=aF7 h c.table c.key;unfold aBs aS8 aSy aB1;split
 . rw[aM,aT];dsimp only;omega
 . rw[aM];omega
theorem aQr:∀{chs:List Chg} {l:List Rw},SortS l->(chs.foldl aBs l).length<=l.length+chs.length
 | [],l,_=>by simp
 | c :: chs,l,h=>by
   have h1:=aQr (chs:=chs) (h.app c);have h2:=bCb h c;rw[a0,aT];omega
theorem bAm {s:StT} {x:Rec} (g:GoodS s) (hf:aFg s x=true) {k:Nat} {r:Res} {t:Bool} (hr:aHa q (evalQ q s.rows) (x.chs.take k)=some (r,t)):∃n≤2008,ResB r n:=by
 obtain⟨b,m,f,l⟩:=aB7 hf;have c:=aO3 (aEg b) k
 have a:(x.chs.take k).all (aEl s.rows)=true:=by
  rw[List.all_eq_true]at f⊢;exact fun d h=>f d (List.mem_of_mem_take h)
 obtain⟨e,-⟩:=aG0 g.sort a (aKp c) hr;have i:=aQr (chs:=x.chs.take k) g.sort
 have j:(x.chs.take k).length<=8:=by
  unfold recB at b;simp only[aA,decide_eq_true_eq]at b;rw[aQ];omega
 have:=g.small;refine⟨_,?_,e▸aHn (aHv c g.rows)⟩;omega
theorem aI0:∀{L:List Rec} {s s':StT},GoodS s->runS s L=some s'->(∀r∈L,r.chs.length<=3)->s'.rows.length<=s.rows.length+3*L.length
 | [],s,s',_,h,_=>by
   obtain rfl:=aJ.inj h;simp
 | x :: L,s,s',g,h,h3=>by
   simp only[runS]at h;cases e:aF9 s x with
   | none=>rw[e]at h;cases h
   | some s1=>
     rw[e]at h;have g1:=(g.step e).1;have h5:=aI0 g1 h fun r hr=>h3 r (aF _ hr)
     have h6:s1.rows.length<=s.rows.length+3:=by
      unfold aF9 at e;split at e
      . obtain rfl:=aJ.inj e;have:=aQr (chs:=x.chs) g.sort;have:=h3 x aC;dsimp only;omega
      . cases e
     rw[aT];omega
theorem aPm {si:Int} {l:List Rec} {i:Nat} {x:Rec} (hx:l[i]? =some x):replayQ q r si (l.drop i)=match aHa q r x.chs with
 | none=>none
 | some p=>replayQ q p.1 (if p.2 then x.pos else si) (l.drop (i+1)):=by
  obtain⟨a,e⟩:=aB.1 hx;rw[List.drop_eq_getElem_cons a,e];rfl
theorem aWq {l:List Rec} {s s' si:StT} (h:runS s l=some s') {i:Nat} {x:Rec} (hi:runS s (l.take i)=some si) (hx:l[i]? =some x) :
 aFg si x=true/\∃s2,aF9 si x=some s2/\runS s (l.take (i+1))=some s2:=by
 have e:runS s l=runS si (l.drop i):=by
  conv=>lhs;rw[<-aL i l,aCf,hi]
  rfl
 obtain⟨b,c⟩:=aB.1 hx;rw[h,List.drop_eq_getElem_cons b,c]at e;simp only[runS]at e;cases a:aF9 si x with
 | none=>rw[a]at e;cases e
 | some s2=>
   refine⟨?_,s2,rfl,?_⟩
   . unfold aF9 at a;split at a
     . assumption
     . cases a
   . rw[aW,hx,aCf,hi];simp[runS,a]
structure Sc where
 table:Int
 column:Int
 low:Int
 high:Int
deriving DecidableEq
def aWp (q:Qy):Sc:=⟨q.table,q.column,q.low,q.high⟩
def aCs (q:Qy) (x:Rw):Sc:=⟨q.other,0,x.val q.by_,x.val q.by_⟩
def Sc.rows (s:Sc) (L:List Rw):List Rw:=aC2 L s.table s.column s.low s.high
def Sc.cnt (s:Sc) (L:List Rw):Nat:=(tabS L s.table s.column).length
def Sc.from_ (s:Sc) (L:List Rw):Nat:=aDi (tabS L s.table s.column) s.column s.low
def Sc.cut (s:Sc) (L:List Rw):List Rw:=cutO (tabS L s.table s.column) s.column s.low s.high
structure GoodSc (s:Sc):Prop where
 t0:0<=s.table
 t3:s.table<=3
 c0:0<=s.column
 c3:s.column<=3
 le:s.low<=s.high
def aFt (q:Qy) (L:List Rw):List Sc:=if q.kind=7 then(aAy q L).map (aCs q)else[]
def aCo (q:Qy) (L:List Rw):List Sc:=aWp q :: aFt q L
theorem aTn {q:Qy} (g:GoodQ q):GoodSc (aWp q):=⟨g.t0,g.t3,g.c0,g.c3,g.le⟩
theorem aN0 {q:Qy} (g:GoodQ q) (k:q.kind=7) (x:Rw):GoodSc (aCs q x):=⟨(g.join k).2.2.1,(g.join k).2.2.2,Int.le_refl _,by show(0:Int)<=3;omega,Int.le_refl _⟩
theorem bAe (q:Qy) (L:List Rw):(aWp q).rows L=aAy q L:=rfl
theorem bCk {L:List Rw} {s:StT} (g:GoodS s) (hL:L=s.rows) {c:Sc} (hc:GoodSc c):(c.cut L).filter (fun r=>decide (c.low<=r.val c.column)&&decide (r.val c.column<=c.high))=c.rows L:=by
 subst hL;exact aY2 g.sort c.table c.column c.low c.high hc.le
theorem aPi {L:List Rw} {s:StT} (g:GoodS s) (hL:L=s.rows) {c:Sc} (hc:GoodSc c):CompleteO (c.cnt L) (c.from_ L) (c.cut L) c.table c.column c.low c.high:=by
 subst hL;exact aOv g c.table c.column c.low c.high hc.le
theorem aN4 (q:Qy) (L:List Rw):∀rows:List Rw,aBw q L rows=(rows.map (aCs q)).flatMap fun s=>s.rows L
 | []=>rfl
 | x :: rows=>by
   have:=aN4 q L rows;unfold aBw at this⊢;rw[List.flatMap_cons,List.map_cons,List.flatMap_cons,this];rfl
theorem aJ3 {l:List Rw} (h:SortS l) (q:Qy):∀rows:List Rw,(aBw q l rows).length<=rows.length
 | []=>by simp[aBw]
 | x :: rows=>by
   have h1:=aJ3 h q rows
   have h2:(aC2 l q.other 0 (x.val q.by_) (x.val q.by_)).length<=1:=by
    have c:aDr 0 (aC2 l q.other 0 (x.val q.by_) (x.val q.by_)):=aF3 h aHk _;cases e:aC2 l q.other 0 (x.val q.by_) (x.val q.by_)with
    | nil=>simp
    | cons a t=>
      cases t with
      | nil=>simp
      | cons b t=>
        exfalso;have g:=aMn.1 (show a∈aC2 l q.other 0 (x.val q.by_) (x.val q.by_) by rw[e];simp);have f:=aMn.1 (show b∈aC2 l q.other 0 (x.val q.by_) (x.val q.by_) by rw[e];simp);rw[e]at c;have d:=(aD.1 c).1 b (by simp);rw[aFb]at d;have j:a.val 0=a.key:=rfl;have i:b.val 0=b.key:=rfl;omega
   unfold aBw at h1⊢;rw[List.flatMap_cons,aM,aT];omega
def bCf:Rec:=⟨1,[⟨0,5,false,(0,0,0),true,(10,2,7)⟩]⟩
def aNc:Rec:=⟨2,[⟨0,6,false,(0,0,0),true,(11,9,7)⟩]⟩
def awQ:Qy:=⟨3,0,1,10,19,0,0⟩
def awX:Rw:=⟨0,5,(10,2,7)⟩
def awS:StT:=⟨[awX],1⟩
theorem aZi:GoodQ awQ:=by
 refine⟨?_,?_,?_,?_,?_,?_,?_,?_,?_,?_,?_,?_,?_⟩ <;> simp[awQ]
theorem bE9:runS st0 ([bCf,aNc].take 1)=some awS:=by decide +kernel
theorem bDo:∃s,runS awS [aNc]=some s:=⟨⟨[awX,⟨0,6,(11,9,7)⟩],2⟩,by decide +kernel⟩
theorem aQp:evalQ awQ awS.rows=⟨[],1,false⟩:=by decide +kernel
theorem aO0:replayQ awQ (evalQ awQ awS.rows) 1 [aNc]=some (⟨[],2,false⟩,2):=by decide +kernel
theorem aVz:aHa awQ ⟨[],1,false⟩ aNc.chs=some (⟨[],2,false⟩,true):=by decide +kernel
theorem aZg:touchQ awQ ⟨0,6,false,(0,0,0),true,(11,9,7)⟩=true:=by decide +kernel
theorem bB9:recB aNc=true:=by decide +kernel
theorem aZh:aCo awQ awS.rows=[⟨0,1,10,19⟩]:=by decide +kernel
variable {P:List Rw} {o:Int} {x:Rw}
def bBg (P:List Rw) (k:Int):Bool:=P.any fun y=>decide (y.key=k)
def aM8 (o:Int) (P:List Rw) (x:Rw):List Rw:=if decide (x.table=o)&&!bBg P x.key then P++[x]else P
def isK (k:Int) (y:Rw):Bool:=decide (y.key=k)
theorem aU5 {k:Int} (h:bBg P k=false):∀y∈P,y.key≠k:=by
 intro y a e;unfold bBg at h;rw[List.any_eq_false]at h;exact h y a (by simpa using e)
theorem aOk {k:Int}:bBg P k=(P.find? (isK k)).isSome:=by
 unfold bBg;rw[List.isSome_find?];rfl
theorem aS4 (h:(P.map (·.key)).Nodup):((aM8 o P x).map (·.key)).Nodup:=by
 unfold aM8;split
 . rename_i e
   rw[aA,aG]at e;rw[aZ,List.nodup_append];refine⟨h,by simp,fun a f b c=>?_⟩;obtain⟨y,d,rfl⟩:=List.mem_map.1 f;simp at c;subst c;exact aU5 e.2 y d
 . exact h
theorem aVd (k:Int):(aM8 o P x).find? (isK k)=(P.find? (isK k)).or (if eqK o k x then some x else none):=by
 unfold aM8;by_cases e:decide (x.table=o)&&!bBg P x.key
 . rw[if_pos e,List.find?_append];rw[aA,decide_eq_true_eq]at e
   congr 1
   simp only[List.find?_cons,List.find?_nil,isK,eqK,e.1,decide_true,Bool.true_and];cases decide (x.key=k) <;> rfl
 . rw[if_neg e];cases d:eqK o k x
   . simp
   . obtain⟨c,b⟩:=aEk.1 d;rw[c,b,aOk]at e;simp only[decide_true,Bool.true_and,aG,Bool.not_eq_false]at e;obtain⟨y,a⟩:=aR.1 e;rw[a];rfl
theorem aLt {o:Int} (k:Int):∀{l P:List Rw},(l.foldl (aM8 o) P).find? (isK k)=(P.find? (isK k)).or (l.find? (eqK o k))
 | [],P=>by simp
 | x :: l,P=>by
   rw[a0,aLt k,aVd,Option.or_assoc]
   congr 1
   rw[List.find?_cons];cases eqK o k x <;> simp
theorem aGy {o:Int}:∀{l P:List Rw},(P.map (·.key)).Nodup->((l.foldl (aM8 o) P).map (·.key)).Nodup
 | [],_,h=>h
 | _ :: l,_,h=>aGy (l:=l) (aS4 h)
theorem aSv {l:List Rw} {k:Nat} (hx:l[k]? =some x):(l.take (k+1)).foldl (aM8 o) []=aM8 o ((l.take k).foldl (aM8 o) []) x:=by
 rw[aW,hx,List.foldl_append];rfl
theorem aT4 (q:Qy) (others:List Rw) (k:Int):(others.foldl (aM8 q.other) []).find? (isK k)=aB8 q others k:=by
 rw[aLt];rfl
theorem aUp {g:Int->Option Rw} {m:Int} {l:List Rw} {k:Nat} (hx:l[k]? =some x) :
 aCa (aCh g m (l.take (k+1)))=aCa (aCh g m (l.take k))++(match g (x.val m)with|some y=>[x,y]|none=>[]):=by
 have c:∀a b:List (Rw×Rw),aCa (a++b)=aCa a++aCa b:=by
  intro a b
  induction a with
  | nil=>rfl
  | cons p a ih=>
    show p.1 :: p.2 :: aCa (a++b)=p.1 :: p.2 ::(aCa a++aCa b)
    rw[ih]
 rw[aW,hx,aIk,c]
 congr 1
 show aCa (aCh g m [x])=_
 rw[aBz];cases g (x.val m) <;> rfl
end
end Go.Proofs.YtmhpfoicloojcaaGreatDoor
