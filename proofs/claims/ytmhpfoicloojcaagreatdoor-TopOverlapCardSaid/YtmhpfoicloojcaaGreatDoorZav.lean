/- Maps with known rows. -/
import Derived.Test.YtmhpfoicloojcaaGreatDoorZaa
import Derived.Maps.RangeWalk
import Derived.Test.YtmhpfoicloojcaaGreatDoorZab
set_option linter.all false
open Go renaming TypeId→aA
namespace Go.Proofs.YtmhpfoicloojcaaGreatDoor
set_option maxRecDepth 100000
set_option maxHeartbeats 16000000
section
open Go
open Go.Maps (Keyed)
variable {r cnt:Nat} {left:Rw->Bool}
def In64 (n:Int):Prop:= -9223372036854775808<=n/\n<=9223372036854775807
def idV (t k:Int):Value:= .agg #[.int .i64 t,.int .i64 k]
def idL (t k:Int):Lit:= .string (keyBytes [.int .i64 t,.int .i64 k])
def rwC (r:Rw):List Value:=[.int .i64 r.table,.int .i64 r.key,.int .i64 r.v.1,.int .i64 r.v.2.1,.int .i64 r.v.2.2]
def rwV (r:Rw):Value:= .agg #[.int .i64 r.table,.int .i64 r.key,.int .i64 r.v.1,.int .i64 r.v.2.1,.int .i64 r.v.2.2]
def rw0:Rw:=⟨0,0,0,0,0⟩
def rwD (r:Rw):DataW Unit:= .agg [.lit (.int .i64 r.table),.lit (.int .i64 r.key),.lit (.int .i64 r.v.1),.lit (.int .i64 r.v.2.1),.lit (.int .i64 r.v.2.2)]
def rwR (v:Value):Option (DataW Unit×List MemPlace):=
 match v with
 | .agg cs=>match cs.toList with
   | [.int .i64 a,.int .i64 b,.int .i64 c,.int .i64 d,.int .i64 e]=>some (rwD ⟨a,b,c,d,e⟩,[])
   | _=>none
 | _=>none
theorem aZv (r:Rw):rwR (rwV r)=some (rwD r,[]):=rfl
theorem aTo {v:Value} {y:DataW Unit×List MemPlace} (h:rwR v=some y):∃r,v=rwV r/\y=(rwD r,[]):=by
 unfold rwR at h;split at h
 . rename_i g
   split at h
   . rename_i a b c d e f
     obtain rfl:=Option.some.inj h;obtain⟨l⟩:=g;have f:l=[.int .i64 a,.int .i64 b,.int .i64 c,.int .i64 d,.int .i64 e]:=f;exact⟨⟨a,b,c,d,e⟩,by rw[f];rfl,rfl⟩
   . cases h
 . cases h
theorem aMf {a b:Rw} (h:rwD a=rwD b):a=b:=by
 obtain⟨m,l,k,j,i⟩:=a;obtain⟨g,f,e,d,c⟩:=b;simp[rwD]at h;obtain⟨rfl,rfl,rfl,rfl,rfl⟩:=h;rfl
structure IdKey (P:Program) (K:aA):Prop where
 law:Keyed P K
 ofId:∀t k,In64 t->In64 k->keyOf P K (idV t k)=some (idL t k)
 inv:∀v l,keyOf P K v=some l->∃t k,In64 t/\In64 k/\v=idV t k
theorem IdKey.inj {P:Program} {K:aA} (h:IdKey P K) {t k t' k':Int} (h1:In64 t) (h2:In64 k) (h3:In64 t') (h4:In64 k') (e:idL t k=idL t' k'):t=t'/\k=k':=by
 have:=h.law.inj (h.ofId t k h1 h2) (e▸h.ofId t' k' h3 h4)
 simpa[idV]using this
theorem IdKey.key {P:Program} {K:aA} (h:IdKey P K) {t k:Int} (h1:In64 t) (h2:In64 k):WideAt.IsKeyLit (idL t k):=h.law.key (h.ofId t k h1 h2)
structure MapL (D:DataW Unit) (L:List Rw):Prop where
 size:Maps.size D=L.length
 has:∀t k,In64 t->In64 k->Maps.has D (idL t k)=(getS L t k).isSome
 at_:∀r∈L,∀zd,D.atKey (idL r.table r.key) zd=rwD r
def aIq (L:List Rw):Prop:=∀r∈L,In64 r.table/\In64 r.key
theorem GoodS.rows64 {s:StT} (g:GoodS s):aIq s.rows:=fun r hr=>by
 have h:=g.rows r hr;unfold rowB at h;simp only[Bool.and_eq_true,decide_eq_true_eq]at h;unfold In64;omega
def MapAt (P:Program) (K:aA) (w:World) (b:Nat) (L:List Rw):Prop:=∃D,w.ownsMap P K rwR b L.length D/\MapL D L
section
variable {P:Program} {K:aA} {w:World} {b:Nat} {L:List Rw}
theorem aMl {n:Nat} {D:DataW Unit} (h:w.ownsMap P K rwR b n D):w.ownsMap P K rwR b (Maps.size D) D:=by
 obtain⟨d,a,c,F,e,rfl⟩:=h;exact⟨d,a,c,F,by simp[Maps.size,length_sorted],rfl⟩
theorem MapAt.of {n:Nat} {D:DataW Unit} (h:w.ownsMap P K rwR b n D) (m:MapL D L):MapAt P K w b L:=⟨D,m.size▸aMl h,m⟩
theorem MapAt.lt (h:MapAt P K w b L):b<w.heap.size:=h.choose_spec.1.lt
theorem MapAt.block {w':World} (h:MapAt P K w b L) (hb:w'.heap[b]? =w.heap[b]?):MapAt P K w' b L:=by
 obtain⟨D,⟨f,a,e,F,d,c⟩,m⟩:=h;exact⟨D,⟨f,a,hb.trans e,F,d,c⟩,m⟩
theorem aXr:MapL (.map []) []:=⟨rfl,fun _ _ _ _=>rfl,fun r h=>by simp at h⟩
theorem aSj (w:World):MapAt P K (w.alloc (.map #[] 0)) w.heap.size []:=⟨_,World.ownsMap_made w P K rwR,aXr⟩
theorem MapL.put (I:IdKey P K) {D:DataW Unit} (m:MapL D L) (hD:Maps.Tidy D) (hs:SortS L) (h6:aIq L) (x:Rw) (hx1:In64 x.table) (hx2:In64 x.key):MapL (D.put (idL x.table x.key) (rwD x)) (aS8 L x):=by
 have f:=I.key hx1 hx2;have g:aBs L ⟨x.table,x.key,false,(0,0,0),true,x.v⟩=aS8 L x:=rfl;refine⟨?_,fun t k d b=>?_,fun r a h=>?_⟩
 . rw[Maps.size_put hD,m.has _ _ hx1 hx2,m.size];have:=aF7 hs x.table x.key;unfold aS8;rw[List.length_append,List.length_cons];cases e:getS L x.table x.key <;> simp[e]at this⊢<;> omega
 . by_cases e:x.table=t/\x.key=k
   . obtain⟨rfl,rfl⟩:=e;rw[Maps.has_put_same hD.isMap f,<-g,hs.get_same ⟨x.table,x.key,false,(0,0,0),true,x.v⟩];rfl
   . rw[Maps.has_put_other (fun c=>e (by have:=I.inj d b hx1 hx2 c;exact⟨this.1.symm,this.2.symm⟩)),m.has t k d b,<-g,hs.get_other ⟨x.table,x.key,false,(0,0,0),true,x.v⟩ e]
 . rcases aQ5.1 a with rfl|⟨a,hne⟩
   . exact Maps.atKey_put_same hD.isMap f _ _
   . rw[Maps.atKey_put_other (fun c=>hne (I.inj (h6 r a).1 (h6 r a).2 hx1 hx2 c))];exact m.at_ r a h
theorem MapL.del (I:IdKey P K) {D:DataW Unit} (m:MapL D L) (hD:Maps.Tidy D) (hs:SortS L) (h6:aIq L) (t k:Int) (hx1:In64 t) (hx2:In64 k):MapL (D.del (idL t k)) (aSy L t k):=by
 have i:aBs L ⟨t,k,false,(0,0,0),false,(0,0,0)⟩=aSy L t k:=rfl;refine⟨?_,fun f g h b=>?_,fun r a l=>?_⟩
 . have j:=Maps.size_del (k:=idL t k) hD;rw[m.has _ _ hx1 hx2,m.size]at j;have:=aF7 hs t k;unfold aSy;rw[List.length_append];cases e:getS L t k <;> simp[e]at this j⊢<;> omega
 . by_cases e:t=f/\k=g
   . obtain⟨rfl,rfl⟩:=e;rw[Maps.has_del_same,<-i,hs.get_same ⟨t,k,false,(0,0,0),false,(0,0,0)⟩];rfl
   . rw[Maps.has_del_other (fun d=>e (by have:=I.inj h b hx1 hx2 d;exact⟨this.1.symm,this.2.symm⟩)),m.has f g h b,<-i,hs.get_other ⟨t,k,false,(0,0,0),false,(0,0,0)⟩ e]
 . obtain⟨a,c⟩:=aMo.1 a;rw[Maps.atKey_del_other (fun d=>c (I.inj (h6 r a).1 (h6 r a).2 hx1 hx2 d))];exact m.at_ r a l
theorem MapAt.look (I:IdKey P K) {t e:aA} (h:MapAt P K w b L) (ht:P.underlying t=some (.map K e)) (hz:(zeroValue e).run P w= .ok (rwV rw0) w) {a k:Int} (ha:In64 a) (hk:In64 k) :
 (Instr.lookup t (.map (some b)) (idV a k) true).run P w= .ok (.tuple #[rwV ((getS L a k).getD rw0),.bool (getS L a k).isSome]) w:=by
  obtain⟨D,f,m⟩:=h;obtain⟨v,j,d,i⟩:=f.look_ok I.law ht hz (aZv rw0) (I.ofId a k ha hk);obtain⟨r,rfl,c⟩:=aTo i;have c:=(Prod.mk.inj c).1;rw[d,m.has a k ha hk];cases e:getS L a k with
  | none=>
    rw[Maps.atKey_of_not_has (by rw[m.has a k ha hk,e];rfl)]at c;rw[<-aMf c];rfl
  | some x=>
    obtain⟨g,rfl,rfl⟩:=aBo e;rw[m.at_ x g]at c;rw[<-aMf c];rfl
theorem MapAt.put (I:IdKey P K) {t e:aA} (h:MapAt P K w b L) (ht:P.underlying t=some (.map K e)) (hs:SortS L) (h6:aIq L) (hn:L.length<maxLen) (x:Rw) (hx1:In64 x.table) (hx2:In64 x.key) :
 ∃w',(Instr.mapUpdate t (.map (some b)) (idV x.table x.key) (rwV x)).run P w= .ok () w'/\MapAt P K w' b (aS8 L x)/\w.mapTurned w' b:=by
 obtain⟨D,a,m⟩:=h;obtain⟨w',f,d,c⟩:=a.store I.law ht hn (I.ofId _ _ hx1 hx2) (aZv x);exact⟨w',f,.of d (m.put I (a.tidy I.law) hs h6 x hx1 hx2),c⟩
theorem MapAt.del (I:IdKey P K) {t e:aA} (h:MapAt P K w b L) (ht:P.underlying t=some (.map K e)) (hs:SortS L) (h6:aIq L) (a k:Int) (hx1:In64 a) (hx2:In64 k) (ty:aA) :
 ∃w',(Builtin.delete_ #[t,K] ty #[.map (some b),idV a k]).run P w= .ok (.tuple #[]) w'/\MapAt P K w' b (aSy L a k)/\w.mapTurned w' b:=by
 obtain⟨D,c,m⟩:=h;obtain⟨w',g,f,d⟩:=c.drop I.law ht (I.ofId _ _ hx1 hx2) ty;exact⟨w',g,.of f (m.del I (c.tidy I.law) hs h6 a k hx1 hx2),d⟩
theorem MapAt.len {t e:aA} (h:MapAt P K w b L) (ht:P.underlying t=some (.map K e)) (ty:aA):(Builtin.len_ #[t] ty #[.map (some b)]).run P w= .ok (.int .i64 (L.length:Nat)) w:=by
 obtain⟨D,a,m⟩:=h;rw[<-m.size];exact a.len ht ty
def MapGo (P:Program) (K:aA) (w:World) (b r:Nat) (L:List Rw) (left:Rw->Bool) (cnt:Nat):Prop:=
 ∃D f,w.ranges P K rwR b r L.length D f cnt/\MapL D L/\(∀x∈L,f (idL x.table x.key)=left x)/\∀kl,f kl=true->∃x∈L,kl=idL x.table x.key
theorem MapGo.lt (h:MapGo P K w b r L left cnt):r<w.heap.size/\b<w.heap.size/\r≠b:=by
 obtain⟨D,f,a,_⟩:=h;exact⟨a.lt,a.owns.lt,a.ne⟩
theorem MapGo.kept {w':World} {row:Option Nat} (h:MapGo P K w b r L left cnt) (hg:w.grownBy w' row) (hb:some b≠row) (hr:some r≠row):MapGo P K w' b r L left cnt:=by
 obtain⟨D,f,c,a⟩:=h;exact⟨D,f,c.kept hg hb hr,a⟩
theorem MapGo.map (h:MapGo P K w b r L left cnt):MapAt P K w b L:=by
 obtain⟨D,f,c,a,_⟩:=h;exact⟨D,c.owns,a⟩
theorem MapGo.left_eq (h:MapGo P K w b r L left cnt):w.rangeLeft b r=cnt:=by
 obtain⟨D,f,a,_⟩:=h;exact a.left_eq
theorem MapAt.range (I:IdKey P K) {t e:aA} (h:MapAt P K w b L) (ht:P.underlying t=some (.map K e)) (hs:SortS L) (h6:aIq L) :
 ∃w',(Instr.range t (.map (some b))).run P w= .ok (.pointer (some (w,0))) w'/\MapGo P K w' b w.heap.size L (fun _=>true) L.length/\w.grownBy w' none/\w'.heap.size=w.heap.size+1:=by
 obtain⟨D,f,m⟩:=h;obtain⟨w',B,l,A,v⟩:=f.range I.law ht;rw[m.size]at l;refine⟨w',B,⟨D,Maps.has D,l,m,fun x d=>?_,fun p c=>?_⟩,A,v⟩
 . rw[m.has _ _ (h6 x d).1 (h6 x d).2,hs.get d];rfl
 . obtain⟨N,n,g,o,O,M,F,_,H,_,_,_,J,C,_⟩:=id l;obtain⟨y,u,e⟩:=C p c;obtain⟨z,i⟩:=F.reads y u;rw[WideElems.rg_of i]at e;obtain⟨a,k,r,q,E⟩:=I.inv _ _ (WideElems.rd_key i);have s:=WideElems.rd_key i;rw[E,I.ofId a k r q]at s;have G:p=idL a k:=by rw[<-e];exact(Option.some.inj s).symm
   subst G;rw[m.has a k r q]at c;obtain⟨x,d⟩:=Option.isSome_iff_exists.1 c;obtain⟨j,rfl,rfl⟩:=aBo d;exact⟨x,j,rfl⟩
theorem MapGo.next (I:IdKey P K) {r cnt:Nat} {left:Rw->Bool} (h:MapGo P K w b r L left cnt) (h6:aIq L) (ty:aA) :
 ((∀x∈L,left x=false)/\(Instr.next (.pointer (some (r,0))) false ty).run P w= .ok (.tuple #[.bool false]) w)\/
 ∃x w' cnt',x∈L/\left x=true/\(Instr.next (.pointer (some (r,0))) false ty).run P w= .ok (.tuple #[.bool true,idV x.table x.key,rwV x]) w'/\
   MapGo P K w' b r L (fun y=>left y&&!decide (y=x)) cnt'/\cnt'<cnt/\w.grownBy w' (some r)/\w'.heap.size=w.heap.size/\(Instr.entry (.pointer (some (r,0)))).run P w'= .ok (.tuple #[idV x.table x.key,rwV x]) w':=by
 obtain⟨D,f,o,m,k,l⟩:=h;rcases o.next I.law ty with⟨_,h0,hrun⟩|⟨key,v,kl,y,w',cnt',k1,k2,k3,k4,k5,k6,k7,k8,k9,k10⟩
 . exact .inl ⟨fun x c=>by rw[<-k x c];exact h0 _,hrun⟩
 . right;obtain⟨x,c,rfl⟩:=l kl k2;have a:=h6 x c;have p:key=idV x.table x.key:=I.law.inj k1 (I.ofId _ _ a.1 a.2);obtain⟨q,rfl,rfl⟩:=aTo k3;have i:=k4 (.lit (.bool true));rw[m.at_ x c]at i;obtain rfl:=aMf i;subst p;refine⟨x,w',cnt',c,by rw[<-k x c];exact k2,k5,⟨D,_,k6,m,fun z j=>?_,fun kl g=>?_⟩,k7,k8,k9,k10⟩
   . dsimp only;rw[k z j]
     congr 2
     have d:=h6 z j;by_cases e:z=x
     . subst e;rw[WideAt.sameKey_self (I.key a.1 a.2)];simp
     . rw[Maps.sameKey_ne (fun t=>?_)]
       . simp[e]
       . obtain⟨i,s⟩:=I.inj d.1 d.2 a.1 a.2 t;have n:=m.at_ z j (.lit (.bool true));have u:=m.at_ x c (.lit (.bool true));rw[i,s,u]at n;exact e (aMf n).symm
   . simp only[Bool.and_eq_true]at g;exact l kl g.1
end
end
end Go.Proofs.YtmhpfoicloojcaaGreatDoor
