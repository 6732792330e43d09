/- Ranges of the store's state. -/
import Derived.Test.YtmhpfoicloojcaaGreatDoorZaz
import Derived.Test.YtmhpfoicloojcaaGreatDoorZShelfS
set_option linter.all false
open Array renaming getElem?_eq_getElem→aA
open Go renaming World→aB,Value→aC,Calls→aD
namespace Go.Proofs.YtmhpfoicloojcaaGreatDoor
set_option maxRecDepth 100000
set_option maxHeartbeats 16000000
section
open Go.Proofs.Tryz
open Go Go.RowKit Go.Shelf
open Go.Sort (grow grow_grow alloc_eq_grow)
attribute [local go_sem] Oper.semAt_some
variable {a w:aB}
def orI (a b:Int):Int:=if a=0 then b else a
theorem bD1 (g o c:Nat) (x y:Int) (w:aB) (h0:w.cell? (g,o)=some (.int .i64 x)) (h1:w.cell? (g,o+1)=some (.int .i64 y)) :
 aD prog 170 #[.slice (some (g,o)) 2 c] w fun e w'=>e= .returned (.int .i64 (orI x y))/\w'=w:=by
 by_cases a:x=0
 . subst a;by_cases b:y=0
   . subst b;go_enter func170,ntmps170
     go_wp2_with fail
     go_loopw [8] (fun iv wr=>(iv= .int .i64 0\/iv= .int .i64 1\/iv= .int .i64 2)/\wr=w) (fun iv _=>2-(intOf iv).toNat)
     case atStart=>exact⟨.inl rfl,rfl⟩
     case round=>
      obtain⟨rfl|rfl|rfl,rfl⟩:=hrel
      . go_wp2_with fail
        exact⟨⟨by simp,by trivial⟩,by simp[intOf]⟩
      . go_wp2_with fail
        exact⟨⟨by simp,by trivial⟩,by simp[intOf]⟩
      . go_wp2_with fail
        go_ret;exact⟨rfl,rfl⟩
   . have d:(y != 0)=true:=by simpa using b
     have e:orI 0 y=y:=rfl;rw[e];clear b e;go_enter func170,ntmps170
     go_wp2_with fail
     go_loopw [8] (fun iv wr=>(iv= .int .i64 0\/iv= .int .i64 1)/\wr=w) (fun iv _=>2-(intOf iv).toNat)
     case atStart=>exact⟨.inl rfl,rfl⟩
     case round=>
      obtain⟨rfl|rfl,rfl⟩:=hrel
      . go_wp2_with fail
        exact⟨⟨by simp,by trivial⟩,by simp[intOf]⟩
      . go_wp2_with fail
        go_ret;exact⟨rfl,rfl⟩
 . have d:(x != 0)=true:=by simpa using a
   have e:orI x y=x:=if_neg a;rw[e];clear a e;go_enter func170,ntmps170
   go_wp2_with fail
   go_loopw [8] (fun iv wr=>iv= .int .i64 0/\wr=w) (fun iv _=>2-(intOf iv).toNat)
   case atStart=>exact⟨rfl,rfl⟩
   case round=>
    obtain⟨rfl,rfl⟩:=hrel;go_wp2_with fail
    go_ret;exact⟨rfl,rfl⟩
def Gr (w w':aB):Prop:=∃q os,w'=grow (w.drewN q) os
theorem Gr.refl (w:aB):Gr w w:=⟨0,#[],by simp[grow,World.drewN]⟩
theorem Gr.drew (h:Gr a w):Gr a w.drew:=by
 obtain⟨q,b,rfl⟩:=h;exact⟨q+1,b,rfl⟩
theorem Gr.alloc (h:Gr a w) (o:Obj):Gr a (w.alloc o):=by
 obtain⟨q,b,rfl⟩:=h;exact⟨q,b++#[o],by rw[alloc_eq_grow,grow_grow]⟩
theorem Gr.below (h:Gr a w):Below a a w:=by
 obtain⟨q,b,rfl⟩:=h;refine⟨rfl,rfl,rfl,by simp[grow,World.drewN],fun k c=>?_⟩
 show(a.heap++b)[k]? =a.heap[k]?
 rw[Array.getElem?_append_left c]
theorem Gr.trans {b:aB} (h:Gr a b) (k:Gr b w):Gr a w:=by
 obtain⟨q,e,rfl⟩:=h;obtain⟨d,c,rfl⟩:=k;exact⟨q+d,e++c,by simp[grow,World.drewN,Nat.add_assoc,Array.append_assoc]⟩
theorem aIx (r:Rw) (c:Int) (w:aB) :
 aD prog 91 #[rwV r,c] w fun e w'=>e= .returned (.int .i64 (r.val c))/\Gr w w':=by
 refine(aQu r c w).mono ?_;rintro e w' ⟨rfl,rfl⟩;exact⟨rfl,(Gr.refl w).alloc _⟩
def cfO (c:Int) (x y:Rw):Int:=orI (Lib.compareInt (x.val c) (y.val c)) (Lib.compareInt x.key y.key)
theorem bDh (x y:Rw) (c:Int) (bx:Nat) (w:aB) (hc:w.cell? (bx,0)=some (.int .i64 c)) :
 aD prog 169 #[rwV x,rwV y,.pointer (some (bx,0))] w fun e w'=>e= .returned (.int .i64 (cfO c x y))/\Gr w w':=by
 have f:=fun W=>aIx x c W;have d:=fun W=>aIx y c W;have h:=fun W=>Tryz.cmp_Compare_int (x.val c) (y.val c) W;have g:=fun W=>Tryz.cmp_Compare_int x.key y.key W;unfold cfO;obtain⟨X,G⟩:=ex_ (Lib.compareInt (x.val c) (y.val c));obtain⟨Y,F⟩:=ex_ (Lib.compareInt x.key y.key);rw[<-G]at h⊢;rw[<-F]at g⊢;generalize x.val c=vx at *;generalize y.val c=vy at *;clear G F;obtain⟨q,r,u,t,s⟩:=x;obtain⟨k,l,o,n,m⟩:=y;have v:bx<w.heap.size:=aAl hc;have z:Gr w ((w.alloc (.cells (rwC ⟨q,r,u,t,s⟩).toArray 116)).alloc (.cells (rwC ⟨k,l,o,n,m⟩).toArray 116)):=((Gr.refl w).alloc _).alloc _;have j:BlkIs ((w.alloc (.cells (rwC ⟨q,r,u,t,s⟩).toArray 116)).alloc (.cells (rwC ⟨k,l,o,n,m⟩).toArray 116)) w.heap.size 116 (rwC ⟨q,r,u,t,s⟩):=BlkIs.alloc (BlkIs.new w 116 _) _;have i:BlkIs ((w.alloc (.cells (rwC ⟨q,r,u,t,s⟩).toArray 116)).alloc (.cells (rwC ⟨k,l,o,n,m⟩).toArray 116)) (w.heap.size+1) 116 (rwC ⟨k,l,o,n,m⟩):=aAn _ _ _ (by rw[World.size_alloc]);unfold rwV;unfold rwC at z j i;unfold rwV at f d;dsimp only at f d g z j i⊢;obtain⟨C,B,E,D⟩:=aBp f d h g;clear f d h g;go_enter func169,ntmps169
 go_wp2_with fail
 generalize (w.alloc (.cells _ 116)).alloc (.cells _ 116)=w2 at *;have Z:Gr w2 w2:=Gr.refl w2;have b:=hid (fun(W:aB) (a:Gr w2 W)=>(show(fun W=>W.cell? (bx,0)=some (.int .i64 c)/\(W.cell? (w,0)=some (.int .i64 q)/\W.cell? (w,1)=some (.int .i64 r)/\W.cell? (w,2)=some (.int .i64 u)/\W.cell? (w,3)=some (.int .i64 t)/\W.cell? (w,4)=some (.int .i64 s))/\W.cell? (w.heap.size+1,0)=some (.int .i64 k)/\W.cell? (w.heap.size+1,1)=some (.int .i64 l)/\W.cell? (w.heap.size+1,2)=some (.int .i64 o)/\W.cell? (w.heap.size+1,3)=some (.int .i64 n)/\W.cell? (w.heap.size+1,4)=some (.int .i64 m)) W from⟨((z.below.cell (p:=⟨bx,0,none⟩) v).symm▸hc:w2.cell? (bx,0)=_)▸(a.below.cell (p:=⟨bx,0,none⟩) (Nat.lt_of_lt_of_le v z.below.size)),⟨(j.later a.below).cell 0,(j.later a.below).cell 1,(j.later a.below).cell 2,(j.later a.below).cell 3,(j.later a.below).cell 4⟩,(i.later a.below).cell 0,(i.later a.below).cell 1,(i.later a.below).cell 2,(i.later a.below).cell 3,(i.later a.below).cell 4⟩));replace Z:=Z.drew;refine aKs (fun W=>W.cell? (bx,0)=some (.int .i64 c)/\(W.cell? (w,0)=some (.int .i64 q)/\W.cell? (w,1)=some (.int .i64 r)/\W.cell? (w,2)=some (.int .i64 u)/\W.cell? (w,3)=some (.int .i64 t)/\W.cell? (w,4)=some (.int .i64 s))/\W.cell? (w.heap.size+1,0)=some (.int .i64 k)/\W.cell? (w.heap.size+1,1)=some (.int .i64 l)/\W.cell? (w.heap.size+1,2)=some (.int .i64 o)/\W.cell? (w.heap.size+1,3)=some (.int .i64 n)/\W.cell? (w.heap.size+1,4)=some (.int .i64 m)) [(0,false),(1,false),(3,false),(4,false),(7,false),(8,false),(9,false),(10,false),(2,true),(5,true),(6,true),(11,true),(12,true),(13,true),(14,true)] (b.out _ Z) ?_
 repeat (first
  | refine aAq.A0 ?_|refine aAq.AG ?_|refine aAq.AS ?_
  | (first
     | refine aAq.P0 ?_|refine aAq.PG ?_
     intro K H;go_simp
     first
     | (go_at_call 91;(first|(with_reducible refine(C.out _).mono ?_)|(with_reducible refine(B.out _).mono ?_)|fail);rintro e A ⟨rfl,J⟩;replace Z:=Z.trans J;clear J;go_wp2_with fail)
     | (go_at_call 171;(first|(with_reducible refine(E.out _).mono ?_)|(with_reducible refine(D.out _).mono ?_)|fail);rintro e A ⟨rfl,rfl⟩;go_wp2_with fail)
     | (go_at_call 170;(refine(bD1 _ 0 2 X Y _ (by rw[(BlkIs.new A 3 _).cell];rfl) (by rw[(BlkIs.new A 3 _).cell];rfl)).mono ?_);rintro e A ⟨rfl,rfl⟩;replace Z:=Z.alloc (.cells #[X,Y] 3);go_wp2_with fail)
     | skip|fail
     refine H.out _ _ ?_ (fun _=>?_)
     . first|exact b.out _ Z|exact b.out _ (Z.alloc _)
     clear H K;try simp only[Act.put,sx1,sx2,sx3]))
 refine aAq.fin ?_;go_wp2_with fail
 go_ret;exact⟨rfl,z.trans Z⟩
end
section
open Go.Proofs.Tryz
open Go Go.RowKit Go.Shelf
open Go.Sort (grow grow_grow alloc_eq_grow PermIn SortedIn SWO putCells heap_grow_old putRow mapBlock onCells flatK size_flatK get_flatK HoldsK putRowK)
variable {w:aB} {g:Nat}
instance:Inhabited Rw:=⟨rw0⟩
theorem aOp (L:List Rw) (j:Nat):(flatK rwC 5 L.toArray)[j]? =(L.flatMap rwC)[j]? :=by
 have k:(flatK rwC 5 L.toArray).size=L.length*5:=by rw[size_flatK];simp
 have l:=aAk rwC 5 aAu L;by_cases d:j<L.length*5
 . have g:j / 5<L.length:=by omega
   have f:j % 5<5:=Nat.mod_lt _ (by decide);obtain⟨x,b⟩:∃x,L[j / 5]? =some x:=⟨_,List.getElem?_eq_getElem g⟩;obtain⟨u,c⟩:∃u,(rwC x)[j % 5]? =some u:=⟨_,List.getElem?_eq_getElem (by rw[aAu];exact f)⟩;have e:=aBk rwC 5 aAu L _ _ _ _ b c;rw[Nat.div_add_mod' j 5]at e;rw[e];have a:=get_flatK rwC 5 L.toArray j (by simpa using d)
   have i:L.toArray[j / 5]! =x:=by
    rw[getElem!_def];simp[b]
   rw[i]at a;have h:(rwC x)[j % 5]! =u:=by rw[getElem!_def,c]
   rw[h]at a;rw[aA (by omega)];rw[getElem!_pos _ _ (by omega)]at a;rw[a]
 . rw[Array.getElem?_eq_none (by omega),List.getElem?_eq_none (by omega)]
theorem aU1 {cur:Array aC} {e:TypeId} {L:List Rw} (hb:w.heap[g]? =some (.cells cur e (0,0))) (ht:cur.toList.take (L.length*5)=L.flatMap rwC):HoldsK rwC 5 w g 0 L.toArray:=by
 intro j b;have a:j<L.length*5:=by simpa using b
 refine⟨?_,by simp[World.frozen?,hb]⟩;have c:(cur.toList.take (L.length*5))[j]? =(L.flatMap rwC)[j]? :=by rw[ht]
 rw[List.getElem?_take_of_lt a,<-aOp,aA b]at c;simp only[World.cell?,hb,Nat.zero_add];simp only[Option.isSome_none,Bool.false_eq_true,if_false];rw[<-Array.getElem?_toList,c,getElem!_pos (flatK rwC 5 L.toArray) j b];rfl
theorem aQd {n:Nat} {os:Array Obj} {cur:Array aC} {e:TypeId} {fr:Nat×Nat} (d:Array Rw) (hb:w.heap[g]? =some (.cells cur e fr)) :
 (sortWorldK rwC 5 w g 0 n d os).heap[g]? =some (.cells (putCells id 0 (flatK rwC 5 d) cur) e fr):=by
  have a:g<w.heap.size:=(Array.getElem?_eq_some_iff.1 hb).1;unfold sortWorldK putRowK;rw[heap_grow_old _ _ (by simpa using a)];simp[putRow,mapBlock,Sort.ahead,Array.getElem?_modify,hb,onCells]
theorem aGi {w:aB} {g n:Nat} {os:Array Obj} (d:Array Rw):w.grownBy (sortWorldK rwC 5 w g 0 n d os) (some g):=by
 refine⟨rfl,rfl,rfl,by simp[sortWorldK,putRowK],fun k b a=>?_⟩;unfold sortWorldK putRowK;rw[heap_grow_old _ _ (by simpa using b)];have:g≠k:=fun e=>a (by rw[e]);simp[putRow,mapBlock,Sort.ahead,Array.getElem?_modify,this]
theorem aL7 (cur:Array aC) (L:List Rw) (h:L.length*5<=cur.size):(putCells id 0 (flatK rwC 5 L.toArray) cur).toList.take (L.length*5)=L.flatMap rwC:=by
 apply List.ext_getElem?;intro j;by_cases a:j<L.length*5
 . rw[List.getElem?_take_of_lt a,Array.getElem?_toList,<-aOp];have b:j<(flatK rwC 5 L.toArray).size:=by rw[size_flatK];simpa using a
   rw[aA b];simp[putCells,a,show j<cur.size by omega]
 . rw[List.getElem?_take_eq_none (by omega),List.getElem?_eq_none (by rw[aAk rwC 5 aAu];omega)]
theorem aRr (c:Int) (x y:Rw):ltOf (cfO c) x y=ltO c x y:=by
 unfold ltOf cfO ltO orI Lib.compareInt;by_cases b:x.val c<y.val c
 . simp[b]
 . by_cases f:y.val c<x.val c
   . have:¬x.val c=y.val c:=by omega
     simp[b,f,this]
   . have e:x.val c=y.val c:=by omega
     by_cases a:x.key<y.key
     . simp[e,a]
     . by_cases d:y.key<x.key <;> simp[e,a,d]
theorem bFa (c:Int):SWO (ltOf (cfO c)) where
 irrefl x:=by rw[aRr,aLm];omega
 trans x y z h1 h2:=by rw[aRr,aFb]at *;omega
 ntrans x y z h1 h2:=by rw[aRr,aLm]at *;omega
theorem aRc (w:aB):(isAgg 116).run prog w= .ok true w:=isAgg116 w
theorem aJh (w:aB):(Go.sizeOf 116).run prog w= .ok 5 w:=sizeOf116 w
theorem aQm {n:Nat} {os:Array Obj} (d:Array Rw) {bx:Nat} {u:aC} (h:w.cell? ⟨bx,0,none⟩=some u) (hne:bx≠g):(sortWorldK rwC 5 w g 0 n d os).cell? ⟨bx,0,none⟩=some u:=by
 have a:=aAl h;rw[<-h];have k:=(@aGi w g n os d).block bx a (fun e=>hne (Option.some.inj e));unfold World.cell?;rw[k]
theorem aWm {base:Nat} {v:aC} {L:List Rw} {c:Int} {bx:Nat} (hown:w.ownsRow base 116 5 v L.length (L.flatMap rwC)) (hc:w.cell? ⟨bx,0,none⟩=some (.int .i64 c)) (hne:v.ownBlock≠some bx) (hl:L.length<4611686018427387904) :
 aD prog 168 #[v,.func (.func 169) #[] #[.pointer (some ⟨bx,0,none⟩)]] w fun e w'=>e= .returned (.tuple #[])/\
   ∃L':List Rw,L'.Perm L/\(L'.Pairwise fun a b=>leO c a b=true)/\w'.ownsRow base 116 5 v L'.length (L'.flatMap rwC)/\w.grownBy w' v.ownBlock:=by
 rcases hown.2 with⟨rfl,h0⟩|⟨g,cap,cur,rfl,hbase,hb,h1,h2,h3,h4⟩
 . have:L=[]:=List.eq_nil_of_length_eq_zero h0;subst this;refine(AnyF.slices_SortFunc_none Tryz.sortRow none 0 _ w).mono ?_;rintro e w' ⟨rfl,rfl⟩;exact⟨rfl,[],List.Perm.refl _,List.Pairwise.nil,hown,World.grownBy.refl _ _⟩
 . have l:bx≠g:=fun e=>hne (by rw[e];rfl);have F:g<w.heap.size:=(Array.getElem?_eq_some_iff.1 hb).1;have G:∀h w,(callFunc 169 h).run prog w= .ok (.enter 169 h) w:=enters_of func169 (by kernel_rfl) rfl
   have o:CmpLays prog 169 #[.pointer (some ⟨bx,0,none⟩)] rwC 5 (cfO c) g 0 L.toArray.size w:=fun m A H _ x y=>
    bDh x y c bx _ (aQm H hc l)
   have f:=AnyQ.slices_SortFunc Tryz.sortRow 5 aRc aJh rwC aAu (fun x u q=>by
    simp only[rwC,List.mem_cons,List.not_mem_nil,or_false]at q;rcases q with rfl|rfl|rfl|rfl|rfl <;> rfl) (cfO c) (bFa c) 169 #[.pointer (some ⟨bx,0,none⟩)] g 0 cap L.toArray w G o (aU1 hb h4) F (by simpa using hl)
   rw[List.size_toArray]at f;refine Calls.mono f ?_;rintro e w' ⟨rfl,J,n,A,C,B,rfl⟩;obtain⟨z,K,t⟩:=C;obtain⟨L'⟩:=J;have d:L'.length=L.length:=by simpa using z
   have k:L'.Perm L:=by
    have s:((L'.toArray).extract 0 L.toArray.size).toList=L':=by
     simp;rw[<-d,List.take_length]
    have r:((L.toArray).extract 0 L.toArray.size).toList=L:=by simp
    have:=t;simp only[List.size_toArray]at this s r;rw[s,r]at this;exact this
   refine⟨rfl,L',k,?_,⟨by rw[aAk rwC 5 aAu],.inr ⟨g,cap,_,by rw[d],hbase,aQd _ hb,by omega,h2,by simpa[putCells]using h3,?_⟩⟩,aGi _⟩
   . rw[List.pairwise_iff_getElem];intro i j E D p;have:=B i j (Nat.zero_le _) p (by omega);rw[aRr]at this;unfold leO;rw[getElem!_pos _ _ (by simpa using D),getElem!_pos _ _ (by simpa using E)]at this
     simpa using this
   . exact aL7 cur L' (by omega)
end
end Go.Proofs.YtmhpfoicloojcaaGreatDoor
