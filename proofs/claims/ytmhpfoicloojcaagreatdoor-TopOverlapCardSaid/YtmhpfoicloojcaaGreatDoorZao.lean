/- Chunks; slices.Backward; query forms; positions. -/
import Derived.Test.YtmhpfoicloojcaaGreatDoorZag
import Derived.Test.YtmhpfoicloojcaaGreatDoorProg
import Derived.Shelf.RegionOpen
import Derived.Test.YtmhpfoicloojcaaGreatDoorZai
import Derived.Test.YtmhpfoicloojcaaGreatDoorZan
import Derived.Test.YtmhpfoicloojcaaGreatDoorZak
set_option linter.all false
open Go.World renaming size_alloc→aA
open Go renaming World→aB,Value→aC,Calls→aD
namespace Go.Proofs.YtmhpfoicloojcaaGreatDoor
set_option maxRecDepth 100000
set_option maxHeartbeats 16000000
section
open Go.Proofs.Tryz
open Go Go.RowKit
theorem aY7 (a:Option Addr) (m c:Nat) (w:aB) :
 aD prog 248 #[.slice a m c,(64:Int)] w fun e w'=>e= .returned (.func (.func 287) #[] #[.pointer (some (w,0)),.pointer (some (w.heap.size+1,0))])/\w'=(w.alloc (.cells #[.slice a m c] 224)).alloc (.cells #[(64:Int)] 3):=by
 go_enter func248,ntmps248
 go_wp2_with fail
 go_ret;exact⟨rfl,rfl⟩
theorem aVo (n:Nat) (hn:1<=n) (l B1 B2 g mj cp K:Nat) (hmj:mj=64*K) (hcp:mj<=cp) (hcm:cp<=9223372036854775807) (J:Nat->aB->Prop)
 (hbox:∀k W,J k W->W.cell? (B1,0)=some (.slice (some (g,0)) mj cp)/\W.cell? (B2,0)=some (.int .i64 64))
 (hdr:∀k W,J k W->J k W.drew)
 (hY:∀k W,k<K->J k W->YieldAt Fence.wide (n-1) prog l #[.slice (some (g,64*k)) 64 64] W fun e W'=>e= .returned (.bool true)/\J (k+1) W')
 (W:aB) (h0:J 0 W) :
 CallsIn Fence.wide n prog 287 #[.func (.yield l) #[] #[],.pointer (some (B1,0)),.pointer (some (B2,0))] W fun e W'=>(∃v,e= .returned v)/\J K W':=by
 refine callsIn_of_wp func287 rfl trivial ?_ rfl;simp only[ntmps287,List.size_toArray,List.length_cons,List.length_nil,Nat.reduceAdd,Nat.reduceSub,Array.replicate_succ,Array.replicate_zero,List.push_toArray,List.append_toArray,List.nil_append,List.cons_append]
 gi_wp2
 gi_loopw [4] (fun iv wr=>∃k:Nat,k<=K/\iv= .int .i64 ((64*k:Nat):Int)/\J k wr) (fun iv _=>mj-(intOf iv).toNat)
 case atStart=>exact⟨0,by omega,rfl,h0⟩
 case round=>
  obtain⟨k,x,rfl,j⟩:=hrel;obtain⟨p,o⟩:=hbox k wr j;obtain⟨I,c⟩:=ex_ (64*k);rw[<-c];by_cases h:k<K
  . have s:I<mj:=by omega
    have u:I+64<=mj:=by omega
    have r:=hid c;clear hmj c
    gi_wp2
    gi_region
    obtain⟨z,m,d,q,f,t⟩:=hY k wr.drew h (hdr k wr j);rw[<-r.out]at f
    gi_wp2
    refine t.mono ?_;rintro e W' ⟨rfl,b⟩;clear p o;obtain⟨p,o⟩:=hbox (k+1) W' b
    gi_wp2
    have y:=r.out;exact⟨⟨k+1,by omega,congrArg (Value.int .i64) (by omega),b⟩,by simp[intOf];omega⟩
  . have s:¬I<mj:=by omega
    have a:k=K:=by omega
    have i:J K wr:=a▸j;clear a hmj c
    gi_wp2
    go_end0
    exact⟨⟨_,rfl⟩,i⟩
theorem bB8 (a:Option Addr) (m c:Nat) (w:aB) :
 aD prog 222 #[.slice a m c] w fun e w'=>e= .returned (.func (.func 251) #[] #[.pointer (some (w,0))])/\w'=w.alloc (.cells #[.slice a m c] 58):=by
 go_enter func222,ntmps222
 go_wp2_with fail
 go_ret;exact⟨rfl,rfl⟩
theorem aZe (n:Nat) (hn:1<=n) (l B1 g m cp:Nat) (xs:List ByteArray) (hm:m=xs.length) (hcp:m<=cp) (hcm:cp<=9223372036854775807) (J:Nat->aB->Prop)
 (hbox:∀k W,J k W->W.cell? (B1,0)=some (.slice (some (g,0)) m cp)/\∀(j:Nat) x,xs[j]? =some x->W.cell? (g,j)=some (.string x))
 (hY:∀k i W x,i+k+1=m->xs[i]? =some x->J k W->YieldAt Fence.wide (n-1) prog l #[.int .i64 (i:Nat),.string x] W fun e W'=>e= .returned (.bool true)/\J (k+1) W')
 (W:aB) (h0:J 0 W) :
 CallsIn Fence.wide n prog 251 #[.func (.yield l) #[] #[],.pointer (some (B1,0))] W fun e W'=>(∃v,e= .returned v)/\J m W':=by
 refine callsIn_of_wp func251 rfl trivial ?_ rfl;simp only[ntmps251,List.size_toArray,List.length_cons,List.length_nil,Nat.reduceAdd,Nat.reduceSub,Array.replicate_succ,Array.replicate_zero,List.push_toArray,List.append_toArray,List.nil_append,List.cons_append];have A:=hid hm;clear hm;obtain⟨c,_⟩:=hbox 0 W h0
 gi_wp2
 gi_loopw [3] (fun iv wr=>∃(k:Nat) (i:Int),k<=m/\i+(k:Int)<=(m:Int)-1/\(m:Int)-1<=i+(k:Int)/\iv= .int .i64 i/\J k wr) (fun iv _=>(intOf iv+1).toNat)
 case atStart=>exact⟨0,(m:Int)-1,by omega,by omega,by omega,by go_num,h0⟩
 case round=>
  clear c;obtain⟨k,i,D,G,F,rfl,o⟩:=hrel;obtain⟨c,q⟩:=hbox k wr o;by_cases u:k<m
  . obtain⟨I,z⟩:∃I:Nat,i=(I:Int):=⟨i.toNat,by omega⟩;subst z;have s:decide (0<=(I:Int))=true:=by simp
    have C:(0:Int)<=(I:Int):=by omega
    have B:(I:Int)<(m:Int):=by omega
    obtain⟨x,f⟩:∃x,xs[I]? =some x:=⟨_,List.getElem?_eq_getElem (by rw[<-A.out];omega)⟩;have E:=q I x f;obtain⟨H,p,d,r,t,y⟩:=hY k I wr x (by omega) f o;clear q f
    gi_wp2
    refine y.mono ?_;rintro e W' ⟨rfl,b⟩;clear c;obtain⟨c,_⟩:=hbox (k+1) W' b
    gi_wp2
    exact⟨⟨k+1,(I:Int)-1,by omega,by omega,by omega,by go_num,b⟩,by simp[intOf]⟩
  . have s:decide (0<=i)=false:=by simp;omega
    have a:k=m:=by omega
    have h:J m wr:=a▸o;clear a
    gi_wp2
    go_end0
    exact⟨⟨_,rfl⟩,h⟩
end
section
open Go.Proofs.Tryz
open Go Go.RowKit Go.Shelf
attribute [local go_sem] Oper.semAt_some
theorem aFw:prog.underlying 221=some (.map 3 220):=underlying221
theorem aMs:prog.underlying 85=some (.map 3 9):=underlying85
theorem aBx:prog.underlying 3=some (.int .i64):=underlying3
def aYv (word:ByteArray) (g:Nat) (gl:Option Nat):aC:= .agg #[.string word,.func (.func g) #[] #[],.map gl]
def bBn (k:Nat) (v:aC):MapEntry:={key:= .int .i64 k,val:=v,born:=k-1}
def bBm (a b:Nat):Array MapEntry:=#[bBn 1 (aYv ⟨#[114,111,119]⟩ 172 none),bBn 2 (aYv ⟨#[114,111,119,115]⟩ 173 none),bBn 3 (aYv ⟨#[99,111,117,110,116]⟩ 173 none),
 bBn 4 (aYv ⟨#[115,117,109]⟩ 174 (some a)),bBn 5 (aYv ⟨#[109,105,110]⟩ 174 (some a)),bBn 6 (aYv ⟨#[109,97,120]⟩ 174 (some a)),bBn 7 (aYv ⟨#[106,111,105,110]⟩ 175 (some b))]
theorem aYw (w:aB):aD prog 114 #[] w fun e w'=>∃m a b,e= .returned (.map (some m))/\w'.heap[m]? =some (.map (bBm a b) 7)/\Below w w w':=by
 have O:∀(t:TypeId) (W:aB),(Instr.makeMap t none).run prog W= .ok (.map (some W.heap.size)) (W.alloc (.map #[] 0)):=fun _ _=>rfl;have P:=heap_alloc_new w (.map #[] 0);have HB:=hid (Below.al w (.map #[] 0));go_enter func114,ntmps114
 go_wp2_with (first
  | (refine aBd rfl (.tmp 2) (.const (.int .i64 1)) (.const (.string ⟨#[111,102]⟩)) 85 (.inl rfl) aMs aBx w.heap.size 0 _ rfl P (.int .i64 1) _ rfl rfl rfl rfl ?_;intro i i0 C k;have N:(i.alloc (.map #[] 0)).heap[w.heap.size+1]? =some (.map #[] 0):=(by have:=heap_alloc_new i (.map #[] 0);rwa [k,aA]at this))
  | (refine aBd rfl (.tmp 4) (.const (.int .i64 1)) (.tmp 5) 221 (.inl rfl) aFw aBx (w.heap.size+1) 0 _ rfl N (.int .i64 1) _ rfl rfl rfl rfl ?_;intro w1 M B c)
  | (refine aBd rfl (.tmp 4) (.const (.int .i64 2)) (.tmp 6) 221 (.inl rfl) aFw aBx (w.heap.size+1) 1 _ rfl M (.int .i64 2) _ rfl rfl rfl rfl ?_;intro w2 L A d)
  | (refine aBd rfl (.tmp 4) (.const (.int .i64 3)) (.tmp 7) 221 (.inl rfl) aFw aBx (w.heap.size+1) 2 _ rfl L (.int .i64 3) _ rfl rfl rfl rfl ?_;intro w3 K z g)
  | (refine aBd rfl (.tmp 4) (.const (.int .i64 4)) (.tmp 9) 221 (.inl rfl) aFw aBx (w.heap.size+1) 3 _ rfl K (.int .i64 4) _ rfl rfl rfl rfl ?_;intro w4 J y j)
  | (refine aBd rfl (.tmp 4) (.const (.int .i64 5)) (.tmp 11) 221 (.inl rfl) aFw aBx (w.heap.size+1) 4 _ rfl J (.int .i64 5) _ rfl rfl rfl rfl ?_;intro w5 H x q)
  | (refine aBd rfl (.tmp 4) (.const (.int .i64 6)) (.tmp 13) 221 (.inl rfl) aFw aBx (w.heap.size+1) 5 _ rfl H (.int .i64 6) _ rfl rfl rfl rfl ?_;intro f r v D;have n:f.heap.size=w.heap.size+1+1:=(by rw[D,q,j,g,d,c,aA,k,aA]);have F:(f.alloc (.map #[] 0)).heap[w.heap.size+1+1]? =some (.map #[] 0):=(by have:=heap_alloc_new f (.map #[] 0);rwa [n]at this))
  | (refine aBd rfl (.tmp 14) (.const (.int .i64 1)) (.const (.string ⟨#[116,111]⟩)) 85 (.inl rfl) aMs aBx (w.heap.size+1+1) 0 _ rfl F (.int .i64 1) _ rfl rfl rfl rfl ?_;intro v1 E p h)
  | (refine aBd rfl (.tmp 14) (.const (.int .i64 2)) (.const (.string ⟨#[111,102]⟩)) 85 (.inl rfl) aMs aBx (w.heap.size+1+1) 1 _ rfl E (.int .i64 2) _ rfl rfl rfl rfl ?_;intro v2 q2 o s
     have l:=(o.block (w.heap.size+1) (by rw[h,aA,n];omega) (by omega)).trans ((p.block (w.heap.size+1) (by rw[aA,n];omega) (by omega)).trans ((heap_alloc_old f _ _ (Array.getElem?_eq_some_iff.1 r).1).trans r)))
  | (refine aBd rfl (.tmp 4) (.const (.int .i64 7)) (.tmp 16) 221 (.inl rfl) aFw aBx (w.heap.size+1) 6 _ rfl l (.int .i64 7) _ rfl rfl rfl rfl ?_;intro w7 G u s7)
  | fail)
 go_ret;refine⟨w.heap.size+1,rfl,⟨w.heap.size,w.heap.size+1+1,G⟩,?_⟩;have k0:i.heap.size=w.heap.size+1:=by rw[k,aA]
 have Z:=HB.trans (C.below (Nat.le_refl _) (by rw[aA];omega));have Y:=(Z.alloc (by omega) (.map #[] 0)).trans (B.below (by omega) (by rw[aA];omega));have X:=Y.trans (A.below (by omega) (by rw[c,aA];omega));have V:=X.trans (z.below (by omega) (by rw[d,c,aA];omega));have U:=V.trans (y.below (by omega) (by rw[g,d,c,aA];omega));have T:=U.trans (x.below (by omega) (by rw[j,g,d,c,aA];omega));have S:=T.trans (v.below (by omega) (by rw[q,j,g,d,c,aA];omega));have R:=(S.alloc (by omega) (.map #[] 0)).trans (p.below (by omega) (by rw[aA];omega));have Q:=R.trans (o.below (by omega) (by rw[h,aA];omega));exact Q.trans (u.below (by omega) (by rw[s,h,aA];omega))
theorem aSu {W:aB} {m a b:Nat} (h:W.heap[m]? =some (.map (bBm a b) 7)):(Instr.lookup 221 (.map (some m)) (.int .i64 3) false).run prog W= .ok (aYv ⟨#[99,111,117,110,116]⟩ 173 none) W:=
 (aDu (i:=2) aFw aBx (show MapKept.IsKey (.int .i64) (.int .i64 3)from rfl) h rfl).1
theorem aRb (n:Int) (h0:0<=n) (h1:n<=10000) (w:aB):aD prog 23 #[n] w fun e w'=>e= .returned (.bool true)/\w'=w:=by
 go_enter func23,ntmps23
 go_wp2_with fail
 go_ret;exact⟨rfl,rfl⟩
theorem aLy (C:Nat) (pos base:Int) (A:Option Addr) (N c:Nat) (rest:List aC) (w:aB) (hC:BlkIs w C 87 (.int .i64 pos :: .slice A N c :: rest)) (hpos:pos=base+(N:Int))
 (hN:N<=64) (hc:N<=c) (hA:A=none->N=0/\c=0) :
 aD prog 40 #[.pointer (some ⟨C,0,none⟩),base] w fun e w'=>e= .returned (.tuple #[.slice A N c,true])/\Below w.heap.size w w':=by
 obtain⟨b,a⟩:=hC.C2;have h:IntKind.i64.wrap (pos-base)=(N:Int):=by rw[IntKind.wrap_i64];omega
 have g:max (N:Int) 0=(N:Int):=by omega
 have f:IntKind.i64.wrap ((N:Int)-(N:Int))=0:=by rw[IntKind.wrap_i64];omega
 have d:decide (N<N)=false:=by simp
 clear hC hpos;cases A with
 | none=>
   obtain⟨rfl,rfl⟩:=hA rfl;clear hA hN hc;go_enter func40,ntmps40
   go_wp2_with fail
   go_region
   go_wp2_with fail
   go_ret2
   exact⟨rfl,Below.drew (Below.refl _ _)⟩
 | some ad=>
   clear hA;go_enter func40,ntmps40
   go_wp2_with fail
   go_region
   go_wp2_with fail
   go_ret2
   exact⟨rfl,Below.drew (Below.refl _ _)⟩
theorem aZb (P:Nat) (k0 k1 k2 b3 b4:aC) (rest:List aC) (w:aB) (hP:BlkIs w P 149 (k0 :: k1 :: k2 :: b3 :: b4 :: rest)) :
 aD prog 59 #[.pointer (some ⟨P,0,none⟩)] w fun e w'=>e= .returned (.tuple #[])/\BlkIs w' P 149 (k0 :: k1 :: k2 :: .pointer (some ⟨P,0,none⟩) :: .pointer (some ⟨P,0,none⟩) :: rest)/\Ch [P] w w':=by
 have f:=hP.frozen 3;have d:=hP.frozen 4;have c:=hP.c3;have b:=hP.c4;have a:=hid hP;clear hP;go_enter func59,ntmps59
 go_wp2_with fail
 go_region
 go_wp2_with fail
 go_end0
 exact⟨rfl,((a.set 3 _).set 4 _).drew,(((Ch.refl [P] w).setCell (p:=⟨P,3,none⟩) (.inl (by simp)) _).setCell (p:=⟨P,4,none⟩) (.inl (by simp)) _).drew⟩
theorem aUt (x P:Nat) (hne:x≠P) (a0 a1 a2 a3 a4 k0 k1 k2 b4:aC) (rest:List aC) (w:aB) (hx:BlkIs w x 145 [a0,a1,a2,a3,a4])
 (hP:BlkIs w P 149 (k0 :: k1 :: k2 :: .pointer (some ⟨P,0,none⟩) :: b4 :: rest)) :
 aD prog 66 #[.pointer (some ⟨x,0,none⟩),.pointer (some ⟨P,0,none⟩)] w fun e w'=>e= .returned (.tuple #[])/\
   BlkIs w' x 145 [a0,a1,a2,.pointer (some ⟨P,0,none⟩),.pointer (some ⟨P,0,none⟩)]/\BlkIs w' P 149 (k0 :: k1 :: k2 :: .pointer (some ⟨x,0,none⟩) :: .pointer (some ⟨x,0,none⟩) :: rest)/\Ch [x,P] w w':=by
 have m:=hx.frozen 3;have l:=hx.frozen 4;have k:=hP.frozen 3;have j:=hP.frozen 4;have i:=hx.c3;have h:=hx.c4;have g:=hP.c3;have f:=hP.c4;have b:x≠P:=hne;have a:P≠x:=fun e=>hne e.symm;have d:=hid hP;have c:=hid hx;clear hP hx hne;go_enter func66,ntmps66
 go_wp2_with fail
 go_end0
 exact⟨rfl,((((c.set 3 (.pointer (some ⟨P,0,none⟩))).set 4 (.pointer (some ⟨P,0,none⟩))).other (p:=⟨P,4,none⟩) b _).other (p:=⟨P,3,none⟩) b _),
   ((((d.other (p:=⟨x,3,none⟩) a _).other (p:=⟨x,4,none⟩) a _).set 4 (.pointer (some ⟨x,0,none⟩))).set 3 (.pointer (some ⟨x,0,none⟩))),
   ((((Ch.refl [x,P] w).setCell (p:=⟨x,3,none⟩) (.inl (by simp)) _).setCell (p:=⟨x,4,none⟩) (.inl (by simp)) _).setCell (p:=⟨P,4,none⟩) (.inl (by simp)) _).setCell (p:=⟨P,3,none⟩) (.inl (by simp)) _⟩
theorem aNv (x P U:Nat) (hxU:x≠U) (hPU:P≠U) (a0 a3 a4 k0 k1 k2 k3 k4 k5 k6 k8:aC) (sz c:Nat) (us:List aC) (w:aB) (hx:BlkIs w x 145 [a0,(),(1:Int),a3,a4])
 (hP:BlkIs w P 149 [k0,k1,k2,k3,k4,k5,k6,.slice (some ⟨U,0,none⟩) sz c,k8,(10:Int)]) (hU:BlkIs w U 3 (.int .i64 0 :: us)) (hz:0<sz) :
 aD prog 67 #[.pointer (some ⟨P,0,none⟩),.pointer (some ⟨x,0,none⟩),(1:Int)] w fun e w'=>e= .returned (.tuple #[])/\Ch [P,U] w w':=by
 obtain⟨-,f,d⟩:=hx.C3;have b:=hP.c7;have a:=hP.c9;have h:=hP.frozen 9;have g:=hU.c0;have i:=hU.frozen 0;clear hx hP hU hxU hPU;go_enter func67,ntmps67
 go_wp2_with fail
 go_region
 go_wp2_with fail
 go_region
 go_wp2_with fail
 go_end0
 exact⟨rfl,(((Ch.refl [P,U] w).setCell (p:=⟨U,0,none⟩) (.inl (by simp)) _).drew.setCell (p:=⟨P,9,none⟩) (.inl (by simp)) _).drew⟩
end
end Go.Proofs.YtmhpfoicloojcaaGreatDoor
