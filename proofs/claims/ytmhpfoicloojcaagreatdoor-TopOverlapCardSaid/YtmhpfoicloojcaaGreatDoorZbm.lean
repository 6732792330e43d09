/- Walks: inserted, join, caught, clones. -/
import Derived.Test.YtmhpfoicloojcaaGreatDoorZbk
import Derived.Shelf.Spec.SlicesInsert
import Derived.Test.YtmhpfoicloojcaaGreatDoorZbl
set_option linter.all false
open List renaming eq_nil_of_length_eq_zero→aB,getElem?_eq_some_iff→aN,length_append→aO,length_drop→aP,getElem?_zip_eq_some→aS,getElem?_eq_getElem→aU,length_take→bE,take_left'→bP
open Go.RowKit.Below renaming refl→aE,drew→bC
open Go.Builtin renaming zeroCells→aF
open Nat renaming le_refl→aG,eq_zero_or_pos→aM,zero_add→aQ,zero_mul→aR,mul_le_mul_right→bB,lt_of_lt_of_le→bG,add_mul→bH,zero_le→bI,le_trans→bJ,min_eq_left→bN
open Go.Addr renaming add_mid→aT
open Go.World renaming ownsRow_nil→bD,ownsRow_made→bF,size_alloc→bK
open Option renaming some→bL
open Go.Value renaming nilFunc→bM,oneCell'→bQ
open Go renaming World→bR,Value→bT,Calls→bY
open Go.RowKit renaming Below→bU
namespace Go.Proofs.YtmhpfoicloojcaaGreatDoor
open Below renaming next→aD,one→bA
set_option maxRecDepth 100000
set_option maxHeartbeats 16000000
section
open Go.Proofs.Tryz
open Go Go.RowKit Go.Shelf
attribute [local go_sem] Oper.semAt_some
theorem aEz (p:(Rw×Rw)->Bool) (gp:Nat) (lb:Array bT) (eg:∀args w,(callFunc gp args).run prog w= .ok (.enter gp args) w) (v:bT) (xs:List (Rw×Rw)) (w:bR)
 (hv:∃A c,v= .slice A xs.length c/\(0<xs.length->∃g o,A=some ⟨g,o,none⟩/\g<w.heap.size/\∀(j:Nat) u,(xs.flatMap prC)[j]? =some u->w.cell? ⟨g,o+j,none⟩=some u))
 (hp:aHz prV w.heap.size w gp lb p) (h8:xs.length<=100000) :
 bY prog 267 #[v,.func (.func gp) #[] lb] w fun e w'=>
  ∃v',e= .returned v'/\w'.ownsRow w.heap.size 358 10 v' (xs.filter fun x=>!p x).length ((xs.filter fun x=>!p x).flatMap prC)/\bU w w w':=by
 have h:=hid (aVl v xs w hv h8);have f:=hid (fun v' W (d:bU w w W) m=>bBs p gp lb eg w.heap.size v' xs W m (hp.later d) d.size h8);clear hv hp h8;go_enter func267,ntmps267
 go_wp2_with fail
 refine(h.out).mono ?_;rintro e i ⟨k,rfl,b,a⟩;have n:=f.out k i a b;have r:=hid a;clear h f b a;go_wp2_with fail
 refine n.mono ?_;rintro e s ⟨t,rfl,l,q⟩;go_wp2_with fail
 go_ret;exact⟨_,rfl,l,r.trans q⟩
theorem aP7 (xs:List (Rw×Rw)) (x:(Rw×Rw)) (i:Nat) (hi:i<=xs.length):(xs.take i++x :: xs.drop i).length=xs.length+1:=by
 rw[aO,List.length_cons,bE,aP];omega
theorem aSq (B:Nat) (v:bT) (xs:List (Rw×Rw)) (x:(Rw×Rw)) (vb:Nat) (w:bR) (hv:w.ownsRow B 358 10 v xs.length (xs.flatMap prC)) (hx:BlkIs w vb 358 (prC x)) (hB:B<=w.heap.size) (h8:xs.length<=100000) :
 bY prog 301 #[v,xs.length,.slice (some (vb,0)) 1 1] w fun e w'=>∃v',e= .returned v'/\w'.ownsRow B 358 10 v' (xs.length+1) ((xs++[x]).flatMap prC)/\bU B w w':=by
 obtain⟨p,s,l,i,h⟩:=aYd;have g:∀k,v.ownBlock=some k->B<=k:=fun k r=>(hv.lt k r).1;obtain⟨A,c,d,y,m,-⟩:=aAa hv
 have a:∀(j:Nat) u,(prC x)[j]? =some u->w.cell? ((⟨vb,0,none⟩:Addr).add j)=some u:=fun j u q=>by
  rw[aT,aQ,hx.cell];exact q
 have o:(xs++[x]).flatMap prC=xs.flatMap prC++prC x:=by simp
 rw[o];obtain⟨N,n⟩:=ex_ xs.length;rw[<-n]at hv h8 d y⊢;obtain⟨z,D,C⟩:=aAw hv a g;clear hv a hx o n m g;subst d;by_cases t:c=N
 all_goals
   go_enter func301,ntmps301
   go_wp2_with (at_builtin;refine wpList_append_own _ rfl _ _ 356 rfl B 358 p (prV (rw0,rw0)) 10 80 underlying356 s l i h rfl (by decide) _ _ _ rfl z.out ⟨vb,0,none⟩ 1 1 (prC x) rfl (by rfl) D.out (aDd x) (by unfold maxLen;omega) (by omega) hB ?_;intro v' E f b _)
   go_ret;exact⟨v',rfl,f,(aE B w).grown b hB C.out⟩
theorem aUv (xs:List (Rw×Rw)) (sp:List bT) (x:(Rw×Rw)) (i:Nat) (hi:i<xs.length) (D cs1:List bT) (hD:D=(xs.drop i).flatMap prC)
 (h1:cs1=(xs.flatMap prC++sp).take ((i+1)*10)++D++(xs.flatMap prC++sp).drop ((i+1)*10+D.length)) :
 cs1.take (i*10)++prC x++cs1.drop (i*10+(prC x).length)=(xs.take i++x :: xs.drop i).flatMap prC++(xs.flatMap prC++sp).drop ((i+1)*10+D.length):=by
 have b:((xs.flatMap prC++sp).take ((i+1)*10))=(xs.take (i+1)).flatMap prC:=aD2 aAx xs sp (i+1) (by omega);have a:((xs.take (i+1)).flatMap prC).length=(i+1)*10:=by rw[aAk prC 10 aAx,bE,bN (by omega)]
 have d:cs1.take (i*10)=(xs.take i).flatMap prC:=by
  rw[h1,b,List.append_assoc,aD2 aAx (xs.take (i+1)) _ i (by rw[bE];omega),List.take_take,bN (by omega)]
 have c:cs1.drop (i*10+(prC x).length)=D++(xs.flatMap prC++sp).drop ((i+1)*10+D.length):=by
  rw[h1,b,aAx,show i*10+10=(i+1)*10 by rw[bH],List.append_assoc];exact List.drop_left' a
 rw[d,c,hD];simp
theorem aP5 (B g cap:Nat) (sp:List bT) (xs:List (Rw×Rw)) (x:(Rw×Rw)) (i vb:Nat) (w:bR) (hk:BlkIs w g 358 (xs.flatMap prC++sp)) (hx:BlkIs w vb 358 (prC x)) (hne:vb≠g)
 (hi:i<xs.length) (hr:xs.length+1<=cap) (hsp:(xs.flatMap prC++sp).length=cap*10) (hcap:cap<=9223372036854775807) (hg:B<=g) (h8:xs.length<=100000) :
 bY prog 301 #[.slice (some (g,0)) xs.length cap,i,.slice (some (vb,0)) 1 1] w fun e w'=>∃v',e= .returned v'/\w'.ownsRow B 358 10 v' (xs.length+1) ((xs.take i++x :: xs.drop i).flatMap prC)/\bU B w w':=by
 have F:∀O V,(callFunc 312 #[.slice (some (vb,0)) 1 1,.slice (some (g,(i+1)*10)) O V]).run prog w= .ok (.value (.bool false)) w:=fun O V=>by
  rw [run_callFunc_extern func312 (by kernel_rfl) (by kernel_rfl) (by kernel_rfl) (e := Extern.SlicesOverlaps.overlaps #[356, 356] #[4]) (by kernel_rfl),
    Lib.run_overlaps_apart w 356 4 358 underlying356 10 aLc ⟨vb,0,none⟩ ⟨g,(i+1)*10,none⟩ 1 1 O V hne 358 358 10 (cap*10) (aEe hx) (by rw[aEe hk,hsp]) (by
     have:1*10<=cap*10:=bB _ (by omega);omega) (hx.frozen 0) (hx.frozen 10)]
  rfl
 obtain⟨D,H⟩:=ex_ ((xs.drop i).flatMap prC);have c:D.length=(xs.length-i)*10:=by rw[H,aAk prC 10 aAx,aP]
 have d:(i+1)*10+(xs.length-i)*10=(xs.length+1)*10:=by rw[<-bH];congr 1;omega
 have a:(xs.length+1)*10<=cap*10:=bB _ hr;have z:(i+1)*10<=cap*10:=bB _ (by omega)
 have f:=fun U M ty=>aBu (P:=prog) (ty:=ty) (w:=w.drew) (dT:=356) (sT:=356) (K:=10) underlying356 Tryz.infoPairSz g ((i+1)*10) (xs.length-i) U ⟨g,i*10,none⟩ (xs.length+1-i) M (xs.length-i) D
   (by show min _ _=_;omega) c (fun j u Q=>by
     rw[aT]
     show w.cell? _=_
     rw[hk.cell];refine aEv (t:=sp) aAx (i:=i) (m:=xs.length-i) (by omega) j u ?_;rw[List.take_of_length_le (by rw[aP];exact aG _),<-H];exact Q) hk.drew (by rw[c,d,hsp];exact a) (by rw[H];exact aFf aDd _)
 have q:=hk.drew.setCells D ((i+1)*10) (by rw[c,d,hsp];exact a);obtain⟨l,b⟩:=ex_ ((xs.flatMap prC++sp).take ((i+1)*10)++D++(xs.flatMap prC++sp).drop ((i+1)*10+D.length))
 have h:l.length=cap*10:=by
  rw[b,aO,aO,bE,aP,hsp,c];omega
 have s:=aUv xs sp x i hi D l H b;rw[<-b]at q;have y:BlkIs (w.drew.setCells g ((i+1)*10) D) vb 358 (prC x):=(aCd hne _ _).trans hx;have C:=aAz (bC (aE B w)) hg D ((i+1)*10);generalize S:w.drew.setCells g ((i+1)*10) D=W1 at f q y C
 have v:=fun(W:bR) (k:BlkIs W g 358 l) (R:BlkIs W vb 358 (prC x)) U M ty=>aBu (P:=prog) (ty:=ty) (w:=W) (dT:=356) (sT:=356) (K:=10) underlying356 Tryz.infoPairSz g (i*10) (xs.length+1-i) U ⟨vb,0,none⟩ 1 M 1 (prC x)
   (by show min _ _=_;omega) rfl (fun j u Q=>by
     rw[aT,aQ,R.cell];exact Q) k (by rw[h,aAx];have h5:i*10+10=(i+1)*10:=(by rw[bH]);omega) (aDd x)
 have A:=fun(W:bR) (k:BlkIs W g 358 l)=>k.setCells (prC x) (i*10) (by rw[h,aAx];have h5:i*10+10=(i+1)*10:=(by rw[bH]);omega);rw[s]at A
 have r:=fun(W:bR) (k:BlkIs W g 358 l)=>(show(W.setCells g (i*10) (prC x)).ownsRow B 358 10 (.slice (some (g,0)) (xs.length+1) cap) (xs.length+1) ((xs.take i++x :: xs.drop i).flatMap prC)from
   ⟨by rw[aAk prC 10 aAx,aP7 xs x i (by omega)],.inr ⟨g,cap,_,rfl,hg,A W k,hr,by unfold maxLen;omega,by
    rw[List.size_toArray,aO,aP,hsp,aAk prC 10 aAx,aP7 xs x i (by omega),c]
    omega,by
    have:((xs.take i++x :: xs.drop i).flatMap prC).length=(xs.length+1)*10:=by rw[aAk prC 10 aAx,aP7 xs x i (by omega)]
    exact bP this⟩⟩)
 obtain⟨n,p,o,E,J,L⟩:=aIl r f v q y C;clear r f v q y C A s h b c d a z S H;obtain⟨N,T⟩:=ex_ xs.length;obtain⟨HK,HX,HN⟩:=aAw hk hx T;rw[<-T]at hi hr h8 p o n⊢;clear hk hx T hsp hne;have q1:¬((1:Int)=0):=by omega
 have q2:¬((i:Int)=(N:Int)):=by omega
 have q3:¬cap=i:=by omega
 have q4:¬cap=i+1:=by omega
 have q5:(0:Int)<=(i:Int):=by omega
 have q6:(i:Int)<=(N:Int):=by omega
 have q7:(N:Int)<=(cap:Int):=by omega
 have q8:¬((cap:Int)<(N:Int)+1):=by omega
 have q9:(N:Int)+1<=(cap:Int):=by omega
 have a3:IntKind.i64.wrap ((i:Int)+1)=(i:Int)+1:=by rw[IntKind.wrap_i64];omega
 have a2:(0:Int)<=(i:Int)+1:=by omega
 have a1:((i:Int)+1).toNat=i+1:=by omega
 have a0:(i:Int)<=(N:Int)+1:=by omega
 have Z:(i:Int)+1<=(N:Int)+1:=by omega
 go_enter func301,ntmps301
 go_wp2_with (simp only[F])
 have G:=p.out (cap-(i+1)) (cap-i) 3;go_region
 clear G F;have X:=o.out W1 E.out J.out (cap-i) 1 3;have Y:=hid (And.intro (n.out W1 E.out) (aAz L.out hg (prC x) (i*10)));clear p o n E J L;go_wp2_with fail
 go_ret;exact⟨_,rfl,Y.1,Y.2⟩
theorem aP9 (B g cap:Nat) (sp:List bT) (xs:List (Rw×Rw)) (x:(Rw×Rw)) (i vb:Nat) (w:bR) (hk:BlkIs w g 358 (xs.flatMap prC++sp)) (hx:BlkIs w vb 358 (prC x))
 (hi:i<xs.length) (hr0:xs.length<=cap) (hr:cap<xs.length+1) (hB:B<=w.heap.size) (h8:xs.length<=100000) :
 bY prog 301 #[.slice (some (g,0)) xs.length cap,i,.slice (some (vb,0)) 1 1] w fun e w'=>∃v',e= .returned v'/\w'.ownsRow B 358 10 v' (xs.length+1) ((xs.take i++x :: xs.drop i).flatMap prC)/\bU B w w':=by
 obtain⟨i0,a0,U,T,E⟩:=aYd;have ab:=hk.lt
 have y:(Builtin.firstCells i0.size i (.slice (some (g,0)) i cap)).run prog w.drew= .ok ((xs.take i).flatMap prC).toArray w.drew:=by
  rw[T]
  exact run_firstCells_some w.drew 10 i ⟨g,0,none⟩ i cap ((xs.take i).flatMap prC) (by rw[aAk prC 10 aAx,bE,bN (by omega)]) (fun j u V=>by
   rw[aT]
   show w.cell? _=_
   rw[hk.cell,aQ];have h:=aEv (t:=sp) aAx (l:=xs) (i:=0) (m:=i) (by omega) j u (by rw[List.drop_zero];exact V);rw[aR,aQ]at h;exact h)
 have b:=fun ty=>Lib.run_append_grow_zeros w 356 3 ty 358 i0 _ .i64 .i64 underlying356 underlying3 a0 U (some ⟨g,0,none⟩) i cap ((xs.take i).flatMap prC) y (xs.length+1-i) (by omega) (by omega) (by omega) (by omega) (by rw[E];omega) (by rw[E];exact growslice_fits (by omega) (by omega));have Y:i+(xs.length+1-i)=xs.length+1:=by omega
 rw[Y]at b;obtain⟨G,hG⟩:=ex_ (grownCap w (xs.length+1) cap 358);rw[<-hG]at b;have R:xs.length+1<=G:=by rw[hG];exact grownCap_ge w _ _ _
 have a2:G<=maxLen:=by rw[hG];exact grownCap_le_maxLen w (xs.length+1) cap 358 (by unfold maxLen;omega)
 obtain⟨A,hA⟩:=ex_ ((xs.take i).flatMap prC);have a:A.length=i*10:=by rw[hA,aAk prC 10 aAx,bE,bN (by omega)]
 obtain⟨Z,hZ⟩:=ex_ ((aF (prV (rw0,rw0)).cells (xs.length+1-i)++aF (prV (rw0,rw0)).cells (G-(xs.length+1))).toList)
 have f:Z.length=(G-i)*10:=by
  rw[hZ,Array.toList_append,aO,aOo,aOo,<-bH]
  congr 1
  omega
 obtain⟨D,hD⟩:=ex_ ((xs.drop i).flatMap prC);have k:D.length=(xs.length-i)*10:=by rw[hD,aAk prC 10 aAx,aP]
 have m1:i*10+(G-i)*10=G*10:=by rw[<-bH];congr 1;omega
 have m2:i*10+10=(i+1)*10:=by rw[bH]
 have m3:(i+1)*10+(xs.length-i)*10=(xs.length+1)*10:=by rw[<-bH];congr 1;omega
 have m4:(xs.length+1)*10<=G*10:=bB _ R
 have s:(((xs.take i).flatMap prC).toArray++aF (prV (rw0,rw0)).cells (xs.length+1-i)++aF (prV (rw0,rw0)).cells (G-(xs.length+1))).toList=A++Z:=by
  rw[hZ,hA];simp
 have p:BlkIs (w.drew.alloc (.cells (((xs.take i).flatMap prC).toArray++aF (prV (rw0,rw0)).cells (xs.length+1-i)++aF (prV (rw0,rw0)).cells (G-(xs.length+1))) 358)) w.heap.size 358 (A++Z):=aAp (w:=w.drew) _ _ _ rfl s.symm;have M:BlkIs (w.drew.alloc (.cells (((xs.take i).flatMap prC).toArray++aF (prV (rw0,rw0)).cells (xs.length+1-i)++aF (prV (rw0,rw0)).cells (G-(xs.length+1))) 358)) g 358 (xs.flatMap prC++sp):=hk.drew.alloc _;have F:BlkIs (w.drew.alloc (.cells (((xs.take i).flatMap prC).toArray++aF (prV (rw0,rw0)).cells (xs.length+1-i)++aF (prV (rw0,rw0)).cells (G-(xs.length+1))) 358)) vb 358 (prC x):=hx.drew.alloc _;have Q:bU B w (w.drew.alloc (.cells (((xs.take i).flatMap prC).toArray++aF (prV (rw0,rw0)).cells (xs.length+1-i)++aF (prV (rw0,rw0)).cells (G-(xs.length+1))) 358)):=(bC (aE B w)).alloc hB _;generalize w.drew.alloc (.cells (((xs.take i).flatMap prC).toArray++aF (prV (rw0,rw0)).cells (xs.length+1-i)++aF (prV (rw0,rw0)).cells (G-(xs.length+1))) 358)=W1 at b p M F Q
 have d:=fun dc sc ty=>aBu (P:=prog) (ty:=ty) (w:=W1) (dT:=356) (sT:=356) (K:=10) underlying356 Tryz.infoPairSz w.heap.size (i*10) (xs.length+1-i) dc ⟨vb,0,none⟩ 1 sc 1 (prC x)
   (by show min _ _=_;omega) rfl (fun j u V=>by
     rw[aT,aQ,F.cell];exact V) p (by rw[aO,a,f,m1,aAx,m2];omega) (aDd x)
 have c:=p.setCells (prC x) (i*10) (by rw[aO,a,f,m1,aAx,m2];omega)
 have e2:(A++Z).take (i*10)++prC x++(A++Z).drop (i*10+(prC x).length)=A++prC x++Z.drop 10:=by
  rw[bP a,<-List.drop_drop,List.drop_left' a];rfl
 rw[e2]at c;have L:BlkIs (W1.setCells w.heap.size (i*10) (prC x)) g 358 (xs.flatMap prC++sp):=(aCd (by omega) _ _).trans M;have O:=aAz Q hB (prC x) (i*10);generalize ad:W1.setCells w.heap.size (i*10) (prC x)=W2 at d c L O;have q:(A++prC x).length=(i+1)*10:=by rw[aO,a,aAx,m2]
 have H:(A++prC x++Z.drop 10).length=G*10:=by
  rw[aO,q,aP,f];have:1*10<=(G-i)*10:=bB _ (by omega);omega
 have z:=fun dc sc ty=>aBu (P:=prog) (ty:=ty) (w:=W2.drew) (dT:=356) (sT:=356) (K:=10) underlying356 Tryz.infoPairSz w.heap.size ((i+1)*10) (xs.length-i) dc ⟨g,i*10,none⟩ (xs.length-i) sc (xs.length-i) D
   (by show min _ _=_;omega) k (fun j u V=>by
     rw[aT]
     show W2.cell? _=_
     rw[L.cell];refine aEv (t:=sp) aAx (i:=i) (m:=xs.length-i) (by omega) j u ?_;rw[List.take_of_length_le (by rw[aP];exact aG _),<-hD];exact V) c.drew (by rw[k,m3,H];exact m4) (by rw[hD];exact aFf aDd _)
 have J:=c.drew.setCells D ((i+1)*10) (by rw[k,m3,H];exact m4);have a1:=aAz (bC O) hB D ((i+1)*10)
 have e3:(A++prC x++Z.drop 10).take ((i+1)*10)++D++(A++prC x++Z.drop 10).drop ((i+1)*10+D.length)=(xs.take i++x :: xs.drop i).flatMap prC++(Z.drop 10).drop D.length:=by
  rw[bP q,<-List.drop_drop,List.drop_left' q,hA,hD];simp
 rw[e3]at J
 have v:(W2.drew.setCells w.heap.size ((i+1)*10) D).ownsRow B 358 10 (.slice (some (w,0)) (xs.length+1) G) (xs.length+1) ((xs.take i++x :: xs.drop i).flatMap prC):=
   ⟨by rw[aAk prC 10 aAx,aP7 xs x i (by omega)],.inr ⟨w.heap.size,G,_,rfl,hB,J,R,a2,by
    rw[List.size_toArray,aO,aP,aP,f,aAk prC 10 aAx,aP7 xs x i (by omega),k];have:1*10<=(G-i)*10:=bB _ (by omega)
    omega,by
    have:((xs.take i++x :: xs.drop i).flatMap prC).length=(xs.length+1)*10:=by rw[aAk prC 10 aAx,aP7 xs x i (by omega)]
    exact bP this⟩⟩
 obtain⟨C,af,o,n,S⟩:=aDs v a1 d z b;clear v a1 d z b hk hx ab y Y hG a2 hA a hZ f hD k m1 m2 m3 m4 s p M F Q c e2 L O ad q H J e3 a0 U T E;obtain⟨N,hN⟩:=ex_ xs.length;rw[<-hN]at hi hr0 hr h8 R C o n S⊢;clear hN;have X:((N+1-i:Nat):Int)=(N:Int)+1-(i:Int):=by omega
 have r:=S.out 356;rw[X]at r;have aj:=o.out (G-i) 1 3;have ai:=n.out (G-(i+1)) (cap-i) 3;clear o n S X;have q3:¬cap=i:=by omega
 have ao:¬G=i:=by omega
 have q4:¬G=i+1:=by omega
 have q5:(0:Int)<=(i:Int):=by omega
 have q6:(i:Int)<=(N:Int):=by omega
 have an:(i:Int)<=(cap:Int):=by omega
 have q8:(cap:Int)<(N:Int)+1:=by omega
 have av:IntKind.i64.wrap ((i:Int)+1)=(i:Int)+1:=by rw[IntKind.wrap_i64];omega
 have au:(0:Int)<=(i:Int)+1:=by omega
 have ar:((i:Int)+1).toNat=i+1:=by omega
 have aq:(i:Int)<=(N:Int)+1:=by omega
 have ap:(i:Int)+1<=(N:Int)+1:=by omega
 go_enter func301,ntmps301
 clear q3;have q3:¬cap=i:=by omega
 go_wp2_with (first
  | (at_builtin;refine Lib.wpList_append_run _ rfl _ _ 356 3 rfl _ _ rfl rfl _ _ r ?_)
  | fail)
 go_region
 go_wp2_with fail
 go_ret;exact⟨_,rfl,C.out,af.out⟩
theorem bBb (B:Nat) (v:bT) (xs:List (Rw×Rw)) (x:(Rw×Rw)) (i vb:Nat) (w:bR) (hv:w.ownsRow B 358 10 v xs.length (xs.flatMap prC)) (hx:BlkIs w vb 358 (prC x)) (hne:∀k,v.ownBlock=some k->vb≠k)
 (hi:i<=xs.length) (hB:B<=w.heap.size) (h8:xs.length<=100000) :
 bY prog 301 #[v,i,.slice (some (vb,0)) 1 1] w fun e w'=>∃v',e= .returned v'/\w'.ownsRow B 358 10 v' (xs.length+1) ((xs.take i++x :: xs.drop i).flatMap prC)/\bU B w w':=by
 by_cases j:i=xs.length
 . subst j;have h:=aSq B v xs x vb w hv hx hB h8;rw[List.take_length,List.drop_length];exact h
 . have c:i<xs.length:=by omega
   rcases hv.2 with⟨_,h0⟩|⟨g,cap,cur,rfl,hg1,hg2,hg3,hg4,hg5,hg6⟩
   . exfalso;omega
   have b:cur.toList=xs.flatMap prC++cur.toList.drop (xs.length*10):=by
    rw[<-hg6,List.take_append_drop]
   have a:BlkIs w g 358 (xs.flatMap prC++cur.toList.drop (xs.length*10)):=by rw[<-b];exact hg2
   have d:(xs.flatMap prC++cur.toList.drop (xs.length*10)).length=cap*10:=by rw[<-b,<-hg5];simp
   by_cases f:xs.length+1<=cap
   . exact aP5 B g cap _ xs x i vb w a hx (hne g rfl) c f d (by unfold maxLen at hg4;omega) hg1 h8
   . exact aP9 B g cap _ xs x i vb w a hx c hg3 (by omega) hB h8
theorem aOg (p:(Rw×Rw)->Bool) (gp:Nat) (lb:Array bT) (eg:∀args w,(callFunc gp args).run prog w= .ok (.enter gp args) w) (B:Nat) (v:bT) (xs:List (Rw×Rw)) (x:(Rw×Rw)) (w:bR)
 (hv:w.ownsRow B 358 10 v xs.length (xs.flatMap prC)) (hp:aHz prV w.heap.size w gp lb p) (hB:B<=w.heap.size) (h8:xs.length<=100000) :
 bY prog 272 #[v,prV x,.func (.func gp) #[] lb] w fun e w'=>
  ∃v',e= .returned v'/\w'.ownsRow B 358 10 v' (aDv p x xs).length ((aDv p x xs).flatMap prC)/\bU B w w':=by
 have R:(if xs.findIdx p<xs.length then((xs.findIdx p:Nat):Int)else -1)= -1\/∃i:Nat,(if xs.findIdx p<xs.length then((xs.findIdx p:Nat):Int)else -1)=(i:Int)/\i=xs.findIdx p/\i<xs.length:=by
  by_cases h:xs.findIdx p<xs.length
  . exact .inr ⟨_,if_pos h,rfl,h⟩
  . exact .inl (if_neg h)
 have K:=List.findIdx_le_length (xs:=xs) (p:=p);have g:¬xs.findIdx p<xs.length->xs.findIdx p=xs.length:=by omega
 have M:=bA w (.cells (prC x).toArray 358);have H:∀W,bU w w W->W.ownsRow B 358 10 v xs.length (xs.flatMap prC):=fun W F=>aAb F hv;have E:=fun W (F:bU w w W)=>aMx p gp lb eg v B xs W (H W F) ((hp.later F).mono F.size) (by omega)
 have D:=fun W (F:bU w w W) (i U:Nat) (hx:BlkIs W U 358 (prC x)) (a5:w.heap.size<=U) (hi:i<=xs.length)=>bBb B v xs x i U W (H W F) hx (fun k hk e=>by
  have:=(hv.lt k hk).2;omega) hi (bJ hB F.size) h8
 have C:(aDv p x xs).length=xs.length+1:=by
  unfold aDv;exact aP7 xs x _ K
 rw[C];obtain⟨b,y,z,d⟩:=aBp (E _ M) (aAp (w:=w) 358 (prC x).toArray (prC x) rfl (by simp)) M D;have X:=aAa hv;obtain⟨A,c,rfl,hc,a8,-⟩:=X;have e4:(aDv p x xs).flatMap prC=(xs.take (xs.findIdx p)++x :: xs.drop (xs.findIdx p)).flatMap prC:=rfl;rw[e4];obtain⟨I,hI⟩:=ex_ (xs.findIdx p);rw[<-hI]at b R K g⊢;obtain⟨N,Z⟩:=ex_ xs.length;rw[<-Z]at b d R K g hc h8⊢;clear E D H M hv hp C hI Z e4;obtain⟨⟨q,r,u,t,s⟩,⟨j,l,o,n,m⟩⟩:=x;unfold prV;dsimp only at *;by_cases J:I<N
 case pos=>
  rw[if_pos J]at b R;clear R g;go_enter func272,ntmps272
  go_wp2_with fail
  refine(b.out).mono ?_;rintro e G ⟨rfl,O⟩;have a:=hid (aD z.out O);have S:G.heap[w.heap.size]? =some (.cells #[q,r,u,t,s,j,l,o,n,m] 358 (0,0)):=y.later O;have T:=hid S;have f:(prog.info? 358).map (·.size)=some (#[q,r,u,t,s,j,l,o,n,m]:Array bT).size:=Tryz.infoPairSz;have P:=hid f;clear f;clear b y z O S
  go_wp2_with (first
   | (with_reducible refine wpList_load_row rfl 358 (.tmp 4) rfl w.heap.size rfl 358 #[q,r,u,t,s,j,l,o,n,m] (0,0) _ T.out underlying358 rfl P.out ?_)
   | fail)
  have L:=d.out (G.alloc (.cells #[q,r,u,t,s,j,l,o,n,m] 358)) (a.alloc a.size _) I G.heap.size (aAp _ _ _ rfl rfl) a.size (by omega);have Q:=hid ((a.alloc a.size (.cells #[q,r,u,t,s,j,l,o,n,m] 358)).mono hB);clear d a T;refine L.mono ?_;rintro e w3 ⟨v3,rfl,V,Y⟩;go_wp2_with fail
  go_ret;exact⟨_,rfl,V,Q.trans Y⟩
 case neg=>
  rw[if_neg J]at b R;obtain rfl:=g J;clear R g;go_enter func272,ntmps272
  go_wp2_with fail
  refine(b.out).mono ?_;rintro e G ⟨rfl,O⟩;have a:=hid (aD z.out O);have S:G.heap[w.heap.size]? =some (.cells #[q,r,u,t,s,j,l,o,n,m] 358 (0,0)):=y.later O;have T:=hid S;have f:(prog.info? 358).map (·.size)=some (#[q,r,u,t,s,j,l,o,n,m]:Array bT).size:=Tryz.infoPairSz;have P:=hid f;clear f;clear b y z O S
  go_wp2_with (first
   | (with_reducible refine wpList_load_row rfl 358 (.tmp 4) rfl w.heap.size rfl 358 #[q,r,u,t,s,j,l,o,n,m] (0,0) _ T.out underlying358 rfl P.out ?_)
   | fail)
  have L:=d.out (G.alloc (.cells #[q,r,u,t,s,j,l,o,n,m] 358)) (a.alloc a.size _) I G.heap.size (aAp _ _ _ rfl rfl) a.size (by omega);have Q:=hid ((a.alloc a.size (.cells #[q,r,u,t,s,j,l,o,n,m] 358)).mono hB);clear d a T;refine L.mono ?_;rintro e w3 ⟨v3,rfl,V,Y⟩;go_wp2_with fail
  go_ret;exact⟨_,rfl,V,Q.trans Y⟩
theorem bEn (args:Array bT) (w:bR):(callFunc 268 args).run prog w= .ok (.enter 268 args) w:=enters_of func268 (by kernel_rfl) rfl args w
theorem bBp (args:Array bT) (w:bR):(callFunc 269 args).run prog w= .ok (.enter 269 args) w:=enters_of func269 (by kernel_rfl) rfl args w
theorem bDg (args:Array bT) (w:bR):(callFunc 271 args).run prog w= .ok (.enter 271 args) w:=enters_of func271 (by kernel_rfl) rfl args w
theorem bEm (args:Array bT) (w:bR):(callFunc 273 args).run prog w= .ok (.enter 273 args) w:=enters_of func273 (by kernel_rfl) rfl args w
theorem aX5 (q:Qy) (c:Chg) (pb pa:Option Addr) (B:Nat) (v:bT) (xs:List (Rw×Rw)) (w:bR) (h1:c.table=q.other) (h2:c.has=false)
 (hv:w.ownsRow B 358 10 v xs.length (xs.flatMap prC)) (hB:B<=w.heap.size) (h8:xs.length<=100000) :
 bY prog 232 #[effV q c pb pa,v] w fun e w'=>∃v',e= .returned (.tuple #[v',.bool (c.had)])/\w'.ownsRow B 358 10 v' (xs.filter (aGt c)).length ((xs.filter (aGt c)).flatMap prC)/\bU w.heap.size w w':=by
 obtain⟨d,b⟩:=ex_ (w.alloc (.cells #[q.kind,q.table,q.column,q.low,q.high,q.by_,q.other,c.table,c.key,c.had,c.old.1,c.old.2.1,c.old.2.2,c.has,c.new.1,c.new.2.1,c.new.2.2,.pointer pb,.pointer pa,.int .i64 (aC7 q c),.int .i64 (aCq q c)] 256));have J:bU w.heap.size w d:=by rw[b];exact bA _ _
 have Q:d.heap.size=w.heap.size+1:=by rw[b,bK]
 have D:BlkIs d w.heap.size 256 (aIw q c pb pa):=by rw[b];exact aAp _ _ _ rfl rfl
 obtain⟨A,G,rfl,a4,-,m⟩:=aAa hv;obtain⟨N,F⟩:=ex_ xs.length
 have h:∀W,bU d.heap.size d W->∃X c',(.slice A xs.length G:bT)= .slice X xs.length c'/\(0<xs.length->∃g o,X=some ⟨g,o,none⟩/\g<W.heap.size/\∀(j:Nat) u,(xs.flatMap prC)[j]? =some u->W.cell? ⟨g,o+j,none⟩=some u):=fun W C=>by
  have r:bU w.heap.size w W:=aD J C;refine⟨A,G,rfl,fun h0=>?_⟩;obtain⟨g,rfl,S,_,hj⟩:=m h0;exact⟨g,0,rfl,bG S r.size,fun j u z=>(r.cell (p:=⟨g,0+j,none⟩) S).trans (by rw[aQ];exact hj j u z)⟩
 have k:=fun W (C:bU d.heap.size d W)=>aEz (fun p=>decide (p.2.key=c.key)) 268 #[.pointer (some ⟨w.heap.size,0,none⟩)] bEn (.slice A xs.length G) xs W (h W C) (fun W' x E=>aX7 q c pb pa w.heap.size x W' ((D.later C).later E)) h8
 have n:d.rangeAt w.heap.size 7 c:=D.rangeAt (fun j u z=>by
  rw[<-z];rcases j with _|_|_|_|_|_|_|_|_|_|j;all_goals first|rfl|(simp only[aIw,List.getElem?_cons_succ];simp at z))
 have a:=fun W=>aHx c W;simp only[h2,Bool.false_eq_true,if_false]at a;unfold aD8 rwV rw0 at a;dsimp only at a;have t1:(c.table== q.other)=true:=by simpa using h1
 rw[<-F]at k⊢;obtain⟨s,M,P,y,L,HN,t,i⟩:=aMy b k J D Q F n a;unfold effV;clear b k J D Q F m h hv h1 h2 n a;go_enter func232,ntmps232
 go_upto_region 2 with fail
 rw[<-s.out];go_wp2_with (first|(refine wpList_load_mid rfl 48 (.tmp 20) rfl w.heap.size 7 rfl c _ t.out underlying48 rfl Tryz.infoChg10 ?_)|fail)
 refine(i.out _).mono ?_;rintro e w2 ⟨rfl,H⟩;obtain⟨w3,l⟩:=ex_ (w2.alloc (.cells #[(),(),(),(),()] 116));have V:bU d.heap.size d w3:=by rw[l];exact H.alloc H.size _
 have f:=hid V;have O:=hid l;have R:=(y.later V).c9;clear H l t i s;go_upto_region 4 with fail
 rw[<-O.out];refine aKs (fun W=>W.cell? ⟨w.heap.size,9,none⟩=some (.bool c.had)) [(0,false),(1,false),(3,false),(4,false),(5,false),(2,true),(6,true),(7,true)] R ?_
 repeat (first
  | refine aAq.A0 ?_|refine aAq.AG ?_|refine aAq.AS ?_
  | (first
     | refine aAq.P0 ?_|refine aAq.PG ?_
     intro K T;go_simp
     first
     | (go_at_call 267;(with_reducible refine(M.out _ (bC f.out)).mono ?_);rintro e Z ⟨v4,rfl,o4,U⟩;have Y:Z.cell? ⟨w.heap.size,9,none⟩=some (.bool c.had):=(y.out.later (aD (bC f.out) U)).cell 9;go_wp2_with fail)
     | skip|fail
     refine T.out _ _ ?_ (fun _=>?_)
     . (first|exact R|exact Y)
     clear T K;try simp only[Act.put,sx1,sx2,sx3]))
 refine aAq.fin ?_;go_wp2_with fail
 go_returns
 exact⟨_,rfl,aAh o4 (by have:=L.out;have:=f.size;simp only[World.drew]at *;omega),aD P.out (aD (bC f.out) U)⟩
theorem aX3 (q:Qy) (c:Chg) (pb pa:Option Addr) (B:Nat) (v:bT) (xs:List (Rw×Rw)) (w:bR) (h1:¬c.table=q.other) (h2:pa=none)
 (hv:w.ownsRow B 358 10 v xs.length (xs.flatMap prC)) (hB:B<=w.heap.size) (h8:xs.length<=100000) :
 bY prog 232 #[effV q c pb pa,v] w fun e w'=>∃v',e= .returned (.tuple #[v',.bool (true)])/\w'.ownsRow B 358 10 v' (xs.filter (aEr c)).length ((xs.filter (aEr c)).flatMap prC)/\bU w.heap.size w w':=by
 obtain⟨d,a⟩:=ex_ (w.alloc (.cells #[q.kind,q.table,q.column,q.low,q.high,q.by_,q.other,c.table,c.key,c.had,c.old.1,c.old.2.1,c.old.2.2,c.has,c.new.1,c.new.2.1,c.new.2.2,.pointer pb,.pointer pa,.int .i64 (aC7 q c),.int .i64 (aCq q c)] 256));have z:bU w.heap.size w d:=by rw[a];exact bA _ _
 have G:d.heap.size=w.heap.size+1:=by rw[a,bK]
 have s:BlkIs d w.heap.size 256 (aIw q c pb pa):=by rw[a];exact aAp _ _ _ rfl rfl
 obtain⟨A,t,rfl,O,-,h⟩:=aAa hv;obtain⟨N,r⟩:=ex_ xs.length
 have b:∀W,bU d.heap.size d W->∃K Q,(.slice A xs.length t:bT)= .slice K xs.length Q/\(0<xs.length->∃g o,K=some ⟨g,o,none⟩/\g<W.heap.size/\∀(j:Nat) u,(xs.flatMap prC)[j]? =some u->W.cell? ⟨g,o+j,none⟩=some u):=fun W m=>by
  have i:bU w.heap.size w W:=aD z m;refine⟨A,t,rfl,fun P=>?_⟩;obtain⟨g,rfl,J,_,M⟩:=h P;exact⟨g,0,rfl,bG J i.size,fun j u L=>(i.cell (p:=⟨g,0+j,none⟩) J).trans (by rw[aQ];exact M j u L)⟩
 have f:=fun W (m:bU d.heap.size d W)=>aEz (fun p=>decide (p.1.key=c.key)) 269 #[.pointer (some ⟨w.heap.size,0,none⟩)] bBp (.slice A xs.length t) xs W (b W m) (fun R x n=>aMv q c pb pa w.heap.size x R ((s.later m).later n)) h8;have X:(c.table== q.other)=false:=by simpa using h1
 subst h2;rw[<-r]at f⊢;obtain⟨l,k,F,D,C,Y⟩:=aIl a f z s G r;unfold effV;clear a f z s G r h b hv;go_enter func232,ntmps232
 go_wp2_with fail
 rw[<-l.out];refine(k.out _ (aE _ _)).mono ?_;rintro e U ⟨V,rfl,H,y⟩;have T:=(D.later y).c18;have S:=hid H;have E:=hid (aD F.out y);clear H y l k;go_wp2_with fail
 go_returns
 exact⟨_,rfl,aAh S.out (by have:=C.out;omega),E.out⟩
theorem aX2 (q:Qy) (c:Chg) (pb pa:Option Addr) (B:Nat) (v:bT) (xs:List (Rw×Rw)) (w:bR) (h1:¬c.table=q.other) (h2:pa≠none) (h3:pb.isSome=(befQ q c).isSome)
 (h4:¬xs.findIdx (fun p=>decide (p.2.key=aCq q c))<xs.length) (hv:w.ownsRow B 358 10 v xs.length (xs.flatMap prC)) (hB:B<=w.heap.size) (h8:xs.length<=100000) :
 bY prog 232 #[effV q c pb pa,v] w fun e w'=>∃v',e= .returned (.tuple #[v',.bool ((befQ q c).isSome&&decide (aC7 q c=aCq q c))])/\w'.ownsRow B 358 10 v' (xs.filter (aEr c)).length ((xs.filter (aEr c)).flatMap prC)/\bU w.heap.size w w':=by
 obtain⟨b,a⟩:=ex_ (w.alloc (.cells #[q.kind,q.table,q.column,q.low,q.high,q.by_,q.other,c.table,c.key,c.had,c.old.1,c.old.2.1,c.old.2.2,c.has,c.new.1,c.new.2.1,c.new.2.2,.pointer pb,.pointer pa,.int .i64 (aC7 q c),.int .i64 (aCq q c)] 256));have F:bU w.heap.size w b:=by rw[a];exact bA _ _
 have R:b.heap.size=w.heap.size+1:=by rw[a,bK]
 have C:BlkIs b w.heap.size 256 (aIw q c pb pa):=by rw[a];exact aAp _ _ _ rfl rfl
 obtain⟨A,D,rfl,a0,-,m⟩:=aAa hv;obtain⟨N,J⟩:=ex_ xs.length
 have h:∀W,bU b.heap.size b W->∃V c',(.slice A xs.length D:bT)= .slice V xs.length c'/\(0<xs.length->∃g o,V=some ⟨g,o,none⟩/\g<W.heap.size/\∀(j:Nat) u,(xs.flatMap prC)[j]? =some u->W.cell? ⟨g,o+j,none⟩=some u):=fun W l=>by
  have n:bU w.heap.size w W:=aD F l;refine⟨A,D,rfl,fun h0=>?_⟩;obtain⟨g,rfl,T,_,Z⟩:=m h0;exact⟨g,0,rfl,bG T n.size,fun j u Y=>(n.cell (p:=⟨g,0+j,none⟩) T).trans (by rw[aQ];exact Z j u Y)⟩
 have i:=fun W (l:bU b.heap.size b W)=>aEz (fun p=>decide (p.1.key=c.key)) 269 #[.pointer (some ⟨w.heap.size,0,none⟩)] bBp (.slice A xs.length D) xs W (h W l) (fun L x k=>aMv q c pb pa w.heap.size x L ((C.later l).later k)) h8;have d:=fun W (l:bU b.heap.size b W)=>aMx (fun p=>decide (p.2.key=aCq q c)) 271 #[.pointer (some ⟨w.heap.size,0,none⟩)] bDg (.slice A xs.length D) B xs W (aAb (aD F l) hv) (fun L x k=>aQ9 q c pb pa w.heap.size x L ((C.later l).later k)) (by omega);have t1:(c.table== q.other)=false:=by simpa using h1
 obtain⟨ap,rfl⟩:=Option.ne_none_iff_exists'.1 h2;rw[if_neg h4]at d;rw[<-J]at i d⊢;rw[<-h3];obtain⟨y,H⟩:∃y,decide (aC7 q c=aCq q c)=y:=⟨_,rfl⟩;rw[H];have t2:(aC7 q c== aCq q c)=y:=H;obtain⟨s,r,Q,z,M,HN,t⟩:=aMz a i F C R J d;unfold effV;clear a i F C R J m h hv h4 d H h3;cases pb
 all_goals
 try cases y
 all_goals
   go_enter func232,ntmps232
   go_wp2_with fail
   rw[<-s.out];refine(r.out _ (aE _ _)).mono ?_;rintro e w2 ⟨v2,rfl,S,K⟩;have X:=(z.later K).c18;have U:=hid S;have f:=hid K;clear S K s r;go_wp2_with fail
   refine(t.out _ f.out).mono ?_;rintro e w3 ⟨rfl,E⟩;have G:=z.later (aD f.out E);have O:=hid (aAb E U.out);have P:=hid (aD Q.out (aD f.out E));have y1:=G.c17;have y2:=G.c19;have y3:=G.c20;clear E t G U f X;generalize aC7 q c=OQ at *;generalize aCq q c=NQ at *;go_wp2_with fail
   go_quiet (fail)
   go_wp2_with fail
   go_returns
   exact⟨_,rfl,aAh (aAb (below_drewN (aE _ _) _) O.out) (by have:=M.out;omega),below_drewN P.out _⟩
theorem aBl {P:Program} {a:Act} {o:Oper} {w:bR} (ty:TypeId) (x:Operand) (ho:o.op= .load ty x) (b off:Nat) (hx:a.eval x= .pointer (some ⟨b,off,none⟩)) (cs:Array bT) (d:TypeDesc) (hc:w.rangeAt b off cs.toList)
 (hu:P.underlying ty=some d) (hd:d.isRow=true) (hi:(P.info? ty).map (·.size)=some cs.toList.length):(execOp a.eval o).run P w= .ok (.value (.agg cs)) w:=by
  unfold execOp;simp only[ho,hx,Instr.loadAt,Instr.sureAddr,Sem.run_bind,Sem.run_pure,Result.andThen_ok,run_loadVar_mid w b off ty cs.toList d hc hu hd hi]
theorem aX1 (q:Qy) (c:Chg) (pb:Option Addr) (ab:Nat) (a:Rw) (B:Nat) (v:bT) (xs:List (Rw×Rw)) (w:bR) (h1:¬c.table=q.other) (ha:BlkIs w ab 116 (rwC a)) (i:Nat) (p:Rw×Rw)
 (h3:i=xs.findIdx (fun p=>decide (p.2.key=aCq q c))) (h4:xs[i]? =some p) (hv:w.ownsRow B 358 10 v xs.length (xs.flatMap prC)) (hB:B<=w.heap.size) (h8:xs.length<=100000) :
 bY prog 232 #[effV q c pb (some ⟨ab,0,none⟩),v] w fun e w'=>∃v',e= .returned (.tuple #[v',.bool (true)])/\w'.ownsRow B 358 10 v' (aDv (fun z=>ltO q.column a z.1) (a,p.2) (xs.filter (aEr c))).length ((aDv (fun z=>ltO q.column a z.1) (a,p.2) (xs.filter (aEr c))).flatMap prC)/\bU w.heap.size w w':=by
 obtain⟨l,m⟩:=ex_ (w.alloc (.cells #[q.kind,q.table,q.column,q.low,q.high,q.by_,q.other,c.table,c.key,c.had,c.old.1,c.old.2.1,c.old.2.2,c.has,c.new.1,c.new.2.1,c.new.2.2,.pointer pb,.pointer (some ⟨ab,0,none⟩),.int .i64 (aC7 q c),.int .i64 (aCq q c)] 256));have b1:bU w.heap.size w l:=by rw[m];exact bA _ _
 have z1:l.heap.size=w.heap.size+1:=by rw[m,bK]
 have e1:BlkIs l w.heap.size 256 (aIw q c pb (some ⟨ab,0,none⟩)):=by rw[m];exact aAp _ _ _ rfl rfl
 obtain⟨A,cc,rfl,aK,-,Q⟩:=aAa hv;obtain⟨N,hN⟩:=ex_ xs.length
 have y:∀W,bU l.heap.size l W->∃A' c',(.slice A xs.length cc:bT)= .slice A' xs.length c'/\(0<xs.length->∃g o,A'=some ⟨g,o,none⟩/\g<W.heap.size/\∀(j:Nat) u,(xs.flatMap prC)[j]? =some u->W.cell? ⟨g,o+j,none⟩=some u):=fun W b=>by
  have U:bU w.heap.size w W:=aD b1 b;refine⟨A,cc,rfl,fun h0=>?_⟩;obtain⟨g,rfl,hg,_,hj⟩:=Q h0;exact⟨g,0,rfl,bG hg U.size,fun j u P=>(U.cell (p:=⟨g,0+j,none⟩) hg).trans (by rw[aQ];exact hj j u P)⟩
 have D:=fun W (b:bU l.heap.size l W)=>aEz (fun p=>decide (p.1.key=c.key)) 269 #[.pointer (some ⟨w.heap.size,0,none⟩)] bBp (.slice A xs.length cc) xs W (y W b) (fun Z x f=>aMv q c pb (some ⟨ab,0,none⟩) w.heap.size x Z ((e1.later b).later f)) h8;have C:i<xs.length:=(aN.1 h4).1;have s:=fun W (b:bU l.heap.size l W)=>aMx (fun p=>decide (p.2.key=aCq q c)) 271 #[.pointer (some ⟨w.heap.size,0,none⟩)] bDg (.slice A xs.length cc) B xs W (aAb (aD b1 b) hv) (fun Z x f=>aQ9 q c pb (some ⟨ab,0,none⟩) w.heap.size x Z ((e1.later b).later f)) (by omega);have t1:(c.table== q.other)=false:=by simpa using h1
 rw[if_pos (by rw[<-h3];exact C),<-h3]at s;obtain⟨g,rfl,hg,-,hj⟩:=Q (by omega);have aL:=ha.lt;have T:∀W,bU w.heap.size w W->W.rangeAt ab 0 a:=fun W b=>(ha.later b).rangeAt (fun j u P=>by rw[aQ];exact P)
 have S:∀W,bU w.heap.size w W->W.rangeAt g (i*10+5) p.2:=fun W b j u P=>(b.cell (p:=⟨g,i*10+5+j,none⟩) hg).trans (hj _ _ (by
  have h5:(prC p)[5+j]? =some u:=by rw[Nat.add_comm];exact P
  rw[Nat.add_assoc];exact aBk prC 10 aAx xs i (5+j) p u h4 h5))
 obtain⟨G,hG⟩:=ex_ (xs.filter (aEr c));obtain⟨R,hR⟩:=ex_ (aDv (fun z=>ltO q.column a z.1) (a,p.2) G);have aj:G.length<=100000:=by rw[hG];exact bJ (List.length_filter_le _ _) h8
 rw[<-hG,<-hR];have V:G=xs.filter (fun x=>!decide (x.1.key=c.key)):=hG;rw[<-V,<-hN]at D;rw[<-hN]at s⊢;have aJ:i<N:=by omega
 have q1:(0:Int)<=(i:Int):=by omega
 have q2:(i:Int)<(N:Int):=by omega
 have q3:¬(i:Int)<0:=by omega
 obtain⟨a1,a0,M,H,an,HN,a5,a3,a2,HA,HR⟩:=aU3 m D b1 e1 z1 hN s T S ha hR;unfold effV;clear m D b1 e1 z1 hN y hv h4 s h3 T S hG V hR ha h1 hj C;go_enter func232,ntmps232
 go_wp2_with fail
 rw[<-a1.out];refine(a0.out _ (aE _ _)).mono ?_;rintro e w2 ⟨v2,rfl,o2,b2⟩;have y0:=(H.later b2).c18;have HO:=hid o2;have L:=hid b2;clear o2 b2 a1 a0;go_wp2_with fail
 refine(a5.out _ L.out).mono ?_;rintro e w3 ⟨rfl,b3⟩;have a4:=hid (aAb b3 HO.out);have J:=hid (aD L.out b3);have Y3:=hid (show w3.heap[w.heap.size]? =some (.cells #[q.kind,q.table,q.column,q.low,q.high,q.by_,q.other,c.table,c.key,c.had,c.old.1,c.old.2.1,c.old.2.2,c.has,c.new.1,c.new.2.1,c.new.2.2,.pointer pb,.pointer (some ⟨ab,0,none⟩),.int .i64 (aC7 q c),.int .i64 (aCq q c)] 256 (0,0))from H.later J.out);clear b3 a5 HO L y0;go_upto_region 18 with fail
 go_wp2_with (first|(refine wpList_load_row rfl 256 (.tmp 2) rfl w.heap.size rfl 256 #[q.kind,q.table,q.column,q.low,q.high,q.by_,q.other,c.table,c.key,c.had,c.old.1,c.old.2.1,c.old.2.2,c.has,c.new.1,c.new.2.1,c.new.2.2,.pointer pb,.pointer (some ⟨ab,0,none⟩),.int .i64 (aC7 q c),.int .i64 (aCq q c)] (0,0) _ Y3.out underlying256 rfl Tryz.infoEff ?_)|fail)
 have O:=hid (HA.later (aD M.out J.out));have n:=aOy q c pb ab a w3 O.out;unfold effV at n;refine n.mono ?_;rintro e h ⟨X,bv,rfl,he,hv,b4⟩;clear n;have k4:BlkIs (h.alloc (.cells #[bM] 212)) h.heap.size 212 [bM]:=aAp _ _ _ rfl rfl;have x0:=k4.c0;have x1:(h.alloc (.cells #[bM] 212)).frozen? ⟨h.heap.size,0,none⟩=false:=k4.frozen 0
 have aI:(store ⟨h.heap.size,0,none⟩ (.func (.func 266) #[] #[.pointer (some ⟨X,0,none⟩),.pointer (some ⟨bv,0,none⟩)])).run prog (h.alloc (.cells #[bM] 212))= .ok () ((h.alloc (.cells #[bM] 212)).setCell ⟨h.heap.size,0,none⟩ (.func (.func 266) #[] #[.pointer (some ⟨X,0,none⟩),.pointer (some ⟨bv,0,none⟩)])):=by
  rw[run_store _ _ _ _ _ rfl,x0,x1];rfl
 obtain⟨t,r⟩:=ex_ (h.alloc (.cells #[.func (.func 266) #[] #[.pointer (some ⟨X,0,none⟩),.pointer (some ⟨bv,0,none⟩)]] 212));have k:bU h.heap.size h t:=by rw[r];exact bA _ _
 have k5:BlkIs t h.heap.size 212 [.func (.func 266) #[] #[.pointer (some ⟨X,0,none⟩),.pointer (some ⟨bv,0,none⟩)]]:=by rw[r];exact aAp _ _ _ rfl rfl
 have Y:=aD J.out (aD b4 k);have o5:=aAb (aD b4 k) a4.out;have hz:=an.out;have aH:=Y.size;obtain⟨A2,c2,rfl,-⟩:=aAa o5;have d:=fun W (b:bU t.heap.size t W)=>aOg (fun z=>ltO q.column a z.1) 273 #[.pointer (some ⟨h.heap.size,0,none⟩)] bEm l.heap.size (.slice A2 G.length c2) G (a,p.2) W (aAb b o5) (fun Z x f=>aX6 q c pb X bv ab h.heap.size a x Z ((he.later k).later (aD b f)) ((O.later (aD b4 k)).later (aD b f)) ((hv.later k).later (aD b f)) (k5.later (aD b f))) (by have:=b.size;omega) aj;unfold prV at d;dsimp only at d;rw[<-HR.out]at d;have a6:=hid d;have F:bU w.heap.size w t:=aD M.out Y;obtain⟨HS,B5,ao⟩:=aAw (fun W (b:bU l.heap.size t W)=>(show(fun W=>W.cell? ⟨w.heap.size,18,none⟩=some (.pointer (some ⟨ab,0,none⟩))/\W.rangeAt ab 0 a/\W.rangeAt g (i*10+5) p.2) W from⟨((H.later Y).below b (by omega)).cell 18,a3.out W (F.trans (b.mono (by omega))),a2.out W (F.trans (b.mono (by omega)))⟩)) (aD M.out Y) r;clear r k4 he hv b4 k5 k Y o5 F d a3 a2 HA O a4;go_upto_region 19 with fail
 rw[<-ao.out];refine aKs (fun W=>W.cell? ⟨w.heap.size,18,none⟩=some (.pointer (some ⟨ab,0,none⟩))/\W.rangeAt ab 0 a/\W.rangeAt g (i*10+5) p.2) [(0,false),(1,false),(2,false),(3,false),(4,false),(5,false),(6,false),(7,false),(8,false),(9,false),(10,false),(11,true),(12,true),(13,true),(14,true)] (HS.out _ (bC (aE _ _))) ?_
 repeat (first
  | (refine aAq.A0 ?_ (hy:=by intro w E;exact aBl 116 _ rfl ab 0 rfl a _ E.2.1 underlying116 rfl Tryz.infoRowSz))
  | (refine aAq.A0 ?_ (hy:=by intro w E;exact aBl 116 _ rfl g (i*10+5) rfl p.2 _ E.2.2 underlying116 rfl Tryz.infoRowSz))
  | refine aAq.A0 ?_|refine aAq.AG ?_|refine aAq.AS ?_
  | (first
     | refine aAq.P0 ?_|refine aAq.PG ?_
     intro K hK;go_simp
     first
     | (go_at_call 272;(refine(a6.out _ (bC (aE _ _))).mono ?_);rintro e w6 ⟨v6,rfl,o6,ak⟩;have b6:bU l.heap.size t w6:=(bC (aE _ t)).trans ak;go_wp2_with fail)
     | skip|fail
     refine hK.out _ _ ?_ (fun _=>?_)
     . (first|exact HS.out _ (bC (aE _ _))|exact HS.out _ b6)
     clear hK K;try simp only[Act.put,sx1,sx2,sx3]))
 refine aAq.fin ?_;go_wp2_with fail
 go_returns
 exact⟨_,rfl,aAh o6 (by omega),B5.trans (b6.mono (by omega))⟩
theorem aUh:prog.underlying 85=some (.map 3 9):=underlying85
theorem aPn (C Y I K X Q:Nat) (hd:[C,Y,I,K,X,Q].Nodup) (c0 win pP v2 rv v1:bT) (key:ByteArray) (w:bR) (hC:BlkIs w C 87 [c0,win,pP,.pointer (some (X,0)),.map (some I),.map (some K),()]) (hY:BlkIs w Y 93 [(3:Int),(),(1:Int),(10:Int),(19:Int),(),(),(),(1:Int),rv,(),v1,(1:Int),false,(1:Int)]) (hX:BlkIs w X 153 [.map (some Q),v2])
 (hI:MapIs w I #[] 0) (hK:MapIs w K #[] 0) (hQ:MapIs w Q #[] 0) :
 bY prog 30 #[.pointer (some (C,0)),.string key,.pointer (some (Y,0))] w fun e w'=>e= .returned (.tuple #[])/\
   BlkIs w' C 87 [c0,win,pP,.pointer (some (X,0)),.map (some I),.map (some K),(1:Int)]/\BlkIs w' Y 93 [(3:Int),(),(1:Int),(10:Int),(19:Int),(),(),(),(1:Int),rv,(1:Int),v1,(1:Int),false,(1:Int)]/\BlkIs w' X 153 [.map (some Q),.pointer none]/\MapIs w' I #[⟨.string key,.pointer (some (Y,0)),0⟩] 1/\MapIs w' K #[⟨.int .i64 1,.string key,0⟩] 1/\
   MapIs w' Q #[⟨.int .i64 1,.agg #[(3:Int),(),(1:Int),(10:Int),(19:Int),(),()],0⟩] 1/\Ch [C,Y,I,K,X,Q] w w':=by
 simp only[List.nodup_cons,List.mem_cons,List.not_mem_nil,or_false,not_or,List.nodup_nil,and_true,not_false_eq_true]at hd;have d:=hid hd;have c6:=hC.c6;have g6:=hC.frozen 6;obtain⟨KC,KY,KX,KI,KK,KQ,HB⟩:=aMz (hC.set 6 (.int .i64 1)) (hY.other (p:=⟨C,6,none⟩) (by dsimp only;omega) (.int .i64 1)) (hX.other (p:=⟨C,6,none⟩) (by dsimp only;omega) (.int .i64 1)) (hI.setCell (p:=⟨C,6,none⟩) (by dsimp only;omega) (.int .i64 1)) (hK.setCell (p:=⟨C,6,none⟩) (by dsimp only;omega) (.int .i64 1)) (hQ.setCell (p:=⟨C,6,none⟩) (by dsimp only;omega) (.int .i64 1)) ((Ch.refl [C,Y,I,K,X,Q] w).setCell (p:=⟨C,6,none⟩) (.inl (by simp)) (.int .i64 1));clear hC hY hX hI hK hQ hd;go_enter func30,ntmps30
 go_upto_region 1 with fail
 generalize w.setCell (C,6) (.int .i64 1)=w1 at *;have z6:=KC.c6;have ac:=KY.c10;have ag:=KY.frozen 10;obtain⟨l,m,B,z,J,E,O⟩:=aMz (KC.other (p:=⟨Y,10,none⟩) (by have:=d.out;dsimp only;omega) (.int .i64 1)) (KY.set 10 (.int .i64 1)) (KX.other (p:=⟨Y,10,none⟩) (by have:=d.out;dsimp only;omega) (.int .i64 1)) (KI.setCell (p:=⟨Y,10,none⟩) (by have:=d.out;dsimp only;omega) (.int .i64 1)) (KK.setCell (p:=⟨Y,10,none⟩) (by have:=d.out;dsimp only;omega) (.int .i64 1)) (KQ.setCell (p:=⟨Y,10,none⟩) (by have:=d.out;dsimp only;omega) (.int .i64 1)) (HB.setCell (p:=⟨Y,10,none⟩) (.inl (by simp)) (.int .i64 1));clear KC KY KX KI KK KQ HB;go_upto_region 2 with fail
 generalize w1.setCell (Y,10) (.int .i64 1)=w2 at *;clear z6 ac ag c6 g6;have HS:=hid (show(fun W=>BlkIs W C 87 [c0,win,pP,.pointer (some (X,0)),.map (some I),.map (some K),(1:Int)]/\BlkIs W Y 93 [(3:Int),(),(1:Int),(10:Int),(19:Int),(),(),(),(1:Int),rv,(1:Int),v1,(1:Int),false,(1:Int)]/\W.cell? (C,4)=some (.map (some I))/\W.cell? (C,5)=some (.map (some K))/\W.cell? (Y,10)=some (.int .i64 1)) w2.drew from⟨l.drew,m.drew,l.drew.cell 4,l.drew.cell 5,m.drew.cell 10⟩);refine bCd (fun W=>BlkIs W C 87 [c0,win,pP,.pointer (some (X,0)),.map (some I),.map (some K),(1:Int)]/\BlkIs W Y 93 [(3:Int),(),(1:Int),(10:Int),(19:Int),(),(),(),(1:Int),rv,(1:Int),v1,(1:Int),false,(1:Int)]/\W.cell? (C,4)=some (.map (some I))/\W.cell? (C,5)=some (.map (some K))/\W.cell? (Y,10)=some (.int .i64 1)) (.take 0 (.take 1 (.take 2 (.take 3 (.take 4 (.take 5 (.take 6 (.take 7 (.take 8 (.take 9 (.take 10 (.take 11 (.take 12 (.take 13 (.take 14 (.step 15 (.take 16 (.step 17 (.step 18 (.take 19 (.step 20 .done))))))))))))))))))))) HS.out ?_;obtain⟨f,a⟩:=ex_ w2.drew;replace l:=hid (show BlkIs f C 87 [c0,win,pP,.pointer (some (X,0)),.map (some I),.map (some K),(1:Int)] by rw[a];exact l.drew);replace m:=hid (show BlkIs f Y 93 [(3:Int),(),(1:Int),(10:Int),(19:Int),(),(),(),(1:Int),rv,(1:Int),v1,(1:Int),false,(1:Int)] by rw[a];exact m.drew);replace B:=hid (show BlkIs f X 153 [.map (some Q),v2] by rw[a];exact B.drew);replace z:=hid (show MapIs f I #[] 0 by rw[a];exact z.drew);replace J:=hid (show MapIs f K #[] 0 by rw[a];exact J.drew);replace E:=hid (show MapIs f Q #[] 0 by rw[a];exact E.drew);replace O:=hid (show Ch [C,Y,I,K,X,Q] w f by rw[a];exact O.drew);rw[<-a]at HS⊢;clear a
 repeat' (first
  | refine aAd.A0 ?_|refine aAd.AG ?_|refine aAd.AS ?_|with_reducible apply aAd.step|with_reducible apply aAd.fork|with_reducible apply aAd.fork3|refine GoT.A0 ?_|refine GoT.AG ?_|refine GoT.AS ?_|fail)
 have k:=aKe aI7 aH2 (show MapKept.IsKey .string (.string key)from trivial) z.out (zeroValue88 f);obtain⟨r,y,U,M,a1,a0,a6⟩:=aMz (l.setBlock (c:=I) (by have:=d.out;omega) (.map #[⟨.string key,.pointer none,0⟩] 1)) (m.setBlock (c:=I) (by have:=d.out;omega) (.map #[⟨.string key,.pointer none,0⟩] 1)) (B.setBlock (c:=I) (by have:=d.out;omega) (.map #[⟨.string key,.pointer none,0⟩] 1)) (z.put (es':=#[⟨.string key,.pointer none,0⟩]) (clock':=1)) (J.setBlock (c:=I) (by have:=d.out;omega) (.map #[⟨.string key,.pointer none,0⟩] 1)) (E.setBlock (c:=I) (by have:=d.out;omega) (.map #[⟨.string key,.pointer none,0⟩] 1)) (O.setBlock (b:=I) (.inl (by simp)) (.map #[⟨.string key,.pointer none,0⟩] 1));refine GoT.P0 ?_;intro K hK;go_simp;refine hK.out _ _ ⟨r.out,y.out,r.cell 4,r.cell 5,y.cell 10⟩ (fun _=>?_);clear hK K k;generalize Go.ChangeMaps.setBlock f I (.map #[⟨.string key,.pointer none,0⟩] 1)=w3 at r y U M a1 a0 a6⊢;refine aBq ?_;clear l m B z J E O;clear HS
 repeat' (first
  | refine aAd.A0 ?_|refine aAd.AG ?_|refine aAd.AS ?_|with_reducible apply aAd.step|with_reducible apply aAd.fork|with_reducible apply aAd.fork3|refine GoT.A0 ?_|refine GoT.AG ?_|refine GoT.AS ?_|fail)
 have k:=aHo (P:=prog) (t:=84) (v:= .pointer (some (Y,0))) M.out;obtain⟨q,x,T,a3,H,Z,a5⟩:=aMz (r.setBlock (c:=I) (by have:=d.out;omega) (.map #[⟨.string key,.pointer (some (Y,0)),0⟩] 1)) (y.setBlock (c:=I) (by have:=d.out;omega) (.map #[⟨.string key,.pointer (some (Y,0)),0⟩] 1)) (U.setBlock (c:=I) (by have:=d.out;omega) (.map #[⟨.string key,.pointer (some (Y,0)),0⟩] 1)) (M.put (es':=#[⟨.string key,.pointer (some (Y,0)),0⟩]) (clock':=1)) (a1.setBlock (c:=I) (by have:=d.out;omega) (.map #[⟨.string key,.pointer (some (Y,0)),0⟩] 1)) (a0.setBlock (c:=I) (by have:=d.out;omega) (.map #[⟨.string key,.pointer (some (Y,0)),0⟩] 1)) (a6.setBlock (b:=I) (.inl (by simp)) (.map #[⟨.string key,.pointer (some (Y,0)),0⟩] 1));refine GoT.P0 ?_;intro K hK;go_simp;refine hK.out _ _ ⟨q.out,x.out,q.cell 4,q.cell 5,x.cell 10⟩ (fun _=>?_);clear hK K k;generalize Go.ChangeMaps.setBlock w3 I (.map #[⟨.string key,.pointer (some (Y,0)),0⟩] 1)=w4 at q x T a3 H Z a5⊢;refine aBq ?_;clear r y U M a1 a0 a6
 repeat' (first
  | refine aAd.A0 ?_|refine aAd.AG ?_|refine aAd.AS ?_|with_reducible apply aAd.step|with_reducible apply aAd.fork|with_reducible apply aAd.fork3|refine GoT.A0 ?_|refine GoT.AG ?_|refine GoT.AS ?_|fail)
 have k:=aKe aUh aBx (show MapKept.IsKey (.int .i64) (.int .i64 1)from rfl) H.out (zeroValue9 w4);obtain⟨n,s,S,a2,G,V,a4⟩:=aMz (q.setBlock (c:=K) (by have:=d.out;omega) (.map #[⟨.int .i64 1,.string ⟨#[]⟩,0⟩] 1)) (x.setBlock (c:=K) (by have:=d.out;omega) (.map #[⟨.int .i64 1,.string ⟨#[]⟩,0⟩] 1)) (T.setBlock (c:=K) (by have:=d.out;omega) (.map #[⟨.int .i64 1,.string ⟨#[]⟩,0⟩] 1)) (a3.setBlock (c:=K) (by have:=d.out;omega) (.map #[⟨.int .i64 1,.string ⟨#[]⟩,0⟩] 1)) (H.put (es':=#[⟨.int .i64 1,.string ⟨#[]⟩,0⟩]) (clock':=1)) (Z.setBlock (c:=K) (by have:=d.out;omega) (.map #[⟨.int .i64 1,.string ⟨#[]⟩,0⟩] 1)) (a5.setBlock (b:=K) (.inl (by simp)) (.map #[⟨.int .i64 1,.string ⟨#[]⟩,0⟩] 1));refine GoT.P0 ?_;intro K hK;go_simp;refine hK.out _ _ ⟨n.out,s.out,n.cell 4,n.cell 5,s.cell 10⟩ (fun _=>?_);clear hK K k;generalize Go.ChangeMaps.setBlock w4 K (.map #[⟨.int .i64 1,.string ⟨#[]⟩,0⟩] 1)=w5 at n s S a2 G V a4⊢;refine aBq ?_;clear q x T a3 H Z a5
 repeat' (first
  | refine aAd.A0 ?_|refine aAd.AG ?_|refine aAd.AS ?_|with_reducible apply aAd.step|with_reducible apply aAd.fork|with_reducible apply aAd.fork3|refine GoT.A0 ?_|refine GoT.AG ?_|refine GoT.AS ?_|fail)
 have k:=aHo (P:=prog) (t:=85) (v:= .string key) G.out;obtain⟨i,g,A,L,F,D,N⟩:=aMz (n.setBlock (c:=K) (by have:=d.out;omega) (.map #[⟨.int .i64 1,.string key,0⟩] 1)) (s.setBlock (c:=K) (by have:=d.out;omega) (.map #[⟨.int .i64 1,.string key,0⟩] 1)) (S.setBlock (c:=K) (by have:=d.out;omega) (.map #[⟨.int .i64 1,.string key,0⟩] 1)) (a2.setBlock (c:=K) (by have:=d.out;omega) (.map #[⟨.int .i64 1,.string key,0⟩] 1)) (G.put (es':=#[⟨.int .i64 1,.string key,0⟩]) (clock':=1)) (V.setBlock (c:=K) (by have:=d.out;omega) (.map #[⟨.int .i64 1,.string key,0⟩] 1)) (a4.setBlock (b:=K) (.inl (by simp)) (.map #[⟨.int .i64 1,.string key,0⟩] 1));refine GoT.P0 ?_;intro K hK;go_simp;refine hK.out _ _ ⟨i.out,g.out,i.cell 4,i.cell 5,g.cell 10⟩ (fun _=>?_);clear hK K k;generalize Go.ChangeMaps.setBlock w5 K (.map #[⟨.int .i64 1,.string key,0⟩] 1)=w6 at i g A L F D N⊢;refine aBq ?_;clear n s S a2 G V a4;refine aAd.fin ?_;go_upto_region 3 with fail
 have aa:=hid (fun(W:bR) (h:BlkIs W Y 93 [(3:Int),(),(1:Int),(10:Int),(19:Int),(),(),(),(1:Int),rv,(1:Int),v1,(1:Int),false,(1:Int)])=>(show W.rangeAt Y 0 [(3:Int),(),(1:Int),(10:Int),(19:Int),(),()]from h.rangeAt (o:=0) (fun j u hu=>by rw[aQ,show[.int .i64 3,.int .i64 0,.int .i64 1,.int .i64 10,.int .i64 19,.int .i64 0,.int .i64 0,.int .i64 0,.int .i64 1,rv,.int .i64 1,v1,.int .i64 1,.bool false,.int .i64 1]=[.int .i64 3,.int .i64 0,.int .i64 1,.int .i64 10,.int .i64 19,.int .i64 0,.int .i64 0]++[.int .i64 0,.int .i64 1,rv,.int .i64 1,v1,.int .i64 1,.bool false,.int .i64 1]from rfl,List.getElem?_append_left (aN.1 hu).1];exact hu)));have a9:=hid (show(fun W=>W.rangeAt Y 0 [(3:Int),(),(1:Int),(10:Int),(19:Int),(),()]/\W.cell? (C,3)=some (.pointer (some (X,0)))/\W.cell? (Y,10)=some (.int .i64 1)) w6.drew from⟨aa.out _ g.drew,i.drew.cell 3,g.drew.cell 10⟩);refine bCd (fun W=>W.rangeAt Y 0 [(3:Int),(),(1:Int),(10:Int),(19:Int),(),()]/\W.cell? (C,3)=some (.pointer (some (X,0)))/\W.cell? (Y,10)=some (.int .i64 1)) (.take 0 (.take 1 (.take 2 (.take 3 (.take 4 (.take 5 (.take 6 (.take 7 (.take 8 (.take 9 (.take 10 (.take 11 (.take 12 (.step 13 .done)))))))))))))) a9.out ?_;obtain⟨f,a⟩:=ex_ w6.drew;replace i:=hid (show BlkIs f C 87 [c0,win,pP,.pointer (some (X,0)),.map (some I),.map (some K),(1:Int)] by rw[a];exact i.drew);replace g:=hid (show BlkIs f Y 93 [(3:Int),(),(1:Int),(10:Int),(19:Int),(),(),(),(1:Int),rv,(1:Int),v1,(1:Int),false,(1:Int)] by rw[a];exact g.drew);replace A:=hid (show BlkIs f X 153 [.map (some Q),v2] by rw[a];exact A.drew);replace L:=hid (show MapIs f I #[⟨.string key,.pointer (some (Y,0)),0⟩] 1 by rw[a];exact L.drew);replace F:=hid (show MapIs f K #[⟨.int .i64 1,.string key,0⟩] 1 by rw[a];exact F.drew);replace D:=hid (show MapIs f Q #[] 0 by rw[a];exact D.drew);replace N:=hid (show Ch [C,Y,I,K,X,Q] w f by rw[a];exact N.drew);rw[<-a]at a9⊢;clear a
 repeat' (first
  | (refine aAd.A0 ?_ (hy:=by intro wq af;exact aBl 29 _ rfl Y 0 rfl #[(3:Int),(),(1:Int),(10:Int),(19:Int),(),()] _ af.1 underlying29 rfl aDq))
  | refine aAd.A0 ?_|refine aAd.AG ?_|refine aAd.AS ?_|with_reducible apply aAd.step|with_reducible apply aAd.fork|with_reducible apply aAd.fork3|refine GoT.A0 ?_|refine GoT.AG ?_|refine GoT.AS ?_|fail)
 refine GoT.P0 ?_;intro K hK;go_simp;go_at_call 69
 (with_reducible refine(aX8 X Q (by have:=d.out;omega) v2 f A.out D.out).mono ?_)
 rintro e w7 ⟨rfl,ad,ae,c7⟩;obtain⟨a8,R,ai,ah,al⟩:=aDs (i.ch c7 (by have:=d.out;simp;omega)) (g.ch c7 (by have:=d.out;simp;omega)) (L.ch c7 (by have:=d.out;simp;omega)) (F.ch c7 (by have:=d.out;simp;omega)) (N.trans (c7.mono (by simp)));go_wp2_with fail
 refine hK.out _ _ ⟨aa.out _ R.out,a8.cell 3,R.cell 10⟩ (fun _=>?_);clear hK K;try simp only[Act.put]
 refine aAd.fin ?_;go_wp2_with fail
 go_end0
 exact⟨rfl,a8.out,R.out,ad,ai.out,ah.out,ae,al.out⟩
theorem Tryz.infoQry7:(prog.info? 29).map (·.size)=some 7:=by kernel_rfl
def pEs (P:List Rw):List (bT×bT):=P.map fun y=>(.int .i64 y.key,rwV y)
theorem aPs (P:List Rw):∀p∈pEs P,MapKept.IsKey (.int .i64) p.1:=by
 intro p a;obtain⟨y,_,rfl⟩:=List.mem_map.1 a;rfl
theorem aT6 {P:List Rw} (h:(P.map (·.key)).Nodup):((pEs P).map (·.1)).Nodup:=by
 unfold pEs;rw[List.map_map];have:((fun p:bT×bT=>p.1)∘fun y:Rw=>((.int .i64 y.key:bT),rwV y))=(fun k:Int=>(.int .i64 k:bT))∘Rw.key:=rfl;rw[this,<-List.map_map];exact List.Pairwise.map _ (fun a b c e=>c (by injection e)) h
theorem aPx:prog.underlying 296=some (.map 3 116):=underlying296
theorem aQ2 {P:List Rw} {w:bR} {b:Nat} (h:aD9 w b (pEs P)) (hn:(P.map (·.key)).Nodup) (k:Int) :
 (Instr.lookup 296 (.map (some b)) (.int .i64 k) true).run prog w= .ok (.tuple #[rwV ((P.find? (isK k)).getD rw0),.bool (P.find? (isK k)).isSome]) w:=by
  cases e:P.find? (isK k)with
  | none=>
    refine(h.miss aPx aFl (show MapKept.IsKey (.int .i64) (.int .i64 k)from rfl) (aPs P) ?_ (bCh w)).2;intro p d c;obtain⟨y,a,rfl⟩:=List.mem_map.1 d;have:=List.find?_eq_none.1 e y a;injection c with _ c
    simp[isK,c]at this
  | some y=>
    have a:=List.mem_of_find?_eq_some e;have f:y.key=k:=by have:=List.find?_some e;simpa[isK]using this
    exact(h.look aPx aFl (show MapKept.IsKey (.int .i64) (.int .i64 k)from rfl) (aPs P) (aT6 hn) (List.mem_map.2 ⟨y,a,by rw[f];rfl⟩)).2
theorem aUo (q:Qy) (rows others:List Rw) (v1 v2:bT) (w:bR) (h1:RwsAt w v1 rows) (h2:RwsAt w v2 others) (n1:rows.length<=10000) (n2:others.length<=10000) :
 bY prog 100 #[qV q,v1,v2] w fun e w'=>∃v',e= .returned v'/\RwsAt w' v' (aCa (aCh (aB8 q others) q.by_ rows))/\bU w w w':=by
 obtain⟨A1,c1,rfl,N,f⟩:=h1;obtain⟨A2,c2,rfl,b2,s⟩:=h2;obtain⟨N1,O⟩:=ex_ rows.length;obtain⟨N2,a2⟩:=ex_ others.length;obtain⟨S,B⟩:=ex_ (w.alloc (.cells q 29));have b1:bU w w S:=by rw[B];exact(aE w.heap.size w).alloc (aG _) _
 have k1:BlkIs S w 29 q:=by rw[B];exact aAp _ _ _ rfl rfl
 have z1:S.heap.size=w.heap.size+1:=by rw[B,bK]
 obtain⟨F,aq,aA,ax,ap,R,a5,bs,az⟩:=bBf (fun W (hW:bU w w W)=>aE9 q rows (.slice A1 rows.length c1) W (RwsAt.below ⟨A1,c1,rfl,N,f⟩ hW) (by omega)) B b1 k1 z1 O a2 f s;rw[<-O]at n1 N⊢;rw[<-a2]at n2 b2⊢;have c3:=hid N;rw[<-O]at F;clear B b1 k1 z1 f s O a2 N;have bV:∀W:bR,(Instr.makeMap 296 none).run prog W= .ok (.map (some W.heap.size)) (W.alloc (.map #[] 0)):=fun _=>rfl;unfold qV;go_enter func100,ntmps100
 go_upto_region 1 with fail
 rw[<-aq.out];obtain⟨mb,M⟩:=ex_ S.heap.size;obtain⟨K2,B2,M2,Z2⟩:=aBp (ax.alloc (.map #[] 0)) (aD aA.out (bA S (.map #[] 0))) (aD9.made S) (show mb=w.heap.size+1 by rw[M];exact ap.out);rw[<-M]at M2;go_wp2_with fail
 rw[<-M];generalize S.alloc (.map #[] 0)=w2 at K2 B2 M2⊢;clear aq aA ax ap M S;go_loopw [19] (fun iv wr=>∃k:Nat,iv= .int .i64 k/\k<=N2/\Hid (aD9 wr mb (pEs ((others.take k).foldl (aM8 q.other) [])))/\Hid (BlkIs wr w 29 q)/\Hid (bU w w wr)) (fun iv _=>N2-(intOf iv).toNat)
 case atStart=>exact⟨0,rfl,by omega,M2,K2,B2⟩
 case round=>
  clear M2 K2 B2;obtain⟨k,rfl,hk,HM,HK,HB⟩:=hrel;by_cases h1:k<N2
  case pos=>
   obtain⟨x,T⟩:∃x,others[k]? =some x:=⟨_,aU (by rw[<-a5.out];exact h1)⟩;obtain⟨g,o,rfl,hg,hj⟩:=az.out (by rw[<-a5.out];omega);have hr:wr.rangeAt g (o+k*5) (rwC x):=fun m u hu=>(HB.cell (p:=⟨g,o+k*5+m,none⟩) hg).trans (hj k x T m u hu);obtain⟨Q,A,z⟩:=aAw hr (aSv (o:=q.other) T) (aGy (o:=q.other) (l:=others.take k) (P:=[]) (by simp));have q1:(0:Int)<=(k:Int):=by omega
   have q2:(k:Int)<(N2:Int):=by omega
   clear hr hj T
   go_upto_region 5 with(first
    | (refine wpList_load_mid rfl 116 (.tmp 21) rfl g (o+k*5) rfl (rwC x) _ Q.out underlying116 rfl Tryz.infoRowSz ?_)
    | (refine aAi rfl 116 (.tmp 9) (.tmp 22) rfl wr.heap.size (rwC x).toArray _ 116 rfl rfl rfl Tryz.infoRowSz rfl (all_oneCell_toArray (aBj x)) ?_)
    | fail)
   have E:=bA wr (.cells (rwC x).toArray 116);have J:BlkIs (wr.alloc (.cells (rwC x).toArray 116)) wr.heap.size 116 (rwC x):=aAp _ _ _ rfl (by simp);obtain⟨X,hX⟩:=ex_ wr.heap.size;generalize wr.alloc (.cells (rwC x).toArray 116)=w5 at E J⊢;obtain⟨M5,K5,B5⟩:=aAw (HM.later E) (HK.later E) (aD HB.out E);rw[<-hX]at J⊢;obtain⟨P,hP⟩:=ex_ ((others.take k).foldl (aM8 q.other) []);rw[<-hP]at M5 A z;obtain⟨Y,hY⟩:=ex_ ((P.find? (isK x.key)).getD rw0);obtain⟨ok,Z⟩:=ex_ ((P.find? (isK x.key)).isSome);have d:=aQ2 M5.out z.out x.key;rw[<-hY,<-Z]at d;have a4:=hid (show bBg P x.key=ok by rw[Z];exact aOk);have y1:=J.c1;have aw:=hid J;unfold rwV at d;clear E HM HK HB Q hX hP hY Z J
   go_upto_region 6 with(first
    | (refine aAi rfl 116 (.tmp 10) (.tmp 28) rfl w5.heap.size (rwC Y).toArray _ 116 rfl rfl rfl Tryz.infoRowSz rfl (all_oneCell_toArray (aBj Y)) ?_)
    | fail)
   have n:=bA w5 (.cells (rwC Y).toArray 116);generalize w5.alloc (.cells (rwC Y).toArray 116)=w6 at n⊢;obtain⟨M6,U,H⟩:=aAw (M5.later n) (K5.later n) (aD B5.out n);have X6:=aw.later n;obtain⟨z0,z1⟩:=X6.C2;have z6:=U.c6;have H6:=hid (show w6.heap[X]? =some (.cells (rwC x).toArray 116 (0,0))from X6);clear M5 K5 B5 n X6 d y1 aw;obtain⟨eq,b0⟩:∃b,(x.table== q.other)=b:=⟨_,rfl⟩;have ay:=hid (show decide (x.table=q.other)=eq from b0);cases eq
   case false=>
    have c:aM8 q.other P x=P:=by unfold aM8;rw[ay.out];rfl
    rw[c]at A;clear c;go_wp2_with fail
    go_roundw
    case rel=>exact⟨k+1,by go_num,h1,by rw[A.out];exact M6,U,H⟩
    case measure=>simp[intOf];omega
   case true=>
    cases ok
    case true=>
     have c:aM8 q.other P x=P:=by unfold aM8;rw[a4.out];simp
     rw[c]at A;clear c;go_wp2_with fail
     go_roundw
     case rel=>exact⟨k+1,by go_num,h1,by rw[A.out];exact M6,U,H⟩
     case measure=>simp[intOf];omega
    case false=>
     have c:aM8 q.other P x=P++[x]:=by unfold aM8;rw[ay.out,a4.out];rfl
     rw[c]at A;have bk:=hid (show pEs (P++[x])=pEs P++[(.int .i64 x.key,rwV x)] by unfold pEs;rw[List.map_append];rfl)
     have bo:=hid (show∀p∈pEs P,p.1≠ .int .i64 x.key from by
      intro p hp e2;obtain⟨y,hy,rfl⟩:=List.mem_map.1 hp;injection e2 with _ e2
      exact aU5 a4.out y hy e2)
     clear c
     go_wp2_with (first
      | (refine wpList_load_row rfl 116 (.tmp 9) rfl X rfl 116 (rwC x).toArray (0,0) _ H6.out underlying116 rfl Tryz.infoRowSz ?_)
      | (refine aRy rfl (.tmp 39) (.tmp 41) (.tmp 42) 296 (.inr rfl) aPx aFl mb (pEs P) rfl M6.out (.int .i64 x.key) (rwV x) rfl rfl rfl (aPs P) bo.out ?_
         intro w7 m7 u7 s7;obtain⟨M7,K7,B7⟩:=aAw m7 (U.upd u7 (by have:=Z2.out;omega)) (H.trans (u7.below (by have:=Z2.out;omega) H.size));clear m7 u7 s7)
      | fail)
     go_roundw
     case rel=>exact⟨k+1,by go_num,h1,by rw[A.out,bk.out];exact M7,K7,B7⟩
     case measure=>simp[intOf];omega
  case neg=>
   obtain rfl:k=N2:=by omega
   have hm:=HM.out;rw[a5.out,List.take_length]at hm;have z:=aGy (o:=q.other) (l:=others) (P:=[]) (by simp);have V:=aT4 q others;generalize others.foldl (aM8 q.other) []=P at hm z V;obtain⟨av,br,bj⟩:=aAw hm z V;have au:=hid (show wr.heap[w.heap.size]? =some (.cells q 29 (0,0))from HK.out);have a:=F.out wr HB.out;have G:=hid a;clear hm z V a HM az F
   go_wp2_with (first
    | (refine wpList_load_row rfl 29 (.tmp 3) rfl w.heap.size rfl 29 q (0,0) _ au.out underlying29 rfl Tryz.infoQry7 ?_)
    | fail)
   have a:=G.out;unfold qV at a;refine a.mono ?_;rintro e w3 ⟨vm,rfl,om,b3⟩;have ac:(aA7 q rows).length=N1:=by rw[R.out];simp[aA7]
   rw[ac]at om;obtain⟨Am,cm,rfl,bW,-,ae⟩:=aAa om;obtain⟨BB,ak⟩:=ex_ w3.heap.size;obtain⟨M3,B3,OM,j⟩:=aBp (av.later b3) (aD HB.out b3) ae ak;clear a G om b3 ae au HK HB av ak ac;go_wp2_with fail
   go_loopw [6,48] (fun ov iv wr=>∃k:Nat,iv= .int .i64 k/\k<=N1/\Hid (wr.ownsRow BB 116 5 ov (aCa (aCh (aB8 q others) q.by_ (rows.take k))).length ((aCa (aCh (aB8 q others) q.by_ (rows.take k))).flatMap rwC))/\Hid (bU BB w3 wr)) (fun _ iv _=>N1-(intOf iv).toNat)
   case atStart=>exact⟨0,rfl,by omega,hid (by simpa[aCh,aCa]using bD _ _ _ _),hid (by rw[j.out];exact aE _ _)⟩
   case round=>
    obtain⟨i,rfl,hi,HO,r⟩:=hrel;by_cases h2:i<N1
    case neg=>
     obtain rfl:i=N1:=by omega
     have ho:=HO.out;rw[R.out,List.take_length]at ho;obtain⟨Ao,co,rfl,-⟩:=aAa ho;have bl:=hid ho;obtain⟨D,hD⟩:=ex_ ((aCa (aCh (aB8 q others) q.by_ rows)).length);rw[<-hD];have HD:=hid hD;clear ho HO hD;go_wp2_with fail
     go_ret;refine⟨_,rfl,?_,B3.trans (r.mono (by rw[j.out];exact B3.size))⟩;rw[HD.out];exact aA1 bl.out
    case pos=>
     obtain⟨x,T⟩:∃x,rows[i]? =some x:=⟨_,aU (by rw[<-R.out];exact h2)⟩;obtain⟨g,o,rfl,hg,hj⟩:=bs.out (by rw[<-R.out];omega);obtain⟨gm,rfl,aZ,-,af⟩:=OM.out (by omega);have a8:=af i (.int .i64 (x.val q.by_)) (by unfold aA7;rw[List.getElem?_map,List.getElem?_map,T];rfl);have q1:(0:Int)<=(i:Int):=by omega
     have q2:(i:Int)<(N1:Int):=by omega
     have x0:wr.cell? (gm,i)=some (.int .i64 (x.val q.by_)):=(r.cell (p:=⟨gm,i,none⟩) (by rw[j.out];exact aZ)).trans a8;have hr:∀W,bU BB w3 W->W.rangeAt g (o+i*5) (rwC x):=fun W hW m u hu=>(hW.cell (p:=⟨g,o+i*5+m,none⟩) (by rw[j.out];exact bG hg B3.size)).trans ((B3.cell (p:=⟨g,o+i*5+m,none⟩) hg).trans (hj i x T m u hu));have Q:=hid hr;have A:=hid (aUp (g:=aB8 q others) (m:=q.by_) T);have d:=aQ2 (M3.block (r.block mb (by rw[j.out];exact M3.lt))) br.out (x.val q.by_);rw[bj.out]at d;obtain⟨py,ab⟩:=ex_ (aB8 q others (x.val q.by_));rw[<-ab]at d A;obtain⟨mk,ad⟩:=ex_ (x.val q.by_);rw[<-ad]at d x0;have t:=HO;obtain⟨L,hL⟩:=ex_ (aCa (aCh (aB8 q others) q.by_ (rows.take i)));rw[<-hL]at t A
     have ai:L.length<=2*N1:=by
      rw[hL,aHm];have:=aOd (aB8 q others) q.by_ (rows.take i);rw[bE]at this;omega
     have bq:=hid ai;clear T hj af a8 hr ab ad hL ai HO;cases py with
     | none=>
       simp only[Option.getD_none,Option.isSome_none]at d;unfold rwV at d;obtain⟨Ao,co,rfl,-⟩:=aAa t.out;have n:=bA wr (.cells (rwC rw0).toArray 116);have O6:=hid (aAb n t.out);have H:=hid (r.trans (n.mono (by have:=r.size;have:=j.out;omega)))
       go_wp2_with (first
        | (refine aAi rfl 116 (.tmp 14) (.tmp 57) rfl wr.heap.size (rwC rw0).toArray _ 116 rfl rfl rfl Tryz.infoRowSz rfl (all_oneCell_toArray (aBj rw0)) ?_)
        | fail)
       go_roundw
       case rel=>exact⟨i+1,by go_num,h2,by rw[A.out,List.append_nil];exact O6,H⟩
       case measure=>simp[intOf];omega
     | some y=>
       simp only[Option.getD_some,Option.isSome_some]at d;unfold rwV at d;obtain⟨Ao,co,rfl,-⟩:=aAa t.out
       go_upto_region 14 with(first
        | (refine aAi rfl 116 (.tmp 14) (.tmp 57) rfl wr.heap.size (rwC y).toArray _ 116 rfl rfl rfl Tryz.infoRowSz rfl (all_oneCell_toArray (aBj y)) ?_)
        | fail)
       have E:=bA wr (.cells (rwC y).toArray 116);have J:BlkIs (wr.alloc (.cells (rwC y).toArray 116)) wr.heap.size 116 (rwC y):=aAp _ _ _ rfl (by simp);obtain⟨Y5,C⟩:=ex_ wr.heap.size;have ah:BB<=Y5:=by rw[C];exact(by have:=r.size;have:=j.out;omega)
       generalize wr.alloc (.cells (rwC y).toArray 116)=w5 at E J⊢;have O5:=aAb E t.out;have B5:=r.trans (E.mono (by rw[<-C];exact ah));rw[<-C]at J⊢;have a0:=fun k hk=>(t.lt k hk).2;rw[<-C]at a0;obtain⟨bp,HS,K5,be,aC,ar⟩:=aIl a0 (fun(W:bR) (h1:BlkIs W Y5 116 (rwC y)) (h2:bU BB w3 W)=>(show(fun W=>BlkIs W Y5 116 (rwC y)/\W.rangeAt g (o+i*5) (rwC x)) W from⟨h1,Q.out W h2⟩)) J O5 B5 (show BB<=w5.heap.size from bJ ah (by rw[C];exact E.size));clear J O5 B5 a0 E;refine bCd (fun W=>BlkIs W Y5 116 (rwC y)/\W.rangeAt g (o+i*5) (rwC x)) (.take 0 (.take 1 (.take 2 (.take 3 (.take 4 (.take 5 (.step 6 (.step 7 (.take 8 .done))))))))) (HS.out _ (BlkIs.drew K5.out) (bC aC.out)) ?_
       repeat (first
        | (refine aAd.A0 ?_ (hy:=by intro w a1;exact aBl 116 _ rfl g (o+i*5) rfl x _ a1.2 underlying116 rfl Tryz.infoRowSz))
        | (refine aAd.A0 ?_ (hy:=by intro w a1;exact aAe 116 _ rfl Y5 rfl 116 y (0,0) _ a1.1 underlying116 rfl Tryz.infoRowSz))
        | refine aAd.A0 ?_|refine aAd.AG ?_|refine aAd.AS ?_|with_reducible apply aAd.fork|with_reducible apply aAd.fork3|refine GoT.A0 ?_|refine GoT.AG ?_
        | (refine GoT.AS ?_))
       with_reducible apply aAd.step
       refine GoT.P0 ?_;intro K hK;go_simp;have k6:BlkIs (w5.alloc (.cells #[x.table,x.key,x.v.1,x.v.2.1,x.v.2.2,y.table,y.key,y.v.1,y.v.2.1,y.v.2.2] 116)).drew w5.heap.size 116 (rwC x++rwC y):=BlkIs.drew (aAp _ _ _ rfl rfl);have n:bU w5 w5 (w5.alloc (.cells #[x.table,x.key,x.v.1,x.v.2.1,x.v.2.2,y.table,y.key,y.v.1,y.v.2.1,y.v.2.2] 116)).drew:=bC (bA w5 _);generalize (w5.alloc (.cells #[x.table,x.key,x.v.1,x.v.2.1,x.v.2.2,y.table,y.key,y.v.1,y.v.2.1,y.v.2.2] 116)).drew=w6 at k6 n⊢;have O6:=aAb n be.out;have U:=K5.later n;have H:=aC.trans (n.mono ar.out);have bh:=bJ ar.out n.size;refine hK.out _ _ (HS.out _ U H) (fun _=>?_);clear hK K;refine aBq ?_;with_reducible apply aAd.step
       refine GoT.P0 ?_;intro K hK;obtain⟨i0,aY,aX,aW,aV⟩:=aSr;have bX:=bq.out;refine wp_append_lies w6 (.tmp 60) (.tmp 66) 33 (by rfl) BB 116 i0 (rwV rw0) 5 40 underlying33 aY aX aW aV rfl (by decide) (.slice Ao L.length co) L.length (L.flatMap rwC) (by rfl) O6 ⟨w5.heap.size,0,none⟩ 2 2 (rwC x++rwC y) (by rfl) rfl (aCn k6 0 _ rfl) (by intro u hu;rcases List.mem_append.1 hu with h|h <;> exact aBj _ u h) (by decide) (by unfold maxLen;omega) (by omega) bh _ rfl ?_;intro gc c7 w7 o7 g7 _ _;have K7:=U.kept g7 (fun e=>by have:=bp.out _ e.symm;omega);have B7:=aFi H (by have:=H.size;have:=j.out;omega) g7 (fun k hk=>(O6.lt k hk).1);refine hK.out _ _ (HS.out _ K7 B7) (fun _=>?_);clear hK K;refine aBq ?_
       repeat (first
        | refine aAd.A0 ?_|refine aAd.AG ?_|refine aAd.AS ?_|with_reducible apply aAd.step|with_reducible apply aAd.fork|with_reducible apply aAd.fork3|refine GoT.A0 ?_|refine GoT.AG ?_
        | (refine GoT.AS ?_))
       refine aAd.fin ?_;have bn:=hid o7;have bt:=hid B7;clear K7 B7 o7 g7 U H O6 k6 n;go_wp2_with fail
       go_roundw
       case rel=>exact⟨i+1,by go_num,h2,by rw[A.out,aO,List.flatMap_append];simpa using bn,bt⟩
       case measure=>simp[intOf];omega
theorem Tryz.infoScan:(prog.info? 131).map (·.size)=some 4:=by kernel_rfl
def scV (s:Sc):bT:= .agg #[s.table,s.column,s.low,s.high]
theorem aZx (q:Qy) (g:GoodQ q) (w:bR):bY prog 49 #[qV q] w fun e w'=>e= .returned (scV (aWp q))/\bU w w w':=by
 have k:=hid (fun W=>aTm q g W);clear g;obtain⟨t,D,j,l,h,f⟩:=aNb w q 29 [(),(),(),()] 131;unfold qV at *;unfold scV aWp;dsimp only;go_enter func49,ntmps49
 go_upto_region 1 with fail
 rw[<-j.out]
 go_wp2_with (first
  | (refine wpList_load_row rfl 29 (.tmp 1) rfl (w.heap.size) rfl 29 q (0,0) _ h.out underlying29 rfl Tryz.infoQry7 ?_)
  | fail)
 (with_reducible refine(k.out t).mono ?_)
 rintro e u ⟨rfl,d⟩;have a:=f.later d;have s:=a.cell 0;have r:=a.cell 1;have o:=a.cell 2;have n:=a.cell 3;have C:=a.frozen 0;have B:=a.frozen 1;have A:=a.frozen 2;have z:=a.frozen 3;have b:=hid (((((aD l.out d).setCell (p:=⟨w.heap.size+1,0,none⟩) (by dsimp only;omega) (.int .i64 q.table)).setCell (p:=⟨w.heap.size+1,1,none⟩) (by dsimp only;omega) (.int .i64 q.column)).setCell (p:=⟨w.heap.size+1,2,none⟩) (by dsimp only;omega) (.int .i64 q.low)).setCell (p:=⟨w.heap.size+1,3,none⟩) (by dsimp only;omega) (.int .i64 q.high));have c:=hid ((((a.set 0 (.int .i64 q.table)).set 1 (.int .i64 q.column)).set 2 (.int .i64 q.low)).set 3 (.int .i64 q.high));clear a d j h f l D k;go_upto_region 2 with fail
 generalize (((u.setCell (w.heap.size+1,0) (.int .i64 q.table)).setCell (w.heap.size+1,1) (.int .i64 q.column)).setCell (w.heap.size+1,2) (.int .i64 q.low)).setCell (w.heap.size+1,3) (.int .i64 q.high)=w2 at b c⊢;clear s r o n C B A z
 go_wp2_with (first
  | (refine wpList_load_row rfl 131 (.tmp 2) rfl (w.heap.size+1) rfl 131 #[q.table,q.column,q.low,q.high] (0,0) _ c.out underlying131 rfl Tryz.infoScan ?_)
  | (refine wpList_store_row rfl 131 (.tmp 2) (.tmp 14) rfl (w.heap.size+1) #[q.table,q.column,q.low,q.high] rfl rfl 131 _ c.out Tryz.infoScan rfl (by simp[bQ]) ?_)
  | fail)
 have i:=hid (c.setRow [q.table,q.column,q.low,q.high]);have m:=hid (below_setRow b.out (show w.heap.size<=w.heap.size+1 by omega) #[q.table,q.column,q.low,q.high]);generalize w2.setRow (w.heap.size+1) #[.int .i64 q.table,.int .i64 q.column,.int .i64 q.low,.int .i64 q.high]=wf at i m⊢;obtain⟨y,a,x,v⟩:=i.C4;refine bodyPost_ret (by simp[results,results49,go_sem,y,a,x,v];try rfl) rfl ?_;exact⟨rfl,m.out⟩
theorem aQ0 (q:Qy) (x:Rw) (w:bR):bY prog 50 #[qV q,rwV x] w fun e w'=>e= .returned (scV (aCs q x))/\bU w w w':=by
 obtain⟨r,z,k,n,c,g,h⟩:=bEr w q 29 x 116 [(),(),(),()] 131;have b:=aB5 x q.by_ r;unfold scV aCs;dsimp only;obtain⟨m,f⟩:=ex_ (x.val q.by_);rw[<-f]at b⊢;clear f;unfold qV rwV at *;have l:=hid b;clear b;go_enter func50,ntmps50
 go_upto_region 1 with fail
 rw[<-k.out];have p:=c.c5
 go_wp2_with (first
  | (refine wpList_load_row rfl 116 (.tmp 3) rfl (w.heap.size+1) rfl 116 x (0,0) _ g.out underlying116 rfl Tryz.infoRowSz ?_)
  | fail)
 (with_reducible refine(l.out).mono ?_)
 rintro e s ⟨rfl,a⟩;have A:=(c.later a).c6;have j:=hid (h.later a);have d:=hid (aD n.out a);clear p a k c g h n z l
 go_wp2_with (first
  | (refine wpList_store_row rfl 131 (.tmp 4) (.tmp 14) rfl (w.heap.size+1+1) #[q.other,(),m,m] rfl rfl 131 _ j.out Tryz.infoScan rfl (by simp[bQ]) ?_)
  | fail)
 have i:=hid (j.setRow [q.other,(),m,m]);have o:=hid (below_setRow d.out (show w.heap.size<=w.heap.size+1+1 by omega) #[q.other,(),m,m]);generalize s.setRow (w.heap.size+1+1) #[.int .i64 q.other,.int .i64 0,.int .i64 m,.int .i64 m]=wf at i o⊢;obtain⟨y,v,u,t⟩:=i.C4;refine bodyPost_ret (by simp[results,results50,go_sem,y,v,u,t];try rfl) rfl ?_;exact⟨rfl,o.out⟩
theorem aDw (w:bR):bY prog 46 #[true] w fun e w'=>e= .returned (.tuple #[])/\w'=w:=by
 go_enter func46,ntmps46
 go_wp2_with fail
 go_end0
 exact⟨rfl,rfl⟩
theorem aK0 (W:bR):(Instr.typeAssert .nilIface 20 184 true).run prog W= .ok (.tuple #[.nilIface,false]) W:=by
 simp[Instr.typeAssert,run_underlying underlying184,zeroValue184,Result.andThen]
theorem aKj (p:Addr) (w:bR):CallsD prog 45 #[.pointer (some p)] .returning w fun e u' w'=>e= .returned (.tuple #[])/\u'= .returning/\w'=w:=by
 refine callsD_of_wpS func45 rfl fun b c a=>?_;apply wpS_seq;apply wpS_region;simp[wpOpsS,go_sem,recoverD,a,ntmps45,Exit.thenS,aK0];apply wpS_seq;apply wpS_region;simp[wpOpsS,go_sem,Exit.thenS,Region.wanted,yielded];refine wpS_cond (t:=false) (by simp[Act.eval,Array.replicate]) ?_;simp only[Bool.false_eq_true,if_false];refine wpS_of_wp (wp_skip ?_);cases b
 simp_all [bodyPostS,results,results45]
theorem aJg (p r:Addr) (w:bR) (h:w.cell? p=some (.bool true)):CallsD prog 44 #[.pointer (some p),.pointer (some r)] .returning w fun e u' w'=>e= .returned (.tuple #[])/\u'= .returning/\w'=w:=by
 refine callsD_of_wpS func44 rfl fun a c b=>?_;apply wpS_seq;apply wpS_region;simp[wpOpsS,go_sem,Exit.thenS,h,ntmps44];refine wpS_cond (t:=false) (by simp[Act.eval,Array.replicate]) ?_;simp only[Bool.false_eq_true,if_false];refine wpS_of_wp (wp_skip ?_);cases a
 simp_all [bodyPostS,results,results44]
theorem Tryz.infoPf9:(prog.info? 68).map (·.size)=some 9:=by kernel_rfl
def pf0:Value:= .agg #[(),(),(),(),(),(),.slice none 0 0,.slice none 0 0,.slice none 0 0]
theorem bBd:∃i,prog.info? 68=some i/\i.zero=some pf0/\i.size=9/\i.bytes=120:=info_parts (by kernel_rfl)
theorem aXt (b m:Nat) (st:StT) (s:Sc) (hs:GoodSc s) (bS bO B:Nat) (v:bT) (ss:List Sc) (ps:List (bT×bT×bT)) (w:bR) (hS:StAt w b m st) (gd:GoodS st) (hR:aA4 w) (kS:BlkIs w bS 72 [.pointer (some (b,0))]) (kO:BlkIs w bO 36 [v])
 (ho:RgsOwn w B v st.rows ss ps) (hB:bO<B) (hBw:B<=w.heap.size) (h8:ss.length<=1000) :
 bY prog 55 #[scV s,.pointer (some (bS,0)),.pointer (some (bO,0))] w fun e w'=>e= .returned (.tuple #[])/\∃v' p,BlkIs w' bO 36 [v']/\RgsOwn w' B v' st.rows (ss++[s]) (ps++[p])/\Upd2 bO v.ownBlock w w':=by
 obtain⟨AO,cO,rfl,-⟩:=aAa ho.row;obtain⟨N,hN⟩:=ex_ ss.length;rw[<-hN]at ho kO h8⊢;obtain⟨l,U,D,S,HN⟩:=aDs (fun W (hW:bU w w W)=>aW6 b m st s.table s.column s.low s.high hs.t0 hs.t3 hs.c0 hs.c3 hs.le W (hS.below hW) gd (hR.later hW)) kS kO ho hN;clear hS gd hR hs kS kO ho hN;obtain⟨wb,HZ,HW,HB,KX⟩:=bB6 w [s.table,s.column,s.low,s.high] 131;unfold scV;go_enter func55,ntmps55
 go_upto_region 1 with fail
 rw[<-HW.out];obtain⟨y0,y1,y2,y3⟩:=KX.C4;have x0:=(U.later HB.out).c0;go_wp2_with fail
 (with_reducible refine(l.out wb HB.out).mono ?_)
 rintro e r ⟨v1,v2,v3,rfl,k,h3,b1⟩;obtain⟨f,c,rfl,-⟩:=aAa k.rows;obtain⟨a3,u,J,-⟩:=k.paths;obtain⟨d,a,rfl,-⟩:=aAa J;obtain⟨h,g,rfl,-⟩:=aAa h3;rw[u]at k;clear J;have n:rgC st.rows s (.slice f (s.cut st.rows).length c,.slice d (s.pths st.rows).length a,.slice h 16 g)=pfC s.table s.column s.low s.high (s.cnt st.rows) (s.from_ st.rows) (.slice f (s.cut st.rows).length c) (.slice d (s.pths st.rows).length a) (.slice h 16 g):=rfl;rw[show(cutO (tabS st.rows s.table s.column) s.column s.low s.high).length=(s.cut st.rows).length from rfl,u]at *;rw[show(cutP st.rows s.table s.column s.low s.high).length=(s.pths st.rows).length from rfl]at *;have A:=hid (show PfOwn r wb.heap.size (s.cut st.rows) (s.pths st.rows) (.slice f (s.cut st.rows).length c) (.slice d (s.pths st.rows).length a)from k);obtain⟨j,z⟩:=ex_ ((s.cut st.rows).length);obtain⟨i,y⟩:=ex_ ((s.pths st.rows).length);obtain⟨C,hC⟩:=ex_ (s.cnt st.rows);obtain⟨F,hF⟩:=ex_ (s.from_ st.rows);rw[<-z,<-y]at A n;rw[<-hC,<-hF]at n;rw[show(tabS st.rows s.table s.column).length=C from hC.symm,show aDi (tabS st.rows s.table s.column) s.column s.low=F from hF.symm];rw[<-z,<-y];obtain⟨ae,O,Y⟩:=aAw n h3 (aD HB.out b1);clear k u n h3 z y hC hF b1 x0 y0 y1 y2 y3 HW l KX U a3;unfold pfV
 go_upto_region 2 with(first
  | (refine aAi rfl 68 (.tmp 4) (.tmp 17) rfl r.heap.size #[s.table,s.column,s.low,s.high,(C:Int),(F:Int),.slice f j c,.slice d i a,.slice h 16 g] _ 68 rfl rfl rfl Tryz.infoPf9 rfl (by simp[bQ]) ?_)
  | fail)
 have M:=bA r (.cells #[s.table,s.column,s.low,s.high,(C:Int),(F:Int),.slice f j c,.slice d i a,.slice h 16 g] 68);have k2:BlkIs (r.alloc (.cells #[s.table,s.column,s.low,s.high,(C:Int),(F:Int),.slice f j c,.slice d i a,.slice h 16 g] 68)) r.heap.size 68 [s.table,s.column,s.low,s.high,(C:Int),(F:Int),.slice f j c,.slice d i a,.slice h 16 g]:=aAp _ _ _ rfl rfl;obtain⟨X,hX⟩:=ex_ r.heap.size;generalize r.alloc (.cells #[s.table,s.column,s.low,s.high,(C:Int),(F:Int),.slice f j c,.slice d i a,.slice h 16 g] 68)=w2 at M k2⊢;rw[<-hX]at k2⊢;obtain⟨q,P,E,ah⟩:=aBp (A.later M) (aAb M O.out) (aD Y.out M) k2;have H:=HB.size;clear M k2 hX A O Y HZ;have y0:=(D.later E.out).c0;have b3:=bA w2 (.cells #[s.table,s.column,s.low,s.high,(C:Int),(F:Int),.slice f j c,.slice d i a,.slice h 16 g] 68);obtain⟨ag,R,ad,o⟩:=aBp (show BlkIs (w2.alloc (.cells #[s.table,s.column,s.low,s.high,(C:Int),(F:Int),.slice f j c,.slice d i a,.slice h 16 g] 68)) w2.heap.size 68 [s.table,s.column,s.low,s.high,(C:Int),(F:Int),.slice f j c,.slice d i a,.slice h 16 g]from aAp _ _ _ rfl rfl) (q.later b3) (aAb b3 P.out) (aD E.out b3);have T:=hid (S.later o.out);have V:=hid (D.later o.out);have t:=T.row;rw[<-HN.out]at t;have Q:=hid t;clear b3 q P E S D t;obtain⟨i0,a7,a6,a5,a4⟩:=bBd
 go_wp2_with (first
  | (refine wpList_load_row rfl 68 (.tmp 4) rfl X rfl 68 #[s.table,s.column,s.low,s.high,(C:Int),(F:Int),.slice f j c,.slice d i a,.slice h 16 g] (0,0) _ ah.out underlying68 rfl Tryz.infoPf9 ?_)
  | (refine wpList_append_lies _ rfl (.tmp 19) (.tmp 21) 36 rfl B 68 i0 pf0 9 120 underlying36 a7 a6 a5 a4 rfl (by decide) (.slice AO N cO) N ((ss.zip ps).flatMap fun x=>rgC st.rows x.1 x.2) rfl Q.out ⟨w2.heap.size,0,none⟩ 1 1 [s.table,s.column,s.low,s.high,(C:Int),(F:Int),.slice f j c,.slice d i a,.slice h 16 g] rfl rfl (aCn ag.out 0 _ rfl) (by simp[bQ]) (by decide) (by unfold maxLen;omega) (by omega) (bJ hBw o.size) _ rfl ?_
     intro gc c4 w4 G g4 h4 _;have K:some bO≠(Value.slice AO N cO).ownBlock:=fun e=>by have:=(Q.lt _ e.symm).1;omega
     have Z:=V.kept g4 K;have x4:=Z.c0;have f4:w4.frozen? (bO,0)=false:=Z.frozen 0;obtain⟨K4,O4,G4⟩:=aAw Z G g4;clear Z G g4 h4 K)
  | fail)
 have G:=O4.out;have hl:rgC st.rows s (.slice f j c,.slice d i a,.slice h 16 g)=[.int .i64 s.table,.int .i64 s.column,.int .i64 s.low,.int .i64 s.high,.int .i64 (C:Int),.int .i64 (F:Int),.slice f j c,.slice d i a,.slice h 16 g]:=ae.out;rw[HN.out,<-hl]at G;have L:=T.add (p:=(.slice f j c,.slice d i a,.slice h 16 g)) (R.mono (bJ hBw H)) (aAh ad.out (bJ hBw H)) G G4.out;go_end0
 refine⟨rfl,_,(.slice f j c,.slice d i a,.slice h 16 g),K4.set 0 _,?_,?_⟩
 . have:=L.set ⟨bO,0,none⟩ (.slice (some (gc,0)) (N+1) c4) hB;rw[HN.out]at this⊢;exact this
 . exact((Upd2.of_below o.out).trans (Upd2.grown G4.out)).trans (Upd2.set w4 _)
theorem aYg:∃i,prog.info? 68=some i/\i.zero=some pf0/\i.size=9/\i.bytes=120:=info_parts (by kernel_rfl)
theorem aQl (A:Option Addr) (N c:Nat) (cs:List bT) (w:bR) (hc:cs.length=N*9) (h1:∀u∈cs,u.oneCell'=true) (hv:0<N->∃g o,A=some ⟨g,o,none⟩/\∀(j:Nat) u,cs[j]? =some u->w.cell? ⟨g,o+j,none⟩=some u) (h8:N<=100000) :
 bY prog 17 #[.slice A N c] w fun e w'=>∃v',e= .returned v'/\w'.ownsRow w.heap.size 68 9 v' N cs/\bU w w w':=by
 obtain⟨z,D,r,p,m⟩:=aYg;have q:=fun(w:bR) (a:Option Addr) (n c y F:Nat)=>Lib.run_eql_slice_nil w 36 68 a n c y F underlying36;cases A with
 | none=>
   have E:N=0:=by
    rcases aM N with h|h
    . exact h
    . obtain⟨g,o,e,_⟩:=hv h;cases e
   subst E;have i:cs=[]:=aB (by rw[hc,aR]);subst i;clear hc h1 hv;go_enter func17,ntmps17
   go_wp2_with fail
   go_ret;exact⟨_,rfl,bD w _ _ _,aE _ _⟩
 | some ad=>
   have b:∀l,∀(j:Nat) u,cs[j]? =some u->(w.alloc l).cell? (ad.add j)=some u:=fun l j u v=>by
    rcases aM N with h|h
    . have B:cs=[]:=aB (by rw[hc,h,aR]);subst B;simp at v
    . obtain⟨g,o,e,t⟩:=hv h;obtain rfl:=bL.inj e;rw[aT];exact Lib.cell?_alloc_some l (t j u v)
   obtain⟨H,G,J⟩:=aAw b hc h1;clear hv b hc h1;go_enter func17,ntmps17
   go_wp2_with (at_builtin;refine wpList_append_own _ rfl _ _ 36 rfl w.heap.size 68 z pf0 9 120 underlying36 D r p m rfl (by decide) _ _ _ rfl (bF w #[] 0 (aG _) (bI _) rfl) ad N c cs rfl G.out (H.out _) J.out (by unfold maxLen;omega) (by omega) (by simp) ?_;intro v' x f d _)
   go_ret;refine⟨v',rfl,by simpa using f,?_⟩;have s:(w.alloc (.cells #[] 68)).grownBy x (some w.heap.size):=d;exact((aE _ w).alloc (aG _) _).grown s (by simp) (by intro k C;cases C;exact aG _)
theorem aYe:∃i,prog.info? 51=some i/\i.zero=some (.agg #[(),.slice none 0 0])/\i.size=2/\i.bytes=32:=info_parts (by kernel_rfl)
theorem aVm (A:Option Addr) (N c:Nat) (cs:List bT) (w:bR) (hc:cs.length=N*2) (h1:∀u∈cs,u.oneCell'=true) (hv:0<N->∃g o,A=some ⟨g,o,none⟩/\∀(j:Nat) u,cs[j]? =some u->w.cell? ⟨g,o+j,none⟩=some u) (h8:N<=100000) :
 bY prog 18 #[.slice A N c] w fun e w'=>∃v',e= .returned v'/\w'.ownsRow w.heap.size 51 2 v' N cs/\bU w w w':=by
 obtain⟨z,D,r,p,m⟩:=aYe;have q:=fun(w:bR) (a:Option Addr) (n c y F:Nat)=>Lib.run_eql_slice_nil w 26 51 a n c y F underlying26;cases A with
 | none=>
   have E:N=0:=by
    rcases aM N with h|h
    . exact h
    . obtain⟨g,o,e,_⟩:=hv h;cases e
   subst E;have i:cs=[]:=aB (by rw[hc,aR]);subst i;clear hc h1 hv;go_enter func18,ntmps18
   go_wp2_with fail
   go_ret;exact⟨_,rfl,bD w _ _ _,aE _ _⟩
 | some ad=>
   have b:∀l,∀(j:Nat) u,cs[j]? =some u->(w.alloc l).cell? (ad.add j)=some u:=fun l j u v=>by
    rcases aM N with h|h
    . have B:cs=[]:=aB (by rw[hc,h,aR]);subst B;simp at v
    . obtain⟨g,o,e,t⟩:=hv h;obtain rfl:=bL.inj e;rw[aT];exact Lib.cell?_alloc_some l (t j u v)
   obtain⟨H,G,J⟩:=aAw b hc h1;clear hv b hc h1;go_enter func18,ntmps18
   go_wp2_with (at_builtin;refine wpList_append_own _ rfl _ _ 26 rfl w.heap.size 51 z (.agg #[(),.slice none 0 0]) 2 32 underlying26 D r p m rfl (by decide) _ _ _ rfl (bF w #[] 0 (aG _) (bI _) rfl) ad N c cs rfl G.out (H.out _) J.out (by unfold maxLen;omega) (by omega) (by simp) ?_;intro v' x f d _)
   go_ret;refine⟨v',rfl,by simpa using f,?_⟩;have s:(w.alloc (.cells #[] 51)).grownBy x (some w.heap.size):=d;exact((aE _ w).alloc (aG _) _).grown s (by simp) (by intro k C;cases C;exact aG _)
theorem aYj:∃i,prog.info? 48=some i/\i.zero=some (.agg #[(),(),false,(),(),(),false,(),(),()])/\i.size=10/\i.bytes=80:=info_parts (by kernel_rfl)
theorem bBw (A:Option Addr) (N c:Nat) (cs:List bT) (w:bR) (hc:cs.length=N*10) (h1:∀u∈cs,u.oneCell'=true) (hv:0<N->∃g o,A=some ⟨g,o,none⟩/\∀(j:Nat) u,cs[j]? =some u->w.cell? ⟨g,o+j,none⟩=some u) (h8:N<=100000) :
 bY prog 72 #[.slice A N c] w fun e w'=>∃v',e= .returned v'/\w'.ownsRow w.heap.size 48 10 v' N cs/\bU w w w':=by
 obtain⟨z,D,r,p,m⟩:=aYj;have q:=fun(w:bR) (a:Option Addr) (n c y F:Nat)=>Lib.run_eql_slice_nil w 49 48 a n c y F underlying49;cases A with
 | none=>
   have E:N=0:=by
    rcases aM N with h|h
    . exact h
    . obtain⟨g,o,e,_⟩:=hv h;cases e
   subst E;have i:cs=[]:=aB (by rw[hc,aR]);subst i;clear hc h1 hv;go_enter func72,ntmps72
   go_wp2_with fail
   go_ret;exact⟨_,rfl,bD w _ _ _,aE _ _⟩
 | some ad=>
   have b:∀l,∀(j:Nat) u,cs[j]? =some u->(w.alloc l).cell? (ad.add j)=some u:=fun l j u v=>by
    rcases aM N with h|h
    . have B:cs=[]:=aB (by rw[hc,h,aR]);subst B;simp at v
    . obtain⟨g,o,e,t⟩:=hv h;obtain rfl:=bL.inj e;rw[aT];exact Lib.cell?_alloc_some l (t j u v)
   obtain⟨H,G,J⟩:=aAw b hc h1;clear hv b hc h1;go_enter func72,ntmps72
   go_wp2_with (at_builtin;refine wpList_append_own _ rfl _ _ 49 rfl w.heap.size 48 z (.agg #[(),(),false,(),(),(),false,(),(),()]) 10 80 underlying49 D r p m rfl (by decide) _ _ _ rfl (bF w #[] 0 (aG _) (bI _) rfl) ad N c cs rfl G.out (H.out _) J.out (by unfold maxLen;omega) (by omega) (by simp) ?_;intro v' x f d _)
   go_ret;refine⟨v',rfl,by simpa using f,?_⟩;have s:(w.alloc (.cells #[] 48)).grownBy x (some w.heap.size):=d;exact((aE _ w).alloc (aG _) _).grown s (by simp) (by intro k C;cases C;exact aG _)
theorem aYf:∃i,prog.info? 9=some i/\i.zero=some (.string {data:=#[]})/\i.size=1/\i.bytes=16:=info_parts (by kernel_rfl)
theorem aVn (A:Option Addr) (N c:Nat) (cs:List bT) (w:bR) (hc:cs.length=N*1) (h1:∀u∈cs,u.oneCell'=true) (hv:0<N->∃g o,A=some ⟨g,o,none⟩/\∀(j:Nat) u,cs[j]? =some u->w.cell? ⟨g,o+j,none⟩=some u) (h8:N<=100000) :
 bY prog 120 #[.slice A N c] w fun e w'=>∃v',e= .returned v'/\w'.ownsRow w.heap.size 9 1 v' N cs/\bU w w w':=by
 obtain⟨z,D,r,p,m⟩:=aYf;have q:=fun(w:bR) (a:Option Addr) (n c y F:Nat)=>Lib.run_eql_slice_nil w 58 9 a n c y F underlying58;cases A with
 | none=>
   have E:N=0:=by
    rcases aM N with h|h
    . exact h
    . obtain⟨g,o,e,_⟩:=hv h;cases e
   subst E;have i:cs=[]:=aB (by rw[hc,aR]);subst i;clear hc h1 hv;go_enter func120,ntmps120
   go_wp2_with fail
   go_ret;exact⟨_,rfl,bD w _ _ _,aE _ _⟩
 | some ad=>
   have b:∀l,∀(j:Nat) u,cs[j]? =some u->(w.alloc l).cell? (ad.add j)=some u:=fun l j u v=>by
    rcases aM N with h|h
    . have B:cs=[]:=aB (by rw[hc,h,aR]);subst B;simp at v
    . obtain⟨g,o,e,t⟩:=hv h;obtain rfl:=bL.inj e;rw[aT];exact Lib.cell?_alloc_some l (t j u v)
   obtain⟨H,G,J⟩:=aAw b hc h1;clear hv b hc h1;go_enter func120,ntmps120
   go_wp2_with (at_builtin;refine wpList_append_own _ rfl _ _ 58 rfl w.heap.size 9 z (.string {data:=#[]}) 1 16 underlying58 D r p m rfl (by decide) _ _ _ rfl (bF w #[] 0 (aG _) (bI _) rfl) ad N c cs rfl G.out (H.out _) J.out (by unfold maxLen;omega) (by omega) (by simp) ?_;intro v' x f d _)
   go_ret;refine⟨v',rfl,by simpa using f,?_⟩;have s:(w.alloc (.cells #[] 9)).grownBy x (some w.heap.size):=d;exact((aE _ w).alloc (aG _) _).grown s (by simp) (by intro k C;cases C;exact aG _)
theorem aYh:∃i,prog.info? 58=some i/\i.zero=some (.slice none 0 0)/\i.size=1/\i.bytes=24:=info_parts (by kernel_rfl)
theorem bBu (A:Option Addr) (N c:Nat) (cs:List bT) (w:bR) (hc:cs.length=N*1) (h1:∀u∈cs,u.oneCell'=true) (hv:0<N->∃g o,A=some ⟨g,o,none⟩/\∀(j:Nat) u,cs[j]? =some u->w.cell? ⟨g,o+j,none⟩=some u) (h8:N<=100000) :
 bY prog 121 #[.slice A N c] w fun e w'=>∃v',e= .returned v'/\w'.ownsRow w.heap.size 58 1 v' N cs/\bU w w w':=by
 obtain⟨z,D,r,p,m⟩:=aYh;have q:=fun(w:bR) (a:Option Addr) (n c y F:Nat)=>Lib.run_eql_slice_nil w 66 58 a n c y F underlying66;cases A with
 | none=>
   have E:N=0:=by
    rcases aM N with h|h
    . exact h
    . obtain⟨g,o,e,_⟩:=hv h;cases e
   subst E;have i:cs=[]:=aB (by rw[hc,aR]);subst i;clear hc h1 hv;go_enter func121,ntmps121
   go_wp2_with fail
   go_ret;exact⟨_,rfl,bD w _ _ _,aE _ _⟩
 | some ad=>
   have b:∀l,∀(j:Nat) u,cs[j]? =some u->(w.alloc l).cell? (ad.add j)=some u:=fun l j u v=>by
    rcases aM N with h|h
    . have B:cs=[]:=aB (by rw[hc,h,aR]);subst B;simp at v
    . obtain⟨g,o,e,t⟩:=hv h;obtain rfl:=bL.inj e;rw[aT];exact Lib.cell?_alloc_some l (t j u v)
   obtain⟨H,G,J⟩:=aAw b hc h1;clear hv b hc h1;go_enter func121,ntmps121
   go_wp2_with (at_builtin;refine wpList_append_own _ rfl _ _ 66 rfl w.heap.size 58 z (.slice none 0 0) 1 24 underlying66 D r p m rfl (by decide) _ _ _ rfl (bF w #[] 0 (aG _) (bI _) rfl) ad N c cs rfl G.out (H.out _) J.out (by unfold maxLen;omega) (by omega) (by simp) ?_;intro v' x f d _)
   go_ret;refine⟨v',rfl,by simpa using f,?_⟩;have s:(w.alloc (.cells #[] 58)).grownBy x (some w.heap.size):=d;exact((aE _ w).alloc (aG _) _).grown s (by simp) (by intro k C;cases C;exact aG _)
theorem aYi:∃i,prog.info? 3=some i/\i.zero=some (.int .i64 0)/\i.size=1/\i.bytes=8:=info_parts (by kernel_rfl)
theorem bBv (A:Option Addr) (N c:Nat) (cs:List bT) (w:bR) (hc:cs.length=N*1) (h1:∀u∈cs,u.oneCell'=true) (hv:0<N->∃g o,A=some ⟨g,o,none⟩/\∀(j:Nat) u,cs[j]? =some u->w.cell? ⟨g,o+j,none⟩=some u) (h8:N<=100000) :
 bY prog 58 #[.slice A N c] w fun e w'=>∃v',e= .returned v'/\w'.ownsRow w.heap.size 3 1 v' N cs/\bU w w w':=by
 obtain⟨z,D,r,p,m⟩:=aYi;have q:=fun(w:bR) (a:Option Addr) (n c y F:Nat)=>Lib.run_eql_slice_nil w 56 3 a n c y F underlying56;cases A with
 | none=>
   have E:N=0:=by
    rcases aM N with h|h
    . exact h
    . obtain⟨g,o,e,_⟩:=hv h;cases e
   subst E;have i:cs=[]:=aB (by rw[hc,aR]);subst i;clear hc h1 hv;go_enter func58,ntmps58
   go_wp2_with fail
   go_ret;exact⟨_,rfl,bD w _ _ _,aE _ _⟩
 | some ad=>
   have b:∀l,∀(j:Nat) u,cs[j]? =some u->(w.alloc l).cell? (ad.add j)=some u:=fun l j u v=>by
    rcases aM N with h|h
    . have B:cs=[]:=aB (by rw[hc,h,aR]);subst B;simp at v
    . obtain⟨g,o,e,t⟩:=hv h;obtain rfl:=bL.inj e;rw[aT];exact Lib.cell?_alloc_some l (t j u v)
   obtain⟨H,G,J⟩:=aAw b hc h1;clear hv b hc h1;go_enter func58,ntmps58
   go_wp2_with (at_builtin;refine wpList_append_own _ rfl _ _ 56 rfl w.heap.size 3 z (.int .i64 0) 1 8 underlying56 D r p m rfl (by decide) _ _ _ rfl (bF w #[] 0 (aG _) (bI _) rfl) ad N c cs rfl G.out (H.out _) J.out (by unfold maxLen;omega) (by omega) (by simp) ?_;intro v' x f d _)
   go_ret;refine⟨v',rfl,by simpa using f,?_⟩;have s:(w.alloc (.cells #[] 3)).grownBy x (some w.heap.size):=d;exact((aE _ w).alloc (aG _) _).grown s (by simp) (by intro k C;cases C;exact aG _)
theorem aKd {α β:Type} {ss:List α} {P:Nat->α->β->Prop} (h:∀(j:Nat) s,ss[j]? =some s->∃p,P j s p):∃ps:List β,ps.length=ss.length/\∀(j:Nat) s p,ss[j]? =some s->ps[j]? =some p->P j s p:=by
 have b:∀i:Fin ss.length,∃p,P i ss[i] p:=fun i=>h i ss[i] (by simp);refine⟨List.ofFn fun i=>(b i).choose,by simp,fun j s p a c=>?_⟩;have f:=(aN.1 a).1;obtain⟨d,e⟩:=aN.1 c;obtain⟨_,g⟩:=aN.1 a;rw[List.getElem_ofFn]at e;have:=(b ⟨j,f⟩).choose_spec;rw[e]at this
 simpa[g]using this
theorem aHl {α:Type} (C:α->List bT) (n:Nat) (hC:∀a,(C a).length=n) (hn:0<n) (l:List α) {w:bR} {g o:Nat} (h:∀(j:Nat) x,l[j]? =some x->∀(i:Nat) u,(C x)[i]? =some u->w.cell? (g,o+(j*n+i))=some u) :
 ∀(j:Nat) u,(l.flatMap C)[j]? =some u->w.cell? (g,o+j)=some u:=by
 intro j u d;have e:=(aN.1 d).1;rw[aAk C n hC]at e;have f:j / n*n+j % n=j:=Nat.div_add_mod' j n;have p:=Nat.mod_lt j hn
 have m:j / n<l.length:=by
  rw[Nat.div_lt_iff_lt_mul hn];exact e
 obtain⟨x,c⟩:∃x,l[j / n]? =some x:=⟨_,aU m⟩;obtain⟨y,b⟩:∃y,(C x)[j % n]? =some y:=⟨_,aU (by rw[hC];exact p)⟩;have k:=aBk C n hC l (j / n) (j % n) x y c b;rw[f,d]at k;obtain rfl:=bL.inj k;have:=h (j / n) x c (j % n) u b
 rwa [f]at this
theorem aTu {w:bR} {L:List Rw} {s:Sc} {p:bT×bT×bT} (h:RgAt w L s p):∀u∈rgC L s p,u.oneCell'=true:=by
 obtain⟨k,g,d,-⟩:=h.rows.form;obtain⟨j,f,c,-⟩:=h.paths;obtain⟨i,e,b⟩:=h.roots.len;intro u a;simp only[rgC,pfC,d,c,b,List.mem_cons,List.not_mem_nil,or_false]at a;rcases a with rfl|rfl|rfl|rfl|rfl|rfl|rfl|rfl|rfl <;> rfl
theorem aSz (v:bT) (L:List Rw) (ss:List Sc) (w:bR) (h:RgsAt w v L ss) (h8:ss.length<=100000) :
 bY prog 17 #[v] w fun e w'=>∃v',e= .returned v'/\RgsAt w' v' L ss/\bU w w w':=by
 obtain⟨A,c,rfl,M,b⟩:=h;by_cases D:0<ss.length
 . obtain⟨g,o,rfl,K,H⟩:=b D;obtain⟨k,G,t⟩:=aKd (P:=fun j s p=>w.rangeAt g (o+j*9) (rgC L s p)/\RgAt w L s p) H
   have B:((ss.zip k).flatMap fun x=>rgC L x.1 x.2).length=ss.length*9:=by
    rw[aAk (fun x:Sc×bT×bT×bT=>rgC L x.1 x.2) 9 (aMh L),List.length_zip,G,Nat.min_self]
   refine(aQl (some ⟨g,o,none⟩) ss.length c ((ss.zip k).flatMap fun x=>rgC L x.1 x.2) w B ?_ (fun _=>⟨g,o,rfl,?_⟩) h8).mono ?_
   . intro u d;obtain⟨x,b,d⟩:=List.mem_flatMap.1 d;obtain⟨j,a⟩:=List.mem_iff_getElem?.1 b;rw[aS]at a;exact aTu (t j x.1 x.2 a.1 a.2).2 u d
   . refine aHl (fun x:Sc×bT×bT×bT=>rgC L x.1 x.2) 9 (aMh L) (by decide) (ss.zip k) fun j x b i u d=>?_;rw[aS]at b;have:=(t j x.1 x.2 b.1 b.2).1 i u d;rw[show o+(j*9+i)=o+j*9+i by omega];exact this
   . rintro e w' ⟨v',rfl,y,n⟩;refine⟨v',rfl,?_,n⟩;obtain⟨F,E,rfl,C,_,q⟩:=aAa y;refine⟨F,E,rfl,C,fun D=>?_⟩;obtain⟨J,rfl,z,_,f⟩:=q D;refine⟨J,0,rfl,z,fun j s r=>?_⟩;have a:=(aN.1 r).1;obtain⟨p,l⟩:∃p,k[j]? =some p:=⟨_,aU (by rw[G];exact a)⟩;refine⟨p,fun i u d=>?_,(t j s p r l).2.below n⟩;rw[aQ];exact f _ _ (aBk (fun x:Sc×bT×bT×bT=>rgC L x.1 x.2) 9 (aMh L) (ss.zip k) j i (s,p) u (by rw[aS];exact⟨r,l⟩) d)
 . have m:=aB (by omega:ss.length=0);subst m;refine(aQl A 0 c [] w rfl (by simp) (fun h=>absurd h (by omega)) (by omega)).mono ?_;rintro e w' ⟨v',rfl,y,n⟩;obtain⟨F,E,rfl,-⟩:=aAa y;exact⟨_,rfl,⟨F,E,rfl,bI _,fun h=>absurd h (by simp)⟩,n⟩
theorem aQk (v:bT) (l:List Rec) (w:bR) (h:aCj w v l) (h8:l.length<=100000) :
 bY prog 18 #[v] w fun e w'=>∃v',e= .returned v'/\aCj w' v' l/\bU w w w':=by
 obtain⟨A,c,rfl,V,d⟩:=h;by_cases L:0<l.length
 . obtain⟨g,o,rfl,U,Q⟩:=d L
   obtain⟨k,M,F⟩:=aKd (P:=fun j (r:Rec) z=>w.cell? (g,o+j*2)=some (.int .i64 r.pos)/\w.cell? (g,o+j*2+1)=some z/\aCc w z r.chs) (fun j r O=>by
    obtain⟨S,z,y,R⟩:=Q j r O;exact⟨z,S,y,R⟩)
   have J:((l.zip k).flatMap fun x=>[Value.int .i64 x.1.pos,x.2]).length=l.length*2:=by
    rw[aAk (fun x:Rec×bT=>[Value.int .i64 x.1.pos,x.2]) 2 (fun _=>rfl),List.length_zip,M,Nat.min_self]
   refine(aVm (some ⟨g,o,none⟩) l.length c ((l.zip k).flatMap fun x=>[Value.int .i64 x.1.pos,x.2]) w J ?_ (fun _=>⟨g,o,rfl,?_⟩) h8).mono ?_
   . intro u a;obtain⟨x,d,a⟩:=List.mem_flatMap.1 a;obtain⟨j,b⟩:=List.mem_iff_getElem?.1 d;rw[aS]at b;obtain⟨C,B,e,-⟩:=(F j x.1 x.2 b.1 b.2).2.2;rw[e]at a;simp at a;rcases a with rfl|rfl <;> rfl
   . refine aHl (fun x:Rec×bT=>[Value.int .i64 x.1.pos,x.2]) 2 (fun _=>rfl) (by decide) (l.zip k) fun j x d i u a=>?_;rw[aS]at d;have y:=F j x.1 x.2 d.1 d.2;rw[show o+(j*2+i)=o+j*2+i by omega]
     match i,a with
     | 0,a=>simp at a;subst a;exact y.1
     | 1,a=>simp at a;subst a;exact y.2.1
   . rintro e w' ⟨v',rfl,G,t⟩;refine⟨v',rfl,?_,t⟩;obtain⟨C,B,rfl,K,_,D⟩:=aAa G;refine⟨C,B,rfl,K,fun L=>?_⟩;obtain⟨T,rfl,H,_,f⟩:=D L;refine⟨T,0,rfl,H,fun j s E=>?_⟩;have b:=(aN.1 E).1;obtain⟨p,m⟩:∃p,k[j]? =some p:=⟨_,aU (by rw[M];exact b)⟩;have N:(l.zip k)[j]? =some (s,p):=by rw[aS];exact⟨E,m⟩
     have q:=fun i u a=>f _ _ (aBk (fun x:Rec×bT=>[Value.int .i64 x.1.pos,x.2]) 2 (fun _=>rfl) (l.zip k) j i (s,p) u N a);rw[aQ];exact⟨q 0 _ rfl,p,q 1 _ rfl,(F j s p E m).2.2.below t⟩
 . have n:=aB (by omega:l.length=0);subst n;refine(aVm A 0 c [] w rfl (by simp) (fun h=>absurd h (by omega)) (by omega)).mono ?_;rintro e w' ⟨v',rfl,G,t⟩;obtain⟨C,B,rfl,-⟩:=aAa G;exact⟨_,rfl,⟨C,B,rfl,bI _,fun h=>absurd h (by simp)⟩,t⟩
end
end Go.Proofs.YtmhpfoicloojcaaGreatDoor
