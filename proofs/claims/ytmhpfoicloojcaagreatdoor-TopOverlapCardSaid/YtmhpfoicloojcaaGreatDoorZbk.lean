/- Walks: slices, behind, join, folds. -/
import Derived.Test.YtmhpfoicloojcaaGreatDoorZbj
import Derived.Test.YtmhpfoicloojcaaGreatDoorZbg
import Derived.Test.YtmhpfoicloojcaaGreatDoorZShelfP
set_option linter.all false
open Go.Builtin renaming zeroCells→aA
open List renaming length_append→aB,getElem?_eq_getElem→aD,take_add_one→aE,eq_nil_of_length_eq_zero→aF,filter_append→aJ,getElem?_eq_some_iff→aK,length_take→aL,filter_eq_self→aO,take_length→aR,drop_drop→aS
open Nat renaming le_refl→aC,mul_le_mul_right→aG,eq_zero_or_pos→aM
open Go.RowKit.Below renaming refl→aH
open Go.Oper renaming semAt_some→aP
open Go.Value renaming int→aQ
open Go renaming World→aT,Value→aU,Calls→aW
open Go.RowKit renaming Below→aV
namespace Go.Proofs.YtmhpfoicloojcaaGreatDoor
open Below renaming next→aI,one→aN
set_option maxRecDepth 100000
set_option maxHeartbeats 16000000
section
open Go.Proofs.Tryz
open Go Go.RowKit Go.Shelf
attribute [local go_sem] Oper.semAt_some
variable {p:Rw->Bool} {xs ys:List Rw} {i j:Nat}
def aHz {α:Type} (V:α->aU) (B:Nat) (w:aT) (g:Nat) (lb:Array aU) (p:α->Bool):Prop:=
 ∀(W:aT) (x:α),aV B w W->aW prog g (#[V x]++lb) W fun e w'=>e= .returned (.bool (p x))/\aV W W w'
theorem aHz.later {α:Type} {V:α->aU} {B:Nat} {w w':aT} {g:Nat} {lb:Array aU} {p:α->Bool} (h:aHz V B w g lb p) (hb:aV B w w'):aHz V B w' g lb p:=fun W x hW=>h W x (hb.trans hW)
theorem aHz.mono {α:Type} {V:α->aU} {B B':Nat} {w:aT} {g:Nat} {lb:Array aU} {p:α->Bool} (h:aHz V B w g lb p) (hb:B<=B'):aHz V B' w g lb p:=fun W x hW=>h W x (hW.mono hb)
theorem aSr:∃i,prog.info? 116=some i/\i.zero=some (rwV rw0)/\i.size=5/\i.bytes=40:=info_parts (by kernel_rfl)
theorem Tryz.infoRowSz:(prog.info? 116).map (·.size)=some 5:=by kernel_rfl
theorem aPk (x:Rw):rwV x= .agg (rwC x).toArray:=rfl
theorem aBj (x:Rw):∀u∈rwC x,u.oneCell'=true:=by
 intro u a;simp only[rwC,List.mem_cons,List.not_mem_nil,or_false]at a;rcases a with rfl|rfl|rfl|rfl|rfl <;> rfl
theorem bCh (w:aT):(zeroValue 116).run prog w= .ok (rwV rw0) w:=aPa w
theorem aUy (p:Rw->Bool) (g:Nat) (lb:Array aU) (eg:∀args w,(callFunc g args).run prog w= .ok (.enter g args) w) (v:aU) (B:Nat) (L:List Rw) (w:aT) (hv:w.ownsRow B 116 5 v L.length (L.flatMap rwC))
 (hp:aHz rwV w.heap.size w g lb p) (hl:L.length<=1000000) :
 aW prog 106 #[v,.func (.func g) #[] lb] w fun e w'=>e= .returned (.int .i64 (if L.findIdx p<L.length then((L.findIdx p:Nat):Int)else -1))/\aV w w w':=
  aOh p g lb eg v L w (aA1 hv) hp hl
theorem aOn (n:Nat):(aA (rwV rw0).cells n).toList.length=n*5:=by
 simp[aA,rwV,Value.cells]
theorem bD2 (n:Nat):∀u∈(aA (rwV rw0).cells n).toList,u.oneCell'=true:=by
 intro u b;simp only[aA,Array.toList_map,List.mem_map]at b;obtain⟨i,_,rfl⟩:=b;have c:∀u∈(rwV rw0).cells.toList,u.oneCell'=true:=fun u b=>aBj rw0 u b;have a:i %(rwV rw0).cells.size<(rwV rw0).cells.size:=Nat.mod_lt _ (by decide);rw[getElem!_pos (rwV rw0).cells _ a];exact c _ (Array.mem_toList_iff.2 (Array.getElem_mem a))
theorem aD5 (v:aU) (xs:List Rw) (w:aT) (hv:∃A c,v= .slice A xs.length c/\(0<xs.length->∃g o,A=some ⟨g,o,none⟩/\g<w.heap.size/\∀(j:Nat) u,(xs.flatMap rwC)[j]? =some u->w.cell? (g,o+j)=some u))
 (h8:xs.length<=100000) :
 aW prog 52 #[v] w fun e w'=>∃v',e= .returned v'/\w'.ownsRow w.heap.size 116 5 v' xs.length (xs.flatMap rwC)/\aV w w w':=by
 obtain⟨A,c,rfl,s⟩:=hv;obtain⟨C,E,r,p,m⟩:=aSr;have q:=fun(w:aT) (a:Option Addr) (n c B H:Nat)=>Lib.run_eql_slice_nil w 33 116 a n c B H underlying33;cases A with
 | none=>
   have G:xs=[]:=by
    rcases aM xs.length with h|h
    . exact aF h
    . obtain⟨g,o,e,_⟩:=s h;cases e
   subst G;go_enter func52,ntmps52
   go_wp2_with fail
   go_ret;exact⟨_,rfl,World.ownsRow_nil w _ _ _,aH _ _⟩
 | some ad=>
   have b:∀l,∀(j:Nat) u,(xs.flatMap rwC)[j]? =some u->(w.alloc l).cell? (ad.add j)=some u:=fun l j u x=>by
    rcases aM xs.length with h|h
    . have:=aF h;subst this;simp at x
    . obtain⟨g,o,e,L,F⟩:=s h;obtain rfl:=Option.some.inj e;rw[Addr.add_mid];exact Lib.cell?_alloc_some l (F j u x)
   have K:=hid b;obtain⟨N,y⟩:=ex_ xs.length;have f:=aAk rwC 5 aAu xs;rw[<-y]at h8 f⊢;have J:=hid f;clear s b y f;go_enter func52,ntmps52
   go_wp2_with (at_builtin;refine wpList_append_own _ rfl _ _ 33 rfl w.heap.size 116 C (rwV rw0) 5 40 underlying33 E r p m rfl (by decide) _ _ _ rfl (World.ownsRow_made w #[] 0 (aC _) (Nat.zero_le _) rfl) ad N c (xs.flatMap rwC) rfl J.out (K.out _) (aFf aBj xs) (by unfold maxLen;omega) (by omega) (by simp) ?_;intro v' z i d _)
   go_ret;refine⟨v',rfl,by simpa using i,?_⟩;have t:(w.alloc (.cells #[] 116)).grownBy z (some w.heap.size):=d;exact((aH _ w).alloc (aC _) _).grown t (by simp) (by intro k D;cases D;exact aC _)
structure DelJR (p:Rw->Bool) (xs ys:List Rw) (i j:Nat):Prop where
 len:ys.length=xs.length
 lt:i<j
 le:j<=xs.length
 front:ys.take i=(xs.take j).filter fun x=>!p x
 back:ys.drop j=xs.drop j
theorem DelJR.start (h:xs.findIdx p<xs.length):DelJR p xs xs (xs.findIdx p) (xs.findIdx p+1):=by
 refine⟨rfl,by omega,by omega,?_,rfl⟩;have a:=List.findIdx_getElem (w:=h)
 have b:(xs.take (xs.findIdx p)).filter (fun x=>!p x)=xs.take (xs.findIdx p):=aO.2 fun x a=>by
  obtain⟨k,c,rfl⟩:=List.mem_iff_getElem.1 a;rw[aL]at c;have:=List.not_of_lt_findIdx (xs:=xs) (p:=p) (i:=k) (by omega)
  simpa using this
 rw[aE,aD h,aJ,b];simp[a]
theorem DelJR.get (h:DelJR p xs ys i j) {x:Rw} (hx:xs[j]? =some x):ys[j]? =some x:=by
 have:=congrArg (fun l=>l[0]?) h.back
 simpa[List.getElem?_drop,hx]using this
theorem DelJR.skip (h:DelJR p xs ys i j) {x:Rw} (hx:xs[j]? =some x) (hp:p x=true):DelJR p xs ys i (j+1):=by
 have a:=(aK.1 hx).1;refine⟨h.len,by have:=h.lt;omega,by omega,?_,?_⟩
 . rw[h.front,aE,hx,aJ];simp[hp]
 . have:=congrArg (List.drop 1) h.back
   simpa[aS]using this
theorem DelJR.keep (h:DelJR p xs ys i j) {x:Rw} (hx:xs[j]? =some x) (hp:p x=false):DelJR p xs (ys.set i x) (i+1) (j+1):=by
 have b:=(aK.1 hx).1;have c:=h.lt;have a:=h.len;refine⟨by rw[List.length_set,a],by omega,by omega,?_,?_⟩
 . rw[aE,List.getElem?_set_self (by omega),List.take_set_of_le (aC _),h.front,aE,hx,aJ];simp[hp]
 . rw[List.drop_set_of_lt (by omega)];have:=congrArg (List.drop 1) h.back
   simpa[aS]using this
theorem DelJR.done (h:DelJR p xs ys i xs.length):ys.take i=xs.filter fun x=>!p x:=by
 rw[h.front,aR]
theorem bBr (p:Rw->Bool) (gp:Nat) (lb:Array aU) (eg:∀args w,(callFunc gp args).run prog w= .ok (.enter gp args) w) (B:Nat) (v:aU) (xs:List Rw) (w:aT)
 (hv:w.ownsRow B 116 5 v xs.length (xs.flatMap rwC)) (hp:aHz rwV B w gp lb p) (hB:B<=w.heap.size) (h8:xs.length<=100000) :
 aW prog 264 #[v,.func (.func gp) #[] lb] w fun e w'=>
  ∃v',e= .returned v'/\w'.ownsRow B 116 5 v' (xs.filter fun x=>!p x).length ((xs.filter fun x=>!p x).flatMap rwC)/\aV B w w':=by
 have a:=aUy p gp lb eg v B xs w hv (hp.mono hB) (by omega);by_cases R:xs.findIdx p<xs.length
 case neg=>
  rw[if_neg R]at a
  have E:xs.filter (fun x=>!p x)=xs:=aO.2 fun x Z=>by
   have L:xs.findIdx p=xs.length:=by have:=List.findIdx_le_length (xs:=xs) (p:=p);omega
   have:=List.findIdx_eq_length.1 L x Z
   simpa using this
  rw[E];have X:=hid a;have HV:=hid hv;obtain⟨A,c,rfl,-⟩:=aAa hv;obtain⟨N,S⟩:=ex_ xs.length;rw[<-S]at X HV⊢;clear hv a E R S hp h8;go_enter func264,ntmps264
  go_wp2_with fail
  (with_reducible refine(X.out).mono ?_)
  rintro e w1 ⟨rfl,U⟩;go_wp2_with fail
  go_ret;exact⟨_,rfl,aAb U HV.out,U.mono hB⟩
 case pos=>
  rw[if_pos R]at a;have H:=DelJR.start R;obtain⟨I,hI⟩:=ex_ (xs.findIdx p);rw[<-hI]at a H R;rcases hv.2 with⟨_,h0⟩|⟨g,cap,cur,rfl,hg1,hg2,hg3,hg4,hg5,hg6⟩
  . exfalso;omega
  have u:cur.toList=xs.flatMap rwC++cur.toList.drop (xs.length*5):=by
   rw[<-hg6,List.take_append_drop]
  obtain⟨G,C⟩:=ex_ (cur.toList.drop (xs.length*5));rw[<-C]at u;have b:BlkIs w g 116 (xs.flatMap rwC++G):=by rw[<-u];exact hg2
  obtain⟨a8,X,a5,F,HP⟩:=aDs (show(xs.flatMap rwC++G).length=cap*5 by rw[<-u,<-hg5];simp) a H b hp;obtain⟨N,S⟩:=ex_ xs.length;rw[<-S]at X hg3 h8 R⊢;have M:=hid S;have ax:cap<=9223372036854775807:=by unfold maxLen at hg4;omega
  clear a H b hp S hI C u hg2 hg5 hg6 hv hg4;go_enter func264,ntmps264
  go_wp2_with fail
  (with_reducible refine(X.out).mono ?_)
  rintro e w1 ⟨rfl,U⟩;have t0:((I:Int)== -1)=false:=by simp
  have aa:=hid (U.mono hB);have a7:=hid (F.later U);clear U X F;go_wp2_with fail
  go_loopw [5,6,7] (fun iv jv _ wr=>∃(i j:Nat) (l:List Rw),iv= .int .i64 i/\jv= .int .i64 j/\i<j/\j<=N/\Hid (DelJR p xs l i j)/\Hid (BlkIs wr g 116 (l.flatMap rwC++G))/\Hid (aV B w wr)) (fun _ jv _ _=>N-(intOf jv).toNat)
  case atStart=>exact⟨I,I+1,xs,rfl,rfl,by omega,by omega,a5,a7,aa⟩
  case round=>
   clear a7 aa a5 t0;obtain⟨i,j,l,rfl,rfl,az,ay,s,V,Y⟩:=hrel;by_cases L:j<N
   case pos=>
    obtain⟨x,Z⟩:∃x,xs[j]? =some x:=⟨_,aD (by rw[<-M.out];exact L)⟩;have hy:=s.get Z;have HR:=hid (show wr.rangeAt g (j*5) (rwC x)from V.rangeAt (aQe aAu hy));have HX:=hid Z;clear Z hy;have q1:(0:Int)<=(j:Int):=by omega
    have q2:(j:Int)<(N:Int):=by omega
    go_wp2_with (first
     | (refine wpList_load_mid rfl 116 (.tmp 24) rfl g (j*5) rfl (rwC x) _ HR.out underlying116 rfl Tryz.infoRowSz ?_)
     | (refine aAi rfl 116 (.tmp 7) (.tmp 25) rfl wr.heap.size (rwC x).toArray _ 116 rfl rfl rfl Tryz.infoRowSz rfl (all_oneCell_toArray (aBj x)) ?_)
     | (refine wpList_load_row rfl 116 (.tmp 7) rfl wr.heap.size rfl 116 (rwC x).toArray (0,0) _ (World.alloc_heap_new wr _) underlying116 rfl Tryz.infoRowSz ?_)
     | fail)
    have K7:BlkIs (wr.alloc (.cells (rwC x).toArray 116)) wr.heap.size 116 (rwC x):=aAp _ _ _ rfl (by simp);have K:=Y.alloc (Nat.le_trans hB Y.size) (.cells (rwC x).toArray 116);have d:=HP.out (wr.alloc (.cells (rwC x).toArray 116)) x K;rw[aPk]at d;have a2:=V.alloc (.cells (rwC x).toArray 116);refine d.mono ?_;rintro e w2 ⟨rfl,b2⟩;have a3:=K7.later b2;obtain⟨Q,z,H7,a4⟩:=aBp (K.trans (b2.mono (by have:=Y.size;simp;omega))) (a2.later b2) (show w2.heap[wr.heap.size]? =some (.cells (rwC x).toArray 116 (0,0))from a3) (show(prog.info? 116).map (·.size)=some (rwC x).toArray.size from Tryz.infoRowSz);clear d a2 b2 K7 a3 K V Y HR;cases y:p x
    case true=>
     have O:=hid (s.skip HX.out y);clear y s HX;go_wp2_with fail
     go_roundw
     case rel=>exact⟨i,j+1,l,rfl,by go_num,by omega,by omega,O,z,Q⟩
     case measure=>simp[intOf];omega
    case false=>
     have O:=hid (s.keep HX.out y)
     have a0:=z.there (o:=i*5) (n:=(rwC x).toArray.size) (by
      have T:=s.len;have h3:=M.out;rw[aB,aAk rwC 5 aAu,T,<-h3,show(rwC x).toArray.size=5 from rfl];have:(i+1)*5<=N*5:=aG _ (by omega);omega)
     have HT:=hid a0
     have m:=z.setCells (rwC x) (i*5) (by
      have T:=s.len;have h3:=M.out;rw[aB,aAk rwC 5 aAu,T,<-h3,aAu];have:(i+1)*5<=N*5:=aG _ (by omega);omega)
     rw[aRl aAu l G i x (by have T:=s.len;have h3:=M.out;omega)]at m;have ag:=hid m;have ah:=hid (aAz Q.out hg1 (rwC x) (i*5));clear y s HX a0 m z Q;have q3:(0:Int)<=(i:Int):=by omega
     have q4:(i:Int)<(N:Int):=by omega
     go_wp2_with (first
      | (with_reducible refine wpList_load_row rfl 116 (.tmp 7) rfl wr.heap.size rfl 116 (rwC x).toArray (0,0) _ H7.out underlying116 rfl a4.out ?_)
      | (with_reducible refine wpList_store_mid rfl 116 (.tmp 33) (.tmp 32) rfl g (i*5) (rwC x).toArray rfl rfl HT.out a4.out (all_oneCell_toArray (aBj x)) ?_)
      | fail)
     go_roundw
     case rel=>exact⟨i+1,j+1,l.set i x,by go_num,by go_num,by omega,by omega,O,ag,ah⟩
     case measure=>simp[intOf];omega
   case neg=>
    obtain rfl:j=N:=by omega
    have k:=s.len;rw[<-M.out]at k
    have q:l.take i=xs.filter fun x=>!p x:=by
     have h:=s.out;rw[M.out]at h;exact h.done
    have f:(l.flatMap rwC++G).length=cap*5:=by
     have L:=a8.out;rw[aB,aAk rwC 5 aAu]at L⊢;rw[k];rw[<-M.out]at L;exact L
    have t:i*5+(aA (rwV rw0).cells (j-i)).toList.length<=(l.flatMap rwC++G).length:=by
     rw[aOn,f,<-Nat.add_mul];exact aG _ (by omega)
    have a1:=fun cc ty=>aGe (P:=prog) (ty:=ty) underlying33 (bCh wr) (bD2 (j-i)) g (i*5) cc (by omega) V.out t;have b:=V.setCells (aA (rwV rw0).cells (j-i)).toList (i*5) t;have r:=aAz Y.out hg1 (aA (rwV rw0).cells (j-i)).toList (i*5);generalize af:wr.setCells g (i*5) (aA (rwV rw0).cells (j-i)).toList=W1 at a1 b r
    have D:W1.ownsRow B 116 5 (.slice (some (g,0)) i cap) (xs.filter fun x=>!p x).length ((xs.filter fun x=>!p x).flatMap rwC):=by
     rw[<-q];have J:(l.take i).length=i:=by rw[aL,k];omega
     rw[J];refine⟨by rw[aAk rwC 5 aAu,J],.inr ⟨g,cap,_,rfl,hg1,b,by omega,by unfold maxLen;omega,?_,?_⟩⟩
     . rw[List.size_toArray,aB,aB,aL,List.length_drop,f,aOn];rw[aOn,f]at t;omega
     . rw[List.append_assoc,aD2 aAu l G i (by omega)];have T:((l.take i).flatMap rwC).length=i*5:=by rw[aAk rwC 5 aAu,J]
       exact List.take_left' T
    have a6:=hid D;have a9:=hid r;clear k q f t b D r af s V Y HP;have q1:(0:Int)<=(i:Int):=by omega
    have q2:(i:Int)<=(j:Int):=by omega
    have q3:¬cap=i:=by omega
    have q4:(i:Int)<=(cap:Int):=by omega
    go_wp2_with fail
    go_ret;exact⟨_,rfl,a6.out,a9.out⟩
end
section
open Go.Proofs.Tryz
open Go Go.RowKit
attribute [local go_sem] Oper.semAt_some
theorem aPj (q:Qy) (c:Chg) (pb pa:Option Addr) (be:Nat) (x:Rw) (w:aT) (he:BlkIs w be 256 (aIw q c pb pa)) :
 aW prog 228 #[rwV x,.pointer (some (be,0))] w fun e w'=>e= .returned (.bool (aDn c x))/\aV w w w':=by
 unfold aDn;have j:=he.lt;have l:=he.c7;have k:=he.c8;have h:=hid (aN w (.cells (rwC x).toArray 116));obtain⟨f,g,o,n,m⟩:=x;unfold rwV;unfold rwC at h;dsimp only at *;obtain⟨d,b⟩:∃y,decide (f=c.table)=y:=⟨_,rfl⟩;obtain⟨i,a⟩:∃y,decide (g=c.key)=y:=⟨_,rfl⟩;have r:(f== c.table)=d:=b;have p:(g== c.key)=i:=a;rw[b,a];clear he b a;cases d
 all_goals
   go_enter func228,ntmps228
   go_wp2_with fail
   go_ret;exact⟨rfl,h.out⟩
theorem aLz (q:Qy) (c:Chg) (pb:Option Addr) (be bv ab:Nat) (a x:Rw) (w:aT) (he:BlkIs w be 256 (aIw q c pb (some ⟨ab,0,none⟩))) (ha:BlkIs w ab 116 (rwC a))
 (hv:BlkIs w bv 3 [.int .i64 (a.val q.column)]) :
 aW prog 266 #[rwV x,.pointer (some (be,0)),.pointer (some (bv,0))] w fun e w'=>e= .returned (.bool (ltO q.column a x))/\aV w w w':=by
 unfold ltO;have b:=fun W=>aB5 x q.column W;generalize x.val q.column=u at *;generalize a.val q.column=v at *;have j:=he.lt;have C:=he.c2;have m:=aN w (.cells (rwC x).toArray 116);have n:=BlkIs.new w 116 (rwC x).toArray;obtain⟨J,E,M,L,K⟩:=x;unfold rwV at b⊢;unfold rwC at m n;dsimp only at *;obtain⟨D,G⟩:∃y,decide (v<u)=y:=⟨_,rfl⟩;obtain⟨o,k⟩:∃y,decide (v=u)=y:=⟨_,rfl⟩;obtain⟨H,F⟩:∃y,decide (a.key<E)=y:=⟨_,rfl⟩
 have O:(u== v)=o:=by
  rw[<-k]
  show decide (u=v)=decide (v=u)
  exact decide_eq_decide.2 eq_comm
 rw[G,k,F];obtain⟨d,A,B,z,h,g⟩:=aIl b he ha hv m n;clear b he ha hv m n k;go_enter func266,ntmps266
 go_wp2_with fail
 (with_reducible refine(d.out _).mono ?_)
 rintro e N ⟨rfl,l⟩;have i:=aI h.out l;have t:=g.later l;have s:=A.later i;have r:=B.later i;have p:=z.later i;have S:=t.c1;have R:=s.c18;have Q:=r.c1;have P:=p.c0;have f:=hid i;clear C j i l t s r p d A B z h g;cases D
 . cases o
   . go_wp2_with fail
     go_quiet (fail)
     go_wp2_with fail
     go_ret;exact⟨rfl,below_drewN f.out _⟩
   . go_wp2_with fail
     go_quiet (fail)
     go_wp2_with fail
     go_ret;exact⟨rfl,below_drewN f.out _⟩
 . go_wp2_with fail
   go_quiet (fail)
   go_wp2_with fail
   go_ret;exact⟨rfl,below_drewN f.out _⟩
end
section
open Go.Proofs.Tryz
open Go Go.RowKit Go.Shelf
attribute [local go_sem] Oper.semAt_some
variable {p:(Rw×Rw)->Bool} {xs ys:List (Rw×Rw)} {i j:Nat}
def prC (p:Rw×Rw):List aU:=[.int .i64 p.1.table,.int .i64 p.1.key,.int .i64 p.1.v.1,.int .i64 p.1.v.2.1,.int .i64 p.1.v.2.2,.int .i64 p.2.table,.int .i64 p.2.key,.int .i64 p.2.v.1,.int .i64 p.2.v.2.1,.int .i64 p.2.v.2.2]
def prV (p:Rw×Rw):aU:= .agg #[p.1.table,p.1.key,p.1.v.1,p.1.v.2.1,p.1.v.2.2,p.2.table,p.2.key,p.2.v.1,p.2.v.2.1,p.2.v.2.2]
theorem aAx (p:Rw×Rw):(prC p).length=10:=rfl
theorem aYd:∃i,prog.info? 358=some i/\i.zero=some (prV (rw0,rw0))/\i.size=10/\i.bytes=80:=info_parts (by kernel_rfl)
theorem Tryz.infoPairSz:(prog.info? 358).map (·.size)=some 10:=by kernel_rfl
theorem bAr (x:Rw×Rw):prV x= .agg (prC x).toArray:=rfl
theorem aDd (x:Rw×Rw):∀u∈prC x,u.oneCell'=true:=by
 intro u a;simp only[prC,List.mem_cons,List.not_mem_nil,or_false]at a;rcases a with rfl|rfl|rfl|rfl|rfl|rfl|rfl|rfl|rfl|rfl <;> rfl
theorem bDu (w:aT):(zeroValue 358).run prog w= .ok (prV (rw0,rw0)) w:=zeroValue358 w
theorem aUs (w:aT):(isAgg 358).run prog w= .ok true w:=isAgg358 w
theorem aLc (w:aT):(Go.sizeOf 358).run prog w= .ok 10 w:=sizeOf358 w
theorem aOj {α:Type} (p:α->Bool) (d:α):∀(l:List α) (i:Nat),Lib.idxByFrom (fun _ y=>p y) d l i=if l.findIdx p<l.length then((i+l.findIdx p:Nat):Int)else -1
 | [],i=>by simp[Lib.idxByFrom]
 | x :: l,i=>by
   rw[Lib.idxByFrom,List.findIdx_cons];cases h:p x with
   | true=>simp
   | false=>
     rw[aOj p d l (i+1)];simp only[Bool.false_eq_true,if_false,cond_false,List.length_cons];by_cases h2:l.findIdx p<l.length
     . rw[if_pos h2,if_pos (by omega)]
       congr 1
       omega
     . rw[if_neg h2,if_neg (by omega)]
theorem bBe {α:Type} (p:α->Bool) (d:α) (l:List α):Lib.idxBy (fun _ y=>p y) l d=if l.findIdx p<l.length then((l.findIdx p:Nat):Int)else -1:=by
 unfold Lib.idxBy;rw[aOj];simp
instance:Inhabited (Rw×Rw):=⟨(rw0,rw0)⟩
theorem aOi (A:Option Addr) (c:Nat) (fv:aU) (w:aT) :
 aW prog 270 #[.slice A 0 c,fv] w fun e w'=>e= .returned (.int .i64 (-1))/\w'=w:=by
 go_enter func270,ntmps270
 go_wp2_with fail
 go_loopw [8] (fun iv wr=>iv= .int .i64 0/\wr=w) (fun iv _=>2-(intOf iv).toNat)
 case atStart=>exact⟨rfl,rfl⟩
 case round=>
  obtain⟨rfl,rfl⟩:=hrel;go_wp2_with fail
  go_ret;exact⟨rfl,rfl⟩
theorem aMx (p:Rw×Rw->Bool) (g:Nat) (lb:Array aU) (eg:∀args w,(callFunc g args).run prog w= .ok (.enter g args) w) (v:aU) (B:Nat) (L:List (Rw×Rw)) (w:aT) (hv:w.ownsRow B 358 10 v L.length (L.flatMap prC))
 (hp:aHz prV w.heap.size w g lb p) (hl:L.length<=1000000) :
 aW prog 270 #[v,.func (.func g) #[] lb] w fun e w'=>e= .returned (.int .i64 (if L.findIdx p<L.length then((L.findIdx p:Nat):Int)else -1))/\aV w w w':=by
 obtain⟨A,c,rfl,o,_,k⟩:=aAa hv;rcases aM L.length with h0|h0
 . have:L=[]:=aF h0;subst this;refine(aOi A c _ w).mono ?_;rintro e w' ⟨rfl,rfl⟩;exact⟨rfl,aH _ _⟩
 . obtain⟨n,rfl,m,-,l⟩:=k h0
   have a:=AnyQ.slices_IndexFunc Tryz.idxPair 10 aUs aLc prC aAx p g lb eg n 0 L.length c L w (fun W x h=>(hp W x h).mono (by
    rintro e w' ⟨rfl,b⟩
    exact⟨rfl,aI h b⟩)) (aC _) (by omega) m (fun j d i u f=>by
     rw[Nat.zero_add];refine l _ u (aBk prC 10 aAx L j i L[j] u (aD d) ?_);rw[getElem!_pos L j d]at f;exact f)
   rw[aR,bBe]at a;exact a
theorem aOo (n:Nat):(aA (prV (rw0,rw0)).cells n).toList.length=n*10:=by
 simp[aA,prV,Value.cells]
theorem bD3 (n:Nat):∀u∈(aA (prV (rw0,rw0)).cells n).toList,u.oneCell'=true:=by
 intro u b;simp only[aA,Array.toList_map,List.mem_map]at b;obtain⟨i,_,rfl⟩:=b;have c:∀u∈(prV (rw0,rw0)).cells.toList,u.oneCell'=true:=fun u b=>aDd (rw0,rw0) u b;have a:i %(prV (rw0,rw0)).cells.size<(prV (rw0,rw0)).cells.size:=Nat.mod_lt _ (by decide);rw[getElem!_pos (prV (rw0,rw0)).cells _ a];exact c _ (Array.mem_toList_iff.2 (Array.getElem_mem a))
theorem aVl (v:aU) (xs:List (Rw×Rw)) (w:aT) (hv:∃A c,v= .slice A xs.length c/\(0<xs.length->∃g o,A=some ⟨g,o,none⟩/\g<w.heap.size/\∀(j:Nat) u,(xs.flatMap prC)[j]? =some u->w.cell? (g,o+j)=some u))
 (h8:xs.length<=100000) :
 aW prog 300 #[v] w fun e w'=>∃v',e= .returned v'/\w'.ownsRow w.heap.size 358 10 v' xs.length (xs.flatMap prC)/\aV w w w':=by
 obtain⟨A,c,rfl,s⟩:=hv;obtain⟨C,E,r,p,m⟩:=aYd;have q:=fun(w:aT) (a:Option Addr) (n c B H:Nat)=>Lib.run_eql_slice_nil w 356 358 a n c B H underlying356;cases A with
 | none=>
   have G:xs=[]:=by
    rcases aM xs.length with h|h
    . exact aF h
    . obtain⟨g,o,e,_⟩:=s h;cases e
   subst G;go_enter func300,ntmps300
   go_wp2_with fail
   go_ret;exact⟨_,rfl,World.ownsRow_nil w _ _ _,aH _ _⟩
 | some ad=>
   have b:∀l,∀(j:Nat) u,(xs.flatMap prC)[j]? =some u->(w.alloc l).cell? (ad.add j)=some u:=fun l j u x=>by
    rcases aM xs.length with h|h
    . have:=aF h;subst this;simp at x
    . obtain⟨g,o,e,L,F⟩:=s h;obtain rfl:=Option.some.inj e;rw[Addr.add_mid];exact Lib.cell?_alloc_some l (F j u x)
   have K:=hid b;obtain⟨N,y⟩:=ex_ xs.length;have f:=aAk prC 10 aAx xs;rw[<-y]at h8 f⊢;have J:=hid f;clear s b y f;go_enter func300,ntmps300
   go_wp2_with (at_builtin;refine wpList_append_own _ rfl _ _ 356 rfl w.heap.size 358 C (prV (rw0,rw0)) 10 80 underlying356 E r p m rfl (by decide) _ _ _ rfl (World.ownsRow_made w #[] 0 (aC _) (Nat.zero_le _) rfl) ad N c (xs.flatMap prC) rfl J.out (K.out _) (aFf aDd xs) (by unfold maxLen;omega) (by omega) (by simp) ?_;intro v' z i d _)
   go_ret;refine⟨v',rfl,by simpa using i,?_⟩;have t:(w.alloc (.cells #[] 358)).grownBy z (some w.heap.size):=d;exact((aH _ w).alloc (aC _) _).grown t (by simp) (by intro k D;cases D;exact aC _)
structure DelJP (p:(Rw×Rw)->Bool) (xs ys:List (Rw×Rw)) (i j:Nat):Prop where
 len:ys.length=xs.length
 lt:i<j
 le:j<=xs.length
 front:ys.take i=(xs.take j).filter fun x=>!p x
 back:ys.drop j=xs.drop j
theorem DelJP.start (h:xs.findIdx p<xs.length):DelJP p xs xs (xs.findIdx p) (xs.findIdx p+1):=by
 refine⟨rfl,by omega,by omega,?_,rfl⟩;have a:=List.findIdx_getElem (w:=h)
 have b:(xs.take (xs.findIdx p)).filter (fun x=>!p x)=xs.take (xs.findIdx p):=aO.2 fun x a=>by
  obtain⟨k,c,rfl⟩:=List.mem_iff_getElem.1 a;rw[aL]at c;have:=List.not_of_lt_findIdx (xs:=xs) (p:=p) (i:=k) (by omega)
  simpa using this
 rw[aE,aD h,aJ,b];simp[a]
theorem DelJP.get (h:DelJP p xs ys i j) {x:(Rw×Rw)} (hx:xs[j]? =some x):ys[j]? =some x:=by
 have:=congrArg (fun l=>l[0]?) h.back
 simpa[List.getElem?_drop,hx]using this
theorem DelJP.skip (h:DelJP p xs ys i j) {x:(Rw×Rw)} (hx:xs[j]? =some x) (hp:p x=true):DelJP p xs ys i (j+1):=by
 have a:=(aK.1 hx).1;refine⟨h.len,by have:=h.lt;omega,by omega,?_,?_⟩
 . rw[h.front,aE,hx,aJ];simp[hp]
 . have:=congrArg (List.drop 1) h.back
   simpa[aS]using this
theorem DelJP.keep (h:DelJP p xs ys i j) {x:(Rw×Rw)} (hx:xs[j]? =some x) (hp:p x=false):DelJP p xs (ys.set i x) (i+1) (j+1):=by
 have b:=(aK.1 hx).1;have c:=h.lt;have a:=h.len;refine⟨by rw[List.length_set,a],by omega,by omega,?_,?_⟩
 . rw[aE,List.getElem?_set_self (by omega),List.take_set_of_le (aC _),h.front,aE,hx,aJ];simp[hp]
 . rw[List.drop_set_of_lt (by omega)];have:=congrArg (List.drop 1) h.back
   simpa[aS]using this
theorem DelJP.done (h:DelJP p xs ys i xs.length):ys.take i=xs.filter fun x=>!p x:=by
 rw[h.front,aR]
theorem bBs (p:(Rw×Rw)->Bool) (gp:Nat) (lb:Array aU) (eg:∀args w,(callFunc gp args).run prog w= .ok (.enter gp args) w) (B:Nat) (v:aU) (xs:List (Rw×Rw)) (w:aT)
 (hv:w.ownsRow B 358 10 v xs.length (xs.flatMap prC)) (hp:aHz prV B w gp lb p) (hB:B<=w.heap.size) (h8:xs.length<=100000) :
 aW prog 299 #[v,.func (.func gp) #[] lb] w fun e w'=>
  ∃v',e= .returned v'/\w'.ownsRow B 358 10 v' (xs.filter fun x=>!p x).length ((xs.filter fun x=>!p x).flatMap prC)/\aV B w w':=by
 have a:=aMx p gp lb eg v B xs w hv (hp.mono hB) (by omega);by_cases R:xs.findIdx p<xs.length
 case neg=>
  rw[if_neg R]at a
  have E:xs.filter (fun x=>!p x)=xs:=aO.2 fun x Z=>by
   have L:xs.findIdx p=xs.length:=by have:=List.findIdx_le_length (xs:=xs) (p:=p);omega
   have:=List.findIdx_eq_length.1 L x Z
   simpa using this
  rw[E];have X:=hid a;have HV:=hid hv;obtain⟨A,c,rfl,-⟩:=aAa hv;obtain⟨N,S⟩:=ex_ xs.length;rw[<-S]at X HV⊢;clear hv a E R S hp h8;go_enter func299,ntmps299
  go_wp2_with fail
  (with_reducible refine(X.out).mono ?_)
  rintro e w1 ⟨rfl,U⟩;go_wp2_with fail
  go_ret;exact⟨_,rfl,aAb U HV.out,U.mono hB⟩
 case pos=>
  rw[if_pos R]at a;have H:=DelJP.start R;obtain⟨I,hI⟩:=ex_ (xs.findIdx p);rw[<-hI]at a H R;rcases hv.2 with⟨_,h0⟩|⟨g,cap,cur,rfl,hg1,hg2,hg3,hg4,hg5,hg6⟩
  . exfalso;omega
  have u:cur.toList=xs.flatMap prC++cur.toList.drop (xs.length*10):=by
   rw[<-hg6,List.take_append_drop]
  obtain⟨G,C⟩:=ex_ (cur.toList.drop (xs.length*10));rw[<-C]at u;have b:BlkIs w g 358 (xs.flatMap prC++G):=by rw[<-u];exact hg2
  obtain⟨a8,X,a5,F,HP⟩:=aDs (show(xs.flatMap prC++G).length=cap*10 by rw[<-u,<-hg5];simp) a H b hp;obtain⟨N,S⟩:=ex_ xs.length;rw[<-S]at X hg3 h8 R⊢;have M:=hid S;have ax:cap<=9223372036854775807:=by unfold maxLen at hg4;omega
  clear a H b hp S hI C u hg2 hg5 hg6 hv hg4;go_enter func299,ntmps299
  go_wp2_with fail
  (with_reducible refine(X.out).mono ?_)
  rintro e w1 ⟨rfl,U⟩;have t0:((I:Int)== -1)=false:=by simp
  have aa:=hid (U.mono hB);have a7:=hid (F.later U);clear U X F;go_wp2_with fail
  go_loopw [5,6,7] (fun iv jv _ wr=>∃(i j:Nat) (l:List (Rw×Rw)),iv= .int .i64 i/\jv= .int .i64 j/\i<j/\j<=N/\Hid (DelJP p xs l i j)/\Hid (BlkIs wr g 358 (l.flatMap prC++G))/\Hid (aV B w wr)) (fun _ jv _ _=>N-(intOf jv).toNat)
  case atStart=>exact⟨I,I+1,xs,rfl,rfl,by omega,by omega,a5,a7,aa⟩
  case round=>
   clear a7 aa a5 t0;obtain⟨i,j,l,rfl,rfl,az,ay,s,V,Y⟩:=hrel;by_cases L:j<N
   case pos=>
    obtain⟨x,Z⟩:∃x,xs[j]? =some x:=⟨_,aD (by rw[<-M.out];exact L)⟩;have hy:=s.get Z;have HR:=hid (show wr.rangeAt g (j*10) (prC x)from V.rangeAt (aQe aAx hy));have HX:=hid Z;clear Z hy;have q1:(0:Int)<=(j:Int):=by omega
    have q2:(j:Int)<(N:Int):=by omega
    go_wp2_with (first
     | (refine wpList_load_mid rfl 358 (.tmp 24) rfl g (j*10) rfl (prC x) _ HR.out underlying358 rfl Tryz.infoPairSz ?_)
     | (refine aAi rfl 358 (.tmp 7) (.tmp 25) rfl wr.heap.size (prC x).toArray _ 358 rfl rfl rfl Tryz.infoPairSz rfl (all_oneCell_toArray (aDd x)) ?_)
     | (refine wpList_load_row rfl 358 (.tmp 7) rfl wr.heap.size rfl 358 (prC x).toArray (0,0) _ (World.alloc_heap_new wr _) underlying358 rfl Tryz.infoPairSz ?_)
     | fail)
    have K7:BlkIs (wr.alloc (.cells (prC x).toArray 358)) wr.heap.size 358 (prC x):=aAp _ _ _ rfl (by simp);have K:=Y.alloc (Nat.le_trans hB Y.size) (.cells (prC x).toArray 358);have d:=HP.out (wr.alloc (.cells (prC x).toArray 358)) x K;rw[bAr]at d;have a2:=V.alloc (.cells (prC x).toArray 358);refine d.mono ?_;rintro e w2 ⟨rfl,b2⟩;have a3:=K7.later b2;obtain⟨Q,z,H7,a4⟩:=aBp (K.trans (b2.mono (by have:=Y.size;simp;omega))) (a2.later b2) (show w2.heap[wr.heap.size]? =some (.cells (prC x).toArray 358 (0,0))from a3) (show(prog.info? 358).map (·.size)=some (prC x).toArray.size from Tryz.infoPairSz);clear d a2 b2 K7 a3 K V Y HR;cases y:p x
    case true=>
     have O:=hid (s.skip HX.out y);clear y s HX;go_wp2_with fail
     go_roundw
     case rel=>exact⟨i,j+1,l,rfl,by go_num,by omega,by omega,O,z,Q⟩
     case measure=>simp[intOf];omega
    case false=>
     have O:=hid (s.keep HX.out y)
     have a0:=z.there (o:=i*10) (n:=(prC x).toArray.size) (by
      have T:=s.len;have h3:=M.out;rw[aB,aAk prC 10 aAx,T,<-h3,show(prC x).toArray.size=10 from rfl];have:(i+1)*10<=N*10:=aG _ (by omega);omega)
     have HT:=hid a0
     have m:=z.setCells (prC x) (i*10) (by
      have T:=s.len;have h3:=M.out;rw[aB,aAk prC 10 aAx,T,<-h3,aAx];have:(i+1)*10<=N*10:=aG _ (by omega);omega)
     rw[aRl aAx l G i x (by have T:=s.len;have h3:=M.out;omega)]at m;have ag:=hid m;have ah:=hid (aAz Q.out hg1 (prC x) (i*10));clear y s HX a0 m z Q;have q3:(0:Int)<=(i:Int):=by omega
     have q4:(i:Int)<(N:Int):=by omega
     go_wp2_with (first
      | (with_reducible refine wpList_load_row rfl 358 (.tmp 7) rfl wr.heap.size rfl 358 (prC x).toArray (0,0) _ H7.out underlying358 rfl a4.out ?_)
      | (with_reducible refine wpList_store_mid rfl 358 (.tmp 33) (.tmp 32) rfl g (i*10) (prC x).toArray rfl rfl HT.out a4.out (all_oneCell_toArray (aDd x)) ?_)
      | fail)
     go_roundw
     case rel=>exact⟨i+1,j+1,l.set i x,by go_num,by go_num,by omega,by omega,O,ag,ah⟩
     case measure=>simp[intOf];omega
   case neg=>
    obtain rfl:j=N:=by omega
    have k:=s.len;rw[<-M.out]at k
    have q:l.take i=xs.filter fun x=>!p x:=by
     have h:=s.out;rw[M.out]at h;exact h.done
    have f:(l.flatMap prC++G).length=cap*10:=by
     have L:=a8.out;rw[aB,aAk prC 10 aAx]at L⊢;rw[k];rw[<-M.out]at L;exact L
    have t:i*10+(aA (prV (rw0,rw0)).cells (j-i)).toList.length<=(l.flatMap prC++G).length:=by
     rw[aOo,f,<-Nat.add_mul];exact aG _ (by omega)
    have a1:=fun cc ty=>aGe (P:=prog) (ty:=ty) underlying356 (bDu wr) (bD3 (j-i)) g (i*10) cc (by omega) V.out t;have b:=V.setCells (aA (prV (rw0,rw0)).cells (j-i)).toList (i*10) t;have r:=aAz Y.out hg1 (aA (prV (rw0,rw0)).cells (j-i)).toList (i*10);generalize af:wr.setCells g (i*10) (aA (prV (rw0,rw0)).cells (j-i)).toList=W1 at a1 b r
    have D:W1.ownsRow B 358 10 (.slice (some (g,0)) i cap) (xs.filter fun x=>!p x).length ((xs.filter fun x=>!p x).flatMap prC):=by
     rw[<-q];have J:(l.take i).length=i:=by rw[aL,k];omega
     rw[J];refine⟨by rw[aAk prC 10 aAx,J],.inr ⟨g,cap,_,rfl,hg1,b,by omega,by unfold maxLen;omega,?_,?_⟩⟩
     . rw[List.size_toArray,aB,aB,aL,List.length_drop,f,aOo];rw[aOo,f]at t;omega
     . rw[List.append_assoc,aD2 aAx l G i (by omega)];have T:((l.take i).flatMap prC).length=i*10:=by rw[aAk prC 10 aAx,J]
       exact List.take_left' T
    have a6:=hid D;have a9:=hid r;clear k q f t b D r af s V Y HP;have q1:(0:Int)<=(i:Int):=by omega
    have q2:(i:Int)<=(j:Int):=by omega
    have q3:¬cap=i:=by omega
    have q4:(i:Int)<=(cap:Int):=by omega
    go_wp2_with fail
    go_ret;exact⟨_,rfl,a6.out,a9.out⟩
end
section
open Go.Proofs.Tryz
open Go Go.RowKit
attribute [local go_sem] Oper.semAt_some
theorem aX7 (q:Qy) (c:Chg) (pb pa:Option Addr) (be:Nat) (p:Rw×Rw) (w:aT) (he:BlkIs w be 256 (aIw q c pb pa)) :
 aW prog 268 #[prV p,.pointer (some (be,0))] w fun e w'=>e= .returned (.bool (decide (p.2.key=c.key)))/\aV w w w':=by
 have g:=he.lt;have h:=he.c8;have f:=hid (aN w (.cells (prC p).toArray 358));obtain⟨⟨m,n,s,r,o⟩,⟨i,d,l,k,j⟩⟩:=p;unfold prV;unfold prC at f;generalize c.key=M at *;dsimp only at *;obtain⟨a,b⟩:∃y,decide (d=M)=y:=⟨_,rfl⟩;have t:(d== M)=a:=b;rw[b];clear he b;cases a
 all_goals
   go_enter func268,ntmps268
   go_wp2_with fail
   go_ret;exact⟨rfl,f.out⟩
theorem aMv (q:Qy) (c:Chg) (pb pa:Option Addr) (be:Nat) (p:Rw×Rw) (w:aT) (he:BlkIs w be 256 (aIw q c pb pa)) :
 aW prog 269 #[prV p,.pointer (some (be,0))] w fun e w'=>e= .returned (.bool (decide (p.1.key=c.key)))/\aV w w w':=by
 have g:=he.lt;have h:=he.c8;have f:=hid (aN w (.cells (prC p).toArray 358));obtain⟨⟨n,d,s,r,o⟩,⟨i,j,m,l,k⟩⟩:=p;unfold prV;unfold prC at f;generalize c.key=M at *;dsimp only at *;obtain⟨a,b⟩:∃y,decide (d=M)=y:=⟨_,rfl⟩;have t:(d== M)=a:=b;rw[b];clear he b;cases a
 all_goals
   go_enter func269,ntmps269
   go_wp2_with fail
   go_ret;exact⟨rfl,f.out⟩
theorem aQ9 (q:Qy) (c:Chg) (pb pa:Option Addr) (be:Nat) (p:Rw×Rw) (w:aT) (he:BlkIs w be 256 (aIw q c pb pa)) :
 aW prog 271 #[prV p,.pointer (some (be,0))] w fun e w'=>e= .returned (.bool (decide (p.2.key=aCq q c)))/\aV w w w':=by
 have g:=he.lt;have h:=he.c20;have f:=hid (aN w (.cells (prC p).toArray 358));obtain⟨⟨m,n,s,r,o⟩,⟨i,d,l,k,j⟩⟩:=p;unfold prV;unfold prC at f;generalize aCq q c=M at *;dsimp only at *;obtain⟨a,b⟩:∃y,decide (d=M)=y:=⟨_,rfl⟩;have t:(d== M)=a:=b;rw[b];clear he b;cases a
 all_goals
   go_enter func271,ntmps271
   go_wp2_with fail
   go_ret;exact⟨rfl,f.out⟩
theorem aX6 (q:Qy) (c:Chg) (pb:Option Addr) (be bv ab kb:Nat) (a:Rw) (p:Rw×Rw) (w:aT) (he:BlkIs w be 256 (aIw q c pb (some ⟨ab,0,none⟩))) (ha:BlkIs w ab 116 (rwC a))
 (hv:BlkIs w bv 3 [.int .i64 (a.val q.column)]) (hk:BlkIs w kb 212 [.func (.func 266) #[] #[.pointer (some (be,0)),.pointer (some (bv,0))]]) :
 aW prog 273 #[prV p,.pointer (some (kb,0))] w fun e w'=>e= .returned (.bool (ltO q.column a p.1))/\aV w w w':=by
 have d:=aN w (.cells (prC p).toArray 358);obtain⟨l,b⟩:=ex_ (w.alloc (.cells (prC p).toArray 358));rw[<-b]at d;have h:=aLz q c pb be bv ab a p.1 l (he.later d) (ha.later d) (hv.later d);have m:=hk.lt;have n:=hk.c0;obtain⟨⟨v,x,A,z,y⟩,⟨o,r,u,t,s⟩⟩:=p;unfold prV;unfold prC at b;dsimp only[List.toArray]at b;unfold rwV at h;generalize ltO q.column a _=Y at *;dsimp only at *;obtain⟨k,g,f⟩:=aAw h d b;clear he ha hv hk h d b;go_enter func273,ntmps273
 go_wp2_with fail
 rw[<-f.out];refine(k.out).mono ?_;rintro e B ⟨rfl,j⟩;have i:=hid (aI g.out j);clear j g k f;go_wp2_with fail
 go_ret;exact⟨rfl,i.out⟩
variable {w W:aT}
theorem bE7 (h:aV w w W):aV w w W.drew:=Below.drew h
theorem bE8 {i:Nat} {v:aU} (h:aV w w W):aV w w (W.setCell (w,i) v):=h.setCell (p:=⟨w.heap.size,i,none⟩) (aC _) v
theorem bEs {o:Obj} (h:aV w w W):aV w w (W.alloc o):=h.alloc h.size o
theorem aOy (q:Qy) (c:Chg) (pb:Option Addr) (ab:Nat) (a:Rw) (w:aT) (ha:BlkIs w ab 116 (rwC a)) :
 aW prog 230 #[effV q c pb (some ⟨ab,0,none⟩)] w fun e w'=>∃be bv,e= .returned (.func (.func 266) #[] #[.pointer (some (be,0)),.pointer (some (bv,0))])/\
   BlkIs w' be 256 (aIw q c pb (some ⟨ab,0,none⟩))/\BlkIs w' bv 3 [.int .i64 (a.val q.column)]/\aV w w w':=by
 have d:=fun W=>aB5 a q.column W;obtain⟨b,f⟩:=ex_ (w.alloc (.cells (aIw q c pb (some ⟨ab,0,none⟩)).toArray 256));have t:aV w w b:=by rw[f];exact aN _ _
 have k:BlkIs b w 256 (aIw q c pb (some ⟨ab,0,none⟩)):=by rw[f];exact aAp _ _ _ rfl (by simp)
 have j:=ha.later t;obtain⟨V,u⟩:=ex_ (a.val q.column);rw[<-u]at d⊢;clear u;obtain⟨at_,v,z,y,x⟩:=a;unfold rwV at d;unfold rwC at j;dsimp only at *
 have C:=hid (fun(W:aT) (g:aV b b W)=>(show(fun W=>W.cell? (w,2)=some (.int .i64 q.column)/\W.cell? (w,18)=some (.pointer (some (ab,0)))/\W.cell? (ab,0)=some (.int .i64 at_)/\W.cell? (ab,1)=some (.int .i64 v)/\
     W.cell? (ab,2)=some (.int .i64 z)/\W.cell? (ab,3)=some (.int .i64 y)/\W.cell? (ab,4)=some (.int .i64 x)/\aV b b W) W from
   ⟨(k.later g).cell 2,(k.later g).cell 18,(j.later g).cell 0,(j.later g).cell 1,(j.later g).cell 2,(j.later g).cell 3,(j.later g).cell 4,g⟩))
 obtain⟨l,n,m,i⟩:=aBp (fun(W:aT) (g:aV b b W)=>(d W).mono (fun _ w' h=>(show _/\aV b b w'/\aV W W w' from⟨h.1,aI g h.2,h.2⟩))) t k f;have Z:aV b b b:=aH _ _;have A:w.heap.size<b.heap.size:=k.lt;unfold aIw at f;unfold aIw at i;dsimp only[List.toArray]at i;clear d t k j f ha;unfold effV;go_enter func230,ntmps230
 go_wp2_with fail
 rw[<-i.out]
 go_region_held3 (fun W=>W.cell? (w,2)=some (.int .i64 q.column)/\W.cell? (w,18)=some (.pointer (some (ab,0)))/\W.cell? (ab,0)=some (.int .i64 at_)/\W.cell? (ab,1)=some (.int .i64 v)/\
     W.cell? (ab,2)=some (.int .i64 z)/\W.cell? (ab,3)=some (.int .i64 y)/\W.cell? (ab,4)=some (.int .i64 x)/\aV b b W)
   (first|(refine C.out _ ?_;repeat (first|assumption|exact aH _ _|refine bE7 ?_|refine bEs ?_|refine bE8 ?_))|fail)
   (first|(go_at_call 91;refine(l.out _ ?_).mono ?_;(repeat (first|assumption|exact aH _ _|refine bE7 ?_|refine bEs ?_));rintro e r ⟨rfl,o,B⟩;(try (have s:BlkIs r b 3 [()]:=(BlkIs.drew (aAp (w:=b) 3 #[()] _ rfl rfl)).later B;have E:r.cell? (b,0)=some (.int .i64 0):=s.cell 0;have D:r.frozen? (b,0)=false:=s.frozen 0)))|fail)
 . go_wp2_with fail
   go_ret;exact⟨_,_,rfl,(m.later o).alloc _,aAp _ _ _ rfl rfl,aI n.out (bEs o)⟩
 . go_wp2_with fail
   go_ret;exact⟨_,_,rfl,(m.later o).other (p:=⟨b.heap.size,0,none⟩) (by dsimp only;omega) _,s.set 0 _,aI n.out (bE8 o)⟩
end
section
open Go.Proofs.Tryz
open Go Go.RowKit Go.Shelf
attribute [local go_sem] Oper.semAt_some
theorem bDd (args:Array aU) (W:aT):(callFunc 93 args).run prog W= .ok (.enter 93 args) W:=enters_of func93 (by kernel_rfl) rfl args W
theorem bC7 (args:Array aU) (W:aT):(callFunc 96 args).run prog W= .ok (.enter 96 args) W:=enters_of func96 (by kernel_rfl) rfl args W
theorem bEd (args:Array aU) (W:aT):(callFunc 98 args).run prog W= .ok (.enter 98 args) W:=enters_of func98 (by kernel_rfl) rfl args W
theorem bEl (args:Array aU) (W:aT):(callFunc 99 args).run prog W= .ok (.enter 99 args) W:=enters_of func99 (by kernel_rfl) rfl args W
theorem aZ1 (args:Array aU) (W:aT):(callFunc 160 args).run prog W= .ok (.enter 160 args) W:=enters_of func160 (by kernel_rfl) rfl args W
theorem bDe (a b:Int) (w:aT):aW prog 98 #[.int .i64 a,.int .i64 b] w fun e w'=>e= .returned (.bool (ltB a b))/\w'=w:=by
 unfold ltB;obtain⟨y,c⟩:∃y,decide (a<b)=y:=⟨_,rfl⟩;rw[c];go_enter func98,ntmps98
 go_wp2_with fail
 go_ret;exact⟨rfl,rfl⟩
theorem bDf (a b:Int) (w:aT):aW prog 99 #[.int .i64 a,.int .i64 b] w fun e w'=>e= .returned (.bool (gtB a b))/\w'=w:=by
 unfold gtB;obtain⟨y,c⟩:∃y,decide (b<a)=y:=⟨_,rfl⟩;rw[c];go_enter func99,ntmps99
 go_wp2_with fail
 go_ret;exact⟨rfl,rfl⟩
theorem bBq (g:Nat) (w:aT):aW prog 97 #[fnV g] w fun e w'=>e= .returned (.func (.func 160) #[] #[.pointer (some (w,0))])/\w'=w.alloc (.cells #[fnV g] 199):=by
 unfold fnV;go_enter func97,ntmps97
 go_wp2_with fail
 go_ret;exact⟨rfl,rfl⟩
theorem aVh (better:Int->Int->Bool) (gf gx:Nat) (hen:∀args W,(callFunc gf args).run prog W= .ok (.enter gf args) W) (hb:∀a b W,aW prog gf #[.int .i64 a,.int .i64 b] W fun e w'=>e= .returned (.bool (better a b))/\w'=W)
 (r:Res) (m:Int) (w:aT) (hg:BlkIs w gx 199 [fnV gf]) :
 aW prog 160 #[aLf r,.int .i64 m,.pointer (some (gx,0))] w fun e w'=>e= .returned (aLf (aGj better r m))/\aV w w w':=by
 obtain⟨l,n,p⟩:=r;unfold aLf aGj;dsimp only at *;have i:=hid (fun(k j:Obj)=>(((aH w.heap.size w).alloc (aC _) k).alloc (by simp) j));have h:=hg.lt;have o:=hg.c0;have d:=hid hb;have g:gx<w.heap.size+1:=by omega
 unfold fnV at o;clear hg hb;cases p
 case false=>
  clear d;go_enter func160,ntmps160
  go_wp2_with fail
  refine bodyPost_ret (by simp[results,results160,go_sem];try rfl) rfl ?_;exact⟨rfl,i.out _ _⟩
 case true=>
  have c:=fun W=>d.out m n W;generalize better m n=y at c⊢;have f:=hid c;clear d c;cases y
  all_goals
    go_enter func160,ntmps160
    go_wp2_with fail
    with_reducible refine(f.out _).mono ?_
    rintro e q ⟨rfl,rfl⟩;go_wp2_with fail
    refine bodyPost_ret (by simp[results,results160,go_sem];try rfl) rfl ?_;exact⟨rfl,i.out _ _⟩
theorem Tryz.infoRes3:(prog.info? 35).map (·.size)=some 3:=by kernel_rfl
theorem aY5 (l:List Rw) (v:aU) (w:aT) (hv:RwsAt w v l) (hl:l.length<=1000000) :
 aW prog 92 #[v,.agg #[.slice none 0 0,.int .i64 0,.bool false],.func (.func 93) #[] #[]] w fun e w'=>e= .returned (aLf ⟨[],l.length,false⟩)/\aV w w w':=by
 obtain⟨A,c,rfl,hc,d⟩:=hv;obtain⟨N,K⟩:=ex_ l.length;obtain⟨H,b⟩:=ex_ ((w.alloc (.cells #[.slice none 0 0,.int .i64 0,.bool false] 35)).alloc (.cells #[.slice none 0 0,.int .i64 0,.bool false] 35));have V:aV w w H:=by rw[b];exact((aH w.heap.size w).alloc (aC _) _).alloc (by simp) _
 have O:BlkIs H w 35 [.slice none 0 0,.int .i64 ((0:Nat):Int),.bool false]:=by rw[b];exact(aAp _ _ _ rfl rfl).alloc _
 obtain⟨h,r,z,y,HN,HC⟩:=aIl (show BlkIs H (w.heap.size+1) 35 [.slice none 0 0,.int .i64 0,.bool false] by rw[b];exact aAp _ _ _ (by simp)) b V O K d;rw[<-K]at hl hc⊢;clear b V O d K;have ad:=bDd;unfold aLf;go_enter func92,ntmps92
 go_upto_region 1 with fail
 rw[<-r.out];go_wp2_with fail
 go_loopw [11] (fun iv wr=>∃k:Nat,iv= .int .i64 k/\k<=N/\Hid (BlkIs wr w 35 [.slice none 0 0,.int .i64 k,.bool false])/\Hid (BlkIs wr (w.heap.size+1) 35 [.slice none 0 0,.int .i64 0,.bool false])/\Hid (aV w w wr/\w.heap.size+2<=wr.heap.size)) (fun iv _=>N-(intOf iv).toNat)
 case atStart=>exact⟨0,rfl,by omega,y,h,hid ⟨z.out,h.lt⟩⟩
 case round=>
  clear y h z r;obtain⟨k,rfl,hk,D,f,n⟩:=hrel;by_cases R:k<N
  case pos=>
   obtain⟨x,P⟩:∃x,l[k]? =some x:=⟨_,aD (by rw[<-HN.out];exact R)⟩;obtain⟨g,o,rfl,hg,Q⟩:=HC.out (by rw[<-HN.out];omega);have t:=hid (show wr.rangeAt g (o+k*5) (rwC x)from fun m u hu=>(n.1.cell (p:=⟨g,o+k*5+m,none⟩) hg).trans (Q k x P m u hu));have q1:(0:Int)<=(k:Int):=by omega
   have q2:(k:Int)<(N:Int):=by omega
   clear Q P
   go_upto_region 4 with(first
    | (refine wpList_load_mid rfl 116 (.tmp 13) rfl g (o+k*5) rfl (rwC x) _ t.out underlying116 rfl Tryz.infoRowSz ?_)
    | (refine aAi rfl 116 (.tmp 8) (.tmp 14) rfl wr.heap.size (rwC x).toArray _ 116 rfl rfl rfl Tryz.infoRowSz rfl (all_oneCell_toArray (aBj x)) ?_)
    | fail)
   have i:=aN wr (.cells (rwC x).toArray 116);have B:BlkIs (wr.alloc (.cells (rwC x).toArray 116)) wr.heap.size 116 (rwC x):=aAp _ _ _ rfl (by simp);obtain⟨X,C⟩:=ex_ wr.heap.size;have J:w.heap.size+2<=X:=by rw[C];exact n.2
   generalize wr.alloc (.cells (rwC x).toArray 116)=w5 at i B⊢;have L:=D.later i;have Y:=hid (f.later i);have B5:=hid (aI n.1 i);rw[<-C]at B⊢;have s:=hid (show X<=w5.heap.size from by rw[C];exact i.size);obtain⟨G,F,E⟩:=L.C3;have H5:=hid (show w5.heap[X]? =some (.cells (rwC x).toArray 116 (0,0))from B);have Z:=hid L;clear B i L D f n t C
   go_wp2_with (first
    | (refine wpList_load_row rfl 116 (.tmp 8) rfl X rfl 116 (rwC x).toArray (0,0) _ H5.out underlying116 rfl Tryz.infoRowSz ?_)
    | fail)
   have a:=bBt ⟨[],(k:Int),false⟩ x (by dsimp only;omega) (by dsimp only;omega) w5;unfold aLf at a;dsimp only at a;refine a.mono ?_;rintro e w2 ⟨rfl,q⟩;have j:=Z.later q;obtain⟨z0,z1,z2⟩:=j.C3;have U:=j.frozen 0;have T:=j.frozen 1;have S:=j.frozen 2;obtain⟨KR,KT,KB,KS⟩:=aBp (((j.set 0 (.slice none 0 0)).set 1 (.int .i64 ((k:Int)+1))).set 2 (.bool false)) (((((Y.later q).other (p:=⟨w.heap.size,0,none⟩) (by dsimp only;omega) (.slice none 0 0)).other (p:=⟨w.heap.size,1,none⟩) (by dsimp only;omega) (.int .i64 ((k:Int)+1)))).other (p:=⟨w.heap.size,2,none⟩) (by dsimp only;omega) (.bool false)) ((((aI B5.out q).setCell (p:=⟨w.heap.size,0,none⟩) (aC _) (.slice none 0 0)).setCell (p:=⟨w.heap.size,1,none⟩) (aC _) (.int .i64 ((k:Int)+1))).setCell (p:=⟨w.heap.size,2,none⟩) (aC _) (.bool false)) (Nat.le_trans J (Nat.le_trans s.out q.size));clear a j Z q Y B5 s H5 G F E;go_wp2_with fail
   go_roundw
   case rel=>exact⟨k+1,by go_num,R,KR,KT,hid ⟨KB.out,by simp[World.setCell];exact KS.out⟩⟩
   case measure=>simp[intOf];omega
  case neg=>
   obtain rfl:k=N:=by omega
   obtain⟨G,F,E⟩:=D.C3;obtain⟨v0,v1,v2⟩:=f.C3;have U:=f.frozen 0;have T:=f.frozen 1;have S:=f.frozen 2;have M:=hid (((f.set 0 (.slice none 0 0)).set 1 (.int .i64 k)).set 2 (.bool false));have BF:=hid (((n.1.setCell (p:=⟨w.heap.size+1,0,none⟩) (by dsimp only;omega) (.slice none 0 0)).setCell (p:=⟨w.heap.size+1,1,none⟩) (by dsimp only;omega) (.int .i64 k)).setCell (p:=⟨w.heap.size+1,2,none⟩) (by dsimp only;omega) (.bool false));clear D f n HC;go_wp2_with fail
   generalize ((wr.setCell (w.heap.size+1,0) (.slice none 0 0)).setCell (w.heap.size+1,1) (.int .i64 k)).setCell (w.heap.size+1,2) (.bool false)=wf at M BF⊢;obtain⟨k0,k1,k2⟩:=M.C3;clear M G F E v0 v1 v2 U T S;refine bodyPost_ret (by simp[results,results92,go_sem,k0,k1,k2];try rfl) rfl ?_;exact⟨rfl,BF.out⟩
theorem infoInt:∃i,prog.info? 3=some i/\i.zero=some (.int .i64 0)/\i.size=1/\i.bytes=8:=info_parts (by kernel_rfl)
theorem bCy (n:Int):∀u∈[aQ .i64 n],u.oneCell'=true:=by intro u hu;simp at hu;subst hu;rfl
theorem aE9 (q:Qy) (l:List Rw) (v:aU) (w:aT) (hv:RwsAt w v l) (hl:l.length<=1000000) :
 aW prog 95 #[qV q,v] w fun e w'=>∃v',e= .returned v'/\w'.ownsRow w.heap.size 3 1 v' (aA7 q l).length ((aA7 q l).map (aQ .i64))/\aV w w w':=by
 obtain⟨A,c,rfl,hc,a⟩:=hv;obtain⟨N,H⟩:=ex_ l.length;have d:(aA7 q l).length=l.length:=by simp[aA7]
 have HM:=hid (fun(k:Nat) (x:Rw) (r:l[k]? =some x)=>show((aA7 q l).take (k+1)).map (aQ .i64)=((aA7 q l).take k).map (aQ .i64)++[aQ .i64 (x.val q.by_)] by
  rw[aE,List.map_append];unfold aA7;rw[List.getElem?_map,r];rfl)
 obtain⟨C,M,HC⟩:=aAw d H a;obtain⟨P,b⟩:=ex_ (w.alloc (.cells q 29));have b1:aV w w P:=by rw[b];exact(aH w.heap.size w).alloc (aC _) _
 obtain⟨f,y,h⟩:=aAw (show BlkIs P w 29 (qC q) by rw[b];exact aAp _ _ _ rfl rfl) b b1;rw[d,<-H];rw[<-H]at hl hc;clear b b1 a H d;obtain⟨i0,s,n,j,i⟩:=infoInt;unfold qV;go_enter func95,ntmps95
 go_upto_region 1 with fail
 rw[<-y.out]
 go_wp2_with (first
  | (refine wpList_make_own _ rfl (.const (.int .i64 0)) (.tmp 9) 56 rfl (w.heap.size+1) 3 i0 (.int .i64 0) 1 underlying56 s n j .i64 .i64 N N rfl rfl rfl (by rw[i];omega) (by unfold maxLen;omega) f.lt ?_
     intro w2 o2 T)
  | fail)
 obtain⟨B,E,D⟩:=aAw (show w2.ownsRow (w.heap.size+1) 3 1 (.slice (some (P,0)) 0 N) 0 (((aA7 q l).take 0).map (aQ .i64))from o2) (h.grown T h.size (fun k e=>by cases e)) (f.kept T (by intro e;cases e));clear o2 T;go_loopw [5,13] (fun ov iv wr=>∃k:Nat,iv= .int .i64 k/\k<=N/\Hid (wr.ownsRow (w.heap.size+1) 3 1 ov k (((aA7 q l).take k).map (aQ .i64)))/\Hid (BlkIs wr w 29 (qC q))/\Hid (aV w w wr)) (fun _ iv _=>N-(intOf iv).toNat)
 case atStart=>exact⟨0,rfl,by omega,B,D,E⟩
 case round=>
  clear B E D h f y;obtain⟨k,rfl,hk,L,HK,O⟩:=hrel;by_cases h1:k<N
  case pos=>
   obtain⟨x,r⟩:∃x,l[k]? =some x:=⟨_,aD (by rw[<-M.out];exact h1)⟩;obtain⟨g,o,rfl,hg,hj⟩:=HC.out (by rw[<-M.out];omega);have z:=hid (show wr.rangeAt g (o+k*5) (rwC x)from fun m u hu=>(O.cell (p:=⟨g,o+k*5+m,none⟩) hg).trans (hj k x r m u hu));have HX:=hid (HM.out k x r);have q1:(0:Int)<=(k:Int):=by omega
   have q2:(k:Int)<(N:Int):=by omega
   clear hj r
   go_upto_region 5 with(first
    | (refine wpList_load_mid rfl 116 (.tmp 15) rfl g (o+k*5) rfl (rwC x) _ z.out underlying116 rfl Tryz.infoRowSz ?_)
    | (refine aAi rfl 116 (.tmp 7) (.tmp 16) rfl wr.heap.size (rwC x).toArray _ 116 rfl rfl rfl Tryz.infoRowSz rfl (all_oneCell_toArray (aBj x)) ?_)
    | fail)
   have t:=aN wr (.cells (rwC x).toArray 116);have G:BlkIs (wr.alloc (.cells (rwC x).toArray 116)) wr.heap.size 116 (rwC x):=aAp _ _ _ rfl (by simp);obtain⟨X,hX⟩:=ex_ wr.heap.size;generalize wr.alloc (.cells (rwC x).toArray 116)=w5 at t G⊢;obtain⟨O5,Y,B5⟩:=aAw (aAb t L.out) (HK.later t) (aI O.out t);rw[<-hX]at G⊢;have y5:=Y.c5;have H5:=hid (show w5.heap[X]? =some (.cells (rwC x).toArray 116 (0,0))from G);clear G t L HK O z hX
   go_wp2_with (first
    | (refine wpList_load_row rfl 116 (.tmp 7) rfl X rfl 116 (rwC x).toArray (0,0) _ H5.out underlying116 rfl Tryz.infoRowSz ?_)
    | fail)
   refine(aB5 x q.by_ w5).mono ?_;rintro e F ⟨rfl,K⟩;obtain⟨m,R⟩:=ex_ (x.val q.by_);rw[<-R];rw[<-R]at HX;have V:=aAb K O5.out;have K6:=Y.later K;have B6:=aI B5.out K;have J:=aN F (.cells #[m] 3);obtain⟨a2,U,K7,B7⟩:=aBp (show BlkIs (F.alloc (.cells #[m] 3)) F.heap.size 3 [m]from aAp _ _ _ rfl rfl) (aAb J V) (K6.later J) (aI B6 J);obtain⟨OA,oc,rfl,-⟩:=aAa V;clear V K6 B6 J O5 Y B5 y5 K R
   go_wp2_with (first
    | (refine wpList_append_lies _ rfl (.tmp 17) (.tmp 22) 56 rfl (w.heap.size+1) 3 i0 (.int .i64 0) 1 8 underlying56 s n j i rfl (by decide) (.slice OA k oc) k (((aA7 q l).take k).map (aQ .i64)) rfl U.out ⟨F.heap.size,0,none⟩ 1 1 [m] rfl rfl (aCn a2.out 0 _ rfl) (bCy m) (by decide) (by unfold maxLen;omega) (by omega) K7.lt _ rfl ?_
       intro gr cr w8 o8 S h8 _;obtain⟨a0,a1,a3⟩:=aAw o8 (K7.kept S (fun e=>by have:=(U.lt _ e.symm).1;omega)) (aFi B7.out B7.size S (fun k hk=>by have:=(U.lt k hk).1;omega));clear o8 S h8)
    | fail)
   go_roundw
   case rel=>exact⟨k+1,by go_num,h1,by rw[HX.out];exact a0,a1,a3⟩
   case measure=>simp[intOf];omega
  case neg=>
   obtain rfl:k=N:=by omega
   have Q:=L.out;rw[M.out,<-C.out,aR,C.out,<-M.out]at Q;have Z:=hid Q;clear L Q;go_wp2_with fail
   go_ret;exact⟨_,rfl,aAh Z.out (Nat.le_succ _),O.out⟩
end
end Go.Proofs.YtmhpfoicloojcaaGreatDoor
