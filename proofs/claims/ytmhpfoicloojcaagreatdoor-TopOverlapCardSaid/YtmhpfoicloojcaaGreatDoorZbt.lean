/- The reference's log. -/
import Derived.Test.YtmhpfoicloojcaaGreatDoorZbd
import Derived.Test.YtmhpfoicloojcaaGreatDoorZbg
set_option linter.all false
open List renaming length_drop→aB,eq_nil_of_length_eq_zero→aC,length_take→aF,length_append→aL,flatMap_append→bA,getElem?_eq_some_iff→bX,getElem?_eq_getElem→cD,flatMap_cons→dD,take_of_length_le→dE,drop_drop→dR
open Go.Value renaming ownBlock→a0
open Go.World renaming ownsRow_nil→b0,size_alloc→dC
open Nat renaming min_eq_left→cC,pos_of_ne_zero→cN,le_refl→cQ
open Go.IntKind renaming wrap_i64→dH,i64→dT
open Go.RowKit.Below renaming refl→dI
open Go renaming World→dU
open Go.RowKit renaming Below→dV
namespace Go.Proofs.YtmhpfoicloojcaaGreatDoor
open Below renaming alloc1→bO,next→b2
open BlkIs renaming new→cM
open Only renaming of_below→cO,setCell→cP
set_option maxRecDepth 100000
set_option maxHeartbeats 16000000
section
open Go.Proofs.Tryz
open Go Go.RowKit Go.Shelf
attribute [local go_sem] Oper.semAt_some
variable {w:dU} {gl:Nat}
theorem aU8 (o:Option Rw):bE4 o=rwV (o.getD rw0):=by cases o <;> rfl
theorem aLr:∀(l:List Rw) (m:Nat),(l.drop m).flatMap rwC=(l.flatMap rwC).drop (m*5)
 | l,0=>by simp
 | [],m+1=>by simp
 | x :: l,m+1=>by
   rw[List.drop_succ_cons,aLr l m,dD,show(m+1)*5=(rwC x).length+m*5 by rw[aAu];omega,List.drop_append];simp
theorem aLq:∀(l:List Rw) (m:Nat),(l.take m).flatMap rwC=(l.flatMap rwC).take (m*5)
 | l,0=>by simp
 | [],m+1=>by simp
 | x :: l,m+1=>by
   rw[List.take_succ_cons,dD,aLq l m,dD,show(m+1)*5=(rwC x).length+m*5 by rw[aAu];omega,List.take_append,dE (Nat.le_add_right _ _)];simp
theorem aCi {w':dU} {row:Option Nat} {us:List Value} (hg:w.grownBy w' row) (hne:some gl≠row) (h:∀(j:Nat) u,us[j]? =some u->w.cell? (gl,j)=some u):∀(j:Nat) u,us[j]? =some u->w'.cell? (gl,j)=some u:=
 fun j u hu=>hg.cell (h j u hu) hne
theorem aCx {L:List Rw} (h:∀(j:Nat) u,(L.flatMap rwC)[j]? =some u->w.cell? (gl,j)=some u) (m:Nat) :
 ∀(j:Nat) u,((L.take m).flatMap rwC)[j]? =some u->w.cell? ((⟨gl,0,none⟩:Addr).add j)=some u:=fun j u hu=>by
 rw[aLq,List.getElem?_take]at hu;split at hu
 . rw[aBm];exact h j u hu
 . cases hu
theorem aF8 {L:List Rw} (h:∀(j:Nat) u,(L.flatMap rwC)[j]? =some u->w.cell? (gl,j)=some u) (m:Nat) :
 ∀(j:Nat) u,((L.drop m).flatMap rwC)[j]? =some u->w.cell? ((⟨gl,m*5,none⟩:Addr).add j)=some u:=fun j u hu=>by
 rw[aLr,List.getElem?_drop]at hu;rw[show(⟨gl,m*5,none⟩:Addr).add j=⟨gl,m*5+j,none⟩ by unfold Addr.add;split <;> simp_all];exact h _ u hu
def bEu (w:dU) (b:Nat) (s:StT) (p:Int) (l:List Chg) (e:Ending) (w':dU):Prop:=
 (aFg s ⟨p,l⟩=false/\e= .returned (.int .i64 40)/\dV w w w')\/(aFg s ⟨p,l⟩=true/\e= .returned (.int .i64 0)/\RSt w' b ⟨l.foldl aBs s.rows,p⟩/\Only (fun j=>j=b) w w')
theorem aTx (b:Nat) (s:StT) (p:Int) (A:Option Addr) (c:Nat) (l:List Chg) (w:dU) (hS:RSt w b s) (g:GoodS s) (hp1:0<=s.pos) (hp2:s.pos<=100000) (hv:aCc w (.slice A l.length c) l) (hA:∀a,A=some a->a.block≠b) :
 Calls prog 43 #[.pointer (some (b,0)),aQy p (.slice A l.length c)] w fun e w'=>bEu w b s p l e w':=by
 have bk:=bO w (.cells #[p,.slice A l.length c] 51);have K0:=cM w 51 #[p,.slice A l.length c];have bC:=hS.later bk;have bu:=hv.below bk;unfold aQy;obtain⟨w0,bT⟩:=ex_ (w.alloc (.cells #[p,.slice A l.length c] 51));rw[<-bT]at bk K0 bC bu;have b8:=fun W (hW:dV w0 w0 W)=>bAi p A c l W (bu.below hW);obtain⟨B,hB⟩:=ex_ (recB ⟨p,l⟩);obtain⟨E,hE⟩:=ex_ (decide (p=s.pos+1))
 have bH:aFg s ⟨p,l⟩=(B&&E&&(l.all (aEl s.rows)&&decide ((s.rows.length:Int)+aKg l<=2000))):=by
  unfold aFg;rw[hB,hE]
 have bf:aFg s ⟨p,l⟩=true->∀(k:Nat) x,l[k]? =some x->SortS ((l.take k).foldl aBs s.rows)/\((l.take k).foldl aBs s.rows).length<=2008/\aEl ((l.take k).foldl aBs s.rows) x=true:=fun hf k x hx=>by
  obtain⟨h1,h2,h3,h4⟩:=aB7 hf;have:=aLs g hf k;exact⟨this.1,this.2.2,aU2 g.sort (aEg h1) h3 k x hx⟩
 have cV:=hid bf
 have bI:B=true->1<=l.length/\l.length<=8:=by
  intro e;rw[e]at hB;have h2:=hB.symm;unfold recB at h2;simp only[Bool.and_eq_true,decide_eq_true_eq]at h2;exact⟨h2.1.2.1,h2.1.2.2⟩
 unfold aQy at b8;rw[<-hB]at b8;obtain⟨aR,bK,bQ,cR,cs,cq,HK,HG,HA,dB,cX⟩:=aU3 bH b8 bI bT bC bu K0 g bk hA hS.lt;obtain⟨q,hq⟩:=ex_ (s.pos+1);have t0:dT.wrap (s.pos+1)=q:=by rw[hq];simp[IntKind.wrap,IntKind.bits,IntKind.signed];omega
 have t1:(p != q)=!E:=by rw[hE,hq];rfl
 have df:=g.small;obtain⟨v0,co,bG⟩:=bC.own;obtain⟨aN,m,bL⟩:=aAw (fun(W:dU) (hW:dV w0 w0 W)=>(show(fun W=>W.cell? (w,0)=some (.int .i64 p)/\W.cell? (b,1)=some (.int .i64 s.pos)) W from⟨(K0.later hW).cell 0,(co.later hW).cell 1⟩)) co bG;obtain⟨c0,c1⟩:=K0.C2;clear b8 bI bC bu K0 g bk hB hE bH hS hv hq bf hA co bG;go_enter func43,ntmps43
 go_wp2_with fail
 rw[<-cR.out];clear cR bT;refine(bK.out w0 (dI _ _)).mono ?_;rintro e w1 ⟨rfl,b1⟩;have Z:=b1;clear b1 bK c0 c1;go_wp2_with fail
 cases B
 case false=>
  replace Z:=Below.drew Z;refine aKs (fun W=>W.cell? (w,0)=some (.int .i64 p)/\W.cell? (b,1)=some (.int .i64 s.pos)) [(0,true),(1,true),(2,true),(3,false),(4,false),(5,false),(6,false),(7,false),(8,false),(9,true),(10,true),(11,true)] (aN.out _ Z) ?_
  repeat (first
   | refine aAq.A0 ?_|refine aAq.AG ?_|refine aAq.AS ?_
   | (first
      | refine aAq.P0 ?_|refine aAq.PG ?_
      intro K hK;go_simp
      first
      | skip|fail
      refine hK.out _ _ ?_ (fun _=>?_)
      . exact aN.out _ Z
      clear hK K;try simp only[Act.put,sx1,sx2,sx3]))
  refine aAq.fin ?_;go_wp2_with fail
  go_ret;exact .inl ⟨by rw[aR.out];rfl,rfl,b2 HA.out Z⟩
 case true=>
  obtain⟨l1,l8⟩:=bQ.out rfl;cases E
  case false=>
   replace Z:=Below.drew Z;refine aKs (fun W=>W.cell? (w,0)=some (.int .i64 p)/\W.cell? (b,1)=some (.int .i64 s.pos)) [(0,true),(1,true),(2,true),(3,false),(4,false),(5,false),(6,false),(7,false),(8,false),(9,true),(10,true),(11,true)] (aN.out _ Z) ?_
   repeat (first
    | refine aAq.A0 ?_|refine aAq.AG ?_|refine aAq.AS ?_
    | (first
       | refine aAq.P0 ?_|refine aAq.PG ?_
       intro K hK;go_simp
       first
       | skip|fail
       refine hK.out _ _ ?_ (fun _=>?_)
       . exact aN.out _ Z
       clear hK K;try simp only[Act.put,sx1,sx2,sx3]))
   refine aAq.fin ?_;go_wp2_with fail
   go_ret;exact .inl ⟨by rw[aR.out];rfl,rfl,b2 HA.out Z⟩
  case true=>
   replace Z:=Below.drew Z;refine aKs (fun W=>W.cell? (w,0)=some (.int .i64 p)/\W.cell? (b,1)=some (.int .i64 s.pos)) [(0,true),(1,true),(2,true),(3,false),(4,false),(5,false),(6,false),(7,false),(8,false),(9,true),(10,true),(11,true)] (aN.out _ Z) ?_
   repeat (first
    | refine aAq.A0 ?_|refine aAq.AG ?_|refine aAq.AS ?_
    | (first
       | refine aAq.P0 ?_|refine aAq.PG ?_
       intro K hK;go_simp
       first
       | skip|fail
       refine hK.out _ _ ?_ (fun _=>?_)
       . exact aN.out _ Z
       clear hK K;try simp only[Act.put,sx1,sx2,sx3]))
   refine aAq.fin ?_;clear aN t0 t1 bQ;obtain⟨vA,vc,rfl,-⟩:=aAa bL.out;have k0:w1.drew.cell? (b,0)=some (.slice vA s.rows.length vc):=(m.later Z).cell 0;have HZ:=hid Z;clear Z;go_wp2_with fail
   clear k0;go_loopw [6,7] (fun sv iv wr=>∃k:Nat,k<=l.length/\iv= .int .i64 k/\sv= .int .i64 ((s.rows.length:Int)+aKg (l.take k))/\Hid ((l.take k).all (aEl s.rows)=true)/\Hid (dV w0 w0 wr)) (fun _ iv _=>l.length-(intOf iv).toNat)
   case atStart=>exact⟨0,by omega,rfl,by simp[aKg],hid rfl,hid HZ.out⟩
   case round=>
    clear HZ;obtain⟨k,hk,rfl,rfl,HH,HB⟩:=hrel;by_cases h1:k<l.length
    case pos=>
     obtain⟨⟨H,M,ao,⟨o0,o1,o2⟩,an,⟨Q,P,O⟩⟩,hx⟩:∃x,l[k]? =some x:=⟨_,cD h1⟩;have bV:=aD4 (l.take k);rw[aF,cC hk]at bV;have cK:=aOt hx;have hd3:=aIf ⟨H,M,ao,(o0,o1,o2),an,(Q,P,O)⟩;obtain⟨D,hD⟩:=ex_ ((s.rows.length:Int)+aKg (l.take k));rw[<-hD];have cL:=cs.later HB.out;obtain⟨A',c',hv,hc,hj⟩:=cq.out;injection hv with e1 e2 e3
     subst e1 e3;obtain⟨g,o,rfl,hg,hj⟩:=hj (by omega);have aK:∀(i:Nat) u,(chgCells ⟨H,M,ao,(o0,o1,o2),an,(Q,P,O)⟩)[i]? =some u->wr.cell? (g,o+k*10+i)=some u:=fun i u hu=>(HB.cell (p:=⟨g,o+k*10+i,none⟩) hg).trans (hj k _ hx i u hu);obtain⟨c0,c1,c2,c3,c4,c5,c6,c7,c8,c9⟩:=aQn aK;have q0:(0:Int)<=(k:Int):=by omega
     have q1:(k:Int)<(l.length:Int):=by omega
     have m1:=(HK.later HB.out).c1;have t1:decide (k<l.length)=true:=by simpa using h1
     obtain⟨cU,HD,HX⟩:=aAw cL (And.intro hD (And.intro bV (And.intro cK hd3))) hx;have dm: -8<=D/\D<=2008:=by omega
     obtain⟨dG,dF⟩:=dm;have a4:=bO wr (.cells (chgCells ⟨H,M,ao,(o0,o1,o2),an,(Q,P,O)⟩).toArray 48);have K4:=cM wr 48 (chgCells ⟨H,M,ao,(o0,o1,o2),an,(Q,P,O)⟩).toArray;have bF:=hid (b2 HB.out a4);have bc:=hid (cU.later a4);unfold chgCells at a4 K4 bF bc;obtain⟨Y,aV⟩:=ex_ (wr.alloc (.cells #[H,M,ao,o0,o1,o2,an,Q,P,O] 48));rw[<-aV]at a4 K4 bF bc;have aQ:=aTw b s H M Y bc.out HG.sort df;rw[aU8]at aQ
     have aZ:aEl s.rows ⟨H,M,ao,(o0,o1,o2),an,(Q,P,O)⟩=(if(getS s.rows H M).isSome then ao&&decide (((getS s.rows H M).getD rw0).v=(o0,o1,o2))else !ao):=by
      unfold aEl;dsimp only;cases getS s.rows H M <;> rfl
     obtain⟨y,hy⟩:=ex_ ((getS s.rows H M).getD rw0);obtain⟨yb,cE⟩:=ex_ ((getS s.rows H M).isSome);rw[<-hy,<-cE]at aQ aZ;obtain⟨yt,yk,y0,y1,y2⟩:=y;unfold rwV at aQ;dsimp only at aQ aZ;obtain⟨bN,cv,b3⟩:=aAw aQ K4 aV;obtain⟨d0,d1,d2,d3,d4,d5,d6,d7,d8,d9⟩:=K4.C10
     have cH:aEl s.rows ⟨H,M,ao,(o0,o1,o2),an,(Q,P,O)⟩=false->aFg s ⟨p,l⟩=false:=fun e=>by
      rw[aR.out,aV6 HX.out e];rfl
     have ct:=hid cH;rw[aV]at d0 d1 d2 d3 d4 d5 d6 d7 d8 d9;clear aK hj cL hD bV cK hd3 hx h1 a4 K4 aQ aV hy cE cH cU;go_wp2_with fail
     rw[<-b3.out];refine(bN.out).mono ?_;rintro e w5 ⟨rfl,b5⟩;have cY:=hid (b2 bF.out b5);have K5:=cv.later b5;have a6:=bO w5 (.cells #[yt,yk,y0,y1,y2] 116);have K6:=cM w5 116 #[yt,yk,y0,y1,y2];have cp:=K5.later a6;obtain⟨w6,bt⟩:=ex_ (w5.alloc (.cells #[yt,yk,y0,y1,y2] 116));have aO:=hid (b2 cY.out a6);rw[<-bt]at K6 cp aO;clear c0 c1 c2 c3 c4 c5 c6 c7 c8 c9 d0 d1 d2 d3 d4 d5 d6 d7 d8 d9 m1 bF bc bN cv b3 K5 a6 b5;obtain⟨d0,d1,d2,d3,d4,d5,d6,d7,d8,d9⟩:=cp.C10;obtain⟨-,-,e2,e3,e4⟩:=K6.C5;rw[bt]at d0 d1 d2 d3 d4 d5 d6 d7 d8 d9 e2 e3 e4;obtain⟨z,hz⟩:∃z,decide ((y0,y1,y2)=(o0,o1,o2))=z:=⟨_,rfl⟩;have hq:=fun W=>aFr W (y0,y1,y2) (o0,o1,o2);rw[hz]at hq aZ;dsimp only at hq;have dZ:=aLp;have aM:=hid aZ;have bP:=hid (bt▸aO.out:dV w0 w0 (w5.alloc (.cells #[yt,yk,y0,y1,y2] 116)));clear aZ hz cp K6 bt aO cY;replace aO:=bP;clear bP;cases yb
     case false=>
      cases ao
      case true=>
       go_wp2_with fail
       go_ret;exact .inl ⟨ct.out (by rw[aM.out];rfl),rfl,b2 HA.out aO.out⟩
      case false=>
       cases an
       case true=>
        go_wp2_with fail
        refine⟨⟨k+1,by have:=(bX.1 HX.out).1;omega,by go_num,?_,hid (aEj HX.out HH.out (by rw[aM.out];rfl)),aO⟩,by have:=(bX.1 HX.out).1;simp[intOf];omega⟩;obtain⟨g1,g2,g3,g4⟩:=HD.out;rw[g3,g1]
        (simp[dif]) <;> omega
       case false=>
        go_wp2_with fail
        refine⟨⟨k+1,by have:=(bX.1 HX.out).1;omega,by go_num,?_,hid (aEj HX.out HH.out (by rw[aM.out];rfl)),aO⟩,by have:=(bX.1 HX.out).1;simp[intOf];omega⟩;obtain⟨g1,g2,g3,g4⟩:=HD.out;rw[g3,g1]
        (simp[dif]) <;> omega
     case true=>
      cases ao
      case false=>
       go_wp2_with fail
       go_ret;exact .inl ⟨ct.out (by rw[aM.out];rfl),rfl,b2 HA.out aO.out⟩
      case true=>
       cases z
       case false=>
        go_wp2_with fail
        go_ret;exact .inl ⟨ct.out (by rw[aM.out];rfl),rfl,b2 HA.out aO.out⟩
       case true=>
        cases an
        case true=>
         go_wp2_with fail
         refine⟨⟨k+1,by have:=(bX.1 HX.out).1;omega,by go_num,?_,hid (aEj HX.out HH.out (by rw[aM.out];rfl)),aO⟩,by have:=(bX.1 HX.out).1;simp[intOf];omega⟩;obtain⟨g1,g2,g3,g4⟩:=HD.out;rw[g3,g1]
         (simp[dif]) <;> omega
        case false=>
         go_wp2_with fail
         refine⟨⟨k+1,by have:=(bX.1 HX.out).1;omega,by go_num,?_,hid (aEj HX.out HH.out (by rw[aM.out];rfl)),aO⟩,by have:=(bX.1 HX.out).1;simp[intOf];omega⟩;obtain⟨g1,g2,g3,g4⟩:=HD.out;rw[g3,g1]
         (simp[dif]) <;> omega
    case neg=>
     have t1:decide (k<l.length)=false:=by simpa using h1
     have bg:l.take k=l:=dE (by omega);rw[bg]at HH⊢;obtain⟨D,hD⟩:=ex_ ((s.rows.length:Int)+aKg l);rw[<-hD];have HD:=hid hD;have m1:=(HK.later HB.out).c1;clear h1 bg hD;by_cases bD:D<=2000
     case neg=>
      have t2:decide (2000<D)=true:=by simp;omega
      have dA:=hid bD;clear bD;go_wp2_with fail
      go_ret;exact .inl ⟨by rw[aR.out,HH.out,<-HD.out];simpa using dA.out,rfl,b2 HA.out HB.out⟩
     case pos=>
      have t2:decide (2000<D)=false:=by simp;omega
      have hf:aFg s ⟨p,l⟩=true:=by rw[aR.out,HH.out,<-HD.out];simpa using bD
      have bf:=cV.out hf;obtain⟨dx,dz,cT,cu,cS,cW⟩:=aIl bf hf (cs.later HB.out) (HK.later HB.out) (cq.below HB.out) HB.out;obtain⟨wz,cF⟩:=ex_ wr;rw[<-cF]at m1 cT cu cS cW⊢;clear hf bf cV aR cs cq HK m bL HB cF bD HD HH;clear wr;go_wp2_with fail
      clear m1;go_loopw [11] (fun iv wr=>∃k2:Nat,k2<=l.length/\iv= .int .i64 k2/\Hid (RSt wr b ⟨(l.take k2).foldl aBs s.rows,s.pos⟩/\Only (fun j=>j=b) wz wr)) (fun iv _=>l.length-(intOf iv).toNat)
      case atStart=>exact⟨0,by omega,rfl,hid ⟨cT.out,Only.refl _ _⟩⟩
      case round=>
       obtain⟨k2,dX,rfl,HR⟩:=hrel;by_cases h2:k2<l.length
       case pos=>
        obtain⟨⟨H,M,ao,⟨o0,o1,o2⟩,an,⟨Q,P,O⟩⟩,hx⟩:∃x,l[k2]? =some x:=⟨_,cD h2⟩;obtain⟨bw,cI,cJ⟩:=dx.out k2 _ hx;have bh:=bw.app_place cJ;have bU:=aIb hx s.rows;obtain⟨L,hL⟩:=ex_ ((l.take k2).foldl aBs s.rows);rw[<-hL]at bw cI bh bU HR;dsimp only at bh;obtain⟨A',c',hv,hc,hj⟩:=cS.out;injection hv with e1 e2 e3
        subst e1 e3;obtain⟨g,o,rfl,hg,hj⟩:=hj (by omega);have dg:g≠b:=dB.out _ rfl;have bz:w.heap.size≠b:=fun e=>by have:=cX.out;omega
        have aK:∀(i:Nat) u,(chgCells ⟨H,M,ao,(o0,o1,o2),an,(Q,P,O)⟩)[i]? =some u->wr.cell? (g,o+k2*10+i)=some u:=fun i u hu=>(HR.2.at_ hg dg).trans (hj k2 _ hx i u hu);obtain⟨c0,c1,c2,c3,c4,c5,c6,c7,c8,c9⟩:=aQn aK;have q0:(0:Int)<=(k2:Int):=by omega
        have q1:(k2:Int)<(l.length:Int):=by omega
        have m1:=(cu.only HR.2 bz).c1;have t1:decide (k2<l.length)=true:=by simpa using h2
        have a4:=bO wr (.cells (chgCells ⟨H,M,ao,(o0,o1,o2),an,(Q,P,O)⟩).toArray 48);have K4:=cM wr 48 (chgCells ⟨H,M,ao,(o0,o1,o2),an,(Q,P,O)⟩).toArray;unfold chgCells at a4 K4;obtain⟨Y,aV⟩:=ex_ (wr.alloc (.cells #[H,M,ao,o0,o1,o2,an,Q,P,O] 48));rw[<-aV]at a4 K4;have bW:=HR.1.later a4;have bx:=aQ1 b ⟨L,s.pos⟩ H M Y bW bw (show L.length<=3000 by omega);dsimp only at bx;obtain⟨J,hJ⟩:=ex_ (aI8 L H M);rw[<-hJ]at bx bh;obtain⟨vL,cn,b4⟩:=bW.own;dsimp only at b4;obtain⟨LA,Lc,rfl,dj,-,-⟩:=aAa b4;obtain⟨N,hN⟩:=ex_ L.length;have e7:J<=N:=by rw[hN,hJ];exact aMt _ _ _
        obtain⟨d0,d1,d2,d3,d4,d5,d6,d7,d8,d9⟩:=K4.C10;have s0:Y.cell? (b,0)=some (.slice LA N Lc):=by rw[hN];exact cn.cell 0
        rw[aV]at d0 d1 d2 d3 d4 d5 d6 d7 d8 d9;obtain⟨am,aP,dy,cv,m,aA,ap,b3,HX,HN⟩:=aYm bh bU bx K4 cn b4 a4 aV hx hN;rw[<-hN]at dj cI;clear bh bU bx K4 cn b4 a4 aV hx bW bw cJ aK hj hJ hL hN h2;go_wp2_with fail
        rw[<-b3.out];refine(dy.out).mono ?_;rintro e Y ⟨rfl,rfl⟩;clear c0 c1 c2 c3 c4 c5 c6 c7 c8 c9 m1;have z0:(0:Int)<=(J:Int):=by omega
        rw[b3.out]at s0;rw[<-b3.out]at d0 d1 d2 d3 d4 d5 d6 d7 d8 d9;rw[<-b3.out]at s0;obtain⟨i0,a5,a3,a2,a1⟩:=aJa;have bB:=fun W=>aNs ⟨H,M,ao,(o0,o1,o2),an,(Q,P,O)⟩ W;unfold aD8 aGb aNa at bB;dsimp only at bB;have bp:=hid bB;clear bB;have cr:=hid am.2;rcases aA.2 with⟨hnil,hn0⟩|⟨gl,cap,cur,hv3,hgl,-,-⟩
        . injection hnil with ea eb ec
          subst ea ec;obtain rfl:N=0:=by rw[HN.out];exact hn0
          obtain rfl:J=0:=by omega
          cases ao
          case true=>exact absurd cr.out (by rw[hn0];simp[aC5])
          case false=>
           go_wp2_with fail
           refine(bp.out Y).mono ?_;rintro e w5 ⟨rfl,b5⟩;cases an
           case true=>
            have a6:=bO w5 (.cells #[H,M,Q,P,O] 116);have K6:=cM w5 116 #[H,M,Q,P,O];have b6:=b5.trans (a6.mono b5.size);have a7:=bO (w5.alloc (.cells #[H,M,Q,P,O] 116)) (.cells #[H,M,Q,P,O] 116);have K7:BlkIs ((w5.alloc (.cells #[H,M,Q,P,O] 116)).alloc (.cells #[H,M,Q,P,O] 116)) (w5.heap.size+1) 116 [H,M,Q,P,O]:=aAn _ _ _ (by rw[dC]);have b7:=b6.trans (a7.mono b6.size);obtain⟨e0,e1,e2,e3,e4⟩:=K6.C5;have s0:((w5.alloc (.cells #[H,M,Q,P,O] 116)).alloc (.cells #[H,M,Q,P,O] 116)).cell? (b,0)=some (.slice none 0 0):=by have h:=(m.later b7).cell 0;rw[<-HN.out]at h;exact h
            have a9:L=[]:=aC (by rw[<-HN.out]);obtain⟨al,V,aX⟩:=aAw a9 b7 K7;have ab:=b7.size;have ac:0<=L.length:=by rw[<-HN.out];omega
            have au:=hid ac;clear a9 b7 b6 a6 K6 b5 a7 K7 ac
            go_wp2_with (at_builtin;first
             | (refine aAf rfl (.tmp 119) (.tmp 125) 33 rfl Y.heap.size 116 i0 _ 5 40 underlying33 a5 a3 a2 a1 rfl (by decide) (.slice none 0 0) 0 [] rfl (b0 _ _ _ _) none 0 0 ((L.take 0).flatMap rwC) rfl (fun _=>⟨rfl,rfl⟩) (by rw[aAs,aF,cC au.out]) (fun ad e=>by cases e) (aBh _) (by unfold maxLen;omega) (by omega) ab ?_;intro v8 w8 r f)
             | (refine aAf rfl (.tmp 126) (.tmp 127) 33 rfl Y.heap.size 116 i0 _ 5 40 underlying33 a5 a3 a2 a1 rfl (by decide) v8 _ _ rfl r (some ⟨w5.heap.size+1,0,none⟩) 1 1 [H,M,Q,P,O] rfl (fun e=>by cases e) rfl (fun ad e j u hu=>by injection e with e;subst e;rw[aBm];exact f.cell ((aX.cell j).trans hu) (by simp[a0])) (by have:=aBh [⟨H,M,Q,P,O⟩];simpa[rwC]using this) (by unfold maxLen;omega) (by omega) (by have:=f.size;omega) ?_;intro v9 w9 F t)
             | (refine aAf rfl (.tmp 128) (.tmp 129) 33 rfl Y.heap.size 116 i0 _ 5 40 underlying33 a5 a3 a2 a1 rfl (by decide) v9 _ _ rfl F none 0 0 (((L.drop 0).drop 0).flatMap rwC) rfl (fun _=>⟨rfl,rfl⟩) (by rw[aAs,aB,aB,<-HN.out]) (fun ad e=>by cases e) (aBh _) (by unfold maxLen;omega) (by omega) (by have:=t.size;have:=f.size;omega) ?_;intro aU C d R;obtain⟨ae,G⟩:=ex_ (0+0+1+0);rw[<-G]at d;have ag:=hid G;clear G;obtain⟨av,ar,rfl,-⟩:=aAa d;have n:BlkIs C b 120 [.slice none L.length 0,s.pos]:=(R.block b (by have:=t.size;have:=f.size;have:=m.lt;omega) (fun e=>by have:=aAj F e.symm;have:=m.lt;omega)).trans ((t.block b (by have:=f.size;have:=m.lt;omega) (fun e=>by have:=aAj r e.symm;have:=m.lt;omega)).trans ((f.block b (by have:=m.lt;omega) (by simp[a0])).trans (m.later V.out)));have f0:C.cell? (b,0)=some (.slice none L.length 0):=n.cell 0;have aW:=n.frozen 0;have U:=hid n;clear n)
             | fail)
            have T:(aBs L ⟨H,M,false,(o0,o1,o2),true,(Q,P,O)⟩).flatMap rwC=[]++(L.take 0).flatMap rwC++[.int .i64 H,.int .i64 M,.int .i64 Q,.int .i64 P,.int .i64 O]++((L.drop 0).drop 0).flatMap rwC:=by
             rw[am.1,bA,bA];simp[aKt,aB1,rwC,aC5]
            have a8:(aBs L ⟨H,M,false,(o0,o1,o2),true,(Q,P,O)⟩).length=ae:=by
             rw[ag.out,am.1,aL,aL,aF,aB,aB,<-HN.out];simp[aKt,aC5];all_goals omega
            have aa:dV Y Y C:=((V.grown f V.size (by simp[a0])).grown t (by have:=f.size;omega) (fun k e=>aAj r e)).grown R (by have:=t.size;have:=f.size;omega) (fun k e=>aAj F e);have aq:dV wr wr C:=ap.trans (aa.mono ap.size);have ak:=(HR.2.trans (cO (S:=fun j=>j=b) aq)).trans (cP (S:=fun j=>j=b) C ⟨b,0,none⟩ (.slice av ae ar) rfl);refine⟨⟨k2+1,by omega,by go_num,hid ⟨⟨_,U.set 0 _,?_⟩,ak⟩⟩,by simp[intOf];omega⟩;dsimp only;rw[aP.out,a8,T];exact aAg (aAh d (by have:=m.lt;omega)) _ _ (fun j e=>by have:=aAj d e;have:=m.lt;show j≠b;omega)
           case false=>
            have a6:=bO w5 (.cells #[(),(),(),(),()] 116);have K6:=cM w5 116 #[(),(),(),(),()];have b6:=b5.trans (a6.mono b5.size);have b7:=b6;have s0:(w5.alloc (.cells #[(),(),(),(),()] 116)).cell? (b,0)=some (.slice none 0 0):=by have h:=(m.later b7).cell 0;rw[<-HN.out]at h;exact h
            have a9:L=[]:=aC (by rw[<-HN.out]);have al:=hid a9;have V:=hid b7;have ab:=b7.size;have ac:0<=L.length:=by rw[<-HN.out];omega
            have au:=hid ac;clear a9 b7 b6 a6 K6 b5 ac
            go_wp2_with (at_builtin;first
             | (refine aAf rfl (.tmp 119) (.tmp 125) 33 rfl Y.heap.size 116 i0 _ 5 40 underlying33 a5 a3 a2 a1 rfl (by decide) (.slice none 0 0) 0 [] rfl (b0 _ _ _ _) none 0 0 ((L.take 0).flatMap rwC) rfl (fun _=>⟨rfl,rfl⟩) (by rw[aAs,aF,cC au.out]) (fun ad e=>by cases e) (aBh _) (by unfold maxLen;omega) (by omega) ab ?_;intro v8 w8 r f)
             | (refine aAf rfl (.tmp 126) (.tmp 127) 33 rfl Y.heap.size 116 i0 _ 5 40 underlying33 a5 a3 a2 a1 rfl (by decide) v8 _ _ rfl r none 0 0 [] rfl (fun _=>⟨rfl,rfl⟩) rfl (fun ad e=>by cases e) (by simp) (by unfold maxLen;omega) (by omega) (by have:=f.size;omega) ?_;intro v9 w9 F t)
             | (refine aAf rfl (.tmp 128) (.tmp 129) 33 rfl Y.heap.size 116 i0 _ 5 40 underlying33 a5 a3 a2 a1 rfl (by decide) v9 _ _ rfl F none 0 0 (((L.drop 0).drop 0).flatMap rwC) rfl (fun _=>⟨rfl,rfl⟩) (by rw[aAs,aB,aB,<-HN.out]) (fun ad e=>by cases e) (aBh _) (by unfold maxLen;omega) (by omega) (by have:=t.size;have:=f.size;omega) ?_;intro aU C d R;obtain⟨ae,G⟩:=ex_ (0+0+0+0);rw[<-G]at d;have ag:=hid G;clear G;obtain⟨av,ar,rfl,-⟩:=aAa d;have n:BlkIs C b 120 [.slice none L.length 0,s.pos]:=(R.block b (by have:=t.size;have:=f.size;have:=m.lt;omega) (fun e=>by have:=aAj F e.symm;have:=m.lt;omega)).trans ((t.block b (by have:=f.size;have:=m.lt;omega) (fun e=>by have:=aAj r e.symm;have:=m.lt;omega)).trans ((f.block b (by have:=m.lt;omega) (by simp[a0])).trans (m.later V.out)));have f0:C.cell? (b,0)=some (.slice none L.length 0):=n.cell 0;have aW:=n.frozen 0;have U:=hid n;clear n)
             | fail)
            have T:(aBs L ⟨H,M,false,(o0,o1,o2),false,(Q,P,O)⟩).flatMap rwC=[]++(L.take 0).flatMap rwC++[]++((L.drop 0).drop 0).flatMap rwC:=by
             rw[am.1,bA,bA];simp[aKt,aC5]
            have a8:(aBs L ⟨H,M,false,(o0,o1,o2),false,(Q,P,O)⟩).length=ae:=by
             rw[ag.out,am.1,aL,aL,aF,aB,aB,<-HN.out];simp[aKt,aC5];all_goals omega
            have aa:dV Y Y C:=((V.grown f V.size (by simp[a0])).grown t (by have:=f.size;omega) (fun k e=>aAj r e)).grown R (by have:=t.size;have:=f.size;omega) (fun k e=>aAj F e);have aq:dV wr wr C:=ap.trans (aa.mono ap.size);have ak:=(HR.2.trans (cO (S:=fun j=>j=b) aq)).trans (cP (S:=fun j=>j=b) C ⟨b,0,none⟩ (.slice av ae ar) rfl);refine⟨⟨k2+1,by omega,by go_num,hid ⟨⟨_,U.set 0 _,?_⟩,ak⟩⟩,by simp[intOf];omega⟩;dsimp only;rw[aP.out,a8,T];exact aAg (aAh d (by have:=m.lt;omega)) _ _ (fun j e=>by have:=aAj d e;have:=m.lt;show j≠b;omega)
        . injection hv3 with ea eb ec
          subst ea ec;clear eb;by_cases di:Lc=J
          . obtain rfl:N=J:=by omega
            subst di;cases ao
            case true=>exact absurd cr.out (by rw[<-HN.out];simp[aC5])
            case false=>
             go_wp2_with fail
             refine(bp.out Y).mono ?_;rintro e w5 ⟨rfl,b5⟩;cases an
             case true=>
              have a6:=bO w5 (.cells #[H,M,Q,P,O] 116);have K6:=cM w5 116 #[H,M,Q,P,O];have b6:=b5.trans (a6.mono b5.size);have a7:=bO (w5.alloc (.cells #[H,M,Q,P,O] 116)) (.cells #[H,M,Q,P,O] 116);have K7:BlkIs ((w5.alloc (.cells #[H,M,Q,P,O] 116)).alloc (.cells #[H,M,Q,P,O] 116)) (w5.heap.size+1) 116 [H,M,Q,P,O]:=aAn _ _ _ (by rw[dC]);have b7:=b6.trans (a7.mono b6.size);obtain⟨e0,e1,e2,e3,e4⟩:=K6.C5;have s0:((w5.alloc (.cells #[H,M,Q,P,O] 116)).alloc (.cells #[H,M,Q,P,O] 116)).cell? (b,0)=some (.slice (some (gl,0)) Lc Lc):=by have h:=(m.later b7).cell 0;rw[<-HN.out]at h;exact h
              have X:=aAb b7 aA.out;have aJ:gl<Y.heap.size:=(aA.lt gl rfl).2
              have a9:∀(j:Nat) u,(L.flatMap rwC)[j]? =some u->((w5.alloc (.cells #[H,M,Q,P,O] 116)).alloc (.cells #[H,M,Q,P,O] 116)).cell? (gl,j)=some u:=by
               obtain⟨A9,c9,e9,-,-,aD⟩:=aAa X;intro j u hu;obtain⟨g9,eg,-,-,aE⟩:=aD (cN fun h0=>by rw[aC h0]at hu;simp at hu);injection e9 with e91 _ _
               rw[eg]at e91;injection e91 with e91
               injection e91 with e92 _ _
               subst e92;exact aE j u hu
              obtain⟨al,V,aX⟩:=aAw a9 b7 K7;have ab:=b7.size;have ac:Lc<=L.length:=by rw[<-HN.out];omega
              have au:=hid ac;clear a9 b7 b6 a6 K6 b5 a7 K7 X ac
              go_wp2_with (at_builtin;first
               | (refine aAf rfl (.tmp 119) (.tmp 125) 33 rfl Y.heap.size 116 i0 _ 5 40 underlying33 a5 a3 a2 a1 rfl (by decide) (.slice none 0 0) 0 [] rfl (b0 _ _ _ _) (some ⟨gl,0,none⟩) Lc Lc ((L.take Lc).flatMap rwC) rfl (fun e=>by cases e) (by rw[aAs,aF,cC au.out]) (fun ad e=>by injection e with e;subst e;exact aCx al.out Lc) (aBh _) (by unfold maxLen;omega) (by omega) ab ?_;intro v8 w8 r f)
               | (refine aAf rfl (.tmp 126) (.tmp 127) 33 rfl Y.heap.size 116 i0 _ 5 40 underlying33 a5 a3 a2 a1 rfl (by decide) v8 _ _ rfl r (some ⟨w5.heap.size+1,0,none⟩) 1 1 [H,M,Q,P,O] rfl (fun e=>by cases e) rfl (fun ad e j u hu=>by injection e with e;subst e;rw[aBm];exact f.cell ((aX.cell j).trans hu) (by simp[a0])) (by have:=aBh [⟨H,M,Q,P,O⟩];simpa[rwC]using this) (by unfold maxLen;omega) (by omega) (by have:=f.size;omega) ?_;intro v9 w9 F t)
               | (refine aAf rfl (.tmp 128) (.tmp 129) 33 rfl Y.heap.size 116 i0 _ 5 40 underlying33 a5 a3 a2 a1 rfl (by decide) v9 _ _ rfl F (some ⟨gl,0,none⟩) 0 0 (((L.drop Lc).drop 0).flatMap rwC) rfl (fun e=>by cases e) (by rw[aAs,aB,aB,<-HN.out];omega) (fun ad e j u hu=>by have h0:(L.drop Lc).drop 0=[]:=aC (by rw[aB,aB,<-HN.out];omega);rw[h0]at hu;simp at hu) (aBh _) (by unfold maxLen;omega) (by omega) (by have:=t.size;have:=f.size;omega) ?_;intro aU C d R;obtain⟨ae,G⟩:=ex_ (0+Lc+1+0);rw[<-G]at d;have ag:=hid G;clear G;obtain⟨av,ar,rfl,-⟩:=aAa d;have n:BlkIs C b 120 [.slice (some (gl,0)) L.length Lc,s.pos]:=(R.block b (by have:=t.size;have:=f.size;have:=m.lt;omega) (fun e=>by have:=aAj F e.symm;have:=m.lt;omega)).trans ((t.block b (by have:=f.size;have:=m.lt;omega) (fun e=>by have:=aAj r e.symm;have:=m.lt;omega)).trans ((f.block b (by have:=m.lt;omega) (by simp[a0])).trans (m.later V.out)));have f0:C.cell? (b,0)=some (.slice (some (gl,0)) L.length Lc):=n.cell 0;have aW:=n.frozen 0;have U:=hid n;clear n)
               | fail)
              have T:(aBs L ⟨H,M,false,(o0,o1,o2),true,(Q,P,O)⟩).flatMap rwC=[]++(L.take Lc).flatMap rwC++[.int .i64 H,.int .i64 M,.int .i64 Q,.int .i64 P,.int .i64 O]++((L.drop Lc).drop 0).flatMap rwC:=by
               rw[am.1,bA,bA];simp[aKt,aB1,rwC,aC5]
              have a8:(aBs L ⟨H,M,false,(o0,o1,o2),true,(Q,P,O)⟩).length=ae:=by
               rw[ag.out,am.1,aL,aL,aF,aB,aB,<-HN.out];simp[aKt,aC5];all_goals omega
              have aa:dV Y Y C:=((V.grown f V.size (by simp[a0])).grown t (by have:=f.size;omega) (fun k e=>aAj r e)).grown R (by have:=t.size;have:=f.size;omega) (fun k e=>aAj F e);have aq:dV wr wr C:=ap.trans (aa.mono ap.size);have ak:=(HR.2.trans (cO (S:=fun j=>j=b) aq)).trans (cP (S:=fun j=>j=b) C ⟨b,0,none⟩ (.slice av ae ar) rfl);refine⟨⟨k2+1,by omega,by go_num,hid ⟨⟨_,U.set 0 _,?_⟩,ak⟩⟩,by simp[intOf];omega⟩;dsimp only;rw[aP.out,a8,T];exact aAg (aAh d (by have:=m.lt;omega)) _ _ (fun j e=>by have:=aAj d e;have:=m.lt;show j≠b;omega)
             case false=>
              have a6:=bO w5 (.cells #[(),(),(),(),()] 116);have K6:=cM w5 116 #[(),(),(),(),()];have b6:=b5.trans (a6.mono b5.size);have b7:=b6;have s0:(w5.alloc (.cells #[(),(),(),(),()] 116)).cell? (b,0)=some (.slice (some (gl,0)) Lc Lc):=by have h:=(m.later b7).cell 0;rw[<-HN.out]at h;exact h
              have X:=aAb b7 aA.out;have aJ:gl<Y.heap.size:=(aA.lt gl rfl).2
              have a9:∀(j:Nat) u,(L.flatMap rwC)[j]? =some u->(w5.alloc (.cells #[(),(),(),(),()] 116)).cell? (gl,j)=some u:=by
               obtain⟨A9,c9,e9,-,-,aD⟩:=aAa X;intro j u hu;obtain⟨g9,eg,-,-,aE⟩:=aD (cN fun h0=>by rw[aC h0]at hu;simp at hu);injection e9 with e91 _ _
               rw[eg]at e91;injection e91 with e91
               injection e91 with e92 _ _
               subst e92;exact aE j u hu
              have al:=hid a9;have V:=hid b7;have ab:=b7.size;have ac:Lc<=L.length:=by rw[<-HN.out];omega
              have au:=hid ac;clear a9 b7 b6 a6 K6 b5 X ac
              go_wp2_with (at_builtin;first
               | (refine aAf rfl (.tmp 119) (.tmp 125) 33 rfl Y.heap.size 116 i0 _ 5 40 underlying33 a5 a3 a2 a1 rfl (by decide) (.slice none 0 0) 0 [] rfl (b0 _ _ _ _) (some ⟨gl,0,none⟩) Lc Lc ((L.take Lc).flatMap rwC) rfl (fun e=>by cases e) (by rw[aAs,aF,cC au.out]) (fun ad e=>by injection e with e;subst e;exact aCx al.out Lc) (aBh _) (by unfold maxLen;omega) (by omega) ab ?_;intro v8 w8 r f)
               | (refine aAf rfl (.tmp 126) (.tmp 127) 33 rfl Y.heap.size 116 i0 _ 5 40 underlying33 a5 a3 a2 a1 rfl (by decide) v8 _ _ rfl r none 0 0 [] rfl (fun _=>⟨rfl,rfl⟩) rfl (fun ad e=>by cases e) (by simp) (by unfold maxLen;omega) (by omega) (by have:=f.size;omega) ?_;intro v9 w9 F t)
               | (refine aAf rfl (.tmp 128) (.tmp 129) 33 rfl Y.heap.size 116 i0 _ 5 40 underlying33 a5 a3 a2 a1 rfl (by decide) v9 _ _ rfl F (some ⟨gl,0,none⟩) 0 0 (((L.drop Lc).drop 0).flatMap rwC) rfl (fun e=>by cases e) (by rw[aAs,aB,aB,<-HN.out];omega) (fun ad e j u hu=>by have h0:(L.drop Lc).drop 0=[]:=aC (by rw[aB,aB,<-HN.out];omega);rw[h0]at hu;simp at hu) (aBh _) (by unfold maxLen;omega) (by omega) (by have:=t.size;have:=f.size;omega) ?_;intro aU C d R;obtain⟨ae,G⟩:=ex_ (0+Lc+0+0);rw[<-G]at d;have ag:=hid G;clear G;obtain⟨av,ar,rfl,-⟩:=aAa d;have n:BlkIs C b 120 [.slice (some (gl,0)) L.length Lc,s.pos]:=(R.block b (by have:=t.size;have:=f.size;have:=m.lt;omega) (fun e=>by have:=aAj F e.symm;have:=m.lt;omega)).trans ((t.block b (by have:=f.size;have:=m.lt;omega) (fun e=>by have:=aAj r e.symm;have:=m.lt;omega)).trans ((f.block b (by have:=m.lt;omega) (by simp[a0])).trans (m.later V.out)));have f0:C.cell? (b,0)=some (.slice (some (gl,0)) L.length Lc):=n.cell 0;have aW:=n.frozen 0;have U:=hid n;clear n)
               | fail)
              have T:(aBs L ⟨H,M,false,(o0,o1,o2),false,(Q,P,O)⟩).flatMap rwC=[]++(L.take Lc).flatMap rwC++[]++((L.drop Lc).drop 0).flatMap rwC:=by
               rw[am.1,bA,bA];simp[aKt,aC5]
              have a8:(aBs L ⟨H,M,false,(o0,o1,o2),false,(Q,P,O)⟩).length=ae:=by
               rw[ag.out,am.1,aL,aL,aF,aB,aB,<-HN.out];simp[aKt,aC5];all_goals omega
              have aa:dV Y Y C:=((V.grown f V.size (by simp[a0])).grown t (by have:=f.size;omega) (fun k e=>aAj r e)).grown R (by have:=t.size;have:=f.size;omega) (fun k e=>aAj F e);have aq:dV wr wr C:=ap.trans (aa.mono ap.size);have ak:=(HR.2.trans (cO (S:=fun j=>j=b) aq)).trans (cP (S:=fun j=>j=b) C ⟨b,0,none⟩ (.slice av ae ar) rfl);refine⟨⟨k2+1,by omega,by go_num,hid ⟨⟨_,U.set 0 _,?_⟩,ak⟩⟩,by simp[intOf];omega⟩;dsimp only;rw[aP.out,a8,T];exact aAg (aAh d (by have:=m.lt;omega)) _ _ (fun j e=>by have:=aAj d e;have:=m.lt;show j≠b;omega)
          . cases ao
            case false=>
             go_wp2_with fail
             refine(bp.out Y).mono ?_;rintro e w5 ⟨rfl,b5⟩;cases an
             case true=>
              have a6:=bO w5 (.cells #[H,M,Q,P,O] 116);have K6:=cM w5 116 #[H,M,Q,P,O];have b6:=b5.trans (a6.mono b5.size);have a7:=bO (w5.alloc (.cells #[H,M,Q,P,O] 116)) (.cells #[H,M,Q,P,O] 116);have K7:BlkIs ((w5.alloc (.cells #[H,M,Q,P,O] 116)).alloc (.cells #[H,M,Q,P,O] 116)) (w5.heap.size+1) 116 [H,M,Q,P,O]:=aAn _ _ _ (by rw[dC]);have b7:=b6.trans (a7.mono b6.size);obtain⟨e0,e1,e2,e3,e4⟩:=K6.C5;have s0:((w5.alloc (.cells #[H,M,Q,P,O] 116)).alloc (.cells #[H,M,Q,P,O] 116)).cell? (b,0)=some (.slice (some (gl,0)) N Lc):=by rw[HN.out];exact(m.later b7).cell 0
              have X:=aAb b7 aA.out;have aJ:gl<Y.heap.size:=(aA.lt gl rfl).2
              have a9:∀(j:Nat) u,(L.flatMap rwC)[j]? =some u->((w5.alloc (.cells #[H,M,Q,P,O] 116)).alloc (.cells #[H,M,Q,P,O] 116)).cell? (gl,j)=some u:=by
               obtain⟨A9,c9,e9,-,-,aD⟩:=aAa X;intro j u hu;obtain⟨g9,eg,-,-,aE⟩:=aD (cN fun h0=>by rw[aC h0]at hu;simp at hu);injection e9 with e91 _ _
               rw[eg]at e91;injection e91 with e91
               injection e91 with e92 _ _
               subst e92;exact aE j u hu
              obtain⟨al,V,aX⟩:=aAw a9 b7 K7;have ab:=b7.size;have ac:J<=L.length:=by rw[<-HN.out];omega
              have au:=hid ac;clear a9 b7 b6 a6 K6 b5 a7 K7 X ac
              go_wp2_with (at_builtin;first
               | (refine aAf rfl (.tmp 119) (.tmp 125) 33 rfl Y.heap.size 116 i0 _ 5 40 underlying33 a5 a3 a2 a1 rfl (by decide) (.slice none 0 0) 0 [] rfl (b0 _ _ _ _) (some ⟨gl,0,none⟩) J Lc ((L.take J).flatMap rwC) rfl (fun e=>by cases e) (by rw[aAs,aF,cC au.out]) (fun ad e=>by injection e with e;subst e;exact aCx al.out J) (aBh _) (by unfold maxLen;omega) (by omega) ab ?_;intro v8 w8 r f)
               | (refine aAf rfl (.tmp 126) (.tmp 127) 33 rfl Y.heap.size 116 i0 _ 5 40 underlying33 a5 a3 a2 a1 rfl (by decide) v8 _ _ rfl r (some ⟨w5.heap.size+1,0,none⟩) 1 1 [H,M,Q,P,O] rfl (fun e=>by cases e) rfl (fun ad e j u hu=>by injection e with e;subst e;rw[aBm];exact f.cell ((aX.cell j).trans hu) (by simp[a0])) (by have:=aBh [⟨H,M,Q,P,O⟩];simpa[rwC]using this) (by unfold maxLen;omega) (by omega) (by have:=f.size;omega) ?_;intro v9 w9 F t)
               | (refine aAf rfl (.tmp 128) (.tmp 129) 33 rfl Y.heap.size 116 i0 _ 5 40 underlying33 a5 a3 a2 a1 rfl (by decide) v9 _ _ rfl F (some ⟨gl,J*5,none⟩) (N-J) (Lc-J) (((L.drop J).drop 0).flatMap rwC) rfl (fun e=>by cases e) (by rw[aAs,aB,aB,<-HN.out];omega) (fun ad e=>by injection e with e;subst e;rw[dR];exact aF8 (aCi t (fun e=>by have:=aAj r e.symm;omega) (aCi f (by simp[a0]) al.out)) J) (aBh _) (by unfold maxLen;omega) (by omega) (by have:=t.size;have:=f.size;omega) ?_;intro aU C d R;obtain⟨ae,G⟩:=ex_ (0+J+1+(N-J));rw[<-G]at d;have ag:=hid G;clear G;obtain⟨av,ar,rfl,-⟩:=aAa d;have n:BlkIs C b 120 [.slice (some (gl,0)) L.length Lc,s.pos]:=(R.block b (by have:=t.size;have:=f.size;have:=m.lt;omega) (fun e=>by have:=aAj F e.symm;have:=m.lt;omega)).trans ((t.block b (by have:=f.size;have:=m.lt;omega) (fun e=>by have:=aAj r e.symm;have:=m.lt;omega)).trans ((f.block b (by have:=m.lt;omega) (by simp[a0])).trans (m.later V.out)));have f0:C.cell? (b,0)=some (.slice (some (gl,0)) L.length Lc):=n.cell 0;have aW:=n.frozen 0;have U:=hid n;clear n)
               | fail)
              have T:(aBs L ⟨H,M,false,(o0,o1,o2),true,(Q,P,O)⟩).flatMap rwC=[]++(L.take J).flatMap rwC++[.int .i64 H,.int .i64 M,.int .i64 Q,.int .i64 P,.int .i64 O]++((L.drop J).drop 0).flatMap rwC:=by
               rw[am.1,bA,bA];simp[aKt,aB1,rwC,aC5]
              have a8:(aBs L ⟨H,M,false,(o0,o1,o2),true,(Q,P,O)⟩).length=ae:=by
               rw[ag.out,am.1,aL,aL,aF,aB,aB,<-HN.out];simp[aKt,aC5];all_goals omega
              have aa:dV Y Y C:=((V.grown f V.size (by simp[a0])).grown t (by have:=f.size;omega) (fun k e=>aAj r e)).grown R (by have:=t.size;have:=f.size;omega) (fun k e=>aAj F e);have aq:dV wr wr C:=ap.trans (aa.mono ap.size);have ak:=(HR.2.trans (cO (S:=fun j=>j=b) aq)).trans (cP (S:=fun j=>j=b) C ⟨b,0,none⟩ (.slice av ae ar) rfl);refine⟨⟨k2+1,by omega,by go_num,hid ⟨⟨_,U.set 0 _,?_⟩,ak⟩⟩,by simp[intOf];omega⟩;dsimp only;rw[aP.out,a8,T];exact aAg (aAh d (by have:=m.lt;omega)) _ _ (fun j e=>by have:=aAj d e;have:=m.lt;show j≠b;omega)
             case false=>
              have a6:=bO w5 (.cells #[(),(),(),(),()] 116);have K6:=cM w5 116 #[(),(),(),(),()];have b6:=b5.trans (a6.mono b5.size);have b7:=b6;have s0:(w5.alloc (.cells #[(),(),(),(),()] 116)).cell? (b,0)=some (.slice (some (gl,0)) N Lc):=by rw[HN.out];exact(m.later b7).cell 0
              have X:=aAb b7 aA.out;have aJ:gl<Y.heap.size:=(aA.lt gl rfl).2
              have a9:∀(j:Nat) u,(L.flatMap rwC)[j]? =some u->(w5.alloc (.cells #[(),(),(),(),()] 116)).cell? (gl,j)=some u:=by
               obtain⟨A9,c9,e9,-,-,aD⟩:=aAa X;intro j u hu;obtain⟨g9,eg,-,-,aE⟩:=aD (cN fun h0=>by rw[aC h0]at hu;simp at hu);injection e9 with e91 _ _
               rw[eg]at e91;injection e91 with e91
               injection e91 with e92 _ _
               subst e92;exact aE j u hu
              have al:=hid a9;have V:=hid b7;have ab:=b7.size;have ac:J<=L.length:=by rw[<-HN.out];omega
              have au:=hid ac;clear a9 b7 b6 a6 K6 b5 X ac
              go_wp2_with (at_builtin;first
               | (refine aAf rfl (.tmp 119) (.tmp 125) 33 rfl Y.heap.size 116 i0 _ 5 40 underlying33 a5 a3 a2 a1 rfl (by decide) (.slice none 0 0) 0 [] rfl (b0 _ _ _ _) (some ⟨gl,0,none⟩) J Lc ((L.take J).flatMap rwC) rfl (fun e=>by cases e) (by rw[aAs,aF,cC au.out]) (fun ad e=>by injection e with e;subst e;exact aCx al.out J) (aBh _) (by unfold maxLen;omega) (by omega) ab ?_;intro v8 w8 r f)
               | (refine aAf rfl (.tmp 126) (.tmp 127) 33 rfl Y.heap.size 116 i0 _ 5 40 underlying33 a5 a3 a2 a1 rfl (by decide) v8 _ _ rfl r none 0 0 [] rfl (fun _=>⟨rfl,rfl⟩) rfl (fun ad e=>by cases e) (by simp) (by unfold maxLen;omega) (by omega) (by have:=f.size;omega) ?_;intro v9 w9 F t)
               | (refine aAf rfl (.tmp 128) (.tmp 129) 33 rfl Y.heap.size 116 i0 _ 5 40 underlying33 a5 a3 a2 a1 rfl (by decide) v9 _ _ rfl F (some ⟨gl,J*5,none⟩) (N-J) (Lc-J) (((L.drop J).drop 0).flatMap rwC) rfl (fun e=>by cases e) (by rw[aAs,aB,aB,<-HN.out];omega) (fun ad e=>by injection e with e;subst e;rw[dR];exact aF8 (aCi t (fun e=>by have:=aAj r e.symm;omega) (aCi f (by simp[a0]) al.out)) J) (aBh _) (by unfold maxLen;omega) (by omega) (by have:=t.size;have:=f.size;omega) ?_;intro aU C d R;obtain⟨ae,G⟩:=ex_ (0+J+0+(N-J));rw[<-G]at d;have ag:=hid G;clear G;obtain⟨av,ar,rfl,-⟩:=aAa d;have n:BlkIs C b 120 [.slice (some (gl,0)) L.length Lc,s.pos]:=(R.block b (by have:=t.size;have:=f.size;have:=m.lt;omega) (fun e=>by have:=aAj F e.symm;have:=m.lt;omega)).trans ((t.block b (by have:=f.size;have:=m.lt;omega) (fun e=>by have:=aAj r e.symm;have:=m.lt;omega)).trans ((f.block b (by have:=m.lt;omega) (by simp[a0])).trans (m.later V.out)));have f0:C.cell? (b,0)=some (.slice (some (gl,0)) L.length Lc):=n.cell 0;have aW:=n.frozen 0;have U:=hid n;clear n)
               | fail)
              have T:(aBs L ⟨H,M,false,(o0,o1,o2),false,(Q,P,O)⟩).flatMap rwC=[]++(L.take J).flatMap rwC++[]++((L.drop J).drop 0).flatMap rwC:=by
               rw[am.1,bA,bA];simp[aKt,aC5]
              have a8:(aBs L ⟨H,M,false,(o0,o1,o2),false,(Q,P,O)⟩).length=ae:=by
               rw[ag.out,am.1,aL,aL,aF,aB,aB,<-HN.out];simp[aKt,aC5];all_goals omega
              have aa:dV Y Y C:=((V.grown f V.size (by simp[a0])).grown t (by have:=f.size;omega) (fun k e=>aAj r e)).grown R (by have:=t.size;have:=f.size;omega) (fun k e=>aAj F e);have aq:dV wr wr C:=ap.trans (aa.mono ap.size);have ak:=(HR.2.trans (cO (S:=fun j=>j=b) aq)).trans (cP (S:=fun j=>j=b) C ⟨b,0,none⟩ (.slice av ae ar) rfl);refine⟨⟨k2+1,by omega,by go_num,hid ⟨⟨_,U.set 0 _,?_⟩,ak⟩⟩,by simp[intOf];omega⟩;dsimp only;rw[aP.out,a8,T];exact aAg (aAh d (by have:=m.lt;omega)) _ _ (fun j e=>by have:=aAj d e;have:=m.lt;show j≠b;omega)
            case true=>
             have e8:J+1<=N:=by have:=cr.out;rw[<-HN.out]at this;simpa[aC5]using this
             by_cases e5:Lc-J=1
             . go_wp2_with fail
               refine(bp.out Y).mono ?_;rintro e w5 ⟨rfl,b5⟩;cases an
               case true=>
                have a6:=bO w5 (.cells #[H,M,Q,P,O] 116);have K6:=cM w5 116 #[H,M,Q,P,O];have b6:=b5.trans (a6.mono b5.size);have a7:=bO (w5.alloc (.cells #[H,M,Q,P,O] 116)) (.cells #[H,M,Q,P,O] 116);have K7:BlkIs ((w5.alloc (.cells #[H,M,Q,P,O] 116)).alloc (.cells #[H,M,Q,P,O] 116)) (w5.heap.size+1) 116 [H,M,Q,P,O]:=aAn _ _ _ (by rw[dC]);have b7:=b6.trans (a7.mono b6.size);obtain⟨e0,e1,e2,e3,e4⟩:=K6.C5;have s0:((w5.alloc (.cells #[H,M,Q,P,O] 116)).alloc (.cells #[H,M,Q,P,O] 116)).cell? (b,0)=some (.slice (some (gl,0)) N Lc):=by rw[HN.out];exact(m.later b7).cell 0
                have X:=aAb b7 aA.out;have aJ:gl<Y.heap.size:=(aA.lt gl rfl).2
                have a9:∀(j:Nat) u,(L.flatMap rwC)[j]? =some u->((w5.alloc (.cells #[H,M,Q,P,O] 116)).alloc (.cells #[H,M,Q,P,O] 116)).cell? (gl,j)=some u:=by
                 obtain⟨A9,c9,e9,-,-,aD⟩:=aAa X;intro j u hu;obtain⟨g9,eg,-,-,aE⟩:=aD (cN fun h0=>by rw[aC h0]at hu;simp at hu);injection e9 with e91 _ _
                 rw[eg]at e91;injection e91 with e91
                 injection e91 with e92 _ _
                 subst e92;exact aE j u hu
                obtain⟨al,V,aX⟩:=aAw a9 b7 K7;have ab:=b7.size;have ac:J<=L.length:=by rw[<-HN.out];omega
                have au:=hid ac;clear a9 b7 b6 a6 K6 b5 a7 K7 X ac
                go_wp2_with (at_builtin;first
                 | (refine aAf rfl (.tmp 119) (.tmp 125) 33 rfl Y.heap.size 116 i0 _ 5 40 underlying33 a5 a3 a2 a1 rfl (by decide) (.slice none 0 0) 0 [] rfl (b0 _ _ _ _) (some ⟨gl,0,none⟩) J Lc ((L.take J).flatMap rwC) rfl (fun e=>by cases e) (by rw[aAs,aF,cC au.out]) (fun ad e=>by injection e with e;subst e;exact aCx al.out J) (aBh _) (by unfold maxLen;omega) (by omega) ab ?_;intro v8 w8 r f)
                 | (refine aAf rfl (.tmp 126) (.tmp 127) 33 rfl Y.heap.size 116 i0 _ 5 40 underlying33 a5 a3 a2 a1 rfl (by decide) v8 _ _ rfl r (some ⟨w5.heap.size+1,0,none⟩) 1 1 [H,M,Q,P,O] rfl (fun e=>by cases e) rfl (fun ad e j u hu=>by injection e with e;subst e;rw[aBm];exact f.cell ((aX.cell j).trans hu) (by simp[a0])) (by have:=aBh [⟨H,M,Q,P,O⟩];simpa[rwC]using this) (by unfold maxLen;omega) (by omega) (by have:=f.size;omega) ?_;intro v9 w9 F t)
                 | (refine aAf rfl (.tmp 128) (.tmp 129) 33 rfl Y.heap.size 116 i0 _ 5 40 underlying33 a5 a3 a2 a1 rfl (by decide) v9 _ _ rfl F (some ⟨gl,J*5,none⟩) (N-J-1) 0 (((L.drop J).drop 1).flatMap rwC) rfl (fun e=>by cases e) (by rw[aAs,aB,aB,<-HN.out]) (fun ad e j u hu=>by have h0:(L.drop J).drop 1=[]:=aC (by rw[aB,aB,<-HN.out];omega);rw[h0]at hu;simp at hu) (aBh _) (by unfold maxLen;omega) (by omega) (by have:=t.size;have:=f.size;omega) ?_;intro aU C d R;obtain⟨ae,G⟩:=ex_ (0+J+1+(N-J-1));rw[<-G]at d;have ag:=hid G;clear G;obtain⟨av,ar,rfl,-⟩:=aAa d;have n:BlkIs C b 120 [.slice (some (gl,0)) L.length Lc,s.pos]:=(R.block b (by have:=t.size;have:=f.size;have:=m.lt;omega) (fun e=>by have:=aAj F e.symm;have:=m.lt;omega)).trans ((t.block b (by have:=f.size;have:=m.lt;omega) (fun e=>by have:=aAj r e.symm;have:=m.lt;omega)).trans ((f.block b (by have:=m.lt;omega) (by simp[a0])).trans (m.later V.out)));have f0:C.cell? (b,0)=some (.slice (some (gl,0)) L.length Lc):=n.cell 0;have aW:=n.frozen 0;have U:=hid n;clear n)
                 | fail)
                have T:(aBs L ⟨H,M,true,(o0,o1,o2),true,(Q,P,O)⟩).flatMap rwC=[]++(L.take J).flatMap rwC++[.int .i64 H,.int .i64 M,.int .i64 Q,.int .i64 P,.int .i64 O]++((L.drop J).drop 1).flatMap rwC:=by
                 rw[am.1,bA,bA];simp[aKt,aB1,rwC,aC5]
                have a8:(aBs L ⟨H,M,true,(o0,o1,o2),true,(Q,P,O)⟩).length=ae:=by
                 rw[ag.out,am.1,aL,aL,aF,aB,aB,<-HN.out];simp[aKt,aC5];all_goals omega
                have aa:dV Y Y C:=((V.grown f V.size (by simp[a0])).grown t (by have:=f.size;omega) (fun k e=>aAj r e)).grown R (by have:=t.size;have:=f.size;omega) (fun k e=>aAj F e);have aq:dV wr wr C:=ap.trans (aa.mono ap.size);have ak:=(HR.2.trans (cO (S:=fun j=>j=b) aq)).trans (cP (S:=fun j=>j=b) C ⟨b,0,none⟩ (.slice av ae ar) rfl);refine⟨⟨k2+1,by omega,by go_num,hid ⟨⟨_,U.set 0 _,?_⟩,ak⟩⟩,by simp[intOf];omega⟩;dsimp only;rw[aP.out,a8,T];exact aAg (aAh d (by have:=m.lt;omega)) _ _ (fun j e=>by have:=aAj d e;have:=m.lt;show j≠b;omega)
               case false=>
                have a6:=bO w5 (.cells #[(),(),(),(),()] 116);have K6:=cM w5 116 #[(),(),(),(),()];have b6:=b5.trans (a6.mono b5.size);have b7:=b6;have s0:(w5.alloc (.cells #[(),(),(),(),()] 116)).cell? (b,0)=some (.slice (some (gl,0)) N Lc):=by rw[HN.out];exact(m.later b7).cell 0
                have X:=aAb b7 aA.out;have aJ:gl<Y.heap.size:=(aA.lt gl rfl).2
                have a9:∀(j:Nat) u,(L.flatMap rwC)[j]? =some u->(w5.alloc (.cells #[(),(),(),(),()] 116)).cell? (gl,j)=some u:=by
                 obtain⟨A9,c9,e9,-,-,aD⟩:=aAa X;intro j u hu;obtain⟨g9,eg,-,-,aE⟩:=aD (cN fun h0=>by rw[aC h0]at hu;simp at hu);injection e9 with e91 _ _
                 rw[eg]at e91;injection e91 with e91
                 injection e91 with e92 _ _
                 subst e92;exact aE j u hu
                have al:=hid a9;have V:=hid b7;have ab:=b7.size;have ac:J<=L.length:=by rw[<-HN.out];omega
                have au:=hid ac;clear a9 b7 b6 a6 K6 b5 X ac
                go_wp2_with (at_builtin;first
                 | (refine aAf rfl (.tmp 119) (.tmp 125) 33 rfl Y.heap.size 116 i0 _ 5 40 underlying33 a5 a3 a2 a1 rfl (by decide) (.slice none 0 0) 0 [] rfl (b0 _ _ _ _) (some ⟨gl,0,none⟩) J Lc ((L.take J).flatMap rwC) rfl (fun e=>by cases e) (by rw[aAs,aF,cC au.out]) (fun ad e=>by injection e with e;subst e;exact aCx al.out J) (aBh _) (by unfold maxLen;omega) (by omega) ab ?_;intro v8 w8 r f)
                 | (refine aAf rfl (.tmp 126) (.tmp 127) 33 rfl Y.heap.size 116 i0 _ 5 40 underlying33 a5 a3 a2 a1 rfl (by decide) v8 _ _ rfl r none 0 0 [] rfl (fun _=>⟨rfl,rfl⟩) rfl (fun ad e=>by cases e) (by simp) (by unfold maxLen;omega) (by omega) (by have:=f.size;omega) ?_;intro v9 w9 F t)
                 | (refine aAf rfl (.tmp 128) (.tmp 129) 33 rfl Y.heap.size 116 i0 _ 5 40 underlying33 a5 a3 a2 a1 rfl (by decide) v9 _ _ rfl F (some ⟨gl,J*5,none⟩) (N-J-1) 0 (((L.drop J).drop 1).flatMap rwC) rfl (fun e=>by cases e) (by rw[aAs,aB,aB,<-HN.out]) (fun ad e j u hu=>by have h0:(L.drop J).drop 1=[]:=aC (by rw[aB,aB,<-HN.out];omega);rw[h0]at hu;simp at hu) (aBh _) (by unfold maxLen;omega) (by omega) (by have:=t.size;have:=f.size;omega) ?_;intro aU C d R;obtain⟨ae,G⟩:=ex_ (0+J+0+(N-J-1));rw[<-G]at d;have ag:=hid G;clear G;obtain⟨av,ar,rfl,-⟩:=aAa d;have n:BlkIs C b 120 [.slice (some (gl,0)) L.length Lc,s.pos]:=(R.block b (by have:=t.size;have:=f.size;have:=m.lt;omega) (fun e=>by have:=aAj F e.symm;have:=m.lt;omega)).trans ((t.block b (by have:=f.size;have:=m.lt;omega) (fun e=>by have:=aAj r e.symm;have:=m.lt;omega)).trans ((f.block b (by have:=m.lt;omega) (by simp[a0])).trans (m.later V.out)));have f0:C.cell? (b,0)=some (.slice (some (gl,0)) L.length Lc):=n.cell 0;have aW:=n.frozen 0;have U:=hid n;clear n)
                 | fail)
                have T:(aBs L ⟨H,M,true,(o0,o1,o2),false,(Q,P,O)⟩).flatMap rwC=[]++(L.take J).flatMap rwC++[]++((L.drop J).drop 1).flatMap rwC:=by
                 rw[am.1,bA,bA];simp[aKt,aC5]
                have a8:(aBs L ⟨H,M,true,(o0,o1,o2),false,(Q,P,O)⟩).length=ae:=by
                 rw[ag.out,am.1,aL,aL,aF,aB,aB,<-HN.out];simp[aKt,aC5];all_goals omega
                have aa:dV Y Y C:=((V.grown f V.size (by simp[a0])).grown t (by have:=f.size;omega) (fun k e=>aAj r e)).grown R (by have:=t.size;have:=f.size;omega) (fun k e=>aAj F e);have aq:dV wr wr C:=ap.trans (aa.mono ap.size);have ak:=(HR.2.trans (cO (S:=fun j=>j=b) aq)).trans (cP (S:=fun j=>j=b) C ⟨b,0,none⟩ (.slice av ae ar) rfl);refine⟨⟨k2+1,by omega,by go_num,hid ⟨⟨_,U.set 0 _,?_⟩,ak⟩⟩,by simp[intOf];omega⟩;dsimp only;rw[aP.out,a8,T];exact aAg (aAh d (by have:=m.lt;omega)) _ _ (fun j e=>by have:=aAj d e;have:=m.lt;show j≠b;omega)
             . go_wp2_with fail
               refine(bp.out Y).mono ?_;rintro e w5 ⟨rfl,b5⟩;cases an
               case true=>
                have a6:=bO w5 (.cells #[H,M,Q,P,O] 116);have K6:=cM w5 116 #[H,M,Q,P,O];have b6:=b5.trans (a6.mono b5.size);have a7:=bO (w5.alloc (.cells #[H,M,Q,P,O] 116)) (.cells #[H,M,Q,P,O] 116);have K7:BlkIs ((w5.alloc (.cells #[H,M,Q,P,O] 116)).alloc (.cells #[H,M,Q,P,O] 116)) (w5.heap.size+1) 116 [H,M,Q,P,O]:=aAn _ _ _ (by rw[dC]);have b7:=b6.trans (a7.mono b6.size);obtain⟨e0,e1,e2,e3,e4⟩:=K6.C5;have s0:((w5.alloc (.cells #[H,M,Q,P,O] 116)).alloc (.cells #[H,M,Q,P,O] 116)).cell? (b,0)=some (.slice (some (gl,0)) N Lc):=by rw[HN.out];exact(m.later b7).cell 0
                have X:=aAb b7 aA.out;have aJ:gl<Y.heap.size:=(aA.lt gl rfl).2
                have a9:∀(j:Nat) u,(L.flatMap rwC)[j]? =some u->((w5.alloc (.cells #[H,M,Q,P,O] 116)).alloc (.cells #[H,M,Q,P,O] 116)).cell? (gl,j)=some u:=by
                 obtain⟨A9,c9,e9,-,-,aD⟩:=aAa X;intro j u hu;obtain⟨g9,eg,-,-,aE⟩:=aD (cN fun h0=>by rw[aC h0]at hu;simp at hu);injection e9 with e91 _ _
                 rw[eg]at e91;injection e91 with e91
                 injection e91 with e92 _ _
                 subst e92;exact aE j u hu
                obtain⟨al,V,aX⟩:=aAw a9 b7 K7;have ab:=b7.size;have ac:J<=L.length:=by rw[<-HN.out];omega
                have au:=hid ac;clear a9 b7 b6 a6 K6 b5 a7 K7 X ac
                go_wp2_with (at_builtin;first
                 | (refine aAf rfl (.tmp 119) (.tmp 125) 33 rfl Y.heap.size 116 i0 _ 5 40 underlying33 a5 a3 a2 a1 rfl (by decide) (.slice none 0 0) 0 [] rfl (b0 _ _ _ _) (some ⟨gl,0,none⟩) J Lc ((L.take J).flatMap rwC) rfl (fun e=>by cases e) (by rw[aAs,aF,cC au.out]) (fun ad e=>by injection e with e;subst e;exact aCx al.out J) (aBh _) (by unfold maxLen;omega) (by omega) ab ?_;intro v8 w8 r f)
                 | (refine aAf rfl (.tmp 126) (.tmp 127) 33 rfl Y.heap.size 116 i0 _ 5 40 underlying33 a5 a3 a2 a1 rfl (by decide) v8 _ _ rfl r (some ⟨w5.heap.size+1,0,none⟩) 1 1 [H,M,Q,P,O] rfl (fun e=>by cases e) rfl (fun ad e j u hu=>by injection e with e;subst e;rw[aBm];exact f.cell ((aX.cell j).trans hu) (by simp[a0])) (by have:=aBh [⟨H,M,Q,P,O⟩];simpa[rwC]using this) (by unfold maxLen;omega) (by omega) (by have:=f.size;omega) ?_;intro v9 w9 F t)
                 | (refine aAf rfl (.tmp 128) (.tmp 129) 33 rfl Y.heap.size 116 i0 _ 5 40 underlying33 a5 a3 a2 a1 rfl (by decide) v9 _ _ rfl F (some ⟨gl,J*5+5,none⟩) (N-J-1) (Lc-J-1) (((L.drop J).drop 1).flatMap rwC) rfl (fun e=>by cases e) (by rw[aAs,aB,aB,<-HN.out]) (fun ad e=>by injection e with e;subst e;rw[dR,show J*5+5=(J+1)*5 by omega];exact aF8 (aCi t (fun e=>by have:=aAj r e.symm;omega) (aCi f (by simp[a0]) al.out)) (J+1)) (aBh _) (by unfold maxLen;omega) (by omega) (by have:=t.size;have:=f.size;omega) ?_;intro aU C d R;obtain⟨ae,G⟩:=ex_ (0+J+1+(N-J-1));rw[<-G]at d;have ag:=hid G;clear G;obtain⟨av,ar,rfl,-⟩:=aAa d;have n:BlkIs C b 120 [.slice (some (gl,0)) L.length Lc,s.pos]:=(R.block b (by have:=t.size;have:=f.size;have:=m.lt;omega) (fun e=>by have:=aAj F e.symm;have:=m.lt;omega)).trans ((t.block b (by have:=f.size;have:=m.lt;omega) (fun e=>by have:=aAj r e.symm;have:=m.lt;omega)).trans ((f.block b (by have:=m.lt;omega) (by simp[a0])).trans (m.later V.out)));have f0:C.cell? (b,0)=some (.slice (some (gl,0)) L.length Lc):=n.cell 0;have aW:=n.frozen 0;have U:=hid n;clear n)
                 | fail)
                have T:(aBs L ⟨H,M,true,(o0,o1,o2),true,(Q,P,O)⟩).flatMap rwC=[]++(L.take J).flatMap rwC++[.int .i64 H,.int .i64 M,.int .i64 Q,.int .i64 P,.int .i64 O]++((L.drop J).drop 1).flatMap rwC:=by
                 rw[am.1,bA,bA];simp[aKt,aB1,rwC,aC5]
                have a8:(aBs L ⟨H,M,true,(o0,o1,o2),true,(Q,P,O)⟩).length=ae:=by
                 rw[ag.out,am.1,aL,aL,aF,aB,aB,<-HN.out];simp[aKt,aC5];all_goals omega
                have aa:dV Y Y C:=((V.grown f V.size (by simp[a0])).grown t (by have:=f.size;omega) (fun k e=>aAj r e)).grown R (by have:=t.size;have:=f.size;omega) (fun k e=>aAj F e);have aq:dV wr wr C:=ap.trans (aa.mono ap.size);have ak:=(HR.2.trans (cO (S:=fun j=>j=b) aq)).trans (cP (S:=fun j=>j=b) C ⟨b,0,none⟩ (.slice av ae ar) rfl);refine⟨⟨k2+1,by omega,by go_num,hid ⟨⟨_,U.set 0 _,?_⟩,ak⟩⟩,by simp[intOf];omega⟩;dsimp only;rw[aP.out,a8,T];exact aAg (aAh d (by have:=m.lt;omega)) _ _ (fun j e=>by have:=aAj d e;have:=m.lt;show j≠b;omega)
               case false=>
                have a6:=bO w5 (.cells #[(),(),(),(),()] 116);have K6:=cM w5 116 #[(),(),(),(),()];have b6:=b5.trans (a6.mono b5.size);have b7:=b6;have s0:(w5.alloc (.cells #[(),(),(),(),()] 116)).cell? (b,0)=some (.slice (some (gl,0)) N Lc):=by rw[HN.out];exact(m.later b7).cell 0
                have X:=aAb b7 aA.out;have aJ:gl<Y.heap.size:=(aA.lt gl rfl).2
                have a9:∀(j:Nat) u,(L.flatMap rwC)[j]? =some u->(w5.alloc (.cells #[(),(),(),(),()] 116)).cell? (gl,j)=some u:=by
                 obtain⟨A9,c9,e9,-,-,aD⟩:=aAa X;intro j u hu;obtain⟨g9,eg,-,-,aE⟩:=aD (cN fun h0=>by rw[aC h0]at hu;simp at hu);injection e9 with e91 _ _
                 rw[eg]at e91;injection e91 with e91
                 injection e91 with e92 _ _
                 subst e92;exact aE j u hu
                have al:=hid a9;have V:=hid b7;have ab:=b7.size;have ac:J<=L.length:=by rw[<-HN.out];omega
                have au:=hid ac;clear a9 b7 b6 a6 K6 b5 X ac
                go_wp2_with (at_builtin;first
                 | (refine aAf rfl (.tmp 119) (.tmp 125) 33 rfl Y.heap.size 116 i0 _ 5 40 underlying33 a5 a3 a2 a1 rfl (by decide) (.slice none 0 0) 0 [] rfl (b0 _ _ _ _) (some ⟨gl,0,none⟩) J Lc ((L.take J).flatMap rwC) rfl (fun e=>by cases e) (by rw[aAs,aF,cC au.out]) (fun ad e=>by injection e with e;subst e;exact aCx al.out J) (aBh _) (by unfold maxLen;omega) (by omega) ab ?_;intro v8 w8 r f)
                 | (refine aAf rfl (.tmp 126) (.tmp 127) 33 rfl Y.heap.size 116 i0 _ 5 40 underlying33 a5 a3 a2 a1 rfl (by decide) v8 _ _ rfl r none 0 0 [] rfl (fun _=>⟨rfl,rfl⟩) rfl (fun ad e=>by cases e) (by simp) (by unfold maxLen;omega) (by omega) (by have:=f.size;omega) ?_;intro v9 w9 F t)
                 | (refine aAf rfl (.tmp 128) (.tmp 129) 33 rfl Y.heap.size 116 i0 _ 5 40 underlying33 a5 a3 a2 a1 rfl (by decide) v9 _ _ rfl F (some ⟨gl,J*5+5,none⟩) (N-J-1) (Lc-J-1) (((L.drop J).drop 1).flatMap rwC) rfl (fun e=>by cases e) (by rw[aAs,aB,aB,<-HN.out]) (fun ad e=>by injection e with e;subst e;rw[dR,show J*5+5=(J+1)*5 by omega];exact aF8 (aCi t (fun e=>by have:=aAj r e.symm;omega) (aCi f (by simp[a0]) al.out)) (J+1)) (aBh _) (by unfold maxLen;omega) (by omega) (by have:=t.size;have:=f.size;omega) ?_;intro aU C d R;obtain⟨ae,G⟩:=ex_ (0+J+0+(N-J-1));rw[<-G]at d;have ag:=hid G;clear G;obtain⟨av,ar,rfl,-⟩:=aAa d;have n:BlkIs C b 120 [.slice (some (gl,0)) L.length Lc,s.pos]:=(R.block b (by have:=t.size;have:=f.size;have:=m.lt;omega) (fun e=>by have:=aAj F e.symm;have:=m.lt;omega)).trans ((t.block b (by have:=f.size;have:=m.lt;omega) (fun e=>by have:=aAj r e.symm;have:=m.lt;omega)).trans ((f.block b (by have:=m.lt;omega) (by simp[a0])).trans (m.later V.out)));have f0:C.cell? (b,0)=some (.slice (some (gl,0)) L.length Lc):=n.cell 0;have aW:=n.frozen 0;have U:=hid n;clear n)
                 | fail)
                have T:(aBs L ⟨H,M,true,(o0,o1,o2),false,(Q,P,O)⟩).flatMap rwC=[]++(L.take J).flatMap rwC++[]++((L.drop J).drop 1).flatMap rwC:=by
                 rw[am.1,bA,bA];simp[aKt,aC5]
                have a8:(aBs L ⟨H,M,true,(o0,o1,o2),false,(Q,P,O)⟩).length=ae:=by
                 rw[ag.out,am.1,aL,aL,aF,aB,aB,<-HN.out];simp[aKt,aC5];all_goals omega
                have aa:dV Y Y C:=((V.grown f V.size (by simp[a0])).grown t (by have:=f.size;omega) (fun k e=>aAj r e)).grown R (by have:=t.size;have:=f.size;omega) (fun k e=>aAj F e);have aq:dV wr wr C:=ap.trans (aa.mono ap.size);have ak:=(HR.2.trans (cO (S:=fun j=>j=b) aq)).trans (cP (S:=fun j=>j=b) C ⟨b,0,none⟩ (.slice av ae ar) rfl);refine⟨⟨k2+1,by omega,by go_num,hid ⟨⟨_,U.set 0 _,?_⟩,ak⟩⟩,by simp[intOf];omega⟩;dsimp only;rw[aP.out,a8,T];exact aAg (aAh d (by have:=m.lt;omega)) _ _ (fun j e=>by have:=aAj d e;have:=m.lt;show j≠b;omega)
       case neg=>
        have t1:decide (k2<l.length)=false:=by simpa using h2
        have bg:l.take k2=l:=dE (by omega);rw[bg]at HR;obtain⟨v,Kb,own⟩:=HR.1.own;have bz:w.heap.size≠b:=fun e=>by have:=cX.out;omega
        have KZ:=cu.only HR.2 bz;obtain⟨m0,m1⟩:=KZ.C2;have y1:=Kb.c1;have fy:=Kb.frozen 1;have ak:=(((cO (S:=fun j=>j=b) (b2 HA.out cW.out)).trans HR.2)).trans (cP (S:=fun j=>j=b) wr ⟨b,1,none⟩ (.int .i64 p) rfl);have cG:RSt (wr.setCell (b,1) (.int .i64 p)) b ⟨l.foldl aBs s.rows,p⟩:=⟨v,Kb.set 1 (.int .i64 p),aAg own _ _ (fun j e=>by have:=aAj own e;show j≠b;omega)⟩;have HF:=hid (And.intro ak cG);clear bg Kb own bz KZ ak cG h2;go_wp2_with fail
        go_ret;exact .inr ⟨dz.out,rfl,HF.2,HF.1⟩
theorem bAl (v:Value) (xs:List (List Int)) (w:dU) (hv:aK5 w v xs) (hl:xs.length<=16) :
 Calls prog 15 #[v] w fun e w'=>∃v' ps s,e= .returned v'/\LogZ w' w.heap.size v' ps s/\ps.length<=16/\dV w w w':=by
 obtain⟨A,c,rfl,hc⟩:=id hv;have HV:=hid hv;have aI:=hid (bAo w);clear hv hc;go_enter func15,ntmps15
 go_wp2_with fail
 refine(aI.out).mono ?_;rintro e w1 ⟨rfl,hR,b1,cu⟩;have HR:=hid hR;have c9:=hid b1;clear hR b1 aI;obtain⟨b,hb⟩:=ex_ w.heap.size;rw[<-hb]at HR c9 cu⊢;have c2:=hid hb;clear hb;go_wp2_with fail
 go_loopw [3,5] (fun ov iv wr=>∃(i:Nat) (ps:List (Rec×Value)) (s:StT),i<=xs.length/\iv= .int .i64 i/\Hid (LogZ wr b ov ps s)/\ps.length<=i/\Hid (dV b w wr)) (fun _ iv _=>xs.length-(intOf iv).toNat)
 case atStart=>exact⟨0,[],st0,by omega,rfl,hid (LogZ.zero HR.out),by simp,c9⟩
 case round=>
  obtain⟨i,ps,s,hi,rfl,HZ,dK,HB⟩:=hrel;by_cases X:i<xs.length
  case neg=>as_aux_lemma=>
   have t1:decide (i<xs.length)=false:=by simpa using X
   have he:=And.intro HZ.out HB.out;rw[c2.out]at he;have HE:=hid he;clear he;have ae:ps.length<=16:=by omega
   clear X;go_wp2_with fail
   go_ret;exact⟨_,ps,s,rfl,HE.1,ae,HE.2⟩
  case pos=>
   have t1:decide (i<xs.length)=true:=by simpa using X
   have HI:=hid X;clear X;go_wp2_with fail
   clear t1;obtain⟨wi,aO⟩:=ex_ wr;rw[<-aO]at HZ HB;have bS:=hid aO;clear aO;go_loopw [6,7] (fun lv kv wr=>∃(k:Nat) (l:List Chg),k<=3/\kv= .int .i64 k/\l.length<=k/\Hid (wr.ownsRow wi.heap.size 48 10 lv l.length (l.flatMap chgCells))/\Hid (dV wi wi wr)) (fun _ kv _=>3-(intOf kv).toNat)
   case atStart=>exact⟨0,[],by omega,rfl,by simp,hid (b0 _ _ _ _),hid (by rw[bS.out];exact dI _ _)⟩
   case round=>
    clear bS;obtain⟨k,l,hk,rfl,bB,HL,HW⟩:=hrel;obtain⟨f,bl⟩:=ex_ wr;rw[<-bl]at HL HW⊢;clear bl wr;by_cases h2:k<3
    case neg=>as_aux_lemma=>
     have t1:decide ((k:Int)<3)=false:=by simp;omega
     obtain⟨M,L,cx,bC,-,-⟩:=aAa HL.out;subst cx;have af:=HZ.good;have ae:ps.length<=16:=by have:=HI.out;omega
     obtain⟨p,hp⟩:=ex_ (s.pos+1);have dJ:dT.wrap (s.pos+1)=p:=by rw[dH,hp];have:=af.2;omega
     have aQ:0<=s.pos/\s.pos<=100000:=by have:=af.2;omega
     have cE:b<wi.heap.size:=HZ.st.lt;obtain⟨i1,cy,cs,cr,cq⟩:=aYb;have lz:=HZ.later HW.out;obtain⟨vS,KS,-⟩:=lz.st.own;have s1:=KS.c1;have a4:=bO f (.cells #[p,.slice M l.length L] 51);have K4:=cM f 51 #[p,.slice M l.length L];have a9:=aAb a4 HL.out;have aM:=lz.later a4;have bR:dV b w (f.alloc (.cells #[p,.slice M l.length L] 51)):=HB.trans ((b2 HW.out a4).mono (by omega));obtain⟨am,J,aj,an,bZ⟩:=aDs (aTx b s p M L l (f.alloc (.cells #[p,.slice M l.length L] 51)) aM.st af.1 aQ.1 aQ.2 (aG4.chgs (S:=fun _=>True) ⟨aE6 a9,fun _ _=>trivial⟩) (fun a e=>by subst e;have:=aAj HL.out rfl;omega)) aM a9 bR K4;obtain⟨e0,H⟩:=K4.C2;have cF:b≠f.heap.size:=by have:=HW.size;omega
     have HP:=hid hp;clear hp af aQ lz KS a4 K4 a9 aM bR h2;go_wp2_with fail
     refine(am.out).mono ?_;rintro e w5 ho;obtain⟨w4,br⟩:=ex_ (f.alloc (.cells #[p,.slice M l.length L] 51));rw[<-br]at ho J aj an bZ;clear am e0 H br s1;rcases ho with⟨hf,rfl,b5⟩|⟨hf,rfl,hrs,hon⟩
     . have cX:=hid (J.later b5);have aY:=hid (an.trans (b5.mono (Nat.le_of_lt J.st.lt)));clear b5 hf;go_wp2_with fail
       exact⟨⟨i+1,ps,s,HI.out,by go_num,cX,by omega,aY⟩,by have:=HI.out;simp[intOf];omega⟩
     . have K5:=bZ.only hon (fun e=>cF e.symm);obtain⟨e0,H⟩:=K5.C2;have aG:=hid (aAb (bO w5 (.cells #[p,.slice M l.length L] 51)) (aI4 hon J.row));have aT:dV b w w5:=an.trans (hon.below (fun k e=>by omega) (Nat.le_of_lt J.st.lt));have dg:=aT.size;obtain⟨aY,av,cY,HF⟩:=aBp aT hrs hon hf;obtain⟨oA,oc,rfl,dL⟩:=J.form;clear K5 hrs hon hf aT;go_wp2_with (at_builtin;refine aAf rfl (.tmp 212) (.tmp 214) 26 rfl (b+1) 51 i1 _ 2 32 underlying26 cy cs cr cq rfl (by decide) (.slice oA ps.length oc) ps.length (ps.flatMap recCells) rfl aG.out (some ⟨w5.heap.size,0,none⟩) 1 1 (recCells (⟨p,l⟩,.slice M l.length L)) rfl (fun e=>by cases e) rfl (fun ad e=>by injection e with e;subst e;exact aCn (cM w5 51 #[p,.slice M l.length L]) 0 _ rfl) (aNq _ rfl) (by unfold maxLen;omega) (by omega) (by have:=av.lt;rw[dC];omega) ?_;intro v6 w6 be bM)
       have bJ:=J.add HF.out av.out cY.out (bO w5 _) bM (aAh aj.out (show b+1<=wi.heap.size from cE)) be (Nat.le_trans bB hk);have cG:dV b w w6:=(aY.trans ((bO w5 (.cells #[p,.slice M l.length L] 51)).mono (Nat.le_of_lt av.lt))).grown bM (by have:=av.lt;rw[dC];omega) (fun q e=>by have:=aAj aG.out e;omega);exact⟨⟨i+1,_,_,HI.out,by go_num,hid bJ,by rw[aL,List.length_singleton];omega,hid cG⟩,by have:=HI.out;simp[intOf];omega⟩
    case pos=>
     have t1:decide ((k:Int)<3)=true:=by simp;omega
     have HK:=hid h2;have ct:=(HV.below (c2.out▸HB.out:dV w w wi)).below HW.out;obtain⟨A',c',H,hc,hj⟩:=ct;injection H with e2 e3 e4
     subst e2 e4;obtain⟨ad,rfl,dS,hj⟩:=hj (by have:=HI.out;omega);obtain⟨x,hx⟩:∃x,xs[i]? =some x:=⟨_,cD HI.out⟩;obtain⟨h6,hz⟩:=hj i x hx;obtain⟨zn,bg⟩:∃z,x[2*k]? =some z:=⟨_,cD (by omega)⟩;obtain⟨zm,bh⟩:∃z,x[2*k+1]? =some z:=⟨_,cD (by omega)⟩;obtain⟨c0,Q,P⟩:=hz _ _ bg;obtain⟨c1,m1,m2⟩:=hz _ _ bh;rw[<-aZn]at c0 c1;rw[aV8]at c1;have q0:(0:Int)<=(i:Int):=by omega
     have q1:(i:Int)<(xs.length:Int):=by have:=HI.out;omega
     have q2:(0:Int)<=2*(k:Int):=by omega
     have q3:2*(k:Int)<6:=by omega
     have q4:(0:Int)<=2*(k:Int)+1:=by omega
     have q5:2*(k:Int)+1<6:=by omega
     clear hj hz h6 hx bg bh hc h2;go_upto_if 37 with fail
     go_cut [8] (fun s8 T=>∃n:Int,0<=n/\n<=9223372036854775807/\s8= .int .i64 n/\T=f)
     case first=>as_aux_lemma=>
      by_cases hn:zn<0
      . have t2:decide (zn<0)=true:=by simpa using hn
        go_wp2_with fail
        go_meet
        exact⟨-(zn+1),by omega,by omega,rfl,rfl⟩
      . have t2:decide (zn<0)=false:=by simpa using hn
        go_wp2_with fail
        go_meet
        exact⟨zn,by omega,by omega,rfl,rfl⟩
     case rest=>
      obtain⟨n,dN,dM,rfl,V⟩:=hcut;rw[V];clear V wc Q P;go_upto_if 50 with fail
      go_cut [9] (fun s9 T=>∃n:Int,0<=n/\n<=9223372036854775807/\s9= .int .i64 n/\T=f)
      case first=>as_aux_lemma=>
       by_cases hn:zm<0
       . have t2:decide (zm<0)=true:=by simpa using hn
         go_wp2_with fail
         go_meet
         exact⟨-(zm+1),by omega,by omega,rfl,rfl⟩
       . have t2:decide (zm<0)=false:=by simpa using hn
         go_wp2_with fail
         go_meet
         exact⟨zm,by omega,by omega,rfl,rfl⟩
      case rest=>
       obtain⟨m,dP,dO,rfl,V⟩:=hcut;rw[V];clear V wc m1 m2 c0 c1 q2 q3 q4 q5 q0 q1;go_wp2_with fail
       obtain⟨B,bs⟩:=ex_ (n % 3);obtain⟨O,bD⟩:=ex_ (1+n / 3 % 9);rw[<-bs,<-bD];clear bs bD;have a4:=bO f (.cells #[B,O,false,(),(),(),false,(),(),()] 48);have K4:=cM f 48 #[B,O,false,(),(),(),false,(),(),()];refine(aTw b s B O _ ((HZ.later HW.out).later a4).st HZ.good.1.sort HZ.good.1.small).mono ?_;rintro e w5 ⟨rfl,b5⟩;rw[aU8];obtain⟨y,hy⟩:=ex_ ((getS s.rows B O).getD rw0);obtain⟨d,bG⟩:=ex_ ((getS s.rows B O).isSome);rw[<-hy,<-bG];clear hy bG;obtain⟨yt,yk,F,E,D⟩:=y;unfold rwV;dsimp only;have b6:=b2 a4 b5;have K5:=K4.later b5;have a6:=bO w5 (.cells #[yt,yk,F,E,D] 116);have K6:=cM w5 116 #[yt,yk,F,E,D];have K7:=K5.later a6;have b7:=b2 b6 a6;obtain⟨d0,d1,d2,d3,d4,d5,d6,d7,d8,d9⟩:=K7.C10;have f0:=K7.frozen 0;have f1:=K7.frozen 1;have f2:=K7.frozen 2;have f3:=K7.frozen 3;have f4:=K7.frozen 4;have f5:=K7.frozen 5;have f6:=K7.frozen 6;have f7:=K7.frozen 7;have f8:=K7.frozen 8;have f9:=K7.frozen 9;obtain⟨-,-,e2,e3,e4⟩:=K6.C5;have cw:f.heap.size≠w5.heap.size:=by have:=K5.lt;omega
       obtain⟨bY,c5,cZ⟩:=aAw K7 b7 K6;have c4:f.heap.size<=w5.heap.size:=b6.size;clear a4 K4 b5 b6 K5 a6 K6 K7 b7;go_upto_region 20 with fail
       have K8:=(((bY.set 2 (.bool d)).set 3 (.int .i64 F)).set 4 (.int .i64 E)).set 5 (.int .i64 D);have b8:=(((c5.setCell (p:=⟨f.heap.size,2,none⟩) (cQ _) (.bool d)).setCell (p:=⟨f.heap.size,3,none⟩) (cQ _) (.int .i64 F)).setCell (p:=⟨f.heap.size,4,none⟩) (cQ _) (.int .i64 E)).setCell (p:=⟨f.heap.size,5,none⟩) (cQ _) (.int .i64 D);obtain⟨w8,bq⟩:=ex_ (((((w5.alloc (.cells #[yt,yk,F,E,D] 116)).setCell (f,2) (.bool d)).setCell (f,3) (.int .i64 F)).setCell (f,4) (.int .i64 E)).setCell (f,5) (.int .i64 D));rw[<-bq]at K8 b8⊢;replace K8:BlkIs w8 f 48 [B,O,d,F,E,D,false,(),(),()]:=K8;clear bq d0 d1 d2 d3 d4 d5 d6 d7 d8 d9 f0 f1 f2 f3 f4 f5 f6 f7 f8 f9 e2 e3 e4 bY c5 cw cZ c4;have d6:=K8.c6;have f6:=K8.frozen 6;go_cut [] (fun T=>∃o:Bool,BlkIs T f 48 [B,O,d,F,E,D,o,(),(),()]/\dV f f T)
       case first=>as_aux_lemma=>
        cases d
        case false=>
         go_wp2_with fail
         go_meet
         exact⟨true,K8.set 6 _,b8.setCell (p:=⟨f.heap.size,6,none⟩) (cQ _) _⟩
        case true=>
         go_wp2_with fail
         go_meet
         exact⟨_,K8.set 6 _,b8.setCell (p:=⟨f.heap.size,6,none⟩) (cQ _) _⟩
       case rest=>
        obtain⟨o,K9,b9⟩:=hcut;clear K8 b8 d6 f6;obtain⟨w9,bp⟩:=ex_ wc;rw[<-bp]at K9 b9⊢;clear bp wc w8;obtain⟨-,-,-,-,-,-,d6,d7,d8,d9⟩:=K9.C10;have f7:=K9.frozen 7;have f8:=K9.frozen 8;have f9:=K9.frozen 9;go_upto_if 84 with fail
        go_cut [] (fun T=>∃U Q P:Int,BlkIs T f 48 [B,O,d,F,E,D,o,U,Q,P]/\dV f f T)
        case first=>as_aux_lemma=>
         cases o
         case false=>
          go_wp2_with fail
          go_meet
          exact⟨0,0,0,K9,b9⟩
         case true=>
          go_wp2_with fail
          go_meet
          exact⟨_,_,_,((K9.set 7 _).set 8 _).set 9 _,((b9.setCell (p:=⟨f.heap.size,7,none⟩) (cQ _) _).setCell (p:=⟨f.heap.size,8,none⟩) (cQ _) _).setCell (p:=⟨f.heap.size,9,none⟩) (cQ _) _⟩
        case rest=>
         obtain⟨U,Q,P,aW,ah⟩:=hcut;clear K9 b9 d6 d7 d8 d9 f7 f8 f9;obtain⟨wd,bo⟩:=ex_ wc;rw[<-bo]at aW ah⊢;clear bo wc w9;have own:=aAb ah (aAb (dI _ _) HL.out);obtain⟨M,L,rfl,bC,dQ,t⟩:=aAa own;obtain⟨N,hN⟩:=ex_ l.length;rw[<-hN]at bC t bB⊢;obtain⟨HN,al,aH,aw,c3⟩:=aDs hN t own aW ah;have cz:f.heap.size<=wd.heap.size:=ah.size;clear own aW ah hN t;go_wp2_with fail
         go_loopw [13,14] (fun kv jv T=>∃(kn:Bool) (j:Nat),kv= .bool kn/\jv= .int .i64 j/\j<=N/\Hid (dV wd wd T)) (fun _ jv _=>N-(intOf jv).toNat)
         case atStart=>exact⟨false,0,rfl,rfl,by omega,hid (dI _ _)⟩
         case round=>
          obtain⟨kn,j,rfl,rfl,hj,C⟩:=hrel;by_cases h3:j<N
          case pos=>as_aux_lemma=>
           obtain⟨g,rfl,hg,-,t⟩:=al.out (by omega);obtain⟨z,hz⟩:∃z,l[j]? =some z:=⟨_,cD (by rw[<-HN.out];omega)⟩;obtain⟨zt,ab⟩:=ex_ z.table;obtain⟨zk,ac⟩:=ex_ z.key;have c0:wr.cell? (g,j*10)=some (.int .i64 zt):=by rw[ab];exact(C.cell (p:=⟨g,j*10,none⟩) hg).trans (t _ _ (aBk chgCells 10 aB2 l j 0 z _ hz rfl))
           have c1:wr.cell? (g,j*10+1)=some (.int .i64 zk):=by rw[ac];exact(C.cell (p:=⟨g,j*10+1,none⟩) hg).trans (t _ _ (aBk chgCells 10 aB2 l j 1 z _ hz rfl))
           have K:=aw.later C.out;obtain⟨d0,d1⟩:=K.C2;have q0:(0:Int)<=(j:Int):=by omega
           have q1:(j:Int)<(N:Int):=by omega
           have t1:decide (j<N)=true:=by simpa using h3
           have H3:=hid h3;clear hz ab ac t K h3;cases kn
           case true=>
            go_wp2_with fail
            go_quiet (fail)
            go_wp2_with fail
            exact⟨⟨_,j+1,rfl,by go_num,H3.out,hid (aBa C.out _)⟩,by have:=H3.out;simp[intOf];omega⟩
           case false=>
            by_cases H:zt=B
            . have s1:(zt== B)=true:=by simpa using H
              clear H;go_wp2_with fail
              go_quiet (fail)
              go_wp2_with fail
              exact⟨⟨_,j+1,rfl,by go_num,H3.out,hid (aBa C.out _)⟩,by have:=H3.out;simp[intOf];omega⟩
            . have s1:(zt== B)=false:=by simpa using H
              clear H;go_wp2_with fail
              go_quiet (fail)
              go_wp2_with fail
              exact⟨⟨_,j+1,rfl,by go_num,H3.out,hid (aBa C.out _)⟩,by have:=H3.out;simp[intOf];omega⟩
          case neg=>
           have t1:decide (j<N)=false:=by simpa using h3
           obtain⟨we,bn⟩:=ex_ wr;rw[<-bn]at C⊢;clear bn wr h3;have K:=aw.later C.out;obtain⟨-,-,d2,d3,d4,d5,d6,d7,d8,d9⟩:=K.C10;clear K;go_upto_region 28 with fail
           go_cut [149] (fun s T=>∃q:Bool,s= .bool q/\T=we)
           case first=>as_aux_lemma=>
            obtain⟨z,hz⟩:∃z,decide ((F,E,D)=(U,Q,P))=z:=⟨_,rfl⟩;have hq:=fun W=>aFr W (F,E,D) (U,Q,P);rw[hz]at hq;dsimp only at hq;have af:=aLp;clear hz;cases kn
            case true=>
             go_wp2_with fail
             go_meet
             exact⟨_,rfl,rfl⟩
            case false=>
             by_cases bE:0<k
             . have t5:decide ((0:Int)<(k:Int))=true:=by simp;omega
               clear bE;cases d <;> cases o <;> cases z
               all_goals
                 go_wp2_with fail
                 all_goals
                   go_meet
                   exact⟨_,rfl,rfl⟩
             . have t5:decide ((0:Int)<(k:Int))=false:=by simp;omega
               clear bE;cases d <;> cases o <;> cases z
               all_goals
                 go_wp2_with fail
                 all_goals
                   go_meet
                   exact⟨_,rfl,rfl⟩
           case rest=>
            obtain⟨q,rfl,V⟩:=hcut;rw[V];clear V wc d2 d3 d4 d5 d6 d7 d8 d9 t1;cases q
            case true=>as_aux_lemma=>
             go_wp2_with fail
             exact⟨⟨k+1,l,by have:=HK.out;omega,by go_num,by rw[<-HN.out];omega,hid (aAb C.out (HN.out▸aH.out)),hid (b2 HW.out (b2 c3.out C.out))⟩,by have:=HK.out;simp[intOf];omega⟩
            case false=>
             go_wp2_with fail
             go_loopw [15] (fun jv T=>∃j:Nat,jv= .int .i64 j/\j<=N/\Hid (dV wd wd T)) (fun jv _=>(intOf jv).toNat)
             case atStart=>exact⟨N,rfl,by omega,C⟩
             case round=>
              clear C we;obtain⟨j,rfl,hj,C⟩:=hrel;go_upto_region 30 with fail
              go_cut [186] (fun s T=>∃q:Bool,s= .bool q/\(q=true->0<j)/\Hid (dV wd wd T))
              case first=>as_aux_lemma=>
               rcases Nat.eq_zero_or_pos j with h0|h0
               . subst h0;go_quiet (fail)
                 first|go_meet|(go_step;go_meet)|(go_wp2_with fail;go_meet)|fail
                 exact⟨false,rfl,by simp,hid (aBa C.out _)⟩
               . obtain⟨r,hr⟩:∃r:Nat,j=r+1:=⟨j-1,by omega⟩;obtain⟨g,rfl,hg,-,t⟩:=al.out (by omega);obtain⟨z,hz⟩:∃z,l[r]? =some z:=⟨_,cD (by rw[<-HN.out];omega)⟩;obtain⟨zt,ab⟩:=ex_ z.table;obtain⟨zk,ac⟩:=ex_ z.key;have c0:wr.cell? (g,r*10)=some (.int .i64 zt):=by rw[ab];exact(C.cell (p:=⟨g,r*10,none⟩) hg).trans (t _ _ (aBk chgCells 10 aB2 l r 0 z _ hz rfl))
                 have c1:wr.cell? (g,r*10+1)=some (.int .i64 zk):=by rw[ac];exact(C.cell (p:=⟨g,r*10+1,none⟩) hg).trans (t _ _ (aBk chgCells 10 aB2 l r 1 z _ hz rfl))
                 have K:=aw.later C.out;obtain⟨d0,d1⟩:=K.C2;have s0:decide ((0:Int)<(j:Int))=true:=by simp;omega
                 have s1:dT.wrap ((j:Int)-1)=(r:Int):=by rw[dH];omega
                 have s2:dT.wrap (r:Int)=(r:Int):=by rw[dH];omega
                 have s3:(0:Int)<=(r:Int):=by omega
                 have s4:(r:Int)<(N:Int):=by omega
                 clear hz ab ac t K hr;by_cases H:B<zt
                 . have u1:decide (B<zt)=true:=by simpa using H
                   clear H;go_quiet (fail)
                   first|go_meet|(go_step;go_meet)|(go_wp2_with fail;go_meet)|fail
                   exact⟨_,rfl,fun _=>h0,hid (aBa C.out _)⟩
                 . have u1:decide (B<zt)=false:=by simpa using H
                   clear H;by_cases e2:zt=B
                   . have u2:(zt== B)=true:=by simpa using e2
                     clear e2;go_quiet (fail)
                     first|go_meet|(go_step;go_meet)|(go_wp2_with fail;go_meet)|fail
                     exact⟨_,rfl,fun _=>h0,hid (aBa C.out _)⟩
                   . have u2:(zt== B)=false:=by simpa using e2
                     clear e2;go_quiet (fail)
                     first|go_meet|(go_step;go_meet)|(go_wp2_with fail;go_meet)|fail
                     exact⟨_,rfl,fun _=>h0,hid (aBa C.out _)⟩
              case rest=>
               clear C wr;obtain⟨q,rfl,aP,C⟩:=hcut;obtain⟨G,ap⟩:=ex_ wc;rw[<-ap]at C⊢;clear ap wc;cases q
               case true=>as_aux_lemma=>
                have h0:=aP rfl;obtain⟨r,hr⟩:∃r:Nat,j=r+1:=⟨j-1,by omega⟩;have s1:dT.wrap ((j:Int)-1)=(r:Int):=by rw[dH];omega
                have s2:(j:Int)-1=(r:Int):=by omega
                have ai:=hid hr;clear hr h0 aP;go_wp2_with fail
                exact⟨⟨r,rfl,by have:=ai.out;omega,C⟩,by have:=ai.out;simp[intOf];omega⟩
               case false=>
                clear aP;go_wp2_with fail
                obtain⟨i0,bF,bk,bj,bi⟩:=aYc;have K:=aw.later C.out;have Y:=hid (fun(W:dU) (Z:dV G G W)=>(show(fun W=>W.cell? (f,0)=some (.int .i64 B)/\W.cell? (f,1)=some (.int .i64 O)/\W.cell? (f,2)=some (.bool d)/\W.cell? (f,3)=some (.int .i64 F)/\W.cell? (f,4)=some (.int .i64 E)/\W.cell? (f,5)=some (.int .i64 D)/\W.cell? (f,6)=some (.bool o)/\W.cell? (f,7)=some (.int .i64 U)/\W.cell? (f,8)=some (.int .i64 Q)/\W.cell? (f,9)=some (.int .i64 P)) W from⟨(K.later Z).cell 0,(K.later Z).cell 1,(K.later Z).cell 2,(K.later Z).cell 3,(K.later Z).cell 4,(K.later Z).cell 5,(K.later Z).cell 6,(K.later Z).cell 7,(K.later Z).cell 8,(K.later Z).cell 9⟩));have ZA:dV G G (G.drew.alloc (.cells #[B,O,d,F,E,D,o,U,Q,P] 48)):=(Below.drew (dI G.heap.size G)).alloc (cQ _) _;have ap:f.heap.size<=G.heap.size:=Nat.le_trans cz C.size;clear K
                have ag:(M=none/\L=0/\N=0/\j=0)\/∃g,M=some ⟨g,0,none⟩/\(j:Int)<=(L:Int)/\(0:Int)<=(j:Int):=by
                 rcases aH.2 with⟨hnil,hn0⟩|⟨g,cap,cur,hv3,hgl,hgh,-⟩
                 . injection hnil with ea eb ec
                   have h0:N=0:=by rw[HN.out];exact hn0
                   exact .inl ⟨ea,ec,h0,by omega⟩
                 . injection hv3 with ea eb ec
                   exact .inr ⟨g,ea,by omega,by omega⟩
                obtain⟨R,aq⟩:∃R:Option Addr,(M=none/\L=0/\N=0/\j=0/\R=none)\/(∃g,M=some ⟨g,0,none⟩/\N=L/\j=L/\R=some ⟨g,0,none⟩)\/∃g,M=some ⟨g,0,none⟩/\R=some ⟨g,j*10,none⟩/\¬L=j/\(j:Int)<=(N:Int)/\(0:Int)<=(j:Int):=by
                 rcases ag with⟨X,h2,h3,h4⟩|⟨g,X,h2,h3⟩
                 . exact⟨none,.inl ⟨X,h2,h3,h4,rfl⟩⟩
                 . by_cases bH:L=j
                   . exact⟨_,.inr (.inl ⟨g,X,by omega,bH.symm,rfl⟩)⟩
                   . exact⟨_,.inr (.inr ⟨g,X,rfl,bH,by omega,h3⟩)⟩
                have aS:∀g,M=some ⟨g,0,none⟩->∀(W:dU),dV G G W->∀(i:Nat) u,(l.flatMap chgCells)[i]? =some u->W.cell? (g,i)=some u:=by
                 intro g hg W Z i u hu
                 have h0:0<N:=by
                  rw[HN.out];refine cN fun e=>?_;rw[aC e]at hu;simp at hu
                 obtain⟨g',H,aA,-,hx⟩:=al.out h0;rw[hg]at H;injection H with H
                 injection H with H
                 subst H;have cA:g<G.heap.size:=Nat.lt_of_lt_of_le aA C.size;exact(Z.cell (p:=⟨g,i,none⟩) cA).trans ((C.cell (p:=⟨g,i,none⟩) aA).trans (hx i u hu))
                have bx:R=none->N-j=0/\L-j=0:=fun e=>by
                 rcases aq with⟨-,h2,h3,h4,-⟩|⟨g,-,-,-,h⟩|⟨g,-,h,-⟩
                 . omega
                 . rw[h]at e;cases e
                 . rw[h]at e;cases e
                have bw:∀(W:dU),dV G G W->∀ad,R=some ad->∀(i:Nat) u,((l.drop j).flatMap chgCells)[i]? =some u->W.cell? (ad.add i)=some u:=by
                 intro W Z ad e i u hu;rcases aq with⟨-,-,-,-,h⟩|⟨g,-,h2,h3,h⟩|⟨g,X,h,-,-,-⟩
                 . rw[h]at e;cases e
                 . rw[List.drop_of_length_le (by rw[<-HN.out];omega)]at hu;simp at hu
                 . rw[h]at e;injection e with e
                   subst e;rw[aKb,List.getElem?_drop]at hu;rw[show(⟨g,j*10,none⟩:Addr).add i=⟨g,j*10+i,none⟩ by unfold Addr.add;split <;> simp_all];exact aS g X W Z _ u hu
                have bt:∀(W:dU),dV G G W->∀ad,M=some ad->∀(i:Nat) u,((l.take j).flatMap chgCells)[i]? =some u->W.cell? (ad.add i)=some u:=by
                 intro W Z ad e i u hu;rcases ag with⟨h,-⟩|⟨g,X,-⟩
                 . rw[h]at e;cases e
                 . rw[X]at e;injection e with e
                   subst e;rw[aKa,List.getElem?_take]at hu;rw[aBm];split at hu
                   . exact aS g X W Z _ u hu
                   . cases hu
                have bu:M=none->j=0:=fun e=>by
                 rcases ag with⟨-,-,-,h⟩|⟨g,h,-⟩
                 . exact h
                 . rw[h]at e;cases e
                obtain⟨HC,aX,ai,bV,bT,bU⟩:=aIl ag aq bx bw bt bu;clear ag aq bx bw bt bu aS;refine aKs (fun W=>W.cell? (f,0)=some (.int .i64 B)/\W.cell? (f,1)=some (.int .i64 O)/\W.cell? (f,2)=some (.bool d)/\W.cell? (f,3)=some (.int .i64 F)/\W.cell? (f,4)=some (.int .i64 E)/\W.cell? (f,5)=some (.int .i64 D)/\W.cell? (f,6)=some (.bool o)/\W.cell? (f,7)=some (.int .i64 U)/\W.cell? (f,8)=some (.int .i64 Q)/\W.cell? (f,9)=some (.int .i64 P)) [(0,false),(1,false),(2,false),(3,false),(4,false),(6,false),(7,false),(8,false),(5,true),(9,true),(10,true),(11,true)] (Y.out _ (Below.drew (dI _ _))) ?_;refine aAq.A0 ?_;refine aAq.A0 ?_;refine aAq.A0 ?_;apply aAq.take0 (v:= .slice M j j)
                case ho=>exact rfl
                case hg=>exact rfl
                case hy=>
                 intro w aU;clear aU;rcases HC.out with⟨rfl,rfl,rfl,rfl⟩|⟨g,rfl,X,h2⟩
                 . go_simp
                 . clear HC;go_simp;try with_reducible rfl
                refine aBq ?_;refine aAq.A0 ?_;refine aAq.A0 ?_;refine aAq.A0 ?_;apply aAq.take0 (v:= .slice R (N-j) (L-j))
                case ho=>exact rfl
                case hg=>exact rfl
                case hy=>
                 intro w aU;clear aU;rcases aX.out with⟨rfl,rfl,rfl,rfl,rfl⟩|⟨g,rfl,rfl,rfl,rfl⟩|⟨g,rfl,rfl,X,h2,h3⟩
                 . go_simp
                 . go_simp;try with_reducible rfl
                 . clear HC aX;go_simp;try with_reducible rfl
                refine aBq ?_;refine aAq.P0 ?_;intro K hK;go_simp;refine hK.out _ _ (Y.out _ ZA) (fun _=>?_);clear hK K;refine aBq ?_;refine aAq.P0 ?_;intro K hK;refine aL6 (.tmp 194) (.tmp 197) 49 rfl G.heap.size 48 i0 _ 10 80 underlying49 bF bk bj bi rfl (by decide) (.slice (some ⟨G.heap.size,0,none⟩) 1 1) 1 [B,O,d,F,E,D,o,U,Q,P] rfl (aT7 G.drew G.heap.size 48 10 #[B,O,d,F,E,D,o,U,Q,P] rfl (cQ _)) R (N-j) (L-j) ((l.drop j).flatMap chgCells) rfl ai.out (by rw[aIm,aB,<-HN.out]) (bV.out _ ZA) (aOm _) (by unfold maxLen;omega) (by omega) ZA.size ?_;intro v8 w8 a8 bL;have Z8:dV G G w8:=ZA.grown bL ZA.size (fun k e=>by injection e with e;subst e;exact cQ _);obtain⟨A8,c8,rfl,-,-,h8⟩:=aAa a8;obtain⟨g8,rfl,cB,-,bI⟩:=h8 (by omega);have bz:∀(i:Nat) u,([.int .i64 B,.int .i64 O,.bool d,.int .i64 F,.int .i64 E,.int .i64 D,.bool o,.int .i64 U,.int .i64 Q,.int .i64 P]++(l.drop j).flatMap chgCells)[i]? =some u->w8.cell? ((⟨g8,0,none⟩:Addr).add i)=some u:=fun i u hu=>by rw[aBm];exact bI i u hu
                refine hK.out _ _ (Y.out _ Z8) (fun _=>?_);clear hK K;refine aBq ?_;refine aAq.P0 ?_;intro K hK;refine aKy (.tmp 192) (.tmp 198) 49 rfl wi.heap.size 48 i0 _ 10 80 underlying49 bF bk bj bi rfl M j ((l.take j).flatMap chgCells) rfl (by rw[aIm,aF,<-HN.out,cC hj]) bU.out (bT.out _ Z8) ⟨g8,0,none⟩ (1+(N-j)) c8 ([.int .i64 B,.int .i64 O,.bool d,.int .i64 F,.int .i64 E,.int .i64 D,.bool o,.int .i64 U,.int .i64 Q,.int .i64 P]++(l.drop j).flatMap chgCells) rfl (by rw[a8.1]) bz (by omega) (by unfold maxLen;omega) (by omega) (Nat.le_trans (Nat.le_trans HW.size ap) Z8.size) ?_;intro v9 w9 ay bK;have Z9:dV G G w9:=Z8.grown bK Z8.size (fun k e=>by cases e);refine hK.out _ _ (Y.out _ Z9) (fun _=>?_);clear hK K;refine aBq ?_
                repeat (
                 refine aAq.A0 ?_)
                refine aAq.fin ?_
                have aa:w9.ownsRow wi.heap.size 48 10 v9 (l.take j++(⟨B,O,d,(F,E,D),o,(U,Q,P)⟩:Chg) :: l.drop j).length ((l.take j++(⟨B,O,d,(F,E,D),o,(U,Q,P)⟩:Chg) :: l.drop j).flatMap chgCells):=by
                 have H:(l.take j++(⟨B,O,d,(F,E,D),o,(U,Q,P)⟩:Chg) :: l.drop j).length=j+(1+(N-j)):=by
                  rw[aL,List.length_cons,aF,aB,<-HN.out];omega
                 have e2:(l.take j++(⟨B,O,d,(F,E,D),o,(U,Q,P)⟩:Chg) :: l.drop j).flatMap chgCells=(l.take j).flatMap chgCells++([.int .i64 B,.int .i64 O,.bool d,.int .i64 F,.int .i64 E,.int .i64 D,.bool o,.int .i64 U,.int .i64 Q,.int .i64 P]++(l.drop j).flatMap chgCells):=by
                  rw[bA,dD];rfl
                 rw[H,e2];exact ay
                have az:(l.take j++(⟨B,O,d,(F,E,D),o,(U,Q,P)⟩:Chg) :: l.drop j).length<=k+1:=by
                 rw[aL,List.length_cons,aF,aB,<-HN.out];omega
                obtain⟨da,c7,bW⟩:=aAw aa (b2 HW.out (b2 c3.out (b2 C.out Z9))) az;clear ay aa bK Z8 Z9 ZA az Y bz a8 bL bI cB HC aX ai bV bT bU;go_wp2_with fail
                exact⟨⟨k+1,_,by have:=HK.out;omega,by go_num,bW.out,da,c7⟩,by have:=HK.out;simp[intOf];omega⟩
theorem aK5.front {w:dU} {A:Option Addr} {c:Nat} {xs:List (List Int)} (h:aK5 w (.slice A xs.length c) xs) {m:Nat} (hm:m<=xs.length):aK5 w (.slice A (xs.take m).length c) (xs.take m):=by
 obtain⟨o,n,e,k,d⟩:=h;injection e with e1 e2 e3
 subst e1 e3;have j:(xs.take m).length=m:=by rw[aF];omega
 refine⟨_,_,rfl,by omega,fun l=>?_⟩;obtain⟨g,f,b,d⟩:=d (by omega);refine⟨g,f,b,fun i x a=>d i x ?_⟩;rw[List.getElem?_take]at a;split at a
 . exact a
 . cases a
theorem aZ9 (A:Option Addr) (c:Nat) (xs:List (List Int)) (w:dU) (hx:aK5 w (.slice A xs.length c) xs) :
 Calls prog 5 #[.slice A xs.length c,(16:Int)] w fun e w'=>∃v' ps s,e= .returned v'/\LogZ w' w.heap.size v' ps s/\ps.length<=16/\dV w w w':=by
 obtain⟨m,u⟩:=ex_ (min xs.length 16);have i:min (xs.length:Int) 16=(m:Int):=by omega
 have d:=hx.front (m:=m) (by omega);have g:(xs.take m).length=m:=by rw[aF];omega
 have a:=bAl _ _ w d (by omega);rw[g]at a;have j:xs.length<=c:=by obtain⟨C,B,e,h,-⟩:=hx;injection e with _ _ e3;omega
 have o:m<=xs.length:=by omega
 have t:(0:Int)<=(m:Int):=by omega
 have r:(m:Int)<=(c:Int):=by omega
 have b:=hid a;clear u d g a;go_enter func5,ntmps5
 go_wp2_with fail
 with_reducible refine(b.out).mono ?_
 rintro e x ⟨v',ps,s,rfl,q,f,k⟩;obtain⟨z,y,rfl,p⟩:=q.form;have H:=hid (And.intro q (And.intro f k));obtain⟨n,l⟩:=ex_ ps.length;rw[<-l]at H⊢;have v:=hid l;clear b i j t r o hx q f k p l;go_wp2_with fail
 go_ret;exact⟨_,ps,s,rfl,H.1,by rw[<-v.out];exact H.2.1,H.2.2⟩
end
end Go.Proofs.YtmhpfoicloojcaaGreatDoor
