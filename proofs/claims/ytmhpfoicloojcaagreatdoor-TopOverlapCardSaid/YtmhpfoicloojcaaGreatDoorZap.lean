/- digest.Sum. -/
import Derived.Test.YtmhpfoicloojcaaGreatDoorZal
import Derived.Test.YtmhpfoicloojcaaGreatDoorZam
import Derived.Test.YtmhpfoicloojcaaGreatDoorZao
set_option linter.all false
open List renaming replicate→aE,length_append→aO,length_replicate→aP
open Nat renaming le_refl→aL
open Go.RowKit renaming Below→aQ
namespace Go.Proofs.YtmhpfoicloojcaaGreatDoor
set_option maxRecDepth 100000
set_option maxHeartbeats 16000000
section
open Go.Proofs.Tryz
open Go Go.RowKit
attribute [local go_sem] Oper.semAt_some
variable {W1 W:World} {rec:Loop} {hb L k:Nat} {p:List UInt8}
theorem Tryz.infoU8:(prog.info? 5).map (fun i=>(i.zero,i.size,i.bytes))=some (some (.int .u8 0),1,1):=by kernel_rfl
theorem bBc:∃i,prog.info? 5=some i/\i.zero=some (.int .u8 0)/\i.size=1/\i.bytes=1:=by
 obtain⟨d,e,c,b,a⟩:=info_parts Tryz.infoU8;exact⟨d,e,c,b,a⟩
def lenOf:Value->Nat
 | .slice _ n _=>n
 | _=>0
theorem aRx (l:List UInt8) (k:Nat):l++(128 :: aE k 0)++[0]=l++(128 :: aE (k+1) 0):=by
 rw[List.replicate_succ',List.append_assoc,List.cons_append]
theorem aQo (n:Nat):(be8 n).length=8:=rfl
theorem bB7 (n j:Nat) (hj:j<8):(be8 n)[j]? =some (UInt8.ofNat (n / 2 ^(8*(7-j)))):=by
 have h:j=0\/j=1\/j=2\/j=3\/j=4\/j=5\/j=6\/j=7:=by omega
 rcases h with rfl|rfl|rfl|rfl|rfl|rfl|rfl|rfl <;> rfl
theorem aZc (P:List UInt8) (n j:Nat) (hj:j<8):P++(be8 n).take j++[UInt8.ofNat (n / 2 ^(8*(7-j)))]=P++(be8 n).take (j+1):=by
 rw[List.take_add_one,bB7 n j hj,List.append_assoc];rfl
def bst (p:List UInt8):Nat->V8
 | 0=>iv
 | k+1=>aCt (bst p k) ((p.drop (64*k)).take 64)
theorem aIo:∀(n:Nat) (h:V8) (p:List UInt8),aFh (n+1) h p=aCt (aFh n h p) ((p.drop (64*n)).take 64)
 | 0,h,p=>by simp[aFh]
 | n+1,h,p=>by
   show aFh (n+1) (aCt h (p.take 64)) (p.drop 64)=_
   rw[aIo n,List.drop_drop]
   show aCt (aFh n (aCt h (p.take 64)) (p.drop 64)) _=aCt (aFh n (aCt h (p.take 64)) (p.drop 64)) _
   rw[show 64+64*n=64*(n+1) by omega]
theorem aZ3 (p:List UInt8):∀n,bst p n=aFh n iv p
 | 0=>rfl
 | n+1=>by rw[aIo,<-aZ3 p n];rfl
theorem bD6:aWd iv:=by unfold aWd;decide
theorem bCc (h v:V8):aWd (aWc h v):=by
 intro y a;simp only[V8.toL,aWc,List.mem_cons,List.not_mem_nil,or_false]at a;rcases a with rfl|rfl|rfl|rfl|rfl|rfl|rfl|rfl <;> exact Nat.mod_lt _ (by omega)
theorem aZ2 (p:List UInt8):∀n,aWd (bst p n)
 | 0=>bD6
 | _+1=>bCc _ _
structure SumJ (W1:World) (rec:Loop) (hb L:Nat) (p:List UInt8) (k:Nat) (W:World):Prop where
 rl:W.heap[L]? =some (.loop rec)
 blk:BlkIs W hb 376 (uv (bst p k).toL)
 os:W.os=W1.os
 tape:W.tape=W1.tape
 output:W.output=W1.output
 size:W1.heap.size<=W.heap.size
 block:∀b,b<W1.heap.size->b≠hb->b≠L->W.heap[b]? =W1.heap[b]?
theorem SumJ.other (h:SumJ W1 rec hb L p k W) {b:Nat} {t:TypeId} {cs:List Value} (hk:BlkIs W1 b t cs) (h1:b≠hb) (h2:b≠L):BlkIs W b t cs:=(h.block b hk.lt h1 h2).trans hk
theorem SumJ.round (h:SumJ W1 rec hb L p k W) (hr:aA4 W1) (h1:1≠hb) (h2:1≠L):aA4 W:=by
 have a:=hr.lt;obtain⟨t,b,hr⟩:=hr;exact⟨t,b,(h.block _ a h1 h2).trans hr⟩
theorem SumJ.cell (h:SumJ W1 rec hb L p k W) {a:Addr} {v:Value} (hc:W1.cell? a=some v) (h1:a.block≠hb) (h2:a.block≠L):W.cell? a=some v:=
 (World.cell?_of_block (h.block a.block (aAl hc) h1 h2)).trans hc
theorem SumJ.below {w:World} (h:SumJ W1 rec hb L p k W) (hw:aQ w w W1) (h1:w.heap.size<=hb) (h2:w.heap.size<=L):aQ w w W:=
 ⟨h.os.trans hw.os,h.tape.trans hw.tape,h.output.trans hw.output,Nat.le_trans hw.size h.size,fun b hb'=>(h.block b (Nat.lt_of_lt_of_le hb' hw.size) (by omega) (by omega)).trans (hw.block b hb')⟩
theorem SumJ.busy {r0 r1:Loop} (h:SumJ W1 r0 hb L p k W) (hl:hb≠L):SumJ W1 r1 hb L p k (W.putObj L (.loop r1)):=
 ⟨World.putObj_heap_same (aAc h.rl),(World.putObj_heap_other hl).trans h.blk,h.os,h.tape,h.output,Nat.le_trans h.size (grownBy_putObj' W L _).size,fun b hb1 hb2 hb3=>(World.putObj_heap_other hb3).trans (h.block b hb1 hb2 hb3)⟩
theorem SumJ.step {r0:Loop} {W':World} (h:SumJ W1 r0 hb L p k W) (hl:hb≠L) (hu:Upd hb W W') (hn:BlkIs W' hb 376 (uv (bst p (k+1)).toL)):SumJ W1 r0 hb L p (k+1) W':=
 ⟨(hu.block L (aAc h.rl) (Ne.symm hl)).trans h.rl,hn,hu.os.trans h.os,hu.tape.trans h.tape,hu.output.trans h.output,Nat.le_trans h.size hu.size,fun b hb1 hb2 hb3=>(hu.block b (Nat.lt_of_lt_of_le hb1 h.size) hb2).trans (h.block b hb1 hb2 hb3)⟩
theorem aZs (s:ByteArray) (w:World) (hs:s.size<=1000000) (hR:aA4 w) :
 Calls prog 221 #[.string s] w fun e w'=>e= .returned (.string ⟨(aTj s.data.toList).toArray⟩)/\aQ w w w':=by
 obtain⟨i0,hi,ac,ab,aa⟩:=bBc;have aB:=fun W=>run_bytes_of_string (P:=prog) W 9 224 5 s underlying9 underlying224 underlying5;obtain⟨l,hl⟩:=ex_ s.data.toList;have LL:=hid (show l.length=s.size by rw[hl];simp);rw[<-hl];have HL:=hid hl;clear hl;refine(callsIn_wide (n:=3)).1 ?_;refine callsIn_of_wp_marks func221 rfl trivial ?_ rfl;simp only[ntmps221,List.size_toArray,List.length_cons,List.length_nil,Nat.reduceAdd,Nat.reduceSub,Array.replicate_succ,Array.replicate_zero,List.push_toArray,List.append_toArray,List.nil_append,List.cons_append];refine wpIn_wide.2 ?_;go_upto_region 2 with fail
 generalize O:World.alloc w _=w1;have h1:BlkIs w1 w 376 (uv iv.toL):=by rw[<-O];exact BlkIs.new _ _ _
 have b1:aQ w w w1:=by rw[<-O];exact(Below.refl _ w).alloc (aL _) _
 have R1:aA4 w1:=by rw[<-O];exact hR.alloc _
 have aw:w.heap.size<w1.heap.size:=BlkIs.lt h1;clear O hR;obtain⟨d,y⟩:=ex_ (grownCap w1 s.size 0 5);obtain⟨w2,N⟩:=ex_ (w1.drew.alloc (.cells (bytesRow s d) 5 ((bytesRow s d).size,(bytesRow s d).size+1)));have a7:=aB w1;rw[<-y,<-N]at a7;have ax:s.size<=d:=by rw[y];exact grownCap_ge _ _ _ _
 have aC:d<=maxLen:=by rw[y];exact grownCap_le_maxLen _ _ _ _ (by unfold maxLen;omega)
 have aq:(bytesRow s d).size=d:=by
  rw[<-Array.length_toList,aKk,aO,bv_length,aP];have:=aXv s;omega
 have C:aNd w2 w1.heap.size 5 (.slice (some (w1,0)) s.size d) l:=by
  refine⟨w1.heap.size,d,aE (d-s.size) (.int .u8 0),(d,d+1),by rw[LL.out],aL _,?_,by rw[LL.out];exact ax,by rw[LL.out,aP];omega,aC,.inr (aL _)⟩;rw[HL.out,<-aKk,N,aq];exact World.alloc_heap_new w1.drew _
 have b2:aQ w1 w1 w2:=by rw[N];exact((Below.refl _ w1).drew).alloc (aL _) _
 clear aB y N ax aC aq
 go_wp2_with (first
  | (at_builtin;refine aCz rfl _ _ 224 rfl w1.heap.size 5 i0 underlying224 hi ac ab aa (.slice (some (w1,0)) s.size d) l rfl (C.alloc _) ⟨w2.heap.size,0,none⟩ 128 rfl (by simp) rfl (by have:=LL.out;omega) (by have:=b2.size;simp;omega) ?_;intro v3 w3 a2 g3))
 have b3:aQ w1 w1 w3:=aNd.below b2 C (aL _) b2.size g3;clear g3 C b2 a7;obtain⟨zc,J⟩:=ex_ ((119-s.size % 64) % 64);have a1:aNd w3 w1.heap.size 5 v3 (l++(128 :: aE 0 0)):=a2;have ao:zc<64:=by omega
 clear a2;go_loopw [4] (fun v wr=>∃k:Nat,k<=zc/\aNd wr w1.heap.size 5 v (l++(128 :: aE k 0))/\aQ w1 w1 wr) (fun v _=>zc+s.size+1-lenOf v)
 case atStart=>exact⟨0,by omega,a1,b3⟩
 case round=>
  clear a1 b3;obtain⟨k,hk,own,z⟩:=hrel;obtain⟨m,hm⟩:=ex_ (s.size+1+k)
  have b:(l++(128 :: aE k 0):List UInt8).length=m:=by
   rw[aO,List.length_cons,aP,LL.out];omega
  obtain⟨g,cp,hv,bX,bW,be,bd⟩:=own.slice;rw[b]at hv be;subst hv;unfold maxLen at bd;have aZ:=z.size;by_cases b4:k<zc
  . have t0:((m:Int) % 64 != 56)=true:=by rw[bne_iff_ne];omega
    obtain⟨HM,q,HZ⟩:=aAw hm b J;clear hm b J
    go_wp2_with (first
     | (at_builtin;refine aCz rfl _ _ 224 rfl w1.heap.size 5 i0 underlying224 hi ac ab aa (.slice (some (g,0)) m cp) (l++(128 :: aE k 0)) rfl (own.alloc _) ⟨wr.heap.size,0,none⟩ 0 rfl (by simp) rfl (by have:=q.out;have:=HM.out;omega) (by simp;omega) ?_;intro v5 w5 f g5))
    have b5:aQ w1 w1 w5:=aNd.below z own (aL _) aZ g5;have b0:(l++(128 :: aE k 0)++[0]:List UInt8).length=m+1:=by rw[aO,q.out];rfl
    obtain⟨A,x,ap,-⟩:=f.slice;rw[b0]at ap;rw[aRx]at f;have bT:=HM.out;exact⟨⟨k+1,by omega,f,b5⟩,by rw[ap];simp only[lenOf];omega⟩
  . have ah:k=zc:=by omega
    have t0:((m:Int) % 64 != 56)=false:=by rw[bne_eq_false_iff_eq];omega
    obtain⟨wz,rfl⟩:=ex_ wr;obtain⟨P,hP⟩:=ex_ (l++(128 :: aE zc 0))
    have Z:aNd wz w1.heap.size 5 (.slice (some (g,0)) m cp) (P++(be8 (8*s.size)).take 0):=by
     rw[List.take_zero,List.append_nil,hP,<-ah];exact own
    have lP:P.length=m:=by rw[hP,<-ah];exact b
    have bU:m<=1000064:=by omega
    have a5:P++be8 (8*s.size)=aMk l:=by
     unfold aMk;rw[hP,LL.out,J]
    have a9:=hid a5;have LP:=hid lP;clear hP lP ah hm b J own a5 b4 hk ao
    have bq:m % 64=56:=by
     have:=t0;rw[bne_eq_false_iff_eq]at this;omega
    go_wp2_with fail
    go_loopw [4,5] (fun v iv wr=>∃(j:Nat) (i:Int),j<=8/\(j:Int)+i<=7/\7<=(j:Int)+i/\iv= .int .i64 i/\aNd wr w1.heap.size 5 v (P++(be8 (8*s.size)).take j)/\aQ w1 w1 wr) (fun _ iv _=>(intOf iv+1).toNat)
    case atStart=>exact⟨0,7,by omega,by omega,by omega,rfl,Z,z⟩
    case round=>
     clear Z z;obtain⟨j,i,hj,b8,b7,rfl,own,z⟩:=hrel;have av:=z.size
     have b:(P++(be8 (8*s.size)).take j).length=m+j:=by
      rw[aO,List.length_take,aQo,LP.out];omega
     obtain⟨A,x,hv,bt,bs,a6,ay⟩:=own.slice;unfold maxLen at ay;obtain⟨H,ag⟩:=ex_ (m+j);rw[b,<-ag]at hv a6;subst hv;have q:=hid b;have aK:=hid ag;clear b ag;by_cases b6:j<8
     . obtain⟨S,hS⟩:=ex_ (8*(7-j));obtain⟨M,hM⟩:=ex_ (8*s.size);have e8:(8:Int)*i=(S:Int):=by omega
       have eM:(8:Int)*(s.size:Int)=(M:Int):=by omega
       have nS:(0:Int)<=(S:Int):=by omega
       have bN:(S:Int)<64:=by omega
       have nM:(M:Int)<=8000000:=by omega
       have bY:(M:Int) / 2 ^ S % 256=((UInt8.ofNat (M / 2 ^ S)).toNat:Int):=by
        rw[UInt8.toNat_ofNat',Int.natCast_emod,Int.natCast_ediv,Int.natCast_pow];rfl
       have af:=aZc P (8*s.size) j b6;rw[<-hM,<-hS]at af;rw[<-hM]at own;have bk:=hid af;have HM:=hid hM;have t1:decide (0<=i)=true:=by simp;omega
       generalize UInt8.ofNat (M / 2 ^ S)=c at *;clear af hM hS
       go_wp2_with (first
        | (at_builtin;refine aCz rfl _ _ 224 rfl w1.heap.size 5 i0 underlying224 hi ac ab aa (.slice (some (A,0)) H x) (P++(be8 M).take j) rfl (own.alloc _) ⟨wr.heap.size,0,none⟩ c rfl (by simp) rfl (by have:=q.out;rw[<-HM.out]at this;omega) (by simp;omega) ?_;intro v5 w5 f g5))
       have b5:aQ w1 w1 w5:=aNd.below z own (aL _) av g5;rw[bk.out,HM.out]at f;exact⟨⟨j+1,i-1,by omega,by omega,by omega,rfl,f,b5⟩,by simp[intOf];omega⟩
     . have Q:j=8:=by omega
       have t1:decide (0<=i)=false:=by simp;omega
       have a0:aNd wr w1.heap.size 5 (.slice (some (A,0)) H x) (aMk l):=by
        have h:=own;rw[Q,List.take_of_length_le (Nat.le_of_eq (aQo _)),a9.out]at h;exact h
       have bp:H % 64=0:=by have:=aK.out;omega
       have au:(aMk l).length=H:=by
        have:=q.out;rw[Q,List.take_of_length_le (Nat.le_of_eq (aQo _)),a9.out]at this;rw[this,aK.out,Q]
       clear own Q hj b8 b7;have aM:=hid au;clear au;go_wp2_with fail
       refine(aY7 _ H x _).mono ?_;rintro e w6 ⟨rfl,rfl⟩
       have E:∀(j:Nat) (c:UInt8),(aMk l)[j]? =some c->wr.cell? (A,j)=some (.int .u8 (c.toNat:Int)):=by
        intro j c R;obtain⟨g2,bC,cs,fr,hv,_,F,_⟩:=a0;injection hv with e1 _ _
        injection e1 with e1
        injection e1 with e1 _ _
        subst e1;rw[F.cell,List.getElem?_append_left (by rw[bv_length];exact(List.getElem?_eq_some_iff.1 R).1)];simp[bv,R]
       have ad:BlkIs wr w 376 (uv (bst (aMk l) 0).toL):=h1.below z aw;have T:aA4 wr:=R1.later z;have bg:aQ w w wr:=b1.trans (z.mono (by omega));have bV:w1.heap.size<=wr.heap.size:=z.size;have HD:=hid E;clear E a0 h1 b1 R1 z;go_wp2_with fail
       refine(wpIn_wide (n:=3)).1 ?_;refine aBe rfl (by omega) (gf:=287) (lb:=#[.pointer (some (wr,0)),.pointer (some (wr.heap.size+1,0))]) rfl trivial (enters_of func287 (by kernel_rfl) rfl) ?_;intro fn bf p D L B a4 hD hL u;obtain⟨K,hK⟩:∃K,H=64*K:=⟨H / 64,by omega⟩;have ar:B.heap.size=wr.heap.size+4:=by rw[u];simp
       have X:D=wr.heap.size+2:=by rw[hD];simp
       have aj:L=wr.heap.size+3:=by omega
       have Y:aQ wr wr B:=by
        rw[u];exact((((Below.refl _ wr).alloc (aL _) _).alloc (by simp) _).alloc (by simp;omega) _).alloc (by simp;omega) _
       have x1:BlkIs B wr 224 [.slice (some (A,0)) H x]:=by rw[u];exact(((BlkIs.new wr _ _).alloc _).alloc _).alloc _
       have x2:BlkIs B (wr.heap.size+1) 3 [(64:Int)]:=by
        have h:=BlkIs.new (wr.alloc (.cells #[.slice (some (A,0)) H x] 224)) 3 #[(64:Int)];rw[World.size_alloc]at h;rw[u];exact(h.alloc _).alloc _
       have lL:B.heap[L]? =some (.loop (p .ready none)):=by rw[u];exact aAn _ _ _ (by rw[aj];simp)
       have dD:B.heap[D]? =some (.deferred (some [])):=by
        rw[u];exact(Below.heap_alloc _ _ _ (by rw[X];simp)).trans (aAn _ _ _ (by rw[X];simp))
       have aS:=ad.later Y;have bj:=T.later Y;have aH:aQ w w B:=Below.next bg Y;have aG:∀(j:Nat) (c:UInt8),(aMk l)[j]? =some c->B.cell? (A,j)=some (.int .u8 (c.toNat:Int)):=fun j c R=>(Y.cell (aAl (HD.out j c R))).trans (HD.out j c R);have bw:=T.lt
       have aW:1≠w.heap.size:=by
        intro e;obtain⟨t,fr,h⟩:=T;have h2:=ad;rw[<-e]at h2;have:=(show wr.heap[1]? =_ from h2).symm.trans h;simp[uv,V8.toL,aS7]at this
       have j0:SumJ B (p .ready none) w.heap.size L (aMk l) 0 B:=⟨lL,aS,rfl,rfl,rfl,aL _,fun _ _ _ _=>rfl⟩;have a8:=hid a4;clear a4 u hD hL ad T;refine(aVo (3-1) (by omega) L wr.heap.size (wr.heap.size+1) A H x K hK a6 (by omega) (SumJ B (p .ready none) w.heap.size L (aMk l)) ?hbox ?hdr ?hY B j0).mono ?hend
       case hbox=>
        intro k W o;exact⟨(o.other x1 (by omega) (by omega)).cell 0,(o.other x2 (by omega) (by omega)).cell 0⟩
       case hdr=>
        intro k W o;exact⟨o.rl,o.blk,o.os,o.tape,o.output,o.size,o.block⟩
       case hY=>
        intro k W hk o;refine aCr bf a8.out o.rl rfl ?_;have r:(aMk l).length=64*K:=aM.trans hK;have bc:A≠L:=by omega
        have bb:A≠w.heap.size:=by omega
        have G:w.heap.size≠L:=by omega
        have aX:1≠L:=by omega
        have aD:(((aMk l).drop (64*k)).take 64).length=64:=by
         rw[List.length_take,List.length_drop,r];omega
        have aN:=hid aD;have c3:=hid r;clear aD r ar X aj hK;simp only[List.zip_toArray,List.zip_cons_cons,List.zip_nil_right,List.foldl_toArray',List.foldl_cons,List.foldl_nil,List.setIfInBounds_toArray,List.set]
        gi_wp2
        refine⟨o.rl,?_⟩;have V:=o.busy (r1:=p .busy none) G;generalize W.putObj L (.loop (p .busy none))=W2 at *
        gi_wp2
        refine⟨trivial,?_⟩;refine(CallsIn.inRound L (callsIn_wide.2 (bDq W2 w.heap.size (bst (aMk l) k) V.blk (aZ2 _ _) A (64*k) 64 (((aMk l).drop (64*k)).take 64) aN.out ?_ (V.round bj aW aX)))).mono ?_
        . intro j c R;have hj:j<64:=by have h1:=(List.getElem?_eq_some_iff.1 R).1;rw[aN.out]at h1;exact h1
          rw[List.getElem?_take,if_pos hj,List.getElem?_drop]at R;exact V.cell (a:=⟨A,64*k+j,none⟩) (aG _ _ R) bb bc
        . rintro e W3 ⟨rfl,hn,hu⟩;have aF:=V.step G hu hn
          gi_wp2
          exact aA2 a8.out aF.rl ⟨rfl,aF.busy G⟩
       case hend=>
        rintro e W2 ⟨⟨v,rfl⟩,o⟩;refine⟨⟨v,rfl⟩,.ready,none,(fun h=>by cases h),o.rl,?_⟩;have G:w.heap.size≠L:=by omega
        have U:=o.busy (r1:=p .exhausted none) G;have ai:=U.below aH (aL _) (by omega);have aA:(W2.putObj L (.loop (p .exhausted none))).heap[D]? =some (.deferred (some [])):=(U.block D (by omega) (by omega) (by omega)).trans dD;have F:=U.blk
        have a3:aS6 (bst (aMk l) K)=aTj l:=by
         rw[aZ3];unfold aTj;rw[aM.out,hK,Nat.mul_div_cancel_left _ (by omega)]
        have bh:w.heap.size<=D:=by omega
        clear o U ar X aj hK;generalize W2.putObj L (.loop (p .exhausted none))=W4 at *;have aJ:=hid a3;clear a3;simp only[aH6];have i8:=aYk (l:=(bst (aMk l) K).toL) rfl
        go_wp2_with (first
         | (refine wpList_load_row rfl 376 (.tmp 3) rfl w.heap.size rfl 376 (uv (bst (aMk l) K).toL).toArray (0,0) _ F underlying376 rfl i8 ?_))
        refine(aVk (bst (aMk l) K) (aZ2 _ _) W4).mono ?_;rintro e W5 ⟨rfl,b5⟩;rw[aJ.out];have az:=(b5.block D (aAc aA)).trans aA;have aI:=Below.next ai b5;go_wp2_with fail
        refine⟨by simp,.inl ⟨_,_,rfl,run_takeDeferred az,?_⟩⟩;refine⟨_,results_tmp (t:=2) rfl _ _ _,?_⟩;exact⟨rfl,aAm aI _ bh aI.size⟩
end
end Go.Proofs.YtmhpfoicloojcaaGreatDoor
