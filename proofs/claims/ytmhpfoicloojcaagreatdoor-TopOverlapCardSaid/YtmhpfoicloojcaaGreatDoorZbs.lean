/- Walks: match.Index; Apply of the cache. -/
import Derived.Test.YtmhpfoicloojcaaGreatDoorZbr
set_option linter.all false
open List renaming getElem?_cons_zero→aJ,getElem?_cons_succ→bT,mem_cons→bV,append_toArray→cG,setIfInBounds_toArray→cH,not_mem_nil→cI,size_toArray→cL,push_toArray→cM,length_cons→cN,cons_append→cO,length_nil→cQ,nil_append→cS,foldl_toArray'→cX,zip_cons_cons→dA,zip_nil_right→dB,zip_toArray→dG,foldl_cons→dI,foldl_nil→dJ
open Go.RowKit.Below renaming refl→bS,drew→cB,heap_alloc→dM
open Go.World renaming size_alloc→cA,putObj_heap_same→dC,putObj_heap_other→dK,putObj_size→dL,ownsRow_nil→dO
open Nat renaming le_refl→cC,le_trans→cJ,reduceAdd→cY,reduceSub→cZ
open Array renaming replicate_succ→cD,replicate_zero→cE
open Go.Instr renaming lookup→cK
open Go.Value renaming oneCell'→cP,ownBlock→cV
open Go renaming World→dP,Value→dQ,TypeId→dS,Calls→dT
open Go.RowKit renaming Below→dR
namespace Go.Proofs.YtmhpfoicloojcaaGreatDoor
open Below renaming next→bP,al→cU
open GoT renaming P0→cW,A0→dD,AG→dE,AS→dF
open Ch renaming refl→dH,of_below→dN
set_option maxRecDepth 100000
set_option maxHeartbeats 16000000
section
open Go.Proofs.Tryz
open Go Go.RowKit Go.Shelf
attribute [local go_sem] Oper.semAt_some
theorem Ch.belowM {M:Nat} {S:List Nat} {a b d:dP} (h:Ch S a b) (hM:a.heap.size<=M) (hb:dR M b d):Ch S a d:=
 ⟨hb.os.trans h.os,hb.tape.trans h.tape,hb.output.trans h.output,cJ h.size hb.size,fun k hk hn=>(hb.block k (by omega)).trans (h.block k hk hn)⟩
theorem RJ.belowM {M N L:Nat} {SS:List Nat} {W0 W W':dP} {rec:Loop} {fx:List (Nat×Obj)} {J:dP->Prop} (h:RJ SS W0 rec L fx J W) (hJ:∀W W',J W->dR N W W'->J W') (hn:N<=M) (hM:W0.heap.size<=M) (hL:L<M) (hf:∀p∈fx,p.1<M) (hb:dR M W W'):RJ SS W0 rec L fx J W':=
 ⟨hJ _ _ h.j (hb.mono hn),(hb.block L hL).trans h.l,fun p hp=>(hb.block p.1 (hf p hp)).trans (h.f p hp),h.c.belowM hM hb⟩
theorem aXs:prog.underlying 261=some (.map 3 56):=underlying261
theorem aN9:(prog.info? 116).map (·.size)=some 5:=by kernel_rfl
theorem bAx (n:Nat) (hn:6<=n) (N l bC bL O S J g c:Nat) (og:Obj) (SS:List Nat) (J0 J1:dP->Prop) (Y:Yld N l #[(1:Int)] SS J0 J1) (hj0:∀V,J0 V->NearS SS V bC bL O S J g c og) (hj1:∀V,J1 V->NearS SS V bC bL O S J g c og) (hc1:1<=c) (W:dP) (h0:J0 W) :
 CallsIn Fence.wide n prog 136 #[.func (.yield l) #[] #[],.pointer (some (bC,0)),.pointer (some (bL,0))] W fun e W'=>(∃v,e= .returned v)/\J1 W'/\Ch SS W W':=by
 have cR:1<=n:=by omega
 have aF:=fun V=>aWv aGl V;unfold aD8 chgCells aGl at aF;dsimp only at aF;obtain⟨bF,o,bM,bK,H0⟩:=aDs aF Y hj0 hj1 h0;clear aF Y hj0 hj1 h0;refine callsIn_of_wp_marks func136 rfl trivial ?_ rfl;simp only[ntmps136,cL,cN,cQ,cY,cZ,cD,cE,cM,cG,cS,cO]
 gi_upto_region 1 with fail
 have bA:=cU W (.cells #[.func (.yield l) #[] #[]] 78);have KY:=hid (show BlkIs (W.alloc (.cells #[.func (.yield l) #[] #[]] 78)) W.heap.size 78 [.func (.yield l) #[] #[]]from aAo _ _ _ rfl);have KC:=((bM.out _ H0.out).below bA).kc;have HA:=hid bA;clear bA;generalize W.alloc (.cells #[.func (.yield l) #[] #[]] 78)=w1 at *;obtain⟨a0,a1,a2,a3,a4,a5,a6,a7,a8,a9⟩:=KC.C10;clear KC
 gi_wp2
 refine⟨trivial,?_⟩;refine(callsIn_wide.2 (bF.out w1)).mono ?_;rintro e w3 ⟨rfl,b9,b3⟩;obtain⟨KB,H3,bx,cn,cm⟩:=aDs b9 (bP HA.out b3) (KY.later b3) (show W.heap.size<w1.heap.size from KY.lt) (show w1.heap.size<w3.heap.size from b9.lt);clear b3 b9 KY HA a0 a1 a2 a3 a4 a5 a6 a7 a8 a9
 gi_wp2
 refine aBe rfl (by omega) (gf:=198) (lb:=#[.pointer (some (w1,0))]) rfl trivial (enters_of func198 (by kernel_rfl) rfl) ?_;intro fn c7 d D L W1 aO hD hL av;have h5:=w3.size_alloc (.deferred (some []));have bD:=((bS w3.heap.size w3).alloc (cC _) (.deferred (some []))).alloc (by omega) (.loop (d .ready none));rw[<-av]at bD;have bj:W1.heap.size=w3.heap.size+2:=by rw[av,cA,h5]
 have lD:W1.heap[D]? =some (.deferred (some [])):=by
  rw[av,hD];exact(dM _ _ _ (by omega)).trans (heap_alloc_new w3 _)
 have lL:W1.heap[L]? =some (.loop (d .ready none)):=by
  have:=heap_alloc_new (w3.alloc (.deferred (some []))) (.loop (d .ready none));rw[h5]at this;rw[av,hL,hD];exact this
 obtain⟨H4,bB,bw,HD,aU⟩:=aDs (bP H3.out bD) (KB.later bD) (bx.later bD) (show D=w3.heap.size/\L=w3.heap.size+1/\W.heap.size<w1.heap.size/\w1.heap.size<w3.heap.size/\W1.heap.size=w3.heap.size+2 from⟨hD,by omega,cn.out,cm.out,bj⟩) aO;have bN:N<=W.heap.size:=o.n0 _ H0.out
 have F:RF N SS W L [(D,.deferred (some [])),(W.heap.size,.cells #[.func (.yield l) #[] #[]] 78 (0,0))]:=by
  have hh:=HD.out;refine⟨o.ss,by omega,by omega,?_⟩;intro p C;simp only[bV,cI,or_false]at C;rcases C with rfl|rfl
  . exact⟨fun h=>(by have:=o.ss _ h;dsimp only at this;omega),by dsimp only;omega⟩
  . exact⟨fun h=>(by have:=o.ss _ h;dsimp only at this;omega),by dsimp only;omega⟩
 have j0:RJ SS W (d .ready none) L [(D,.deferred (some [])),(W.heap.size,.cells #[.func (.yield l) #[] #[]] 78 (0,0))] J0 W1:=by
  refine⟨o.b0 _ _ H0.out (H4.mono bN),lL,?_,.of_below H4.out⟩;intro p C;simp only[bV,cI,or_false]at C;rcases C with rfl|rfl
  . exact lD
  . exact bw.out
 have HF:=hid F;have cr:=hid bN;obtain⟨fx,aY⟩:∃fx:List (Nat×Obj),fx=[(D,.deferred (some [])),(W.heap.size,.cells #[.func (.yield l) #[] #[]] 78 (0,0))]:=⟨_,rfl⟩;rw[<-aY]at j0 HF;have be:=hid aY
 have b4:∀k∈L :: SS,k<W1.heap.size:=by
  have hh:=HD.out;intro k G;rcases bV.1 G with rfl|G
  . omega
  . have:=o.ss _ G;omega
 have b7:w1.heap.size∉L :: SS:=by
  have hh:=HD.out;intro G;rcases bV.1 G with h|G
  . omega
  . have:=o.ss _ G;omega
 clear h5 hD hL aO bw KB H3 bx av bD F bN aY bj lD lL bF;refine(aWw (n-1) (by omega) L w1.heap.size (L :: SS) (RJ SS W (d .ready none) L fx J0) (RJ SS W (d .ready none) L fx J1) (fun V V' h z=>h.below o.b0 (o.n0 _ h.j) z) (fun V V' h z=>h.below o.b1 (o.n1 _ h.j) z) ?hY W1 b4 b7 j0 bB.out).mono ?hend
 case hY=>
  intro V x;unfold rwV bCa;dsimp only;have HV:=hid x;refine aCr c7 aU.out x.l rfl ?_;simp only[dG,dA,dB,cX,dI,dJ,cH,List.set];clear x b4 b7 j0 bB H4
  gi_wp2
  have bI:=cU V (.cells #[(),(6:Int),(11:Int),(9:Int),(7:Int)] 116);have KT:=(show BlkIs (V.alloc (.cells #[(),(6:Int),(11:Int),(9:Int),(7:Int)] 116)) V.heap.size 116 [(),(6:Int),(11:Int),(9:Int),(7:Int)]from aAo _ _ _ rfl);have aI:=HV.below o.b0 (o.n0 _ HV.j) bI;have c9:=aAc HV.l;have c8:=o.n0 _ HV.j;obtain⟨tb,aV⟩:=ex_ V.heap.size;have bb:=hid (show tb∉SS/\tb≠L/\N<=tb/\tb=V.heap.size from⟨fun h=>(by have:=o.ss _ h;omega),by omega,by omega,aV⟩);have bQ:=dN (S:=L :: SS) bI;rw[<-aV]at KT⊢;generalize V.alloc (.cells #[(),(6:Int),(11:Int),(9:Int),(7:Int)] 116)=Vi at *;refine⟨aI.l,?_⟩;have ax:=aI.put (rec':=d .busy none) o.b0 (o.n0 _ aI.j) HF.out;have bz:=KT.put (.loop (d .busy none)) bb.2.1;have bR:=hid (bQ.putObj (.inl (.head _)) (.loop (d .busy none)));generalize Vi.putObj L (.loop (d .busy none))=Vb at *;obtain⟨fy,aH⟩:∃fy:List (Nat×Obj),fy=(tb,.cells #[(),(6:Int),(11:Int),(9:Int),(7:Int)] 116 (0,0)) :: fx:=⟨_,rfl⟩;have aL:=hid aH
  have bO:=hid (show RF N SS W L fy by
   rw[aH];refine⟨HF.ss,HF.hl,HF.hw,?_⟩;intro p C;rcases bV.1 C with rfl|C
   . exact⟨bb.1,bb.2.1⟩
   . exact HF.hf p C)
  have R:=hid (show RJ SS W (d .busy none) L fy J0 Vb by
   rw[aH];refine⟨ax.j,ax.l,?_,ax.c⟩;intro p C;rcases bV.1 C with rfl|C
   . exact bz
   . exact ax.f p C)
  clear aH ax bz KT aI c9 c8 bI bQ aV HV;obtain⟨H,ai⟩:∃H:Nat->dP->Prop,H=fun c=>if c<=1 then J0 else J1:=⟨_,rfl⟩;have d6:=hid ai
  have aA:=hid (show∀k V V',H k V->dR N V V'->H k V' by
   intro k V V' h z;rw[ai]at h⊢;by_cases G:k<=1 <;> simp only[G,if_true,if_false]at h⊢
   . exact o.b0 _ _ h z
   . exact o.b1 _ _ h z)
  have af:=hid (show∀k V,H k V->N<=V.heap.size by
   intro k V h;rw[ai]at h;split at h
   . exact o.n0 _ h
   . exact o.n1 _ h)
  have bc:=hid (show∀k V,H k V->NearS SS V bC bL O S J g c og by
   intro k V h;rw[ai]at h;split at h
   . exact bM.out _ h
   . exact bK.out _ h)
  have az:=hid (show H 0=J0/\H 1=J0/\H 2=J1/\H 4=J1/\∀k,k≠1->H (k+1)=H k by
   rw[ai];refine⟨rfl,rfl,rfl,rfl,?_⟩;intro k G;dsimp only;split <;> split <;> first|rfl|omega)
  clear ai
  gi_wp2
  gi_loopw [12] (fun iv wr=>∃k:Nat,k<=4/\iv= .int .i64 k/\Hid (RJ SS W (d .busy none) L fy (H k) wr/\Ch (L :: SS) V wr)) (fun iv _=>(4-intOf iv).toNat)
  case atStart=>
   refine⟨0,by omega,rfl,hid ⟨?_,bR.out⟩⟩;rw[az.1];exact R.out
  case round=>
   obtain⟨k,G,rfl,x⟩:=hrel;clear R bR;by_cases aX:k<4
   . have t1:decide ((k:Int)<4)=true:=by simp;omega
     gi_wp2
     by_cases bl:k=1
     . obtain rfl:=bl;have r:=fun b=>aIx bCa 1 b;unfold rwV bCa at r;dsimp only at r;rw[show(Rw.val ⟨0,6,(11,9,7)⟩ 1:Int)=11 from rfl]at r;have X:=hid r;clear r
       have M:=hid (show∀W':dP,dR wr wr W'->(fun b=>b.cell? (bL,0)=some (.pointer (some (O,0)))/\b.cell? (O,0)=some (.map (some S))/\b.cell? (bC,0)=some (.int .i64 0)/\BlkIs b tb 116 [(),(6:Int),(11:Int),(9:Int),(7:Int)]/\(cK 260 (.map (some S)) (.agg #[(),(1:Int)]) false).run prog b= .ok (.slice (some (g,0)) 1 c) b) W' by
        intro b z;have hs:=(bc.out _ _ x.1.j).below z;have ht:=x.1.f (tb,.cells #[(),(6:Int),(11:Int),(9:Int),(7:Int)] 116 (0,0)) (by rw[aL.out];exact .head _);have aW:BlkIs b tb 116 [(),(6:Int),(11:Int),(9:Int),(7:Int)]:=BlkIs.later ht z;exact⟨hs.kl.cell 0,hs.ko.cell 0,hs.kc.cell 0,aW,aSl aI3 aMr aNw (P:=prog) hs.ks⟩)
       refine aDm (fun b=>b.cell? (bL,0)=some (.pointer (some (O,0)))/\b.cell? (O,0)=some (.map (some S))/\b.cell? (bC,0)=some (.int .i64 0)/\BlkIs b tb 116 [(),(6:Int),(11:Int),(9:Int),(7:Int)]/\(cK 260 (.map (some S)) (.agg #[(),(1:Int)]) false).run prog b= .ok (.slice (some (g,0)) 1 c) b) (.take 0 (.take 1 (.take 2 (.take 3 (.take 4 (.take 5 (.take 6 (.take 7 (.take 8 (.take 9 (.take 10 (.step 11 (.step 12 .done))))))))))))) (by kernel_rfl) (by as_aux_lemma=>kernel_rfl) (by as_aux_lemma=>kernel_rfl) (by kernel_rfl) (M.out _ (cB (bS _ wr))) (fun _=>?_);obtain⟨wd,A⟩:=ex_ wr.drew;have U:=hid (show dR wr wr wd from by rw[A];exact cB (bS _ wr));rw[<-A];clear A
       repeat (first
        | (refine aAd.A0 ?_ (hy:=by intro wq aZ;exact aAe 116 _ rfl tb rfl 116 #[(),(6:Int),(11:Int),(9:Int),(7:Int)] (0,0) _ aZ.2.2.2.1 underlying116 rfl aN9))
        | refine aAd.A0 ?_|refine aAd.AG ?_|refine aAd.AS ?_|with_reducible apply aAd.fork|with_reducible apply aAd.fork3|refine dD ?_|refine dE ?_|refine dF ?_|fail)
       with_reducible apply aAd.step
       refine cW ?_;intro K hK;go_simp;go_at_call 91
       (with_reducible refine(X.out wd).mono ?_)
       rintro e Z ⟨rfl,g5⟩;try go_simp
       have H5:=hid (bP U.out g5.below);refine hK.out _ _ (M.out _ H5.out) (fun _=>?_);clear hK K g5 U;refine aBq ?_;with_reducible apply aAd.step
       refine cW ?_;intro K hK;go_simp;go_at_call 138
       (with_reducible refine(aHs (some ⟨g,0,none⟩) 1 c 11 Z).mono ?_)
       rintro e u ⟨rfl,ar,aq,b6⟩;try go_simp
       obtain⟨H6,ay,ae,bg⟩:=aBp (bP H5.out b6) ar aq H5.size;refine hK.out _ _ (M.out _ H6.out) (fun _=>?_);clear hK K b6 ar aq H5 M X;refine aBq ?_;refine aAd.done ?_;refine aGc.normal ?_;have i:=hid (show RJ SS W (d .busy none) L fy (H 1) u/\Ch (L :: SS) V u from⟨x.1.below (aA.out _) (af.out _ _ x.1.j) H6.out,x.2.trans (.of_below H6.out)⟩);have ba:=hid (af.out _ _ x.1.j);clear x
       gi_wp2
       refine aGg rfl i.1.l (by omega) (gf:=199) (lb:=#[.pointer (some (Z,0)),.pointer (some (Z.heap.size+1,0))]) rfl trivial (enters_of func199 (by kernel_rfl) rfl) ?_;intro cb aP a s W3 B ab au;have t:=cU u (.loop (a .ready none));have l3:=heap_alloc_new u (.loop (a .ready none));have s3:=u.size_alloc (.loop (a .ready none));rw[<-au]at t l3 s3;rw[<-ab]at l3;obtain⟨ac,ak,aj,q,bd,am,T,bh⟩:=aMy (show RJ SS W (d .busy none) L fy (H 1) W3/\Ch (L :: SS) V W3 from⟨i.1.below (aA.out _) (af.out _ _ i.1.j) t,i.2.trans (.of_below t)⟩) (ay.later t) (ae.later t) (show s=u.heap.size/\W3.heap.size=u.heap.size+1/\N<=Z.heap.size/\Z.heap.size+1<u.heap.size/\L<u.heap.size from⟨ab,s3,cJ ba.out bg.out,ae.lt,aAc i.1.l⟩) B (show∀p∈fy,p.1<u.heap.size from fun p C=>aAc (i.1.f p C)) (show W.heap.size<=u.heap.size/\V.heap.size<=u.heap.size from⟨i.1.c.size,i.2.size⟩) t;clear B ab au s3 t ay ae H6;have E:=bc.out _ _ ac.1.j
       have Y3:Yld W3.heap.size s #[(1:Int)] (s :: SS) (fun b=>(RJ SS W (d .busy none) L fy J0 b/\Ch (L :: SS) V b)/\b.heap[s]? =some (.loop (a .ready none))/\W3.heap.size<=b.heap.size) (fun b=>(RJ SS W (d .busy none) L fy J1 b/\Ch (L :: SS) V b)/\b.heap[s]? =some (.loop (a .ready none))/\W3.heap.size<=b.heap.size):=by
        have hd:=q.out;have hm:=T.out;refine⟨?_,?_,?_,fun b h=>h.2.2,fun b h=>h.2.2,?_⟩
        . intro k G;rcases bV.1 G with rfl|G
          . omega
          . have:=o.ss _ G;omega
        . rintro b V3 ⟨⟨h1,h2⟩,h3,h4⟩ z;exact⟨⟨h1.belowM o.b0 (by omega) (by omega) (by omega) (fun p C=>Nat.lt_trans (am.out p C) (by omega)) z,h2.belowM (by omega) z⟩,(z.block s (by omega)).trans h3,cJ h4 z.size⟩
        . rintro b V3 ⟨⟨h1,h2⟩,h3,h4⟩ z;exact⟨⟨h1.belowM o.b1 (by omega) (by omega) (by omega) (fun p C=>Nat.lt_trans (am.out p C) (by omega)) z,h2.belowM (by omega) z⟩,(z.block s (by omega)).trans h3,cJ h4 z.size⟩
        . rintro m b ⟨⟨h1,h2⟩,h3,h4⟩;refine aCr aP bd.out h3 rfl ?_;simp only[dG,dA,dB,cX,dI,dJ,cH,List.set];obtain⟨cp,co,bH,bG⟩:=aBp h1 h2 h3 h4;clear h1 h2 h3 h4 hd hm E l3 ac i ak aj
          gi_wp2
          refine⟨bH.out,?_⟩;have bp:dR u b (b.putObj s (.loop (a .busy none))):=aAm (bS _ _) _ (by have:=q.out;omega) (by have:=q.out;have:=bG.out;omega);obtain⟨r1,r2,R3,R4,R5⟩:=aDs (cp.belowM o.b0 (by have:=q.out;omega) T.1 q.2.2.2.2 am.out bp) (co.belowM T.2 bp) (show(b.putObj s (.loop (a .busy none))).heap[s]? =some (.loop (a .busy none))from dC (aAc bH.out)) (show Ch (s :: SS) b (b.putObj s (.loop (a .busy none)))from(dH _ _).putObj (.inl (.head _)) _) (show W3.heap.size<=(b.putObj s (.loop (a .busy none))).heap.size by rw[dL];exact bG.out);clear bp;generalize b.putObj s (.loop (a .busy none))=Vc at *;have y0:=BlkIs.cell (show BlkIs Vc W 78 [.func (.yield l) #[] #[]]from r1.f (W.heap.size,.cells #[.func (.yield l) #[] #[]] 78 (0,0)) (by rw[aL.out,be.out];exact .tail _ (.tail _ (.head _)))) 0;dsimp only[aJ]at y0;obtain⟨cT,bX,bt,cd,bY,hR⟩:=o.y 0 Vc r1.j;have HR:=hid hR;clear hR
          gi_wp2
          refine⟨fun h=>absurd h (by decide),(aNn (L:=s) HR.out).mono ?_⟩;rintro e W' ⟨rfl,hj1,Q⟩;have aR:Ch (L :: SS) Vc W':=Q.mono fun k G=> .tail _ G;have aQ:Ch (s :: SS) Vc W':=Q.mono fun k G=> .tail _ G;obtain⟨s1,s2,s3,s4,s5⟩:=aDs (r1.step bO.out hj1 Q) (r2.trans aR) ((Q.block s (aAc R3.out) (fun h=>by have:=o.ss _ h;have:=q.out;omega)).trans R3.out) (R4.trans aQ) (cJ R5.out Q.size);clear HR bY hj1 Q aR aQ y0 r1 r2 R3 R4 R5
          gi_wp2
          have bq:dR u W' (W'.putObj s (.loop (a .ready none))):=aAm (bS _ _) _ (by have:=q.out;omega) (by have:=q.out;have:=s5.out;omega);exact aA2 bd.out s3.out ⟨rfl,⟨⟨s1.belowM o.b1 (by have:=q.out;omega) T.1 q.2.2.2.2 am.out bq,s2.belowM T.2 bq⟩,dC (aAc s3.out),by rw[dL];exact s5.out⟩,s4.putObj (.inl (.head _)) _⟩
       refine(CallsIn.inRound L (aQi (n-1-1-1) (by omega) W3.heap.size s Z.heap.size (Z.heap.size+1) g c (s :: SS) _ _ Y3 W3 ⟨⟨by have:=ac.1;rw[az.2.1]at this;exact this,ac.2⟩,l3,cC _⟩ ak.out aj.out (fun h=>by
        have hd:=q.out;rcases bV.1 h with h|h
        . omega
        . have:=o.ss _ h;omega) hc1 E.lt.2.2.2.2.2 E.c0 E.c1 E.c2 E.c3)).mono ?_
       rintro e W2 ⟨⟨v,rfl⟩,⟨⟨h1,h2⟩,h3,h4⟩,-⟩;refine⟨⟨v,rfl⟩,.ready,none,(fun h=>by cases h),h3,?_⟩;have bq:dR u W2 (W2.putObj s (.loop (a .exhausted none))):=aAm (bS _ _) _ (by have:=q.out;omega) (by have:=q.out;omega);have b5:=hid (show RJ SS W (d .busy none) L fy (H (1+1)) (W2.putObj s (.loop (a .exhausted none)))/\Ch (L :: SS) V (W2.putObj s (.loop (a .exhausted none)))from⟨by rw[az.2.2.1];exact h1.belowM o.b1 (by have:=q.out;omega) T.1 q.2.2.2.2 am.out bq,h2.belowM T.2 bq⟩);clear h1 h2 h3 h4 bq Y3 E ak aj;clear ac i l3;generalize W2.putObj s (.loop (a .exhausted none))=W8 at *;dsimp only
       gi_wp2
       exact⟨⟨2,by omega,by first|rfl|(congr 1;simp[wrap64];omega)|simp,b5⟩,by first|(simp[intOf];done)|(simp[intOf];omega)⟩
     . skip
       obtain⟨kl,bk⟩:=bD0 k aX;have cq:=hid bk;have bJ:=hid bl;clear bk;have r:=fun b=>aIx bCa k b;unfold rwV bCa at r;dsimp only at r;generalize (Rw.val ⟨0,6,(11,9,7)⟩ k:Int)=vk at r;have X:=hid r;clear r
       have M:=hid (show∀W':dP,dR wr wr W'->(fun b=>b.cell? (bL,0)=some (.pointer (some (O,0)))/\b.cell? (O,0)=some (.map (some S))/\b.cell? (bC,0)=some (.int .i64 0)/\BlkIs b tb 116 [(),(6:Int),(11:Int),(9:Int),(7:Int)]/\(cK 260 (.map (some S)) (.agg #[(),k]) false).run prog b= .ok (.slice none 0 0) b) W' by
        intro b z;have hs:=(bc.out _ _ x.1.j).below z;have ht:=x.1.f (tb,.cells #[(),(6:Int),(11:Int),(9:Int),(7:Int)] 116 (0,0)) (by rw[aL.out];exact .head _);have aW:BlkIs b tb 116 [(),(6:Int),(11:Int),(9:Int),(7:Int)]:=BlkIs.later ht z;exact⟨hs.kl.cell 0,hs.ko.cell 0,hs.kc.cell 0,aW,aSk aI3 aMr aNw cq.out (bFe (k:Nat) (by have:=bJ.out;omega)) hs.ks (zeroValue269 b)⟩)
       refine aDm (fun b=>b.cell? (bL,0)=some (.pointer (some (O,0)))/\b.cell? (O,0)=some (.map (some S))/\b.cell? (bC,0)=some (.int .i64 0)/\BlkIs b tb 116 [(),(6:Int),(11:Int),(9:Int),(7:Int)]/\(cK 260 (.map (some S)) (.agg #[(),k]) false).run prog b= .ok (.slice none 0 0) b) (.take 0 (.take 1 (.take 2 (.take 3 (.take 4 (.take 5 (.take 6 (.take 7 (.take 8 (.take 9 (.take 10 (.step 11 (.step 12 .done))))))))))))) (by kernel_rfl) (by as_aux_lemma=>kernel_rfl) (by as_aux_lemma=>kernel_rfl) (by kernel_rfl) (M.out _ (cB (bS _ wr))) (fun _=>?_);obtain⟨wd,A⟩:=ex_ wr.drew;have U:=hid (show dR wr wr wd from by rw[A];exact cB (bS _ wr));rw[<-A];clear A
       repeat (first
        | (refine aAd.A0 ?_ (hy:=by intro wq aZ;exact aAe 116 _ rfl tb rfl 116 #[(),(6:Int),(11:Int),(9:Int),(7:Int)] (0,0) _ aZ.2.2.2.1 underlying116 rfl aN9))
        | refine aAd.A0 ?_|refine aAd.AG ?_|refine aAd.AS ?_|with_reducible apply aAd.fork|with_reducible apply aAd.fork3|refine dD ?_|refine dE ?_|refine dF ?_|fail)
       with_reducible apply aAd.step
       refine cW ?_;intro K hK;go_simp;go_at_call 91
       (with_reducible refine(X.out wd).mono ?_)
       rintro e Z ⟨rfl,g5⟩;try go_simp
       have H5:=hid (bP U.out g5.below);refine hK.out _ _ (M.out _ H5.out) (fun _=>?_);clear hK K g5 U;refine aBq ?_;with_reducible apply aAd.step
       refine cW ?_;intro K hK;go_simp;go_at_call 138
       (with_reducible refine(aHs none 0 0 vk Z).mono ?_)
       rintro e u ⟨rfl,ar,aq,b6⟩;try go_simp
       obtain⟨H6,ay,ae,bg⟩:=aBp (bP H5.out b6) ar aq H5.size;refine hK.out _ _ (M.out _ H6.out) (fun _=>?_);clear hK K b6 ar aq H5 M X;refine aBq ?_;refine aAd.done ?_;refine aGc.normal ?_;have i:=hid (show RJ SS W (d .busy none) L fy (H k) u/\Ch (L :: SS) V u from⟨x.1.below (aA.out _) (af.out _ _ x.1.j) H6.out,x.2.trans (.of_below H6.out)⟩);have ba:=hid (af.out _ _ x.1.j);clear x
       gi_wp2
       refine aGg rfl i.1.l (by omega) (gf:=199) (lb:=#[.pointer (some (Z,0)),.pointer (some (Z.heap.size+1,0))]) rfl trivial (enters_of func199 (by kernel_rfl) rfl) ?_;intro cb aP a s W3 B ab au;have t:=cU u (.loop (a .ready none));have l3:=heap_alloc_new u (.loop (a .ready none));have s3:=u.size_alloc (.loop (a .ready none));rw[<-au]at t l3 s3;rw[<-ab]at l3;obtain⟨ac,ak,aj,q,bd,am,T,bh⟩:=aMy (show RJ SS W (d .busy none) L fy (H k) W3/\Ch (L :: SS) V W3 from⟨i.1.below (aA.out _) (af.out _ _ i.1.j) t,i.2.trans (.of_below t)⟩) (ay.later t) (ae.later t) (show s=u.heap.size/\W3.heap.size=u.heap.size+1/\N<=Z.heap.size/\Z.heap.size+1<u.heap.size/\L<u.heap.size from⟨ab,s3,cJ ba.out bg.out,ae.lt,aAc i.1.l⟩) B (show∀p∈fy,p.1<u.heap.size from fun p C=>aAc (i.1.f p C)) (show W.heap.size<=u.heap.size/\V.heap.size<=u.heap.size from⟨i.1.c.size,i.2.size⟩) t;clear B ab au s3 t ay ae H6;refine(CallsIn.inRound L (aOw (n-1-1-1) (by omega) s Z.heap.size (Z.heap.size+1) vk W3 ak.out aj.out)).mono ?_;rintro e W2 ⟨⟨v,rfl⟩,b2⟩;refine⟨⟨v,rfl⟩,.ready,none,(fun h=>by cases h),(b2.block s (by have:=q.out;omega)).trans l3,?_⟩;have bq:dR u u (W2.putObj s (.loop (a .exhausted none))):=aAm (bP bh.out b2) _ (by have:=q.out;omega) (bP bh.out b2).size;have b5:=hid (show RJ SS W (d .busy none) L fy (H (k+1)) (W2.putObj s (.loop (a .exhausted none)))/\Ch (L :: SS) V (W2.putObj s (.loop (a .exhausted none)))from⟨by rw[az.2.2.2.2 k bJ.out];exact i.1.below (aA.out _) (af.out _ _ i.1.j) bq,i.2.trans (.of_below bq)⟩);clear bq b2 ak aj;clear ac i l3;generalize W2.putObj s (.loop (a .exhausted none))=W8 at *;dsimp only
       gi_wp2
       exact⟨⟨k+1,by omega,by first|rfl|(congr 1;simp[wrap64];omega)|simp,b5⟩,by first|(simp[intOf];done)|(simp[intOf];omega)⟩
   . have t1:decide ((k:Int)<4)=false:=by simp;omega
     obtain rfl:k=4:=by omega
     have hq:=x.out;rw[az.2.2.2.1]at hq;have aG:=hid hq;clear hq x
     gi_wp2
     exact aA2 aU.out aG.1.l ⟨rfl,(by have h:=aG.1.put (rec':=d .ready none) o.b1 (o.n1 _ aG.1.j) bO.out;exact⟨h.j,h.l,fun p C=>h.f p (by rw[aL.out];exact .tail _ C),h.c⟩),aG.2.putObj (.inl (.head _)) _⟩
 case hend=>
  rintro e W2 ⟨⟨v,rfl⟩,x,Q⟩;refine⟨⟨v,rfl⟩,.ready,none,(fun h=>by cases h),x.l,?_⟩;have R:=hid (x.put (rec':=d .exhausted none) o.b1 (o.n1 _ x.j) HF.out);clear j0 x Q b4 b7;generalize W2.putObj L (.loop (d .exhausted none))=W4 at *;have aX:W4.heap[D]? =some (.deferred (some [])):=R.f (D,.deferred (some [])) (by rw[be.out];exact .head _);simp only[aH6];have E:=bK.out _ R.j
  have aT:=hid (show∀W':dP,dR W4 W4 W'->(fun b:dP=>b.cell? (bL,0)=some (.pointer (some (O,0)))/\b.cell? (O,1)=some (.map (some J))/\b.cell? (bC,0)=some (.int .i64 0)/\(cK 261 (.map (some J)) (.int .i64 0) false).run prog b= .ok (.slice none 0 0) b) W' by
   intro b z;have hs:=E.below z;exact⟨hs.kl.cell 0,hs.ko.cell 1,hs.kc.cell 0,(MapIs.none_at hs.kj aXs aBx (show MapKept.IsKey (.int .i64) (.int .i64 0)from rfl) (zeroValue56 b)).1⟩)
  clear E
  gi_wp2
  refine wpIn_wide.2 ?_;refine aIu (.take 0 (.take 1 (.take 2 (.take 3 (.take 4 (.take 5 (.take 6 (.take 7 (.take 8 .done))))))))) aT (cB (bS _ W4)) ?_;obtain⟨wd,A⟩:=ex_ W4.drew;have U:=hid (show dR W4 W4 wd from by rw[A];exact cB (bS _ W4));rw[<-A];clear A
  repeat (first
   | refine aAd.A0 ?_|refine aAd.AG ?_|refine aAd.AS ?_|with_reducible apply aAd.step|with_reducible apply aAd.fork|with_reducible apply aAd.fork3|refine dD ?_|refine dE ?_|refine dF ?_|fail)
  refine aAd.fin ?_;have j5:=hid (R.below o.b1 (o.n1 _ R.j) U.out);have c5:wd.heap[D]? =some (.deferred (some [])):=j5.f (D,.deferred (some [])) (by rw[be.out];exact .head _);clear R aX aT U
  gi_wp2
  gi_loopw [42] (fun iv wr=>wr=wd/\iv= .int .i64 0) (fun _ _=>0)
  case atStart=>exact⟨rfl,rfl⟩
  case round=>
   obtain⟨bi,rfl⟩:=hrel;rw[bi];clear bi wr
   gi_wp2
   refine⟨by simp,.inl ⟨_,_,rfl,run_takeDeferred c5,?_⟩⟩;have j6:J1 (wd.putObj D (.deferred none)):=o.b1 _ _ j5.j (aAm (bS _ _) _ (by have:=HD.out;have:=cr.out;omega) (o.n1 _ j5.j));have c6:Ch SS W (wd.putObj D (.deferred none)):=j5.c.putObj (.inr (by have:=HD.out;omega)) _;generalize wd.putObj D (.deferred none)=W6 at *;refine⟨_,by simp[results,results136,go_sem];try rfl,?_⟩;exact⟨⟨_,rfl⟩,j6,c6⟩
variable {w:dP}
theorem aBc {b e:Nat} {v:dQ} {x:dQ} (h:w.ownsRow b e 1 v 1 [x]):∃g c,v= .slice (some ⟨g,0,none⟩) 1 c/\b<=g/\g<w.heap.size/\1<=c/\w.cell? ⟨g,0,none⟩=some x/\w.frozen? ⟨g,0,none⟩=false:=by
 obtain⟨A,c,rfl,i,k,f⟩:=aAa h;obtain⟨g,rfl,a,j,d⟩:=f (by omega);rcases h.2 with⟨h4,_⟩|⟨g',cap,cur,h4,hb,hh,_⟩
 . cases h4
 . cases h4
   exact⟨g,c,rfl,hb,a,i,d 0 x rfl,by simp[World.frozen?,hh]⟩
theorem aH9 {w':dP} {n:Nat} {os:Array Obj} (h:w'=Sort.grow (Sort.ahead w n) os):dR w w w':=by
 subst h;refine⟨rfl,rfl,rfl,by simp[Sort.grow,Sort.ahead],fun k a=>?_⟩
 show(w.heap++os)[k]? =w.heap[k]?
 rw[Array.getElem?_append_left a]
structure ApS (w:dP) (rec:Loop) (D L B2:Nat) (TS:dS) (sv:dQ) (V:dP):Prop where
 l:V.heap[L]? =some (.loop rec)
 d:V.heap[D]? =some (.deferred (some []))
 k:BlkIs V B2 TS [sv]
 c:dR w w V
theorem ApS.below {V V':dP} {rec:Loop} {D L B2:Nat} {TS:dS} {sv:dQ} (h:ApS w rec D L B2 TS sv V) {M:Nat} (hL:L<M) (hD:D<M) (hB:B2<M) (hw:w.heap.size<=M) (hb:dR M V V'):ApS w rec D L B2 TS sv V':=
 ⟨(hb.block L hL).trans h.l,(hb.block D hD).trans h.d,(hb.block B2 hB).trans h.k,h.c.trans (hb.mono hw)⟩
theorem ApS.put {V:dP} {rec rec':Loop} {D L B2:Nat} {TS:dS} {sv:dQ} (h:ApS w rec D L B2 TS sv V) (hB:B2≠L) (hD:D≠L) (hL:w.heap.size<=L):ApS w rec' D L B2 TS sv (V.putObj L (.loop rec')):=
 ⟨dC (aAc h.l),(dK hD).trans h.d,(dK hB).trans h.k,aAm h.c _ hL h.c.size⟩
theorem aGx:prog.underlying 171=some (.map 3 4):=underlying171
theorem aP2 (b:Nat) (w:dP):dT prog 79 #[.map (some b)] w fun e w'=>e= .returned (.func (.func 141) #[] #[.pointer (some (w,0))])/\w'=w.alloc (.cells #[.map (some b)] 171):=by
 go_enter func79,ntmps79
 go_wp2_with fail
 go_ret;exact⟨rfl,rfl⟩
theorem aP3 (n:Nat) (hn:1<=n) (l bm b:Nat) (SS:List Nat) (J0 J1:dP->Prop) (W:dP) (hss:∀k∈SS,k<W.heap.size) (hb0:∀V V',J0 V->dR W V V'->J0 V')
 (hy:∀m V,J0 V->YieldAt Fence.wide m prog l #[(1:Int)] V fun e V'=>e= .returned (.bool true)/\J1 V'/\Ch SS V V') (hbs:b∉SS) (h0:J0 W) (hbm:BlkIs W bm 171 [.map (some b)]) (hm:MapIs W b #[⟨.int .i64 1,true,0⟩] 1) :
 CallsIn Fence.wide n prog 141 #[.func (.yield l) #[] #[],.pointer (some (bm,0))] W fun e W'=>(∃v,e= .returned v)/\J1 W':=by
 refine callsIn_of_wp func141 rfl trivial ?_ rfl;simp only[ntmps141,cL,cN,cQ,cY,cZ,cD,cE,cM,cG,cS,cO];have J:=hbm.cell 0;dsimp only[aJ]at J;have y:=aHb aGx hm;have a:=hid (aB0.made W b);have A:=cU W (.mapIter (some b) 1 #[] 1);obtain⟨c,g,D,j,C,H,F,E⟩:=aMy (hm.later A) (hb0 _ _ h0 A) hss hb0 hy hbs hm.lt (show W.heap.size<(W.alloc (.mapIter (some b) 1 #[] 1)).heap.size by rw[cA];omega);clear hss hb0 hy hbs h0 hbm hm A
 gi_wp2
 generalize W.alloc (.mapIter (some b) 1 #[] 1)=wi at *;clear y J
 gi_loopw [3] (fun _ wr=>wr=wi\/Hid (aB0 wr W.heap.size b true/\MapIs wr b #[⟨.int .i64 1,true,0⟩] 1/\J1 wr)) (fun _ wr=>match wr.heap[W.heap.size]? with|some (.mapIter _ _ seen _)=>1-seen.size|_=>0)
 case atStart=>exact .inl rfl
 case round=>
  rcases hrel with hwr|hdone
  . rw[hwr];clear hwr wr;have o:=fun u=>aI5 (P:=prog) c.out a.out u;obtain⟨f,i,q⟩:=aAw (c.setBlock (show W.heap.size≠b from fun e=>by have:=F.out;omega) (.mapIter (some b) 1 #[0] 1)) (aHj a.out) (j.out _ _ g.out ((Upd.setBlock wi W.heap.size (.mapIter (some b) 1 #[0] 1)).below (cC _) (Nat.le_of_lt E.out)));have z:=aHp (P:=prog) f.out i.out;have s:=hid (show(match wi.heap[W.heap.size]? with|some (.mapIter _ _ seen _)=>1-seen.size|_=>0)=1 by rw[a.out];rfl);clear c a g j
    gi_upto_region 3 with fail
    generalize Go.ChangeMaps.setBlock wi W.heap.size (.mapIter (some b) 1 #[0] 1)=wn at *;clear o z;obtain⟨O,K,t,M,x,L⟩:=C.out (n-1) wn q.out;have N:=hid L;clear L
    gi_wp2
    refine N.mono ?_;rintro e W' ⟨rfl,p,d⟩;obtain⟨G,r,B⟩:=aAw p (i.ch d fun h=>Nat.lt_irrefl _ (D.out _ h)) (f.ch d H.out);clear N x p d i f q C
    gi_wp2
    refine⟨.inr (hid ⟨r.out,B.out,G.out⟩),?_⟩;rw[r.out,s.out]
    first|exact Nat.zero_lt_one|simp
  . have o:=fun u=>aI6 (P:=prog) hdone.2.1 hdone.1 u;clear C j g c a
    gi_wp2
    go_end0
    exact⟨⟨_,rfl⟩,hdone.2.2⟩
theorem aM7 (b bm:Nat) (w:dP) (hbm:BlkIs w bm 171 [.map (some b)]) (hm:MapIs w b #[⟨.int .i64 1,true,0⟩] 1) :
 dT prog 203 #[.slice none 0 0,.func (.func 141) #[] #[.pointer (some (bm,0))]] w fun e w'=>∃v,e= .returned v/\w'.ownsRow w.heap.size 3 1 v 1 [(1:Int)]/\dR w w w':=by
 obtain⟨i0,hi,Z,Y,X⟩:=aRe;have aa:=hid hbm;have HM:=hid hm;clear hbm hm;refine(callsIn_wide (n:=6)).1 ?_;refine callsIn_of_wp_marks func203 rfl trivial ?_ rfl;simp only[ntmps203,cL,cN,cQ,cY,cZ,cD,cE,cM,cG,cS,cO]
 gi_upto_region 1 with fail
 obtain⟨HA,KB,a9⟩:=aAw (cU w (.cells #[.slice none 0 0] 56)) (show BlkIs (w.alloc (.cells #[.slice none 0 0] 56)) w.heap.size 56 [.slice none 0 0]from aAo _ _ _ rfl) (show(w.alloc (.cells #[.slice none 0 0] 56)).heap.size=w.heap.size+1 by rw[cA]);generalize w.alloc (.cells #[.slice none 0 0] 56)=w1 at *
 gi_wp2
 refine aBe rfl (by omega) (gf:=141) (lb:=#[.pointer (some (bm,0))]) rfl trivial (enters_of func141 (by kernel_rfl) rfl) ?_;intro fn a3 a D L A r hD hL j;have h5:=w1.size_alloc (.deferred (some []));have O:=((bS w1.heap.size w1).alloc (cC _) (.deferred (some []))).alloc (by omega) (.loop (a .ready none));rw[<-j]at O;have a1:A.heap.size=w1.heap.size+2:=by rw[j,cA,h5]
 have lD:A.heap[D]? =some (.deferred (some [])):=by
  rw[j,hD];exact(dM _ _ _ (by omega)).trans (heap_alloc_new w1 _)
 have lL:A.heap[L]? =some (.loop (a .ready none)):=by
  have:=heap_alloc_new (w1.alloc (.deferred (some []))) (.loop (a .ready none));rw[h5]at this;rw[j,hL,hD];exact this
 have f:=hid (show D=w.heap.size+1/\L=w.heap.size+2/\A.heap.size=w.heap.size+3 from by have:=a9.out;omega);have x:=hid r;have K:=bP HA.out O;have U:ApS w (a .ready none) D L w.heap.size 56 (.slice none 0 0) A:=⟨lL,lD,KB.later O,K⟩;have H:=HM.lt;clear h5 hD hL r a1 lD lL j KB O;refine(aP3 (6-1) (by omega) L bm b [w.heap.size,L] (ApS w (a .ready none) D L w.heap.size 56 (.slice none 0 0)) (fun V=>∃v,ApS w (a .ready none) D L w.heap.size 56 v V/\V.ownsRow w.heap.size 3 1 v 1 [(1:Int)]) A ?hss ?hb0 ?hy ?hbs U (aa.later K) (HM.later K)).mono ?hend
 case hss=>
  intro k F;have:=f.out;simp only[bV,cI,or_false]at F;omega
 case hb0=>intro V V' h hb;exact h.below (by have:=f.out;omega) (by have:=f.out;omega) (by have:=f.out;omega) (by have:=f.out;omega) hb
 case hbs=>
  intro F;have:=f.out;simp only[bV,cI,or_false]at F;omega
 case hy=>
  intro m V t;refine aCr a3 x.out t.l rfl ?_;simp only[dG,dA,dB,cX,dI,dJ,cH,List.set];have P:=hid t;clear t U K H
  gi_wp2
  refine⟨P.l,?_⟩;obtain⟨o,a4,a0⟩:=aAw (P.put (rec':=a .busy none) (by have:=f.out;omega) (by have:=f.out;omega) (by have:=f.out;omega)) ((dH [w.heap.size,L] V).putObj (b:=L) (.inl (by simp)) (.loop (a .busy none))) (show L<V.heap.size/\(V.putObj L (.loop (a .busy none))).heap.size=V.heap.size from⟨aAc P.l,dL⟩);clear P;generalize V.putObj L (.loop (a .busy none))=Vb at *;have N:=o.k.cell 0;dsimp only[aJ]at N;have C:w.heap.size<=Vb.heap.size:=o.c.size
  gi_wp2_with (first
   | (gi_at_builtin;refine wpListIn_append_own _ rfl _ _ 56 rfl Vb.heap.size 3 i0 (.int .i64 0) 1 8 underlying56 hi Z Y X rfl (by decide) (.slice none 0 0) 0 [] rfl (dO _ _ _ _) ⟨Vb.heap.size,0,none⟩ 1 1 [(1:Int)] rfl rfl (cell_one_new _ _ _) (by simp[cP]) (by unfold maxLen;omega) (by omega) (by simp) ?_;intro v' B g i _;obtain⟨y,z,rfl,an,am,ak,-,-⟩:=aBc g;have J:Ch [] Vb B:=((dH [] Vb).alloc _).grown (row:=none) i (by intro k F;cases F);have b2:=J.below_nil;have S:=o.k.later b2;have c2:=S.cell 0;dsimp only[aJ]at c2;have f2:=S.frozen 0;clear i N)
   | fail)
  have hd:=f.out;have hs:=a0.out;have Q:=o.below (M:=Vb.heap.size) (by omega) (by omega) (by omega) C b2;have k3:=S.set 0 (.slice (some (y,0)) 1 z);have a2:=aAg g ⟨w.heap.size,0,none⟩ (.slice (some (y,0)) 1 z) (fun b hb=>by simp[cV]at hb;dsimp only;omega);have R:(B.setCell (w,0) (.slice (some (y,0)) 1 z)).heap[L]? =some (.loop (a .busy none)):=(heap_setCell_other B _ L _ (by dsimp only;omega)).trans Q.l;have d3:(B.setCell (w,0) (.slice (some (y,0)) 1 z)).heap[D]? =some (.deferred (some [])):=(heap_setCell_other B _ D _ (by dsimp only;omega)).trans Q.d;have c3:=Q.c.setCell (p:=⟨w.heap.size,0,none⟩) (cC _) (.slice (some (y,0)) 1 z);have h3:=(a4.trans ((J.mono (T:=[w.heap.size,L]) (by simp)).setCell (p:=⟨w.heap.size,0,none⟩) (.inl (by simp)) (.slice (some (y,0)) 1 z))).putObj (b:=L) (.inl (by simp)) (.loop (a .ready none));refine aA2 x.out R ⟨rfl,⟨_,ApS.put ⟨R,d3,k3,c3⟩ (by omega) (by omega) (by omega),aA8 (ownsRow_putObj a2 _ R rfl) C⟩,h3⟩
 case hend=>
  rintro e W2 ⟨⟨v,rfl⟩,u,t,s⟩;refine⟨⟨v,rfl⟩,.ready,none,(fun h=>by cases h),t.l,?_⟩;have q:=hid (t.put (rec':=a .exhausted none) (by have:=f.out;omega) (by have:=f.out;omega) (by have:=f.out;omega));have G:=hid (ownsRow_putObj s (.loop (a .exhausted none)) t.l rfl);clear t s U K H;generalize W2.putObj L (.loop (a .exhausted none))=W4 at *;have E:=q.d;have N:=q.k.cell 0;dsimp only[aJ]at N;obtain⟨gu,cu,rfl,-⟩:=aBc G.out;simp only[aH6]
  gi_wp2
  refine⟨by simp,.inl ⟨_,_,rfl,run_takeDeferred E,?_⟩⟩;have a6:=ownsRow_putObj G.out (.deferred none) E rfl;have b3:dR w w (W4.putObj D (.deferred none)):=aAm q.c _ (by have:=f.out;omega) q.c.size;generalize W4.putObj D (.deferred none)=W6 at *;refine⟨_,by simp[results,results203,go_sem];try rfl,?_⟩;exact⟨_,rfl,a6,b3⟩
theorem aK4 (b bm:Nat) (w:dP) (hbm:BlkIs w bm 171 [.map (some b)]) (hm:MapIs w b #[⟨.int .i64 1,true,0⟩] 1) :
 dT prog 139 #[.func (.func 141) #[] #[.pointer (some (bm,0))]] w fun e w'=>∃v,e= .returned v/\w'.ownsRow w.heap.size 3 1 v 1 [(1:Int)]/\dR w w w':=by
 have a:=hid (aM7 b bm w hbm hm);clear hbm hm;go_enter func139,ntmps139
 go_wp2_with fail
 refine a.mono ?_;rintro e h ⟨v,rfl,d,f⟩;obtain⟨g,c,rfl,-⟩:=aBc d;go_wp2_with fail
 go_ret;exact⟨_,rfl,d,f⟩
theorem aMc (b bm:Nat) (w:dP) (hbm:BlkIs w bm 171 [.map (some b)]) (hm:MapIs w b #[⟨.int .i64 1,true,0⟩] 1) :
 dT prog 78 #[.func (.func 141) #[] #[.pointer (some (bm,0))]] w fun e w'=>∃v,e= .returned v/\w'.ownsRow w.heap.size 3 1 v 1 [(1:Int)]/\dR w w w':=by
 have m:=hid (aK4 b bm w hbm hm);clear hbm hm;go_enter func78,ntmps78
 go_wp2_with fail
 refine m.mono ?_;rintro e d ⟨v,rfl,o,s⟩;obtain⟨g,c,rfl,A,i,B,k,q⟩:=aBc o
 have p:Sort.Holds (Value.int .i64) d g 0 (#[(1:Int)]):=fun j h=>by
  obtain rfl:j=0:=by simpa using h
  exact⟨by first|exact k|(rw[Nat.zero_add,k];rfl),q⟩
 have l:=hid (Tryz.slices_Sort_int g 0 c [(1:Int)] d p i (by simp));have t:=hid p;clear k q;go_wp2_with fail
 refine l.mono ?_;rintro e u ⟨rfl,n,z,a⟩;have f:([(1:Int)].mergeSort fun x y=>decide (x<=y))=[(1:Int)]:=by simp
 rw[f,show([(1:Int)]:List _).toArray=#[(1:Int)]from rfl,Sort.putRow_self (Value.int .i64) (Sort.ahead d n) g 0 #[(1:Int)] (fun j h=>t.out j h)]at a;have r:=aH9 a;clear a;go_wp2_with fail
 go_ret;exact⟨_,rfl,aAr r o,bP s r⟩
theorem aFc:prog.underlying 84=some (.map 9 88):=underlying84
theorem aPz (b:Nat) (w:dP):dT prog 143 #[.map (some b)] w fun e w'=>e= .returned (.func (.func 206) #[] #[.pointer (some (w,0))])/\w'=w.alloc (.cells #[.map (some b)] 84):=by
 go_enter func143,ntmps143
 go_wp2_with fail
 go_ret;exact⟨rfl,rfl⟩
theorem aP0 (n:Nat) (hn:1<=n) (l bm b:Nat) (key:ByteArray) (Y:Nat) (SS:List Nat) (J0 J1:dP->Prop) (W:dP) (hss:∀k∈SS,k<W.heap.size) (hb0:∀V V',J0 V->dR W V V'->J0 V')
 (hy:∀m V,J0 V->YieldAt Fence.wide m prog l #[.string key] V fun e V'=>e= .returned (.bool true)/\J1 V'/\Ch SS V V') (hbs:b∉SS) (h0:J0 W) (hbm:BlkIs W bm 84 [.map (some b)]) (hm:MapIs W b #[⟨.string key,.pointer (some (Y,0)),0⟩] 1) :
 CallsIn Fence.wide n prog 206 #[.func (.yield l) #[] #[],.pointer (some (bm,0))] W fun e W'=>(∃v,e= .returned v)/\J1 W':=by
 refine callsIn_of_wp func206 rfl trivial ?_ rfl;simp only[ntmps206,cL,cN,cQ,cY,cZ,cD,cE,cM,cG,cS,cO];have J:=hbm.cell 0;dsimp only[aJ]at J;have y:=aHb aFc hm;have a:=hid (aB0.made W b);have A:=cU W (.mapIter (some b) 1 #[] 1);obtain⟨c,g,D,j,C,H,F,E⟩:=aMy (hm.later A) (hb0 _ _ h0 A) hss hb0 hy hbs hm.lt (show W.heap.size<(W.alloc (.mapIter (some b) 1 #[] 1)).heap.size by rw[cA];omega);clear hss hb0 hy hbs h0 hbm hm A
 gi_wp2
 generalize W.alloc (.mapIter (some b) 1 #[] 1)=wi at *;clear y J
 gi_loopw [3] (fun _ wr=>wr=wi\/Hid (aB0 wr W.heap.size b true/\MapIs wr b #[⟨.string key,.pointer (some (Y,0)),0⟩] 1/\J1 wr)) (fun _ wr=>match wr.heap[W.heap.size]? with|some (.mapIter _ _ seen _)=>1-seen.size|_=>0)
 case atStart=>exact .inl rfl
 case round=>
  rcases hrel with hwr|hdone
  . rw[hwr];clear hwr wr;have o:=fun u=>aI5 (P:=prog) c.out a.out u;obtain⟨f,i,q⟩:=aAw (c.setBlock (show W.heap.size≠b from fun e=>by have:=F.out;omega) (.mapIter (some b) 1 #[0] 1)) (aHj a.out) (j.out _ _ g.out ((Upd.setBlock wi W.heap.size (.mapIter (some b) 1 #[0] 1)).below (cC _) (Nat.le_of_lt E.out)));have z:=aHp (P:=prog) f.out i.out;have s:=hid (show(match wi.heap[W.heap.size]? with|some (.mapIter _ _ seen _)=>1-seen.size|_=>0)=1 by rw[a.out];rfl);clear c a g j
    gi_upto_region 3 with fail
    generalize Go.ChangeMaps.setBlock wi W.heap.size (.mapIter (some b) 1 #[0] 1)=wn at *;clear o z;obtain⟨O,K,t,M,x,L⟩:=C.out (n-1) wn q.out;have N:=hid L;clear L
    gi_wp2
    refine N.mono ?_;rintro e W' ⟨rfl,p,d⟩;obtain⟨G,r,B⟩:=aAw p (i.ch d fun h=>Nat.lt_irrefl _ (D.out _ h)) (f.ch d H.out);clear N x p d i f q C
    gi_wp2
    refine⟨.inr (hid ⟨r.out,B.out,G.out⟩),?_⟩;rw[r.out,s.out]
    first|exact Nat.zero_lt_one|simp
  . have o:=fun u=>aI6 (P:=prog) hdone.2.1 hdone.1 u;clear C j g c a
    gi_wp2
    go_end0
    exact⟨⟨_,rfl⟩,hdone.2.2⟩
theorem aM6 (b bm:Nat) (key:ByteArray) (Y:Nat) (w:dP) (hbm:BlkIs w bm 84 [.map (some b)]) (hm:MapIs w b #[⟨.string key,.pointer (some (Y,0)),0⟩] 1) :
 dT prog 244 #[.slice none 0 0,.func (.func 206) #[] #[.pointer (some (bm,0))]] w fun e w'=>∃v,e= .returned v/\w'.ownsRow w.heap.size 9 1 v 1 [.string key]/\dR w w w':=by
 obtain⟨i0,hi,a0,Z,X⟩:=aF5;have ab:=hid hbm;have HM:=hid hm;clear hbm hm;refine(callsIn_wide (n:=6)).1 ?_;refine callsIn_of_wp_marks func244 rfl trivial ?_ rfl;simp only[ntmps244,cL,cN,cQ,cY,cZ,cD,cE,cM,cG,cS,cO]
 gi_upto_region 1 with fail
 obtain⟨HA,KB,aa⟩:=aAw (cU w (.cells #[.slice none 0 0] 58)) (show BlkIs (w.alloc (.cells #[.slice none 0 0] 58)) w.heap.size 58 [.slice none 0 0]from aAo _ _ _ rfl) (show(w.alloc (.cells #[.slice none 0 0] 58)).heap.size=w.heap.size+1 by rw[cA]);generalize w.alloc (.cells #[.slice none 0 0] 58)=w1 at *
 gi_wp2
 refine aBe rfl (by omega) (gf:=206) (lb:=#[.pointer (some (bm,0))]) rfl trivial (enters_of func206 (by kernel_rfl) rfl) ?_;intro fn a4 a D L A r hD hL j;have h5:=w1.size_alloc (.deferred (some []));have O:=((bS w1.heap.size w1).alloc (cC _) (.deferred (some []))).alloc (by omega) (.loop (a .ready none));rw[<-j]at O;have a2:A.heap.size=w1.heap.size+2:=by rw[j,cA,h5]
 have lD:A.heap[D]? =some (.deferred (some [])):=by
  rw[j,hD];exact(dM _ _ _ (by omega)).trans (heap_alloc_new w1 _)
 have lL:A.heap[L]? =some (.loop (a .ready none)):=by
  have:=heap_alloc_new (w1.alloc (.deferred (some []))) (.loop (a .ready none));rw[h5]at this;rw[j,hL,hD];exact this
 have f:=hid (show D=w.heap.size+1/\L=w.heap.size+2/\A.heap.size=w.heap.size+3 from by have:=aa.out;omega);have x:=hid r;have K:=bP HA.out O;have U:ApS w (a .ready none) D L w.heap.size 58 (.slice none 0 0) A:=⟨lL,lD,KB.later O,K⟩;have H:=HM.lt;clear h5 hD hL r a2 lD lL j KB O;refine(aP0 (6-1) (by omega) L bm b key Y [w.heap.size,L] (ApS w (a .ready none) D L w.heap.size 58 (.slice none 0 0)) (fun V=>∃v,ApS w (a .ready none) D L w.heap.size 58 v V/\V.ownsRow w.heap.size 9 1 v 1 [.string key]) A ?hss ?hb0 ?hy ?hbs U (ab.later K) (HM.later K)).mono ?hend
 case hss=>
  intro k F;have:=f.out;simp only[bV,cI,or_false]at F;omega
 case hb0=>intro V V' h hb;exact h.below (by have:=f.out;omega) (by have:=f.out;omega) (by have:=f.out;omega) (by have:=f.out;omega) hb
 case hbs=>
  intro F;have:=f.out;simp only[bV,cI,or_false]at F;omega
 case hy=>
  intro m V t;refine aCr a4 x.out t.l rfl ?_;simp only[dG,dA,dB,cX,dI,dJ,cH,List.set];have P:=hid t;clear t U K H
  gi_wp2
  refine⟨P.l,?_⟩;obtain⟨o,a5,a1⟩:=aAw (P.put (rec':=a .busy none) (by have:=f.out;omega) (by have:=f.out;omega) (by have:=f.out;omega)) ((dH [w.heap.size,L] V).putObj (b:=L) (.inl (by simp)) (.loop (a .busy none))) (show L<V.heap.size/\(V.putObj L (.loop (a .busy none))).heap.size=V.heap.size from⟨aAc P.l,dL⟩);clear P;generalize V.putObj L (.loop (a .busy none))=Vb at *;have N:=o.k.cell 0;dsimp only[aJ]at N;have C:w.heap.size<=Vb.heap.size:=o.c.size
  gi_wp2_with (first
   | (gi_at_builtin;refine wpListIn_append_own _ rfl _ _ 58 rfl Vb.heap.size 9 i0 (.string ⟨#[]⟩) 1 16 underlying58 hi a0 Z X rfl (by decide) (.slice none 0 0) 0 [] rfl (dO _ _ _ _) ⟨Vb.heap.size,0,none⟩ 1 1 [.string key] rfl rfl (cell_one_new _ _ _) (by simp[cP]) (by unfold maxLen;omega) (by omega) (by simp) ?_;intro v' B g i _;obtain⟨y,z,rfl,ao,an,am,-,-⟩:=aBc g;have J:Ch [] Vb B:=((dH [] Vb).alloc _).grown (row:=none) i (by intro k F;cases F);have b2:=J.below_nil;have S:=o.k.later b2;have c2:=S.cell 0;dsimp only[aJ]at c2;have f2:=S.frozen 0;clear i N)
   | fail)
  have hd:=f.out;have hs:=a1.out;have Q:=o.below (M:=Vb.heap.size) (by omega) (by omega) (by omega) C b2;have k3:=S.set 0 (.slice (some (y,0)) 1 z);have a3:=aAg g ⟨w.heap.size,0,none⟩ (.slice (some (y,0)) 1 z) (fun b hb=>by simp[cV]at hb;dsimp only;omega);have R:(B.setCell (w,0) (.slice (some (y,0)) 1 z)).heap[L]? =some (.loop (a .busy none)):=(heap_setCell_other B _ L _ (by dsimp only;omega)).trans Q.l;have d3:(B.setCell (w,0) (.slice (some (y,0)) 1 z)).heap[D]? =some (.deferred (some [])):=(heap_setCell_other B _ D _ (by dsimp only;omega)).trans Q.d;have c3:=Q.c.setCell (p:=⟨w.heap.size,0,none⟩) (cC _) (.slice (some (y,0)) 1 z);have h3:=(a5.trans ((J.mono (T:=[w.heap.size,L]) (by simp)).setCell (p:=⟨w.heap.size,0,none⟩) (.inl (by simp)) (.slice (some (y,0)) 1 z))).putObj (b:=L) (.inl (by simp)) (.loop (a .ready none));refine aA2 x.out R ⟨rfl,⟨_,ApS.put ⟨R,d3,k3,c3⟩ (by omega) (by omega) (by omega),aA8 (ownsRow_putObj a3 _ R rfl) C⟩,h3⟩
 case hend=>
  rintro e W2 ⟨⟨v,rfl⟩,u,t,s⟩;refine⟨⟨v,rfl⟩,.ready,none,(fun h=>by cases h),t.l,?_⟩;have q:=hid (t.put (rec':=a .exhausted none) (by have:=f.out;omega) (by have:=f.out;omega) (by have:=f.out;omega));have G:=hid (ownsRow_putObj s (.loop (a .exhausted none)) t.l rfl);clear t s U K H;generalize W2.putObj L (.loop (a .exhausted none))=W4 at *;have E:=q.d;have N:=q.k.cell 0;dsimp only[aJ]at N;obtain⟨gu,cu,rfl,-⟩:=aBc G.out;simp only[aH6]
  gi_wp2
  refine⟨by simp,.inl ⟨_,_,rfl,run_takeDeferred E,?_⟩⟩;have a7:=ownsRow_putObj G.out (.deferred none) E rfl;have b3:dR w w (W4.putObj D (.deferred none)):=aAm q.c _ (by have:=f.out;omega) q.c.size;generalize W4.putObj D (.deferred none)=W6 at *;refine⟨_,by simp[results,results244,go_sem];try rfl,?_⟩;exact⟨_,rfl,a7,b3⟩
theorem aK3 (b bm:Nat) (key:ByteArray) (Y:Nat) (w:dP) (hbm:BlkIs w bm 84 [.map (some b)]) (hm:MapIs w b #[⟨.string key,.pointer (some (Y,0)),0⟩] 1) :
 dT prog 205 #[.func (.func 206) #[] #[.pointer (some (bm,0))]] w fun e w'=>∃v,e= .returned v/\w'.ownsRow w.heap.size 9 1 v 1 [.string key]/\dR w w w':=by
 have a:=hid (aM6 b bm key Y w hbm hm);clear hbm hm;go_enter func205,ntmps205
 go_wp2_with fail
 refine a.mono ?_;rintro e h ⟨v,rfl,d,f⟩;obtain⟨g,c,rfl,-⟩:=aBc d;go_wp2_with fail
 go_ret;exact⟨_,rfl,d,f⟩
theorem aMb (b bm:Nat) (key:ByteArray) (Y:Nat) (w:dP) (hbm:BlkIs w bm 84 [.map (some b)]) (hm:MapIs w b #[⟨.string key,.pointer (some (Y,0)),0⟩] 1) :
 dT prog 142 #[.func (.func 206) #[] #[.pointer (some (bm,0))]] w fun e w'=>∃v,e= .returned v/\w'.ownsRow w.heap.size 9 1 v 1 [.string key]/\dR w w w':=by
 have m:=hid (aK3 b bm key Y w hbm hm);clear hbm hm;go_enter func142,ntmps142
 go_wp2_with fail
 refine m.mono ?_;rintro e d ⟨v,rfl,o,s⟩;obtain⟨g,c,rfl,A,i,B,k,q⟩:=aBc o
 have p:Sort.Holds encStr d g 0 (#[key.data.toList]):=fun j h=>by
  obtain rfl:j=0:=by simpa using h
  exact⟨by first|exact k|(rw[Nat.zero_add,k];rfl),q⟩
 have l:=hid (Tryz.slices_Sort_string g 0 c [key.data.toList] d p i (by simp));have t:=hid p;clear k q;go_wp2_with fail
 refine l.mono ?_;rintro e u ⟨rfl,n,z,a⟩;have f:([key.data.toList].mergeSort fun x y=>decide (x<=y))=[key.data.toList]:=by simp
 rw[f,show([key.data.toList]:List _).toArray=#[key.data.toList]from rfl,Sort.putRow_self encStr (Sort.ahead d n) g 0 #[key.data.toList] (fun j h=>t.out j h)]at a;have r:=aH9 a;clear a;go_wp2_with fail
 go_ret;exact⟨_,rfl,aAr r o,bP s r⟩
variable {L F clk:Nat} {W1 V:dP} {rec:Loop} {es:Array MapEntry}
structure MJ (L F:Nat) (W1:dP) (rec:Loop) (fx:List (Nat×Obj)) (es:Array MapEntry) (clk:Nat) (V:dP):Prop where
 l:V.heap[L]? =some (.loop rec)
 f:Has fx V
 m:MapIs V F es clk
 c:Ch [L,F] W1 V
theorem MJ.below {M:Nat} {V':dP} {fx:List (Nat×Obj)} (h:MJ L F W1 rec fx es clk V) (hM:W1.heap.size<=M) (hl:L<M) (hf:∀p∈fx,p.1<M) (hF:F<M) (hb:dR M V V'):MJ L F W1 rec fx es clk V':=
 ⟨(hb.block L hl).trans h.l,fun p hp=>(hb.block p.1 (hf p hp)).trans (h.f p hp),(hb.block F hF).trans h.m,h.c.belowM hM hb⟩
theorem MJ.put {rec':Loop} {fx:List (Nat×Obj)} (h:MJ L F W1 rec fx es clk V) (hl:F≠L) (hf:∀p∈fx,p.1≠L):MJ L F W1 rec' fx es clk (V.putObj L (.loop rec')):=
 ⟨dC (aAc h.l),h.f.putObj hf _,(dK hl).trans h.m,h.c.putObj (.inl (by simp)) _⟩
theorem MJ.set {clk':Nat} {fx:List (Nat×Obj)} {es':Array MapEntry} (h:MJ L F W1 rec fx es clk V) (hl:F≠L) (hf:∀p∈fx,p.1≠F):MJ L F W1 rec fx es' clk' (Go.ChangeMaps.setBlock V F (.map es' clk')):=
 ⟨by show (V.heap.setIfInBounds F _)[L]? = _
     rw[Array.getElem?_setIfInBounds,if_neg hl];exact h.l,
   fun p hp=>by
    show(V.heap.setIfInBounds F _)[p.1]? =_
    rw[Array.getElem?_setIfInBounds,if_neg (fun e=>hf p hp e.symm)];exact h.f p hp,h.m.put,h.c.setBlock (.inl (by simp)) _⟩
theorem aXq (X Q cc:Nat) (A:Option Addr) (w:dP) (hX:BlkIs w X 153 [.map (some Q),.pointer none]) (hQ:MapIs w Q #[⟨.int .i64 1,.agg #[(3:Int),(),(1:Int),(10:Int),(19:Int),(),()],0⟩] 1) (hch:aCc w (.slice A 1 cc) [aGl]) :
 dT prog 36 #[.pointer (some (X,0)),.agg #[(2:Int),.slice A 1 cc]] w fun e w'=>∃v,∃O:Nat,e= .returned v/\w'.ownsRow w.heap.size 3 1 v 1 [(1:Int)]/\BlkIs w' X 153 [.map (some Q),.pointer (some (O,0))]/\Ch [X] w w':=by
 have aL:∀(t:dS) (W:dP),(Instr.makeMap t none).run prog W= .ok (.map (some W.heap.size)) (W.alloc (.map #[] 0)):=fun _ _=>rfl;obtain⟨bE,HX,HQ⟩:=aAw aL hX hQ;obtain⟨A',c',bU,aC,R⟩:=hch;injection bU with e1 e2 e3
 subst e1 e3;obtain⟨gc,oc,rfl,bh,br⟩:=R (by simp);have a:=fun(i:Nat) (u:dQ) (h:[.int .i64 0,.int .i64 6,.bool false,.int .i64 0,.int .i64 0,.int .i64 0,.bool true,.int .i64 11,.int .i64 9,.int .i64 7][i]? =some u)=>br 0 aGl rfl i u h;obtain⟨bH,bF,bJ⟩:=aAw a bh aC;clear br R a hX hQ aC bh e2;refine(callsIn_wide (n:=10)).1 ?_;refine callsIn_of_wp_marks func36 rfl trivial ?_ rfl;simp only[ntmps36,cL,cN,cQ,cY,cZ,cD,cE,cM,cG,cS,cO];refine wpIn_wide.2 ?_;go_upto_region 1 with fail
 obtain⟨U,HZ,HW,HB,aR,aS⟩:=aNb w [.pointer (some (X,0))] 82 [(2:Int),.slice (some (gc,oc)) 1 cc] 51
 rw[<-HW.out];have x0:=aR.cell 0;have r1:=aS.cell 1;have aL:=bE.out;dsimp only[aJ,bT]at x0 r1;clear HW;go_upto_region 4 with fail
 clear aL bE x0;obtain⟨wf,Z⟩:=ex_ ((U.alloc (.map #[] 0)).alloc (.cells #[.map (some U.heap.size)] 171));have s1:(U.alloc (.map #[] 0)).heap.size=U.heap.size+1:=by rw[cA]
 have bf:dR U U wf:=by rw[Z];exact((bS _ U).alloc (cC _) _).alloc (by omega) _
 have kf:MapIs wf U.heap.size #[] 0:=by rw[Z];exact(MapIs.made U).alloc _
 have b4:BlkIs wf (U.heap.size+1) 171 [.map (some U.heap.size)]:=by rw[Z];exact aAo _ _ _ s1.symm
 have aU:=hid (show wf.heap.size=U.heap.size+1+1 by rw[Z,cA,s1]);rw[<-Z];obtain⟨HF,aW,aE,aF,b0⟩:=aDs kf b4 (aR.later bf) (aS.later bf) (bP HB.out bf);clear Z s1 bf kf b4 aR aS HB r1;have r1:=aF.cell 1;dsimp only[aJ,bT]at r1;go_wp2_with fail
 obtain⟨F,hF⟩:=ex_ U.heap.size;rw[<-hF]at HF aW aU⊢;have aV:=hid (show F=w.heap.size+1+1 from hF.trans HZ.out);clear hF r1;have a:=fun(i:Nat) (u:dQ) (h:[.int .i64 0,.int .i64 6,.bool false,.int .i64 0,.int .i64 0,.int .i64 0,.bool true,.int .i64 11,.int .i64 9,.int .i64 7][i]? =some u)=>(b0.cell (p:=⟨gc,oc+0*10+i,none⟩) bF.out).trans (bH.out i u h);simp only[Nat.zero_mul,Nat.add_zero]at a;have a0:=a 0 (.int .i64 0) rfl;have a1:=a 1 (.int .i64 6) rfl;have a2:=a 2 (.bool false) rfl;have a3:=a 3 (.int .i64 0) rfl;have a4:=a 4 (.int .i64 0) rfl;have a5:=a 5 (.int .i64 0) rfl;have a6:=a 6 (.bool true) rfl;have a7:=a 7 (.int .i64 11) rfl;have a8:=a 8 (.int .i64 9) rfl;have a9:=a 9 (.int .i64 7) rfl;simp only[Nat.add_zero]at a0;clear a;refine wp_loop_rounds 2 ?_;rw[rounds_succ];go_upto_region 7 with fail
 have bI:=cU wf (.cells #[(),(6:Int),false,(),(),(),true,(11:Int),(9:Int),(7:Int)] 48);have ai:=(show BlkIs (wf.alloc (.cells #[(),(6:Int),false,(),(),(),true,(11:Int),(9:Int),(7:Int)] 48)) wf.heap.size 48 [(),(6:Int),false,(),(),(),true,(11:Int),(9:Int),(7:Int)]from aAo _ _ _ rfl);obtain⟨bc,aM⟩:=ex_ wf.heap.size;rw[<-aM]at ai⊢;obtain⟨KC,aZ,am,ay,bG,aH,av⟩:=aMz ai (show bc=F+1+1 from aM.trans aU.out) (aE.later bI) (bP b0.out bI) (HF.later bI) (aW.later bI) (show X<w.heap.size/\Q<w.heap.size from⟨HX.lt,HQ.lt⟩);generalize wf.alloc (.cells #[(),(6:Int),false,(),(),(),true,(11:Int),(9:Int),(7:Int)] 48)=wc at *;have aQ:=hid (HX.later ay.out);have au:=hid (HQ.later ay.out);clear aM ai bI aE aF b0 HF aW HX HQ bH a0 a1 a2 a3 a4 a5 a6 a7 a8 a9
 have ax:=hid (show∀V:dP,Ch [X] wc V->(fun V:dP=>V.cell? (w,0)=some (.pointer (some (X,0)))/\BlkIs V bc 48 [(),(6:Int),false,(),(),(),true,(11:Int),(9:Int),(7:Int)]) V by
  intro V hc;exact⟨(am.ch hc (by have:=av.out;simp;omega)).cell 0,KC.ch hc (by have:=av.out;have:=aZ.out;have:=aV.out;simp;omega)⟩)
 refine bCd (fun V:dP=>V.cell? (w,0)=some (.pointer (some (X,0)))/\BlkIs V bc 48 [(),(6:Int),false,(),(),(),true,(11:Int),(9:Int),(7:Int)]) (.take 0 (.take 2 (.step 1 (.step 3 .done)))) (ax.out _ (dH [X] wc).drew) ?_;obtain⟨wd,M⟩:=ex_ wc.drew;have G:=hid (show dR wc wc wd from by rw[M];exact cB (bS _ wc));rw[<-M];clear M
 repeat (first
  | (refine aAd.A0 ?_ (hy:=by intro wq aN;exact aAe 48 _ rfl bc rfl 48 #[(),(6:Int),false,(),(),(),true,(11:Int),(9:Int),(7:Int)] (0,0) _ aN.2 underlying48 rfl aRt))
  | refine aAd.A0 ?_|refine aAd.AG ?_|refine aAd.AS ?_|with_reducible apply aAd.fork|with_reducible apply aAd.fork3|refine dD ?_|refine dE ?_|refine dF ?_|fail)
 with_reducible apply aAd.step
 refine cW ?_;intro K hK;go_simp;go_at_call 76
 (with_reducible refine(bA4 X Q wd (aQ.out.later G.out) (au.out.later G.out)).mono ?_)
 rintro e z ⟨O,S,J,g,c,rfl,be,b3,bw⟩;try go_simp
 obtain⟨H,bz,aY⟩:=aAw be b3 ((dN (S:=[X]) G.out).trans bw);refine hK.out _ _ (ax.out _ aY.out) (fun _=>?_);clear hK K be b3 bw;refine aBq ?_;with_reducible apply aAd.step
 refine cW ?_;intro K hK;go_simp;go_at_call 77
 have aq:=bAw O z;unfold aD8 aGl at aq;dsimp only at aq
 (with_reducible refine aq.mono ?_)
 rintro e w6 ⟨rfl,b7,b5,b6⟩;try go_simp
 obtain⟨aX,bA,aT,B6⟩:=aBp (aY.trans (.of_below b6)) b7 b5 b6;refine hK.out _ _ (ax.out _ aX.out) (fun _=>?_);clear hK K b6 b7 b5 ax aq;refine aBq ?_;refine aAd.fin ?_;go_wp2_with fail
 refine(wpIn_wide (n:=10)).1 ?_;refine aBe rfl (by omega) (gf:=136) (lb:=#[.pointer (some (z.heap.size+1,0)),.pointer (some (z,0))]) rfl trivial (enters_of func136 (by kernel_rfl) rfl) ?_;intro fn bW d D L W1 aA hD hL aj;have h5:=w6.size_alloc (.deferred (some []));have bD:=((bS w6.heap.size w6).alloc (cC _) (.deferred (some []))).alloc (by omega) (.loop (d .ready none));rw[<-aj]at bD;have bb:W1.heap.size=w6.heap.size+2:=by rw[aj,cA,h5]
 have lD:W1.heap[D]? =some (.deferred (some [])):=by
  rw[aj,hD];exact(dM _ _ _ (by omega)).trans (heap_alloc_new w6 _)
 have lL:W1.heap[L]? =some (.loop (d .ready none)):=by
  have:=heap_alloc_new (w6.alloc (.deferred (some []))) (.loop (d .ready none));rw[h5]at this;rw[aj,hL,hD];exact this
 have bi:wd.heap.size<=g:=by
  rcases H.r.2 with⟨h,_⟩|⟨g',cap,cur,h,hb,_⟩
  . cases h
  . cases h;exact hb
 obtain⟨og,aK⟩:∃og,z.heap[g]? =some og:=⟨_,Array.getElem?_eq_some_iff.2 ⟨H.lo.2.2.2.2.2.2,rfl⟩⟩
 have HN:=hid (show X<w.heap.size/\Q<w.heap.size/\F=w.heap.size+2/\bc=w.heap.size+4/\w.heap.size+5<=wd.heap.size/\wd.heap.size<=O/\wd.heap.size<=S/\wd.heap.size<=J/\wd.heap.size<=g/\O<z.heap.size/\S<z.heap.size/\J<z.heap.size/\g<z.heap.size/\z.heap.size+1<w6.heap.size/\D=w6.heap.size/\L=w6.heap.size+1/\W1.heap.size=w6.heap.size+2 from by
  have h1:=av.out;have h2:=aV.out;have h3:=aZ.out;have h4:=H.lo;have h6:=aT.lt;have h7:=KC.lt;have h8:=G.size;exact⟨h1.1,h1.2,by omega,by omega,by omega,h4.1,h4.2.1,h4.2.2.1,bi,h4.2.2.2.1,h4.2.2.2.2.1,h4.2.2.2.2.2.1,h4.2.2.2.2.2.2,h6,hD,by omega,bb⟩)
 have bZ:Q≠X:=fun e=>by subst e;have:=aQ.symm.trans au.out;cases this
 have ab:=bP B6.out bD;have N:=aX.trans (.of_below bD);have x:=H.r
 have bX:1<=c:=by
  obtain⟨A9,c9,h9,c3,-⟩:=aAa x;cases h9
  exact c3
 have B:∀V:dP,V.heap[g]? =some og->∀(i:Nat) (u:dQ),z.cell? (g,i)=some u->V.cell? (g,i)=some u:=fun V C i u hu=>by
  rw[<-hu];unfold World.cell?;dsimp only;rw[C,aK]
 have bn:=aAv x 0 _ rfl;have bl:=aAv x 1 _ rfl;have bk:=aAv x 2 _ rfl;have bj:=aAv x 3 _ rfl;obtain⟨fx,ah⟩:∃fx:List (Nat×Obj),fx=[(D,.deferred (some [])),(w.heap.size,.cells #[.pointer (some (X,0))] 82 (0,0)),(F+1,.cells #[.map (some F)] 171 (0,0)),(bc,.cells #[(),(6:Int),false,(),(),(),true,(11:Int),(9:Int),(7:Int)] 48 (0,0)),(X,.cells #[.map (some Q),.pointer (some (O,0))] 153 (0,0)),(Q,.map #[⟨.int .i64 1,.agg #[(3:Int),(),(1:Int),(10:Int),(19:Int),(),()],0⟩] 1),(z.heap.size,.cells #[.pointer (some (O,0))] 151 (0,0)),(z.heap.size+1,.cells #[(),(6:Int),false,(),(),(),true,(11:Int),(9:Int),(7:Int)] 48 (0,0)),(O,.cells #[.map (some S),.map (some J)] 263 (0,0)),(S,.map #[⟨plV 0 1,.slice (some (g,0)) 1 c,0⟩] 1),(J,.map #[] 0),(g,og)]:=⟨_,rfl⟩
 have bq:Has fx W1:=by
  have hn:=HN.out;rw[ah];intro p y;simp only[bV,cI,or_false]at y;rcases y with rfl|rfl|rfl|rfl|rfl|rfl|rfl|rfl|rfl|rfl|rfl|rfl
  . exact lD
  . exact am.ch N (by simp;omega)
  . exact aH.ch N (by simp;omega)
  . exact KC.ch N (by simp;omega)
  . exact bz.later ab
  . exact au.ch N (by simp;omega)
  . exact bA.later bD
  . exact aT.later bD
  . exact H.o.later ab
  . exact H.s.later ab
  . exact H.j.later ab
  . exact(ab.block g hn.2.2.2.2.2.2.2.2.2.2.2.2.1).trans aK
 have bp:∀p∈fx,p.1<L/\p.1≠F:=by
  have hn:=HN.out;rw[ah];intro p y;simp only[bV,cI,or_false]at y;rcases y with rfl|rfl|rfl|rfl|rfl|rfl|rfl|rfl|rfl|rfl|rfl|rfl <;>(dsimp only;omega)
 have ap:∀V:dP,Has fx V->NearS [L,F] V (z.heap.size+1) z.heap.size O S J g c og:=by
  intro V C;have hn:=HN.out;rw[ah]at C;have hg:=C (g,og) (by simp);exact⟨C (z.heap.size+1,.cells #[(),(6:Int),false,(),(),(),true,(11:Int),(9:Int),(7:Int)] 48 (0,0)) (by simp),C (z.heap.size,.cells #[.pointer (some ⟨O,0,none⟩)] 151 (0,0)) (by simp),C (O,.cells #[.map (some S),.map (some J)] 263 (0,0)) (by simp),C (S,.map #[⟨plV 0 1,.slice (some ⟨g,0,none⟩) 1 c,0⟩] 1) (by simp),C (J,.map #[] 0) (by simp),hg,B V hg 0 _ bn,B V hg 1 _ bl,B V hg 2 _ bk,B V hg 3 _ bj,by simp;omega⟩
 have aB:∀V:dP,Has fx V->BlkIs V w 82 [.pointer (some (X,0))]/\BlkIs V (F+1) 171 [.map (some F)]/\BlkIs V bc 48 [(),(6:Int),false,(),(),(),true,(11:Int),(9:Int),(7:Int)]/\BlkIs V X 153 [.map (some Q),.pointer (some (O,0))]/\MapIs V Q #[⟨.int .i64 1,.agg #[(3:Int),(),(1:Int),(10:Int),(19:Int),(),()],0⟩] 1/\V.heap[D]? =some (.deferred (some [])):=by
  intro V C;rw[ah]at C;exact⟨C (w.heap.size,.cells #[.pointer (some ⟨X,0,none⟩)] 82 (0,0)) (by simp),C (F+1,.cells #[.map (some F)] 171 (0,0)) (by simp),C (bc,.cells #[(),(6:Int),false,(),(),(),true,(11:Int),(9:Int),(7:Int)] 48 (0,0)) (by simp),C (X,.cells #[.map (some Q),.pointer (some ⟨O,0,none⟩)] 153 (0,0)) (by simp),C (Q,.map #[⟨.int .i64 1,.agg #[(3:Int),(),(1:Int),(10:Int),(19:Int),(),()],0⟩] 1) (by simp),C (D,.deferred (some [])) (by simp)⟩
 have bu:=bG.ch N (by have:=HN.out;simp;omega);have j0:MJ L F W1 (d .ready none) fx #[] 0 W1:=⟨lL,bq,bu,dH _ _⟩;obtain⟨ad,T,aG,aI⟩:=aBp bp aB aA (show Ch [X] w W1 from(dN ay.out).trans N);clear ah bp aB aA bq bu bn bl bk bj B x N ab bZ aK bi lD lL bb bD h5 hD hL aj bz bA aT B6 aX aY H am KC bG aH aQ au av aZ ay G aU aV bF bJ HZ
 have Y:Yld W1.heap.size L #[(1:Int)] [L,F] (MJ L F W1 (d .ready none) fx #[] 0) (MJ L F W1 (d .ready none) fx #[⟨.int .i64 1,true,0⟩] 1):=by
  have hn:=HN.out;refine⟨by intro k hk;simp at hk;omega,fun V V' h hb=>h.below (cC _) (by omega) (fun p y=>by have:=(ad.out p y).1;omega) (by omega) hb,fun V V' h hb=>h.below (cC _) (by omega) (fun p y=>by have:=(ad.out p y).1;omega) (by omega) hb,fun V h=>h.c.size,fun V h=>h.c.size,?_⟩;intro m V hJ;refine aCr bW aG.out hJ.l rfl ?_;simp only[dG,dA,dB,cX,dI,dJ,cH,List.set];have HJ:=hid hJ;clear hJ j0 ap hn
  gi_wp2
  refine⟨HJ.l,?_⟩;have E:=hid (HJ.put (rec':=d .busy none) (by have:=HN.out;omega) (fun p y=>Nat.ne_of_lt (ad.out p y).1));have bs:=hid ((dH [L,F] V).putObj (b:=L) (.inl (by simp)) (.loop (d .busy none)));clear HJ;generalize V.putObj L (.loop (d .busy none))=Vb at *
  have aw:=hid (show∀q:dP,dR Vb Vb q->(fun q:dP=>q.cell? (F+1,0)=some (.map (some F))/\(cK 171 (.map (some F)) (.int .i64 1) false).run prog q= .ok (.bool false) q/\q.cell? (w,0)=some (.pointer (some (X,0)))/\q.cell? (X,0)=some (.map (some Q))/\(cK 150 (.map (some Q)) (.int .i64 1) false).run prog q= .ok (.agg #[(3:Int),(),(1:Int),(10:Int),(19:Int),(),()]) q/\BlkIs q bc 48 [(),(6:Int),false,(),(),(),true,(11:Int),(9:Int),(7:Int)]) q by
   intro q hb;obtain⟨kx,kf,kc,kX,kQ,-⟩:=T.out _ E.f;exact⟨(kf.later hb).cell 0,(MapIs.none_at (E.m.later hb) aGx aBx (show MapKept.IsKey (.int .i64) (.int .i64 1)from rfl) (zeroValue4 q)).1,(kx.later hb).cell 0,(kX.later hb).cell 0,(aDu (i:=0) aEs aBx (show MapKept.IsKey (.int .i64) (.int .i64 1)from rfl) (kQ.later hb) rfl).1,kc.later hb⟩)
  gi_wp2
  refine aDm (fun q:dP=>q.cell? (F+1,0)=some (.map (some F))/\(cK 171 (.map (some F)) (.int .i64 1) false).run prog q= .ok (.bool false) q/\q.cell? (w,0)=some (.pointer (some (X,0)))/\q.cell? (X,0)=some (.map (some Q))/\(cK 150 (.map (some Q)) (.int .i64 1) false).run prog q= .ok (.agg #[(3:Int),(),(1:Int),(10:Int),(19:Int),(),()]) q/\BlkIs q bc 48 [(),(6:Int),false,(),(),(),true,(11:Int),(9:Int),(7:Int)]) (.take 0 (.take 1 (.take 2 (.take 3 (.take 4 (.take 5 (.take 6 (.take 7 (.take 8 (.take 9 (.take 10 (.take 11 (.step 12 (.take 13 .done)))))))))))))) (by kernel_rfl) (by as_aux_lemma=>kernel_rfl) (by as_aux_lemma=>kernel_rfl) (by kernel_rfl) (aw.out _ (cB (bS _ Vb))) (fun _=>?_);obtain⟨wd,M⟩:=ex_ Vb.drew;have G:=hid (show dR Vb Vb wd from by rw[M];exact cB (bS _ Vb));rw[<-M];clear M
  repeat (first
   | (refine aAd.AG ?_ (hy:=by intro wq aN;exact aAe 48 _ rfl bc rfl 48 #[(),(6:Int),false,(),(),(),true,(11:Int),(9:Int),(7:Int)] (0,0) _ aN.2.2.2.2.2 underlying48 rfl aRt))
   | refine aAd.A0 ?_|refine aAd.AG ?_|refine aAd.AS ?_|with_reducible apply aAd.fork|with_reducible apply aAd.fork3|refine dD ?_|refine dE ?_|refine dF ?_|fail)
  with_reducible apply aAd.step
  refine GoT.PG ?_;intro K hK;go_simp;go_at_call 73
  have ag:=aH0 awQ aZi aGl (by decide +kernel) wd;rw[show touchQ awQ aGl=true from aZg]at ag;unfold qV awQ aD8 aGl at ag;dsimp only at ag
  (with_reducible refine ag.mono ?_)
  rintro e w9 ⟨rfl,b9⟩;try go_simp
  have B9:=hid (bP G.out b9);refine hK.out _ _ (aw.out _ B9.out) (fun _=>?_);clear hK K b9 G ag;refine aBq ?_
  repeat (first
   | refine aAd.A0 ?_|refine aAd.AG ?_|refine aAd.AS ?_|with_reducible apply aAd.step|with_reducible apply aAd.fork|with_reducible apply aAd.fork3|refine dD ?_|refine dE ?_|refine dF ?_|fail)
  refine aAd.done ?_;refine aGc.normal ?_;have J9:=hid (E.below E.c.size (aAc E.l) (fun p y=>aAc (E.f p y)) E.m.lt B9.out);have c9:=hid (bs.trans (.of_below B9.out));have y9:=(aw.out _ B9.out).1;have cF:=aUf (P:=prog) (v:= .bool true) aGx aBx (show MapKept.IsKey (.int .i64) (.int .i64 1)from rfl) J9.m;have bB:=hid (J9.set (es':=#[⟨.int .i64 1,.bool true,0⟩]) (clk':=1) (by have:=HN.out;omega) (fun p y=>(ad.out p y).2));have c4:=hid (c9.setBlock (b:=F) (.inl (by simp)) (.map #[⟨.int .i64 1,true,0⟩] 1));clear aw E bs J9 c9 B9
  gi_wp2
  exact aA2 aG.out bB.l ⟨rfl,bB.put (by have:=HN.out;omega) (fun p y=>Nat.ne_of_lt (ad.out p y).1),c4.putObj (.inl (by simp)) _⟩
 refine(bAx (10-1) (by omega) W1.heap.size L (z.heap.size+1) z.heap.size O S J g c og [L,F] _ _ Y (fun V h=>ap V h.f) (fun V h=>ap V h.f) bX W1 j0).mono ?_;rintro e W2 ⟨⟨v,rfl⟩,hJ,-⟩;refine⟨⟨v,rfl⟩,.ready,none,(fun h=>by cases h),hJ.l,?_⟩;have aa:=hid (hJ.put (rec':=d .exhausted none) (by have:=HN.out;omega) (fun p y=>Nat.ne_of_lt (ad.out p y).1));clear j0 hJ Y ap;generalize W2.putObj L (.loop (d .exhausted none))=W4 at *;simp only[aH6];go_wp2_with fail
 rw[rounds_succ];have y0:=(T.out _ aa.f).2.1.cell 0;dsimp only[aJ]at y0;go_wp2_with fail
 refine(aP2 F W4).mono ?_;rintro e w8 ⟨rfl,ba⟩;have b8:=cU W4 (.cells #[.map (some F)] 171);have k8:=(show BlkIs (W4.alloc (.cells #[.map (some F)] 171)) W4.heap.size 171 [.map (some F)]from aAo _ _ _ rfl);rw[<-ba]at b8 k8;have bC:=hid (aMc F W4.heap.size w8 k8 (aa.m.later b8));have B8:=hid b8;clear ba b8 k8 y0;go_wp2_with fail
 refine bC.mono ?_;rintro e w9 ⟨v9,rfl,ho,bt⟩;obtain⟨g9,c9,rfl,-⟩:=aBc ho;have cb:=hid ho;have B9:=hid (bP B8.out bt);have hk:=((T.out _ aa.f).2.2.2.2.2);obtain⟨HK,c6,bK⟩:=aAw ((B9.block D (aAc hk)).trans hk) ((T.out _ aa.f).2.2.2.1.later B9.out) (aI.next (aa.c.trans (.of_below B9.out)) (by have:=HN.out;intro j hj;simp at hj;right;omega));clear bC ho bt hk;go_wp2_with fail
 refine⟨by simp,.inl ⟨_,_,rfl,run_takeDeferred HK.out,?_⟩⟩;refine⟨_,results_tmp (t:=4) rfl _ _ _,?_⟩;have c1:w.heap.size<=D:=by have:=HN.out;omega
 have bY:X≠D:=by have:=HN.out;omega
 exact⟨_,O,rfl,aA8 (ownsRow_putObj cb.out _ HK.out rfl) (cJ aI.size (cJ aa.c.size B8.size)),c6.put _ bY,bK.putObj (.inr c1) _⟩
theorem aJ1 (p:Int) (A:Option Addr) (cc:Nat) (w:dP) (hch:aCc w (.slice A 1 cc) [aGl]) :
 dT prog 32 #[.agg #[p,.slice A 1 cc]] w fun e w'=>∃v,e= .returned (.agg #[p,v])/\w'.ownsRow w.heap.size 48 10 v 1 [(),(6:Int),false,(),(),(),true,(11:Int),(9:Int),(7:Int)]/\dR w w w':=by
 obtain⟨A',c',G,z,c⟩:=hch;injection G with e1 e2 e3
 subst e1 e3;obtain⟨B,q,rfl,t,y⟩:=c (by simp)
 have N:=hid (fun(j:Nat) (u:dQ) (h:[.int .i64 0,.int .i64 6,.bool false,.int .i64 0,.int .i64 0,.int .i64 0,.bool true,.int .i64 11,.int .i64 9,.int .i64 7][j]? =some u)=>(show w.cell? (B,q+j)=some u by
  have:=y 0 aGl rfl j u h
  rwa [Nat.zero_mul,Nat.add_zero]at this))
 have M:=hid t;clear y c z t e2;go_enter func32,ntmps32
 go_upto_region 1 with fail
 obtain⟨S,K,V,P,l,C⟩:=aNb w [p,.slice (some (B,q)) 1 cc] 51 [(),.slice none 0 0] 51;rw[<-V.out];have o:=l.cell 1;dsimp only[aJ,bT]at o;clear V;go_wp2_with fail
 refine(bBw (some ⟨B,q,none⟩) 1 cc [(),(6:Int),false,(),(),(),true,(11:Int),(9:Int),(7:Int)] S rfl (by simp[cP]) (fun _=>⟨B,q,rfl,fun j u hu=>(P.cell (p:=⟨B,q+j,none⟩) M.out).trans (N.out j u hu)⟩) (by omega)).mono ?_;rintro e Z ⟨v,rfl,E,F⟩;obtain⟨Av,g,rfl,-,-,s⟩:=aAa E;obtain⟨f,rfl,r,-,-⟩:=s (by omega)
 have x:S.heap.size<=f:=by
  rcases E.2 with⟨h,_⟩|⟨g',cap,cur,h,hb,_⟩
  . cases h
  . cases h;exact hb
 obtain⟨X,Y,d,k,D⟩:=aDs E x (l.later F) (C.later F) (bP P.out F);clear E s r x F l C P o;have J:=d.frozen 1;have o:=d.cell 1;dsimp only[aJ,bT]at o;obtain⟨i,a,L,O⟩:=aBp (d.set 1 (.slice (some (f,0)) 1 g)) (k.other (p:=⟨w.heap.size,1,none⟩) (by dsimp only;omega) (.slice (some (f,0)) 1 g)) (aAg X.out ⟨w.heap.size,1,none⟩ (.slice (some (f,0)) 1 g) (fun b hb=>by simp[cV]at hb;have:=Y.out;have:=K.out;dsimp only;omega)) (D.setCell (p:=⟨w.heap.size,1,none⟩) (cC _) (.slice (some (f,0)) 1 g));go_upto_region 2 with fail
 generalize Z.setCell (w,1) (.slice (some (f,0)) 1 g)=w3 at *;clear d k X D J o;have R:=i.cell 0;have Q:=i.cell 1;have n:=a.cell 0;have m:=a.cell 1;have f0:=a.frozen 0;have J:=a.frozen 1;dsimp only[aJ,bT]at R Q n m;go_wp2_with fail
 have T:=(a.set 0 (.int .i64 p)).set 1 (.slice (some (f,0)) 1 g);have U:∀b,(Value.slice (some (f,0)) 1 g).ownBlock=some b->b≠w.heap.size+1:=fun b hb=>by simp[cV]at hb;have:=Y.out;have:=K.out;omega
 have H:=aAg (aAg L.out ⟨w.heap.size+1,0,none⟩ (.int .i64 p) U) ⟨w.heap.size+1,1,none⟩ (.slice (some (f,0)) 1 g) U;have b4:=(O.setCell (p:=⟨w.heap.size+1,0,none⟩) (Nat.le_succ _) (.int .i64 p)).setCell (p:=⟨w.heap.size+1,1,none⟩) (Nat.le_succ _) (.slice (some (f,0)) 1 g);generalize ((w3.setCell (w.heap.size+1,0) (.int .i64 p)).setCell (w.heap.size+1,1) (.slice (some (f,0)) 1 g))=w4 at *;clear R Q n m f0 J;have n:=T.cell 0;have m:=T.cell 1;simp only[List.set,aJ,bT]at n m;refine bodyPost_ret (by simp[results,results32,go_sem,n,m];try rfl) rfl ?_;exact⟨_,rfl,aA8 H (by have:=K.out;omega),b4⟩
theorem aCc.ch {S:List Nat} {w w':dP} {gc oc n cc:Nat} {l:List Chg} (h:aCc w (.slice (some (gc,oc)) n cc) l) (hc:Ch S w w') (hn:gc∉S):aCc w' (.slice (some (gc,oc)) n cc) l:=by
 obtain⟨A,c,e,b,d⟩:=h;refine⟨A,c,e,b,fun q=>?_⟩;obtain⟨g,o,f,a,m⟩:=d q;have p:g=gc:=by injection e with e1 _ _;rw[f]at e1;injection e1 with e2;injection e2 with e3 _ _;exact e3.symm
 subst p;refine⟨g,o,f,Nat.lt_of_lt_of_le a hc.size,fun j x d i u k=>?_⟩;rw[<-m j x d i u k];unfold World.cell?;dsimp only;rw[hc.block g a hn]
theorem aD6:(prog.info? 35).map (·.size)=some 3:=by kernel_rfl
theorem aHw:(prog.info? 51).map (·.size)=some 2:=by kernel_rfl
theorem aO1 (A vA:Option Addr) (cc vc:Nat) (w:dP) (hx:aCc w (.slice A 1 cc) [aGl]):dT prog 34 #[.agg #[(3:Int),(),(1:Int),(10:Int),(19:Int),(),()],.agg #[.slice vA 0 vc,(1:Int),false],.agg #[(2:Int),.slice A 1 cc]] w fun e w'=>∃vA' vc',e= .returned (.tuple #[.agg #[.slice vA' 0 vc',(2:Int),false],.bool true,.bool true])/\dR w w w':=by
 have h:=aN1 awQ aZi ⟨[],1,false⟩ 2 A cc [aGl] (fun c d=>by rw[List.mem_singleton.1 d];decide +kernel) (fun k b l a=>by
  cases k with
  | zero => obtain rfl : b = ⟨[], 1, false⟩ := by { have e := a; simp [aHa] at e; exact e.1.symm }
            exact⟨by simp,by decide,by decide⟩
  | succ k=>
    rw[List.take_of_length_le (by simp)]at a;have:=a.symm.trans aVz;injection this with e
    injection e with e1 e2
    subst e1;exact⟨by simp,by decide,by decide⟩) (by simp) (.slice vA 0 vc) w ⟨vA,vc,rfl,Nat.zero_le _,fun h=>absurd h (by simp)⟩ hx
 refine h.mono ?_;rintro e w' ⟨g,f⟩;rcases g with⟨r',t,v',h2,rfl,h3⟩|⟨h2,-⟩
 . have:=h2.symm.trans aVz;injection this with e
   injection e with e1 e2
   subst e1 e2;obtain⟨j,i,rfl,-⟩:=h3.form;exact⟨j,i,rfl,f⟩
 . have:=h2.symm.trans aVz;cases this
theorem aV3 (G R BC Y cc vc gc oc:Nat) (vA:Option Addr) (rv:dQ) (key:ByteArray) (w:dP) (hG:BlkIs w G 58 [.slice none 0 0]) (hR:BlkIs w R 51 [(2:Int),.slice (some (gc,oc)) 1 cc]) (hY:BlkIs w Y 93 [(3:Int),(),(1:Int),(10:Int),(19:Int),(),(),(),(1:Int),rv,(1:Int),.slice vA 0 vc,(1:Int),false,(1:Int)]) (hch:aCc w (.slice (some (gc,oc)) 1 cc) [aGl]) (hd:G≠Y/\G≠R/\R≠Y) (hgc:gc≠G/\gc≠Y) :
 dT prog 33 #[.string key,.pointer (some (Y,0)),.pointer (some (G,0)),.pointer (some (R,0)),.pointer (some (BC,0))] w fun e w'=>e= .returned (.tuple #[])/\∃g:Nat,∃c vA' vc',BlkIs w' G 58 [.slice (some (g,0)) 1 c]/\w'.ownsRow w.heap.size 9 1 (.slice (some (g,0)) 1 c) 1 [.string key]/\BlkIs w' Y 93 [(3:Int),(),(1:Int),(10:Int),(19:Int),(),(),(),(1:Int),rv,(1:Int),.slice vA' 0 vc',(2:Int),false,(2:Int)]/\Ch [G,Y] w w':=by
 obtain⟨i0,hi,ay,ax,aw⟩:=aF5;have U:=hid hch;have a1:=hid hd;have g0:=hG.cell 0;dsimp only[aJ]at g0;obtain⟨KG,KR,KY⟩:=aAw hG hR hY;clear hG hR hY hch hd;go_enter func33,ntmps33
 go_upto_region 1 with(first
  | (at_builtin;refine wpList_append_own _ rfl _ _ 58 rfl w.heap.size 9 i0 (.string ⟨#[]⟩) 1 16 underlying58 hi ay ax aw rfl (by decide) (.slice none 0 0) 0 [] rfl (dO _ _ _ _) ⟨w.heap.size,0,none⟩ 1 1 [.string key] rfl rfl (cell_one_new _ _ _) (by simp[cP]) (by unfold maxLen;omega) (by omega) (by simp) ?_;intro v' w2 x L _;obtain⟨H,X,rfl,ai,aB,aA,-,-⟩:=aBc x;have a7:Ch [] w w2:=((dH [] w).alloc _).grown (row:=none) L (by intro k hk;cases hk);have b2:=a7.below_nil;have k2:=KG.later b2;have c2:=k2.cell 0;dsimp only[aJ]at c2;have f2:=k2.frozen 0;clear L g0)
  | fail)
 have ak:=KG.lt;have k3:=k2.set 0 (.slice (some (H,0)) 1 X);have a4:=aAg x ⟨G,0,none⟩ (.slice (some (H,0)) 1 X) (fun b N=>by simp[cV]at N;dsimp only;omega);have af:=(KR.later b2).other (p:=⟨G,0,none⟩) (fun e=>a1.2.1 e.symm) (.slice (some (H,0)) 1 X);have ad:=(KY.later b2).other (p:=⟨G,0,none⟩) (fun e=>a1.1 e.symm) (.slice (some (H,0)) 1 X);have a6:=(a7.mono (T:=[G,Y]) (by simp)).setCell (p:=⟨G,0,none⟩) (.inl (by simp)) (.slice (some (H,0)) 1 X);have ag:aCc (w2.setCell (G,0) (.slice (some (H,0)) 1 X)) (.slice (some (gc,oc)) 1 cc) [aGl]:=U.ch a6 (by simp;exact hgc);generalize w2.setCell (G,0) (.slice (some (H,0)) 1 X)=w3 at *;obtain⟨ao,ap,ab,Z,v,a0⟩:=aIl k3 a4 af ad a6 (show w.heap.size<=H/\G<w.heap.size/\Y<w.heap.size/\R<w.heap.size/\H<w3.heap.size from⟨ai,ak,KY.lt,KR.lt,(aBc a4).elim fun _ h=>h.elim fun _ h=>by cases h.1;exact h.2.2.1⟩);clear k2 c2 f2 x a7 b2 k3 a4 af ad a6 ak ai aB aA KG KR KY U;have U:=hid ag;clear ag
 have D:=hid (show∀W:dP,dR w3 w3 W->(fun W:dP=>W.rangeAt Y 0 [(3:Int),(),(1:Int),(10:Int),(19:Int),(),()]/\W.rangeAt Y 11 [.slice vA 0 vc,(1:Int),false]/\BlkIs W R 51 [(2:Int),.slice (some (gc,oc)) 1 cc]) W by
  intro W N;refine⟨aE4 (Z.later N),(Z.later N).rangeAt (o:=11) (by intro j u hu;have hj:=(List.getElem?_eq_some_iff.1 hu).1;match j,hj,hu with|0,_,hu=>exact hu|1,_,hu=>exact hu|2,_,hu=>exact hu),ab.later N⟩)
 refine aIu (.take 0 (.take 1 (.take 2 (.take 3 (.take 4 (.take 5 (.take 6 (.take 7 (.take 8 (.take 9 (.fork 10 (.take 11 (.take 12 (.take 13 (.take 14 (.step 15 (.step 16 (.take 17 (.take 18 .done)))))))) 15 (.step 10 (.take 11 (.take 12 (.take 13 (.take 14 (.step 16 (.take 17 (.take 18 .done))))))))))))))))))) D (cB (bS _ w3)) ?_;obtain⟨s,i⟩:=ex_ w3.drew;have q:=hid (show dR w3 w3 s from by rw[i];exact cB (bS _ w3));rw[<-i];clear i
 repeat (first
  | (refine aAd.A0 ?_ (hy:=by intro wq r;exact aBl 29 _ rfl Y 0 rfl #[(3:Int),(),(1:Int),(10:Int),(19:Int),(),()] _ r.1 underlying29 rfl aDq))
  | (refine aAd.A0 ?_ (hy:=by intro wq r;exact aBl 35 _ rfl Y 11 rfl #[.slice vA 0 vc,(1:Int),false] _ r.2.1 underlying35 rfl aD6))
  | (refine aAd.A0 ?_ (hy:=by intro wq r;exact aAe 51 _ rfl R rfl 51 #[(2:Int),.slice (some (gc,oc)) 1 cc] (0,0) _ r.2.2 underlying51 rfl aHw))
  | refine aAd.A0 ?_|refine aAd.AG ?_|refine aAd.AS ?_|with_reducible apply aAd.fork3|refine dD ?_|refine dE ?_|refine dF ?_|fail)
 with_reducible apply aAd.fork
 . refine cW ?_;intro K f;go_simp;go_at_call 34
   (with_reducible refine(aO1 (some ⟨gc,oc,none⟩) vA cc vc s (U.out.below q.out)).mono ?_)
   rintro e w5 ⟨d,a,rfl,J⟩;try go_simp
   have y:=hid (bP q.out J);refine f.out _ _ (D.out _ y.out) (fun _=>?_);clear f K J;refine aBq ?_;have Q:=y;clear y;refine aLd ?_;with_reducible apply aAd.step
   refine cW ?_;intro K f;go_simp;have ba:=cU w5 (.cells #[.slice none 0 0,(),false] 35);have kt:=(show BlkIs (w5.alloc (.cells #[.slice none 0 0,(),false] 35)) w5.heap.size 35 [.slice none 0 0,(),false]from aAo _ _ _ rfl);obtain⟨t,l⟩:=ex_ w5.heap.size;rw[<-l]at kt⊢;obtain⟨B,KT,A⟩:=aAw (show w3.heap.size<=t by rw[l];exact Q.size) kt (bP Q.out ba);refine f.out _ _ (D.out _ A.out) (fun _=>?_);clear f K l;generalize w5.alloc (.cells #[.slice none 0 0,(),false] 35)=w6 at *;refine aBq ?_;have P:=KT;clear KT;with_reducible apply aAd.step
   refine cW ?_;intro K f;refine wp_store_row 35 (.tmp 7) (.tmp 26) rfl (t) #[.slice d 0 a,(2:Int),false] rfl rfl 35 _ P.out aD6 rfl (by simp[cP]) ?_;refine f.out _ _ (D.out _ (below_setRow A.out B.out #[.slice d 0 a,(2:Int),false])) (fun _=>?_);clear f K;have aa:=hid (P.setRow [.slice d 0 a,(2:Int),false]);have F:=hid (below_setRow A.out B.out #[.slice d 0 a,(2:Int),false]);generalize w6.setRow t #[.slice d 0 a,.int .i64 2,.bool false]=we at *;try simp only[Act.put]
   repeat (first
    | refine aAd.A0 ?_|refine aAd.AG ?_|refine aAd.AS ?_|with_reducible apply aAd.step|with_reducible apply aAd.fork|with_reducible apply aAd.fork3|refine dD ?_|refine dE ?_|refine dF ?_|fail)
   refine aAd.fin ?_;go_wp2_with fail
   have hd:=a1.out;have M:=a0.out;have l:=B.out;have E:=hid (show t≠Y/\R≠Y/\Y<we.heap.size/\t≠G/\G≠Y from⟨by have:=F.size;have:=v.size;omega,hd.2.2,Nat.lt_of_lt_of_le M.2.2.1 (cJ v.size F.size),by have:=v.size;omega,hd.1⟩)
   have C:=hid (show∀W:dP,Ch [Y] we W->(fun W:dP=>BlkIs W t 35 [.slice d 0 a,(2:Int),false]/\W.cell? (R,0)=some (.int .i64 2)) W by
    intro W hc;exact⟨aa.ch hc (by simp;exact E.1),((ab.later F.out).ch hc (by simp;exact E.2.1)).cell 0⟩)
   have a9:=hid (Z.later F.out);clear hd M l;refine bCd (fun W:dP=>BlkIs W t 35 [.slice d 0 a,(2:Int),false]/\W.cell? (R,0)=some (.int .i64 2)) (.take 0 (.take 1 (.take 2 (.take 3 (.take 4 (.take 5 (.take 6 (.step 7 (.take 8 (.take 9 (.step 10 .done))))))))))) (C.out _ (dH [Y] we).drew) ?_;obtain⟨s,i⟩:=ex_ we.drew;have q:=hid (show dR we we s from by rw[i];exact cB (bS _ we));rw[<-i];clear i;have O:=hid (a9.later q.out);have ac:=hid (dN (S:=[Y]) q.out)
   repeat (first
    | (refine aAd.A0 ?_ (hy:=by intro wq r;exact aAe 35 _ rfl t rfl 35 #[.slice d 0 a,(2:Int),false] (0,0) _ r.1 underlying35 rfl aD6))
    | refine aAd.A0 ?_|refine aAd.AG ?_|refine aAd.AS ?_|with_reducible apply aAd.fork|with_reducible apply aAd.fork3|refine dD ?_|refine dE ?_|refine dF ?_|fail)
   with_reducible apply aAd.step
   refine cW ?_;intro K f;refine wp_store_mid 35 (.tmp 40) (.tmp 36) rfl Y 11 #[.slice d 0 a,(2:Int),false] rfl rfl (O.there (o:=11) (n:=3) (by simp)) aD6 (by simp[cP]) ?_;have z:=hid (show BlkIs (s.setCells Y 11 [.slice d 0 a,(2:Int),false]) Y 93 [(3:Int),(),(1:Int),(10:Int),(19:Int),(),(),(),(1:Int),rv,(1:Int),.slice d 0 a,(2:Int),false,(1:Int)]from O.setCells [.slice d 0 a,(2:Int),false] 11 (by simp));have V:=hid (ac.trans (Ch.of_upd (aEb Y [.slice d 0 a,(2:Int),false] 11 s)));refine f.out _ _ (C.out _ V.out) (fun _=>?_);clear f K;generalize s.setCells Y 11 [.slice d 0 a,.int .i64 2,.bool false]=w7 at *;try simp only[Act.put]
   repeat (first
    | refine aAd.A0 ?_|refine aAd.AG ?_|refine aAd.AS ?_|with_reducible apply aAd.fork|with_reducible apply aAd.fork3|refine dD ?_|refine dE ?_|refine dF ?_|fail)
   with_reducible apply aAd.step
   have fy:=z.frozen 14;have cy:=z.cell 14;simp only[aJ,bT]at cy;refine cW ?_;intro K f;go_simp;have a8:=hid (show BlkIs (w7.setCell (Y,14) (.int .i64 2)) Y 93 [(3:Int),(),(1:Int),(10:Int),(19:Int),(),(),(),(1:Int),rv,(1:Int),.slice d 0 a,(2:Int),false,(2:Int)]from z.set 14 (.int .i64 2));have m:=hid (V.setCell (p:=⟨Y,14,none⟩) (.inl (by simp)) (.int .i64 2));refine f.out _ _ (C.out _ m.out) (fun _=>?_);clear f K fy cy;generalize w7.setCell (Y,14) (.int .i64 2)=w8 at *;try simp only[Act.put]
   refine aAd.fin ?_;go_end0
   have a5:H≠Y:=by have:=a0.out;omega
   refine⟨rfl,H,X,d,a,(ao.later F.out).ch m.out (by simp;exact E.2.2.2.2),?_,a8.out,(v.trans (.of_below F.out)).trans (m.mono (by simp))⟩;exact aA6 (S:=fun k=>k≠Y) (aAr F.out ap.out) ⟨m.size,fun k hk hl=>m.block k hl (by simpa using hk)⟩ (fun b N=>by simp[cV]at N;subst N;exact a5)
 . refine cW ?_;intro K f;go_simp;have ba:=cU s (.cells #[.slice none 0 0,(),false] 35);have kt:=(show BlkIs (s.alloc (.cells #[.slice none 0 0,(),false] 35)) s.heap.size 35 [.slice none 0 0,(),false]from aAo _ _ _ rfl);obtain⟨t,l⟩:=ex_ s.heap.size;rw[<-l]at kt⊢;obtain⟨B,KT,A⟩:=aAw (show w3.heap.size<=t by rw[l];exact q.size) kt (bP q.out ba);refine f.out _ _ (D.out _ A.out) (fun _=>?_);clear f K l;generalize s.alloc (.cells #[.slice none 0 0,(),false] 35)=w6 at *;refine aBq ?_;with_reducible apply aAd.step
   refine cW ?_;intro K f;go_simp;go_at_call 34
   (with_reducible refine(aO1 (some ⟨gc,oc,none⟩) vA cc vc w6 (U.out.below A.out)).mono ?_)
   rintro e w5 ⟨d,a,rfl,J⟩;try go_simp
   have y:=hid (bP A.out J);refine f.out _ _ (D.out _ y.out) (fun _=>?_);have aD:=J;clear f K J;refine aBq ?_;have Q:=y;have P:=hid (KT.later (show dR w6 w6 w5 from aD));clear y KT;refine aLd ?_;with_reducible apply aAd.step
   refine cW ?_;intro K f;refine wp_store_row 35 (.tmp 7) (.tmp 26) rfl (t) #[.slice d 0 a,(2:Int),false] rfl rfl 35 _ P.out aD6 rfl (by simp[cP]) ?_;refine f.out _ _ (D.out _ (below_setRow Q.out B.out #[.slice d 0 a,(2:Int),false])) (fun _=>?_);clear f K;have aa:=hid (P.setRow [.slice d 0 a,(2:Int),false]);have F:=hid (below_setRow Q.out B.out #[.slice d 0 a,(2:Int),false]);generalize w5.setRow t #[.slice d 0 a,.int .i64 2,.bool false]=we at *;try simp only[Act.put]
   repeat (first
    | refine aAd.A0 ?_|refine aAd.AG ?_|refine aAd.AS ?_|with_reducible apply aAd.step|with_reducible apply aAd.fork|with_reducible apply aAd.fork3|refine dD ?_|refine dE ?_|refine dF ?_|fail)
   refine aAd.fin ?_;go_wp2_with fail
   have hd:=a1.out;have M:=a0.out;have l:=B.out;have E:=hid (show t≠Y/\R≠Y/\Y<we.heap.size/\t≠G/\G≠Y from⟨by have:=F.size;have:=v.size;omega,hd.2.2,Nat.lt_of_lt_of_le M.2.2.1 (cJ v.size F.size),by have:=v.size;omega,hd.1⟩)
   have C:=hid (show∀W:dP,Ch [Y] we W->(fun W:dP=>BlkIs W t 35 [.slice d 0 a,(2:Int),false]/\W.cell? (R,0)=some (.int .i64 2)) W by
    intro W hc;exact⟨aa.ch hc (by simp;exact E.1),((ab.later F.out).ch hc (by simp;exact E.2.1)).cell 0⟩)
   have a9:=hid (Z.later F.out);clear hd M l;refine bCd (fun W:dP=>BlkIs W t 35 [.slice d 0 a,(2:Int),false]/\W.cell? (R,0)=some (.int .i64 2)) (.take 0 (.take 1 (.take 2 (.take 3 (.take 4 (.take 5 (.take 6 (.step 7 (.take 8 (.take 9 (.step 10 .done))))))))))) (C.out _ (dH [Y] we).drew) ?_;obtain⟨s,i⟩:=ex_ we.drew;have q:=hid (show dR we we s from by rw[i];exact cB (bS _ we));rw[<-i];clear i;have O:=hid (a9.later q.out);have ac:=hid (dN (S:=[Y]) q.out)
   repeat (first
    | (refine aAd.A0 ?_ (hy:=by intro wq r;exact aAe 35 _ rfl t rfl 35 #[.slice d 0 a,(2:Int),false] (0,0) _ r.1 underlying35 rfl aD6))
    | refine aAd.A0 ?_|refine aAd.AG ?_|refine aAd.AS ?_|with_reducible apply aAd.fork|with_reducible apply aAd.fork3|refine dD ?_|refine dE ?_|refine dF ?_|fail)
   with_reducible apply aAd.step
   refine cW ?_;intro K f;refine wp_store_mid 35 (.tmp 40) (.tmp 36) rfl Y 11 #[.slice d 0 a,(2:Int),false] rfl rfl (O.there (o:=11) (n:=3) (by simp)) aD6 (by simp[cP]) ?_;have z:=hid (show BlkIs (s.setCells Y 11 [.slice d 0 a,(2:Int),false]) Y 93 [(3:Int),(),(1:Int),(10:Int),(19:Int),(),(),(),(1:Int),rv,(1:Int),.slice d 0 a,(2:Int),false,(1:Int)]from O.setCells [.slice d 0 a,(2:Int),false] 11 (by simp));have V:=hid (ac.trans (Ch.of_upd (aEb Y [.slice d 0 a,(2:Int),false] 11 s)));refine f.out _ _ (C.out _ V.out) (fun _=>?_);clear f K;generalize s.setCells Y 11 [.slice d 0 a,.int .i64 2,.bool false]=w7 at *;try simp only[Act.put]
   repeat (first
    | refine aAd.A0 ?_|refine aAd.AG ?_|refine aAd.AS ?_|with_reducible apply aAd.fork|with_reducible apply aAd.fork3|refine dD ?_|refine dE ?_|refine dF ?_|fail)
   with_reducible apply aAd.step
   have fy:=z.frozen 14;have cy:=z.cell 14;simp only[aJ,bT]at cy;refine cW ?_;intro K f;go_simp;have a8:=hid (show BlkIs (w7.setCell (Y,14) (.int .i64 2)) Y 93 [(3:Int),(),(1:Int),(10:Int),(19:Int),(),(),(),(1:Int),rv,(1:Int),.slice d 0 a,(2:Int),false,(2:Int)]from z.set 14 (.int .i64 2));have m:=hid (V.setCell (p:=⟨Y,14,none⟩) (.inl (by simp)) (.int .i64 2));refine f.out _ _ (C.out _ m.out) (fun _=>?_);clear f K fy cy;generalize w7.setCell (Y,14) (.int .i64 2)=w8 at *;try simp only[Act.put]
   refine aAd.fin ?_;go_end0
   have a5:H≠Y:=by have:=a0.out;omega
   refine⟨rfl,H,X,d,a,(ao.later F.out).ch m.out (by simp;exact E.2.2.2.2),?_,a8.out,(v.trans (.of_below F.out)).trans (m.mono (by simp))⟩;exact aA6 (S:=fun k=>k≠Y) (aAr F.out ap.out) ⟨m.size,fun k hk hl=>m.block k hl (by simpa using hk)⟩ (fun b N=>by simp[cV]at N;subst N;exact a5)
theorem aVy (k:ByteArray):(k== k)=true:=by first|exact beq_self_eq_true k|(cases k with|mk d=>(first|exact beq_self_eq_true d|(show(d== d)=true;exact beq_self_eq_true d)|(unfold BEq.beq;simp[instBEqByteArray];done)|simp[BEq.beq]))
theorem aVt (C I Y:Nat) (pos nn:Int) (win pP pX vK:dQ) (key:ByteArray) (w:dP) (hC:BlkIs w C 87 [pos,win,pP,pX,.map (some I),vK,nn]) (hI:MapIs w I #[⟨.string key,.pointer (some (Y,0)),0⟩] 1) :
 dT prog 81 #[.pointer (some (C,0))] w fun e w'=>∃v,e= .returned v/\w'.ownsRow w.heap.size 9 1 v 1 [.string key]/\dR w w w':=by
 have j:=hC.c4;have m:=hid hI;clear hC hI;go_enter func81,ntmps81
 go_wp2_with fail
 refine(aPz I w).mono ?_;rintro e k ⟨rfl,a⟩;have b:=cU w (.cells #[.map (some I)] 84);have d:=(show BlkIs (w.alloc (.cells #[.map (some I)] 84)) w.heap.size 84 [.map (some I)]from aAo _ _ _ rfl);rw[<-a]at b d;have f:=hid (aMb I w.heap.size key Y k d (m.later b));have i:=hid b;clear a b d j;go_wp2_with fail
 refine f.mono ?_;rintro e n ⟨v,rfl,h,l⟩;obtain⟨g,c,rfl,-⟩:=aBc h;go_wp2_with fail
 go_ret;exact⟨_,rfl,aA8 h i.size,bP i.out l⟩
theorem aWj (C:Nat) (w:dP):dT prog 37 #[.pointer (some (C,0))] w fun e w'=>e= .returned (.func (.func 80) #[] #[.pointer (some (w,0))])/\w'=w.alloc (.cells #[.pointer (some (C,0))] 52):=by
 go_enter func37,ntmps37
 go_wp2_with fail
 go_ret;exact⟨rfl,rfl⟩
theorem aWk (n l bC C I Y:Nat) (nn:Int) (win pP pX vK y9 y10 y11 y12 y13 y14:dQ) (key:ByteArray) (W:dP) (hb:BlkIs W bC 52 [.pointer (some (C,0))]) (hC:BlkIs W C 87 [(2:Int),win,pP,pX,.map (some I),vK,nn]) (hI:MapIs W I #[⟨.string key,.pointer (some (Y,0)),0⟩] 1) (hY:BlkIs W Y 93 [(3:Int),(),(1:Int),(10:Int),(19:Int),(),(),(),(1:Int),y9,y10,y11,y12,y13,y14]) :
 CallsIn Fence.wide n prog 80 #[.func (.yield l) #[] #[],.pointer (some (bC,0))] W fun e W'=>(∃v,e= .returned v)/\dR W W W':=by
 obtain⟨y,h,p,x⟩:=aBp hb hC hI hY;have m:=hb.cell 0;dsimp only[aJ]at m;clear hb hC hI hY;refine callsIn_of_wp func80 rfl trivial ?_ rfl;simp only[ntmps80,cL,cN,cQ,cY,cZ,cD,cE,cM,cG,cS,cO];refine wpIn_wide.2 ?_;go_wp2_with fail
 refine(aVt C I Y _ _ _ _ _ _ key W h.out p.out).mono ?_;rintro e b ⟨v,rfl,j,k⟩;obtain⟨g,c,rfl,u,t,s,d,-⟩:=aBc j;have q:=hid k;clear j k m;go_wp2_with fail
 refine wp_loop_rounds 2 ?_;rw[rounds_succ];go_upto_region 3 with fail
 have o:=hid (show∀V:dP,dR W W V->(fun W:dP=>W.cell? (bC,0)=some (.pointer (some (C,0)))/\W.cell? (C,4)=some (.map (some I))/\W.cell? (C,0)=some (.int .i64 2)/\(cK 84 (.map (some I)) (.string key) false).run prog W= .ok (.pointer (some (Y,0))) W/\W.cell? (Y,8)=some (.int .i64 1)) V by
  intro V hb;exact⟨(y.later hb).cell 0,(h.later hb).cell 4,(h.later hb).cell 0,(aDu (i:=0) aFc aH2 (show MapKept.IsKey .string (.string key)from trivial) (p.later hb) (by simp[Instr.findNow,Instr.sameNow,aVy])).1,(x.later hb).cell 8⟩)
 refine aIu (.take 0 (.take 1 (.take 2 (.take 3 (.take 4 (.take 5 (.take 6 (.take 7 (.take 8 (.take 9 (.take 10 (.take 11 (.take 12 (.take 13 (.take 14 (.take 15 (.take 16 (.take 17 (.take 18 (.take 19 (.take 20 (.take 21 .done)))))))))))))))))))))) o (bP q.out (cB (bS _ b))) ?_;obtain⟨r,a⟩:=ex_ b.drew;have f:=hid (show dR W W r from by rw[a];exact bP q.out (cB (bS _ b)));rw[<-a];clear a
 repeat (first
  | refine aAd.A0 ?_|refine aAd.AG ?_|refine aAd.AS ?_|with_reducible apply aAd.step|with_reducible apply aAd.fork|with_reducible apply aAd.fork3|refine dD ?_|refine dE ?_|refine dF ?_|fail)
 refine aAd.fin ?_;clear o d;go_wp2_with fail
 rw[rounds_succ];go_wp2_with fail
 go_end0
 exact⟨⟨_,rfl⟩,f.out⟩
end
end Go.Proofs.YtmhpfoicloojcaaGreatDoor
