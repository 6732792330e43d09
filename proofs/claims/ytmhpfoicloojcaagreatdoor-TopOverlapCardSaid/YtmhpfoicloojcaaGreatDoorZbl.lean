/- Walks: Prove, complete, Rows. -/
import Derived.Test.YtmhpfoicloojcaaGreatDoorZbg
set_option linter.all false
open List renaming getElem?_cons_zero→aH,getElem?_cons_succ→aI,getElem?_toArray→aX,getElem?_eq_getElem→bE,setIfInBounds_toArray→bO,getElem?_eq_some_iff→bV,length_take→bX,set_cons_zero→bY,set_cons_succ→bZ,length_append→cD,findIdx_le_length→dC,take_of_length_le→dE,drop_succ_cons→dG
open Nat renaming le_trans→bC
open Go.World renaming size_alloc→bD,setCell→dH
open Go.Value renaming slice→bF
open Go.Act renaming put→bW
open Go.RowKit.Below renaming refl→cB,grown→cF,drew→c9
open Go.IntKind renaming signed→cE,wrap→cG,bits→cV,i64→dD
open Go.NoPanic renaming normal→dA
open Go renaming World→dI,Value→dR,Calls→dT
open Go.RowKit renaming Below→dS
namespace Go.Proofs.YtmhpfoicloojcaaGreatDoor
open Below renaming next→bB,alloc1→bG
open BlkIs renaming new→bU,alloc→dB
set_option maxRecDepth 100000
set_option maxHeartbeats 16000000
section
open Go.Proofs.Tryz
open Go Go.RowKit Go.Shelf
attribute [local go_sem] Oper.semAt_some
variable {t c lo hi:Int}
structure PvA (w:dI) (b m no:Nat) (s:StT) (t c lo hi:Int) (rv ev:dR) (W:dI):Prop where
 col:BlkIs W w.heap.size 3 [c]
 low:BlkIs W (w.heap.size+1) 3 [lo]
 high:BlkIs W (w.heap.size+1+1) 3 [hi]
 res:BlkIs W (w.heap.size+1+1+1) 68 [(),(),(),(),(),(),.slice none 0 0,.slice none 0 0,.slice none 0 0]
 ord:BlkIs W no 209 [rv,ev]
 own:OrdOwn W (w.heap.size+4) s.rows t c rv ev
 st:StAt W b m s
 below:dS w.heap.size w W
theorem PvA.later {w:dI} {b m no:Nat} {s:StT} {rv ev:dR} {W W':dI} (h:PvA w b m no s t c lo hi rv ev W) (hb:dS W.heap.size W W'):PvA w b m no s t c lo hi rv ev W':=
 ⟨h.col.later hb,h.low.later hb,h.high.later hb,h.res.later hb,h.ord.later hb,h.own.later hb,h.st.below hb,bB h.below hb⟩
theorem PvA.index {w:dI} {b m no:Nat} {s:StT} {rv ev:dR} {W:dI} (h:PvA w b m no s t c lo hi rv ev W) (gd:GoodS s) (g:Nat) (lb:Array dR) (q:Int->Bool) (hp:aS5 g lb q W)
 (eg:∀args w,(callFunc g args).run prog w= .ok (.enter g args) w) :
 dT prog 105 #[.func (.func g) #[] lb,.pointer (some ⟨no,0,none⟩),.pointer (some ⟨w.heap.size,0,none⟩)] W fun e w'=>e= .returned (.int .i64 (((tabS s.rows t c).findIdx (fun r=>q (r.val c)):Nat):Int))/\dS W.heap.size W w':=
  aYl no w.heap.size c _ rv g lb q W (h.ord.cell 0) (aA1 h.own.rows) (h.col.cell 0) hp eg (by have:=aL8 s gd t c;omega)
theorem aCm (w:dI) (p:Addr) (u:dR):aDj (fun k=>k≠p.block) w (w.setCell p u):=aDj.of_only (T:=fun k=>k=p.block) (Only.setCell w p u rfl) (fun _ h=>h)
structure PvB (w:dI) (b m no np:Nat) (s:StT) (t c lo hi:Int) (n f:Nat) (rv ev v3:dR) (W0 W:dI):Prop where
 a:PvA w b m no s t c lo hi rv ev W0
 le:W0.heap.size<=np
 below:dS W0.heap.size W0 W
 box:BlkIs W np 68 (pfC t c lo hi n f (.slice none 0 0) (.slice none 0 0) v3)
 own:W.ownsRow (w.heap.size+4) 9 1 v3 16 (svs (sumsS s.rows))
 ne:∀k,v3.ownBlock=some k->k≠np
structure PvC (w W0:dI) (B np:Nat) (s:StT) (t c lo hi:Int) (n f:Nat) (v3:dR) (k:Nat) (W:dI):Prop where
 below:dS W0.heap.size W0 W
 box:∃v1 v2,BlkIs W np 68 (pfC t c lo hi n f v1 v2 v3)/\PfOwn W B ((cutO (tabS s.rows t c) c lo hi).take k) ((cutP s.rows t c lo hi).take k) v1 v2
 own:W.ownsRow (w.heap.size+4) 9 1 v3 16 (svs (sumsS s.rows))
 size:B<=W.heap.size
theorem aY3 (L:List Rw) (t c lo hi:Int):(cutP L t c lo hi).length=(cutO (tabS L t c) c lo hi).length:=by simp[cutP]
theorem aY1 {L:List Rw} {k:Nat} {x:Rw} (hx:(tabS L t c)[aDi (tabS L t c) c lo+k]? =some x) (hk:aDi (tabS L t c) c lo+k<toO (tabS L t c) c hi) :
 (cutO (tabS L t c) c lo hi).take (k+1)=(cutO (tabS L t c) c lo hi).take k++[x]/\(cutP L t c lo hi).take (k+1)=(cutP L t c lo hi).take k++[aBb (entsS L t c) (aDi (tabS L t c) c lo+k)]:=by
  have a:(cutO (tabS L t c) c lo hi)[k]? =some x:=by
   unfold cutO;rw[List.getElem?_drop,List.getElem?_take,if_pos hk];exact hx
  constructor
  . rw[List.take_add_one,a];rfl
  . rw[List.take_add_one]
    have:(cutP L t c lo hi)[k]? =some (aBb (entsS L t c) (aDi (tabS L t c) c lo+k)):=by
     unfold cutP;rw[List.getElem?_map,List.getElem?_range (bV.1 a).1];rfl
    rw[this];rfl
theorem Tryz.infoStrs:(prog.info? 58).map (fun i=>(i.zero,i.size,i.bytes))=some (some (.slice none 0 0),1,24):=by kernel_rfl
theorem aUx:∃i,prog.info? 58=some i/\i.zero=some (.slice none 0 0)/\i.size=1/\i.bytes=24:=by
 obtain⟨d,e,c,b,a⟩:=info_parts Tryz.infoStrs;exact⟨d,e,c,b,a⟩
theorem aEq {v v':dR} {B:Nat} (h1:∀k,v.ownBlock=some k->k<B) (h2:∀k,v'.ownBlock=some k->B<=k):v.ownBlock=none\/v.ownBlock≠v'.ownBlock:=by
 cases h:v.ownBlock with
 | none=>exact .inl rfl
 | some b=>
   right;intro e;have:=h1 b h;have:=h2 b e.symm;omega
theorem aJ0 {v v':dR} {B:Nat} (h1:∀k,v.ownBlock=some k->B<=k) (h2:∀k,v'.ownBlock=some k->k<B):v.ownBlock=none\/v.ownBlock≠v'.ownBlock:=by
 cases h:v.ownBlock with
 | none=>exact .inl rfl
 | some b=>
   right;intro e;have:=h1 b h;have:=h2 b e.symm;omega
theorem aW6 (b m:Nat) (s:StT) (t c lo hi:Int) (ht1:0<=t) (ht2:t<=3) (hc1:0<=c) (hc2:c<=3) (hlh:lo<=hi) (w:dI) (hS:StAt w b m s) (gd:GoodS s) (hR:aA4 w) :
 dT prog 56 #[.pointer (some ⟨b,0,none⟩),t,c,lo,hi] w fun e w'=>∃v1 v2 v3,e= .returned (.tuple #[pfV t c lo hi (tabS s.rows t c).length (aDi (tabS s.rows t c) c lo) v1 v2 v3,()])/\
   PfOwn w' w.heap.size (cutO (tabS s.rows t c) c lo hi) (cutP s.rows t c lo hi) v1 v2/\w'.ownsRow w.heap.size 9 1 v3 16 (svs (sumsS s.rows))/\dS w.heap.size w w':=by
 obtain⟨w0,aC⟩:=ex_ ((((w.alloc (.cells #[c] 3)).alloc (.cells #[lo] 3)).alloc (.cells #[hi] 3)).alloc (.cells #[(),(),(),(),(),(),.slice none 0 0,.slice none 0 0,.slice none 0 0] 68))
 have a0:dS w.heap.size w w0:=by
  rw[aC];exact Below.alloc (Below.alloc (Below.alloc (bG w _) (by rw[bD];omega) _) (by rw[bD,bD];omega) _) (by rw[bD,bD,bD];omega) _
 have z0:w0.heap.size=w.heap.size+4:=by rw[aC];simp[bD]
 have K1:BlkIs w0 w.heap.size 3 [c]:=by rw[aC];exact dB (dB (dB (bU w _ _) _) _) _
 have K2:BlkIs w0 (w.heap.size+1) 3 [lo]:=by rw[aC];exact dB (dB (aAn _ _ _ (by simp[bD])) _) _
 have K3:BlkIs w0 (w.heap.size+1+1) 3 [hi]:=by rw[aC];exact dB (aAn _ _ _ (by simp[bD])) _
 have K4:BlkIs w0 (w.heap.size+1+1+1) 68 [(),(),(),(),(),(),.slice none 0 0,.slice none 0 0,.slice none 0 0]:=by rw[aC];exact aAn _ _ _ (by simp[bD])
 have eR:∀a6 w,(callFunc 105 a6).run prog w= .ok (.enter 105 a6) w:=enters_of func105 (by kernel_rfl) rfl;have df:∀a6 w,(callFunc 108 a6).run prog w= .ok (.enter 108 a6) w:=enters_of func108 (by kernel_rfl) rfl;have de:∀a6 w,(callFunc 109 a6).run prog w= .ok (.enter 109 a6) w:=enters_of func109 (by kernel_rfl) rfl;have d9:=fun W=>aLw t c ht1 ht2 hc1 hc2 W;have cw:=aLh b m s t c hc1 hc2 w0 (hS.below a0) gd;have t1:decide (hi<lo)=false:=by simpa using hlh
 have c1:=K1.c0;have c2:=K2.c0;have c3:=K3.c0;obtain⟨e6,dp,dW,HK,dr,dm,HS,HG,e3,HR,HC,HE⟩:=bEb d9 cw aC (And.intro K1 (And.intro K2 (And.intro K3 K4))) a0 z0 hS gd hlh hR (And.intro hc1 hc2) (And.intro df de);have et:w.heap.size+3<w0.heap.size:=by omega
 clear d9 cw a0 z0 K1 K2 K3 K4 hS gd hR ht1 ht2 hc1 hc2 hlh aC df de;go_enter func56,ntmps56
 go_wp2_with fail
 rw[<-dW.out];refine(e6.out w0).mono ?_;rintro e eI ⟨rfl,rfl⟩;go_wp2_with fail
 refine(dp.out).mono ?_;rintro e w1 ⟨rv,ev,rfl,ba,b1⟩;obtain⟨rA,rc,rfl,-,-,-⟩:=aAa ba.rows;obtain⟨eA,ec,rfl,-,-,-⟩:=aAa ba.ents
 have cU:PvA w b m w1.heap.size s t c lo hi (.slice rA (tabS s.rows t c).length rc) (.slice eA (tabS s.rows t c).length ec) (w1.alloc (.cells #[.slice rA (tabS s.rows t c).length rc,.slice eA (tabS s.rows t c).length ec] 209)):=by
  have b2:=bG w1 (.cells #[.slice rA (tabS s.rows t c).length rc,.slice eA (tabS s.rows t c).length ec] 209);have bl:=bB b1 b2;obtain⟨K1,K2,K3,K4⟩:=HK.out;refine⟨K1.later bl,K2.later bl,K3.later bl,K4.later bl,bU w1 _ _,(ba.later b2).mono (by rw[dm.out];exact Nat.le_refl _),(HS.below dr.out).below bl,bB dr.out bl⟩
 obtain⟨no,bK⟩:=ex_ w1.heap.size;obtain⟨w2,ca⟩:=ex_ (w1.alloc (.cells #[.slice rA (tabS s.rows t c).length rc,.slice eA (tabS s.rows t c).length ec] 209));have eK:no<w2.heap.size:=by rw[ca,bK,bD];omega
 have er:w.heap.size+4<=no:=by rw[bK,<-dm.out];exact b1.size
 rw[<-ca,<-bK]at cU;obtain⟨cZ,dn,e2⟩:=aAw cU ca bK;have cc:=fun(W:dI) (hW:PvA w b m no s t c lo hi (.slice rA (tabS s.rows t c).length rc) (.slice eA (tabS s.rows t c).length ec) W)=>hW.index HG.out 108 #[.pointer (some ⟨w.heap.size+1,0,none⟩)] (fun v=>decide (lo<=v)) (fun W' v cN=>(bC4 v lo (w.heap.size+1) W' ((hW.low.later cN).cell 0)).mono (by rintro e w' ⟨rfl,rfl⟩;exact⟨rfl,cB _ _⟩)) HE.1;have cb:=fun(W:dI) (hW:PvA w b m no s t c lo hi (.slice rA (tabS s.rows t c).length rc) (.slice eA (tabS s.rows t c).length ec) W)=>hW.index HG.out 109 #[.pointer (some ⟨w.heap.size+1+1,0,none⟩)] (fun v=>decide (hi<v)) (fun W' v cN=>(bC3 v hi (w.heap.size+1+1) W' ((hW.high.later cN).cell 0)).mono (by rintro e w' ⟨rfl,rfl⟩;exact⟨rfl,cB _ _⟩)) HE.2;obtain⟨I1,ce⟩:=ex_ ((tabS s.rows t c).findIdx (fun r=>decide (lo<=r.val c)));obtain⟨I2,cd⟩:=ex_ ((tabS s.rows t c).findIdx (fun r=>decide (hi<r.val c)));rw[<-ce]at cc;rw[<-cd]at cb;obtain⟨n,hn⟩:=ex_ ((tabS s.rows t c).length);have eB:I1<=n:=by rw[ce,hn];exact dC
 have ez:I2<=n:=by rw[cd,hn];exact dC
 have eM:n<=2000:=by rw[hn];exact aL8 s HG.out t c
 obtain⟨Q,cM⟩:=ex_ (aDi (tabS s.rows t c) c lo);obtain⟨f1,cL⟩:=ex_ (toO (tabS s.rows t c) c hi);have d8:Q=I1-1:=by rw[cM,ce];rfl
 have d7:f1=min (I2+1) n:=by rw[cL,cd,hn];rfl
 have es:∀W,(Builtin.max_ #[3,3] 3 #[.int .i64 ((I1:Int)-1),()]).run prog W= .ok (.int .i64 (Q:Int)) W:=by
  intro W;have e:((Q:Nat):Int)=if(I1:Int)-1<0 then 0 else(I1:Int)-1:=by split <;> omega
  rw[e];simp[Builtin.max_,Builtin.max2]
 obtain⟨J2,da⟩:=ex_ (I2+1);have eL:dD.wrap ((I2:Int)+1)=(J2:Int):=by rw[da];simp[cG,cV,cE];omega
 have eN:min (J2:Int) (n:Int)=(f1:Int):=by omega
 rw[<-hn]at cc cb cZ dn⊢;obtain⟨e5,e4,HF,eX⟩:=aBp cc cb (And.intro cM (And.intro cL hn)) b1;clear ba cU ca bK cc cb da ce cd cM cL hn b1 d8 d7;go_wp2_with fail
 rw[<-dn.out,<-e2.out];refine(e5.out w2 cZ.out).mono ?_;rintro e w3 ⟨rfl,b3⟩;have dc:=cZ.later b3;have ew:=b3.size;have Z:=dc;clear b3 dc;go_wp2_with fail
 replace Z:=Z.later (c9 (cB _ _));refine aKs (fun W=>W.cell? ⟨no,0,none⟩=some (.slice rA n rc)) [(0,false),(1,false),(4,false),(5,false),(6,false),(2,true),(3,true),(7,true),(8,true)] (Z.ord.cell 0) ?_
 repeat (first
  | refine aAq.A0 ?_|refine aAq.AG ?_|refine aAq.AS ?_
  | (first
     | refine aAq.P0 ?_|refine aAq.PG ?_
     intro K q;go_simp
     first
     | (go_at_call 105;(with_reducible refine(e4.out _ Z).mono ?_);rintro e wx ⟨rfl,bx⟩;replace Z:=Z.later bx;clear bx;go_wp2_with fail)
     | skip|fail
     refine q.out _ _ ?_ (fun _=>?_)
     . exact Z.ord.cell 0
     clear q K;try simp only[bW,sx1,sx2,sx3]))
 refine aAq.fin ?_;go_upto_region 9 with fail
 have cC:=hid (fun(W:dI) (hW:PvA w b m no s t c lo hi (.slice rA n rc) (.slice eA n ec) W)=>aNh hW.st HG.out (HR.later hW.below));go_cut [16] (fun dF wx=>∃(f:Nat) (v3:dR) (W0:dI),dF= .pointer (some ⟨f,0,none⟩)/\Hid (PvB w b m no f s t c lo hi n Q (.slice rA n rc) (.slice eA n ec) v3 W0 wx))
 case first=>
  replace Z:=Z.later (c9 (cB _ _));refine wp_region_noPanic ?_;refine aKv (fun W=>W.cell? ⟨w.heap.size,0,none⟩=some (.int .i64 c)/\W.cell? ⟨w.heap.size+1,0,none⟩=some (.int .i64 lo)/\W.cell? ⟨w.heap.size+1+1,0,none⟩=some (.int .i64 hi)/\W.cell? ⟨no,0,none⟩=some (.slice rA n rc)) [(0,false),(1,false),(2,false),(3,false),(4,false),(5,false),(6,false),(7,false),(8,false)] 511 4 (by kernel_rfl) (by as_aux_lemma=>kernel_rfl) (by rfl) (by as_aux_lemma=>kernel_rfl) (fun _ _ _ _ _ h=>h) (⟨Z.col.cell 0,Z.low.cell 0,Z.high.cell 0,Z.ord.cell 0⟩) (fun d=>?_)
  repeat (
   refine aBi.A0 ?_)
  refine aBi.done ?_;refine aTd (i:=9) (j:=11) (oi:=?oi9) (oj:=?oj9) ?hr9 ?hi9 ?hgi9 ?hj9 ?hgj9 (fun K q=>?one9) (fun K q=>?two9)
  case hi9=>exact rfl
  case hj9=>exact rfl
  case hr9=>kernel_rfl
  case hgi9=>exact rfl
  case hgj9=>exact rfl
  case one9=>
   go_simp;go_at_call 110
   with_reducible refine(cC.out _ Z).mono ?_
   rintro e w4 ⟨v3,rfl,u,b4⟩;have Z4:=Z.later b4;obtain⟨A3,T,rfl,-,-,-⟩:=aAa u;go_wp2_with fail
   refine q.out _ _ (⟨Z4.col.cell 0,Z4.low.cell 0,Z4.high.cell 0,Z4.ord.cell 0⟩) (fun _=>?_);clear q K;refine aBq ?_;refine aQx [(10,false),(11,true),(12,true)] _ 8191 _ (by rfl) (by as_aux_lemma=>kernel_rfl) (by as_aux_lemma=>kernel_rfl) (by as_aux_lemma=>kernel_rfl) (fun _ _ _ _ _ h=>h) (⟨Z4.col.cell 0,Z4.low.cell 0,Z4.high.cell 0,Z4.ord.cell 0⟩) ?_
   repeat (
    refine aBi.A0 ?_)
   refine aBi.P0 ?_;intro K q;go_simp;have A:=bG w4 (.cells #[(),(),(),(),(),(),.slice none 0 0,.slice none 0 0,.slice none 0 0] 68);have E:=bU w4 68 #[(),(),(),(),(),(),.slice none 0 0,.slice none 0 0,.slice none 0 0];have R:=aAb A u;have eu:=A.size;have Z5:=Z4.later A;obtain⟨f,aZ⟩:=ex_ w4.heap.size;have g:w4.heap.size<=f:=by rw[aZ];exact Nat.le_refl _
   rw[<-aZ]at E⊢;clear aZ;generalize w4.alloc (.cells #[(),(),(),(),(),(),.slice none 0 0,.slice none 0 0,.slice none 0 0] 68)=w5 at *;refine q.out _ _ (⟨Z5.col.cell 0,Z5.low.cell 0,Z5.high.cell 0,Z5.ord.cell 0⟩) (fun _=>?_);clear q K;refine aBq ?_;refine aBi.P0 ?_;intro K q;have z0:=E.c0;have cm:=E.frozen 0;have z1:=E.c1;have cl:=E.frozen 1;have z2:=E.c2;have ck:=E.frozen 2;have z3:=E.c3;have cj:=E.frozen 3;have z4:=E.c4;have ci:=E.frozen 4;have z5:=E.c5;have cg:=E.frozen 5;have z6:=E.c6;have b8:=E.frozen 6;have z7:=E.c7;have b7:=E.frozen 7;have z8:=E.c8;have cf:=E.frozen 8;have KF:=((((((((((((((((((E).set 0 (.int .i64 t))).set 1 (.int .i64 c))).set 2 (.int .i64 lo))).set 3 (.int .i64 hi))).set 4 (.int .i64 (n:Int)))).set 5 (.int .i64 (Q:Int)))).set 6 (.slice none 0 0))).set 7 (.slice none 0 0))).set 8 ((.slice A3 16 T)));have bf:dS w4.heap.size w4 (((((((((w5.setCell ⟨f,0,none⟩ (.int .i64 t)).setCell ⟨f,1,none⟩ (.int .i64 c)).setCell ⟨f,2,none⟩ (.int .i64 lo)).setCell ⟨f,3,none⟩ (.int .i64 hi)).setCell ⟨f,4,none⟩ (.int .i64 (n:Int))).setCell ⟨f,5,none⟩ (.int .i64 (Q:Int))).setCell ⟨f,6,none⟩ (.slice none 0 0)).setCell ⟨f,7,none⟩ (.slice none 0 0)).setCell ⟨f,8,none⟩ ((.slice A3 16 T))):=((((((((((((((((((A).setCell (p:=⟨f,0,none⟩) g (.int .i64 t))).setCell (p:=⟨f,1,none⟩) g (.int .i64 c))).setCell (p:=⟨f,2,none⟩) g (.int .i64 lo))).setCell (p:=⟨f,3,none⟩) g (.int .i64 hi))).setCell (p:=⟨f,4,none⟩) g (.int .i64 (n:Int)))).setCell (p:=⟨f,5,none⟩) g (.int .i64 (Q:Int)))).setCell (p:=⟨f,6,none⟩) g (.slice none 0 0))).setCell (p:=⟨f,7,none⟩) g (.slice none 0 0))).setCell (p:=⟨f,8,none⟩) g ((.slice A3 16 T)));have ZF:=Z4.later bf;have bA:=aAb bf u;go_simp;refine q.out _ _ (⟨ZF.col.cell 0,ZF.low.cell 0,ZF.high.cell 0,ZF.ord.cell 0⟩) (fun _=>?_);clear q K z0 cm z1 cl z2 ck z3 cj z4 ci z5 cg z6 b8 z7 b7 z8 cf E Z5 R A;refine aBq ?_
   repeat (
    refine aBi.A0 ?_)
   refine aBi.done ?_;refine dA ?_;go_wp2_with fail
   go_meet
   exact⟨f,_,w4,rfl,hid ⟨Z4,g,bf,KF,aAh bA (by have:=Z.res.lt;omega),fun k e=>by have:=(u.lt k e).2;omega⟩⟩
  case two9=>
   go_simp;have A:dS wx.drew.heap.size wx.drew (wx.alloc (.cells #[(),(),(),(),(),(),.slice none 0 0,.slice none 0 0,.slice none 0 0] 68)).drew:=bG wx.drew (.cells #[(),(),(),(),(),(),.slice none 0 0,.slice none 0 0,.slice none 0 0] 68);have E:BlkIs (wx.alloc (.cells #[(),(),(),(),(),(),.slice none 0 0,.slice none 0 0,.slice none 0 0] 68)).drew wx.heap.size 68 [(),(),(),(),(),(),.slice none 0 0,.slice none 0 0,.slice none 0 0]:=bU wx.drew 68 #[(),(),(),(),(),(),.slice none 0 0,.slice none 0 0,.slice none 0 0];have Z1:=Z.later A;obtain⟨f,aZ⟩:=ex_ wx.heap.size;have g:wx.drew.heap.size<=f:=by rw[aZ];exact Nat.le_refl _
   rw[<-aZ]at E⊢;clear aZ;generalize (wx.alloc (.cells #[(),(),(),(),(),(),.slice none 0 0,.slice none 0 0,.slice none 0 0] 68)).drew=w5 at *;have an:=E.lt;refine q.out _ _ (⟨Z1.col.cell 0,Z1.low.cell 0,Z1.high.cell 0,Z1.ord.cell 0⟩) (fun _=>?_);clear q K;refine aBq ?_;refine aQx [(9,true),(10,false),(12,true)] _ 8191 _ (by rfl) (by as_aux_lemma=>kernel_rfl) (by as_aux_lemma=>kernel_rfl) (by as_aux_lemma=>kernel_rfl) (fun _ _ _ _ _ h=>h) (⟨Z1.col.cell 0,Z1.low.cell 0,Z1.high.cell 0,Z1.ord.cell 0⟩) ?_;refine aBi.P0 ?_;intro K q;go_simp;go_at_call 110
   with_reducible refine(cC.out _ Z1).mono ?_
   rintro e w4 ⟨v3,rfl,u,b4⟩;have Z4:=Z1.later b4;have E:=E.later b4;obtain⟨A3,T,rfl,-,-,-⟩:=aAa u;go_wp2_with fail
   refine q.out _ _ (⟨Z4.col.cell 0,Z4.low.cell 0,Z4.high.cell 0,Z4.ord.cell 0⟩) (fun _=>?_);clear q K;refine aBq ?_
   repeat (
    refine aBi.A0 ?_)
   refine aBi.P0 ?_;intro K q;have z0:=E.c0;have cm:=E.frozen 0;have z1:=E.c1;have cl:=E.frozen 1;have z2:=E.c2;have ck:=E.frozen 2;have z3:=E.c3;have cj:=E.frozen 3;have z4:=E.c4;have ci:=E.frozen 4;have z5:=E.c5;have cg:=E.frozen 5;have z6:=E.c6;have b8:=E.frozen 6;have z7:=E.c7;have b7:=E.frozen 7;have z8:=E.c8;have cf:=E.frozen 8;have KF:=((((((((((((((((((E).set 0 (.int .i64 t))).set 1 (.int .i64 c))).set 2 (.int .i64 lo))).set 3 (.int .i64 hi))).set 4 (.int .i64 (n:Int)))).set 5 (.int .i64 (Q:Int)))).set 6 (.slice none 0 0))).set 7 (.slice none 0 0))).set 8 ((.slice A3 16 T)));have bf:dS wx.drew.heap.size wx.drew (((((((((w4.setCell ⟨f,0,none⟩ (.int .i64 t)).setCell ⟨f,1,none⟩ (.int .i64 c)).setCell ⟨f,2,none⟩ (.int .i64 lo)).setCell ⟨f,3,none⟩ (.int .i64 hi)).setCell ⟨f,4,none⟩ (.int .i64 (n:Int))).setCell ⟨f,5,none⟩ (.int .i64 (Q:Int))).setCell ⟨f,6,none⟩ (.slice none 0 0)).setCell ⟨f,7,none⟩ (.slice none 0 0)).setCell ⟨f,8,none⟩ ((.slice A3 16 T))):=(((((((((((((((((((A.trans (b4.mono A.size))).setCell (p:=⟨f,0,none⟩) g (.int .i64 t))).setCell (p:=⟨f,1,none⟩) g (.int .i64 c))).setCell (p:=⟨f,2,none⟩) g (.int .i64 lo))).setCell (p:=⟨f,3,none⟩) g (.int .i64 hi))).setCell (p:=⟨f,4,none⟩) g (.int .i64 (n:Int)))).setCell (p:=⟨f,5,none⟩) g (.int .i64 (Q:Int)))).setCell (p:=⟨f,6,none⟩) g (.slice none 0 0))).setCell (p:=⟨f,7,none⟩) g (.slice none 0 0))).setCell (p:=⟨f,8,none⟩) g ((.slice A3 16 T)));have ZF:=Z.later bf;have bA:=aA6 u (((((((((((((((((((aDj.of_below (S:=fun k=>k≠f) (cB _ w4)).trans (aCm _ ⟨f,0,none⟩ (.int .i64 t)))).trans (aCm _ ⟨f,1,none⟩ (.int .i64 c)))).trans (aCm _ ⟨f,2,none⟩ (.int .i64 lo)))).trans (aCm _ ⟨f,3,none⟩ (.int .i64 hi)))).trans (aCm _ ⟨f,4,none⟩ (.int .i64 (n:Int))))).trans (aCm _ ⟨f,5,none⟩ (.int .i64 (Q:Int))))).trans (aCm _ ⟨f,6,none⟩ (.slice none 0 0)))).trans (aCm _ ⟨f,7,none⟩ (.slice none 0 0)))).trans (aCm _ ⟨f,8,none⟩ ((.slice A3 16 T))))) (fun k e h=>by have:=aAj u e;omega);go_simp;refine q.out _ _ (⟨ZF.col.cell 0,ZF.low.cell 0,ZF.high.cell 0,ZF.ord.cell 0⟩) (fun _=>?_);clear q K z0 cm z1 cl z2 ck z3 cj z4 ci z5 cg z6 b8 z7 b7 z8 cf E A;refine aBq ?_
   repeat (
    refine aBi.A0 ?_)
   refine aBi.done ?_;refine dA ?_;go_wp2_with fail
   go_meet
   exact⟨f,_,wx.drew,rfl,hid ⟨Z,g,bf,KF,aAh bA (by have:=Z1.res.lt;omega),fun k e=>by have:=aAj u e;omega⟩⟩
 case rest=>
  obtain⟨f,v3,W0,rfl,HB⟩:=hcut;go_wp2_with fail
  obtain⟨B,hB⟩:=ex_ wc.heap.size
  have db:PvC w W0 B f s t c lo hi n Q v3 0 wc:=by
   refine⟨HB.below,⟨_,_,HB.box,?_⟩,HB.own,by rw[hB];exact Nat.le_refl _⟩;rw[List.take_zero,List.take_zero];exact PfOwn.nil _ _
  have b0:f<B:=by rw[hB];exact HB.box.lt
  have d4:∀k,v3.ownBlock=some k->k≠f/\k<B:=fun k e=>⟨HB.ne k e,by rw[hB];exact(HB.own.lt k e).2⟩
  have cx:Q<=f1/\f1<=n:=by
   obtain⟨h0,h1,hn⟩:=HF.out;have h2:=aOu (O:=tabS s.rows t c) (c:=c) e3.out;have h3:=dC (xs:=tabS s.rows t c) (p:=fun r=>decide (lo<=r.val c));rw[h0,h1,hn];unfold aDi toO;omega
  obtain⟨dq,bt,aV,a8⟩:=aBp db HB.a HB.le d4;obtain⟨cx,ey⟩:=cx;clear hB db d4 HB;go_loopw [17] (fun iv wr=>∃k:Nat,Q+k<=f1/\iv= .int .i64 ((Q+k:Nat):Int)/\Hid (PvC w W0 B f s t c lo hi n Q v3 k wr)) (fun iv _=>f1-(intOf iv).toNat)
  case atStart=>exact⟨0,by omega,rfl,dq⟩
  case round=>
   clear dq;obtain⟨k,hk,rfl,ad⟩:=hrel;obtain⟨i,cK⟩:∃i,i=Q+k:=⟨_,rfl⟩;rw[<-cK]at hk⊢;by_cases h1:i<f1
   case pos=>
    have l:=bt.later ad.below;obtain⟨v1,v2,Kp,a1⟩:=ad.box;have H:=ad.own;have aD:=ad.size;have aa:=ad.below;obtain⟨x,hx⟩:∃x,(tabS s.rows t c)[i]? =some x:=⟨_,bE (by have:=HF.2.2;omega)⟩;have hn:=HF.2.2;have bL:ListAt wr (.slice eA n ec) (entsS s.rows t c):=aGv l.own.ents (by rw[aD3])
    have cv:=aTy (.slice eA n ec) (entsS s.rows t c) i wr bL (by rw[aD3,<-hn];omega) (by rw[aD3,<-hn];omega) (fun y hy=>by
     unfold entsS at hy;rw[List.mem_map]at hy;obtain⟨z,_,rfl⟩:=hy;have:=aIe z;omega) (HR.later l.below)
    have e1:=l.ord.c1;have t2:decide (i<f1)=true:=by simpa using h1
    obtain⟨dY,dX,HX,HI⟩:=aBp cv (And.intro l (And.intro Kp (And.intro a1 (And.intro H (And.intro aD aa))))) hx cK;clear l Kp a1 H aD aa bL cv hx cK ad hn;go_wp2_with fail
    refine(dY.out).mono ?_;rintro e w4 ⟨pv,rfl,u,b4⟩;obtain⟨pA,pc,rfl,-,-,-⟩:=aAa u;have e0:=hid u;have e7:=hid b4;clear u b4 e1;go_wp2_with fail
    obtain⟨l,Kp,a1,H,aD,aa⟩:=dX.out;have b4:=e7.out;have u:=e0.out;obtain⟨xt,xk,x0,x1,x2⟩:=x;have dO:=l.later b4;obtain⟨gr,ro,eJ,dJ,-,bM,r0,r1,r2,r3,r4⟩:=(aA1 bt.own.rows).at_ HX.out;injection dJ with er1 er2 er3
    subst er1 er3;clear er2;have hn:=HF.2.2;obtain⟨iR,cJ,cT,cS,cR⟩:=aJa;obtain⟨iS,hiS,cQ,cP,cO⟩:=aUx;obtain⟨ay,aT,cX,az⟩:=aBp aD (fun k (e:v1.ownBlock=some k)=>(a1.rows.lt k e).2) (fun k (e:v2.ownBlock=some k)=>((a1.paths.choose_spec.2.1).lt k e).2) (fun b (e:(bF pA (aBb (entsS s.rows t c) i).length pc).ownBlock=some b)=>aAj u e);have d5:no<W0.heap.size:=bt.ord.lt;have cI:=bt.ord.cell 0;simp only[aH]at cI;have HM:=hid (fun(W:dI) (hA:dS W0.heap.size W0 W) (q:BlkIs W f 68 (pfC t c lo hi n Q v1 v2 v3))=>(show(fun W=>W.cell? ⟨f,6,none⟩=some v1/\W.cell? ⟨f,7,none⟩=some v2/\W.cell? ⟨no,0,none⟩=some (.slice (some ⟨gr,ro,none⟩) n rc)/\W.cell? ⟨gr,ro+i*5,none⟩=some (.int .i64 xt)/\W.cell? ⟨gr,ro+i*5+1,none⟩=some (.int .i64 xk)/\W.cell? ⟨gr,ro+i*5+2,none⟩=some (.int .i64 x0)/\W.cell? ⟨gr,ro+i*5+3,none⟩=some (.int .i64 x1)/\W.cell? ⟨gr,ro+i*5+4,none⟩=some (.int .i64 x2)) W from⟨q.cell 6,q.cell 7,(hA.cell (p:=⟨no,0,none⟩) d5).trans cI,(hA.cell (p:=⟨gr,ro+i*5,none⟩) bM).trans r0,(hA.cell (p:=⟨gr,ro+i*5+1,none⟩) bM).trans r1,(hA.cell (p:=⟨gr,ro+i*5+2,none⟩) bM).trans r2,(hA.cell (p:=⟨gr,ro+i*5+3,none⟩) bM).trans r3,(hA.cell (p:=⟨gr,ro+i*5+4,none⟩) bM).trans r4⟩));have cH:=aY1 (L:=s.rows) (t:=t) (c:=c) (lo:=lo) (hi:=hi) (k:=k) (x:=⟨xt,xk,x0,x1,x2⟩) (by rw[<-HF.1,<-HI.out];exact HX.out) (by rw[<-HF.1,<-HF.2.1,<-HI.out];exact h1);rw[<-HF.1,<-HI.out]at cH;have br:=hid cH;have bJ:=aBh [⟨xt,xk,x0,x1,x2⟩];simp only[List.flatMap_cons,List.flatMap_nil,List.append_nil]at bJ;have bS:=hid bJ
    have d6:((cutO (tabS s.rows t c) c lo hi).take k).length<=2000/\((cutP s.rows t c lo hi).take k).length<=2000:=by
     have h2:=HI.out;rw[bX,bX];omega
    have a9:=hid d6;have bs:=hid h1;have q0:(0:Int)<=(i:Int):=by omega
    have q1:(i:Int)<(n:Int):=by omega
    have eP:W0.heap.size<B:=Nat.lt_of_le_of_lt aV.out b0;have bT:dS W0.heap.size W0 w4.drew:=c9 (bB aa b4);have bR:BlkIs w4.drew f 68 (pfC t c lo hi n Q v1 v2 v3):=(Kp.later b4).drew;have cq:PfOwn w4.drew B ((cutO (tabS s.rows t c) c lo hi).take k) ((cutP s.rows t c lo hi).take k) v1 v2:=(a1.later b4).later (c9 (cB _ _));have cr:w4.drew.ownsRow (w.heap.size+4) 9 1 v3 16 (svs (sumsS s.rows)):=aAb b4 H;have cp:w4.drew.ownsRow B 9 1 (.slice pA (aBb (entsS s.rows t c) i).length pc) (aBb (entsS s.rows t c) i).length (svs (aBb (entsS s.rows t c) i)):=aAh u aD;have bq:wr.heap.size<=w4.drew.heap.size:=b4.size;have dU:=HM.out _ bT bR;clear l Kp a1 H aD aa b4 u dO hn cH bJ d6 r0 r1 r2 r3 r4 cI h1 t2;refine wp_region_noPanic ?_;refine aFn (fun W=>W.cell? ⟨f,6,none⟩=some v1/\W.cell? ⟨f,7,none⟩=some v2/\W.cell? ⟨no,0,none⟩=some (.slice (some ⟨gr,ro,none⟩) n rc)/\W.cell? ⟨gr,ro+i*5,none⟩=some (.int .i64 xt)/\W.cell? ⟨gr,ro+i*5+1,none⟩=some (.int .i64 xk)/\W.cell? ⟨gr,ro+i*5+2,none⟩=some (.int .i64 x0)/\W.cell? ⟨gr,ro+i*5+3,none⟩=some (.int .i64 x1)/\W.cell? ⟨gr,ro+i*5+4,none⟩=some (.int .i64 x2)) 14 3 0 (oi:=?oiS) (v:=?vS) (by kernel_rfl) rfl ?hiS (by decide) ?hsS ?hkS ?hcS (by decide) ?hfS ?hrS ?hQS (Or.inl ⟨?hwS,?hyS⟩) dU (fun hc inv d=>?_)
    case hiS=>simp only[aX,aH];rfl
    case hsS=>kernel_rfl
    case hkS=>kernel_rfl
    case hcS=>kernel_rfl
    case hfS=>kernel_rfl
    case hrS=>kernel_rfl
    case hQS=>exact fun _ _ _ h=>h
    case hwS=>rfl
    case hyS=>intro w;go_simp;try with_reducible rfl
    generalize w4.drew=w5 at *;simp only[List.size_toArray,List.length_cons,List.length_nil,Nat.reduceAdd,Array.replicate_succ,Array.replicate_zero,List.push_toArray,List.nil_append,List.cons_append,bW,bO,bY,bZ]at inv⊢;refine aA5.take hc aBn inv 1 (oi:=?oiq1) (v:=?vq1) ?hiq1 (by decide) (by decide) ?hfq1 ?hrq1 ?hQq1 (Or.inl ⟨?hwq1,?hyq1⟩) d (fun inv=>?_)
    case hiq1=>simp only[aX,aI,aH];rfl
    case hfq1=>kernel_rfl
    case hrq1=>kernel_rfl
    case hQq1=>exact fun _ _ _ h=>h
    case hwq1=>rfl
    case hyq1=>intro w D;obtain⟨m1,m2,m3,m4,m5,m6,m7,m8⟩:=D;go_simp;try with_reducible rfl
    refine aBq ?_;refine aA5.take hc aBn inv 2 (oi:=?oiq2) (v:=?vq2) ?hiq2 (by decide) (by decide) ?hfq2 ?hrq2 ?hQq2 (Or.inl ⟨?hwq2,?hyq2⟩) d (fun inv=>?_)
    case hiq2=>simp only[aX,aI,aH];rfl
    case hfq2=>kernel_rfl
    case hrq2=>kernel_rfl
    case hQq2=>exact fun _ _ _ h=>h
    case hwq2=>rfl
    case hyq2=>intro w D;obtain⟨m1,m2,m3,m4,m5,m6,m7,m8⟩:=D;go_simp;try with_reducible rfl
    refine aBq ?_;refine aA5.take hc aBn inv 3 (oi:=?oiq3) (v:=?vq3) ?hiq3 (by decide) (by decide) ?hfq3 ?hrq3 ?hQq3 (Or.inl ⟨?hwq3,?hyq3⟩) d (fun inv=>?_)
    case hiq3=>simp only[aX,aI,aH];rfl
    case hfq3=>kernel_rfl
    case hrq3=>kernel_rfl
    case hQq3=>exact fun _ _ _ h=>h
    case hwq3=>rfl
    case hyq3=>intro w D;obtain⟨m1,m2,m3,m4,m5,m6,m7,m8⟩:=D;go_simp;try with_reducible rfl
    refine aBq ?_;refine aA5.take hc aBn inv 4 (oi:=?oiq4) (v:=?vq4) ?hiq4 (by decide) (by decide) ?hfq4 ?hrq4 ?hQq4 (Or.inl ⟨?hwq4,?hyq4⟩) d (fun inv=>?_)
    case hiq4=>simp only[aX,aI,aH];rfl
    case hfq4=>kernel_rfl
    case hrq4=>kernel_rfl
    case hQq4=>exact fun _ _ _ h=>h
    case hwq4=>rfl
    case hyq4=>intro w D;obtain⟨m1,m2,m3,m4,m5,m6,m7,m8⟩:=D;go_simp;try with_reducible rfl
    refine aBq ?_;refine aA5.take hc aBn inv 5 (oi:=?oiq5) (v:=?vq5) ?hiq5 (by decide) (by decide) ?hfq5 ?hrq5 ?hQq5 (Or.inl ⟨?hwq5,?hyq5⟩) d (fun inv=>?_)
    case hiq5=>simp only[aX,aI,aH];rfl
    case hfq5=>kernel_rfl
    case hrq5=>kernel_rfl
    case hQq5=>exact fun _ _ _ h=>h
    case hwq5=>rfl
    case hyq5=>intro w D;obtain⟨m1,m2,m3,m4,m5,m6,m7,m8⟩:=D;go_simp;try with_reducible rfl
    refine aBq ?_;refine aA5.take hc aBn inv 6 (oi:=?oiq6) (v:=?vq6) ?hiq6 (by decide) (by decide) ?hfq6 ?hrq6 ?hQq6 (Or.inl ⟨?hwq6,?hyq6⟩) d (fun inv=>?_)
    case hiq6=>simp only[aX,aI,aH];rfl
    case hfq6=>kernel_rfl
    case hrq6=>kernel_rfl
    case hQq6=>exact fun _ _ _ h=>h
    case hwq6=>rfl
    case hyq6=>intro w D;obtain⟨m1,m2,m3,m4,m5,m6,m7,m8⟩:=D;go_simp;try with_reducible rfl
    refine aBq ?_;refine aA5.take hc aBn inv 9 (oi:=?oiq7) (v:=?vq7) ?hiq7 (by decide) (by decide) ?hfq7 ?hrq7 ?hQq7 (Or.inl ⟨?hwq7,?hyq7⟩) d (fun inv=>?_)
    case hiq7=>simp only[aX,aI,aH];rfl
    case hfq7=>kernel_rfl
    case hrq7=>kernel_rfl
    case hQq7=>exact fun _ _ _ h=>h
    case hwq7=>rfl
    case hyq7=>intro w D;obtain⟨m1,m2,m3,m4,m5,m6,m7,m8⟩:=D;go_simp;try with_reducible rfl
    refine aBq ?_;refine aA5.take hc aBn inv 10 (oi:=?oiq8) (v:=?vq8) ?hiq8 (by decide) (by decide) ?hfq8 ?hrq8 ?hQq8 (Or.inl ⟨?hwq8,?hyq8⟩) d (fun inv=>?_)
    case hiq8=>simp only[aX,aI,aH];rfl
    case hfq8=>kernel_rfl
    case hrq8=>kernel_rfl
    case hQq8=>exact fun _ _ _ h=>h
    case hwq8=>rfl
    case hyq8=>intro w D;obtain⟨m1,m2,m3,m4,m5,m6,m7,m8⟩:=D;go_simp;try with_reducible rfl
    refine aBq ?_;refine aA5.take hc aBn inv 11 (oi:=?oiq9) (v:=?vq9) ?hiq9 (by decide) (by decide) ?hfq9 ?hrq9 ?hQq9 (Or.inl ⟨?hwq9,?hyq9⟩) d (fun inv=>?_)
    case hiq9=>simp only[aX,aI,aH];rfl
    case hfq9=>kernel_rfl
    case hrq9=>kernel_rfl
    case hQq9=>exact fun _ _ _ h=>h
    case hwq9=>rfl
    case hyq9=>intro w D;obtain⟨m1,m2,m3,m4,m5,m6,m7,m8⟩:=D;go_simp;try with_reducible rfl
    refine aBq ?_;refine aA5.each (rs:=[7,12]) (by kernel_rfl) (by simp) ?_;refine aDl.cons inv 7 (o:=?ooq10) ?hoq10 (by decide) (by kernel_rfl) (fun inv K q=>?_) ?restq10
    case hoq10=>simp only[aX,aI,aH];rfl
    . go_simp;have A:=bG w5 (.cells #[xt,xk,x0,x1,x2] 116);have bP:=bU w5 116 #[xt,xk,x0,x1,x2];obtain⟨G7,b6⟩:=ex_ w5.heap.size;rw[<-b6]at bP⊢;have dQ:wr.heap.size<=G7:=by rw[b6];exact bq
      have al:=bB bT A;have aj:=bR.later A;have aw:=cq.later A;have b9:=aAb A cr;have aK:=aAb A cp;have ai:=bC bq A.size;have bQ:=HM.out _ al aj;refine q.out _ _ bQ ?_;try simp only[bO,bY,bZ]
      generalize w5.alloc (.cells #[xt,xk,x0,x1,x2] 116)=w6 at *;clear d q K A b6 bT bR cq cr cp bq;have d:=bQ;refine aA5.each (rs:=[8,12]) (by kernel_rfl) (by simp) ?_;refine aDl.cons inv 8 (o:=?ooq11) ?hoq11 (by decide) (by kernel_rfl) (fun inv K q=>?_) ?restq11
      case hoq11=>simp only[aX,aI,aH];rfl
      . refine step_append_lies _ (by rfl) (.tmp 78) (.tmp 84) 33 (by rfl) B 116 iR _ 5 40 underlying33 cJ cT cS cR rfl (by decide) v1 ((cutO (tabS s.rows t c) c lo hi).take k).length _ (by rfl) aw.rows ⟨G7,0,none⟩ 1 1 [xt,xk,x0,x1,x2] (by rfl) rfl (aCn bP 0 [xt,xk,x0,x1,x2] rfl) bS.out (by decide) (by have:=a9.1;unfold maxLen;omega) (by have:=a9.1;omega) (bC ay.out ai) w6.heap.size rfl ?_;intro g5 c5 w7 R C M an;have o5:=fun k e=>aAj aw.rows (k:=k) e;have a3:=cF al C al.size (fun k e=>by have:=o5 k e;omega);have a2:BlkIs w7 f 68 (pfC t c lo hi n Q v1 v2 v3):=(C.block f aj.lt (fun e=>by have:=o5 f e.symm;omega)).trans aj
        have aF:∀b,(bF pA (aBb (entsS s.rows t c) i).length pc).ownBlock=some b->(bF (some ⟨g5,0,none⟩) (((cutO (tabS s.rows t c) c lo hi).take k).length+1) c5).ownBlock≠some b:=fun b hb e=>by
         have e:g5=b:=Option.some.inj e;have h1:=az.out b hb;have h2:=(aK.lt b hb).2;rcases M with h|h
         . have:=aT.out g5 h;omega
         . omega
        have a7:=aw.row (x:=⟨xt,xk,x0,x1,x2⟩) R C M;have aO:=b9.kept C (aEq (fun k e=>(a8.out k e).2) o5);have ah:=aK.kept C (aJ0 (fun k e=>az.out k e) aT.out);have ac:=bC ai C.size;have aR:=HM.out _ a3 a2;refine q.out _ _ aR ?_;refine aBq ?_;clear d q K al aj aw b9 aK ai bP R C M an o5;have d:=aR;refine aA5.take hc aBn inv 14 (oi:=?oiq12) (v:=?vq12) ?hiq12 (by decide) (by decide) ?hfq12 ?hrq12 ?hQq12 (Or.inl ⟨?hwq12,?hyq12⟩) d (fun inv=>?_)
        case hiq12=>simp only[aX,aI,aH];rfl
        case hfq12=>kernel_rfl
        case hrq12=>kernel_rfl
        case hQq12=>exact fun _ _ _ h=>h
        case hwq12=>rfl
        case hyq12=>intro w D;obtain⟨m1,m2,m3,m4,m5,m6,m7,m8⟩:=D;go_simp;try with_reducible rfl
        refine aBq ?_;refine aA5.each (rs:=[12]) (by kernel_rfl) (by simp) ?_;refine aDl.cons inv 12 (o:=?ooq13) ?hoq13 (by decide) (by kernel_rfl) (fun inv K q=>?_) ?restq13
        case hoq13=>simp only[aX,aI,aH];rfl
        . go_simp;have A:=bG w7 (.cells #[.slice pA (aBb (entsS s.rows t c) i).length pc] 58);have ax:=bU w7 58 #[.slice pA (aBb (entsS s.rows t c) i).length pc];obtain⟨X,N⟩:=ex_ w7.heap.size;rw[<-N]at ax⊢;have cA:wr.heap.size<=X:=by rw[N];exact ac
          have Y:=bB a3 A;have V:=a2.later A;have P:=a7.later A;have aN:=aAb A aO;have aJ:=aAb A ah;have ab:=bC ac A.size;have aQ:=HM.out _ Y V;refine q.out _ _ aQ ?_;try simp only[bO,bY,bZ]
          generalize w7.alloc (.cells #[.slice pA (aBb (entsS s.rows t c) i).length pc] 58)=w8 at *;clear d q K A N a3 a2 a7 aO ah ac;have d:=aQ;refine aA5.each (rs:=[13]) (by kernel_rfl) (by simp) ?_;refine aDl.cons inv 13 (o:=?ooq14) ?hoq14 (by decide) (by kernel_rfl) (fun inv K q=>?_) ?restq14
          case hoq14=>simp only[aX,aI,aH];rfl
          . have aE:=P.paths.choose_spec.1;have U:=P.paths.choose_spec.2.1;rw[aE]at U;refine step_append_lies _ (by rfl) (.tmp 87) (.tmp 89) 66 (by rfl) B 58 iS _ 1 24 underlying66 hiS cQ cP cO rfl (by decide) v2 ((cutP s.rows t c lo hi).take k).length P.paths.choose (by rfl) U ⟨X,0,none⟩ 1 1 [.slice pA (aBb (entsS s.rows t c) i).length pc] (by rfl) rfl (aCn ax 0 [.slice pA (aBb (entsS s.rows t c) i).length pc] rfl) (by simp[Value.oneCell']) (by decide) (by have:=a9.2;unfold maxLen;omega) (by have:=a9.2;omega) (bC ay.out ab) w8.heap.size rfl ?_;intro g6 c6 w9 a4 F a5 aG;have o6:=fun k e=>aAj U (k:=k) e;have ae:=cF Y F Y.size (fun k e=>by have:=o6 k e;omega);have G:BlkIs w9 f 68 (pfC t c lo hi n Q v1 v2 v3):=(F.block f V.lt (fun e=>by have:=o6 f e.symm;omega)).trans V;have aL:=P.path a4 F a5 aJ (fun b hb=>⟨aF b hb,fun e=>by have h1:=az.out b hb;have h2:=cX.out b e;omega⟩);have aM:=aN.kept F (aEq (fun k e=>(a8.out k e).2) o6);have aP:=HM.out _ ae G;refine q.out _ _ aP ?_;refine aBq ?_;obtain⟨-,-,-,-,-,-,z6,z7⟩:=G.C8;have b8:=G.frozen 6;have b7:=G.frozen 7
            have J:PvC w W0 B f s t c lo hi n Q v3 (k+1) ((w9.setCell ⟨f,6,none⟩ (.slice (some ⟨g5,0,none⟩) (((cutO (tabS s.rows t c) c lo hi).take k).length+1) c5)).setCell ⟨f,7,none⟩ (.slice (some ⟨g6,0,none⟩) (((cutP s.rows t c lo hi).take k).length+1) c6)):=by
             refine⟨(ae.setCell (p:=⟨f,6,none⟩) aV.out _).setCell (p:=⟨f,7,none⟩) aV.out _,⟨_,_,(G.set 6 _).set 7 _,?_⟩,aAg (aAg aM _ _ (fun b e=>(a8.out b e).1)) _ _ (fun b e=>(a8.out b e).1),?_⟩
             . rw[br.1,br.2];exact(aL.set ⟨f,6,none⟩ _ b0).set ⟨f,7,none⟩ _ b0
             . have h1:=bC (bC ay.out ab) F.size
               simpa[dH]using h1
            simp only[bX]at J;have aU:=hid J;clear d q K Y V P aN aJ ab ax a4 F a5 aG o6 aF ae G aL aM aP aE U J;refine⟨by kernel_rfl,?_⟩;simp only[dG,List.drop_zero];go_wp2_with fail
            refine dA ?_;go_wp2_with fail
            exact⟨⟨k+1,by have:=HI.out;have:=bs.out;omega,by have:=HI.out;go_num,aU⟩,by have:=bs.out;simp[intOf];omega⟩
          exact aDl.nil
        exact aDl.nil
      refine aDl.cons inv 12 (o:=?ooq15) ?hoq15 (by decide) (by kernel_rfl) (fun inv K q=>?_) ?restq15
      case hoq15=>simp only[aX,aI,aH];rfl
      . go_simp;have A:=bG w6 (.cells #[.slice pA (aBb (entsS s.rows t c) i).length pc] 58);have aS:=bU w6 58 #[.slice pA (aBb (entsS s.rows t c) i).length pc];obtain⟨X,N⟩:=ex_ w6.heap.size;rw[<-N]at aS⊢;have cA:wr.heap.size<=X:=by rw[N];exact ai
        have a3:=bB al A;have a2:=aj.later A;have a7:=aw.later A;have aO:=aAb A b9;have ah:=aAb A aK;have ac:=bC ai A.size;have bp:=bP.later A;have aR:=HM.out _ a3 a2;refine q.out _ _ aR ?_;try simp only[bO,bY,bZ]
        generalize w6.alloc (.cells #[.slice pA (aBb (entsS s.rows t c) i).length pc] 58)=w7 at *;clear d q K A N al aj aw b9 aK ai bP;have d:=aR;refine aA5.each (rs:=[8]) (by kernel_rfl) (by simp) ?_;refine aDl.cons inv 8 (o:=?ooq16) ?hoq16 (by decide) (by kernel_rfl) (fun inv K q=>?_) ?restq16
        case hoq16=>simp only[aX,aI,aH];rfl
        . refine step_append_lies _ (by rfl) (.tmp 78) (.tmp 84) 33 (by rfl) B 116 iR _ 5 40 underlying33 cJ cT cS cR rfl (by decide) v1 ((cutO (tabS s.rows t c) c lo hi).take k).length _ (by rfl) a7.rows ⟨G7,0,none⟩ 1 1 [xt,xk,x0,x1,x2] (by rfl) rfl (aCn bp 0 [xt,xk,x0,x1,x2] rfl) bS.out (by decide) (by have:=a9.1;unfold maxLen;omega) (by have:=a9.1;omega) (bC ay.out ac) w7.heap.size rfl ?_;intro g5 c5 w8 R C M an;have o5:=fun k e=>aAj a7.rows (k:=k) e;have Y:=cF a3 C a3.size (fun k e=>by have:=o5 k e;omega);have V:BlkIs w8 f 68 (pfC t c lo hi n Q v1 v2 v3):=(C.block f a2.lt (fun e=>by have:=o5 f e.symm;omega)).trans a2
          have aF:∀b,(bF pA (aBb (entsS s.rows t c) i).length pc).ownBlock=some b->(bF (some ⟨g5,0,none⟩) (((cutO (tabS s.rows t c) c lo hi).take k).length+1) c5).ownBlock≠some b:=fun b hb e=>by
           have e:g5=b:=Option.some.inj e;have h1:=az.out b hb;have h2:=(ah.lt b hb).2;rcases M with h|h
           . have:=aT.out g5 h;omega
           . omega
          have P:=a7.row (x:=⟨xt,xk,x0,x1,x2⟩) R C M;have aN:=aO.kept C (aEq (fun k e=>(a8.out k e).2) o5);have aJ:=ah.kept C (aJ0 (fun k e=>az.out k e) aT.out);have ab:=bC ac C.size;have ax:BlkIs w8 X 58 [.slice pA (aBb (entsS s.rows t c) i).length pc]:=(C.block X aS.lt (fun e=>by have:=aT.out X e.symm;omega)).trans aS;have aQ:=HM.out _ Y V;refine q.out _ _ aQ ?_;refine aBq ?_;clear d q K a3 a2 a7 aO ah ac bp R C M an o5 aS;have d:=aQ;refine aA5.take hc aBn inv 14 (oi:=?oiq17) (v:=?vq17) ?hiq17 (by decide) (by decide) ?hfq17 ?hrq17 ?hQq17 (Or.inl ⟨?hwq17,?hyq17⟩) d (fun inv=>?_)
          case hiq17=>simp only[aX,aI,aH];rfl
          case hfq17=>kernel_rfl
          case hrq17=>kernel_rfl
          case hQq17=>exact fun _ _ _ h=>h
          case hwq17=>rfl
          case hyq17=>intro w D;obtain⟨m1,m2,m3,m4,m5,m6,m7,m8⟩:=D;go_simp;try with_reducible rfl
          refine aBq ?_;refine aA5.each (rs:=[13]) (by kernel_rfl) (by simp) ?_;refine aDl.cons inv 13 (o:=?ooq18) ?hoq18 (by decide) (by kernel_rfl) (fun inv K q=>?_) ?restq18
          case hoq18=>simp only[aX,aI,aH];rfl
          . have aE:=P.paths.choose_spec.1;have U:=P.paths.choose_spec.2.1;rw[aE]at U;refine step_append_lies _ (by rfl) (.tmp 87) (.tmp 89) 66 (by rfl) B 58 iS _ 1 24 underlying66 hiS cQ cP cO rfl (by decide) v2 ((cutP s.rows t c lo hi).take k).length P.paths.choose (by rfl) U ⟨X,0,none⟩ 1 1 [.slice pA (aBb (entsS s.rows t c) i).length pc] (by rfl) rfl (aCn ax 0 [.slice pA (aBb (entsS s.rows t c) i).length pc] rfl) (by simp[Value.oneCell']) (by decide) (by have:=a9.2;unfold maxLen;omega) (by have:=a9.2;omega) (bC ay.out ab) w8.heap.size rfl ?_;intro g6 c6 w9 a4 F a5 aG;have o6:=fun k e=>aAj U (k:=k) e;have ae:=cF Y F Y.size (fun k e=>by have:=o6 k e;omega);have G:BlkIs w9 f 68 (pfC t c lo hi n Q v1 v2 v3):=(F.block f V.lt (fun e=>by have:=o6 f e.symm;omega)).trans V;have aL:=P.path a4 F a5 aJ (fun b hb=>⟨aF b hb,fun e=>by have h1:=az.out b hb;have h2:=cX.out b e;omega⟩);have aM:=aN.kept F (aEq (fun k e=>(a8.out k e).2) o6);have aP:=HM.out _ ae G;refine q.out _ _ aP ?_;refine aBq ?_;obtain⟨-,-,-,-,-,-,z6,z7⟩:=G.C8;have b8:=G.frozen 6;have b7:=G.frozen 7
            have J:PvC w W0 B f s t c lo hi n Q v3 (k+1) ((w9.setCell ⟨f,6,none⟩ (.slice (some ⟨g5,0,none⟩) (((cutO (tabS s.rows t c) c lo hi).take k).length+1) c5)).setCell ⟨f,7,none⟩ (.slice (some ⟨g6,0,none⟩) (((cutP s.rows t c lo hi).take k).length+1) c6)):=by
             refine⟨(ae.setCell (p:=⟨f,6,none⟩) aV.out _).setCell (p:=⟨f,7,none⟩) aV.out _,⟨_,_,(G.set 6 _).set 7 _,?_⟩,aAg (aAg aM _ _ (fun b e=>(a8.out b e).1)) _ _ (fun b e=>(a8.out b e).1),?_⟩
             . rw[br.1,br.2];exact(aL.set ⟨f,6,none⟩ _ b0).set ⟨f,7,none⟩ _ b0
             . have h1:=bC (bC ay.out ab) F.size
               simpa[dH]using h1
            simp only[bX]at J;have aU:=hid J;clear d q K Y V P aN aJ ab ax a4 F a5 aG o6 aF ae G aL aM aP aE U J;refine⟨by kernel_rfl,?_⟩;simp only[dG,List.drop_zero];go_wp2_with fail
            refine dA ?_;go_wp2_with fail
            exact⟨⟨k+1,by have:=HI.out;have:=bs.out;omega,by have:=HI.out;go_num,aU⟩,by have:=bs.out;simp[intOf];omega⟩
          exact aDl.nil
        exact aDl.nil
      exact aDl.nil
    refine aDl.cons inv 12 (o:=?ooq19) ?hoq19 (by decide) (by kernel_rfl) (fun inv K q=>?_) ?restq19
    case hoq19=>simp only[aX,aI,aH];rfl
    . go_simp;have A:=bG w5 (.cells #[.slice pA (aBb (entsS s.rows t c) i).length pc] 58);have cW:=bU w5 58 #[.slice pA (aBb (entsS s.rows t c) i).length pc];obtain⟨X,N⟩:=ex_ w5.heap.size;rw[<-N]at cW⊢;have cA:wr.heap.size<=X:=by rw[N];exact bq
      have al:=bB bT A;have aj:=bR.later A;have aw:=cq.later A;have b9:=aAb A cr;have aK:=aAb A cp;have ai:=bC bq A.size;have bQ:=HM.out _ al aj;refine q.out _ _ bQ ?_;try simp only[bO,bY,bZ]
      generalize w5.alloc (.cells #[.slice pA (aBb (entsS s.rows t c) i).length pc] 58)=w6 at *;clear d q K A N bT bR cq cr cp bq;have d:=bQ;refine aA5.each (rs:=[7]) (by kernel_rfl) (by simp) ?_;refine aDl.cons inv 7 (o:=?ooq20) ?hoq20 (by decide) (by kernel_rfl) (fun inv K q=>?_) ?restq20
      case hoq20=>simp only[aX,aI,aH];rfl
      . go_simp;have A:=bG w6 (.cells #[xt,xk,x0,x1,x2] 116);have bp:=bU w6 116 #[xt,xk,x0,x1,x2];obtain⟨G7,b6⟩:=ex_ w6.heap.size;rw[<-b6]at bp⊢;have dQ:wr.heap.size<=G7:=by rw[b6];exact ai
        have a3:=bB al A;have a2:=aj.later A;have a7:=aw.later A;have aO:=aAb A b9;have ah:=aAb A aK;have ac:=bC ai A.size;have aS:=cW.later A;have aR:=HM.out _ a3 a2;refine q.out _ _ aR ?_;try simp only[bO,bY,bZ]
        generalize w6.alloc (.cells #[xt,xk,x0,x1,x2] 116)=w7 at *;clear d q K A b6 al aj aw b9 aK ai cW;have d:=aR;refine aA5.each (rs:=[8]) (by kernel_rfl) (by simp) ?_;refine aDl.cons inv 8 (o:=?ooq21) ?hoq21 (by decide) (by kernel_rfl) (fun inv K q=>?_) ?restq21
        case hoq21=>simp only[aX,aI,aH];rfl
        . refine step_append_lies _ (by rfl) (.tmp 78) (.tmp 84) 33 (by rfl) B 116 iR _ 5 40 underlying33 cJ cT cS cR rfl (by decide) v1 ((cutO (tabS s.rows t c) c lo hi).take k).length _ (by rfl) a7.rows ⟨G7,0,none⟩ 1 1 [xt,xk,x0,x1,x2] (by rfl) rfl (aCn bp 0 [xt,xk,x0,x1,x2] rfl) bS.out (by decide) (by have:=a9.1;unfold maxLen;omega) (by have:=a9.1;omega) (bC ay.out ac) w7.heap.size rfl ?_;intro g5 c5 w8 R C M an;have o5:=fun k e=>aAj a7.rows (k:=k) e;have Y:=cF a3 C a3.size (fun k e=>by have:=o5 k e;omega);have V:BlkIs w8 f 68 (pfC t c lo hi n Q v1 v2 v3):=(C.block f a2.lt (fun e=>by have:=o5 f e.symm;omega)).trans a2
          have aF:∀b,(bF pA (aBb (entsS s.rows t c) i).length pc).ownBlock=some b->(bF (some ⟨g5,0,none⟩) (((cutO (tabS s.rows t c) c lo hi).take k).length+1) c5).ownBlock≠some b:=fun b hb e=>by
           have e:g5=b:=Option.some.inj e;have h1:=az.out b hb;have h2:=(ah.lt b hb).2;rcases M with h|h
           . have:=aT.out g5 h;omega
           . omega
          have P:=a7.row (x:=⟨xt,xk,x0,x1,x2⟩) R C M;have aN:=aO.kept C (aEq (fun k e=>(a8.out k e).2) o5);have aJ:=ah.kept C (aJ0 (fun k e=>az.out k e) aT.out);have ab:=bC ac C.size;have ax:BlkIs w8 X 58 [.slice pA (aBb (entsS s.rows t c) i).length pc]:=(C.block X aS.lt (fun e=>by have:=aT.out X e.symm;omega)).trans aS;have aQ:=HM.out _ Y V;refine q.out _ _ aQ ?_;refine aBq ?_;clear d q K a3 a2 a7 aO ah ac bp R C M an o5 aS;have d:=aQ;refine aA5.take hc aBn inv 14 (oi:=?oiq22) (v:=?vq22) ?hiq22 (by decide) (by decide) ?hfq22 ?hrq22 ?hQq22 (Or.inl ⟨?hwq22,?hyq22⟩) d (fun inv=>?_)
          case hiq22=>simp only[aX,aI,aH];rfl
          case hfq22=>kernel_rfl
          case hrq22=>kernel_rfl
          case hQq22=>exact fun _ _ _ h=>h
          case hwq22=>rfl
          case hyq22=>intro w D;obtain⟨m1,m2,m3,m4,m5,m6,m7,m8⟩:=D;go_simp;try with_reducible rfl
          refine aBq ?_;refine aA5.each (rs:=[13]) (by kernel_rfl) (by simp) ?_;refine aDl.cons inv 13 (o:=?ooq23) ?hoq23 (by decide) (by kernel_rfl) (fun inv K q=>?_) ?restq23
          case hoq23=>simp only[aX,aI,aH];rfl
          . have aE:=P.paths.choose_spec.1;have U:=P.paths.choose_spec.2.1;rw[aE]at U;refine step_append_lies _ (by rfl) (.tmp 87) (.tmp 89) 66 (by rfl) B 58 iS _ 1 24 underlying66 hiS cQ cP cO rfl (by decide) v2 ((cutP s.rows t c lo hi).take k).length P.paths.choose (by rfl) U ⟨X,0,none⟩ 1 1 [.slice pA (aBb (entsS s.rows t c) i).length pc] (by rfl) rfl (aCn ax 0 [.slice pA (aBb (entsS s.rows t c) i).length pc] rfl) (by simp[Value.oneCell']) (by decide) (by have:=a9.2;unfold maxLen;omega) (by have:=a9.2;omega) (bC ay.out ab) w8.heap.size rfl ?_;intro g6 c6 w9 a4 F a5 aG;have o6:=fun k e=>aAj U (k:=k) e;have ae:=cF Y F Y.size (fun k e=>by have:=o6 k e;omega);have G:BlkIs w9 f 68 (pfC t c lo hi n Q v1 v2 v3):=(F.block f V.lt (fun e=>by have:=o6 f e.symm;omega)).trans V;have aL:=P.path a4 F a5 aJ (fun b hb=>⟨aF b hb,fun e=>by have h1:=az.out b hb;have h2:=cX.out b e;omega⟩);have aM:=aN.kept F (aEq (fun k e=>(a8.out k e).2) o6);have aP:=HM.out _ ae G;refine q.out _ _ aP ?_;refine aBq ?_;obtain⟨-,-,-,-,-,-,z6,z7⟩:=G.C8;have b8:=G.frozen 6;have b7:=G.frozen 7
            have J:PvC w W0 B f s t c lo hi n Q v3 (k+1) ((w9.setCell ⟨f,6,none⟩ (.slice (some ⟨g5,0,none⟩) (((cutO (tabS s.rows t c) c lo hi).take k).length+1) c5)).setCell ⟨f,7,none⟩ (.slice (some ⟨g6,0,none⟩) (((cutP s.rows t c lo hi).take k).length+1) c6)):=by
             refine⟨(ae.setCell (p:=⟨f,6,none⟩) aV.out _).setCell (p:=⟨f,7,none⟩) aV.out _,⟨_,_,(G.set 6 _).set 7 _,?_⟩,aAg (aAg aM _ _ (fun b e=>(a8.out b e).1)) _ _ (fun b e=>(a8.out b e).1),?_⟩
             . rw[br.1,br.2];exact(aL.set ⟨f,6,none⟩ _ b0).set ⟨f,7,none⟩ _ b0
             . have h1:=bC (bC ay.out ab) F.size
               simpa[dH]using h1
            simp only[bX]at J;have aU:=hid J;clear d q K Y V P aN aJ ab ax a4 F a5 aG o6 aF ae G aL aM aP aE U J;refine⟨by kernel_rfl,?_⟩;simp only[dG,List.drop_zero];go_wp2_with fail
            refine dA ?_;go_wp2_with fail
            exact⟨⟨k+1,by have:=HI.out;have:=bs.out;omega,by have:=HI.out;go_num,aU⟩,by have:=bs.out;simp[intOf];omega⟩
          exact aDl.nil
        exact aDl.nil
      exact aDl.nil
    exact aDl.nil
   case neg=>
    skip
    have l:=bt.later ad.below;obtain⟨v1,v2,Kp,a1⟩:=ad.box;have H:=ad.own;have aD:=ad.size;have aa:=ad.below
    have b5:(cutO (tabS s.rows t c) c lo hi).take k=cutO (tabS s.rows t c) c lo hi/\(cutP s.rows t c lo hi).take k=cutP s.rows t c lo hi:=by
     have hl:(cutO (tabS s.rows t c) c lo hi).length<=k:=by
      obtain⟨h0,dP,hn⟩:=HF.out;unfold cutO;rw[List.length_drop,bX];omega
     exact⟨dE hl,dE (by rw[aY3];exact hl)⟩
    rw[b5.1,b5.2]at a1;obtain⟨bh,bk,rfl,-,-,-⟩:=aAa a1.rows;obtain⟨eT,cy,bN,-⟩:=a1.paths;rw[cy]at bN;clear cy;obtain⟨bg,bj,rfl,-,-,-⟩:=aAa bN;clear bN;obtain⟨be,T,rfl,-,-,-⟩:=aAa H;obtain⟨y0,y1,y2,y3,y4,y5,y6,y7,y8⟩:=Kp.C9;have z0:=l.res.c0;have cm:=l.res.frozen 0;have z1:=l.res.c1;have cl:=l.res.frozen 1;have z2:=l.res.c2;have ck:=l.res.frozen 2;have z3:=l.res.c3;have cj:=l.res.frozen 3;have z4:=l.res.c4;have ci:=l.res.frozen 4;have z5:=l.res.c5;have cg:=l.res.frozen 5;have z6:=l.res.c6;have b8:=l.res.frozen 6;have z7:=l.res.c7;have b7:=l.res.frozen 7;have z8:=l.res.c8;have cf:=l.res.frozen 8;have t2:decide (i<f1)=false:=by simpa using h1
    obtain⟨eV,dZ,ak,cY⟩:=aBp Kp a1 H l;clear Kp a1 H l b5 aD aa;go_wp2_with fail
    obtain⟨WF,bi⟩:=ex_ ((((((((((wr).setCell ⟨w.heap.size+1+1+1,0,none⟩ (.int .i64 t)).setCell ⟨w.heap.size+1+1+1,1,none⟩ (.int .i64 c)).setCell ⟨w.heap.size+1+1+1,2,none⟩ (.int .i64 lo)).setCell ⟨w.heap.size+1+1+1,3,none⟩ (.int .i64 hi)).setCell ⟨w.heap.size+1+1+1,4,none⟩ (.int .i64 (n:Int))).setCell ⟨w.heap.size+1+1+1,5,none⟩ (.int .i64 (Q:Int))).setCell ⟨w.heap.size+1+1+1,6,none⟩ (.slice bh (cutO (tabS s.rows t c) c lo hi).length bk)).setCell ⟨w.heap.size+1+1+1,7,none⟩ (.slice bg (cutP s.rows t c lo hi).length bj)).setCell ⟨w.heap.size+1+1+1,8,none⟩ (.slice be 16 T))
    have dN:BlkIs WF (w.heap.size+1+1+1) 68 (pfC t c lo hi n Q (.slice bh (cutO (tabS s.rows t c) c lo hi).length bk) (.slice bg (cutP s.rows t c lo hi).length bj) (.slice be 16 T)):=by
     rw[bi];exact(((((((((cY.res).set 0 (.int .i64 t)).set 1 (.int .i64 c)).set 2 (.int .i64 lo)).set 3 (.int .i64 hi)).set 4 (.int .i64 (n:Int))).set 5 (.int .i64 (Q:Int))).set 6 (.slice bh (cutO (tabS s.rows t c) c lo hi).length bk)).set 7 (.slice bg (cutP s.rows t c lo hi).length bj)).set 8 (.slice be 16 T)
    have dK:dS w.heap.size w WF:=by
     rw[bi];exact(((((((((cY.below).setCell (p:=⟨w.heap.size+1+1+1,0,none⟩) (by simp;omega) (.int .i64 t)).setCell (p:=⟨w.heap.size+1+1+1,1,none⟩) (by simp;omega) (.int .i64 c)).setCell (p:=⟨w.heap.size+1+1+1,2,none⟩) (by simp;omega) (.int .i64 lo)).setCell (p:=⟨w.heap.size+1+1+1,3,none⟩) (by simp;omega) (.int .i64 hi)).setCell (p:=⟨w.heap.size+1+1+1,4,none⟩) (by simp;omega) (.int .i64 (n:Int))).setCell (p:=⟨w.heap.size+1+1+1,5,none⟩) (by simp;omega) (.int .i64 (Q:Int))).setCell (p:=⟨w.heap.size+1+1+1,6,none⟩) (by simp;omega) (.slice bh (cutO (tabS s.rows t c) c lo hi).length bk)).setCell (p:=⟨w.heap.size+1+1+1,7,none⟩) (by simp;omega) (.slice bg (cutP s.rows t c lo hi).length bj)).setCell (p:=⟨w.heap.size+1+1+1,8,none⟩) (by simp;omega) (.slice be 16 T)
    have eQ:w.heap.size+4<=B:=by have:=cY.res.lt;have:=bt.res.lt;have:=aV.out;omega
    have dL:PfOwn WF B (cutO (tabS s.rows t c) c lo hi) (cutP s.rows t c lo hi) (.slice bh (cutO (tabS s.rows t c) c lo hi).length bk) (.slice bg (cutP s.rows t c lo hi).length bj):=by
     rw[bi];exact(((((((((dZ.out).set ⟨w.heap.size+1+1+1,0,none⟩ (.int .i64 t) (by simp;omega)).set ⟨w.heap.size+1+1+1,1,none⟩ (.int .i64 c) (by simp;omega)).set ⟨w.heap.size+1+1+1,2,none⟩ (.int .i64 lo) (by simp;omega)).set ⟨w.heap.size+1+1+1,3,none⟩ (.int .i64 hi) (by simp;omega)).set ⟨w.heap.size+1+1+1,4,none⟩ (.int .i64 (n:Int)) (by simp;omega)).set ⟨w.heap.size+1+1+1,5,none⟩ (.int .i64 (Q:Int)) (by simp;omega)).set ⟨w.heap.size+1+1+1,6,none⟩ (.slice bh (cutO (tabS s.rows t c) c lo hi).length bk) (by simp;omega)).set ⟨w.heap.size+1+1+1,7,none⟩ (.slice bg (cutP s.rows t c lo hi).length bj) (by simp;omega)).set ⟨w.heap.size+1+1+1,8,none⟩ (.slice be 16 T) (by simp;omega)
    have dM:WF.ownsRow (w.heap.size+4) 9 1 (.slice be 16 T) 16 (svs (sumsS s.rows)):=by
     rw[bi];exact aAg (aAg (aAg (aAg (aAg (aAg (aAg (aAg (aAg (ak.out) _ _ (fun b e=>by have:=aAj ak.out e;show b≠w.heap.size+1+1+1;omega)) _ _ (fun b e=>by have:=aAj ak.out e;show b≠w.heap.size+1+1+1;omega)) _ _ (fun b e=>by have:=aAj ak.out e;show b≠w.heap.size+1+1+1;omega)) _ _ (fun b e=>by have:=aAj ak.out e;show b≠w.heap.size+1+1+1;omega)) _ _ (fun b e=>by have:=aAj ak.out e;show b≠w.heap.size+1+1+1;omega)) _ _ (fun b e=>by have:=aAj ak.out e;show b≠w.heap.size+1+1+1;omega)) _ _ (fun b e=>by have:=aAj ak.out e;show b≠w.heap.size+1+1+1;omega)) _ _ (fun b e=>by have:=aAj ak.out e;show b≠w.heap.size+1+1+1;omega)) _ _ (fun b e=>by have:=aAj ak.out e;show b≠w.heap.size+1+1+1;omega)
    rw[<-bi];clear bi;have x0:0=0:=rfl;obtain⟨y0,y1,y2,y3,y4,y5,y6,y7,y8⟩:=dN.C9;refine bodyPost_ret (by simp[results,results56,go_sem,y0,y1,y2,y3,y4,y5,y6,y7,y8];try rfl) rfl ?_;obtain⟨h0,dP,hn⟩:=HF.out;refine⟨_,_,_,?_,dL.mono (by omega),aAh dM (by omega),dK⟩;rw[<-hn,<-h0];rfl
theorem aAq.skipU {P:Program} {Q:Exit->Act->dI->Prop} {S:dI->Prop} {l:List Oper} {i:Nat} {b:Bool} {rest:List (Nat×Bool)} {ts:List dR} {ds:List Deferred} {w:dI} {o oj:Oper} {j d:Nat} {bb:Bool} (ho:l[i]? =some o) (hg:o.guard=some (j,bb)) (hj:l[j]? =some oj) (hd:oj.dst=some d) (ht:ts[d]? =some undef)
 (h:aAq P l.toArray Q S rest ((Act.mk ts.toArray ds).put o.dst undef) w):aAq P l.toArray Q S ((i,b) :: rest) ⟨ts.toArray,ds⟩ w:=aAq.unwanted (by simpa using ho) (by
  unfold Region.wanted yielded;rw[hg];simp[hj,hd,ht,undef]) h
structure PfW (w:dI) (pb:Nat) (t c lo hi:Int) (n f:Nat) (v1 v2 v3:dR) (xs:List Rw):Prop where
 box:BlkIs w pb 68 (pfC t c lo hi n f v1 v2 v3)
 rows:RwsAt w v1 xs
theorem PfW.later {w w':dI} {pb:Nat} {t c lo hi:Int} {n f:Nat} {v1 v2 v3:dR} {xs:List Rw} (h:PfW w pb t c lo hi n f v1 v2 v3 xs) (hb:dS w w w'):PfW w' pb t c lo hi n f v1 v2 v3 xs:=⟨h.box.later hb,h.rows.below hb⟩
theorem aZ8 (pb:Nat) (t c lo hi:Int) (n f:Nat) (v1 v2 v3:dR) (xs:List Rw) (i:Nat) (x:Rw) (hx:xs[i]? =some x) (w:dI) (h:PfW w pb t c lo hi n f v1 v2 v3 xs) :
 dT prog 215 #[i,.pointer (some (pb,0))] w fun e w'=>e= .returned (.int .i64 (x.val c))/\dS w w w':=by
 have k:=fun W=>aB5 x c W;generalize x.val c=v at *;obtain⟨q,r,y,u,s⟩:=x;obtain⟨b,a,z,rfl,m,d,E,D,C,B,A⟩:=h.rows.at_ hx;unfold rwV at k;dsimp only at k;have o:=h.box.c6;have H:=h.box.c1;have P:(0:Int)<=(i:Int):=by omega
 have L:(i:Int)<(xs.length:Int):=by have:=(bV.1 hx).1;omega
 obtain⟨N,F⟩:=ex_ xs.length;rw[<-F]at o L;have M:=hid k;have Z:dS w w w:=cB _ _;have l:=h.box.lt;have g:=hid (fun(W:dI) (j:dS w w W)=>(show(fun W=>W.cell? (pb,6)=some (.slice (some (b,a)) N z)/\W.cell? (pb,1)=some (.int .i64 c)/\W.cell? (b,a+i*5)=some (.int .i64 q)/\W.cell? (b,a+i*5+1)=some (.int .i64 r)/\W.cell? (b,a+i*5+2)=some (.int .i64 y)/\W.cell? (b,a+i*5+3)=some (.int .i64 u)/\W.cell? (b,a+i*5+4)=some (.int .i64 s)) W from⟨(j.cell (p:=⟨pb,6,none⟩) l).trans o,(j.cell (p:=⟨pb,1,none⟩) l).trans H,(j.cell (p:=⟨b,a+i*5,none⟩) d).trans E,(j.cell (p:=⟨b,a+i*5+1,none⟩) d).trans D,(j.cell (p:=⟨b,a+i*5+2,none⟩) d).trans C,(j.cell (p:=⟨b,a+i*5+3,none⟩) d).trans B,(j.cell (p:=⟨b,a+i*5+4,none⟩) d).trans A⟩));clear k h hx o H E D C B A F l m;go_enter func215,ntmps215
 go_wp2_with fail
 replace Z:=c9 Z;refine aKs (fun W=>W.cell? (pb,6)=some (.slice (some (b,a)) N z)/\W.cell? (pb,1)=some (.int .i64 c)/\W.cell? (b,a+i*5)=some (.int .i64 q)/\W.cell? (b,a+i*5+1)=some (.int .i64 r)/\W.cell? (b,a+i*5+2)=some (.int .i64 y)/\W.cell? (b,a+i*5+3)=some (.int .i64 u)/\W.cell? (b,a+i*5+4)=some (.int .i64 s)) [(0,false),(1,false),(2,false),(5,false),(6,false),(3,true),(4,true),(7,true),(8,true)] (g.out _ Z) ?_
 repeat (first
  | refine aAq.A0 ?_|refine aAq.AG ?_|refine aAq.AS ?_
  | (first
     | refine aAq.P0 ?_|refine aAq.PG ?_
     intro K G;go_simp
     first
     | (go_at_call 91;(with_reducible refine(M.out _).mono ?_);rintro e O ⟨rfl,J⟩;replace Z:=bB Z J;clear J;go_wp2_with fail)
     | skip|fail
     refine G.out _ _ ?_ (fun _=>?_)
     . exact g.out _ Z
     clear G K;try simp only[bW,sx1,sx2,sx3]))
 refine aAq.fin ?_;go_wp2_with fail
 go_ret;exact⟨rfl,Z⟩
theorem aQj (t c lo hi:Int) (n f:Nat) (v1 v2 v3:dR) (xs:List Rw) (ht1:0<=t) (ht2:t<=3) (hc1:0<=c) (hc2:c<=3) (hlh:lo<=hi) (w:dI) (hv:RwsAt w v1 xs) (h2:∃A l cc,v2= .slice A l cc) (h3:∃A l cc,v3= .slice A l cc) (hC:CompleteO n f xs t c lo hi) :
 dT prog 159 #[pfV t c lo hi n f v1 v2 v3] w fun e w'=>e= .returned (.bool true)/\dS w w w':=by
 obtain⟨A2,l2,c2,rfl⟩:=h2;obtain⟨A3,l3,c3,rfl⟩:=h3;obtain⟨A1,c1,rfl,-⟩:=hv.form;obtain⟨N,hN⟩:=ex_ xs.length;rw[<-hN]at hv⊢;obtain⟨j,S⟩:=ex_ (w.alloc (.cells #[t,c,lo,hi,(n:Int),(f:Int),(bF A1 N c1),(bF A2 l2 c2),(bF A3 l3 c3)] 68));have a1:dS w w j:=by rw[S];exact bG w _
 have hP:PfW j w.heap.size t c lo hi n f (bF A1 N c1) (bF A2 l2 c2) (bF A3 l3 c3) xs:=⟨by rw[S];exact bU w _ #[t,c,lo,hi,(n:Int),(f:Int),(bF A1 N c1),(bF A2 l2 c2),(bF A3 l3 c3)],hv.below a1⟩;have aA:=hid (fun W=>aLw t c ht1 ht2 hc1 hc2 W);obtain⟨k0,k1,k2,k3,k4,k5,k6⟩:=hP.box.C7;obtain⟨HP,Q,HC,HN,HW⟩:=aDs hP a1 hC hN S;have e1:decide (hi<lo)=false:=by simpa using hlh
 have e2:decide ((n:Int)<0)=false:=by simp
 have bK:n<=2000:=hC.small;have e3:decide ((2000:Int)<(n:Int))=false:=by simp;omega
 have e4:decide ((f:Int)<0)=false:=by simp
 have bM:f+N<=n:=by rw[hN];exact hC.fits
 have e5:decide ((n:Int)<(f:Int))=false:=by simp;omega
 have bP:decide (n<f)=false:=by simp;omega
 obtain⟨D,hD⟩:=ex_ (n-f);have bH:dD.wrap ((n:Int)-(f:Int))=(D:Int):=by rw[hD];simp[cG,cV,cE];omega
 have e6:decide (D<N)=false:=by simp;omega
 have a6:N=0->n=0:=fun h=>hC.none_ (by rw[<-hN];exact h);have bN:=hid (And.intro hc1 hc2);clear hD hP hv hC hN a1 S ht1 ht2 hc1 hc2;unfold pfV;by_cases T:N=0
 . have h3:((N:Int)== 0)=true:=by simp[T]
   have h4:((n:Int)== 0)=true:=by simp[a6 T]
   clear a6 T;go_enter func159,ntmps159
   go_wp2_with fail
   rw[<-HW.out];refine(aA.out j).mono ?_;rintro e j ⟨rfl,rfl⟩;go_wp2_with fail
   go_ret;exact⟨rfl,Q.out⟩
 . have h3:((N:Int)== 0)=false:=by simpa using T
   clear a6;go_enter func159,ntmps159
   go_wp2_with fail
   rw[<-HW.out];refine(aA.out j).mono ?_;rintro e j ⟨rfl,rfl⟩;go_wp2_with fail
   go_loopw [64] (fun iv wr=>∃k:Nat,k<=N/\iv= .int .i64 k/\Hid (dS j j wr)) (fun iv _=>N-(intOf iv).toNat)
   case atStart=>exact⟨0,by omega,rfl,hid (cB _ _)⟩
   case round=>
    obtain⟨k,hk,rfl,HR⟩:=hrel;have zr:=HP.later HR.out;clear k0 k1 k2 k3 k4 k5 k6;have HV:=hid (fun(W:dI) (i:Nat) (x:Rw) (z:xs[i]? =some x) (p:dS j j W)=>aZ8 w.heap.size t c lo hi n f _ _ _ xs i x z W (HP.later p));by_cases h1:k<N
    . obtain⟨x,z⟩:∃x,xs[k]? =some x:=⟨_,bE (by rw[<-HN.out];exact h1)⟩;obtain⟨gr,ro,rc,aP,-,bL,r0,r1,r2,r3,r4⟩:=zr.rows.at_ z;injection aP with er1 er2 er3
      subst er1 er3;clear er2;obtain⟨V,am,a2,a4⟩:=HC.rows k x z;have E:=fun W p=>HV.out W k x z p;have q:=fun W=>aGo x.table x.key x.v W;rw[V]at q;obtain⟨v,hv⟩:=ex_ (x.val c);rw[<-hv]at a2 a4 E
      have H:∀J y,k=J+1->xs[J]? =some y->y.val c<v\/y.val c=v/\y.key<x.key:=fun J y hJ R=>by
       have:=aFb.1 (HC.asc J y x R (hJ▸z));rw[<-hv]at this;exact this
      clear hv;obtain⟨xt,B,x0,x1,x2⟩:=x;dsimp only at am q H r0 r1 r2 r3 r4;subst am;unfold aNa at q;dsimp only at q;have q0:(0:Int)<=(k:Int):=by omega
      have q1:(k:Int)<(N:Int):=by omega
      have t1:decide (k<N)=true:=by simpa using h1
      obtain⟨aw,b7,aB,HX,b8,b9⟩:=aIl E q H z a2 (show k+1<N->v<=hi from fun h=>a4 (by rw[<-HN.out];exact h));have b1:dS wr wr (wr.alloc (.cells #[xt,B,x0,x1,x2] 116)):=bG wr _;have Kb:=bU wr 116 #[xt,B,x0,x1,x2];have Z:=bB HR.out b1;have HZ:=hid (And.intro Z Kb);obtain⟨w2,a0⟩:=ex_ (wr.alloc (.cells #[xt,B,x0,x1,x2] 116));rw[<-a0]at HZ;have av:=hid a0;clear E q H a2 a4 V zr b1 Kb Z a0 z;go_wp2_with fail
      rw[<-av.out];refine(aw.out w2 HZ.1).mono ?_;rintro e w3 ⟨rfl,b3⟩;obtain⟨Z2,K2⟩:=HZ.out;have au:=hid (bB Z2 b3);have K3:=K2.later b3;have c0:=K3.c0;have aY:w3.cell? (wr,1)=some (.int .i64 B):=K3.cell 1;have aW:w3.cell? (wr,2)=some (.int .i64 x0):=K3.cell 2;have aU:w3.cell? (wr,3)=some (.int .i64 x1):=K3.cell 3;have aT:w3.cell? (wr,4)=some (.int .i64 x2):=K3.cell 4;have az:=hid K3;clear b3 Z2 K2 K3;go_upto_region 11 with fail
      go_cut [103] (fun ak s=>ak= .bool false/\Hid (dS j j s/\BlkIs s wr 116 [xt,B,x0,x1,x2]))
      case first=>
       go_wp2_with fail
       refine(b7.out w3).mono ?_;rintro e w4 ⟨rfl,b4⟩;have Z4:=bB au.out b4;have K4:=az.later b4;have P4:=HP.later Z4;obtain⟨k0,-,k2,k3⟩:=P4.box.C4;have c0:=K4.c0;obtain⟨M,hM⟩:=ex_ (N-1);have aO:dD.wrap ((N:Int)-1)=(M:Int):=by rw[hM];simp[cG,cV,cE];omega
       have HF:=hid (And.intro Z4 K4)
       have a5:v<lo->decide (0<k)=false:=fun h=>by
        have:=b8.out;simp only[decide_eq_false_iff_not];omega
       have r:hi<v->decide (k<M)=false:=fun h=>by
        have:=b9.out;simp only[decide_eq_false_iff_not];omega
       clear b4 Z4 K4 P4 hM;by_cases d1:v<lo
       . have t1:decide (v<lo)=true:=by simpa using d1
         have t2:=a5 d1;clear d1 a5;by_cases O:hi<v
         . have Y:decide (hi<v)=true:=by simpa using O
           have t4:=r O;clear O r;go_wp2_with fail
           go_meet
           exact⟨rfl,HF⟩
         . have Y:decide (hi<v)=false:=by simpa using O
           clear O r;go_wp2_with fail
           go_meet
           exact⟨rfl,HF⟩
       . have t1:decide (v<lo)=false:=by simpa using d1
         clear d1 a5;by_cases O:hi<v
         . have Y:decide (hi<v)=true:=by simpa using O
           have t4:=r O;clear O r;go_wp2_with fail
           go_meet
           exact⟨rfl,HF⟩
         . have Y:decide (hi<v)=false:=by simpa using O
           clear O r;go_wp2_with fail
           go_meet
           exact⟨rfl,HF⟩
      case rest=>
       obtain⟨rfl,HF⟩:=hcut;clear c0 aY aW aU aT au az HZ av r0 r1 r2 r3 r4;go_wp2_with fail
       have g:=HF.out;replace g:=And.intro (bB g.1 (c9 (cB _ _))) (g.2.drew);clear HF;by_cases a3:k=0
       . have t5:decide (0<k)=false:=by simp[a3]
         clear a3;refine aKs (fun W=>W.cell? (wr,1)=some (.int .i64 B)) [(0,true),(1,true),(2,true),(3,false),(4,false),(5,true),(6,true),(7,true),(8,true),(9,true),(10,false),(11,false),(12,true),(13,true),(14,true),(15,true),(16,true),(17,false),(18,false),(19,false),(20,false),(21,true),(22,true),(23,true),(24,true),(25,true),(26,true),(27,true),(28,true),(29,true)] (g.2.cell 1) ?_
         repeat (first
          | refine aAq.A0 ?_|refine aAq.AG ?_|refine aAq.AS ?_
          | (apply aAq.skipU
             case ho=>exact rfl
             case hg=>exact rfl
             case hj=>exact rfl
             case hd=>exact rfl
             case ht=>exact rfl
             try simp only[bW,sx1,sx2,sx3])
          | (first
             | refine aAq.P0 ?_|refine aAq.PG ?_
             intro K d;go_simp
             first
             | skip|fail
             refine d.out _ _ ?_ (fun _=>?_)
             . exact g.2.cell 1
             clear d K;try simp only[bW,sx1,sx2,sx3]))
         refine aAq.fin ?_;go_wp2_with fail
         exact⟨⟨k+1,by omega,by go_num,hid g.1⟩,by simp[intOf];omega⟩
       . have t5:decide (0<k)=true:=by simp;omega
         obtain⟨J,hJ⟩:∃J,k=J+1:=⟨k-1,by omega⟩;obtain⟨y,R⟩:∃y,xs[J]? =some y:=⟨_,bE (by rw[<-HN.out];omega)⟩;have C:=fun W p=>HV.out W J y R p;have an:=aB.out J y hJ R
         have m:∀W,(dS j j W/\BlkIs W wr 116 [xt,B,x0,x1,x2])->(fun W=>W.cell? (w,6)=some (.slice (some (gr,ro)) N c1)/\W.cell? (wr,1)=some (.int .i64 B)/\W.cell? (gr,ro+J*5+1)=some (.int .i64 y.key)) W:=by
          intro W p;have P:=HP.later p.1;obtain⟨g',o',c',e,-,-,-,r1,-⟩:=P.rows.at_ R;injection e with e1 e2 e3
          injection e1 with e1
          injection e1 with e4 e5 e6
          subst e4 e5;exact⟨P.box.cell 6,p.2.cell 1,r1⟩
         have q2:(0:Int)<=(J:Int):=by omega
         have q3:(J:Int)<(N:Int):=by omega
         have bI:dD.wrap ((k:Int)-1)=(J:Int):=by rw[hJ];simp[cG,cV,cE];omega
         generalize y.val c=u at *;generalize y.key=yk at *;have o:=hid C;have a:=hid m;clear C m hJ R a3;have t6:decide (v<u)=false:=by simp;omega
         by_cases hs:v=u
         . have t7:(v== u)=true:=by simpa using hs
           have t8:decide (B<=yk)=false:=by simp;omega
           clear hs an;refine aKs (fun W=>W.cell? (w,6)=some (.slice (some (gr,ro)) N c1)/\W.cell? (wr,1)=some (.int .i64 B)/\W.cell? (gr,ro+J*5+1)=some (.int .i64 yk)) [(0,true),(1,true),(2,true),(3,false),(4,false),(5,true),(6,true),(7,true),(8,true),(9,true),(10,false),(11,false),(12,true),(13,true),(14,true),(15,true),(16,true),(17,false),(18,false),(19,false),(20,false),(21,true),(22,true),(23,true),(24,true),(25,true),(26,true),(27,true),(28,true),(29,true)] (a.out _ g) ?_
           repeat (first
            | refine aAq.A0 ?_|refine aAq.AG ?_|refine aAq.AS ?_
            | (apply aAq.skipU
               case ho=>exact rfl
               case hg=>exact rfl
               case hj=>exact rfl
               case hd=>exact rfl
               case ht=>exact rfl
               try simp only[bW,sx1,sx2,sx3])
            | (first
               | refine aAq.P0 ?_|refine aAq.PG ?_
               intro K d;go_simp
               first
               | (go_at_call 215;(with_reducible refine(o.out _ g.1).mono ?_);rintro e s ⟨rfl,b⟩;replace g:=And.intro (bB g.1 b) (g.2.later b);clear b;go_wp2_with fail)
               | skip|fail
               refine d.out _ _ ?_ (fun _=>?_)
               . exact a.out _ g
               clear d K;try simp only[bW,sx1,sx2,sx3]))
           refine aAq.fin ?_;go_wp2_with fail
           exact⟨⟨k+1,by omega,by go_num,hid g.1⟩,by simp[intOf];omega⟩
         . have t7:(v== u)=false:=by simpa using hs
           clear hs an;refine aKs (fun W=>W.cell? (w,6)=some (.slice (some (gr,ro)) N c1)/\W.cell? (wr,1)=some (.int .i64 B)/\W.cell? (gr,ro+J*5+1)=some (.int .i64 yk)) [(0,true),(1,true),(2,true),(3,false),(4,false),(5,true),(6,true),(7,true),(8,true),(9,true),(10,false),(11,false),(12,true),(13,true),(14,true),(15,true),(16,true),(17,false),(18,false),(19,false),(20,false),(21,true),(22,true),(23,true),(24,true),(25,true),(26,true),(27,true),(28,true),(29,true)] (a.out _ g) ?_
           repeat (first
            | refine aAq.A0 ?_|refine aAq.AG ?_|refine aAq.AS ?_
            | (apply aAq.skipU
               case ho=>exact rfl
               case hg=>exact rfl
               case hj=>exact rfl
               case hd=>exact rfl
               case ht=>exact rfl
               try simp only[bW,sx1,sx2,sx3])
            | (first
               | refine aAq.P0 ?_|refine aAq.PG ?_
               intro K d;go_simp
               first
               | (go_at_call 215;(with_reducible refine(o.out _ g.1).mono ?_);rintro e s ⟨rfl,b⟩;replace g:=And.intro (bB g.1 b) (g.2.later b);clear b;go_wp2_with fail)
               | skip|fail
               refine d.out _ _ ?_ (fun _=>?_)
               . exact a.out _ g
               clear d K;try simp only[bW,sx1,sx2,sx3]))
           refine aAq.fin ?_;go_wp2_with fail
           exact⟨⟨k+1,by omega,by go_num,hid g.1⟩,by simp[intOf];omega⟩
    . have t1:decide (k<N)=false:=by simpa using h1
      obtain⟨x,z⟩:∃x,xs[0]? =some x:=⟨_,bE (by rw[<-HN.out];omega)⟩;obtain⟨M,hM⟩:=ex_ (N-1);obtain⟨y,R⟩:∃y,xs[M]? =some y:=⟨_,bE (by rw[<-HN.out];omega)⟩;have al:∀(W:dI),dS j j W->dT prog 215 #[(),.pointer (some (w,0))] W fun e w'=>e= .returned (.int .i64 (x.val c))/\dS W W w':=fun W p=>HV.out W 0 x z p;have C:=fun W p=>HV.out W M y R p;have hl:=HC.left x z;have G:=HC.right y (by rw[<-HN.out,<-hM];exact R);rw[<-HN.out]at G;obtain⟨F,hF⟩:=ex_ (f+N);rw[<-hF]at G;have aO:dD.wrap ((N:Int)-1)=(M:Int):=by rw[hM];simp[cG,cV,cE];omega
      have bJ:dD.wrap ((f:Int)+(N:Int))=(F:Int):=by rw[hF];simp[cG,cV,cE];omega
      generalize x.val c=ux at *;generalize y.val c=uy at *
      have m:∀W,dS j j W->(fun W=>W.cell? (w,5)=some (.int .i64 (f:Int))/\W.cell? (w,2)=some (.int .i64 lo)/\W.cell? (w,4)=some (.int .i64 (n:Int))/\W.cell? (w,3)=some (.int .i64 hi)) W:=by
       intro W p;have P:=HP.later p;exact⟨P.box.cell 5,P.box.cell 2,P.box.cell 4,P.box.cell 3⟩
      obtain⟨U,o,a,HL,ax⟩:=aDs al C m hl G;have Z:=bB HR.out (c9 (cB _ _));clear al C m hl G hF hM z R zr HR;go_wp2_with fail
      have hl:=HL.out;have G:=ax.out;clear HL ax;by_cases f0:f=0
      . have t2:((f:Int)== 0)=true:=by simpa using f0
        clear f0 hl;by_cases L:F=n
        . have Y:((F:Int)==(n:Int))=true:=by rw[beq_iff_eq];omega
          have X:(F== n)=true:=by simpa using L
          clear L G;refine aKs (fun W=>W.cell? (w,5)=some (.int .i64 (f:Int))/\W.cell? (w,2)=some (.int .i64 lo)/\W.cell? (w,4)=some (.int .i64 (n:Int))/\W.cell? (w,3)=some (.int .i64 hi)) [(0,true),(1,true),(2,true),(3,true),(4,false),(6,false),(7,false),(5,true),(8,true),(9,true),(10,true),(11,false),(12,false),(13,false),(14,false),(15,true),(16,true),(17,true),(18,true),(19,false),(20,false),(21,false),(23,false),(24,false),(22,true),(25,true),(26,true),(27,true),(28,true)] (a.out _ Z) ?_
          repeat (first
           | refine aAq.A0 ?_|refine aAq.AG ?_|refine aAq.AS ?_
           | (apply aAq.skipU
              case ho=>exact rfl
              case hg=>exact rfl
              case hj=>exact rfl
              case hd=>exact rfl
              case ht=>exact rfl
              try simp only[bW,sx1,sx2,sx3])
           | (first
              | refine aAq.P0 ?_|refine aAq.PG ?_
              intro K d;go_simp
              first
              | (go_at_call 215;(with_reducible refine(U.out _ Z).mono ?_);rintro e s ⟨rfl,b⟩;replace Z:=bB Z b;clear b;go_wp2_with fail)
              | (go_at_call 215;(with_reducible refine(o.out _ Z).mono ?_);rintro e s ⟨rfl,b⟩;replace Z:=bB Z b;clear b;go_wp2_with fail)
              | skip|fail
              refine d.out _ _ ?_ (fun _=>?_)
              . exact a.out _ Z
              clear d K;try simp only[bW,sx1,sx2,sx3]))
          refine aAq.fin ?_;go_wp2_with fail
          go_ret;exact⟨rfl,bB Q.out Z⟩
        . have Y:((F:Int)==(n:Int))=false:=by rw[beq_eq_false_iff_ne];omega
          have X:(F== n)=false:=by simpa using L
          have t4:decide (hi<uy)=true:=by simpa using G.resolve_left L
          clear L G;refine aKs (fun W=>W.cell? (w,5)=some (.int .i64 (f:Int))/\W.cell? (w,2)=some (.int .i64 lo)/\W.cell? (w,4)=some (.int .i64 (n:Int))/\W.cell? (w,3)=some (.int .i64 hi)) [(0,true),(1,true),(2,true),(3,true),(4,false),(6,false),(7,false),(5,true),(8,true),(9,true),(10,true),(11,false),(12,false),(13,false),(14,false),(15,true),(16,true),(17,true),(18,true),(19,false),(20,false),(21,false),(23,false),(24,false),(22,true),(25,true),(26,true),(27,true),(28,true)] (a.out _ Z) ?_
          repeat (first
           | refine aAq.A0 ?_|refine aAq.AG ?_|refine aAq.AS ?_
           | (apply aAq.skipU
              case ho=>exact rfl
              case hg=>exact rfl
              case hj=>exact rfl
              case hd=>exact rfl
              case ht=>exact rfl
              try simp only[bW,sx1,sx2,sx3])
           | (first
              | refine aAq.P0 ?_|refine aAq.PG ?_
              intro K d;go_simp
              first
              | (go_at_call 215;(with_reducible refine(U.out _ Z).mono ?_);rintro e s ⟨rfl,b⟩;replace Z:=bB Z b;clear b;go_wp2_with fail)
              | (go_at_call 215;(with_reducible refine(o.out _ Z).mono ?_);rintro e s ⟨rfl,b⟩;replace Z:=bB Z b;clear b;go_wp2_with fail)
              | skip|fail
              refine d.out _ _ ?_ (fun _=>?_)
              . exact a.out _ Z
              clear d K;try simp only[bW,sx1,sx2,sx3]))
          refine aAq.fin ?_;go_wp2_with fail
          go_ret;exact⟨rfl,bB Q.out Z⟩
      . have t2:((f:Int)== 0)=false:=by simpa using f0
        have t5:decide (ux<lo)=true:=by simpa using hl.resolve_left f0
        clear f0 hl;by_cases L:F=n
        . have Y:((F:Int)==(n:Int))=true:=by rw[beq_iff_eq];omega
          have X:(F== n)=true:=by simpa using L
          clear L G;refine aKs (fun W=>W.cell? (w,5)=some (.int .i64 (f:Int))/\W.cell? (w,2)=some (.int .i64 lo)/\W.cell? (w,4)=some (.int .i64 (n:Int))/\W.cell? (w,3)=some (.int .i64 hi)) [(0,true),(1,true),(2,true),(3,true),(4,false),(6,false),(7,false),(5,true),(8,true),(9,true),(10,true),(11,false),(12,false),(13,false),(14,false),(15,true),(16,true),(17,true),(18,true),(19,false),(20,false),(21,false),(23,false),(24,false),(22,true),(25,true),(26,true),(27,true),(28,true)] (a.out _ Z) ?_
          repeat (first
           | refine aAq.A0 ?_|refine aAq.AG ?_|refine aAq.AS ?_
           | (apply aAq.skipU
              case ho=>exact rfl
              case hg=>exact rfl
              case hj=>exact rfl
              case hd=>exact rfl
              case ht=>exact rfl
              try simp only[bW,sx1,sx2,sx3])
           | (first
              | refine aAq.P0 ?_|refine aAq.PG ?_
              intro K d;go_simp
              first
              | (go_at_call 215;(with_reducible refine(U.out _ Z).mono ?_);rintro e s ⟨rfl,b⟩;replace Z:=bB Z b;clear b;go_wp2_with fail)
              | (go_at_call 215;(with_reducible refine(o.out _ Z).mono ?_);rintro e s ⟨rfl,b⟩;replace Z:=bB Z b;clear b;go_wp2_with fail)
              | skip|fail
              refine d.out _ _ ?_ (fun _=>?_)
              . exact a.out _ Z
              clear d K;try simp only[bW,sx1,sx2,sx3]))
          refine aAq.fin ?_;go_wp2_with fail
          go_ret;exact⟨rfl,bB Q.out Z⟩
        . have Y:((F:Int)==(n:Int))=false:=by rw[beq_eq_false_iff_ne];omega
          have X:(F== n)=false:=by simpa using L
          have t4:decide (hi<uy)=true:=by simpa using G.resolve_left L
          clear L G;refine aKs (fun W=>W.cell? (w,5)=some (.int .i64 (f:Int))/\W.cell? (w,2)=some (.int .i64 lo)/\W.cell? (w,4)=some (.int .i64 (n:Int))/\W.cell? (w,3)=some (.int .i64 hi)) [(0,true),(1,true),(2,true),(3,true),(4,false),(6,false),(7,false),(5,true),(8,true),(9,true),(10,true),(11,false),(12,false),(13,false),(14,false),(15,true),(16,true),(17,true),(18,true),(19,false),(20,false),(21,false),(23,false),(24,false),(22,true),(25,true),(26,true),(27,true),(28,true)] (a.out _ Z) ?_
          repeat (first
           | refine aAq.A0 ?_|refine aAq.AG ?_|refine aAq.AS ?_
           | (apply aAq.skipU
              case ho=>exact rfl
              case hg=>exact rfl
              case hj=>exact rfl
              case hd=>exact rfl
              case ht=>exact rfl
              try simp only[bW,sx1,sx2,sx3])
           | (first
              | refine aAq.P0 ?_|refine aAq.PG ?_
              intro K d;go_simp
              first
              | (go_at_call 215;(with_reducible refine(U.out _ Z).mono ?_);rintro e s ⟨rfl,b⟩;replace Z:=bB Z b;clear b;go_wp2_with fail)
              | (go_at_call 215;(with_reducible refine(o.out _ Z).mono ?_);rintro e s ⟨rfl,b⟩;replace Z:=bB Z b;clear b;go_wp2_with fail)
              | skip|fail
              refine d.out _ _ ?_ (fun _=>?_)
              . exact a.out _ Z
              clear d K;try simp only[bW,sx1,sx2,sx3]))
          refine aAq.fin ?_;go_wp2_with fail
          go_ret;exact⟨rfl,bB Q.out Z⟩
def inQ (c lo hi:Int) (r:Rw):Bool:=decide (lo<=r.val c)&&decide (r.val c<=hi)
theorem aVe {xs:List Rw} {q:Rw->Bool} {k:Nat} {x:Rw} (hx:xs[k]? =some x):(xs.take (k+1)).filter q=(xs.take k).filter q++(if q x then[x]else[]):=by
 rw[List.take_add_one,hx,List.filter_append];cases h:q x <;> simp[h]
theorem bAj (t c lo hi:Int) (n f:Nat) (v1 v2 v3:dR) (xs:List Rw) (ht1:0<=t) (ht2:t<=3) (hc1:0<=c) (hc2:c<=3) (hlh:lo<=hi) (w:dI) (hv:RwsAt w v1 xs) (h2:∃A l cc,v2= .slice A l cc) (h3:∃A l cc,v3= .slice A l cc) (hC:CompleteO n f xs t c lo hi) :
 dT prog 89 #[pfV t c lo hi n f v1 v2 v3] w fun e w'=>∃v,e= .returned (.tuple #[v,true])/\w'.ownsRow w.heap.size 116 5 v (xs.filter (inQ c lo hi)).length ((xs.filter (inQ c lo hi)).flatMap rwC)/\dS w w w':=by
 have B:=fun W (hW:dS w w W)=>aQj t c lo hi n f v1 v2 v3 xs ht1 ht2 hc1 hc2 hlh W (hv.below hW) h2 h3 hC;obtain⟨A2,l2,c2,rfl⟩:=h2;obtain⟨A3,l3,c3,rfl⟩:=h3;obtain⟨A1,c1,rfl,-⟩:=hv.form;obtain⟨N,hN⟩:=ex_ xs.length;rw[<-hN]at hv B⊢;obtain⟨d,p⟩:=ex_ (w.alloc (.cells #[t,c,lo,hi,(n:Int),(f:Int),.slice A1 N c1,.slice A2 l2 c2,.slice A3 l3 c3] 68));have a1:dS w w d:=by rw[p];exact bG w _
 have hP:PfW d w.heap.size t c lo hi n f (.slice A1 N c1) (.slice A2 l2 c2) (.slice A3 l3 c3) xs:=⟨by rw[p];exact bU w _ #[t,c,lo,hi,(n:Int),(f:Int),.slice A1 N c1,.slice A2 l2 c2,.slice A3 l3 c3],hv.below a1⟩;obtain⟨k0,k1,k2,k3,k4,k5,k6,k7,k8⟩:=hP.box.C9;have hc:=B d a1;have b6:w.heap.size<d.heap.size:=hP.box.lt;have b8:N<=2000:=by have:=hC.small;have:=hC.fits;omega
 obtain⟨HP,U,HN,HW,T⟩:=aDs hP a1 hN p hc;clear B hc hP hv hC hN a1 p ht1 ht2 hc1 hc2 hlh;unfold pfV at T⊢;obtain⟨i0,aj,ae,ad,ac⟩:=aJa;go_enter func89,ntmps89
 go_wp2_with fail
 rw[<-HW.out];refine(T.out).mono ?_;rintro e w2 ⟨rfl,b2⟩;have P2:=HP.later b2;have k6:=P2.box.c6;have av:=hid b2;clear b2 P2;go_wp2_with fail
 go_loopw [4,14] (fun sv iv wr=>∃v,v=sv/\∃k:Nat,k<=N/\iv= .int .i64 k/\Hid (dS d d wr/\wr.ownsRow d.heap.size 116 5 v ((xs.take k).filter (inQ c lo hi)).length (((xs.take k).filter (inQ c lo hi)).flatMap rwC))) (fun _ iv _=>N-(intOf iv).toNat)
 case atStart=>exact⟨_,rfl,0,by omega,rfl,hid ⟨av.out,World.ownsRow_nil _ _ _ _⟩⟩
 case round=>
  clear k6;obtain⟨v,rfl,k,hk,rfl,D⟩:=hrel;have V:=HP.later D.1;by_cases M:k<N
  . obtain⟨x,hx⟩:∃x,xs[k]? =some x:=⟨_,bE (by rw[<-HN.out];exact M)⟩;obtain⟨gr,ro,rc,ah,-,b3,r0,r1,r2,r3,r4⟩:=V.rows.at_ hx;injection ah with er1 er2 er3
    subst er1 er3;clear er2;have r:=aVe (q:=inQ c lo hi) hx;have g:=fun W=>aB5 x c W;have J:inQ c lo hi x=(decide (lo<=x.val c)&&decide (x.val c<=hi)):=rfl;have a:=aBh [x];have K:[x].flatMap rwC=rwC x:=by simp
    rw[K]at a
    have ai:((xs.take k).filter (inQ c lo hi)).length<=2000:=by
     have M:=List.length_filter_le (inQ c lo hi) (xs.take k);rw[bX]at M;omega
    obtain⟨dn,L⟩:=ex_ ((xs.take k).filter (inQ c lo hi));rw[<-L]at r ai D;rw[J]at r;generalize x.val c=u at *;have F:=bG wr (.cells (rwC x).toArray 116);have G:=bU wr 116 (rwC x).toArray;obtain⟨X,Y,x0,x1,Z⟩:=x;unfold rwV at g;unfold rwC at F G a;dsimp only at g F G a r0 r1 r2 r3 r4;obtain⟨w3,o⟩:=ex_ (wr.alloc (.cells #[X,Y,x0,x1,Z] 116));rw[<-o]at F G;have q0:(0:Int)<=(k:Int):=by omega
    have q1:(k:Int)<(N:Int):=by omega
    have t1:decide (k<N)=true:=by simpa using M
    obtain⟨S,Q,R,HA,P⟩:=aDs r g a (And.intro F G) o;have k1:=(V.later F).box.c1;obtain⟨s0,s1,s2,s3,s4⟩:=G.C5;rw[o]at k1;clear r g a J K L F G o V hx;go_wp2_with fail
    rw[<-P.out];refine(Q.out w3).mono ?_;rintro e s ⟨rfl,b4⟩;have C:=bB HA.1 b4;have Z4:=bB D.1 C;have P4:=HP.later Z4;obtain⟨-,-,k2,k3⟩:=P4.box.C4;have K4:=HA.2.later b4;obtain⟨s0,s1,s2,s3,s4⟩:=K4.C5;have m:=aAb C D.2
    have i:∀(j:Nat) u,[Value.int .i64 X,Y,x0,x1,Z][j]? =some u->(s.alloc (.cells #[X,Y,x0,x1,Z] 116)).cell? ((⟨s.heap.size,0,none⟩:Addr).add j)=some u:=fun j u hu=>by
     rw[aBm,(bU s 116 _).cell];exact hu
    obtain⟨E,au,O⟩:=aAw m i Z4;have ag:=Z4.size;clear b4 C P4 K4 m i HA Z4 P
    have b:(decide (lo<=u)&&decide (u<=hi))=false->Hid (dS d d s/\s.ownsRow d.heap.size 116 5 v ((xs.take (k+1)).filter (inQ c lo hi)).length (((xs.take (k+1)).filter (inQ c lo hi)).flatMap rwC)):=fun h=>by
     have h2:=S.out;rw[h]at h2;simp only[Bool.false_eq_true,if_false,List.append_nil]at h2;rw[h2];exact hid ⟨O.out,E.out⟩
    by_cases d1:lo<=u
    . have t2:decide (lo<=u)=true:=by simpa using d1
      by_cases d2:u<=hi
      . have t3:decide (u<=hi)=true:=by simpa using d2
        clear b;go_wp2_with (at_builtin;refine wpList_append_own _ rfl _ _ 33 rfl d.heap.size 116 i0 _ 5 40 underlying33 aj ae ad ac rfl (by decide) v dn.length (dn.flatMap rwC) rfl (E.alloc _) ⟨s.heap.size,0,none⟩ 1 1 [X,Y,x0,x1,Z] rfl rfl au.out R.out (by unfold maxLen;omega) (by omega) (by rw[bD];omega) ?_;intro v7 w7 H g7 _)
        have hg:s.grownBy w7 v.ownBlock:=(World.grownBy_alloc s _ v.ownBlock).trans g7;have h2:=S.out;rw[t2,t3]at h2;simp only[Bool.and_self,if_true]at h2
        have z:w7.ownsRow d.heap.size 116 5 v7 ((xs.take (k+1)).filter (inQ c lo hi)).length (((xs.take (k+1)).filter (inQ c lo hi)).flatMap rwC):=by
         rw[h2,cD,List.flatMap_append];exact H
        have Z7:dS d d w7:=cF O.out hg ag (fun k e=>aAj E.out e);exact⟨⟨v7,rfl,k+1,by omega,by go_num,hid ⟨Z7,z⟩⟩,by simp[intOf];omega⟩
      . have t3:decide (u<=hi)=false:=by simpa using d2
        have hf:=b (by rw[t3,Bool.and_false]);clear b;go_wp2_with fail
        exact⟨⟨v,rfl,k+1,by omega,by go_num,hf⟩,by simp[intOf];omega⟩
    . have t2:decide (lo<=u)=false:=by simpa using d1
      have hf:=b (by rw[t2,Bool.false_and]);clear b;go_wp2_with fail
      exact⟨⟨v,rfl,k+1,by omega,by go_num,hf⟩,by simp[intOf];omega⟩
  . have t1:decide (k<N)=false:=by simpa using M
    have y:xs.take k=xs:=dE (by rw[<-HN.out];omega);rw[y]at D;clear y V;go_wp2_with fail
    go_returns
    exact⟨_,rfl,aAh D.2 U.size,bB U.out D.1⟩
end
section
open Go Go.RowKit
variable {w w':dI} {v:dR} {ps:List (dR×dR×dR)} {B b:Nat} {L:List Rw} {o:Option Nat}
def PthsAt (w:dI) (v:dR) (ps:List (List (List UInt8))):Prop:=
 ∃A c,v= .slice A ps.length c/\ps.length<=c/\(0<ps.length->∃g o,A=some ⟨g,o,none⟩/\g<w.heap.size/\∀(j:Nat) p,ps[j]? =some p->∃pv,w.cell? (g,o+j)=some pv/\ListAt w pv p)
theorem PthsAt.below {ps:List (List (List UInt8))} (h:PthsAt w v ps) (hb:dS w w w'):PthsAt w' v ps:=by
 obtain⟨A,c,e,k,d⟩:=h;refine⟨A,c,e,k,fun q=>?_⟩;obtain⟨g,o,l,a,i⟩:=d q;refine⟨g,o,l,Nat.lt_of_lt_of_le a hb.size,fun j p f=>?_⟩;obtain⟨b,n,m⟩:=i j p f;exact⟨b,(hb.cell (p:=⟨g,o+j,none⟩) a).trans n,m.below hb⟩
theorem PfOwn.pths {xs:List Rw} {ps:List (List (List UInt8))} {v1 v2:dR} (h:PfOwn w B xs ps v1 v2):PthsAt w v2 ps:=by
 obtain⟨b,m,l,k⟩:=h.paths;obtain⟨A,c,rfl,o,_,f⟩:=aAa l;refine⟨A,c,by rw[m],by omega,fun q=>?_⟩;obtain⟨g,rfl,i,_,a⟩:=f (by omega);refine⟨g,0,rfl,i,fun j p e=>?_⟩;have n:=(bV.1 e).1;obtain⟨v,d⟩:∃v,b[j]? =some v:=⟨_,bE (by omega)⟩;exact⟨v,by rw[Nat.zero_add];exact a j v d,aF4 (k j v p d e).1⟩
def Sc.pths (s:Sc) (L:List Rw):List (List (List UInt8)):=cutP L s.table s.column s.low s.high
def rgC (L:List Rw) (s:Sc) (p:dR×dR×dR):List dR:=pfC s.table s.column s.low s.high (s.cnt L) (s.from_ L) p.1 p.2.1 p.2.2
theorem aMh (L:List Rw) (x:Sc×dR×dR×dR):(rgC L x.1 x.2).length=9:=rfl
structure RgAt (w:dI) (L:List Rw) (s:Sc) (p:dR×dR×dR):Prop where
 rows:RwsAt w p.1 (s.cut L)
 paths:PthsAt w p.2.1 (s.pths L)
 roots:ListAt w p.2.2 (sumsS L)
theorem RgAt.below {s:Sc} {p:dR×dR×dR} (h:RgAt w L s p) (hb:dS w w w'):RgAt w' L s p:=⟨h.rows.below hb,h.paths.below hb,h.roots.below hb⟩
def RgsAt (w:dI) (v:dR) (L:List Rw) (ss:List Sc):Prop:=
 ∃A c,v= .slice A ss.length c/\ss.length<=c/\(0<ss.length->∃g o,A=some ⟨g,o,none⟩/\g<w.heap.size/\∀(j:Nat) s,ss[j]? =some s->∃p,w.rangeAt g (o+j*9) (rgC L s p)/\RgAt w L s p)
theorem RgsAt.below {ss:List Sc} (h:RgsAt w v L ss) (hb:dS w w w'):RgsAt w' v L ss:=by
 obtain⟨A,c,d,l,b⟩:=h;refine⟨A,c,d,l,fun r=>?_⟩;obtain⟨g,o,m,a,k⟩:=b r;refine⟨g,o,m,Nat.lt_of_lt_of_le a hb.size,fun j s f=>?_⟩;obtain⟨p,q,n⟩:=k j s f;exact⟨p,fun i u e=>(hb.cell (p:=⟨g,o+j*9+i,none⟩) a).trans (q i u e),n.below hb⟩
theorem RgsAt.form {ss:List Sc} (h:RgsAt w v L ss):∃A c,v= .slice A ss.length c/\ss.length<=c:=by
 obtain⟨A,c,a,b,_⟩:=h;exact⟨A,c,a,b⟩
theorem RgsAt.tail {g o n c:Nat} {s:Sc} {ss:List Sc} (h:RgsAt w (.slice (some (g,o)) n c) L (s :: ss)):RgsAt w (.slice (some (g,o+9)) ss.length (c-1)) L ss:=by
 obtain⟨A,u,f,l,e⟩:=h;injection f with e1 e2 e3
 subst e1 e2 e3;obtain⟨t,r,b,a,k⟩:=e (by simp);injection b with b
 injection b with e1 e2
 subst e1 e2;rw[List.length_cons]at l;refine⟨_,_,rfl,by omega,fun _=>⟨g,o+9,rfl,a,fun j d i=>?_⟩⟩;obtain⟨p,q,m⟩:=k (j+1) d (by simpa using i);exact⟨p,by rw[show o+9+j*9=o+(j+1)*9 by omega];exact q,m⟩
theorem PfOwn.kept {xs:List Rw} {ps:List (List (List UInt8))} {v1 v2:dR} (h:PfOwn w B xs ps v1 v2) {base n k:Nat} {cs:List dR} (hr:w.ownsRow base 68 n v k cs) (hg:w.grownBy w' v.ownBlock):PfOwn w' B xs ps v1 v2:=by
 obtain⟨a,f,e,d⟩:=h.paths;exact⟨h.rows.kept hg (aB6 hr h.rows (by decide)),⟨a,f,e.kept hg (aB6 hr e (by decide)),fun j v p b c=>⟨(d j v p b c).1.kept hg (aB6 hr (d j v p b c).1 (by decide)),(d j v p b c).2⟩⟩,h.apart⟩
structure RgsOwn (w:dI) (B:Nat) (v:dR) (L:List Rw) (ss:List Sc) (ps:List (dR×dR×dR)):Prop where
 len:ps.length=ss.length
 row:w.ownsRow B 68 9 v ss.length ((ss.zip ps).flatMap fun x=>rgC L x.1 x.2)
 each:∀(j:Nat) s p,ss[j]? =some s->ps[j]? =some p->PfOwn w B (s.cut L) (s.pths L) p.1 p.2.1/\w.ownsRow B 9 1 p.2.2 16 (svs (sumsS L))
theorem RgsOwn.nil (w:dI) (B:Nat) (L:List Rw):RgsOwn w B (.slice none 0 0) L [] []:=⟨rfl,World.ownsRow_nil _ _ _ _,fun j s p h=>by simp at h⟩
theorem RgsOwn.later {ss:List Sc} (h:RgsOwn w B v L ss ps) (hb:dS w w w'):RgsOwn w' B v L ss ps:=
 ⟨h.len,aAb hb h.row,fun j s p hs hp=>⟨(h.each j s p hs hp).1.later hb,aAb hb (h.each j s p hs hp).2⟩⟩
theorem RgsOwn.set {ss:List Sc} (h:RgsOwn w B v L ss ps) (p:Addr) (u:dR) (hp:p.block<B):RgsOwn (w.setCell p u) B v L ss ps:=by
 have a:∀{x:dR} {e:TypeId} {n k:Nat} {c:List dR},w.ownsRow B e n x k c->(w.setCell p u).ownsRow B e n x k c:=fun d=>aAg d _ _ (fun b e=>by have:=aAj d e;omega);exact⟨h.len,a h.row,fun j s q f g=>⟨(h.each j s q f g).1.set p u hp,a (h.each j s q f g).2⟩⟩
theorem RgsOwn.add {v':dR} {ss:List Sc} (h:RgsOwn w B v L ss ps) {s:Sc} {p:dR×dR×dR} (hp:PfOwn w B (s.cut L) (s.pths L) p.1 p.2.1) (hr:w.ownsRow B 9 1 p.2.2 16 (svs (sumsS L)))
 (own:w'.ownsRow B 68 9 v' (ss.length+1) (((ss.zip ps).flatMap fun x=>rgC L x.1 x.2)++rgC L s p)) (hg:w.grownBy w' v.ownBlock):RgsOwn w' B v' L (ss++[s]) (ps++[p]):=by
  refine⟨by rw[cD,cD,h.len];rfl,?_,fun j c d b a=>?_⟩
  . rw[cD,List.length_singleton,List.zip_append h.len.symm,List.flatMap_append]
    simpa using own
  . have f:=(bV.1 b).1;rw[cD,List.length_singleton]at f;by_cases e:j<ss.length
    . rw[List.getElem?_append_left e]at b;rw[List.getElem?_append_left (by rw[h.len];exact e)]at a;have:=h.each j c d b a;exact⟨this.1.kept h.row hg,this.2.kept hg (aB6 h.row this.2 (by decide))⟩
    . obtain rfl:j=ss.length:=by omega
      simp at b;rw[<-h.len]at a;simp at a;subst b a;exact⟨hp.kept h.row hg,hr.kept hg (aB6 h.row hr (by decide))⟩
theorem RgsOwn.at_ {ss:List Sc} (h:RgsOwn w B v L ss ps) (h16:(sumsS L).length=16):RgsAt w v L ss:=by
 obtain⟨A,c,rfl,n,_,f⟩:=aAa h.row;refine⟨A,c,rfl,n,fun q=>?_⟩;obtain⟨g,rfl,m,_,a⟩:=f q;refine⟨g,0,rfl,m,fun j s b=>?_⟩;have l:=(bV.1 b).1;obtain⟨p,d⟩:∃p,ps[j]? =some p:=⟨_,bE (by rw[h.len];exact l)⟩;obtain⟨e,o⟩:=h.each j s p b d;refine⟨p,fun i u k=>?_,⟨aA1 e.rows,e.pths,aGv o h16.symm⟩⟩;rw[Nat.zero_add];exact a _ _ (aBk (fun x:Sc×dR×dR×dR=>rgC L x.1 x.2) 9 (aMh L) (ss.zip ps) j i (s,p) u (by rw[List.getElem?_zip_eq_some];exact⟨b,d⟩) k)
structure Upd2 (b:Nat) (o:Option Nat) (w w':dI):Prop where
 os:w'.os=w.os
 tape:w'.tape=w.tape
 output:w'.output=w.output
 size:w.heap.size<=w'.heap.size
 block:∀k,k<w.heap.size->k≠b->some k≠o->w'.heap[k]? =w.heap[k]?
theorem Upd2.of_below (h:dS w w w'):Upd2 b o w w':=⟨h.os,h.tape,h.output,h.size,fun k hk _ _=>h.block k hk⟩
theorem Upd2.trans {a c d:dI} (h:Upd2 b o a c) (k:Upd2 b o c d):Upd2 b o a d:=
 ⟨k.os.trans h.os,k.tape.trans h.tape,k.output.trans h.output,bC h.size k.size,fun j hj h1 h2=>(k.block j (Nat.lt_of_lt_of_le hj h.size) h1 h2).trans (h.block j hj h1 h2)⟩
theorem Upd2.grown (h:w.grownBy w' o):Upd2 b o w w':=by
 exact⟨h.os,h.tape,h.output,h.size,fun k a _ c=>h.block k a c⟩
theorem Upd2.set {i:Nat} (w:dI) (u:dR):Upd2 b o w (w.setCell (b,i) u):=⟨rfl,rfl,rfl,by simp[dH],fun k _ h1 _=>Below.heap_setCell w ⟨b,i,none⟩ u k h1⟩
theorem Upd2.below (h:Upd2 b o w w') (hb:B<=b) (ho:∀k,o=some k->B<=k) (hw:B<=w.heap.size):dS B w w':=
 ⟨h.os,h.tape,h.output,h.size,fun k hk=>h.block k (by omega) (by omega) (fun e=>by have:=ho k e.symm;omega)⟩
theorem BlkIs.upd2 {g:Nat} {T:TypeId} {cs:List dR} (h:BlkIs w g T cs) (u:Upd2 b o w w') (h1:g≠b) (h2:some g≠o):BlkIs w' g T cs:=(u.block g h.lt h1 h2).trans h
theorem aN2 {base e n k:Nat} {xs:List dR} (h:w.ownsRow base e n v k xs) (u:Upd2 b o w w') (h1:v.ownBlock≠some b) (h2:v.ownBlock=none\/v.ownBlock≠o):w'.ownsRow base e n v k xs:=by
 refine aA6 (S:=fun j=>v.ownBlock=some j) h ⟨u.size,fun j a c=>?_⟩ (fun _ h=>h);refine u.block j c (fun e=>h1 (by rw[<-e];exact a)) (fun e=>?_);rcases h2 with h2|h2
 . rw[h2]at a;cases a
 . exact h2 (a.trans e)
variable {w:dI} {B:Nat} {v:dR}
theorem RgsOwn.mono {B':Nat} {L:List Rw} {ss:List Sc} {ps:List (dR×dR×dR)} (h:RgsOwn w B v L ss ps) (hb:B'<=B):RgsOwn w B' v L ss ps:=
 ⟨h.len,aAh h.row hb,fun j s p hs hp=>⟨(h.each j s p hs hp).1.mono hb,aAh (h.each j s p hs hp).2 hb⟩⟩
theorem aE0 (w:dI) (k:Nat) (ds:Array dR):(w.setRow k ds).heap.size=w.heap.size:=by simp[World.setRow]
theorem aCg {e:TypeId} {size n:Nat} {xs:List dR} (h:w.ownsRow B e size v n xs) (k:Nat) (hk:k<B) (ds:Array dR):(w.setRow k ds).ownsRow B e size v n xs:=
 aA6 (S:=fun j=>v.ownBlock=some j) h ⟨Nat.le_of_eq (aE0 w k ds).symm,fun j hs _=>setRow_other w k j ds (fun e=>by have:=(h.lt j hs).1;omega)⟩ (fun _ h=>h)
theorem PfOwn.setRow {xs:List Rw} {ps:List (List (List UInt8))} {v1 v2:dR} (h:PfOwn w B xs ps v1 v2) (k:Nat) (hk:k<B) (ds:Array dR):PfOwn (w.setRow k ds) B xs ps v1 v2:=by
 obtain⟨a,f,e,d⟩:=h.paths;exact⟨aCg h.rows k hk ds,⟨a,f,aCg e k hk ds,fun j v p b c=>⟨aCg (d j v p b c).1 k hk ds,(d j v p b c).2⟩⟩,h.apart⟩
theorem RgsOwn.setRow {L:List Rw} {ss:List Sc} {ps:List (dR×dR×dR)} (h:RgsOwn w B v L ss ps) (k:Nat) (hk:k<B) (ds:Array dR):RgsOwn (w.setRow k ds) B v L ss ps:=
 ⟨h.len,aCg h.row k hk ds,fun j s p hs hp=>⟨(h.each j s p hs hp).1.setRow k hk ds,aCg (h.each j s p hs hp).2 k hk ds⟩⟩
end
end Go.Proofs.YtmhpfoicloojcaaGreatDoor
