/- The walk of TopOverlap. -/
import Derived.Test.YtmhpfoicloojcaaGreatDoorZbu
set_option linter.all false
open Go.Value renaming oneCell'→bI
open Go.IntKind renaming wrap_i64→bU,i64→b1
open List renaming getElem?_cons_zero→bZ,getElem?_cons_succ→b0
open Go.RowKit renaming Below→b9
namespace Go.Proofs.YtmhpfoicloojcaaGreatDoor
open Below renaming next→aV
open GoT renaming P0→bK
set_option maxRecDepth 100000
set_option maxHeartbeats 16000000
section
open Go.Proofs.Tryz
open Go Go.RowKit Go.Shelf
attribute [local go_sem] Oper.semAt_some
theorem aRg:∃i,prog.info? 38=some i/\i.zero=some (.agg #[(),(),(),(),(),(),(),.slice none 0 0,(),false,(),(),(),.slice none 0 0,.slice none 0 0])/\i.size=15/\i.bytes=168:=info_parts (by kernel_rfl)
theorem aKz (A:Option Addr) (c:Nat) (xs:List (List Int)) (x0 x1 x2 x3 x4 y0 y1 y2 y3:Int) (w:World) (hR:aA4 w) (hx:aK5 w (.slice A xs.length c) xs)
 (hx0: -9223372036854775808<=x0/\x0<=9223372036854775807) (hx1: -9223372036854775808<=x1/\x1<=9223372036854775807) (hx2: -9223372036854775808<=x2/\x2<=9223372036854775807) (hx3: -9223372036854775808<=x3/\x3<=9223372036854775807) (hx4: -9223372036854775808<=x4/\x4<=9223372036854775807) (hy0: -9223372036854775808<=y0/\y0<=9223372036854775807) (hy1: -9223372036854775808<=y1/\y1<=9223372036854775807) (hy2: -9223372036854775808<=y2/\y2<=9223372036854775807) (hy3: -9223372036854775808<=y3/\y3<=9223372036854775807) :
 Calls prog 3 #[.slice A xs.length c,.agg #[x0,x1,x2,x3,x4],.agg #[y0,y1,y2,y3]] w fun e w'=>e= .returned (.bool true)/\b9 w w w':=by
 obtain⟨HR,HX,cx,HY⟩:=aBp hR hx (fun W=>bDp x0 x1 x2 x3 x4 W hx0 hx1 hx2 hx3 hx4) (And.intro hy0 (And.intro hy1 (And.intro hy2 hy3)));clear hR hx hx0 hx1 hx2 hx3 hx4 hy0 hy1 hy2 hy3;go_enter func3,ntmps3
 go_upto_region 1 with fail
 obtain⟨w1,HZ,HW,HB,dd,de⟩:=aNb w [x0,x1,x2,x3,x4] 23 [y0,y1,y2,y3] 24;rw[<-HW.out];clear HW;go_wp2_with fail
 (with_reducible refine(aZf w1 (HR.out.later HB.out)).mono ?_)
 rintro e w2 ⟨rfl,b2⟩;obtain⟨cL,dc,da⟩:=aAw (aV HB.out b2) (dd.later b2) (de.later b2);clear b2 HB dd de;go_wp2_with fail
 (with_reducible refine(aZ9 A c xs w2 (HX.out.below cL.out)).mono ?_)
 rintro e w3 ⟨v',ps,s,rfl,hZ,cb,b3⟩;obtain⟨lA,lc,rfl,cc⟩:=hZ.form;obtain⟨L,hL⟩:=ex_ (ps.map (·.1));have aX:=hZ.recs
 have bn:∀r∈L,r.chs.length<=3:=by
  rw[hL];intro r hr;obtain⟨p,hp,rfl⟩:=List.mem_map.1 hr;exact hZ.few p hp
 have bW:=hid bn;have bN:=hZ.run;have d0:ps.length=L.length:=by rw[hL,List.length_map]
 rw[<-hL]at aX bN;rw[d0]at aX cc cb⊢;obtain⟨n,hn⟩:=ex_ L.length;rw[<-hn]at aX cc cb⊢;obtain⟨dg,a9,HN,dl,db,d9⟩:=aIl aX bN (show n=L.length/\n<=16/\n<=lc from⟨hn,cb,cc⟩) (aV cL.out b3) (dc.later b3) (da.later b3);clear hL aX bN bn d0 hn cc cb hZ b3 dc da cL;obtain⟨z0,z1,z2,z3,z4⟩:=db.C5;go_upto_region 3 with fail
 go_wp2_with fail
 (with_reducible refine(cx.out w3).mono ?_)
 rintro e w4 ⟨q,hq,rfl,b4⟩;have HQ:=hid hq;unfold qV;clear hq z0 z1 z2 z3 z4;go_upto_region 4 with fail
 have bq:=Below.al w4 (.cells q 29);have kq:=(show BlkIs (w4.alloc (.cells q 29)) w4.heap.size 29 q from aAo _ _ _ rfl);obtain⟨qb,cS⟩:=ex_ w4.heap.size;rw[<-cS]at kq⊢;have d1:=aV b4 bq
 have a6:=hid (show∀V:World,b9 (w4.alloc (.cells q 29)).heap.size (w4.alloc (.cells q 29)) V->BlkIs V (w.heap.size+1) 24 [y0,y1,y2,y3]/\BlkIs V qb 29 q/\aCj V (.slice lA n lc) L/\aA4 V/\b9 w w V from by
  intro V hb;have cG:=aV d1 hb;have cW:=aV dl.out cG;exact⟨d9.later cG,kq.later hb,dg.below cG,HR.later cW,cW⟩)
 have ZQ:=hid (Below.refl (w4.alloc (.cells q 29)).heap.size (w4.alloc (.cells q 29)));clear bq kq cS d1 b4 db d9 dg dl HR HX cx HZ;generalize w4.alloc (.cells q 29)=wq at *;go_wp2_with fail
 refine wp_loop_rounds 3 ?_;rw[rounds_succ];obtain⟨ky,-,-,-,-⟩:=a6.out wq ZQ.out;have ya:=ky.cell 0;have yb:=ky.cell 1;dsimp only[bZ,b0]at ya yb;clear ky;obtain⟨g,cY⟩:∃P:Nat,aC3 y0 ((n:Int)+1)=(P:Int):=⟨(aC3 y0 ((n:Int)+1)).toNat,by have:=aA3 y0 ((n:Int)+1) (by omega);omega⟩;have cp:g<=n:=by have:=aA3 y0 ((n:Int)+1) (by omega);omega
 obtain⟨k0,cV⟩:∃P:Nat,aC3 y1 ((n:Int)+1-(g:Int))=(P:Int):=⟨(aC3 y1 ((n:Int)+1-(g:Int))).toNat,by have:=aA3 y1 ((n:Int)+1-(g:Int)) (by omega);omega⟩;have cn:g+k0<=n:=by have:=aA3 y1 ((n:Int)+1-(g:Int)) (by omega);omega
 have bQ:=HN.2.1;have d8:=hid (fun W=>cY▸aDo y0 ((n:Int)+1) (by omega) (by omega) HY.1 W);have d6:=hid (fun W=>cV▸aDo y1 ((n:Int)+1-(g:Int)) (by omega) (by omega) HY.2.1 W);have e1:b1.wrap ((n:Int)+1)=(n:Int)+1:=by rw[bU];omega
 have e2:b1.wrap ((n:Int)+1-(g:Int))=(n:Int)+1-(g:Int):=by rw[bU];omega
 have e3:b1.wrap ((g:Int)+(k0:Int))=(g:Int)+(k0:Int):=by rw[bU];omega
 have bt:=hid (And.intro cp cn);clear cY cV cp cn bQ;go_wp2_with fail
 (with_reducible refine(d8.out wq).mono ?_)
 rintro e wx ⟨rfl,aW⟩;rw[aW];clear aW wx;go_wp2_with fail
 (with_reducible refine(d6.out wq).mono ?_)
 rintro e wx ⟨rfl,aW⟩;rw[aW];clear aW wx;go_upto_region 10 with fail
 obtain⟨bk,bH⟩:=aDh a9.out g
 have b5:(aAy q bk.rows).length<=100:=by
  have h1:=aMe q bk.rows;have h2:=aI0 aCl bH (fun r hr=>bW.out r (List.mem_of_mem_take hr));have h3:(L.take g).length<=g:=by rw[List.length_take];exact Nat.min_le_left _ _
  have h4:=HN.out;have h5:=bt.out;have h6:st0.rows.length=0:=rfl;omega
 have dn:=hid (show∀V:World,b9 wq wq V->Calls prog 9 #[.slice lA n lc,.int .i64 g,.agg q,.int .i64 0] V fun e w'=>∃rv,e= .returned (.agg #[q.kind,q.table,q.column,q.low,q.high,q.by_,q.other,(),g,rv])/\RgsAt w' rv bk.rows (aCo q bk.rows)/\b9 V V w' from fun V hb=>by
  obtain⟨-,-,bz,cE,-⟩:=a6.out V (aV ZQ.out hb);exact aJe _ L g (by have:=HN.out;have:=bt.out;omega) (by have:=HN.out;omega) bk bH q HQ.out 0 V bz cE b5)
 obtain⟨sA,bB⟩:∃a:Option Addr,a=(if lc=g then lA else lA.map (fun x=>x.add (g*2))):=⟨_,rfl⟩
 have cN:=hid (fun(V:World) (rv:Value) (hb:b9 wq wq V) (hr:RgsAt V rv bk.rows (aCo q bk.rows))=>aRv q HQ.out L s bk g k0 n HN.1 bt.2 HN.2.1 a9.out bH b5 sA (lc-g) rv V hr (by
  obtain⟨-,-,bz,-,-⟩:=a6.out V (aV ZQ.out hb);rw[bB];exact bz.cut HN.1 g k0 bt.2))
 have b:=hid (show∀V:World,b9 wq wq V->BlkIs V qb 29 q from by
  intro V hb;exact(a6.out V (aV ZQ.out hb)).2.1)
 have cK:=hid bB;clear bB b5 bH e1 e2 e3 d8 d6;go_cut [14,15]from 48 to 59 (fun cB cA wx=>∃G ok T S R Q O N M y o i val t m l v Y K D X J U,cB= .pointer (some ⟨G,0,none⟩)/\cA= .bool ok/\Hid (BlkIs wx G 38 [.int .i64 T,.int .i64 S,.int .i64 R,.int .i64 Q,.int .i64 O,.int .i64 N,.int .i64 M,.slice y o i,.int .i64 val,.bool t,.int .i64 m,.int .i64 l,.int .i64 v,.slice Y K D,.slice X J U]/\aG5 q L g k0 wx ok y o i val t m l v/\b9 wq wq wx))
 case first=>
  rename_i J9 K9 bD bC
  have t1:(0:Int)<=(g:Int):=by omega
  have t2:(g:Int)<=(g:Int)+(k0:Int):=by omega
  have t3:(g:Int)+(k0:Int)<=(lc:Int):=by have:=bt.out;have:=HN.out;omega
  have t4:((g:Int)+(k0:Int)).toNat-g=k0:=by omega
  refine aIu (.take 0 (.take 1 (.take 2 (.take 4 (.take 5 (.take 6 (.take 7 (.fork 3 (.fork 8 (.take 9 (.take 10 (.take 11 (.step 12 (.step 13 (.take 14 .done)))))) 12 (.step 8 (.take 9 (.take 10 (.take 11 (.step 13 (.take 14 .done))))))) 12 (.step 3 (.step 8 (.take 9 (.take 10 (.take 11 (.step 13 (.take 14 .done))))))))))))))) b (Below.drew (Below.refl _ wq)) ?_;obtain⟨wd,bA⟩:=ex_ wq.drew;have bg:=hid (show b9 wq wq wd from by rw[bA];exact Below.drew (Below.refl _ wq));rw[<-bA];clear bA
  repeat (first
   | (refine aAd.A0 ?_ (hy:=by intro wq cH;exact aAe 29 _ rfl qb rfl 29 q (0,0) _ cH underlying29 rfl aDq))
   | refine aAd.A0 ?_|refine aAd.AG ?_|refine aAd.AS ?_|with_reducible apply aAd.fork3|refine GoT.A0 ?_|refine GoT.AG ?_|refine GoT.AS ?_|fail)
  try simp only[<-cK.out]
  with_reducible apply aAd.fork
  . refine bK ?_;intro Z d;go_simp;go_at_call 9
    (with_reducible refine(dn.out wd bg.out).mono ?_)
    rintro e w5 ⟨rv,rfl,hr,bE⟩;try go_simp
    have a2:=hid (aV bg.out bE);have bh:=hid hr;have b6:=bE;refine d.out _ _ (b.out _ a2.out) (fun _=>?_);clear d Z hr bE;refine aBq ?_;with_reducible apply aAd.fork
    . refine bK ?_;intro Z d;go_simp;go_at_call 8
      (with_reducible refine(cN.out w5 rv a2.out (bh.out)).mono ?_)
      rintro e w6 ⟨⟨ok,T,S,R,Q,O,N,M,y,o,i,val,t,m,l,v,Y,K,D,X,J,U,rfl,a5⟩,ae⟩;try go_simp
      obtain⟨H,b8,BB⟩:=aAw (aV a2.out ae) a5 ae;refine d.out _ _ (b.out _ H.out) (fun _=>?_);clear d Z a5 ae;refine aBq ?_;refine aLd ?_;with_reducible apply aAd.step
      refine bK ?_;intro Z d;go_simp;have E:=Below.al w6 (.cells #[(),(),(),(),(),(),(),.slice none 0 0,(),false,(),(),(),.slice none 0 0,.slice none 0 0] 38);have kt:=(show BlkIs (w6.alloc (.cells #[(),(),(),(),(),(),(),.slice none 0 0,(),false,(),(),(),.slice none 0 0,.slice none 0 0] 38)) w6.heap.size 38 [(),(),(),(),(),(),(),.slice none 0 0,(),false,(),(),(),.slice none 0 0,.slice none 0 0]from aAo _ _ _ rfl);obtain⟨G,F⟩:=ex_ w6.heap.size;rw[<-F]at kt⊢;obtain⟨KT,BA,aj,a7⟩:=aBp kt E F (aV H.out E);refine d.out _ _ (b.out _ a7.out) (fun _=>?_);clear d Z kt F E;generalize w6.alloc (.cells #[(),(),(),(),(),(),(),.slice none 0 0,(),false,(),(),(),.slice none 0 0,.slice none 0 0] 38)=w7 at *;refine aBq ?_;with_reducible apply aAd.step
      have b7:=hid (show wq.heap.size<=G by rw[aj.out];exact H.size);refine bK ?_;intro Z d;refine wp_store_row 38 (.tmp 14) (.tmp 58) rfl G #[T,S,R,Q,O,N,M,.slice y o i,val,t,m,l,v,.slice Y K D,.slice X J U] rfl rfl 38 _ (KT.out) Tryz.infoAns rfl (by simp[bI]) ?_;obtain⟨k8,h8,a8⟩:=aAw ((show BlkIs w7 G 38 [(),(),(),(),(),(),(),.slice none 0 0,(),false,(),(),(),.slice none 0 0,.slice none 0 0]from KT.out).setRow [T,S,R,Q,O,N,M,.slice y o i,val,t,m,l,v,.slice Y K D,.slice X J U]) (below_setRow a7.out b7.out #[T,S,R,Q,O,N,M,.slice y o i,val,t,m,l,v,.slice Y K D,.slice X J U]) (show aG5 q L g k0 (w7.setRow G #[T,S,R,Q,O,N,M,.slice y o i,val,t,m,l,v,.slice Y K D,.slice X J U]) ok y o i val t m l v from b8.below (below_setRow BA.out (Nat.le_of_eq aj.symm) _));refine d.out _ _ (b.out _ h8.out) (fun _=>?_);clear d Z;generalize w7.setRow G #[.int .i64 T,.int .i64 S,.int .i64 R,.int .i64 Q,.int .i64 O,.int .i64 N,.int .i64 M,.slice y o i,.int .i64 val,.bool t,.int .i64 m,.int .i64 l,.int .i64 v,.slice Y K D,.slice X J U]=w9 at *;try simp only[Act.put]
      refine aLd ?_;refine aAd.fin ?_;refine bC _ _ (Met.intro (bD _ _ ?_));iterate 14 apply Exists.intro
      refine⟨?_,rfl⟩;exact⟨G,ok,T,S,R,Q,O,N,M,y,o,i,val,t,m,l,v,Y,K,D,X,J,U,rfl,rfl,hid ⟨k8.out,a8.out,h8.out⟩⟩
    . refine bK ?_;intro Z d;go_simp;have E:=Below.al w5 (.cells #[(),(),(),(),(),(),(),.slice none 0 0,(),false,(),(),(),.slice none 0 0,.slice none 0 0] 38);have kt:=(show BlkIs (w5.alloc (.cells #[(),(),(),(),(),(),(),.slice none 0 0,(),false,(),(),(),.slice none 0 0,.slice none 0 0] 38)) w5.heap.size 38 [(),(),(),(),(),(),(),.slice none 0 0,(),false,(),(),(),.slice none 0 0,.slice none 0 0]from aAo _ _ _ rfl);obtain⟨G,F⟩:=ex_ w5.heap.size;rw[<-F]at kt⊢;obtain⟨KT,BA,aj,H⟩:=aBp kt E F (aV a2.out E);refine d.out _ _ (b.out _ H.out) (fun _=>?_);clear d Z kt F E;generalize w5.alloc (.cells #[(),(),(),(),(),(),(),.slice none 0 0,(),false,(),(),(),.slice none 0 0,.slice none 0 0] 38)=w6 at *;refine aBq ?_;with_reducible apply aAd.step
      refine bK ?_;intro Z d;go_simp;go_at_call 8
      (with_reducible refine(cN.out w6 rv H.out (bh.out.below BA.out)).mono ?_)
      rintro e w7 ⟨⟨ok,T,S,R,Q,O,N,M,y,o,i,val,t,m,l,v,Y,K,D,X,J,U,rfl,a5⟩,ad⟩;try go_simp
      obtain⟨a7,b8,BB⟩:=aAw (aV H.out ad) a5 ad;refine d.out _ _ (b.out _ a7.out) (fun _=>?_);clear d Z a5 ad;refine aBq ?_;refine aLd ?_;with_reducible apply aAd.step
      have b7:=hid (show wq.heap.size<=G by rw[aj.out];exact a2.size);refine bK ?_;intro Z d;refine wp_store_row 38 (.tmp 14) (.tmp 58) rfl G #[T,S,R,Q,O,N,M,.slice y o i,val,t,m,l,v,.slice Y K D,.slice X J U] rfl rfl 38 _ (KT.later BB.out) Tryz.infoAns rfl (by simp[bI]) ?_;obtain⟨k8,h8,a8⟩:=aAw ((show BlkIs w7 G 38 [(),(),(),(),(),(),(),.slice none 0 0,(),false,(),(),(),.slice none 0 0,.slice none 0 0]from KT.later BB.out).setRow [T,S,R,Q,O,N,M,.slice y o i,val,t,m,l,v,.slice Y K D,.slice X J U]) (below_setRow a7.out b7.out #[T,S,R,Q,O,N,M,.slice y o i,val,t,m,l,v,.slice Y K D,.slice X J U]) (show aG5 q L g k0 (w7.setRow G #[T,S,R,Q,O,N,M,.slice y o i,val,t,m,l,v,.slice Y K D,.slice X J U]) ok y o i val t m l v from b8.store a9.out (KT.later BB.out) _);refine d.out _ _ (b.out _ h8.out) (fun _=>?_);clear d Z;generalize w7.setRow G #[.int .i64 T,.int .i64 S,.int .i64 R,.int .i64 Q,.int .i64 O,.int .i64 N,.int .i64 M,.slice y o i,.int .i64 val,.bool t,.int .i64 m,.int .i64 l,.int .i64 v,.slice Y K D,.slice X J U]=w9 at *;try simp only[Act.put]
      refine aLd ?_;refine aAd.fin ?_;refine bC _ _ (Met.intro (bD _ _ ?_));iterate 14 apply Exists.intro
      refine⟨?_,rfl⟩;exact⟨G,ok,T,S,R,Q,O,N,M,y,o,i,val,t,m,l,v,Y,K,D,X,J,U,rfl,rfl,hid ⟨k8.out,a8.out,h8.out⟩⟩
  . refine bK ?_;intro Z d;go_simp;have E:=Below.al wd (.cells #[(),(),(),(),(),(),(),.slice none 0 0,(),false,(),(),(),.slice none 0 0,.slice none 0 0] 38);have kt:=(show BlkIs (wd.alloc (.cells #[(),(),(),(),(),(),(),.slice none 0 0,(),false,(),(),(),.slice none 0 0,.slice none 0 0] 38)) wd.heap.size 38 [(),(),(),(),(),(),(),.slice none 0 0,(),false,(),(),(),.slice none 0 0,.slice none 0 0]from aAo _ _ _ rfl);obtain⟨G,F⟩:=ex_ wd.heap.size;rw[<-F]at kt⊢;obtain⟨KT,BA,aj,a2⟩:=aBp kt E F (aV bg.out E);refine d.out _ _ (b.out _ a2.out) (fun _=>?_);clear d Z kt F E;generalize wd.alloc (.cells #[(),(),(),(),(),(),(),.slice none 0 0,(),false,(),(),(),.slice none 0 0,.slice none 0 0] 38)=w5 at *;refine aBq ?_;with_reducible apply aAd.step
    refine bK ?_;intro Z d;go_simp;go_at_call 9
    (with_reducible refine(dn.out w5 a2.out).mono ?_)
    rintro e w6 ⟨rv,rfl,hr,ae⟩;try go_simp
    have H:=hid (aV a2.out ae);have bh:=hid hr;have b6:=ae;refine d.out _ _ (b.out _ H.out) (fun _=>?_);clear d Z hr ae;refine aBq ?_;have bF:=hid b6;with_reducible apply aAd.step
    refine bK ?_;intro Z d;go_simp;go_at_call 8
    (with_reducible refine(cN.out w6 rv H.out (bh.out)).mono ?_)
    rintro e w7 ⟨⟨ok,T,S,R,Q,O,N,M,y,o,i,val,t,m,l,v,Y,K,D,X,J,U,rfl,a5⟩,ad⟩;try go_simp
    obtain⟨a7,b8,BB⟩:=aAw (aV H.out ad) a5 ad;refine d.out _ _ (b.out _ a7.out) (fun _=>?_);clear d Z a5 ad;refine aBq ?_;refine aLd ?_;with_reducible apply aAd.step
    have b7:=hid (show wq.heap.size<=G by rw[aj.out];exact bg.size);refine bK ?_;intro Z d;refine wp_store_row 38 (.tmp 14) (.tmp 58) rfl G #[T,S,R,Q,O,N,M,.slice y o i,val,t,m,l,v,.slice Y K D,.slice X J U] rfl rfl 38 _ ((KT.later bF.out).later BB.out) Tryz.infoAns rfl (by simp[bI]) ?_;obtain⟨k8,h8,a8⟩:=aAw ((show BlkIs w7 G 38 [(),(),(),(),(),(),(),.slice none 0 0,(),false,(),(),(),.slice none 0 0,.slice none 0 0]from(KT.later bF.out).later BB.out).setRow [T,S,R,Q,O,N,M,.slice y o i,val,t,m,l,v,.slice Y K D,.slice X J U]) (below_setRow a7.out b7.out #[T,S,R,Q,O,N,M,.slice y o i,val,t,m,l,v,.slice Y K D,.slice X J U]) (show aG5 q L g k0 (w7.setRow G #[T,S,R,Q,O,N,M,.slice y o i,val,t,m,l,v,.slice Y K D,.slice X J U]) ok y o i val t m l v from b8.store a9.out ((KT.later bF.out).later BB.out) _);refine d.out _ _ (b.out _ h8.out) (fun _=>?_);clear d Z;generalize w7.setRow G #[.int .i64 T,.int .i64 S,.int .i64 R,.int .i64 Q,.int .i64 O,.int .i64 N,.int .i64 M,.slice y o i,.int .i64 val,.bool t,.int .i64 m,.int .i64 l,.int .i64 v,.slice Y K D,.slice X J U]=w9 at *;try simp only[Act.put]
    refine aLd ?_;refine aAd.fin ?_;refine bC _ _ (Met.intro (bD _ _ ?_));iterate 14 apply Exists.intro
    refine⟨?_,rfl⟩;exact⟨G,ok,T,S,R,Q,O,N,M,y,o,i,val,t,m,l,v,Y,K,D,X,J,U,rfl,rfl,hid ⟨k8.out,a8.out,h8.out⟩⟩
 case rest=>
  obtain⟨dS,ok,aH,aF,aD,aB,az,ax,av,aU,ar,aO,a0,ai,ac,dA,E,aS,ap,aM,aQ,an,aK,rfl,rfl,bP⟩:=hcut;cases ok with
  | false=>
    go_wp2_with fail
    go_ret;exact⟨rfl,(a6.out _ (aV ZQ.out bP.2.2)).2.2.2.2⟩
  | true=>
    obtain⟨bM,cF,cP,cr,cl⟩:=bP.2.1 rfl;have bL:dA=(g:Int)+(k0:Int):=by rw[bM,Int.natCast_add]
    subst bL cF;clear bM;obtain⟨cz,cv,ci,bY⟩:=aBp cr cl bP.1 bP.2.2;have bT:=ci.cell 11;have bS:=ci.cell 12;dsimp only[bZ,b0]at bT bS;clear cr cl bP;go_upto_region 15 with fail
    obtain⟨i0,hi,ca,c9,c8⟩:=aRg;clear bT bS
    go_wp2_with (first
     | (refine wpList_load_row rfl 38 (.tmp 14) rfl (dS) rfl 38 #[aH,aF,aD,aB,az,ax,av,.slice aU ar aO,a0,ai,ac,.int .i64 ((g:Int)+(k0:Int)),g,.slice aS ap aM,.slice aQ an aK] (0,0) _ ci.out underlying38 rfl Tryz.infoAns ?_)
     | (at_builtin;refine aEa _ rfl _ _ 31 rfl wc.heap.size 38 i0 (.agg #[(),(),(),(),(),(),(),.slice none 0 0,(),false,(),(),(),.slice none 0 0,.slice none 0 0]) 15 168 underlying31 hi ca c9 c8 rfl (by decide) (.slice none 0 0) 0 [] rfl (World.ownsRow_nil _ _ _ _) ⟨wc.heap.size,0,none⟩ 1 1 [aH,aF,aD,aB,az,ax,av,.slice aU ar aO,a0,ai,ac,.int .i64 ((g:Int)+(k0:Int)),g,.slice aS ap aM,.slice aQ an aK] rfl rfl (fun j u hu=>by rw[Addr.add_mid,Nat.zero_add,BlkIs.cell (show BlkIs (wc.alloc (.cells #[aH,aF,aD,aB,az,ax,av,.slice aU ar aO,a0,ai,ac,.int .i64 ((g:Int)+(k0:Int)),g,.slice aS ap aM,.slice aQ an aK] 38)) wc.heap.size 38 [aH,aF,aD,aB,az,ax,av,.slice aU ar aO,a0,ai,ac,.int .i64 ((g:Int)+(k0:Int)),g,.slice aS ap aM,.slice aQ an aK]from aAo _ _ _ rfl)];exact hu) (by simp[bI]) (by unfold maxLen;omega) (by omega) (by simp) (by omega) ?_;intro va C a1 aZ aY)
     | fail)
    obtain⟨Aa,dO,rfl,-,-,bR⟩:=aAa a1;obtain⟨a4,rfl,bl,-,ah⟩:=bR (by omega);have bp:Ch [] wc C:=((Ch.refl [] wc).alloc _).grown (row:=none) aZ (by intro k hk;cases hk);have cw:=hid (aA8 a1 (Nat.zero_le _));have cI:=bp.below_nil;have ZA:=hid (aV bY.out cI);have bV:=hid ((cv.off_new (a1.lt a4 rfl).1).below cI)
    have bd:=hid (show a4<C.heap.size/\(∀z,C.cell? (a4,14)≠some (.int .i64 z))/\(∀(j:Nat) z,15<=j->C.cell? (a4,j)=some (.int .i64 z)->z=0)/\wq.heap.size<=a4 from⟨bl,(fun z e=>by
     have h:=ah 14 _ rfl;rw[h]at e
     cases e),(fun j z hj e=>by
     have h:=aY.room rfl a4 rfl j _ (by omega) e;simp[Value.cells]at h;exact h),Nat.le_trans bY.size (a1.lt a4 rfl).1⟩)
    clear bp cI a1 bR bl aZ aY ah ci bY cv;rw[rounds_succ];obtain⟨ky,-,-,-,-⟩:=a6.out C ZA.out;have ya:=ky.cell 2;have yb:=ky.cell 3;dsimp only[bZ,b0]at ya yb;clear ky;obtain⟨f,cX⟩:∃P:Nat,aC3 y2 ((n:Int)+1)=(P:Int):=⟨(aC3 y2 ((n:Int)+1)).toNat,by have:=aA3 y2 ((n:Int)+1) (by omega);omega⟩;have co:f<=n:=by have:=aA3 y2 ((n:Int)+1) (by omega);omega
    obtain⟨k1,cU⟩:∃P:Nat,aC3 y3 ((n:Int)+1-(f:Int))=(P:Int):=⟨(aC3 y3 ((n:Int)+1-(f:Int))).toNat,by have:=aA3 y3 ((n:Int)+1-(f:Int)) (by omega);omega⟩;have cm:f+k1<=n:=by have:=aA3 y3 ((n:Int)+1-(f:Int)) (by omega);omega
    have bQ:=HN.2.1;have d7:=hid (fun W=>cX▸aDo y2 ((n:Int)+1) (by omega) (by omega) HY.2.2.1 W);have d5:=hid (fun W=>cU▸aDo y3 ((n:Int)+1-(f:Int)) (by omega) (by omega) HY.2.2.2 W);have e1:b1.wrap ((n:Int)+1)=(n:Int)+1:=by rw[bU];omega
    have e2:b1.wrap ((n:Int)+1-(f:Int))=(n:Int)+1-(f:Int):=by rw[bU];omega
    have e3:b1.wrap ((f:Int)+(k1:Int))=(f:Int)+(k1:Int):=by rw[bU];omega
    have bs:=hid (And.intro co cm);clear cX cU co cm bQ;go_wp2_with fail
    (with_reducible refine(d7.out C).mono ?_)
    rintro e wx ⟨rfl,aW⟩;rw[aW];clear aW wx;go_wp2_with fail
    (with_reducible refine(d5.out C).mono ?_)
    rintro e wx ⟨rfl,aW⟩;rw[aW];clear aW wx;go_upto_region 10 with fail
    obtain⟨bj,bG⟩:=aDh a9.out f
    have b5:(aAy q bj.rows).length<=100:=by
     have h1:=aMe q bj.rows;have h2:=aI0 aCl bG (fun r hr=>bW.out r (List.mem_of_mem_take hr));have h3:(L.take f).length<=f:=by rw[List.length_take];exact Nat.min_le_left _ _
     have h4:=HN.out;have h5:=bs.out;have h6:st0.rows.length=0:=rfl;omega
    have dm:=hid (show∀V:World,b9 C C V->Calls prog 9 #[.slice lA n lc,.int .i64 f,.agg q,.int .i64 0] V fun e w'=>∃rv,e= .returned (.agg #[q.kind,q.table,q.column,q.low,q.high,q.by_,q.other,(),f,rv])/\RgsAt w' rv bj.rows (aCo q bj.rows)/\b9 V V w' from fun V hb=>by
     obtain⟨-,-,bz,cE,-⟩:=a6.out V (aV ZA.out hb);exact aJe _ L f (by have:=HN.out;have:=bs.out;omega) (by have:=HN.out;omega) bj bG q HQ.out 0 V bz cE b5)
    obtain⟨sA,bB⟩:∃a:Option Addr,a=(if lc=f then lA else lA.map (fun x=>x.add (f*2))):=⟨_,rfl⟩
    have cM:=hid (fun(V:World) (rv:Value) (hb:b9 C C V) (hr:RgsAt V rv bj.rows (aCo q bj.rows))=>aRv q HQ.out L s bj f k1 n HN.1 bs.2 HN.2.1 a9.out bG b5 sA (lc-f) rv V hr (by
     obtain⟨-,-,bz,-,-⟩:=a6.out V (aV ZA.out hb);rw[bB];exact bz.cut HN.1 f k1 bs.2))
    have b:=hid (show∀V:World,b9 C C V->BlkIs V qb 29 q from by
     intro V hb;exact(a6.out V (aV ZA.out hb)).2.1)
    have cK:=hid bB;clear bB b5 bG e1 e2 e3 d7 d5;go_cut [14,15]from 48 to 59 (fun cB cA wx=>∃G ok T S R Q O N M y o i val t m l v Y K D X J U,cB= .pointer (some ⟨G,0,none⟩)/\cA= .bool ok/\Hid (BlkIs wx G 38 [.int .i64 T,.int .i64 S,.int .i64 R,.int .i64 Q,.int .i64 O,.int .i64 N,.int .i64 M,.slice y o i,.int .i64 val,.bool t,.int .i64 m,.int .i64 l,.int .i64 v,.slice Y K D,.slice X J U]/\aG5 q L f k1 wx ok y o i val t m l v/\b9 C C wx))
    case first=>
     rename_i J9 K9 bD bC
     have t1:(0:Int)<=(f:Int):=by omega
     have t2:(f:Int)<=(f:Int)+(k1:Int):=by omega
     have t3:(f:Int)+(k1:Int)<=(lc:Int):=by have:=bs.out;have:=HN.out;omega
     have t4:((f:Int)+(k1:Int)).toNat-f=k1:=by omega
     refine aIu (.take 0 (.take 1 (.take 2 (.take 4 (.take 5 (.take 6 (.take 7 (.fork 3 (.fork 8 (.take 9 (.take 10 (.take 11 (.step 12 (.step 13 (.take 14 .done)))))) 12 (.step 8 (.take 9 (.take 10 (.take 11 (.step 13 (.take 14 .done))))))) 12 (.step 3 (.step 8 (.take 9 (.take 10 (.take 11 (.step 13 (.take 14 .done))))))))))))))) b (Below.drew (Below.refl _ C)) ?_;obtain⟨wd,bA⟩:=ex_ C.drew;have bg:=hid (show b9 C C wd from by rw[bA];exact Below.drew (Below.refl _ C));rw[<-bA];clear bA
     repeat (first
      | (refine aAd.A0 ?_ (hy:=by intro wq cH;exact aAe 29 _ rfl qb rfl 29 q (0,0) _ cH underlying29 rfl aDq))
      | refine aAd.A0 ?_|refine aAd.AG ?_|refine aAd.AS ?_|with_reducible apply aAd.fork3|refine GoT.A0 ?_|refine GoT.AG ?_|refine GoT.AS ?_|fail)
     try simp only[<-cK.out]
     with_reducible apply aAd.fork
     . refine bK ?_;intro Z d;go_simp;go_at_call 9
       (with_reducible refine(dm.out wd bg.out).mono ?_)
       rintro e w5 ⟨rv,rfl,hr,bE⟩;try go_simp
       have a2:=hid (aV bg.out bE);have bh:=hid hr;have b6:=bE;refine d.out _ _ (b.out _ a2.out) (fun _=>?_);clear d Z hr bE;refine aBq ?_;with_reducible apply aAd.fork
       . refine bK ?_;intro Z d;go_simp;go_at_call 8
         (with_reducible refine(cM.out w5 rv a2.out (bh.out)).mono ?_)
         rintro e w6 ⟨⟨ok,T,S,R,Q,O,N,M,y,o,i,val,t,m,l,v,Y,K,D,X,J,U,rfl,a5⟩,ae⟩;try go_simp
         obtain⟨H,b8,BB⟩:=aAw (aV a2.out ae) a5 ae;refine d.out _ _ (b.out _ H.out) (fun _=>?_);clear d Z a5 ae;refine aBq ?_;refine aLd ?_;with_reducible apply aAd.step
         refine bK ?_;intro Z d;go_simp;have E:=Below.al w6 (.cells #[(),(),(),(),(),(),(),.slice none 0 0,(),false,(),(),(),.slice none 0 0,.slice none 0 0] 38);have kt:=(show BlkIs (w6.alloc (.cells #[(),(),(),(),(),(),(),.slice none 0 0,(),false,(),(),(),.slice none 0 0,.slice none 0 0] 38)) w6.heap.size 38 [(),(),(),(),(),(),(),.slice none 0 0,(),false,(),(),(),.slice none 0 0,.slice none 0 0]from aAo _ _ _ rfl);obtain⟨G,F⟩:=ex_ w6.heap.size;rw[<-F]at kt⊢;obtain⟨KT,BA,aj,a7⟩:=aBp kt E F (aV H.out E);refine d.out _ _ (b.out _ a7.out) (fun _=>?_);clear d Z kt F E;generalize w6.alloc (.cells #[(),(),(),(),(),(),(),.slice none 0 0,(),false,(),(),(),.slice none 0 0,.slice none 0 0] 38)=w7 at *;refine aBq ?_;with_reducible apply aAd.step
         have b7:=hid (show C.heap.size<=G by rw[aj.out];exact H.size);refine bK ?_;intro Z d;refine wp_store_row 38 (.tmp 14) (.tmp 58) rfl G #[T,S,R,Q,O,N,M,.slice y o i,val,t,m,l,v,.slice Y K D,.slice X J U] rfl rfl 38 _ (KT.out) Tryz.infoAns rfl (by simp[bI]) ?_;obtain⟨k8,h8,a8⟩:=aAw ((show BlkIs w7 G 38 [(),(),(),(),(),(),(),.slice none 0 0,(),false,(),(),(),.slice none 0 0,.slice none 0 0]from KT.out).setRow [T,S,R,Q,O,N,M,.slice y o i,val,t,m,l,v,.slice Y K D,.slice X J U]) (below_setRow a7.out b7.out #[T,S,R,Q,O,N,M,.slice y o i,val,t,m,l,v,.slice Y K D,.slice X J U]) (show aG5 q L f k1 (w7.setRow G #[T,S,R,Q,O,N,M,.slice y o i,val,t,m,l,v,.slice Y K D,.slice X J U]) ok y o i val t m l v from b8.below (below_setRow BA.out (Nat.le_of_eq aj.symm) _));refine d.out _ _ (b.out _ h8.out) (fun _=>?_);clear d Z;generalize w7.setRow G #[.int .i64 T,.int .i64 S,.int .i64 R,.int .i64 Q,.int .i64 O,.int .i64 N,.int .i64 M,.slice y o i,.int .i64 val,.bool t,.int .i64 m,.int .i64 l,.int .i64 v,.slice Y K D,.slice X J U]=w9 at *;try simp only[Act.put]
         refine aLd ?_;refine aAd.fin ?_;refine bC _ _ (Met.intro (bD _ _ ?_));iterate 14 apply Exists.intro
         refine⟨?_,rfl⟩;exact⟨G,ok,T,S,R,Q,O,N,M,y,o,i,val,t,m,l,v,Y,K,D,X,J,U,rfl,rfl,hid ⟨k8.out,a8.out,h8.out⟩⟩
       . refine bK ?_;intro Z d;go_simp;have E:=Below.al w5 (.cells #[(),(),(),(),(),(),(),.slice none 0 0,(),false,(),(),(),.slice none 0 0,.slice none 0 0] 38);have kt:=(show BlkIs (w5.alloc (.cells #[(),(),(),(),(),(),(),.slice none 0 0,(),false,(),(),(),.slice none 0 0,.slice none 0 0] 38)) w5.heap.size 38 [(),(),(),(),(),(),(),.slice none 0 0,(),false,(),(),(),.slice none 0 0,.slice none 0 0]from aAo _ _ _ rfl);obtain⟨G,F⟩:=ex_ w5.heap.size;rw[<-F]at kt⊢;obtain⟨KT,BA,aj,H⟩:=aBp kt E F (aV a2.out E);refine d.out _ _ (b.out _ H.out) (fun _=>?_);clear d Z kt F E;generalize w5.alloc (.cells #[(),(),(),(),(),(),(),.slice none 0 0,(),false,(),(),(),.slice none 0 0,.slice none 0 0] 38)=w6 at *;refine aBq ?_;with_reducible apply aAd.step
         refine bK ?_;intro Z d;go_simp;go_at_call 8
         (with_reducible refine(cM.out w6 rv H.out (bh.out.below BA.out)).mono ?_)
         rintro e w7 ⟨⟨ok,T,S,R,Q,O,N,M,y,o,i,val,t,m,l,v,Y,K,D,X,J,U,rfl,a5⟩,ad⟩;try go_simp
         obtain⟨a7,b8,BB⟩:=aAw (aV H.out ad) a5 ad;refine d.out _ _ (b.out _ a7.out) (fun _=>?_);clear d Z a5 ad;refine aBq ?_;refine aLd ?_;with_reducible apply aAd.step
         have b7:=hid (show C.heap.size<=G by rw[aj.out];exact a2.size);refine bK ?_;intro Z d;refine wp_store_row 38 (.tmp 14) (.tmp 58) rfl G #[T,S,R,Q,O,N,M,.slice y o i,val,t,m,l,v,.slice Y K D,.slice X J U] rfl rfl 38 _ (KT.later BB.out) Tryz.infoAns rfl (by simp[bI]) ?_;obtain⟨k8,h8,a8⟩:=aAw ((show BlkIs w7 G 38 [(),(),(),(),(),(),(),.slice none 0 0,(),false,(),(),(),.slice none 0 0,.slice none 0 0]from KT.later BB.out).setRow [T,S,R,Q,O,N,M,.slice y o i,val,t,m,l,v,.slice Y K D,.slice X J U]) (below_setRow a7.out b7.out #[T,S,R,Q,O,N,M,.slice y o i,val,t,m,l,v,.slice Y K D,.slice X J U]) (show aG5 q L f k1 (w7.setRow G #[T,S,R,Q,O,N,M,.slice y o i,val,t,m,l,v,.slice Y K D,.slice X J U]) ok y o i val t m l v from b8.store a9.out (KT.later BB.out) _);refine d.out _ _ (b.out _ h8.out) (fun _=>?_);clear d Z;generalize w7.setRow G #[.int .i64 T,.int .i64 S,.int .i64 R,.int .i64 Q,.int .i64 O,.int .i64 N,.int .i64 M,.slice y o i,.int .i64 val,.bool t,.int .i64 m,.int .i64 l,.int .i64 v,.slice Y K D,.slice X J U]=w9 at *;try simp only[Act.put]
         refine aLd ?_;refine aAd.fin ?_;refine bC _ _ (Met.intro (bD _ _ ?_));iterate 14 apply Exists.intro
         refine⟨?_,rfl⟩;exact⟨G,ok,T,S,R,Q,O,N,M,y,o,i,val,t,m,l,v,Y,K,D,X,J,U,rfl,rfl,hid ⟨k8.out,a8.out,h8.out⟩⟩
     . refine bK ?_;intro Z d;go_simp;have E:=Below.al wd (.cells #[(),(),(),(),(),(),(),.slice none 0 0,(),false,(),(),(),.slice none 0 0,.slice none 0 0] 38);have kt:=(show BlkIs (wd.alloc (.cells #[(),(),(),(),(),(),(),.slice none 0 0,(),false,(),(),(),.slice none 0 0,.slice none 0 0] 38)) wd.heap.size 38 [(),(),(),(),(),(),(),.slice none 0 0,(),false,(),(),(),.slice none 0 0,.slice none 0 0]from aAo _ _ _ rfl);obtain⟨G,F⟩:=ex_ wd.heap.size;rw[<-F]at kt⊢;obtain⟨KT,BA,aj,a2⟩:=aBp kt E F (aV bg.out E);refine d.out _ _ (b.out _ a2.out) (fun _=>?_);clear d Z kt F E;generalize wd.alloc (.cells #[(),(),(),(),(),(),(),.slice none 0 0,(),false,(),(),(),.slice none 0 0,.slice none 0 0] 38)=w5 at *;refine aBq ?_;with_reducible apply aAd.step
       refine bK ?_;intro Z d;go_simp;go_at_call 9
       (with_reducible refine(dm.out w5 a2.out).mono ?_)
       rintro e w6 ⟨rv,rfl,hr,ae⟩;try go_simp
       have H:=hid (aV a2.out ae);have bh:=hid hr;have b6:=ae;refine d.out _ _ (b.out _ H.out) (fun _=>?_);clear d Z hr ae;refine aBq ?_;have bF:=hid b6;with_reducible apply aAd.step
       refine bK ?_;intro Z d;go_simp;go_at_call 8
       (with_reducible refine(cM.out w6 rv H.out (bh.out)).mono ?_)
       rintro e w7 ⟨⟨ok,T,S,R,Q,O,N,M,y,o,i,val,t,m,l,v,Y,K,D,X,J,U,rfl,a5⟩,ad⟩;try go_simp
       obtain⟨a7,b8,BB⟩:=aAw (aV H.out ad) a5 ad;refine d.out _ _ (b.out _ a7.out) (fun _=>?_);clear d Z a5 ad;refine aBq ?_;refine aLd ?_;with_reducible apply aAd.step
       have b7:=hid (show C.heap.size<=G by rw[aj.out];exact bg.size);refine bK ?_;intro Z d;refine wp_store_row 38 (.tmp 14) (.tmp 58) rfl G #[T,S,R,Q,O,N,M,.slice y o i,val,t,m,l,v,.slice Y K D,.slice X J U] rfl rfl 38 _ ((KT.later bF.out).later BB.out) Tryz.infoAns rfl (by simp[bI]) ?_;obtain⟨k8,h8,a8⟩:=aAw ((show BlkIs w7 G 38 [(),(),(),(),(),(),(),.slice none 0 0,(),false,(),(),(),.slice none 0 0,.slice none 0 0]from(KT.later bF.out).later BB.out).setRow [T,S,R,Q,O,N,M,.slice y o i,val,t,m,l,v,.slice Y K D,.slice X J U]) (below_setRow a7.out b7.out #[T,S,R,Q,O,N,M,.slice y o i,val,t,m,l,v,.slice Y K D,.slice X J U]) (show aG5 q L f k1 (w7.setRow G #[T,S,R,Q,O,N,M,.slice y o i,val,t,m,l,v,.slice Y K D,.slice X J U]) ok y o i val t m l v from b8.store a9.out ((KT.later bF.out).later BB.out) _);refine d.out _ _ (b.out _ h8.out) (fun _=>?_);clear d Z;generalize w7.setRow G #[.int .i64 T,.int .i64 S,.int .i64 R,.int .i64 Q,.int .i64 O,.int .i64 N,.int .i64 M,.slice y o i,.int .i64 val,.bool t,.int .i64 m,.int .i64 l,.int .i64 v,.slice Y K D,.slice X J U]=w9 at *;try simp only[Act.put]
       refine aLd ?_;refine aAd.fin ?_;refine bC _ _ (Met.intro (bD _ _ ?_));iterate 14 apply Exists.intro
       refine⟨?_,rfl⟩;exact⟨G,ok,T,S,R,Q,O,N,M,y,o,i,val,t,m,l,v,Y,K,D,X,J,U,rfl,rfl,hid ⟨k8.out,a8.out,h8.out⟩⟩
    case rest=>
     obtain⟨dR,ok,aG,aE,aC,aA,ay,aw,au,aT,aq,aN,a3,aI,aa,dz,eC,aR,ao,aL,aP,am,aJ,rfl,rfl,bO⟩:=hcut;cases ok with
     | false=>
       go_wp2_with fail
       go_ret;exact⟨rfl,(a6.out _ (aV ZA.out bO.2.2)).2.2.2.2⟩
     | true=>
       obtain⟨bM,cF,dY,cq,ck⟩:=bO.2.1 rfl;have bL:dz=(f:Int)+(k1:Int):=by rw[bM,Int.natCast_add]
       subst bL cF;clear bM;obtain⟨cy,cu,cg,ak⟩:=aBp cq ck bO.1 bO.2.2;have bT:=cg.cell 11;have bS:=cg.cell 12;dsimp only[bZ,b0]at bT bS;clear cq ck bO;go_upto_region 15 with fail
       obtain⟨i0,hi,ca,c9,c8⟩:=aRg;clear bT bS
       go_wp2_with (first
        | (refine wpList_load_row rfl 38 (.tmp 14) rfl (dR) rfl 38 #[aG,aE,aC,aA,ay,aw,au,.slice aT aq aN,a3,aI,aa,.int .i64 ((f:Int)+(k1:Int)),f,.slice aR ao aL,.slice aP am aJ] (0,0) _ cg.out underlying38 rfl Tryz.infoAns ?_)
        | (at_builtin;refine aEa _ rfl _ _ 31 rfl 0 38 i0 (.agg #[(),(),(),(),(),(),(),.slice none 0 0,(),false,(),(),(),.slice none 0 0,.slice none 0 0]) 15 168 underlying31 hi ca c9 c8 rfl (by decide) (.slice (some (a4,0)) 1 dO) 1 [aH,aF,aD,aB,az,ax,av,.slice aU ar aO,a0,ai,ac,.int .i64 ((g:Int)+(k0:Int)),g,.slice aS ap aM,.slice aQ an aK] rfl ((aAr ak.out cw.out).alloc _) ⟨wc.heap.size,0,none⟩ 1 1 [aG,aE,aC,aA,ay,aw,au,.slice aT aq aN,a3,aI,aa,.int .i64 ((f:Int)+(k1:Int)),f,.slice aR ao aL,.slice aP am aJ] rfl rfl (fun j u hu=>by rw[Addr.add_mid,Nat.zero_add,BlkIs.cell (show BlkIs (wc.alloc (.cells #[aG,aE,aC,aA,ay,aw,au,.slice aT aq aN,a3,aI,aa,.int .i64 ((f:Int)+(k1:Int)),f,.slice aR ao aL,.slice aP am aJ] 38)) wc.heap.size 38 [aG,aE,aC,aA,ay,aw,au,.slice aT aq aN,a3,aI,aa,.int .i64 ((f:Int)+(k1:Int)),f,.slice aR ao aL,.slice aP am aJ]from aAo _ _ _ rfl)];exact hu) (by simp[bI]) (by unfold maxLen;omega) (by omega) (by simp) (by omega) ?_;intro va be a1 aZ aY)
        | fail)
       obtain⟨Aa,eB,rfl,-,-,bR⟩:=aAa a1;obtain⟨bJ,rfl,bl,-,ah⟩:=bR (by omega);have bp:Ch [a4] wc be:=((Ch.refl [a4] wc).alloc _).grown (row:=(some a4)) aZ (by intro k hk;cases hk;exact .inl (by simp));have ea:=hid (aA8 a1 (Nat.zero_le _));have c0:∀j,wc.cell? (a4,j)=C.cell? ⟨a4,j,none⟩:=fun j=>ak.cell (p:=⟨a4,j,none⟩) bd.1;have cT:a4<wc.heap.size:=Nat.lt_of_lt_of_le bd.1 ak.size;obtain⟨d3,d4,ZE⟩:=aAw (cu.room (cy.rowsB a9.out).1 bp (fun j hj=>(aY.kept a4 rfl j (by omega)).trans (World.cell?_of_block (a:=⟨a4,j,none⟩) (heap_alloc_old wc _ a4 cT))) (fun z e=>bd.2.1 z ((c0 14).symm.trans e)) (fun j z hj e=>bd.2.2.1 j z hj ((c0 j).symm.trans e))) ((bV.below ak.out).ch bp) ((aV ZA.out ak.out).trans (bp.below (B:=wq.heap.size) (by simpa using bd.2.2.2) (Nat.le_trans ZA.size ak.size)))
       have cR:be.rangeAt bJ 0 [aH,aF,aD,aB,az,ax,av,.slice aU ar aO,a0,ai,ac,.int .i64 ((g:Int)+(k0:Int)),g,.slice aS ap aM,.slice aQ an aK]:=fun j u hu=>by
        rw[Nat.zero_add];exact ah j u (by rw[List.getElem?_append_left (List.getElem?_eq_some_iff.1 hu).1];exact hu)
       obtain⟨di,dj,dk,dU⟩:=aBp (show be.rangeAt bJ 15 [aG,aE,aC,aA,ay,aw,au,.slice aT aq aN,a3,aI,aa,.int .i64 ((f:Int)+(k1:Int)),f,.slice aR ao aL,.slice aP am aJ]from fun j u hu=>ah (15+j) u (by rw[List.getElem?_append_right (by simp)];simpa using hu)) cR bl (Nat.le_trans ZA.size (Nat.le_trans ak.size bp.size));clear bp a1 bR bl aZ aY ah c0 cT cR cg ak cu bV bd cw ZA hi ca c9 c8 i0;rw[rounds_succ];go_upto_region 16 with fail
       go_upto_region 17 with(first
        | (refine wpList_load_mid rfl 38 (.tmp 78) rfl bJ 0 rfl [aH,aF,aD,aB,az,ax,av,.slice aU ar aO,a0,ai,ac,.int .i64 ((g:Int)+(k0:Int)),g,.slice aS ap aM,.slice aQ an aK] _ dj.out underlying38 rfl Tryz.infoAns ?_)
        | (refine aAi rfl 38 (.tmp 16) (.tmp 79) rfl be.heap.size #[aH,aF,aD,aB,az,ax,av,.slice aU ar aO,a0,ai,ac,.int .i64 ((g:Int)+(k0:Int)),g,.slice aS ap aM,.slice aQ an aK] _ 38 rfl rfl rfl Tryz.infoAns rfl (by simp[bI]) ?_)
        | fail)
       have ce:=Below.one be (.cells #[aH,aF,aD,aB,az,ax,av,.slice aU ar aO,a0,ai,ac,.int .i64 ((g:Int)+(k0:Int)),g,.slice aS ap aM,.slice aQ an aK] 38);have c7:BlkIs (be.alloc (.cells #[aH,aF,aD,aB,az,ax,av,.slice aU ar aO,a0,ai,ac,.int .i64 ((g:Int)+(k0:Int)),g,.slice aS ap aM,.slice aQ an aK] 38)) be.heap.size 38 [aH,aF,aD,aB,az,ax,av,.slice aU ar aO,a0,ai,ac,.int .i64 ((g:Int)+(k0:Int)),g,.slice aS ap aM,.slice aQ an aK]:=aAo _ _ _ rfl;obtain⟨eF,ct⟩:=ex_ be.heap.size;rw[<-ct]at c7⊢;generalize be.alloc (.cells #[aH,aF,aD,aB,az,ax,av,.slice aU ar aO,a0,ai,ac,.int .i64 ((g:Int)+(k0:Int)),g,.slice aS ap aM,.slice aQ an aK] 38)=w16 at ce c7⊢;obtain⟨dp,df,dh⟩:=aAw ce c7 (show w16.rangeAt bJ 15 [aG,aE,aC,aA,ay,aw,au,.slice aT aq aN,a3,aI,aa,.int .i64 ((f:Int)+(k1:Int)),f,.slice aR ao aL,.slice aP am aJ]from fun j u hu=>(ce.cell (p:=⟨bJ,15+j,none⟩) dk.out).trans (di.out j u hu));clear ce c7 ct
       go_upto_region 18 with(first
        | (refine wpList_load_mid rfl 38 (.tmp 81) rfl bJ 15 rfl [aG,aE,aC,aA,ay,aw,au,.slice aT aq aN,a3,aI,aa,.int .i64 ((f:Int)+(k1:Int)),f,.slice aR ao aL,.slice aP am aJ] _ dh.out underlying38 rfl Tryz.infoAns ?_)
        | (refine aAi rfl 38 (.tmp 17) (.tmp 82) rfl w16.heap.size #[aG,aE,aC,aA,ay,aw,au,.slice aT aq aN,a3,aI,aa,.int .i64 ((f:Int)+(k1:Int)),f,.slice aR ao aL,.slice aP am aJ] _ 38 rfl rfl rfl Tryz.infoAns rfl (by simp[bI]) ?_)
        | fail)
       have cd:=Below.one w16 (.cells #[aG,aE,aC,aA,ay,aw,au,.slice aT aq aN,a3,aI,aa,.int .i64 ((f:Int)+(k1:Int)),f,.slice aR ao aL,.slice aP am aJ] 38);have c6:BlkIs (w16.alloc (.cells #[aG,aE,aC,aA,ay,aw,au,.slice aT aq aN,a3,aI,aa,.int .i64 ((f:Int)+(k1:Int)),f,.slice aR ao aL,.slice aP am aJ] 38)) w16.heap.size 38 [aG,aE,aC,aA,ay,aw,au,.slice aT aq aN,a3,aI,aa,.int .i64 ((f:Int)+(k1:Int)),f,.slice aR ao aL,.slice aP am aJ]:=aAo _ _ _ rfl;obtain⟨eE,cs⟩:=ex_ w16.heap.size;rw[<-cs]at c6⊢;generalize w16.alloc (.cells #[aG,aE,aC,aA,ay,aw,au,.slice aT aq aN,a3,aI,aa,.int .i64 ((f:Int)+(k1:Int)),f,.slice aR ao aL,.slice aP am aJ] 38)=w17 at cd c6⊢;obtain⟨cJ,KX,cO⟩:=aAw c6 (df.later cd) (aV dp.out cd);clear cd c6 cs dp df dj di dh dk;have et:=KX.c10;have es:=KX.c11;have er:=cJ.c10;have ep:=cJ.c11;have bX:=hid (show b9 w w w17 from(a6.out _ (ZE.trans (cO.mono dU.out))).2.2.2.2);by_cases i:(f:Int)+(k1:Int)<ac
       . have t1:decide ((f:Int)+(k1:Int)<ac)=true:=decide_eq_true i;go_wp2_with fail
         go_ret;exact⟨rfl,bX.out⟩
       have t1:decide ((f:Int)+(k1:Int)<ac)=false:=decide_eq_false i;by_cases D:(g:Int)+(k0:Int)<aa
       . have t2:decide ((g:Int)+(k0:Int)<aa)=true:=decide_eq_true D;go_wp2_with fail
         go_ret;exact⟨rfl,bX.out⟩
       have t2:decide ((g:Int)+(k0:Int)<aa)=false:=decide_eq_false D;have bn:=cz.few a9.out bW.out (by have:=HN.out;omega);have dF:=bAt a9.out cz.out cy.out (by omega) (by omega);injection dF with o1 o2 o3
       subst o1 o2 o3;obtain⟨ec,e5,dM,-⟩:=d4.form;injection dM with f1 f2 f3
       subst f1 f2 f3;obtain⟨eb,e4,dL,-⟩:=d3.form;injection dL with g1 g2 g3
       subst g1 g2 g3;have HS:=hid (aWu ⟨cP,a0,ai⟩ _ _ w17 bn (d4.below cO.out) (d3.below cO.out));unfold resV at HS;dsimp only at HS;obtain⟨-,-,-,-,-,-,-,x7,x8,x9⟩:=KX.C10;obtain⟨-,-,-,-,-,-,-,y7,y8,y9⟩:=cJ.C10;clear bn i D;go_wp2_with fail
       (with_reducible refine(HS.out).mono ?_)
       rintro e ek ⟨rfl,dQ⟩;go_wp2_with fail
       go_ret;exact⟨rfl,aV bX.out dQ⟩
end
end Go.Proofs.YtmhpfoicloojcaaGreatDoor
