/- Walks: Apply, Replay, Put, match. -/
import Derived.Test.YtmhpfoicloojcaaGreatDoorZbp
import Derived.Test.YtmhpfoicloojcaaGreatDoorZbq
set_option linter.all false
open List renaming not_mem_nil→aW,mem_singleton→bO,mem_cons→bP,getElem?_cons_zero→cC,length_nil→cE,append_toArray→cH,size_toArray→cJ,push_toArray→cK,length_cons→cL,cons_append→cM,getElem?_eq_some_iff→cN,nil_append→cO
open Go.RowKit.Below renaming refl→bQ,alloc→cI
open Go.Value renaming oneCell'→bY
open Nat renaming le_refl→cA,reduceAdd→cQ,reduceSub→cR
open Go.World renaming size_alloc→cB,putObj_heap_other→cP
open Array renaming replicate_succ→cF,replicate_zero→cG
open Option renaming some→cT
open Go.Act renaming put→cU
open Go.Instr renaming lookup→cV
open Go renaming World→cX,Value→cY,TypeId→c7,Calls→dA
open Go.RowKit renaming Below→cZ
namespace Go.Proofs.YtmhpfoicloojcaaGreatDoor
open Below renaming next→aI,al→cD
open Upd renaming setBlock→cS
open Ch renaming of_below→cW
set_option maxRecDepth 100000
set_option maxHeartbeats 16000000
section
open Go.Proofs.Tryz
open Go Go.RowKit Go.Shelf
attribute [local go_sem] Oper.semAt_some
theorem aN1 (q:Qy) (g:GoodQ q) (r:Res) (p:Int) (A:Option Addr) (cc:Nat) (chs:List Chg) (hch:∀c∈chs,chgB c=true) (hmid:∀k rk tk,aHa q r (chs.take k)=some (rk,tk)->ResF rk) (hl:chs.length<=1000) (v:cY) (w:cX) (hv:RwsAt w v r.rows) (hx:aCc w (.slice A chs.length cc) chs) :
 dA prog 34 #[qV q,resV v r,.agg #[p,.slice A chs.length cc]] w fun e w'=>
  ((∃r' t v',aHa q r chs=some (r',t)/\e= .returned (.tuple #[resV v' r',.bool t,.bool true])/\RwsAt w' v' r'.rows)\/(aHa q r chs=none/\e= .returned (.tuple #[resV (.slice none 0 0) res0,true,false])))/\cZ w w w':=by
  have hF:=(hmid 0 r false rfl).len;obtain⟨l,n,fd⟩:=r;obtain⟨Av,cv,rfl,-⟩:=hv.form;have P:=fun W (hW:cZ w w W)=>aD5 (.slice Av l.length cv) l W (aDg (hv.below hW)) (by dsimp only at hF;omega);have E:=fun c (h:chgB c=true) W=>aH0 q g c h W;have F:=fun c (h:chgB c=true) r (hr:ResF r) v W hv=>aXd q g c h r hr v W hv;obtain⟨A',c',aT,ae,b⟩:=hx;injection aT with e1 e2 e3
  subst e1 e3;obtain⟨N,hN⟩:=ex_ l.length;obtain⟨M,hM⟩:=ex_ chs.length;dsimp only at *;rw[<-hN]at P⊢;rw[<-hM]at hl ae⊢;obtain⟨aC,aw,az,HN,HM,b3,b2,aB⟩:=aMy P E F hN hM b hch hmid;clear P E F hN hM b hch hmid hF g hv e2;obtain⟨wb,HZ,HW,J,KQ,H,KX,G⟩:=bEq w q 29 [.slice Av N cv,n,fd] 35 [p,.slice A M cc] 51 [.slice none 0 0,(),false] 35;unfold qV resV at *;dsimp only;go_enter func34,ntmps34
  go_upto_region 2 with fail
  rw[<-HW.out];have x0:=H.c0;go_wp2_with fail
  (with_reducible refine(aC.out wb J.out).mono ?_)
  rintro e w1 ⟨v1,rfl,o1,b1⟩;obtain⟨B1,S,rfl,-⟩:=aAa o1;have hz:=HZ.out;have r1:=H.later b1;have x1:=r1.c0;have x2:w1.frozen? (w.heap.size+1,0)=false:=r1.frozen 0;have Y:=hid (r1.set 0 (.slice B1 N S));have a2:=hid ((KQ.later b1).other (p:=⟨w.heap.size+1,0,none⟩) (by dsimp only;omega) (.slice B1 N S));have K:=((KX.later b1).other (p:=⟨w.heap.size+1,0,none⟩) (by dsimp only;omega) (.slice B1 N S));have V:=hid ((G.later b1).other (p:=⟨w.heap.size+1,0,none⟩) (by dsimp only;omega) (.slice B1 N S));have a6:=hid ((aI J.out b1).setCell (p:=⟨w.heap.size+1,0,none⟩) (by dsimp only;omega) (.slice B1 N S));have ov:=aA0 o1 (w.heap.size+1) 0 (.slice B1 N S) (by omega);rw[HN.out]at ov;have L:=aA1 ov;rw[<-HN.out]at L;have a5:=hid L;clear ov L x0 b1 HW aC H KQ KX G J o1 r1 HZ hz;go_upto_region 3 with fail
  generalize w1.setCell (w.heap.size+1,0) (.slice B1 N S)=w2 at Y a2 K V a6 a5⊢;have x3:=K.c1;clear x1 x2 K;go_wp2_with fail
  go_loopw [9,20] (fun tv kv wr=>∃(k:Nat) (rk:Res) (tk:Bool) (vk:cY),kv= .int .i64 k/\k<=M/\tv= .bool tk/\Hid (aHa q ⟨l,n,fd⟩ (chs.take k)=some (rk,tk))/\Hid (BlkIs wr (w.heap.size+1) 35 [vk,rk.value,rk.found])/\Hid (RwsAt wr vk rk.rows)/\Hid (BlkIs wr w 29 q)/\Hid (BlkIs wr (w.heap.size+1+1+1) 35 [.slice none 0 0,(),false])/\Hid (cZ w w wr)) (fun _ kv _=>M-(intOf kv).toNat)
  case atStart=>exact⟨0,⟨l,n,fd⟩,false,_,rfl,by omega,rfl,hid rfl,Y,a5,a2,V,a6⟩
  case round=>
   clear Y a2 V a6 a5 x3;obtain⟨k,rk,tk,vk,rfl,hk,rfl,d,H,HV,KQ,G,J⟩:=hrel;obtain⟨Ak,Q,rfl,-⟩:=HV.form;by_cases h1:k<M
   case neg=>
    obtain rfl:k=M:=by omega
    have s:=d.out;rw[HM.out,List.take_length]at s;obtain⟨D,hD⟩:=ex_ rk.rows.length;rw[<-hD]at H HV;have aY:=hid s;clear s hD d
    go_wp2_with (first
     | (refine wpList_load_row rfl 35 (.tmp 4) rfl (w.heap.size+1) rfl 35 #[.slice Ak D Q,rk.value,rk.found] (0,0) _ H.out underlying35 rfl Tryz.infoRes3 ?_)
     | (refine wpList_store_row rfl 35 (.tmp 6) (.tmp 41) rfl (w.heap.size+1+1+1) #[.slice Ak D Q,rk.value,rk.found] rfl rfl 35 _ G.out Tryz.infoRes3 rfl (by simp[bY]) ?_)
     | fail)
    obtain⟨KF,BF,VF⟩:=aAw (G.setRow [.slice Ak D Q,rk.value,rk.found]) (below_setRow J.out (show w.heap.size<=w.heap.size+1+1+1 by omega) #[.slice Ak D Q,rk.value,rk.found]) (aBt HV.out G.out (by simp) #[.slice Ak D Q,rk.value,rk.found]);generalize wr.setRow (w.heap.size+1+1+1) #[.slice Ak D Q,.int .i64 rk.value,.bool rk.found]=wf at KF BF VF⊢;obtain⟨k0,k1,k2⟩:=KF.C3;clear KF;refine bodyPost_ret (by simp[results,results34,go_sem,k0,k1,k2];try rfl) rfl ?_;exact⟨.inl ⟨rk,tk,_,aY.out,rfl,VF.out⟩,BF.out⟩
   case pos=>
    obtain⟨c,hc⟩:∃c,chs[k]? =some c:=⟨_,List.getElem?_eq_getElem (by rw[<-HM.out];exact h1)⟩;have ad:=b2.out c (List.mem_of_getElem? hc);obtain⟨g,o,rfl,hg,hj⟩:=b3.out (by rw[<-HM.out];omega);have hr:wr.rangeAt g (o+k*10) [.int .i64 c.table,.int .i64 c.key,.bool c.had,.int .i64 c.old.1,.int .i64 c.old.2.1,.int .i64 c.old.2.2,.bool c.has,.int .i64 c.new.1,.int .i64 c.new.2.1,.int .i64 c.new.2.2]:=fun m u hu=>(J.cell (p:=⟨g,o+k*10+m,none⟩) hg).trans (hj k c hc m u hu);obtain⟨ay,HS,aX⟩:=aAw hr (aW1 d.out hc) (aB.out k rk tk d.out);have q1:(0:Int)<=(k:Int):=by omega
    have q2:(k:Int)<(M:Int):=by omega
    have aD:=hid ad;clear hr hj hc ad
    go_upto_region 6 with(first
     | (refine wpList_load_mid rfl 48 (.tmp 22) rfl g (o+k*10) rfl c _ ay.out underlying48 rfl Tryz.infoChg10 ?_)
     | (refine aAi rfl 48 (.tmp 11) (.tmp 23) rfl wr.heap.size c _ 48 rfl rfl rfl Tryz.infoChg10 rfl (by simp[bY]) ?_)
     | fail)
    have T:=Below.one wr (.cells c 48);have k5:BlkIs (wr.alloc (.cells c 48)) wr.heap.size 48 c:=aAp _ _ _ rfl rfl;obtain⟨X,hX⟩:=ex_ wr.heap.size;generalize wr.alloc (.cells c 48)=w5 at T k5⊢;rw[<-hX]at k5⊢;obtain⟨al,au,a1,aj,aF,a4⟩:=aIl (H.later T) (HV.below T) (KQ.later T) (G.later T) (aI J.out T) k5;clear T k5 H HV KQ G J ay hX;obtain⟨tt,ac⟩:=ex_ (touchQ q c);have O:=aw.out c aD.out w5;rw[<-ac]at O HS;have B:=hid O;clear O ac
    (try unfold qV at B)
    (try unfold aD8 at B)
    try simp only[cU]
    go_cut [9] (fun tv wx=>tv= .bool (tk || tt)/\Hid (cZ w5 w5 wx))
    case first=>
     cases tk
     case true=>
      go_wp2_with fail
      go_meet
      exact⟨rfl,hid (bQ _ _)⟩
     case false=>
      obtain⟨y0,y1,y2,y3,y4,y5,y6⟩:=a1.C7;obtain⟨z0,z1,z2,z3,z4,z5,z6,z7,z8,z9⟩:=a4.C10;go_wp2_with fail
      clear y0 y1 y2 y3 y4 y5 y6 z0 z1 z2 z3 z4 z5 z6 z7 z8 z9
      (with_reducible refine(B.out).mono ?_)
      rintro e w6 ⟨rfl,b6⟩;have B6:=hid b6;clear b6;go_wp2_with fail
      go_meet
      exact⟨by simp,B6⟩
    case rest=>
     obtain⟨rfl,a⟩:=hcut;obtain⟨w6,ab⟩:=ex_ wc;rw[<-ab]at a⊢;clear ab wc;obtain⟨z,ar,a0,ai,ao,aE⟩:=aIl (al.later a.out) (au.below a.out) (a1.later a.out) (aj.later a.out) (a4.later a.out) (aI aF.out a.out);have f:=az.out c aD.out rk aX.out _ w6 ar.out;obtain⟨D,hD⟩:=ex_ rk.rows.length;rw[<-hD]at z f
     (try unfold qV at f)
     (try unfold aD8 at f)
     (try unfold resV at f)
     have aA:=hid f;clear f hD a al au a1 aj a4 aF B ar;go_upto_region 8 with fail
     go_wp2_with (first
      | (refine wpList_load_row rfl 29 (.tmp 3) rfl (w.heap.size) rfl 29 q (0,0) _ a0.out underlying29 rfl Tryz.infoQry7 ?_)
      | (refine wpList_load_row rfl 35 (.tmp 4) rfl (w.heap.size+1) rfl 35 #[.slice Ak D Q,rk.value,rk.found] (0,0) _ z.out underlying35 rfl Tryz.infoRes3 ?_)
      | (refine wpList_load_row rfl 48 (.tmp 11) rfl (X) rfl 48 c (0,0) _ ao.out underlying48 rfl Tryz.infoChg10 ?_)
      | fail)
     (with_reducible refine(aA.out).mono ?_)
     rintro e w7 ⟨ho,b7⟩;obtain⟨j,Z,y,C⟩:=aBp (z.later b7) (a0.later b7) (ai.later b7) (aI aE.out b7);clear b7 z a0 ai aE ao aA;rcases ho with⟨r',v',hp,rfl,hv'⟩|⟨hp,rfl⟩
     . rw[hp]at HS;obtain⟨A9,R,rfl,-⟩:=hv'.form;obtain⟨U,af⟩:=ex_ r'.rows.length;rw[<-af]at hv'⊢;have aq:=hid hv';clear hv' hp af
       go_upto_region 9 with(first
        | (refine wpList_store_row rfl 35 (.tmp 4) (.tmp 35) rfl (w.heap.size+1) #[.slice A9 U R,r'.value,r'.found] rfl rfl 35 _ j.out Tryz.infoRes3 rfl (by simp[bY]) ?_)
        | fail)
       obtain⟨ak,am,i,x,ap⟩:=aDs (j.setRow [.slice A9 U R,r'.value,r'.found]) (Z.setRow_ne (show w.heap.size≠w.heap.size+1 by omega) #[.slice A9 U R,r'.value,r'.found]) (y.setRow_ne (show w.heap.size+1+1+1≠w.heap.size+1 by omega) #[.slice A9 U R,r'.value,r'.found]) (below_setRow C.out (show w.heap.size<=w.heap.size+1 by omega) #[.slice A9 U R,r'.value,r'.found]) (aBt aq.out j.out (by simp) #[.slice A9 U R,r'.value,r'.found]);generalize w7.setRow (w.heap.size+1) #[.slice A9 U R,.int .i64 r'.value,.bool r'.found]=w9 at ak am i x ap⊢;clear j Z y C aq;go_wp2_with fail
       go_roundw
       case rel=>exact⟨k+1,r',_,_,by go_num,h1,rfl,hid HS.out,ak,ap,am,i,x⟩
       case measure=>simp[intOf];omega
     . rw[hp]at HS;have aZ:=hid (aW2 (k:=k+1) HS.out);clear hp
       go_upto_region 9 with(first
        | (refine wpList_store_row rfl 35 (.tmp 4) (.tmp 35) rfl (w.heap.size+1) #[.slice none 0 0,(),false] rfl rfl 35 _ j.out Tryz.infoRes3 rfl (by simp[bY]) ?_)
        | fail)
       have i:=hid (y.setRow_ne (show w.heap.size+1+1+1≠w.heap.size+1 by omega) #[.slice none 0 0,(),false]);have x:=hid (below_setRow C.out (show w.heap.size<=w.heap.size+1 by omega) #[.slice none 0 0,(),false]);generalize w7.setRow (w.heap.size+1) #[.slice none 0 0,.int .i64 0,.bool false]=w9 at i x⊢;clear j Z y C
       go_wp2_with (first
        | (refine wpList_store_row rfl 35 (.tmp 6) (.tmp 39) rfl (w.heap.size+1+1+1) #[.slice none 0 0,(),false] rfl rfl 35 _ i.out Tryz.infoRes3 rfl (by simp[bY]) ?_)
        | fail)
       have KF:=hid (i.setRow [.slice none 0 0,(),false]);have BF:=hid (below_setRow x.out (show w.heap.size<=w.heap.size+1+1+1 by omega) #[.slice none 0 0,(),false]);generalize w9.setRow (w.heap.size+1+1+1) #[.slice none 0 0,.int .i64 0,.bool false]=wf at KF BF⊢;obtain⟨k0,k1,k2⟩:=KF.C3;clear KF;refine bodyPost_ret (by simp[results,results34,go_sem,k0,k1,k2];try rfl) rfl ?_;exact⟨.inr ⟨aZ.out,rfl⟩,BF.out⟩
theorem ResB.fits {r:Res} {n:Nat} (h:ResB r n) (hn:n<=2008):ResF r:=by
 obtain⟨c,b,a,_⟩:=h;exact⟨by omega,by omega,by omega⟩
theorem Tryz.infoRec2:(prog.info? 51).map (·.size)=some 2:=by kernel_rfl
theorem aNp (q:Qy) (g:GoodQ q) (s:StT) (gs:GoodS s) (l:List Rec) (s':StT) (hrun:runS s l=some s') (hl:l.length<=10000) (base:Int) (hb1:base=s.pos) (hb2:0<=base) (hb3:base<=10000) (v:cY) (A:Option Addr) (cc:Nat) (w:cX)
 (hv:RwsAt w v (evalQ q s.rows).rows) (hx:aCj w (.slice A l.length cc) l) :
 dA prog 19 #[qV q,resV v (evalQ q s.rows),base,.slice A l.length cc] w fun e w'=>
  ((∃r' since v',replayQ q (evalQ q s.rows) base l=some (r',since)/\e= .returned (.tuple #[resV v' r',.int .i64 since,.bool true])/\RwsAt w' v' r'.rows)\/(replayQ q (evalQ q s.rows) base l=none/\e= .returned (.tuple #[resV (.slice none 0 0) res0,(),false])))/\cZ w w w':=by
  have hF:=((aHn (q:=q) gs.rows).fits (by have:=gs.small;omega)).len;obtain⟨V,ah⟩:=ex_ (evalQ q s.rows);rw[<-ah]at hv hF⊢;obtain⟨Av,cv,rfl,-⟩:=hv.form;have ai:=fun W (hW:cZ w w W)=>aD5 (.slice Av V.rows.length cv) V.rows W (aDg (hv.below hW)) (by omega);have a8:=fun c p A cc bG a0 f hl v W hv hx=>aN1 q g c p A cc bG a0 f hl v W hv hx;obtain⟨A',c',bz,aT,i⟩:=hx;injection bz with e1 e2 e3
  subst e1 e3;obtain⟨N,hN⟩:=ex_ V.rows.length;obtain⟨M,hM⟩:=ex_ l.length;rw[<-hN]at ai⊢;rw[<-hM]at hl aT⊢;obtain⟨be,bg,HN,HM,bL,bJ,b8,bK,bM⟩:=bBf ai a8 hN hM i ah hrun gs hb1;clear ai a8 hN hM i hF g hv e2 ah hrun gs hb1;obtain⟨wb,HZ,HW,HB,KQ,KR,KT⟩:=bEr w q 29 [.slice Av N cv,V.value,V.found] 35 [.slice none 0 0,(),false] 35;unfold qV resV at *;go_enter func19,ntmps19
  go_upto_region 2 with fail
  rw[<-HW.out];have x0:=KR.c0;go_wp2_with fail
  (with_reducible refine(be.out wb HB.out).mono ?_)
  rintro e w1 ⟨v1,rfl,o1,b1⟩;obtain⟨B1,c1,rfl,-⟩:=aAa o1;have hz:=HZ.out;have r1:=KR.later b1;have x1:=r1.c0;have x2:w1.frozen? (w.heap.size+1,0)=false:=r1.frozen 0;obtain⟨au,ay,ao,aE⟩:=aBp (r1.set 0 (.slice B1 N c1)) ((KQ.later b1).other (p:=⟨w.heap.size+1,0,none⟩) (by dsimp only;omega) (.slice B1 N c1)) ((KT.later b1).other (p:=⟨w.heap.size+1,0,none⟩) (by dsimp only;omega) (.slice B1 N c1)) ((aI HB.out b1).setCell (p:=⟨w.heap.size+1,0,none⟩) (by dsimp only;omega) (.slice B1 N c1));have ov:=aA0 o1 (w.heap.size+1) 0 (.slice B1 N c1) (by omega);rw[HN.out]at ov;have af:=aA1 ov;rw[<-HN.out]at af;have aB:=hid af;clear ov af x0 b1 HW be KR KQ KT HB o1 r1 HZ hz;go_upto_region 3 with fail
  generalize w1.setCell (w.heap.size+1,0) (.slice B1 N c1)=w2 at au ay ao aE aB⊢;clear x1 x2;go_wp2_with fail
  go_loopw [11,24] (fun sv kv wr=>∃(k:Nat) (c:Res) (si:Int) (vk:cY) (sk:StT),kv= .int .i64 k/\k<=M/\sv= .int .i64 si/\Hid (replayQ q V base l=replayQ q c si (l.drop k))/\Hid (runS s (l.take k)=some sk/\c=evalQ q sk.rows)/\Hid (BlkIs wr (w.heap.size+1) 35 [vk,c.value,c.found])/\Hid (RwsAt wr vk c.rows)/\Hid (BlkIs wr w 29 q)/\Hid (BlkIs wr (w.heap.size+1+1) 35 [.slice none 0 0,(),false])/\Hid (cZ w w wr)) (fun _ kv _=>M-(intOf kv).toNat)
  case atStart=>exact⟨0,V,base,_,s,rfl,by omega,rfl,hid rfl,hid ⟨rfl,bJ.out⟩,au,aB,ay,ao,aE⟩
  case round=>
   clear au ay ao aE aB;obtain⟨k,c,si,vk,sk,rfl,hk,rfl,z,O,KR,HV,KQ,KT,HB⟩:=hrel;obtain⟨Ak,ck,rfl,-⟩:=HV.form;by_cases h1:k<M
   case neg=>
    obtain rfl:k=M:=by omega
    have a:=z.out;rw[HM.out,List.drop_length]at a;have E:=hid (show replayQ q V base l=some (c,si)from a);obtain⟨D,hD⟩:=ex_ c.rows.length;rw[<-hD]at KR HV;clear a hD z O
    go_wp2_with (first
     | (refine wpList_load_row rfl 35 (.tmp 5) rfl (w.heap.size+1) rfl 35 #[.slice Ak D ck,c.value,c.found] (0,0) _ KR.out underlying35 rfl Tryz.infoRes3 ?_)
     | (refine wpList_store_row rfl 35 (.tmp 8) (.tmp 60) rfl (w.heap.size+1+1) #[.slice Ak D ck,c.value,c.found] rfl rfl 35 _ KT.out Tryz.infoRes3 rfl (by simp[bY]) ?_)
     | fail)
    obtain⟨KF,BF,VF⟩:=aAw (KT.setRow [.slice Ak D ck,c.value,c.found]) (below_setRow HB.out (show w.heap.size<=w.heap.size+1+1 by omega) #[.slice Ak D ck,c.value,c.found]) (aBt HV.out KT.out (by simp) #[.slice Ak D ck,c.value,c.found]);generalize wr.setRow (w.heap.size+1+1) #[.slice Ak D ck,.int .i64 c.value,.bool c.found]=wf at KF BF VF⊢;obtain⟨k0,k1,k2⟩:=KF.C3;clear KF;refine bodyPost_ret (by simp[results,results19,go_sem,k0,k1,k2];try rfl) rfl ?_;exact⟨.inl ⟨c,si,_,E.out,rfl,VF.out⟩,BF.out⟩
   case pos=>
    obtain⟨x,hx⟩:∃x,l[k]? =some x:=⟨_,List.getElem?_eq_getElem (by rw[<-HM.out];exact h1)⟩;obtain⟨J,s2,aN,aP⟩:=aWq b8.out O.1 hx;have Z:=(aBy bK.out O.1);have d:=aB7 J
    have G:x.pos=base+1+k:=by
     have h5:=Z.2;rw[List.length_take]at h5;have:=HM.out;have:=bM.out;omega
    have a0:=aJb (aEg d.1)
    have f:∀j rj tj,aHa q c (x.chs.take j)=some (rj,tj)->ResF rj:=fun j rj tj hj=>by
     rw[O.2]at hj;obtain⟨n,hn,hB⟩:=bAm Z.1 J hj;exact hB.fits hn
    have h8:x.chs.length<=1000:=by
     have h:=d.1;unfold recB at h;simp only[Bool.and_eq_true,decide_eq_true_eq]at h;omega
    have F:=aPm (q:=q) (r:=c) (si:=si) hx
    have H:∀r t,aHa q c x.chs=some (r,t)->r=evalQ q s2.rows:=fun r t h=>by
     rw[O.2]at h;exact(aOr Z.1 aN h).1
    obtain⟨gx,ox,rfl,aS,aR⟩:=bL.out (by rw[<-HM.out];omega);obtain⟨ae,cl,ad,K⟩:=aR k x hx;obtain⟨S,R,rfl,-,-⟩:=id K;have b:=fun W (hW:cZ w w W) v hv=>bg.out c x.pos S R x.chs a0 f h8 v W hv (K.below hW);obtain⟨Q,ac⟩:=ex_ x.pos;obtain⟨T,aL⟩:=ex_ x.chs.length;rw[<-ac]at ae G b;rw[<-aL]at ad b;have y0:wr.cell? (gx,ox+k*2)=some (.int .i64 Q):=(HB.cell (p:=⟨gx,ox+k*2,none⟩) aS).trans ae;have y1:wr.cell? (gx,ox+k*2+1)=some (.slice S T R):=(HB.cell (p:=⟨gx,ox+k*2+1,none⟩) aS).trans ad;obtain⟨P,aa,bc,ba,bb,bH⟩:=aIl b F H aP G ac;obtain⟨D,hD⟩:=ex_ c.rows.length;rw[<-hD]at KR HV
    have aO:wr.rangeAt gx (ox+k*2) [Q,.slice S T R]:=by
     intro m u hu
     match m,hu with
     | 0,hu=>simp at hu;subst hu;exact y0
     | 1,hu=>simp at hu;subst hu;exact y1
    have b9:=hid aO;have q1:(0:Int)<=(k:Int):=by omega
    have q2:(k:Int)<(M:Int):=by omega
    clear hx J aN aP Z d G a0 f h8 F H aR ae ad K b ac aL hD y0 y1 aO
    go_upto_region 6 with(first
     | (refine wpList_load_mid rfl 51 (.tmp 27) rfl gx (ox+k*2) rfl [Q,.slice S T R] _ b9.out underlying51 rfl Tryz.infoRec2 ?_)
     | (refine aAi rfl 51 (.tmp 13) (.tmp 28) rfl wr.heap.size #[Q,.slice S T R] _ 51 rfl rfl rfl Tryz.infoRec2 rfl (by simp[bY]) ?_)
     | fail)
    have b5:=Below.one wr (.cells #[Q,.slice S T R] 51);have k5:BlkIs (wr.alloc (.cells #[Q,.slice S T R] 51)) wr.heap.size 51 [Q,.slice S T R]:=aAp _ _ _ rfl rfl;obtain⟨X,hX⟩:=ex_ wr.heap.size;have bI:=hid (show w.heap.size+1+1<X by rw[hX];exact KT.lt);generalize wr.alloc (.cells #[Q,.slice S T R] 51)=w5 at b5 k5⊢;rw[<-hX]at k5⊢;obtain⟨ar,ax,aZ,aD,am⟩:=aDs (KR.later b5) (KQ.later b5) (KT.later b5) (aI HB.out b5) k5;have b:=P.out w5 aD.out (.slice Ak D ck) (HV.below b5);have bf:=hid b;clear b5 k5 KR HV KQ KT HB b9 hX b P
    go_wp2_with (first
     | (refine wpList_load_row rfl 29 (.tmp 4) rfl (w.heap.size) rfl 29 q (0,0) _ ax.out underlying29 rfl Tryz.infoQry7 ?_)
     | (refine wpList_load_row rfl 35 (.tmp 5) rfl (w.heap.size+1) rfl 35 #[.slice Ak D ck,c.value,c.found] (0,0) _ ar.out underlying35 rfl Tryz.infoRes3 ?_)
     | (refine wpList_load_row rfl 51 (.tmp 13) rfl (X) rfl 51 #[Q,.slice S T R] (0,0) _ am.out underlying51 rfl Tryz.infoRec2 ?_)
     | fail)
    refine(bf.out).mono ?_;rintro e U ⟨ho,b6⟩;obtain⟨aq,aw,a1,a6,al⟩:=aDs (ar.later b6) (ax.later b6) (aZ.later b6) (aI aD.out b6) (am.later b6);clear b6 ar ax aZ aD am bf;rcases ho with⟨r',t,v',hp,rfl,hv'⟩|⟨hp,rfl⟩
    . have a:=z.trans aa.out;rw[hp]at a;have bd:=hid (bc.out r' t hp);obtain⟨B,o,rfl,-⟩:=hv'.form;obtain⟨y,aU⟩:=ex_ r'.rows.length;rw[<-aU]at hv'⊢;rw[<-bH.out]at a;have E:=hid a;have b4:=hid hv';clear a hv' aU hp
      go_upto_region 7 with(first
       | (refine aAi rfl 35 (.tmp 14) (.tmp 34) rfl U.heap.size #[.slice B y o,r'.value,r'.found] _ 35 rfl rfl rfl Tryz.infoRes3 rfl (by simp[bY]) ?_)
       | fail)
      have C:=Below.one U (.cells #[.slice B y o,r'.value,r'.found] 35);have k7:BlkIs (U.alloc (.cells #[.slice B y o,r'.value,r'.found] 35)) U.heap.size 35 [.slice B y o,r'.value,r'.found]:=aAp _ _ _ rfl rfl;obtain⟨Y,hY⟩:=ex_ U.heap.size;generalize U.alloc (.cells #[.slice B y o,r'.value,r'.found] 35)=w7 at C k7⊢;rw[<-hY]at k7⊢;obtain⟨a3,b0,L,a5,ak,b3,aX⟩:=aMz (aq.later C) (aw.later C) (a1.later C) (aI a6.out C) (al.later C) (b4.below C) k7;clear C k7 hY aq aw a1 a6 al b4;have z0:=ak.c0;have aM:IntKind.i64.wrap (9223372036854775806-(k:Int))=9223372036854775806-(k:Int):=by rw[IntKind.wrap_i64];omega
      have t1:decide ((9223372036854775806:Int)-(k:Int)<base)=false:=by rw[decide_eq_false_iff_not];omega
      have bB:IntKind.i64.wrap (base+1)=base+1:=by rw[IntKind.wrap_i64];omega
      have bA:IntKind.i64.wrap (base+1+(k:Int))=base+1+(k:Int):=by rw[IntKind.wrap_i64];omega
      have t2:(Q != base+1+(k:Int))=false:=by rw[bne_eq_false_iff_eq];exact bb.out
      go_upto_region 10 with(first
       | (refine wpList_load_row rfl 35 (.tmp 14) rfl (Y) rfl 35 #[.slice B y o,r'.value,r'.found] (0,0) _ aX.out underlying35 rfl Tryz.infoRes3 ?_)
       | (refine wpList_store_row rfl 35 (.tmp 5) (.tmp 55) rfl (w.heap.size+1) #[.slice B y o,r'.value,r'.found] rfl rfl 35 _ a3.out Tryz.infoRes3 rfl (by simp[bY]) ?_)
       | fail)
      obtain⟨ap,av,an,aY,aC,aA⟩:=aIl (a3.setRow [.slice B y o,r'.value,r'.found]) (b0.setRow_ne (show w.heap.size≠w.heap.size+1 by omega) #[.slice B y o,r'.value,r'.found]) (L.setRow_ne (show w.heap.size+1+1≠w.heap.size+1 by omega) #[.slice B y o,r'.value,r'.found]) (ak.setRow_ne (show X≠w.heap.size+1 by have:=bI.out;omega) #[.slice B y o,r'.value,r'.found]) (below_setRow a5.out (show w.heap.size<=w.heap.size+1 by omega) #[.slice B y o,r'.value,r'.found]) (aBt b3.out a3.out (by simp) #[.slice B y o,r'.value,r'.found]);generalize w7.setRow (w.heap.size+1) #[.slice B y o,.int .i64 r'.value,.bool r'.found]=w9 at ap av an aY aC aA⊢;clear a3 b0 L a5 ak b3 aX z0 aM t1 bB bA t2;have z9:=aY.c0;have aQ:k+1<=M:=h1;cases t
      . go_wp2_with fail
        go_roundw
        case rel=>exact⟨k+1,r',_,_,s2,by go_num,aQ,rfl,hid E.out,hid ⟨ba.out,bd.out⟩,ap,aA,av,an,aC⟩
        case measure=>simp[intOf];omega
      . go_wp2_with fail
        go_roundw
        case rel=>exact⟨k+1,r',_,_,s2,by go_num,aQ,rfl,hid E.out,hid ⟨ba.out,bd.out⟩,ap,aA,av,an,aC⟩
        case measure=>simp[intOf];omega
    . have a:=z.trans aa.out;rw[hp]at a;have E:=hid (show replayQ q V base l=none from a);clear a hp
      go_upto_region 7 with(first
       | (refine aAi rfl 35 (.tmp 14) (.tmp 34) rfl U.heap.size #[.slice none 0 0,(),false] _ 35 rfl rfl rfl Tryz.infoRes3 rfl (by simp[bY]) ?_)
       | fail)
      have C:=Below.one U (.cells #[.slice none 0 0,(),false] 35);generalize U.alloc (.cells #[.slice none 0 0,(),false] 35)=w7 at C⊢;have L:=hid (a1.later C);have a5:=hid (aI a6.out C);clear C aq aw a1 a6 al
      go_wp2_with (first
       | (refine wpList_store_row rfl 35 (.tmp 8) (.tmp 54) rfl (w.heap.size+1+1) #[.slice none 0 0,(),false] rfl rfl 35 _ L.out Tryz.infoRes3 rfl (by simp[bY]) ?_)
       | fail)
      have KF:=hid (L.setRow [.slice none 0 0,(),false]);have BF:=hid (below_setRow a5.out (show w.heap.size<=w.heap.size+1+1 by omega) #[.slice none 0 0,(),false]);generalize w7.setRow (w.heap.size+1+1) #[.slice none 0 0,.int .i64 0,.bool false]=wf at KF BF⊢;obtain⟨k0,k1,k2⟩:=KF.C3;clear KF;refine bodyPost_ret (by simp[results,results19,go_sem,k0,k1,k2];try rfl) rfl ?_;exact⟨.inr ⟨E.out,rfl⟩,BF.out⟩
theorem aS3:replayQ awQ (evalQ awQ awS.rows) 1 []=some (⟨[],1,false⟩,1):=by decide +kernel
theorem aKo:GoodS awS:=(aBy aCl bE9).1
def awC:Sc:=⟨0,1,10,19⟩
theorem aZ5:(awC.cut awS.rows).length=1:=by decide +kernel
theorem aV0:∀p∈awC.pths awS.rows,p.length<=1000:=by decide +kernel
theorem aKn:aCo awQ awS.rows=[awC]:=aZh
theorem aIg:(aAy awQ awS.rows).length<=100:=by decide +kernel
theorem aKi:(prog.info? 35).map (·.size)=some 3:=by kernel_rfl
theorem bCm (w:cX) (A:Option Addr) (c:Nat):RwsAt w (.slice A 0 c) []:=⟨A,c,rfl,Nat.zero_le _,fun h=>absurd h (by simp)⟩
theorem aE4 {w:cX} {g:Nat} {t:c7} {cs ds:List cY} (h:BlkIs w g t (cs++ds)):w.rangeAt g 0 cs:=
 h.rangeAt (o:=0) fun j u hu=>by
  rw[Nat.zero_add,List.getElem?_append_left (cN.1 hu).1];exact hu
theorem aPq (C:Nat) (c2 c3 c4 c5 c6 rv:cY) (w:cX) (hC:BlkIs w C 87 [(1:Int),.slice none 0 0,c2,c3,c4,c5,c6]) (hr:RgsAt w rv awS.rows [awC]) :
 dA prog 26 #[.pointer (some (C,0)),.agg #[(3:Int),(),(1:Int),(10:Int),(19:Int),(),(),(),(1:Int),rv]] w fun e w'=>∃Y rv' vA vc B N,e= .returned (.tuple #[.string prtKey,.pointer (some ⟨Y,0,none⟩),true])/\
   BlkIs w' Y 93 [(3:Int),(),(1:Int),(10:Int),(19:Int),(),(),(),(1:Int),rv',(),.slice vA 0 vc,(1:Int),false,(1:Int)]/\w.heap.size<=B/\B<=N/\N<=Y/\Off B N w' (fun W=>RgsAt W rv' awS.rows [awC])/\cZ w w w':=by
 have u:=hr.form;obtain⟨A,c,rfl,-⟩:=u;simp only[List.length_singleton]at hr⊢;have r:=fun W (p:cZ w w W)=>aQv awS aKo awQ aZi _ W (by rw[aKn];exact hr.below p) aIg;rw[aQp]at r;have s:=fun v W (hv:RwsAt W v [])=>aNp awQ aZi awS aKo [] awS rfl (by simp) 1 rfl (by omega) (by omega) v none 0 W (by rw[aQp];exact hv) ⟨none,0,rfl,cA _,fun h=>absurd h (by simp)⟩;rw[aS3,aQp]at s;have b:=fun W (p:cZ w w W)=>aJ2 _ awS.rows awC aZ5 (aDf _) aV0 W (hr.below p);obtain⟨g,i,ao,m⟩:=aBp r s b aW8;clear r s b hr;unfold qV awQ at g i m;unfold resV at g i;dsimp only[cE]at g i m;obtain⟨wb,HZ,HW,HB,KE⟩:=bB6 w [(3:Int),(),(1:Int),(10:Int),(19:Int),(),(),(),(1:Int),.slice A 1 c] 42;have KC:=hid (hC.later HB.out);have aJ:=hid hC.lt;clear hC;go_enter func26,ntmps26
 go_upto_region 1 with fail
 rw[<-HW.out];have F:=hid (fun(W:cX) (h:BlkIs W w 42 [(3:Int),(),(1:Int),(10:Int),(19:Int),(),(),(),(1:Int),.slice A 1 c])=>(show W.rangeAt w.heap.size 0 [(3:Int),(),(1:Int),(10:Int),(19:Int),(),()]from aE4 (ds:=[.int .i64 0,.int .i64 1,.slice A 1 c]) h))
 go_wp2_with (first
  | (refine wpList_load_mid rfl 29 (.tmp 15) rfl w.heap.size 0 rfl [(3:Int),(),(1:Int),(10:Int),(19:Int),(),()] _ (F.out _ KE.out) underlying29 rfl aDq ?_)
  | fail)
 (with_reducible refine(m.out wb).mono ?_)
 rintro e w1 ⟨rfl,b1⟩;obtain⟨z,D,a2⟩:=aAw (KE.later b1) (KC.later b1) (aI HB.out b1);clear b1 KE KC HB m HW HZ;have x8:=z.c8;go_wp2_with fail
 (with_reducible refine(aRb 1 (by omega) (by omega) w1).mono ?_)
 rintro e wx ⟨rfl,O⟩;rw[O];clear O wx;have a3:=hid (aLy C 1 1 none 0 0 _ w1 D.out (by omega) (by omega) (by omega) (fun _=>⟨rfl,rfl⟩));go_wp2_with fail
 (with_reducible refine(a3.out).mono ?_)
 rintro e w2 ⟨rfl,b2⟩;obtain⟨l,T,H⟩:=aAw (z.later b2) (D.later b2) (aI a2.out b2);clear b2 z D a2 x8 a3;have x9:=l.c9
 go_wp2_with (first
  | (refine wpList_load_mid rfl 29 (.tmp 36) rfl w.heap.size 0 rfl [(3:Int),(),(1:Int),(10:Int),(19:Int),(),()] _ (F.out _ l.out) underlying29 rfl aDq ?_)
  | fail)
 (with_reducible refine(g.out w2 H.out).mono ?_)
 rintro e J ⟨v3,rfl,r3,b3⟩;obtain⟨q,d,rfl,-⟩:=r3.form;obtain⟨y,ak,a1,an⟩:=aBp (l.later b3) (T.later b3) (aI H.out b3) r3;clear b3 l T H g x9 r3;go_upto_region 6 with fail
 have k:=hid (y.alloc (.cells #[.slice q 0 d,(1:Int),false] 35));have x:BlkIs (J.alloc (.cells #[.slice q 0 d,(1:Int),false] 35)) J.heap.size 35 [.slice q 0 d,(1:Int),false]:=aAo _ _ _ rfl;have a0:=hid (aI a1.out (cI (bQ _ J) (cA _) (.cells #[.slice q 0 d,(1:Int),false] 35)));obtain⟨o,t⟩:=ex_ J.heap.size;have U:=hid (show w.heap.size<o by rw[t];exact y.lt);rw[<-t]at x⊢;generalize J.alloc (.cells #[.slice q 0 d,(1:Int),false] 35)=w4 at *;have G:=hid x;clear x an y ak a1 t;have x8:=k.c8
 go_wp2_with (first
  | (refine wpList_load_mid rfl 29 (.tmp 50) rfl w.heap.size 0 rfl [(3:Int),(),(1:Int),(10:Int),(19:Int),(),()] _ (F.out _ k.out) underlying29 rfl aDq ?_)
  | (refine wpList_load_row rfl 35 (.tmp 11) rfl (o) rfl 35 #[.slice q 0 d,(1:Int),false] (0,0) _ G.out underlying35 rfl aKi ?_)
  | fail)
 (with_reducible refine(i.out (.slice q 0 d) w4 (bCm w4 q d)).mono ?_)
 rintro e w5 ⟨hrel,b5⟩;rcases hrel with⟨r',since,v',heq,rfl,hv'⟩|⟨h,-⟩
 case inr=>cases h
 simp only[cT.injEq,Prod.mk.injEq]at heq;obtain⟨rfl,rfl⟩:=heq;obtain⟨j,a,rfl,-⟩:=hv'.form;obtain⟨ai,X,au⟩:=aAw (k.later b5) (G.later b5) (aI a0.out b5);clear b5 hv' k G a0 x8 i;dsimp only[cE]
 go_wp2_with (first
  | (refine wpList_store_row rfl 35 (.tmp 11) (.tmp 57) rfl (o) #[.slice j 0 a,(1:Int),false] rfl rfl 35 _ X.out aKi rfl (by simp[bY]) ?_)
  | fail)
 obtain⟨V,S,n⟩:=aAw (X.setRow [.slice j 0 a,(1:Int),false]) (show BlkIs (w5.setRow o #[.slice j 0 a,(1:Int),false]) w.heap.size 42 [(3:Int),(),(1:Int),(10:Int),(19:Int),(),(),(),(1:Int),.slice A 1 c]from(setRow_other w5 o w.heap.size #[.slice j 0 a,(1:Int),false] (by have:=U.out;omega)).trans ai.out) (below_setRow au.out (show w.heap.size<=o by have:=U.out;omega) #[.slice j 0 a,(1:Int),false]);generalize w5.setRow o #[.slice j 0 a,.int .i64 1,.bool false]=w6 at V S n⊢;have E:=hid (fun(W:cX) (p:cZ w6 w6 W)=>n.trans (p.mono n.size));have HS:=hid (fun(W:cX) (p:cZ w6 w6 W)=>(show(fun W=>BlkIs W w 42 [(3:Int),(),(1:Int),(10:Int),(19:Int),(),(),(),(1:Int),.slice A 1 c]/\BlkIs W o 35 [.slice j 0 a,(1:Int),false]) W from⟨S.later p,V.later p⟩));have Z:cZ w6 w6 w6.drew:=Below.drew (bQ _ _);have L:=Z.size;refine aIu (.take 0 (.take 1 (.take 3 (.take 4 (.take 7 (.step 2 (.take 5 (.take 8 (.step 6 (.take 9 (.take 10 .done))))))))))) HS Z ?_
 repeat' (first
  | (refine aAd.A0 ?_ (hy:=by intro wq f;exact aAe 42 _ rfl _ rfl 42 #[(3:Int),(),(1:Int),(10:Int),(19:Int),(),(),(),(1:Int),.slice A 1 c] (0,0) _ f.1 underlying42 rfl Tryz.infoEnt))
  | (refine aAd.A0 ?_ (hy:=by intro wq f;exact aAe 35 _ rfl _ rfl 35 #[.slice j 0 a,(1:Int),false] (0,0) _ f.2 underlying35 rfl aKi))
  | refine aAd.A0 ?_|refine aAd.AG ?_|refine aAd.AS ?_|with_reducible apply aAd.step|with_reducible apply aAd.fork|with_reducible apply aAd.fork3|refine GoT.A0 ?_|refine GoT.AG ?_|refine GoT.AS ?_
  | (first
     | refine GoT.P0 ?_|refine GoT.PG ?_
     intro K R;go_simp
     first
     | (go_at_call 61;(with_reducible refine(ao.out _ (E.out _ Z)).mono ?_);rintro e wx ⟨aD,R9,aE,u1,u2,u3,u4,p0,rfl,b,bx⟩;have Q:=bx.size;replace Z:=aI Z bx;clear bx;go_wp2_with fail)
     | fail
     refine R.out _ _ ?_ (fun _=>?_)
     . exact HS.out _ Z
     clear R K;try simp only[cU,sx1,sx2,sx3]))
 obtain⟨ah,ad,P,-⟩:=aAa b.row;subst P
 repeat' (first
  | (refine aAd.A0 ?_ (hy:=by intro wq f;exact aAe 42 _ rfl _ rfl 42 #[(3:Int),(),(1:Int),(10:Int),(19:Int),(),(),(),(1:Int),.slice A 1 c] (0,0) _ f.1 underlying42 rfl Tryz.infoEnt))
  | (refine aAd.A0 ?_ (hy:=by intro wq f;exact aAe 35 _ rfl _ rfl 35 #[.slice j 0 a,(1:Int),false] (0,0) _ f.2 underlying35 rfl aKi))
  | refine aAd.A0 ?_|refine aAd.AG ?_|refine aAd.AS ?_|with_reducible apply aAd.step|with_reducible apply aAd.fork|with_reducible apply aAd.fork3|refine GoT.A0 ?_|refine GoT.AG ?_|refine GoT.AS ?_
  | (first
     | refine GoT.P0 ?_|refine GoT.PG ?_
     intro K R;go_simp
     first
     | (obtain⟨wy,Y,M,hY,by_,KY,-⟩:=Below.newb Z #[(3:Int),(),(1:Int),(10:Int),(19:Int),(),(),(),(1:Int),.slice ah 1 ad,(),.slice j 0 a,(1:Int),false,(1:Int)] 93;rw[<-M,<-hY];have al:=hid hY;replace Z:=aI Z by_;clear M hY)
     | fail
     refine R.out _ _ ?_ (fun _=>?_)
     . exact HS.out _ Z
     clear R K;try simp only[cU,sx1,sx2,sx3]))
 refine aAd.fin ?_;obtain⟨HO,ar,am,HN,ap,aq⟩:=aIl ((b.off (aDf _)).later by_) (E.out _ Z) KY (show w.heap.size<=w6.drew.heap.size from Nat.le_trans n.size L) (show wx.heap.size<=Y by rw[al.out];exact cA _) Q;clear b by_ Z KY E HS L Q;go_wp2_with fail
 refine bodyPost_ret (by simp[results,results26,go_sem];try rfl) rfl ?_;exact⟨Y,rfl,_,⟨_,_,am.out⟩,_,HN.out,_,aq.out,ap.out,HO.out,ar.out⟩
theorem aY0 (A:Option Addr) (c:Nat) (n:Int) (f:Bool) (w:cX):dA prog 28 #[.agg #[.slice A 0 c,n,f]] w fun e w'=>e= .returned (.int .i64 1)/\cZ w w w':=by
 go_enter func28,ntmps28
 go_wp2_with fail
 go_ret;exact⟨rfl,cI (bQ _ _) (cA _) _⟩
structure PutS (w:cX) (C P X I K Q Y:Nat) (rv:cY) (B N:Nat):Prop where
 c:BlkIs w C 87 [(1:Int),.slice none 0 0,.pointer (some (P,0)),.pointer (some (X,0)),.map (some I),.map (some K),(1:Int)]
 y:∃vA vc,BlkIs w Y 93 [(3:Int),(),(1:Int),(10:Int),(19:Int),(),(),(),(1:Int),rv,(1:Int),.slice vA 0 vc,(1:Int),false,(1:Int)]
 x:BlkIs w X 153 [.map (some Q),.pointer none]
 i:MapIs w I #[⟨.string prtKey,.pointer (some (Y,0)),0⟩] 1
 k:MapIs w K #[⟨.int .i64 1,.string prtKey,0⟩] 1
 q:MapIs w Q #[⟨.int .i64 1,.agg #[(3:Int),(),(1:Int),(10:Int),(19:Int),(),()],0⟩] 1
 r:Off B N w (fun W=>RgsAt W rv awS.rows [awC])
 lo:∀b∈[C,P,X,I,K,Q],b<B
 ny:N<=Y
 bn:B<=N
 nd:[C,P,X,I,K,Q].Nodup
theorem bB1 (C P X I K Q U E:Nat) (rv:cY) (w:cX) (hN:NewC w C P X I K Q U E) (hr:RgsAt w rv awS.rows [awC]) :
 dA prog 12 #[.pointer (some (C,0)),.agg #[(3:Int),(),(1:Int),(10:Int),(19:Int),(),(),(),(1:Int),rv]] w fun e w'=>e= .returned (.bool true)/\(∃Y rv' B N,PutS w' C P X I K Q Y rv' B N)/\Ch [C,P,X,I,K,Q,U,E] w w':=by
 have F:=hr.form;obtain⟨A,c,rfl,-⟩:=F;simp only[List.length_singleton]at hr⊢;have b2:=hid hN.lt;have D:=hN.nd;simp only[List.nodup_cons,bP,aW,or_false,not_or,List.nodup_nil,and_true,not_false_eq_true]at D;have a:=hid D
 have l:=hid (show C<w.heap.size/\P<w.heap.size/\X<w.heap.size/\I<w.heap.size/\K<w.heap.size/\Q<w.heap.size/\U<w.heap.size/\E<w.heap.size from
   ⟨hN.lt _ (by simp),hN.lt _ (by simp),hN.lt _ (by simp),hN.lt _ (by simp),hN.lt _ (by simp),hN.lt _ (by simp),hN.lt _ (by simp),hN.lt _ (by simp)⟩)
 clear D;obtain⟨wb,HZ,HW,HB,KE⟩:=bB6 w [(3:Int),(),(1:Int),(10:Int),(19:Int),(),(),(),(1:Int),.slice A 1 c] 42;have KN:=hid (hN.later HB.out);have ab:=hid (aPq C _ _ _ _ _ _ wb KN.c (hr.below HB.out));clear hN hr;go_enter func12,ntmps12
 go_upto_region 1 with fail
 rw[<-HW.out]
 go_wp2_with (first
  | (refine wpList_load_row rfl 42 (.tmp 3) rfl (w.heap.size) rfl 42 #[(3:Int),(),(1:Int),(10:Int),(19:Int),(),(),(),(1:Int),.slice A 1 c] (0,0) _ KE.out underlying42 rfl Tryz.infoEnt ?_)
  | fail)
 (with_reducible refine(ab.out).mono ?_)
 rintro e M ⟨Y,y,R,O,B,N,rfl,S,hB,ao,a1,v,b1⟩;obtain⟨f,ai,H,af,b⟩:=aDs (KN.later b1) (aI HB.out b1) S v (show w.heap.size<B/\N<=Y/\B<=N from⟨by have:=HZ.out;omega,a1,by omega⟩);clear S hB ao a1 v b1 KN HB ab HW KE HZ;have c4:=f.c.c4;have am:=(f.i.none_at (k:= .string prtKey) aI7 aH2 trivial (zeroValue88 _)).2;have al:=fun ty=>f.i.drew.len0 aI7 ty;go_wp2_with fail
 go_region
 go_wp2_with fail
 have aa:=hid (fun(W:cX) (h:BlkIs W Y 93 [(3:Int),(),(1:Int),(10:Int),(19:Int),(),(),(),(1:Int),y,(),.slice R 0 O,(1:Int),false,(1:Int)])=>(show W.rangeAt Y 11 [.slice R 0 O,(1:Int),false]from h.rangeAt (o:=11) (fun j u m=>by
  match j,m with
  | 0,m=>exact m
  | 1,m=>exact m
  | 2,m=>exact m
  | n+3,m=>simp at m)))
 have HS:=hid (fun(W:cX) (hc:BlkIs W C 87 [(1:Int),.slice none 0 0,.pointer (some ⟨P,0,none⟩),.pointer (some ⟨X,0,none⟩),.map (some I),.map (some K),()]) (hy:BlkIs W Y 93 [(3:Int),(),(1:Int),(10:Int),(19:Int),(),(),(),(1:Int),y,(),.slice R 0 O,(1:Int),false,(1:Int)])=>(show(fun W=>W.cell? ⟨C,2,none⟩=some (.pointer (some ⟨P,0,none⟩))/\W.cell? ⟨Y,7,none⟩=some (.int .i64 0)/\W.rangeAt Y 11 [.slice R 0 O,(1:Int),false]) W from⟨hc.cell 2,hy.cell 7,aa.out _ hy⟩));have L:=hid (fun(W:cX) (hW:cZ M M W)=>HS.out W (f.c.later hW) (H.later hW));have Z:cZ M M M.drew.drew:=Below.drew (Below.drew (bQ _ _));clear c4 am al;refine aIu (.take 0 (.take 1 (.take 2 (.take 3 (.take 4 (.take 5 (.take 6 (.take 7 (.take 8 (.take 9 (.take 10 (.take 11 (.take 12 (.take 13 (.step 14 (.step 15 (.take 16 (.take 17 (.take 18 (.take 19 (.take 20 .done))))))))))))))))))))) L Z ?_;obtain⟨wd,a0⟩:=ex_ M.drew.drew;rw[<-a0]at Z⊢;clear a0
 repeat' (first
  | (refine aAd.A0 ?_ (hy:=by intro wq an;exact aBl 35 _ rfl Y 11 rfl #[.slice R 0 O,(1:Int),false] _ an.2.2 underlying35 rfl aKi))
  | refine aAd.A0 ?_|refine aAd.AG ?_|refine aAd.AS ?_|with_reducible apply aAd.step|with_reducible apply aAd.fork|with_reducible apply aAd.fork3|refine GoT.A0 ?_|refine GoT.AG ?_|refine GoT.AS ?_
  | (first
     | refine GoT.P0 ?_|refine GoT.PG ?_
     intro K hK;go_simp
     first
     | (go_at_call 28;(with_reducible refine(aY0 R O 1 false _).mono ?_);rintro e wx ⟨rfl,bx⟩;replace Z:=aI Z bx;clear bx;go_wp2_with fail)
     | fail
     refine hK.out _ _ ?_ (fun _=>?_)
     . exact L.out _ Z
     clear hK K;try simp only[cU,sx1,sx2,sx3]))
 obtain⟨sA,sc,uc,hp⟩:=(f.later Z).p;obtain⟨d,a3,ae,ah⟩:=aBp (f.later Z) (H.later Z) (af.later Z) (aI ai.out Z);have ac:=hid (aSc P U E a.2.1.2.2.2.2.1 a.2.1.2.2.2.2.2 a.2.2.2.2.2.2 prtKey sA 1 sc uc _ _ _ (by omega) wx hp d.u d.e);clear hp Z L af H f ai;refine GoT.P0 ?_;intro K1 a2;go_simp;go_at_call 27
 (with_reducible refine(ac.out).mono ?_)
 rintro e t ⟨rfl,r⟩;obtain⟨J,a4,a8,a6,a5,G,ad,ag⟩:=aMy (d.c.ch r (by simp only[bP,aW,or_false,not_or];exact⟨a.1.1,a.1.2.2.2.2.2.1,a.1.2.2.2.2.2.2⟩)) (d.x.ch r (by simp only[bP,aW,or_false,not_or];exact⟨(fun e=>a.2.1.1 e.symm),a.2.2.1.2.2.2.1,a.2.2.1.2.2.2.2⟩)) (d.i.ch r (by simp only[bP,aW,or_false,not_or];exact⟨(fun e=>a.2.1.2.1 e.symm),a.2.2.2.1.2.2.1,a.2.2.2.1.2.2.2⟩)) (d.k.ch r (by simp only[bP,aW,or_false,not_or];exact⟨(fun e=>a.2.1.2.2.1 e.symm),a.2.2.2.2.1.2.1,a.2.2.2.2.1.2.2⟩)) (d.q.ch r (by simp only[bP,aW,or_false,not_or];exact⟨(fun e=>a.2.1.2.2.2.1 e.symm),a.2.2.2.2.2.1.1,a.2.2.2.2.2.1.2⟩)) (a3.ch r (by simp only[bP,aW,or_false,not_or];have:=l.out;have:=b.out;refine⟨?_,?_,?_⟩ <;> omega)) (ae.ch r (by intro j g;simp only[bP,aW,or_false]at g;have:=l.out;have:=b.out;rcases g with rfl|rfl|rfl <;> omega)) ((cW ah.out:Ch [C,P,X,I,K,Q,U,E] w wx).trans (r.mono (by simp)));clear r ac d a3 ae ah;go_wp2_with fail
 refine a2.out _ _ (HS.out _ J.out G.out) (fun _=>?_);clear a2 K1;try simp only[cU]
 repeat' (first
  | refine aAd.A0 ?_|refine aAd.AG ?_|refine aAd.AS ?_|with_reducible apply aAd.step|with_reducible apply aAd.fork|with_reducible apply aAd.fork3|refine GoT.A0 ?_|refine GoT.AG ?_|refine GoT.AS ?_|fail)
 refine aAd.fin ?_;clear HS aa;go_wp2_with fail
 generalize z:World.drew _=w4;have s:cZ t t w4:=by rw[<-z];exact(((bQ _ t).alloc (cA _) _).alloc (by rw[cB];omega) _).drew
 have x4:w4.cell? (t.heap.size+1,0)=some (.string prtKey):=by
  rw[<-z];have:=heap_alloc_new (t.alloc (.cells #[.string prtKey] 9)) (.cells (#[.string prtKey]++Builtin.zeroCells #[.string ⟨#[]⟩] ((Question.appendCap 1 0 9).cut (t.tape t.drawn (Question.appendCap 1 0 9))-1)) 9);rw[cB]at this
  show World.cell? ((t.alloc _).alloc _) _=_
  unfold World.cell?;dsimp only;rw[this];dsimp only;rw[Array.getElem?_append_left (by simp)];rfl
 obtain⟨a9,au,a7,ax,av,ar,az,aB⟩:=aMy (J.later s) (a4.later s) (a8.later s) (a6.later s) (a5.later s) (G.later s) (ad.later s) (ag.trans (cW s));clear s z J a4 a8 a6 a5 G ad ag;go_loopw [90] (fun iv wr=>wr=w4/\(iv= .int .i64 0\/iv= .int .i64 1)) (fun iv _=>1-(intOf iv).toNat)
 case atStart=>exact⟨rfl,.inl rfl⟩
 case round=>
  obtain⟨V,hrel⟩:=hrel;rw[V];clear V wr;rcases hrel with rfl|rfl
  . have HF:=hid (aVa C I _ _ _ _ _ _ prtKey w4 a9.out a7.out);go_wp2_with fail
    (with_reducible refine(HF.out).mono ?_)
    rintro e ak ⟨rfl,T⟩;rw[T];clear T ak;go_wp2_with fail
    simp[intOf]
  . have HR:=hid (aPn C Y I K X Q (by simp only[List.nodup_cons,bP,aW,or_false,not_or,List.nodup_nil,and_true,not_false_eq_true];exact⟨⟨(fun e=>by have:=l.out;have:=b.out;omega),a.1.2.2.1,a.1.2.2.2.1,a.1.2.1,a.1.2.2.2.2.1⟩,⟨(fun e=>by have:=l.out;have:=b.out;omega),(fun e=>by have:=l.out;have:=b.out;omega),(fun e=>by have:=l.out;have:=b.out;omega),(fun e=>by have:=l.out;have:=b.out;omega)⟩,⟨a.2.2.2.1.1,(fun e=>a.2.2.1.1 e.symm),a.2.2.2.1.2.1⟩,⟨(fun e=>a.2.2.1.2.1 e.symm),a.2.2.2.2.1.1⟩,a.2.2.1.2.2.1⟩) _ _ _ _ _ _ prtKey w4 a9.out ar.out au.out a7.out ax.out av.out);clear x4;go_wp2_with fail
    (with_reducible refine(HR.out).mono ?_)
    rintro e w5 ⟨rfl,kc,S,kx,ki,kk,kq,c5⟩
    have HE := hid (show PutS w5 C P X I K Q Y y B N from ⟨kc, ⟨_, _, S⟩, kx, ki, kk, kq, az.ch c5 (by intro j g; simp only [bP, aW, or_false] at g; have := l.out; have := b.out; rcases g with rfl | rfl | rfl | rfl | rfl | rfl <;> omega),
      (by intro j g;simp only[bP,aW,or_false]at g;have:=l.out;have:=b.out;rcases g with rfl|rfl|rfl|rfl|rfl|rfl <;> omega),b.2.1,b.2.2,(by simp only[List.nodup_cons,bP,aW,or_false,not_or,List.nodup_nil,and_true,not_false_eq_true];exact⟨⟨a.1.1,a.1.2.1,a.1.2.2.1,a.1.2.2.2.1,a.1.2.2.2.2.1⟩,⟨a.2.1.1,a.2.1.2.1,a.2.1.2.2.1,a.2.1.2.2.2.1⟩,⟨a.2.2.1.1,a.2.2.1.2.1,a.2.2.1.2.2.1⟩,⟨a.2.2.2.1.1,a.2.2.2.1.2.1⟩,a.2.2.2.2.1.1⟩)⟩)
    have aA:=hid (aB.next c5 (by intro j g;simp only[bP,aW,or_false]at g;have:=l.out;have:=b.out;rcases g with rfl|rfl|rfl|rfl|rfl|rfl <;> first|(left;simp;done)|(right;omega)));clear kc S kx ki kk kq c5 HR;go_wp2_with fail
    go_ret;exact⟨rfl,⟨_,_,_,_,HE.out⟩,aA.out⟩
theorem aYa (v fv:cY) (w:cX):dA prog 274 #[v,(),(1:Int),fv] w fun e w'=>e= .returned (.tuple #[])/\w'=w:=by
 go_enter func274,ntmps274
 go_wp2_with fail
 go_loopw [8] (fun iv wr=>wr=w/\iv= .int .i64 1) (fun _ _=>0)
 case atStart=>exact⟨rfl,rfl⟩
 case round=>
  obtain⟨a,rfl⟩:=hrel;rw[a];clear a wr;go_wp2_with fail
  go_end0
  exact⟨rfl,rfl⟩
theorem aXc (v fv:cY) (n:Int) (w:cX):dA prog 233 #[v,(),(1:Int),n,fv] w fun e w'=>e= .returned (.tuple #[])/\w'=w:=by
 have f:=hid (aYa v fv w);go_enter func233,ntmps233
 go_wp2_with fail
 go_loopw [1,2] (fun d iv wr=>wr=w/\d= .int .i64 0/\iv= .int .i64 1) (fun _ _ _=>0)
 case atStart=>exact⟨rfl,rfl,rfl⟩
 case round=>
  obtain⟨b,rfl,rfl⟩:=hrel;rw[b];clear b wr;go_wp2_with fail
  refine f.mono ?_;rintro e c ⟨rfl,a⟩;rw[a];clear a c;go_wp2_with fail
  refine bodyPost_ret (results_none rfl _ _ _) rfl ?_;exact⟨rfl,rfl⟩
theorem aTi (A:Option Addr) (c:Nat) (fv:cY) (w:cX):dA prog 196 #[.slice A 1 c,fv] w fun e w'=>e= .returned (.tuple #[])/\w'=w:=by
 have f:=hid (Tryz.bits_Len 1 w (by omega) (by omega));have d:=hid (fun n=>aXc (.slice A 1 c) fv n w);go_enter func196,ntmps196
 go_wp2_with fail
 refine f.mono ?_;rintro e b ⟨rfl,a⟩;rw[a];clear a b;go_wp2_with fail
 refine(d.out _).mono ?_;rintro e b ⟨rfl,a⟩;rw[a];clear a b;go_wp2_with fail
 go_end0
 exact⟨rfl,rfl⟩
theorem aXk (B g c:Nat) (lo hi id:Int) (w:cX) (ho:w.ownsRow B 268 4 (.slice (some (g,0)) 1 c) 1 [lo,hi,(),id]) :
 dA prog 135 #[.slice (some (g,0)) 1 c] w fun e w'=>e= .returned (.slice (some (g,0)) 1 c)/\w'.ownsRow B 268 4 (.slice (some (g,0)) 1 c) 1 [lo,hi,hi,id]/\Ch [g] w w':=by
 have f:=hid (fun d=>aTi (some ⟨g,0,none⟩) c d w);have k:w.cell? (g,1)=some (.int .i64 hi):=aAv ho 1 _ rfl;have j:w.cell? (g,2)=some (.int .i64 0):=aAv ho 2 _ rfl;have l:=ho.frozenAt 2;have h:=hid (ho.stored 2 (.int .i64 hi)).1;have i:=hid ((Ch.refl [g] w).setCell (p:=⟨g,2,none⟩) (.inl (by simp)) (.int .i64 hi));clear ho;go_enter func135,ntmps135
 go_wp2_with fail
 refine(f.out _).mono ?_;rintro e b ⟨rfl,a⟩;rw[a];clear a b;go_wp2_with fail
 go_loopw [8] (fun iv wr=>(wr=w/\iv= .int .i64 0)\/(wr=w.setCell (g,2) (.int .i64 hi)/\iv= .int .i64 1)) (fun iv _=>1-(intOf iv).toNat)
 case atStart=>exact .inl ⟨rfl,rfl⟩
 case round=>
  rcases hrel with⟨hwr,rfl⟩|⟨hwr,rfl⟩
  . rw[hwr];clear hwr wr;go_wp2_with fail
    simp[intOf]
  . rw[hwr];clear hwr wr;go_wp2_with fail
    go_ret;exact⟨rfl,h.out,i.out⟩
end
section
open Go.Proofs.Tryz
open Go Go.RowKit
open Go.Maps (Keyed)
theorem aXb:(265:TypeId)<prog.types.size:=of_decide_eq_true (by kernel_rfl)
theorem aTz:prog.keyTypeAt 3 265=true:=by kernel_rfl
theorem aI3:Keyed prog 265:=Keyed.of_law (Go.deep_law_laid aMu (m:=3) (by omega) aXb aTz (by rw[underlying265]))
def plV (t c:Int):cY:= .agg #[t,c]
theorem bCr:keyOf prog 265 (plV 0 0)=some (idL 0 0):=by kernel_rfl
theorem aNw:keyOf prog 265 (plV 0 1)=some (idL 0 1):=by kernel_rfl
theorem bCq:keyOf prog 265 (plV 0 2)=some (idL 0 2):=by kernel_rfl
theorem bCp:keyOf prog 265 (plV 0 3)=some (idL 0 3):=by kernel_rfl
theorem bFe (c:Int) (h:c≠1):plV 0 1≠plV 0 c:=fun e=>by
 unfold plV at e;injection e with e
 injection e with e
 simp at e;exact h e.symm
section
variable {P:Program} {w:cX} {b:Nat} {t K e:c7} {k v z:cY} {l:Lit}
theorem aUn (Kd:Keyed P K) (ht:P.underlying t=some (.map K e)) (hk:keyOf P K k=some l) (hb:MapIs w b #[] 0) (hz:(zeroValue e).run P w= .ok z w) :
 (Instr.mapEntry t (.map (some b)) k).run P w= .ok (.tuple #[z,()]) (Go.ChangeMaps.setBlock w b (.map #[⟨k,z,0⟩] 1)):=by
  have a:w.heap[b]? =some (.map #[] 0):=hb;rcases Kd.find w hk [] (by simp)with⟨f1,_⟩|⟨j,e0,_,f2,_⟩
  . simp[Instr.mapEntry,run_underlying ht,MapKept.run_getObj_map a,Kd.check w _ hk,f1,hz,MapKept.run_setObj_map _ a,Result.andThen,ChangeMaps.setBlock,goInt]
  . simp at f2
theorem aUm (Kd:Keyed P K) (ht:P.underlying t=some (.map K e)) (hk:keyOf P K k=some l) (hb:MapIs w b #[] 0) :
 (Instr.mapUpdate t (.map (some b)) k v).run P w= .ok () (Go.ChangeMaps.setBlock w b (.map #[⟨k,v,0⟩] 1)):=by
  have a:w.heap[b]? =some (.map #[] 0):=hb;rcases Kd.find w hk [] (by simp)with⟨f1,_⟩|⟨j,e0,_,f2,_⟩
  . simp[Instr.mapUpdate,run_underlying ht,MapKept.run_getObj_map a,Kd.check w _ hk,f1,MapKept.run_setObj_map _ a,Result.andThen,ChangeMaps.setBlock]
  . simp at f2
theorem aSl (Kd:Keyed P K) (ht:P.underlying t=some (.map K e)) (hk:keyOf P K k=some l) (hb:MapIs w b #[⟨k,v,0⟩] 1) :
 (cV t (.map (some b)) k false).run P w= .ok v w:=by
  have a:w.heap[b]? =some (.map #[⟨k,v,0⟩] 1):=hb;rcases Kd.find w hk [⟨k,v,0⟩] (by intro e c;rw[bO]at c;rw[c];exact⟨_,hk⟩)with⟨_,f2⟩|⟨j,e0,f1,f2,_⟩
  . exact absurd rfl (f2 _ (bO.2 rfl))
  . have d:j=0:=by have:=(cN.1 f2).1;simpa using this
    subst d;simp at f2;subst f2;simp[cV,run_underlying ht,MapKept.run_getObj_map a,Kd.check w _ hk,f1,Result.andThen]
theorem aSk {k':cY} {l':Lit} (Kd:Keyed P K) (ht:P.underlying t=some (.map K e)) (hk:keyOf P K k=some l) (hk':keyOf P K k'=some l') (hne:k≠k') (hb:MapIs w b #[⟨k,v,0⟩] 1) (hz:(zeroValue e).run P w= .ok z w) :
 (cV t (.map (some b)) k' false).run P w= .ok z w:=by
  have a:w.heap[b]? =some (.map #[⟨k,v,0⟩] 1):=hb;rcases Kd.find w hk' [⟨k,v,0⟩] (by intro e c;rw[bO]at c;rw[c];exact⟨_,hk⟩)with⟨f1,_⟩|⟨j,e0,_,f2,f3⟩
  . simp[cV,run_underlying ht,MapKept.run_getObj_map a,Kd.check w _ hk',f1,hz,Result.andThen]
  . have d:j=0:=by have:=(cN.1 f2).1;simpa using this
    subst d;simp at f2;subst f2;exact absurd f3 hne
end
end
section
open Go.Proofs.Tryz
open Go Go.RowKit Go.Shelf
attribute [local go_sem] Oper.semAt_some
variable {w:cX}
theorem aZy:prog.underlying 259=some (.map 265 266):=underlying259
theorem aMr:prog.underlying 260=some (.map 265 269):=underlying260
theorem aFe {r b c:Nat} {d:Bool} (h:aB0 w r b d) (hc:c≠r) (o:Obj):aB0 (Go.ChangeMaps.setBlock w c o) r b d:=by
 show(w.heap.setIfInBounds c o)[r]? =_
 rw[Array.getElem?_setIfInBounds,if_neg hc];exact h
theorem aDp {base e size n:Nat} {v:cY} {xs:List cY} (h:w.ownsRow base e size v n xs) {c:Nat} (hc:∀b,v.ownBlock=some b->b≠c) (o:Obj):(Go.ChangeMaps.setBlock w c o).ownsRow base e size v n xs:=
 aA6 (S:=fun j=>j≠c) h ⟨Nat.le_of_eq (aMd w c o).symm,fun k hk _=>by
  show(w.heap.setIfInBounds c o)[k]? =_
  rw[Array.getElem?_setIfInBounds,if_neg (Ne.symm hk)]⟩ fun b hb=>hc b hb
theorem aC4 {base e size n:Nat} {v:cY} {xs:List cY} (h:w.ownsRow base e size v n xs) {k clock:Nat} {es:Array MapEntry} (hk:v.ownBlock=some k) (hm:MapIs w k es clock):False:=by
 have a:w.heap[k]? =some (.map es clock):=hm;rcases h.2 with⟨rfl,_⟩|⟨g,cap,cur,rfl,_,hg,_⟩
 . simp[Value.ownBlock]at hk
 . obtain rfl:g=k:=by simpa[Value.ownBlock]using hk
   rw[a]at hg;cases hg
theorem aRs:(prog.info? 265).map (·.size)=some 2:=by kernel_rfl
theorem bCz:∃i,prog.info? 268=some i/\i.zero=some (.agg #[(),(),(),()])/\i.size=4/\i.bytes=32:=info_parts (by kernel_rfl)
structure ListsS (w:cX) (O S J g c B N:Nat):Prop where
 o:BlkIs w O 263 [.map (some S),.map (some J)]
 s:MapIs w S #[⟨plV 0 1,.slice (some (g,0)) 1 c,0⟩] 1
 j:MapIs w J #[] 0
 r:w.ownsRow B 268 4 (.slice (some (g,0)) 1 c) 1 [(10:Int),(19:Int),(19:Int),(1:Int)]
 lo:B<=O/\B<=S/\B<=J/\O<N/\S<N/\J<N/\g<N
theorem bA4 (X Q:Nat) (w:cX) (hX:BlkIs w X 153 [.map (some Q),.pointer none]) (hQ:MapIs w Q #[⟨.int .i64 1,.agg #[(3:Int),(),(1:Int),(10:Int),(19:Int),(),()],0⟩] 1) :
 dA prog 76 #[.pointer (some (X,0))] w fun e w'=>∃O S J g c,e= .returned (.pointer (some ⟨O,0,none⟩))/\ListsS w' O S J g c w.heap.size w'.heap.size/\BlkIs w' X 153 [.map (some Q),.pointer (some ⟨O,0,none⟩)]/\Ch [X] w w':=by
 have bU:∀(t:c7) (W:cX),(Instr.makeMap t none).run prog W= .ok (.map (some W.heap.size)) (W.alloc (.map #[] 0)):=fun _ _=>rfl;have aB:=fun W=>aTm awQ aZi W;unfold qV awQ at aB;dsimp only at aB;have bz:=hid aB;have x:=hid (show X<w.heap.size/\Q<w.heap.size from⟨hX.lt,hQ.lt⟩);have x1:=hX.c1;have KX:=hid hX;have KQ:=hid hQ;clear aB hX hQ;go_enter func76,ntmps76
 go_upto_region 5 with fail
 obtain⟨f,B⟩:=ex_ (((((w.alloc (.map #[] 0)).alloc (.map #[] 0)).alloc (.map #[] 0)).alloc (.cells #[.map (some (w.heap.size+1)),.map (some (w.heap.size+1+1))] 263)));have s1:(w.alloc (.map #[] 0)).heap.size=w.heap.size+1:=by rw[cB]
 have s2:((w.alloc (.map #[] 0)).alloc (.map #[] 0)).heap.size=w.heap.size+1+1:=by rw[cB,cB]
 have s3:(((w.alloc (.map #[] 0)).alloc (.map #[] 0)).alloc (.map #[] 0)).heap.size=w.heap.size+1+1+1:=by rw[cB,cB,cB]
 have HM:=hid (show cZ w w f by rw[B];exact((((bQ _ w).alloc (cA _) _).alloc (by omega) _).alloc (by omega) _).alloc (by omega) _);have bw:MapIs f w.heap.size #[] 0:=by rw[B];exact(((MapIs.made w).alloc _).alloc _).alloc _
 have bj:MapIs f (w.heap.size+1) #[] 0:=by rw[B];have:=MapIs.made (w.alloc (.map #[] 0));rw[s1]at this;exact(this.alloc _).alloc _
 have bt:MapIs f (w.heap.size+1+1) #[] 0:=by rw[B];have:=MapIs.made ((w.alloc (.map #[] 0)).alloc (.map #[] 0));rw[s2]at this;exact this.alloc _
 have KO:BlkIs f (w.heap.size+1+1+1) 263 [.map (some (w.heap.size+1)),.map (some (w.heap.size+1+1))]:=by rw[B];exact aAo _ _ _ s3.symm
 obtain⟨b2,aZ,b0⟩:=aAw (show f.heap.size=w.heap.size+1+1+1+1 by rw[B,cB,s3]) (KX.later HM.out) (KQ.later HM.out);rw[<-B];obtain⟨bN,aN,bJ,HO⟩:=aBp bw bj bt KO;clear B s1 s2 s3 bw bj bt KO KX KQ x1;have x0:=aZ.c0;have aT:=aHb aEs b0.out;have m:=hid (aB0.made f Q);have E:=cD f (.mapIter (some Q) 1 #[] 1);obtain⟨a0,aG,d,i,l,a4,z⟩:=aMz (aZ.later E) (b0.later E) (bN.later E) (aN.later E) (bJ.later E) (HO.later E) (aI HM.out E);clear E aZ b0 bN aN bJ HO HM bU;go_wp2_with fail
 generalize f.alloc (.mapIter (some Q) 1 #[] 1)=wi at *;clear aT x0
 go_loopw [5] (fun _ wr=>wr=wi\/(aB0 wr f.heap.size Q true/\BlkIs wr X 153 [.map (some Q),.pointer none]/\MapIs wr Q #[⟨.int .i64 1,.agg #[(3:Int),(),(1:Int),(10:Int),(19:Int),(),()],0⟩] 1/\MapIs wr (w.heap.size+1) #[] 0/\MapIs wr (w.heap.size+1+1) #[] 0/\
     BlkIs wr (w.heap.size+1+1+1) 263 [.map (some (w.heap.size+1)),.map (some (w.heap.size+1+1))]/\cZ w w wr/\∃g c,MapIs wr w.heap.size #[⟨plV 0 1,.slice (some ⟨g,0,none⟩) 1 c,0⟩] 1/\wr.ownsRow w.heap.size 268 4 (.slice (some ⟨g,0,none⟩) 1 c) 1 [(10:Int),(19:Int),(),(1:Int)])) (fun _ wr=>match wr.heap[f.heap.size]? with|some (.mapIter _ _ seen _)=>1-seen.size|_=>0)
 case atStart=>exact .inl rfl
 case round=>
  rcases hrel with hwr|hdone
  . rw[hwr];clear hwr wr;have U:=fun ty=>aI5 (P:=prog) aG.out m.out ty;have C:=aHj m.out;have V:f.heap.size≠X/\f.heap.size≠Q/\f.heap.size≠w.heap.size/\f.heap.size≠w.heap.size+1/\f.heap.size≠w.heap.size+1+1/\f.heap.size≠w.heap.size+1+1+1:=by have:=b2.out;have:=x.out;refine⟨?_,?_,?_,?_,?_,?_⟩ <;> omega
    obtain⟨an,b1,o,G,L,ad,ay,y⟩:=aMy (a0.setBlock V.1 (.mapIter (some Q) 1 #[0] 1)) (aG.setBlock V.2.1 (.mapIter (some Q) 1 #[0] 1)) (d.setBlock V.2.2.1 (.mapIter (some Q) 1 #[0] 1)) (i.setBlock V.2.2.2.1 (.mapIter (some Q) 1 #[0] 1)) (l.setBlock V.2.2.2.2.1 (.mapIter (some Q) 1 #[0] 1)) (a4.setBlock V.2.2.2.2.2 (.mapIter (some Q) 1 #[0] 1)) (z.trans ((cS wi f.heap.size (.mapIter (some Q) 1 #[0] 1)).below (by have:=b2.out;omega) z.size)) C;have aC:=aHp (P:=prog) b1.out y.out;clear C V;go_upto_region 8 with fail
    have aw:=hid (show(match wi.heap[f.heap.size]? with|some (.mapIter _ _ seen _)=>1-seen.size|_=>0)=1 by rw[m.out];rfl);generalize Go.ChangeMaps.setBlock wi f.heap.size (.mapIter (some Q) 1 #[0] 1)=wn at *;clear U aC a0 aG d i l a4 z m;have a:=cD wn (.cells #[(3:Int),(),(1:Int),(10:Int),(19:Int),(),()] 29);obtain⟨ap,am,bp,R,F,K,ac,av,ag,bG⟩:=aYm (show BlkIs (wn.alloc (.cells #[(3:Int),(),(1:Int),(10:Int),(19:Int),(),()] 29)) wn.heap.size 29 [(3:Int),(),(1:Int),(10:Int),(19:Int),(),()]from aAo _ _ _ rfl) (an.later a) (b1.later a) (o.later a) (G.later a) (L.later a) (ad.later a) (y.later a) (aI ay.out a) (show w.heap.size+1+1+1<wn.heap.size/\f.heap.size<wn.heap.size from⟨ad.lt,y.lt⟩);clear an b1 o G L ad ay y a;obtain⟨qb,bg⟩:=ex_ wn.heap.size;rw[<-bg]at ap bG⊢;generalize wn.alloc (.cells #[(3:Int),(),(1:Int),(10:Int),(19:Int),(),()] 29)=wq at *;clear bg wn
    go_wp2_with (first
     | (refine wpList_load_row rfl 29 (.tmp 6) rfl (qb) rfl 29 #[(3:Int),(),(1:Int),(10:Int),(19:Int),(),()] (0,0) _ ap.out underlying29 rfl aDq ?_)
     | fail)
    (with_reducible refine(bz.out wq).mono ?_)
    rintro e w5 ⟨rfl,b5⟩;have a:=cD w5 (.cells #[(),(1:Int)] 265);have a1:=hid (show BlkIs (w5.alloc (.cells #[(),(1:Int)] 265)) w5.heap.size 265 [(),(1:Int)]from aAo _ _ _ rfl);replace a:=aI b5 a;obtain⟨ao,ak,bn,N,n,H,a3,ae,af,cb⟩:=aYm (ap.later a) (am.later a) (bp.later a) (R.later a) (F.later a) (K.later a) (ac.later a) (av.later a) (aI ag.out a) (show qb<w5.heap.size from Nat.lt_of_lt_of_le ap.lt b5.size);clear ap am bp R F K ac av ag a b5;go_upto_region 10 with fail
    obtain⟨pb,ah⟩:=ex_ w5.heap.size;rw[<-ah]at a1 cb⊢;generalize w5.alloc (.cells #[(),(1:Int)] 265)=w6 at *;clear ah;have bo:=cD w6 (.cells #[(10:Int),(19:Int),(),(1:Int)] 268);obtain⟨aM,aF,bl,M,a7,a8,a2,au,aL,ax,br⟩:=aU3 (show BlkIs (w6.alloc (.cells #[(10:Int),(19:Int),(),(1:Int)] 268)) w6.heap.size 268 [(10:Int),(19:Int),(),(1:Int)]from aAo _ _ _ rfl) (ak.later bo) (bn.later bo) (N.later bo) (n.later bo) (H.later bo) (a3.later bo) (ae.later bo) (ao.later bo) (aI af.out bo) a1.out;have bV:=aUn aI3 aZy aNw M.out (zeroValue266 _);unfold plV at bV;obtain⟨ar,bi,bk,aR,aO,aP,bE⟩:=aMz (show w.heap.size+1+1+1<w6.heap.size/\f.heap.size<w6.heap.size/\qb<w6.heap.size/\w.heap.size+1+1+1<f.heap.size/\w.heap.size+1+1+1<qb from⟨a3.lt,ae.lt,ao.lt,by have:=b2.out;omega,bG.1⟩) (aF.setBlock (c:=w.heap.size) (by have:=x.out;omega) (.map #[⟨.agg #[(),(1:Int)],.slice none 0 0,0⟩] 1)) (bl.setBlock (c:=w.heap.size) (by have:=x.out;omega) (.map #[⟨.agg #[(),(1:Int)],.slice none 0 0,0⟩] 1)) (M.put (es':=#[⟨.agg #[(),(1:Int)],.slice none 0 0,0⟩]) (clock':=1)) (a7.setBlock (c:=w.heap.size) (by omega) (.map #[⟨.agg #[(),(1:Int)],.slice none 0 0,0⟩] 1)) (a8.setBlock (c:=w.heap.size) (by omega) (.map #[⟨.agg #[(),(1:Int)],.slice none 0 0,0⟩] 1)) (a2.setBlock (c:=w.heap.size) (by omega) (.map #[⟨.agg #[(),(1:Int)],.slice none 0 0,0⟩] 1));obtain⟨bL,aK,bu,b7⟩:=aBp (aFe au.out (c:=w.heap.size) (by have:=ar.out;omega) (.map #[⟨.agg #[(),(1:Int)],.slice none 0 0,0⟩] 1)) (aL.setBlock (c:=w.heap.size) (by have:=ar.out;omega) (.map #[⟨.agg #[(),(1:Int)],.slice none 0 0,0⟩] 1)) (aM.setBlock (c:=w.heap.size) (by have:=ar.out;omega) (.map #[⟨.agg #[(),(1:Int)],.slice none 0 0,0⟩] 1)) (ax.trans ((cS (w6.alloc (.cells #[(10:Int),(19:Int),(),(1:Int)] 268)) w.heap.size (.map #[⟨.agg #[(),(1:Int)],.slice none 0 0,0⟩] 1)).below (cA _) ax.size));have cd:=hid (fun(j:Nat) (u:cY) (hu:([(10:Int),(19:Int),(),(1:Int)]:List cY)[j]? =some u)=>(show(Go.ChangeMaps.setBlock (w6.alloc (.cells #[(10:Int),(19:Int),(),(1:Int)] 268)) w.heap.size (.map #[⟨.agg #[(),(1:Int)],.slice none 0 0,0⟩] 1)).cell? ((⟨w6.heap.size,0,none⟩:Addr).add j)=some u by rw[Addr.add_mid,Nat.zero_add];exact(bu.cell j).trans hu));obtain⟨i0,bW,bT,bS,bR⟩:=bCz;clear ak bn N n H a3 ae ao af aF bl M a7 a8 a2 au aL ax aM bo
    go_wp2_with (first
     | (refine wpList_load_row rfl 265 (.tmp 11) rfl (pb) rfl 265 #[(),(1:Int)] (0,0) _ br.out underlying265 rfl aRs ?_)
     | (at_builtin;refine wpList_append_own _ rfl _ _ 266 rfl w.heap.size 268 i0 (.agg #[(),(),(),()]) 4 32 underlying266 bW bT bS bR rfl (by decide) _ _ _ rfl (World.ownsRow_nil _ _ _ _) ⟨w6.heap.size,0,none⟩ 1 1 [(10:Int),(19:Int),(),(1:Int)] rfl rfl (cd.out) (by simp[bY]) (by unfold maxLen;omega) (by omega) b7.size ?_;intro v8 w8 q a5 _
        obtain⟨A8,c8,rfl,-,-,bc⟩:=aAa q;obtain⟨Z,rfl,-,-,-⟩:=bc (by omega);clear bc;have s:(Go.ChangeMaps.setBlock (w6.alloc (.cells #[(10:Int),(19:Int),(),(1:Int)] 268)) w.heap.size (.map #[⟨.agg #[(),(1:Int)],.slice none 0 0,0⟩] 1)).grownBy w8 none:=a5;have r:∀k,k<(Go.ChangeMaps.setBlock (w6.alloc (.cells #[(10:Int),(19:Int),(),(1:Int)] 268)) w.heap.size (.map #[⟨.agg #[(),(1:Int)],.slice none 0 0,0⟩] 1)).heap.size->w8.heap[k]? =(Go.ChangeMaps.setBlock (w6.alloc (.cells #[(10:Int),(19:Int),(),(1:Int)] 268)) w.heap.size (.map #[⟨.agg #[(),(1:Int)],.slice none 0 0,0⟩] 1)).heap[k]? :=fun k hk=>s.block k hk (by simp);have a6:MapIs w8 w.heap.size #[⟨.agg #[(),(1:Int)],.slice none 0 0,0⟩] 1:=(r _ aR.lt).trans aR.out;have cs:=aHo (P:=prog) (t:=259) (v:= .slice (some (Z,0)) 1 c8) a6;have aV:cZ w w w8:=b7.grown s b7.size (by simp);have h:∀k,w.heap.size+1<=k\/k<w.heap.size->w.heap.size≠k:=fun k hk=>by omega
        obtain⟨bZ,c2,bM,bx,bH,c9,bK⟩:=aMz (BlkIs.setBlock (show BlkIs w8 X 153 [.map (some Q),.pointer none]from(r _ bi.lt).trans bi.out) (c:=w.heap.size) (h _ (.inr x.1)) (.map #[⟨.agg #[(),(1:Int)],.slice (some (Z,0)) 1 c8,0⟩] 1)) (MapIs.setBlock (show MapIs w8 Q #[⟨.int .i64 1,.agg #[(3:Int),(),(1:Int),(10:Int),(19:Int),(),()],0⟩] 1 from(r _ bk.lt).trans bk.out) (c:=w.heap.size) (h _ (.inr x.2)) (.map #[⟨.agg #[(),(1:Int)],.slice (some (Z,0)) 1 c8,0⟩] 1)) (a6.put (es':=#[⟨.agg #[(),(1:Int)],.slice (some (Z,0)) 1 c8,0⟩]) (clock':=1)) (MapIs.setBlock (show MapIs w8 (w.heap.size+1) #[] 0 from(r _ aO.lt).trans aO.out) (c:=w.heap.size) (h _ (.inl (by omega))) (.map #[⟨.agg #[(),(1:Int)],.slice (some (Z,0)) 1 c8,0⟩] 1)) (MapIs.setBlock (show MapIs w8 (w.heap.size+1+1) #[] 0 from(r _ aP.lt).trans aP.out) (c:=w.heap.size) (h _ (.inl (by omega))) (.map #[⟨.agg #[(),(1:Int)],.slice (some (Z,0)) 1 c8,0⟩] 1)) (BlkIs.setBlock (show BlkIs w8 (w.heap.size+1+1+1) 263 [.map (some (w.heap.size+1)),.map (some (w.heap.size+1+1))]from(r _ bE.lt).trans bE.out) (c:=w.heap.size) (h _ (.inl (by omega))) (.map #[⟨.agg #[(),(1:Int)],.slice (some (Z,0)) 1 c8,0⟩] 1)) (aFe (show aB0 w8 f.heap.size Q true from(r _ bL.lt).trans bL.out) (c:=w.heap.size) (h _ (.inl (by have:=ar.out;omega))) (.map #[⟨.agg #[(),(1:Int)],.slice (some (Z,0)) 1 c8,0⟩] 1));have aJ:=BlkIs.setBlock (show BlkIs w8 qb 29 [(3:Int),(),(1:Int),(10:Int),(19:Int),(),()]from(r _ aK.lt).trans aK.out) (c:=w.heap.size) (h _ (.inl (by have:=ar.out;omega))) (.map #[⟨.agg #[(),(1:Int)],.slice (some (Z,0)) 1 c8,0⟩] 1);have x9:=aJ.c0;have bh:Z≠w.heap.size:=fun e=>aC4 q (k:=w.heap.size) (by rw[<-e];rfl) a6;have bD:=hid (aDp q (c:=w.heap.size) (fun b hb=>by have:Z=b:=cT.inj hb;subst this;exact bh) (.map #[⟨.agg #[(),(1:Int)],.slice (some (Z,0)) 1 c8,0⟩] 1));have cf:=hid (aV.trans ((cS w8 w.heap.size (.map #[⟨.agg #[(),(1:Int)],.slice (some (Z,0)) 1 c8,0⟩] 1)).below (cA _) aV.size));clear q a5 s r a6 aV aJ)
     | fail)
    generalize Go.ChangeMaps.setBlock w8 w.heap.size (.map #[⟨.agg #[(),(1:Int)],.slice (some (Z,0)) 1 c8,0⟩] 1)=w9 at *;refine⟨.inr ⟨bK.out,bZ.out,c2.out,bx.out,bH.out,c9.out,cf.out,Z,c8,bM.out,bD.out⟩,?_⟩;rw[aw.out,show w9.heap[f.heap.size]? =_ from bK.out];simp
  . obtain⟨hI,hX,hQ,hS,hJ,hO,hB,g,c,D,hR⟩:=hdone;clear a0 aG d i l a4 z m bz;obtain⟨A,bd⟩:=ex_ wr;rw[<-bd]at hI hX hQ hS hJ hO hB D hR⊢;clear bd wr;have U:=fun ty=>aI6 (P:=prog) hQ hI ty;have aT:=aHb aZy D;have m:=hid (aB0.made A w.heap.size);have E:=cD A (.mapIter (some w.heap.size) 1 #[] 1);obtain⟨a0,d,i,l,a4,z,b4,aH,aQ⟩:=bBf (hX.later E) (D.later E) (hS.later E) (hJ.later E) (hO.later E) (aI hB E) (aAb E hR) (show w.heap.size+1+1+1<A.heap.size/\g<A.heap.size/\w.heap.size<=g from⟨hO.lt,(hR.lt _ rfl).2,(hR.lt _ rfl).1⟩) (show g≠w.heap.size/\g≠w.heap.size+1/\g≠w.heap.size+1+1/\g≠w.heap.size+1+1+1 from⟨fun e=>aC4 hR (k:=w.heap.size) (by rw[<-e];rfl) D,fun e=>aC4 hR (k:=w.heap.size+1) (by rw[<-e];rfl) hS,fun e=>aC4 hR (k:=w.heap.size+1+1) (by rw[<-e];rfl) hJ,fun e=>(hO.not_row (by decide) hR) (by rw[<-e];rfl)⟩);clear E hI hX hQ hS hJ hO hB D hR;go_wp2_with fail
    generalize A.alloc (.mapIter (some w.heap.size) 1 #[] 1)=wj at *;clear aT U
    go_loopw [13] (fun _ wr=>wr=wj\/(aB0 wr A.heap.size w.heap.size true/\MapIs wr w.heap.size #[⟨plV 0 1,.slice (some (g,0)) 1 c,0⟩] 1/\BlkIs wr X 153 [.map (some Q),.pointer none]/\MapIs wr (w.heap.size+1) #[⟨plV 0 1,.slice (some (g,0)) 1 c,0⟩] 1/\MapIs wr (w.heap.size+1+1) #[] 0/\
        BlkIs wr (w.heap.size+1+1+1) 263 [.map (some (w.heap.size+1)),.map (some (w.heap.size+1+1))]/\cZ w w wr/\wr.ownsRow w.heap.size 268 4 (.slice (some (g,0)) 1 c) 1 [(10:Int),(19:Int),(19:Int),(1:Int)])) (fun _ wr=>match wr.heap[A.heap.size]? with|some (.mapIter _ _ seen _)=>1-seen.size|_=>0)
    case atStart=>exact .inl rfl
    case round=>
     rcases hrel with hwr|hdone
     . rw[hwr];clear hwr wr;have U:=fun ty=>aI5 (P:=prog) d.out m.out ty;have C:=aHj m.out;have Y:=aH.out;have T:=x.out;obtain⟨an,o,G,L,ad,ay,bC,y⟩:=aMy (a0.setBlock (c:=A.heap.size) (by omega) (.mapIter (some w.heap.size) 1 #[0] 1)) (d.setBlock (c:=A.heap.size) (by omega) (.mapIter (some w.heap.size) 1 #[0] 1)) (i.setBlock (c:=A.heap.size) (by omega) (.mapIter (some w.heap.size) 1 #[0] 1)) (l.setBlock (c:=A.heap.size) (by omega) (.mapIter (some w.heap.size) 1 #[0] 1)) (a4.setBlock (c:=A.heap.size) (by omega) (.mapIter (some w.heap.size) 1 #[0] 1)) (z.trans ((cS wj A.heap.size (.mapIter (some w.heap.size) 1 #[0] 1)).below (by omega) z.size)) (aDp b4.out (c:=A.heap.size) (fun b hb=>by have:g=b:=cT.inj hb;omega) (.mapIter (some w.heap.size) 1 #[0] 1)) C;have aC:=aHp (P:=prog) o.out y.out;have aw:=hid (show(match wj.heap[A.heap.size]? with|some (.mapIter _ _ seen _)=>1-seen.size|_=>0)=1 by rw[m.out];rfl);unfold plV at U aC;clear C Y T;go_upto_region 16 with fail
       generalize Go.ChangeMaps.setBlock wj A.heap.size (.mapIter (some w.heap.size) 1 #[0] 1)=wn at *;clear U aC a0 d i l a4 z b4 m;have a:=cD wn (.cells #[(),(1:Int)] 265);obtain⟨a1,am,R,F,K,ac,av,bB,ag,b6⟩:=aYm (show BlkIs (wn.alloc (.cells #[(),(1:Int)] 265)) wn.heap.size 265 [(),(1:Int)]from aAo _ _ _ rfl) (an.later a) (o.later a) (G.later a) (L.later a) (ad.later a) (y.later a) (aAb a bC.out) (aI ay.out a) (show A.heap.size<wn.heap.size from y.lt);clear an o G L ad ay y bC a;obtain⟨pb,ah⟩:=ex_ wn.heap.size;rw[<-ah]at a1 b6⊢;generalize wn.alloc (.cells #[(),(1:Int)] 265)=wq at *;clear ah wn;have HS:=hid (fun(W:cX) (h1:BlkIs W (w.heap.size+1+1+1) 263 [.map (some (w.heap.size+1)),.map (some (w.heap.size+1+1))]) (h2:BlkIs W pb 265 [(),(1:Int)])=>(show(fun W=>W.cell? (w.heap.size+1+1+1,0)=some (.map (some (w.heap.size+1)))/\BlkIs W pb 265 [(),(1:Int)]) W from⟨h1.cell 0,h2⟩));have bF:=hid (aXk w.heap.size g c 10 19 1 wq.drew bB.out);refine bCd (fun W=>W.cell? (w.heap.size+1+1+1,0)=some (.map (some (w.heap.size+1)))/\BlkIs W pb 265 [(),(1:Int)]) (.take 0 (.take 1 (.take 2 (.take 3 (.take 4 (.take 5 (.step 6 (.step 7 .done)))))))) (HS.out _ ac.drew a1.drew) ?_
       repeat' (first
        | (refine aAd.A0 ?_ (hy:=by intro wq bX;exact aAe 265 _ rfl _ rfl 265 #[(),(1:Int)] (0,0) _ bX.2 underlying265 rfl aRs))
        | refine aAd.A0 ?_|refine aAd.AG ?_|refine aAd.AS ?_|with_reducible apply aAd.step|with_reducible apply aAd.fork|with_reducible apply aAd.fork3|refine GoT.A0 ?_|refine GoT.AG ?_|refine GoT.AS ?_|fail)
       refine GoT.P0 ?_;intro K1 aj;go_simp;go_at_call 135
       (with_reducible refine(bF.out).mono ?_)
       rintro e w3 ⟨rfl,bf,c4⟩;have ai:=aQ.out;have Y:=aH.out;have aU:=b6.out;have T:=x.out;obtain⟨ak,N,n,H,a3,ae,aq,bA,af⟩:=bBf (am.drew.ch c4 (by rw[bO];omega)) (R.drew.ch c4 (by rw[bO];exact fun e=>ai.1 e.symm)) (F.drew.ch c4 (by rw[bO];exact fun e=>ai.2.1 e.symm)) (K.drew.ch c4 (by rw[bO];exact fun e=>ai.2.2.1 e.symm)) (ac.drew.ch c4 (by rw[bO];exact fun e=>ai.2.2.2 e.symm)) (aB0.ch (w:=wq.drew) av.out c4 (by rw[bO];omega)) (a1.drew.ch c4 (by rw[bO];omega)) bf (ag.drew.trans (c4.below (by intro k hk;rw[bO]at hk;omega) (show w.heap.size<=wq.drew.heap.size from ag.size)));clear am R F K ac av a1 bB ag bf c4 bF ai Y aU T;go_wp2_with fail
       refine aj.out _ _ (HS.out _ a3.out aq.out) (fun _=>?_);clear aj K1;try simp only[cU]
       repeat' (first
        | refine aAd.A0 ?_|refine aAd.AG ?_|refine aAd.AS ?_|with_reducible apply aAd.step|with_reducible apply aAd.fork|with_reducible apply aAd.fork3|refine GoT.A0 ?_|refine GoT.AG ?_|refine GoT.AS ?_|fail)
       have Y:=aH.out;have T:=x.out;have aU:=b6.out;have be:=aUm (v:= .slice (some (g,0)) 1 c) aI3 aMr aNw n.out;unfold plV at be;obtain⟨aF,M,a7,a8,a2,bs,au,b3,ax⟩:=bBf (ak.setBlock (c:=w.heap.size+1) (by omega) (.map #[⟨.agg #[(),(1:Int)],.slice (some (g,0)) 1 c,0⟩] 1)) (N.setBlock (c:=w.heap.size+1) (by omega) (.map #[⟨.agg #[(),(1:Int)],.slice (some (g,0)) 1 c,0⟩] 1)) (n.put (es':=#[⟨.agg #[(),(1:Int)],.slice (some (g,0)) 1 c,0⟩]) (clock':=1)) (H.setBlock (c:=w.heap.size+1) (by omega) (.map #[⟨.agg #[(),(1:Int)],.slice (some (g,0)) 1 c,0⟩] 1)) (a3.setBlock (c:=w.heap.size+1) (by omega) (.map #[⟨.agg #[(),(1:Int)],.slice (some (g,0)) 1 c,0⟩] 1)) (aq.setBlock (c:=w.heap.size+1) (by omega) (.map #[⟨.agg #[(),(1:Int)],.slice (some (g,0)) 1 c,0⟩] 1)) (aFe ae.out (c:=w.heap.size+1) (by omega) (.map #[⟨.agg #[(),(1:Int)],.slice (some (g,0)) 1 c,0⟩] 1)) (aDp bA.out (c:=w.heap.size+1) (fun b hb=>by have e:g=b:=cT.inj hb;rw[<-e];exact aQ.2.1) (.map #[⟨.agg #[(),(1:Int)],.slice (some (g,0)) 1 c,0⟩] 1)) (af.trans ((cS w3 (w.heap.size+1) (.map #[⟨.agg #[(),(1:Int)],.slice (some (g,0)) 1 c,0⟩] 1)).below (by omega) af.size));clear ak N n H a3 aq ae bA af Y T aU;refine GoT.P0 ?_;intro K1 aj;go_simp;refine aj.out _ _ (HS.out _ a2.out bs.out) (fun _=>?_);clear aj K1 be;generalize Go.ChangeMaps.setBlock w3 (w.heap.size+1) (.map #[⟨.agg #[(),(1:Int)],.slice (some (g,0)) 1 c,0⟩] 1)=w5 at *;try simp only[cU]
       refine aAd.fin ?_;refine⟨⟨_,_,_,_,_,_,_,_,_,_,_,_,_,_,.inr ⟨au.out,M.out,aF.out,a7.out,a8.out,a2.out,ax.out,b3.out⟩,rfl⟩,?_⟩;rw[aw.out,show w5.heap[A.heap.size]? =_ from au.out];simp
     . obtain⟨hI,D,hX,hS,hJ,hO,hB,hR⟩:=hdone;have U:=fun ty=>aI6 (P:=prog) D hI ty;have x1:=hX.c1;have f1:=hX.frozen 1;have T:=x.out;have Y:=aH.out;obtain⟨c5,a2,c6,cc,b3,ce,ca⟩:=aMz (hX.set 1 (.pointer (some (w.heap.size+1+1+1,0)))) (hO.other (p:=⟨X,1,none⟩) (by dsimp only;omega) (.pointer (some (w.heap.size+1+1+1,0)))) (hS.setCell (p:=⟨X,1,none⟩) (by dsimp only;omega) (.pointer (some (w.heap.size+1+1+1,0)))) (hJ.setCell (p:=⟨X,1,none⟩) (by dsimp only;omega) (.pointer (some (w.heap.size+1+1+1,0)))) (aAg hR ⟨X,1,none⟩ (.pointer (some (w.heap.size+1+1+1,0))) (fun b hb=>by have e:g=b:=cT.inj hb;dsimp only;omega)) ((cW (show cZ w w wr from hB):Ch [X] w wr).setCell (p:=⟨X,1,none⟩) (.inl (by simp)) (.pointer (some (w.heap.size+1+1+1,0)))) (show w.heap.size+1+1+1<wr.heap.size/\g<wr.heap.size from⟨hO.lt,(hR.lt _ rfl).2⟩);clear hI D hX hS hJ hO hB hR T Y a0 d i l a4 z b4 m;go_wp2_with fail
       go_ret;have aA:(wr.setCell (X,1) (.pointer (some (w.heap.size+1+1+1,0)))).heap.size=wr.heap.size:=by simp[World.setCell]
       have ct:=ca.out;exact⟨w.heap.size+1+1+1,w.heap.size+1,w.heap.size+1+1,g,c,rfl,⟨a2.out,c6.out,cc.out,b3.out,⟨by omega,by omega,by omega,by rw[aA];omega,by rw[aA];omega,by rw[aA];omega,by rw[aA];omega⟩⟩,c5.out,ce.out⟩
theorem aRw (a:Option Addr) (m c:Nat) (w:cX) :
 dA prog 202 #[.slice a m c] w fun e w'=>e= .returned (.func (.func 234) #[] #[.pointer (some (w,0))])/\w'=w.alloc (.cells #[.slice a m c] 269):=by
 go_enter func202,ntmps202
 go_wp2_with fail
 go_ret;exact⟨rfl,rfl⟩
theorem aS2 (n l B1 c:Nat) (A:Option Addr) (W:cX) (hb:W.cell? (B1,0)=some (.slice A 0 c)) :
 CallsIn Fence.wide n prog 234 #[.func (.yield l) #[] #[],.pointer (some (B1,0))] W fun e W'=>(∃v,e= .returned v)/\W'=W:=by
 refine callsIn_of_wp func234 rfl trivial ?_ rfl;simp only[ntmps234,cJ,cL,cE,cQ,cR,cF,cG,cK,cH,cO,cM]
 gi_wp2
 gi_loopw [3] (fun iv wr=>wr=W/\iv= .int .i64 (-1)) (fun _ _=>0)
 case atStart=>exact⟨rfl,rfl⟩
 case round=>
  obtain⟨a,rfl⟩:=hrel;rw[a];clear a wr
  gi_wp2
  go_end0
  exact⟨⟨_,rfl⟩,rfl⟩
theorem aVx (n:Nat) (hn:1<=n) (l B1 g c:Nat) (lo hi re id:Int) (J0 J1:cX->Prop) (W:cX) (hb:W.cell? (B1,0)=some (.slice (some (g,0)) 1 c))
 (hc0:W.cell? (g,0)=some (.int .i64 lo)) (hc1:W.cell? (g,1)=some (.int .i64 hi)) (hc2:W.cell? (g,2)=some (.int .i64 re)) (hc3:W.cell? (g,3)=some (.int .i64 id)) (h0:J0 W)
 (hY:J0 W->YieldAt Fence.wide (n-1) prog l #[.int .i64 0,.agg #[lo,hi,re,id]] W fun e W'=>e= .returned (.bool true)/\J1 W') :
 CallsIn Fence.wide n prog 234 #[.func (.yield l) #[] #[],.pointer (some (B1,0))] W fun e W'=>(∃v,e= .returned v)/\J1 W':=by
 refine callsIn_of_wp func234 rfl trivial ?_ rfl;simp only[ntmps234,cJ,cL,cE,cQ,cR,cF,cG,cK,cH,cO,cM];obtain⟨m,h,d,j,a,i⟩:=hY h0;have f:=hid i;clear i hY h0
 gi_wp2
 gi_loopw [3] (fun iv wr=>(wr=W/\iv= .int .i64 0)\/(Hid (J1 wr)/\iv= .int .i64 (-1))) (fun iv _=>(intOf iv+1).toNat)
 case atStart=>exact .inl ⟨rfl,rfl⟩
 case round=>
  rcases hrel with⟨hwr,rfl⟩|⟨hJ,rfl⟩
  . rw[hwr];clear hwr wr
    gi_wp2
    refine f.mono ?_;rintro e W' ⟨rfl,b⟩;have k:=hid b;clear b f a
    gi_wp2
    exact⟨.inr ⟨k,rfl⟩,by simp[intOf]⟩
  . clear a f hb hc0 hc1 hc2 hc3
    gi_wp2
    go_end0
    exact⟨⟨_,rfl⟩,hJ.out⟩
theorem aWv (c:Chg) (w:cX):dA prog 137 #[aD8 c] w fun e w'=>e= .returned (.func (.func 198) #[] #[.pointer (some (w,0))])/\BlkIs w' w 48 (chgCells c)/\cZ w w w':=by
 unfold aD8;go_enter func137,ntmps137
 go_wp2_with fail
 go_ret;exact⟨rfl,aAo _ _ _ rfl,cI (bQ _ _) (cA _) _⟩
def aGl:Chg:=⟨0,6,false,(0,0,0),true,(11,9,7)⟩
def bCa:Rw:=⟨0,6,(11,9,7)⟩
theorem aRt:(prog.info? 48).map (·.size)=some 10:=by kernel_rfl
theorem aWw (n:Nat) (hn:1<=n) (l B1:Nat) (SS:List Nat) (J0 J1:cX->Prop) (hbel0:∀W W',J0 W->cZ W W W'->J0 W') (hbel1:∀W W',J1 W->cZ W W W'->J1 W')
 (hY:∀W,J0 W->YieldAt Fence.wide (n-1) prog l #[rwV bCa] W fun e W'=>e= .returned (.bool true)/\J1 W'/\Ch SS W W')
 (W:cX) (hSS:∀k∈SS,k<W.heap.size) (hB1:B1∉SS) (h0:J0 W) (hb:BlkIs W B1 48 (chgCells aGl)) :
 CallsIn Fence.wide n prog 198 #[.func (.yield l) #[] #[],.pointer (some (B1,0))] W fun e W'=>(∃v,e= .returned v)/\J1 W'/\Ch SS W W':=by
 refine callsIn_of_wp func198 rfl trivial ?_ rfl;simp only[ntmps198,cJ,cL,cE,cQ,cR,cF,cG,cK,cH,cO,cM];have c:=fun W=>aOz aGl W;have d:=fun W=>aHx aGl W;unfold aD8 at c d;simp only[aGl,aD0,aB1,rw0,rwV,Bool.false_eq_true,if_false,if_true]at c d;unfold chgCells aGl at hb;dsimp only at hb;have o:=hid c;have p:=hid d;unfold rwV bCa at hY;dsimp only at hY;obtain⟨z,H,P,a,i,u,a6,a5⟩:=aMy hY hSS h0 hbel0 hbel1 hb hB1 hb.lt;clear c d hY hSS h0 hbel0 hbel1 hb hB1
 gi_wp2
 have x:=cD W (.cells #[.func (.func 195) #[] #[],.func (.func 102) #[] #[]] 182);obtain⟨D,F,G,t,a4⟩:=aDs (aAo 182 #[.func (.func 195) #[] #[],.func (.func 102) #[] #[]] _ (rfl:W.heap.size=W.heap.size)) (u.later x) (a.out W _ P.out x) (cW (S:=SS) x) (show W.heap.size∉SS from fun h=>Nat.lt_irrefl _ (H.out _ h));generalize W.alloc (.cells #[.func (.func 195) #[] #[],.func (.func 102) #[] #[]] 182)=w1 at *;clear x u P
 gi_loopw [9] (fun iv wr=>(wr=w1/\iv= .int .i64 0)\/(iv= .int .i64 1/\Hid (J0 wr/\BlkIs wr W 182 [.func (.func 195) #[] #[],.func (.func 102) #[] #[]]/\BlkIs wr B1 48 [(),(6:Int),false,(),(),(),true,(11:Int),(9:Int),(7:Int)]/\Ch SS W wr))\/(iv= .int .i64 2/\Hid (J1 wr/\Ch SS W wr))) (fun iv _=>(2-intOf iv).toNat)
 case atStart=>exact .inl ⟨rfl,rfl⟩
 case round=>
  rcases hrel with⟨hwr,rfl⟩|⟨rfl,hJ⟩|⟨rfl,hJ⟩
  . rw[hwr];clear hwr wr;have Q:=D.c0;obtain⟨b0,b1,j,Z,Y,X,V,U,T,R⟩:=F.C10
    gi_wp2
    refine⟨trivial,?_⟩;refine(callsIn_wide.2 (o.out w1)).mono ?_;rintro e C ⟨rfl,j⟩;have b:=cD C (.cells #[(),(),(),(),()] 116);replace b:=aI j b;obtain⟨J3,m,E,g⟩:=aBp (a.out _ _ G.out b) (D.later b) (F.later b) (t.trans (.of_below b));clear o p z a i b j
    gi_wp2
    refine⟨(by intro f h;cases h),?_⟩
    gi_wp2
    exact⟨.inr (.inl ⟨rfl,hid ⟨J3.out,m.out,E.out,g.out⟩⟩),by simp[intOf]⟩
  . obtain⟨q,B,M,L⟩:=hJ.out;have Q:=B.c1;obtain⟨b0,b1,j,Z,Y,X,V,U,T,R⟩:=M.C10
    gi_wp2
    refine⟨trivial,?_⟩;refine(callsIn_wide.2 (p.out wr)).mono ?_;rintro e C ⟨rfl,j⟩;have b:=cD C (.cells #[(),(6:Int),(11:Int),(9:Int),(7:Int)] 116);replace b:=aI j b;obtain⟨fn,J,y,N,A,K⟩:=z.out _ (a.out _ _ q b);obtain⟨O,m,g⟩:=aAw K (B.later b) (L.trans (.of_below (S:=SS) b));clear K o p z a i j
    gi_wp2
    refine O.mono ?_;rintro e W' ⟨rfl,r,s⟩;have HJ:=hid (show J1 W'/\Ch SS W W' from⟨r,g.trans s⟩);clear r s g O A m hJ q B M L b
    gi_wp2
    exact⟨.inr (.inr ⟨rfl,HJ⟩),by simp[intOf]⟩
  . clear z D F t
    gi_wp2
    go_end0
    exact⟨⟨_,rfl⟩,hJ.out⟩
variable {w:cX}
theorem Ch.putObj {S:List Nat} {a:cX} (h:Ch S a w) {b:Nat} (hb:b∈S\/a.heap.size<=b) (o:Obj):Ch S a (w.putObj b o):=
 ⟨h.os,h.tape,h.output,Nat.le_trans h.size (Nat.le_of_eq World.putObj_size.symm),fun k hk hn=>by
  have hne:k≠b:=fun e=>by subst e;rcases hb with h1|h1;exact hn h1;omega
  exact(cP hne).trans (h.block k hk hn)⟩
def Has (l:List (Nat×Obj)) (W:cX):Prop:=∀p∈l,W.heap[p.1]? =some p.2
theorem Has.ch {l:List (Nat×Obj)} {S:List Nat} {w':cX} (h:Has l w) (hs:Ch S w w') (hn:∀p∈l,p.1∉S):Has l w':=fun p hp=>(hs.block p.1 (aAc (h p hp)) (hn p hp)).trans (h p hp)
theorem Has.below {l:List (Nat×Obj)} {w':cX} (h:Has l w) (hb:cZ w w w'):Has l w':=h.ch (S:=[]) (.of_below hb) (by simp)
theorem Has.putObj {l:List (Nat×Obj)} (h:Has l w) {b:Nat} (hb:∀p∈l,p.1≠b) (o:Obj):Has l (w.putObj b o):=fun p hp=>(cP (hb p hp)).trans (h p hp)
structure Yld (N l:Nat) (args:Array cY) (SS:List Nat) (J0 J1:cX->Prop):Prop where
 ss:∀k∈SS,k<N
 b0:∀W W',J0 W->cZ N W W'->J0 W'
 b1:∀W W',J1 W->cZ N W W'->J1 W'
 n0:∀W,J0 W->N<=W.heap.size
 n1:∀W,J1 W->N<=W.heap.size
 y:∀m W,J0 W->YieldAt Fence.wide m prog l args W fun e W'=>e= .returned (.bool true)/\J1 W'/\Ch SS W W'
theorem aNn {n m L l:Nat} {P:Program} {f:FuncId} {tmps:Array cY} {assign body:Code} {W:cX} {R:Ending->cX->Prop} (h:RoundIn Fence.wide n P l f tmps assign body W R):RoundIn (Fence.wide.inRound L) m P l f tmps assign body W R:=
 ⟨trivial,fun c cs _=>h.2 c cs (room_wide _)⟩
theorem aY6 (w:cX):dA prog 201 #[.agg #[(10:Int),(19:Int),(19:Int),(1:Int)],.int .i64 12] w fun e w'=>e= .returned (.int .i64 (-1))/\cZ w w w':=by
 have a:=fun W=>Tryz.cmp_Compare_int 10 12 W;have b:Lib.compareInt 10 12= -1:=by decide
 rw[b]at a;go_enter func201,ntmps201
 go_wp2_with fail
 refine(a _).mono ?_;rintro e c ⟨rfl,rfl⟩;go_wp2_with fail
 go_ret;exact⟨rfl,cI (bQ _ _) (cA _) _⟩
theorem bB5 (c:Nat) (v:Int) (fv:cY) (w:cX):dA prog 200 #[.slice none 0 c,v,fv] w fun e w'=>e= .returned (.tuple #[(),false])/\cZ w w w':=by
 go_enter func200,ntmps200
 go_wp2_with fail
 go_loopw [9,10] (fun i j wr=>wr=w/\i= .int .i64 0/\j= .int .i64 0) (fun _ _ _=>0)
 case atStart=>exact⟨rfl,rfl,rfl⟩
 case round=>
  obtain⟨a,rfl,rfl⟩:=hrel;rw[a];clear a wr;go_wp2_with fail
  go_ret2
  exact⟨rfl,bQ _ _⟩
theorem bB4 (g c:Nat) (w:cX) (c0:w.cell? (g,0)=some (.int .i64 10)) (c1:w.cell? (g,1)=some (.int .i64 19)) (c2:w.cell? (g,2)=some (.int .i64 19)) (c3:w.cell? (g,3)=some (.int .i64 1)) :
 dA prog 200 #[.slice (some (g,0)) 1 c,.int .i64 12,.func (.func 201) #[] #[]] w fun e w'=>e= .returned (.tuple #[(1:Int),false])/\cZ w w w':=by
 go_enter func200,ntmps200
 go_wp2_with fail
 go_loopw [9,10] (fun i j wr=>Hid (cZ w w wr)/\((wr=w/\i= .int .i64 0)\/i= .int .i64 1)/\j= .int .i64 1) (fun i _ _=>(1-intOf i).toNat)
 case atStart=>exact⟨hid (bQ _ _),.inl ⟨rfl,rfl⟩,rfl⟩
 case round=>
  obtain⟨a,b,rfl⟩:=hrel;rcases b with⟨hwr,rfl⟩|rfl
  . rw[hwr];clear hwr a wr;go_wp2_with fail
    refine(aY6 _).mono ?_;rintro e f ⟨rfl,d⟩;go_wp2_with fail
    exact⟨⟨hid d,.inr rfl,rfl⟩,by simp[intOf]⟩
  . go_wp2_with fail
    go_ret2
    exact⟨rfl,a.out⟩
variable {N L:Nat} {SS:List Nat} {W0 W:cX} {rec:Loop} {J:cX->Prop}
structure RJ (SS:List Nat) (W0:cX) (rec:Loop) (L:Nat) (fx:List (Nat×Obj)) (J:cX->Prop) (W:cX):Prop where
 j:J W
 l:W.heap[L]? =some (.loop rec)
 f:Has fx W
 c:Ch SS W0 W
structure RF (N:Nat) (SS:List Nat) (W0:cX) (L:Nat) (fx:List (Nat×Obj)):Prop where
 ss:∀k∈SS,k<N
 hl:N<=L
 hw:W0.heap.size<=L
 hf:∀p∈fx,p.1∉SS/\p.1≠L
theorem RJ.below {W':cX} {fx:List (Nat×Obj)} (h:RJ SS W0 rec L fx J W) (hJ:∀W W',J W->cZ N W W'->J W') (hn:N<=W.heap.size) (hb:cZ W W W'):RJ SS W0 rec L fx J W':=
 ⟨hJ _ _ h.j (hb.mono hn),(hb.block L (aAc h.l)).trans h.l,h.f.below hb,h.c.trans (.of_below hb)⟩
theorem RJ.put {rec':Loop} {fx:List (Nat×Obj)} (h:RJ SS W0 rec L fx J W) (hJ:∀W W',J W->cZ N W W'->J W') (hn:N<=W.heap.size) (F:RF N SS W0 L fx):RJ SS W0 rec' L fx J (W.putObj L (.loop rec')):=
 ⟨hJ _ _ h.j (aAm (bQ _ _) _ F.hl hn),World.putObj_heap_same (aAc h.l),h.f.putObj (fun p hp=>(F.hf p hp).2) _,h.c.putObj (.inr F.hw) _⟩
theorem RJ.step {W':cX} {fx:List (Nat×Obj)} {J':cX->Prop} (h:RJ SS W0 rec L fx J W) (F:RF N SS W0 L fx) (hj:J' W') (hc:Ch SS W W'):RJ SS W0 rec L fx J' W':=
 ⟨hj,(hc.block L (aAc h.l) fun hk=>Nat.lt_irrefl _ (Nat.lt_of_lt_of_le (F.ss _ hk) F.hl)).trans h.l,h.f.ch hc fun p hp hk=>(F.hf p hp).1 hk,h.c.trans hc⟩
theorem aHs (a:Option Addr) (m c:Nat) (k:Int) (w:cX):dA prog 138 #[.slice a m c,k] w fun e w'=>e= .returned (.func (.func 199) #[] #[.pointer (some (w,0)),.pointer (some (w.heap.size+1,0))])/\BlkIs w' w 269 [.slice a m c]/\BlkIs w' (w.heap.size+1) 3 [k]/\cZ w w w':=by
 go_enter func138,ntmps138
 go_wp2_with fail
 go_ret;have b:(w.alloc (.cells #[.slice a m c] 269)).heap.size=w.heap.size+1:=by rw[cB]
 refine⟨?_,?_,?_,?_⟩
 . first|rfl|simp
 . exact(aAo _ #[.slice a m c] [.slice a m c] rfl).later (cI (bQ _ _) (cA _) _)
 . exact aAo _ #[k] [k] b.symm
 . exact(cI (bQ _ w) (cA _) _).alloc (by omega) _
theorem aOw (n:Nat) (hn:3<=n) (l b1 b2:Nat) (k:Int) (W:cX) (h1:BlkIs W b1 269 [.slice none 0 0]) (h2:BlkIs W b2 3 [k]) :
 CallsIn Fence.wide n prog 199 #[.func (.yield l) #[] #[],.pointer (some (b1,0)),.pointer (some (b2,0))] W fun e W'=>(∃v,e= .returned v)/\cZ W W W':=by
 have X:1<=n:=by omega
 refine callsIn_of_wp_marks func199 rfl trivial ?_ rfl;simp only[ntmps199,cJ,cL,cE,cQ,cR,cF,cG,cK,cH,cO,cM];have p:=hid h1;have C:=hid h2;skip
 clear h1 h2
 gi_upto_region 1 with fail
 have s:=cD W (.cells #[.func (.yield l) #[] #[]] 78);have R:=hid (show BlkIs (W.alloc (.cells #[.func (.yield l) #[] #[]] 78)) W.heap.size 78 [.func (.yield l) #[] #[]]from aAo _ _ _ rfl);have Q:=(p.later s).cell 0;have P:=(C.later s).cell 0;dsimp only[cC]at Q P;have F:=hid s;clear s;generalize W.alloc (.cells #[.func (.yield l) #[] #[]] 78)=w1 at *
 gi_wp2
 refine⟨trivial,?_⟩;refine(callsIn_wide.2 (bB5 0 _ _ _)).mono ?_;rintro e b ⟨rfl,b2⟩;have O:=((p.later F.out).later b2).cell 0;dsimp only[cC]at O;have J:=hid (aI F.out b2);have o:=hid (R.later b2);clear b2 Q P F R
 gi_wp2
 refine⟨trivial,?_⟩;refine(callsIn_wide.2 (aRw none 0 0 b)).mono ?_;rintro e d ⟨rfl,i⟩;have r:=cD b (.cells #[.slice none 0 0] 269);obtain⟨B,G,g⟩:=aAw (show BlkIs (b.alloc (.cells #[.slice none 0 0] 269)) b.heap.size 269 [.slice none 0 0]from aAo _ _ _ rfl) (aI J.out r) (o.later r);have x:=b.size_alloc (.cells #[.slice none 0 0] 269);rw[<-i]at r B G g x;have H:=hid J.size;clear r i O J o
 gi_wp2
 refine aBe rfl (by omega) (gf:=234) (lb:=#[.pointer (some (b,0))]) rfl trivial (enters_of func234 (by kernel_rfl) rfl) ?_;intro Z Y a D L z f q K c;have N:=d.size_alloc (.deferred (some []));have m:=((bQ d.heap.size d).alloc (cA _) (.deferred (some []))).alloc (by omega) (.loop (a .ready none));rw[<-c]at m
 have V:z.heap[D]? =some (.deferred (some [])):=by
  rw[c,q];exact(Below.heap_alloc _ _ _ (by omega)).trans (heap_alloc_new d _)
 have U:z.heap[L]? =some (.loop (a .ready none)):=by
  have:=heap_alloc_new (d.alloc (.deferred (some []))) (.loop (a .ready none));rw[N]at this;rw[c,K,q];exact this
 have T:=hid (aI G.out m);have M:=(B.later m).cell 0;dsimp only[cC]at M;obtain⟨A,E,S⟩:=aAw (g.later m) (show D=d.heap.size/\L=d.heap.size+1/\d.heap.size=b.heap.size+1/\W.heap.size<=b.heap.size from⟨q,by omega,x,H.out⟩) f;clear x N q K f A B G g c m;refine(aS2 (n-1) L b.heap.size 0 none z M).mono ?_;rintro e y ⟨⟨v,rfl⟩,rfl⟩;refine⟨⟨v,rfl⟩,.ready,none,(fun h=>by cases h),U,?_⟩;have t:(y.putObj L (.loop (a .exhausted none))).heap[D]? =some (.deferred (some [])):=(cP (by have:=E.out;omega)).trans V;have j:=hid (show cZ W W (y.putObj L (.loop (a .exhausted none)))from aAm T.out _ (by have:=E.out;omega) T.size);generalize y.putObj L (.loop (a .exhausted none))=W4 at *;simp only[aH6]
 gi_wp2
 refine⟨by simp,.inl ⟨_,_,rfl,run_takeDeferred t,?_⟩⟩;have u:cZ W W (W4.putObj D (.deferred none)):=aAm j.out _ (by have:=E.out;omega) j.size;generalize W4.putObj D (.deferred none)=W6 at *;refine⟨_,by simp[results,results199,go_sem];try rfl,?_⟩;exact⟨⟨_,rfl⟩,u⟩
theorem aQi (n:Nat) (hn:3<=n) (N l b1 b2 g c:Nat) (SS:List Nat) (J0 J1:cX->Prop) (Y:Yld N l #[(1:Int)] SS J0 J1) (W:cX) (h0:J0 W) (h1:BlkIs W b1 269 [.slice (some (g,0)) 1 c]) (h2:BlkIs W b2 3 [(11:Int)]) (hb2:b2∉SS) (hc1:1<=c)
 (hg:g<W.heap.size) (c0:W.cell? (g,0)=some (.int .i64 10)) (c1:W.cell? (g,1)=some (.int .i64 19)) (c2:W.cell? (g,2)=some (.int .i64 19)) (c3:W.cell? (g,3)=some (.int .i64 1)) :
 CallsIn Fence.wide n prog 199 #[.func (.yield l) #[] #[],.pointer (some (b1,0)),.pointer (some (b2,0))] W fun e W'=>(∃v,e= .returned v)/\J1 W'/\Ch SS W W':=by
 have aT:1<=n:=by omega
 refine callsIn_of_wp_marks func199 rfl trivial ?_ rfl;simp only[ntmps199,cJ,cL,cE,cQ,cR,cF,cG,cK,cH,cO,cM];obtain⟨X,H,V,CC,HG,b,H0,ax⟩:=aMy h1 h2 (fun(w:cX) (hb:cZ W W w)=>bB4 g c w ((hb.cell (p:=⟨g,0,none⟩) hg).trans c0) ((hb.cell (p:=⟨g,1,none⟩) hg).trans c1) ((hb.cell (p:=⟨g,2,none⟩) hg).trans c2) ((hb.cell (p:=⟨g,3,none⟩) hg).trans c3)) (And.intro c0 (And.intro c1 (And.intro c2 c3))) hg Y h0 hb2;clear c0 c1 c2 c3 hg Y h0 hb2;clear h1 h2
 gi_upto_region 1 with fail
 have bA:=cD W (.cells #[.func (.yield l) #[] #[]] 78);have KY:=hid (show BlkIs (W.alloc (.cells #[.func (.yield l) #[] #[]] 78)) W.heap.size 78 [.func (.yield l) #[] #[]]from aAo _ _ _ rfl);have a1:=(X.later bA).cell 0;have a2:=(H.later bA).cell 0;dsimp only[cC]at a1 a2;have HA:=hid bA;clear bA;generalize W.alloc (.cells #[.func (.yield l) #[] #[]] 78)=w1 at *
 gi_wp2
 refine⟨trivial,?_⟩;refine(callsIn_wide.2 (V.out _ HA.out)).mono ?_;rintro e k ⟨rfl,b2⟩;have a3:=((X.later HA.out).later b2).cell 0;dsimp only[cC]at a3;have H2:=hid (aI HA.out b2);have U:=hid (KY.later b2);clear b2 a1 a2 HA KY
 gi_wp2
 refine⟨trivial,?_⟩;refine(callsIn_wide.2 (aRw (some ⟨g,0,none⟩) 1 c k)).mono ?_;rintro e x ⟨rfl,K⟩;have bB:=cD k (.cells #[.slice (some (g,0)) 1 c] 269);obtain⟨KB,H3,G⟩:=aAw (show BlkIs (k.alloc (.cells #[.slice (some (g,0)) 1 c] 269)) k.heap.size 269 [.slice (some (g,0)) 1 c]from aAo _ _ _ rfl) (aI H2.out bB) (U.later bB);have h4:=k.size_alloc (.cells #[.slice (some (g,0)) 1 c] 269);rw[<-K]at bB KB H3 G h4;have az:=hid H2.size;clear bB K a3 H2 U
 gi_wp2
 refine aBe rfl (by omega) (gf:=234) (lb:=#[.pointer (some (k,0))]) rfl trivial (enters_of func234 (by kernel_rfl) rfl) ?_;intro fn ai a D L d z hD hL m;have h5:=x.size_alloc (.deferred (some []));have R:=((bQ x.heap.size x).alloc (cA _) (.deferred (some []))).alloc (by omega) (.loop (a .ready none));rw[<-m]at R
 have lD:d.heap[D]? =some (.deferred (some [])):=by
  rw[m,hD];exact(Below.heap_alloc _ _ _ (by omega)).trans (heap_alloc_new x _)
 have lL:d.heap[L]? =some (.loop (a .ready none)):=by
  have:=heap_alloc_new (x.alloc (.deferred (some []))) (.loop (a .ready none));rw[h5]at this;rw[m,hL,hD];exact this
 have H4:=hid (aI H3.out R);have hB:=(KB.later R).cell 0;dsimp only[cC]at hB;obtain⟨T,HD,B⟩:=aAw (G.later R) (show D=x.heap.size/\L=x.heap.size+1/\x.heap.size=k.heap.size+1/\W.heap.size<=k.heap.size from⟨hD,by omega,h4,az.out⟩) z;have bN:N<=W.heap.size:=b.n0 _ H0.out;have Q:∀(i:Nat) (u:cY),W.cell? (g,i)=some u->d.cell? (g,i)=some u:=fun i u hu=>(H4.cell (p:=⟨g,i,none⟩) HG.out).trans hu;have d0:=Q 0 _ CC.1;have d1:=Q 1 _ CC.2.1;have d2:=Q 2 _ CC.2.2.1;have d3:=Q 3 _ CC.2.2.2
 have F:RF N SS W L [(D,.deferred (some [])),(W.heap.size,.cells #[.func (.yield l) #[] #[]] 78 (0,0)),(b2,.cells #[(11:Int)] 3 (0,0))]:=by
  have hh:=HD.out;have aU:=H.lt;refine⟨b.ss,by omega,by omega,?_⟩;intro p M;simp only[bP,aW,or_false]at M;rcases M with rfl|rfl|rfl
  . exact⟨fun h=>(by have:=b.ss _ h;dsimp only at this;omega),by dsimp only;omega⟩
  . exact⟨fun h=>(by have:=b.ss _ h;dsimp only at this;omega),by dsimp only;omega⟩
  . exact⟨ax.out,by dsimp only;omega⟩
 have j0:RJ SS W (a .ready none) L [(D,.deferred (some [])),(W.heap.size,.cells #[.func (.yield l) #[] #[]] 78 (0,0)),(b2,.cells #[(11:Int)] 3 (0,0))] J0 d:=by
  refine⟨b.b0 _ _ H0.out (H4.mono bN),lL,?_,.of_below H4.out⟩;intro p M;simp only[bP,aW,or_false]at M;rcases M with rfl|rfl|rfl
  . exact lD
  . exact T.out
  . exact(H.later H4.out)
 have Z:=hid F;have aw:=hid bN;obtain⟨fx,C⟩:∃fx:List (Nat×Obj),fx=[(D,.deferred (some [])),(W.heap.size,.cells #[.func (.yield l) #[] #[]] 78 (0,0)),(b2,.cells #[(11:Int)] 3 (0,0))]:=⟨_,rfl⟩;rw[<-C]at j0 Z;have J:=hid C;clear h4 h5 hD hL z T KB H3 G m R Q F bN C;refine(aVx (n-1) (by omega) L k.heap.size g c 10 19 19 1 (RJ SS W (a .ready none) L fx J0) (RJ SS W (a .ready none) L fx J1) d hB d0 d1 d2 d3 j0 ?hY).mono ?hend
 case hY=>
  intro A;clear lD lL hB d0 d1 d2 d3 j0;refine aCr ai B.out A.l rfl ?_;simp only[List.zip_toArray,List.zip_cons_cons,List.zip_nil_right,List.foldl_toArray',List.foldl_cons,List.foldl_nil,List.setIfInBounds_toArray,List.set];have s:=hid A;clear A
  gi_wp2
  have bI:=cD d (.cells #[(10:Int),(19:Int),(19:Int),(1:Int)] 268);have KI:=(show BlkIs (d.alloc (.cells #[(10:Int),(19:Int),(19:Int),(1:Int)] 268)) d.heap.size 268 [(10:Int),(19:Int),(19:Int),(1:Int)]from aAo _ _ _ rfl);have o:=s.below b.b0 (b.n0 _ s.j) bI;have aj:=aAc s.l;generalize d.alloc (.cells #[(10:Int),(19:Int),(19:Int),(1:Int)] 268)=Wi at *;refine⟨o.l,?_⟩;have q:=hid (o.put (rec':=a .busy none) b.b0 (b.n0 _ o.j) Z.out);have t:=KI.put (.loop (a .busy none)) (L:=L) (by omega);clear s o KI bI;generalize d.heap.size=ib at *;generalize Wi.putObj L (.loop (a .busy none))=Wb at *;have i1:=t.cell 1;have i2:=t.cell 2;have i3:=t.cell 3;have y0:=BlkIs.cell (show BlkIs Wb W 78 [.func (.yield l) #[] #[]]from q.f (W.heap.size,.cells #[.func (.yield l) #[] #[]] 78 (0,0)) (by rw[J.out];exact .tail _ (.head _))) 0;have v0:=BlkIs.cell (show BlkIs Wb b2 3 [(11:Int)]from q.f (b2,.cells #[(11:Int)] 3 (0,0)) (by rw[J.out];exact .tail _ (.tail _ (.head _)))) 0;dsimp only[cC,List.getElem?_cons_succ]at i1 i2 i3 y0 v0;obtain⟨aV,ad,S,aq,ag,hR⟩:=b.y 0 Wb q.j;have HR:=hid hR;clear hR t aj
  gi_wp2
  refine⟨fun _=>by omega,(aNn (L:=L) HR.out).mono ?_⟩;rintro e W' ⟨rfl,O,P⟩;have E:=hid (q.step Z.out O P);clear HR ag O P i1 i2 i3 y0 v0
  gi_wp2
  exact aA2 B.out E.l ⟨rfl,E.put b.b1 (b.n1 _ E.j) Z.out⟩
 case hend=>
  rintro e W2 ⟨⟨v,rfl⟩,A⟩;refine⟨⟨v,rfl⟩,.ready,none,(fun h=>by cases h),A.l,?_⟩;have r:=hid (A.put (rec':=a .exhausted none) b.b1 (b.n1 _ A.j) Z.out);clear lD lL hB d0 d1 d2 d3 j0 A;generalize W2.putObj L (.loop (a .exhausted none))=W4 at *;have ah:W4.heap[D]? =some (.deferred (some [])):=r.f (D,.deferred (some [])) (by rw[J.out];exact .head _);simp only[aH6]
  gi_wp2
  refine⟨by simp,.inl ⟨_,_,rfl,run_takeDeferred ah,?_⟩⟩;have j5:J1 (W4.putObj D (.deferred none)):=b.b1 _ _ r.j (aAm (bQ _ _) _ (by have:=HD.out;have:=aw.out;omega) (b.n1 _ r.j));have c5:Ch SS W (W4.putObj D (.deferred none)):=r.c.putObj (.inr (by have:=HD.out;omega)) _;generalize W4.putObj D (.deferred none)=W6 at *;refine⟨_,by simp[results,results199,go_sem];try rfl,?_⟩;exact⟨⟨_,rfl⟩,j5,c5⟩
variable {SS:List Nat} {W:cX} {bC bL O S J g c:Nat}
theorem bD0 (c:Nat) (h:c<4):∃l,keyOf prog 265 (plV 0 c)=some l:=by
 have a:c=0\/c=1\/c=2\/c=3:=by omega
 rcases a with rfl|rfl|rfl|rfl
 . exact⟨_,bCr⟩
 . exact⟨_,aNw⟩
 . exact⟨_,bCq⟩
 . exact⟨_,bCp⟩
theorem bAw (O:Nat) (w:cX):dA prog 77 #[.pointer (some (O,0)),aD8 aGl] w fun e w'=>e= .returned (.func (.func 136) #[] #[.pointer (some (w.heap.size+1,0)),.pointer (some (w,0))])/\BlkIs w' w 151 [.pointer (some (O,0))]/\BlkIs w' (w.heap.size+1) 48 [(),(6:Int),false,(),(),(),true,(11:Int),(9:Int),(7:Int)]/\cZ w w w':=by
 unfold aD8 aGl;dsimp only;go_enter func77,ntmps77
 go_wp2_with fail
 go_ret;have a:(w.alloc (.cells #[.pointer (some (O,0))] 151)).heap.size=w.heap.size+1:=by rw[cB]
 refine⟨?_,?_,?_,?_⟩
 . first|rfl|simp
 . exact(aAo _ #[.pointer (some (O,0))] _ rfl).later (cI (bQ _ _) (cA _) _)
 . exact aAo _ #[(),(6:Int),false,(),(),(),true,(11:Int),(9:Int),(7:Int)] _ a.symm
 . exact(cI (bQ _ w) (cA _) _).alloc (by omega) _
structure NearS (SS:List Nat) (W:cX) (bC bL O S J g c:Nat) (og:Obj):Prop where
 kc:BlkIs W bC 48 [(),(6:Int),false,(),(),(),true,(11:Int),(9:Int),(7:Int)]
 kl:BlkIs W bL 151 [.pointer (some (O,0))]
 ko:BlkIs W O 263 [.map (some S),.map (some J)]
 ks:MapIs W S #[⟨plV 0 1,.slice (some (g,0)) 1 c,0⟩] 1
 kj:MapIs W J #[] 0
 kg:W.heap[g]? =some og
 c0:W.cell? (g,0)=some (.int .i64 10)
 c1:W.cell? (g,1)=some (.int .i64 19)
 c2:W.cell? (g,2)=some (.int .i64 19)
 c3:W.cell? (g,3)=some (.int .i64 1)
 ns:bC∉SS/\bL∉SS/\O∉SS/\S∉SS/\J∉SS/\g∉SS
theorem NearS.ch {W':cX} {og:Obj} (h:NearS SS W bC bL O S J g c og) (hc:Ch SS W W'):NearS SS W' bC bL O S J g c og:=by
 have b:=(hc.block g (aAc h.kg) h.ns.2.2.2.2.2).trans h.kg
 have a:∀(i:Nat) (u:cY),W.cell? (g,i)=some u->W'.cell? (g,i)=some u:=fun i u d=>by
  rw[<-d];unfold World.cell?;dsimp only;rw[b,h.kg]
 exact⟨h.kc.ch hc h.ns.1,h.kl.ch hc h.ns.2.1,h.ko.ch hc h.ns.2.2.1,h.ks.ch hc h.ns.2.2.2.1,h.kj.ch hc h.ns.2.2.2.2.1,b,a _ _ h.c0,a _ _ h.c1,a _ _ h.c2,a _ _ h.c3,h.ns⟩
theorem NearS.below {W':cX} {og:Obj} (h:NearS SS W bC bL O S J g c og) (hb:cZ W W W'):NearS SS W' bC bL O S J g c og:=h.ch (.of_below hb)
theorem NearS.lt {og:Obj} (h:NearS SS W bC bL O S J g c og):bC<W.heap.size/\bL<W.heap.size/\O<W.heap.size/\S<W.heap.size/\J<W.heap.size/\g<W.heap.size:=
 ⟨h.kc.lt,h.kl.lt,h.ko.lt,h.ks.lt,h.kj.lt,aAc h.kg⟩
end
end Go.Proofs.YtmhpfoicloojcaaGreatDoor
