/- Walks: the cache, Build, ask. -/
import Derived.Test.YtmhpfoicloojcaaGreatDoorZbs
import Derived.Test.YtmhpfoicloojcaaGreatDoorZbt
set_option linter.all false
open List renaming getElem?_cons_zero→aY,getElem?_cons_succ→aZ,not_mem_nil→bJ,mem_cons→cC,length_singleton→cG,mem_of_getElem?→cK,getElem?_eq_some_iff→cL,length_take→cP
open Go.Value renaming oneCell'→bB,ownBlock→bQ
open Nat renaming lt_of_lt_of_le→bC,le_refl→bP,le_trans→bU,zero_add→cR
open Go.IntKind renaming wrap_i64→bV,i64→cM
open Go.RowKit.Below renaming drew→bW,refl→bX
open Go.World renaming cell?_of_block→cA,size_alloc→cU,ownsRow_nil→dB
open Int renaming tdiv_eq_ediv_of_nonneg→cH
open Array renaming getElem?_eq_some_iff→cS
open Go.Act renaming put→cT
open Go.Addr renaming add_mid→dA
open Go renaming World→dF,Value→dG,TypeId→dI,Calls→dJ
open Go.RowKit renaming Below→dH
namespace Go.Proofs.YtmhpfoicloojcaaGreatDoor
open Below renaming next→bA,al→cQ
open GoT renaming P0→bT
open Ch renaming refl→dC,of_below→dD
set_option maxRecDepth 100000
set_option maxHeartbeats 16000000
section
open Go.Proofs.Tryz
open Go Go.RowKit Go.Shelf
attribute [local go_sem] Oper.semAt_some
theorem aRf:∃i,prog.info? 51=some i/\i.zero=some (.agg #[(),.slice none 0 0])/\i.size=2/\i.bytes=32:=info_parts (by kernel_rfl)
theorem aJt {w w':dF} {S:List Nat} {gw cw gh ch B B':Nat} (h1:w.ownsRow B 51 2 (.slice (some (gw,0)) 1 cw) 1 [(2:Int),.slice (some (gh,0)) 1 ch]) (h2:w.ownsRow B' 48 10 (.slice (some (gh,0)) 1 ch) 1 [(),(6:Int),false,(),(),(),true,(11:Int),(9:Int),(7:Int)]) (hc:Ch S w w') (n1:gw∉S) (n2:gh∉S):aCj w' (.slice (some (gw,0)) 1 cw) [aNc]:=by
 have key:∀(b i:Nat) (u:dG),b<w.heap.size->b∉S->w.cell? ⟨b,i,none⟩=some u->w'.cell? ⟨b,i,none⟩=some u:=fun b i u q p d=>by
  rw[<-d];unfold World.cell?;dsimp only;rw[hc.block b q p]
 have a:1<=cw/\gw<w.heap.size:=by
  obtain⟨A,c,f,l,-,k⟩:=aAa h1;obtain⟨g,h,e,-,-⟩:=k (by omega);injection f with e1 _ e3
  subst e1 e3;cases h
  exact⟨l,e⟩
 have m:1<=ch/\gh<w.heap.size:=by
  obtain⟨A,c,f,l,-,k⟩:=aAa h2;obtain⟨g,h,e,-,-⟩:=k (by omega);injection f with e1 _ e3
  subst e1 e3;cases h
  exact⟨l,e⟩
 refine⟨_,_,rfl,a.1,fun _=>⟨gw,0,rfl,bC a.2 hc.size,fun j r o=>?_⟩⟩;cases j with
 | succ j=>simp at o
 | zero=>
   obtain rfl:aNc=r:=by simpa using o
   refine⟨key gw 0 _ a.2 n1 (aAv h1 0 _ rfl),_,key gw 1 _ a.2 n1 (aAv h1 1 _ rfl),_,_,rfl,m.1,fun _=>⟨gh,0,rfl,bC m.2 hc.size,fun j x n i u d=>?_⟩⟩;cases j with
   | succ j=>simp[aNc]at n
   | zero=>
     obtain rfl:aGl=x:=by simpa[aNc,aGl]using n
     rw[show 0+0*10+i=i by omega];exact key gh i u m.2 n2 (aAv h2 i u d)
theorem aVv (C P X I K Q Y gc oc cc B N:Nat) (rv:dG) (w:dF) (h:PutS w C P X I K Q Y rv B N) (hch:aCc w (.slice (some (gc,oc)) 1 cc) [aGl]) (hgc:gc∉[C,X,Y]) :
 dJ prog 13 #[.pointer (some (C,0)),.agg #[(2:Int),.slice (some (gc,oc)) 1 cc]] w fun e w'=>∃g c gw cw:Nat,∃vA vc,e= .returned (.tuple #[.slice (some (g,0)) 1 c,()])/\BlkIs w' C 87 [(2:Int),.slice (some (gw,0)) 1 cw,.pointer (some (P,0)),.pointer (some (X,0)),.map (some I),.map (some K),(1:Int)]/\aCj w' (.slice (some (gw,0)) 1 cw) [aNc]/\
   BlkIs w' Y 93 [(3:Int),(),(1:Int),(10:Int),(19:Int),(),(),(),(1:Int),rv,(1:Int),.slice vA 0 vc,(2:Int),false,(2:Int)]/\MapIs w' I #[⟨.string prtKey,.pointer (some (Y,0)),0⟩] 1/\Ch [C,X,Y] w w':=by
 obtain⟨vA,vc,hY⟩:=h.y;have bN:=h.lo;have bf:[C,P,X,I,K,Q].Nodup:=h.nd;simp only[cC,bJ,or_false,forall_eq_or_imp,forall_eq]at bN;simp only[List.nodup_cons,cC,bJ,or_false,not_or,List.nodup_nil,and_true,not_false_eq_true]at bf
 have aE:=hid (show C≠X/\C≠Y/\X≠Y/\I≠C/\I≠X/\I≠Y/\K≠C/\K≠X/\K≠Y/\Q≠C/\Q≠X/\Q≠Y from by
  have h1:=h.ny;have h2:=h.bn;obtain⟨n1,n2,n3,n4,n5⟩:=bf;refine⟨n1.2.1,?_,?_,fun e=>n1.2.2.1 e.symm,fun e=>n3.1 e.symm,?_,fun e=>n1.2.2.2.1 e.symm,fun e=>n3.2.1 e.symm,?_,fun e=>n1.2.2.2.2 e.symm,fun e=>n3.2.2 e.symm,?_⟩ <;> omega)
 obtain⟨bq,cW,c8,c7,cX,cV,ac,aU,aT⟩:=bBf h.c h.x h.i h.k h.q hY (show C<w.heap.size/\X<w.heap.size/\Y<w.heap.size/\I<w.heap.size/\K<w.heap.size/\Q<w.heap.size from⟨h.c.lt,h.x.lt,hY.lt,h.i.lt,h.k.lt,h.q.lt⟩) hch hgc;obtain⟨key,aX⟩:=ex_ prtKey;rw[<-aX]at c8 c7⊢
 have cg:=hid (show gc<w.heap.size from by
  obtain⟨A9,c9,hv,-,hx⟩:=hch;obtain⟨g9,o9,hA,hl,-⟩:=hx (by simp);injection hv with e1 _ _
  rw[hA]at e1;cases e1
  exact hl)
 clear aX bN bf hY h hch hgc;refine(callsIn_wide (n:=10)).1 ?_;refine callsIn_of_wp_marks func13 rfl trivial ?_ rfl;simp only[ntmps13,List.size_toArray,List.length_cons,List.length_nil,Nat.reduceAdd,Nat.reduceSub,Array.replicate_succ,Array.replicate_zero,List.push_toArray,List.append_toArray,List.nil_append,List.cons_append];refine wpIn_wide.2 ?_;go_upto_region 1 with fail
 obtain⟨w1,HZ,HW,HB,aN,aM⟩:=aNb w [.pointer (some (C,0))] 52 [(2:Int),.slice (some (gc,oc)) 1 cc] 51;rw[<-HW.out];have x0:=aN.cell 0;dsimp only[aY,aZ]at x0;clear HW;go_upto_region 3 with fail
 have bt:=hid (show∀V:dF,dH w1 w1 V->(fun W:dF=>BlkIs W (w.heap.size+1) 51 [(2:Int),.slice (some (gc,oc)) 1 cc]/\W.cell? (w.heap.size+1,0)=some (.int .i64 2)/\W.cell? (w,0)=some (.pointer (some (C,0)))/\W.cell? (C,0)=some (.int .i64 1)) V by
  intro V o;exact⟨aM.later o,(aM.later o).cell 0,(aN.later o).cell 0,((bq.later HB.out).later o).cell 0⟩)
 refine aIu (.take 0 (.step 1 (.take 2 (.take 3 (.take 4 (.take 5 (.take 6 (.take 7 (.take 8 (.take 9 (.take 10 (.take 11 (.take 12 (.take 13 .done)))))))))))))) bt (bW (bX _ w1)) ?_;obtain⟨wd,s⟩:=ex_ w1.drew;have z:=hid (show dH w1 w1 wd from by rw[s];exact bW (bX _ w1));rw[<-s];clear s x0
 repeat (first
  | (refine aAd.A0 ?_ (hy:=by intro wq av;exact aAe 51 _ rfl (w.heap.size+1) rfl 51 #[(2:Int),.slice (some (gc,oc)) 1 cc] (0,0) _ av.1 underlying51 rfl aHw))
  | refine aAd.A0 ?_|refine aAd.AG ?_|refine aAd.AS ?_|with_reducible apply aAd.fork3|refine GoT.A0 ?_|refine GoT.AG ?_|refine GoT.AS ?_|fail)
 with_reducible apply aAd.step
 refine bT ?_;intro t a;go_simp;go_at_call 31
 have ak:=aJu 2 (some ⟨gc,oc,none⟩) cc [aGl] wd ((aU.below HB.out).below z.out);rw[show recB ⟨2,[aGl]⟩=true from bB9]at ak;unfold aQy at ak;simp only[cG]at ak
 (with_reducible refine ak.mono ?_)
 rintro e w2 ⟨rfl,b2⟩;try go_simp
 have Z2:=hid (bA z.out b2);refine a.out _ _ (bt.out _ Z2.out) (fun _=>?_);clear a t b2 z ak;refine aBq ?_
 repeat (first
  | refine aAd.A0 ?_|refine aAd.AG ?_|refine aAd.AS ?_|with_reducible apply aAd.step|with_reducible apply aAd.fork|with_reducible apply aAd.fork3|refine GoT.A0 ?_|refine GoT.AG ?_|refine GoT.AS ?_|fail)
 refine aAd.fin ?_;obtain⟨B2,bp,bo⟩:=aAw (bA HB.out Z2.out) (aN.later Z2.out) (aM.later Z2.out);have aL:=hid (bq.later B2.out);have x0:=bp.cell 0;have r0:=bo.cell 0;have c0:=aL.cell 0;have f0:=aL.frozen 0;dsimp only[aY,aZ]at x0 r0 c0;clear bt aN aM HB Z2;go_upto_region 6 with fail
 have m:=hid (show BlkIs (w2.setCell (C,0) (.int .i64 2)) C 87 [(2:Int),.slice none 0 0,.pointer (some (P,0)),.pointer (some (X,0)),.map (some I),.map (some K),(1:Int)]from aL.set 0 (.int .i64 2));have aJ:=ac.out;obtain⟨aA,ag,H3⟩:=aAw (bp.other (p:=⟨C,0,none⟩) (by dsimp only;omega) (.int .i64 2)) (bo.other (p:=⟨C,0,none⟩) (by dsimp only;omega) (.int .i64 2)) ((dD (S:=[C]) B2.out).setCell (p:=⟨C,0,none⟩) (.inl (by simp)) (.int .i64 2));have aO:=hid (show w.heap.size+2<=(w2.setCell (C,0) (.int .i64 2)).heap.size from Nat.succ_le_of_lt ag.lt);generalize w2.setCell (C,0) (.int .i64 2)=w3 at *;clear x0 r0 c0 f0 aJ aL bp bo;simp only[show cM.wrap 2=2 from rfl,show((2:Int) != 2)=false from rfl];go_cut []from 34 to 44 (fun wx=>∃gw cw A ch,Hid (BlkIs wx C 87 [(2:Int),.slice (some ⟨gw,0,none⟩) 1 cw,.pointer (some (P,0)),.pointer (some (X,0)),.map (some I),.map (some K),(1:Int)]/\wx.ownsRow w3.heap.size 51 2 (.slice (some ⟨gw,0,none⟩) 1 cw) 1 [(2:Int),.slice (some ⟨A,0,none⟩) 1 ch]/\wx.ownsRow 0 48 10 (.slice (some ⟨A,0,none⟩) 1 ch) 1 [(),(6:Int),false,(),(),(),true,(11:Int),(9:Int),(7:Int)]/\Ch [C] w wx/\BlkIs wx w 52 [.pointer (some (C,0))]/\BlkIs wx (w.heap.size+1) 51 [(2:Int),.slice (some (gc,oc)) 1 cc]/\w3.heap.size<=gw/\w3.heap.size<=A))
 case first=>
  rename_i J9 K9 bk bj
  have F:=hid (show∀V:dF,dH w3 w3 V->(fun W:dF=>BlkIs W (w.heap.size+1) 51 [(2:Int),.slice (some (gc,oc)) 1 cc]/\W.cell? (w,0)=some (.pointer (some (C,0)))) V by
   intro V o;exact⟨ag.later o,(aA.later o).cell 0⟩)
  obtain⟨i0,hi,bc,bb,b9⟩:=aRf;refine aIu (.take 0 (.take 1 (.take 2 (.take 3 (.take 5 (.fork 4 (.step 6 (.step 7 (.step 8 (.take 9 (.take 10 (.step 11 .done)))))) 6 (.fork 4 (.step 7 (.step 8 (.take 9 (.take 10 (.step 11 .done))))) 7 (.step 4 (.step 8 (.take 9 (.take 10 (.step 11 .done)))))))))))) F (bW (bX _ w3)) ?_;obtain⟨wd,s⟩:=ex_ w3.drew;have aa:=hid (show dH w3 w3 wd from by rw[s];exact bW (bX _ w3));rw[<-s];clear s;have cy:=(m.later aa.out).cell 1;dsimp only[aY,aZ]at cy
  repeat (first
   | (refine aAd.A0 ?_ (hy:=by intro wq av;exact aAe 51 _ rfl (w.heap.size+1) rfl 51 #[(2:Int),.slice (some (gc,oc)) 1 cc] (0,0) _ av.1 underlying51 rfl aHw))
   | refine aAd.A0 ?_|refine aAd.AG ?_|refine aAd.AS ?_|with_reducible apply aAd.fork3|refine GoT.A0 ?_|refine GoT.AG ?_|refine GoT.AS ?_|fail)
  with_reducible apply aAd.fork
  . refine bT ?_;intro t a;go_simp;refine a.out _ _ (F.out _ aa.out) (fun _=>?_);clear a t;refine aBq ?_;with_reducible apply aAd.step
    refine bT ?_;intro t a;go_simp;go_at_call 32
    (with_reducible refine(aJ1 2 (some ⟨gc,oc,none⟩) cc wd (aU.out.ch (H3.out.trans (.of_below aa.out)) (by have:=aT.out;simp at this⊢;exact this.1))).mono ?_)
    rintro e H ⟨cu,rfl,M,ax⟩;obtain⟨Ah,ch,rfl,-,-,aw⟩:=aAa M;obtain⟨A,rfl,ap,-,-⟩:=aw (by omega)
    have a7:w3.heap.size<=A:=by
     rcases M.2 with⟨h,_⟩|⟨g9,cap,cur,h,o,_⟩
     . cases h
     . cases h;exact bU aa.size o
    have af:=hid M;have aS:=hid a7;try go_simp
    have R:=hid (bA aa.out ax);have ai:=(m.later R.out).cell 1;dsimp only[aY,aZ]at ai;refine a.out _ _ (F.out _ R.out) (fun _=>?_);clear a t ax M aw ap a7;refine aBq ?_;with_reducible apply aAd.step
    refine bT ?_;intro t a;go_simp;have ba:=cQ H (.cells #[(2:Int),.slice (some (A,0)) 1 ch] 51);have kt:=(show BlkIs (H.alloc (.cells #[(2:Int),.slice (some (A,0)) 1 ch] 51)) H.heap.size 51 [(2:Int),.slice (some (A,0)) 1 ch]from aAo _ _ _ rfl);have a5:=aAr ba af.out;obtain⟨l,KT,ab⟩:=aAw (bA R.out ba) kt a5;obtain⟨tb,a3⟩:=ex_ H.heap.size;rw[<-a3]at KT⊢;have a2:=(m.later l.out).cell 1;dsimp only[aY,aZ]at a2;refine a.out _ _ (F.out _ l.out) (fun _=>?_);clear a t ba kt a5 a3 af;generalize H.alloc (.cells #[(2:Int),.slice (some (A,0)) 1 ch] 51)=w6 at *;refine aBq ?_;with_reducible apply aAd.step
    refine bT ?_;intro t a;refine wp_append_own w6 _ _ 26 rfl w6.heap.size 51 i0 (.agg #[(),.slice none 0 0]) 2 32 underlying26 hi bc bb b9 rfl (by decide) (.slice none 0 0) 0 [] rfl (dB _ _ _ _) ⟨tb,0,none⟩ 1 1 [(2:Int),.slice (some (A,0)) 1 ch] rfl rfl (fun j u hu=>by rw[dA,cR,KT.cell];exact hu) (by simp[bB]) (by unfold maxLen;omega) (by omega) (bP _) (fun u7 J f g7 _=>?_);obtain⟨Aw,cw,rfl,-,-,a8⟩:=aAa f;obtain⟨gw,rfl,a6,-,-⟩:=a8 (by omega)
    have E:w6.heap.size<=gw:=by
     rcases f.2 with⟨h,_⟩|⟨g9,cap,cur,h,o,_⟩
     . cases h
     . cases h;exact o
    have a9:Ch [] w6 J:=(dC [] w6).grown (row:=none) g7 (by intro k hk;cases hk);have b7:=a9.below_nil;obtain⟨ae,aD,d,aF⟩:=aBp f (aAr b7 ab.out) (bA l.out b7) (bU l.size E);have a1:=(m.later d.out).cell 1;have b0:=(m.later d.out).frozen 1;dsimp only[aY,aZ]at a1;refine a.out _ _ (F.out _ d.out) (fun _=>?_);clear a t f g7 a8 a6 E a9 b7 ab;refine aBq ?_;refine aLd ?_;with_reducible apply aAd.step
    refine bT ?_;intro t a;go_simp;have aJ:=ac.out;have aq:=aS.out;have ao:=aF.out;have bH:=aO.out;have aj:=(show BlkIs (J.setCell (C,1) (.slice (some (gw,0)) 1 cw)) C 87 [(2:Int),.slice (some (gw,0)) 1 cw,.pointer (some (P,0)),.pointer (some (X,0)),.map (some I),.map (some K),(1:Int)]from(m.later d.out).set 1 (.slice (some (gw,0)) 1 cw));have a0:=(aA.later d.out).other (p:=⟨C,1,none⟩) (by dsimp only;omega) (.slice (some (gw,0)) 1 cw);have Z:=(ag.later d.out).other (p:=⟨C,1,none⟩) (by dsimp only;omega) (.slice (some (gw,0)) 1 cw);have am:=aAg ae.out ⟨C,1,none⟩ (.slice (some (gw,0)) 1 cw) (fun b o=>by simp[bQ]at o;dsimp only;omega);have an:=aAg aD.out ⟨C,1,none⟩ (.slice (some (gw,0)) 1 cw) (fun b o=>by simp[bQ]at o;dsimp only;omega);have ar:=(H3.trans (.of_below d.out)).setCell (p:=⟨C,1,none⟩) (.inl (by simp)) (.slice (some (gw,0)) 1 cw);refine a.out _ _ ⟨Z,a0.cell 0⟩ (fun _=>?_);clear a t;try simp only[cT]
    refine aAd.fin ?_;refine bj _ _ (Met.intro (bk _ _ ?_));iterate 11 apply Exists.intro
    refine⟨?_,rfl⟩;exact⟨gw,cw,A,ch,hid ⟨aj,aA8 am l.size,aA8 an (Nat.zero_le _),ar,a0,Z,ao,aq⟩⟩
  . refine bT ?_;intro t a;go_simp;go_at_call 32
    (with_reducible refine(aJ1 2 (some ⟨gc,oc,none⟩) cc wd (aU.out.ch (H3.out.trans (.of_below aa.out)) (by have:=aT.out;simp at this⊢;exact this.1))).mono ?_)
    rintro e H ⟨cu,rfl,M,ax⟩;obtain⟨Ah,ch,rfl,-,-,aw⟩:=aAa M;obtain⟨A,rfl,ap,-,-⟩:=aw (by omega)
    have a7:w3.heap.size<=A:=by
     rcases M.2 with⟨h,_⟩|⟨g9,cap,cur,h,o,_⟩
     . cases h
     . cases h;exact bU aa.size o
    have af:=hid M;have aS:=hid a7;try go_simp
    have R:=hid (bA aa.out ax);have ai:=(m.later R.out).cell 1;dsimp only[aY,aZ]at ai;refine a.out _ _ (F.out _ R.out) (fun _=>?_);clear a t ax M aw ap a7;refine aBq ?_;with_reducible apply aAd.fork
    . refine bT ?_;intro t a;go_simp;refine a.out _ _ (F.out _ R.out) (fun _=>?_);clear a t;refine aBq ?_;with_reducible apply aAd.step
      refine bT ?_;intro t a;go_simp;have ba:=cQ H (.cells #[(2:Int),.slice (some (A,0)) 1 ch] 51);have kt:=(show BlkIs (H.alloc (.cells #[(2:Int),.slice (some (A,0)) 1 ch] 51)) H.heap.size 51 [(2:Int),.slice (some (A,0)) 1 ch]from aAo _ _ _ rfl);have a5:=aAr ba af.out;obtain⟨l,KT,ab⟩:=aAw (bA R.out ba) kt a5;obtain⟨tb,a3⟩:=ex_ H.heap.size;rw[<-a3]at KT⊢;have a2:=(m.later l.out).cell 1;dsimp only[aY,aZ]at a2;refine a.out _ _ (F.out _ l.out) (fun _=>?_);clear a t ba kt a5 a3 af;generalize H.alloc (.cells #[(2:Int),.slice (some (A,0)) 1 ch] 51)=w6 at *;refine aBq ?_;with_reducible apply aAd.step
      refine bT ?_;intro t a;refine wp_append_own w6 _ _ 26 rfl w6.heap.size 51 i0 (.agg #[(),.slice none 0 0]) 2 32 underlying26 hi bc bb b9 rfl (by decide) (.slice none 0 0) 0 [] rfl (dB _ _ _ _) ⟨tb,0,none⟩ 1 1 [(2:Int),.slice (some (A,0)) 1 ch] rfl rfl (fun j u hu=>by rw[dA,cR,KT.cell];exact hu) (by simp[bB]) (by unfold maxLen;omega) (by omega) (bP _) (fun u7 J f g7 _=>?_);obtain⟨Aw,cw,rfl,-,-,a8⟩:=aAa f;obtain⟨gw,rfl,a6,-,-⟩:=a8 (by omega)
      have E:w6.heap.size<=gw:=by
       rcases f.2 with⟨h,_⟩|⟨g9,cap,cur,h,o,_⟩
       . cases h
       . cases h;exact o
      have a9:Ch [] w6 J:=(dC [] w6).grown (row:=none) g7 (by intro k hk;cases hk);have b7:=a9.below_nil;obtain⟨ae,aD,d,aF⟩:=aBp f (aAr b7 ab.out) (bA l.out b7) (bU l.size E);have a1:=(m.later d.out).cell 1;have b0:=(m.later d.out).frozen 1;dsimp only[aY,aZ]at a1;refine a.out _ _ (F.out _ d.out) (fun _=>?_);clear a t f g7 a8 a6 E a9 b7 ab;refine aBq ?_;refine aLd ?_;with_reducible apply aAd.step
      refine bT ?_;intro t a;go_simp;have aJ:=ac.out;have aq:=aS.out;have ao:=aF.out;have bH:=aO.out;have aj:=(show BlkIs (J.setCell (C,1) (.slice (some (gw,0)) 1 cw)) C 87 [(2:Int),.slice (some (gw,0)) 1 cw,.pointer (some (P,0)),.pointer (some (X,0)),.map (some I),.map (some K),(1:Int)]from(m.later d.out).set 1 (.slice (some (gw,0)) 1 cw));have a0:=(aA.later d.out).other (p:=⟨C,1,none⟩) (by dsimp only;omega) (.slice (some (gw,0)) 1 cw);have Z:=(ag.later d.out).other (p:=⟨C,1,none⟩) (by dsimp only;omega) (.slice (some (gw,0)) 1 cw);have am:=aAg ae.out ⟨C,1,none⟩ (.slice (some (gw,0)) 1 cw) (fun b o=>by simp[bQ]at o;dsimp only;omega);have an:=aAg aD.out ⟨C,1,none⟩ (.slice (some (gw,0)) 1 cw) (fun b o=>by simp[bQ]at o;dsimp only;omega);have ar:=(H3.trans (.of_below d.out)).setCell (p:=⟨C,1,none⟩) (.inl (by simp)) (.slice (some (gw,0)) 1 cw);refine a.out _ _ ⟨Z,a0.cell 0⟩ (fun _=>?_);clear a t;try simp only[cT]
      refine aAd.fin ?_;refine bj _ _ (Met.intro (bk _ _ ?_));iterate 11 apply Exists.intro
      refine⟨?_,rfl⟩;exact⟨gw,cw,A,ch,hid ⟨aj,aA8 am l.size,aA8 an (Nat.zero_le _),ar,a0,Z,ao,aq⟩⟩
    . refine bT ?_;intro t a;go_simp;have ba:=cQ H (.cells #[(2:Int),.slice (some (A,0)) 1 ch] 51);have kt:=(show BlkIs (H.alloc (.cells #[(2:Int),.slice (some (A,0)) 1 ch] 51)) H.heap.size 51 [(2:Int),.slice (some (A,0)) 1 ch]from aAo _ _ _ rfl);have a5:=aAr ba af.out;obtain⟨l,KT,ab⟩:=aAw (bA R.out ba) kt a5;obtain⟨tb,a3⟩:=ex_ H.heap.size;rw[<-a3]at KT⊢;have a2:=(m.later l.out).cell 1;dsimp only[aY,aZ]at a2;refine a.out _ _ (F.out _ l.out) (fun _=>?_);clear a t ba kt a5 a3 af;generalize H.alloc (.cells #[(2:Int),.slice (some (A,0)) 1 ch] 51)=w6 at *;refine aBq ?_;with_reducible apply aAd.step
      refine bT ?_;intro t a;go_simp;refine a.out _ _ (F.out _ l.out) (fun _=>?_);clear a t;refine aBq ?_;with_reducible apply aAd.step
      refine bT ?_;intro t a;refine wp_append_own w6 _ _ 26 rfl w6.heap.size 51 i0 (.agg #[(),.slice none 0 0]) 2 32 underlying26 hi bc bb b9 rfl (by decide) (.slice none 0 0) 0 [] rfl (dB _ _ _ _) ⟨tb,0,none⟩ 1 1 [(2:Int),.slice (some (A,0)) 1 ch] rfl rfl (fun j u hu=>by rw[dA,cR,KT.cell];exact hu) (by simp[bB]) (by unfold maxLen;omega) (by omega) (bP _) (fun u7 J f g7 _=>?_);obtain⟨Aw,cw,rfl,-,-,a8⟩:=aAa f;obtain⟨gw,rfl,a6,-,-⟩:=a8 (by omega)
      have E:w6.heap.size<=gw:=by
       rcases f.2 with⟨h,_⟩|⟨g9,cap,cur,h,o,_⟩
       . cases h
       . cases h;exact o
      have a9:Ch [] w6 J:=(dC [] w6).grown (row:=none) g7 (by intro k hk;cases hk);have b7:=a9.below_nil;obtain⟨ae,aD,d,aF⟩:=aBp f (aAr b7 ab.out) (bA l.out b7) (bU l.size E);have a1:=(m.later d.out).cell 1;have b0:=(m.later d.out).frozen 1;dsimp only[aY,aZ]at a1;refine a.out _ _ (F.out _ d.out) (fun _=>?_);clear a t f g7 a8 a6 E a9 b7 ab;refine aBq ?_;refine aLd ?_;with_reducible apply aAd.step
      refine bT ?_;intro t a;go_simp;have aJ:=ac.out;have aq:=aS.out;have ao:=aF.out;have bH:=aO.out;have aj:=(show BlkIs (J.setCell (C,1) (.slice (some (gw,0)) 1 cw)) C 87 [(2:Int),.slice (some (gw,0)) 1 cw,.pointer (some (P,0)),.pointer (some (X,0)),.map (some I),.map (some K),(1:Int)]from(m.later d.out).set 1 (.slice (some (gw,0)) 1 cw));have a0:=(aA.later d.out).other (p:=⟨C,1,none⟩) (by dsimp only;omega) (.slice (some (gw,0)) 1 cw);have Z:=(ag.later d.out).other (p:=⟨C,1,none⟩) (by dsimp only;omega) (.slice (some (gw,0)) 1 cw);have am:=aAg ae.out ⟨C,1,none⟩ (.slice (some (gw,0)) 1 cw) (fun b o=>by simp[bQ]at o;dsimp only;omega);have an:=aAg aD.out ⟨C,1,none⟩ (.slice (some (gw,0)) 1 cw) (fun b o=>by simp[bQ]at o;dsimp only;omega);have ar:=(H3.trans (.of_below d.out)).setCell (p:=⟨C,1,none⟩) (.inl (by simp)) (.slice (some (gw,0)) 1 cw);refine a.out _ _ ⟨Z,a0.cell 0⟩ (fun _=>?_);clear a t;try simp only[cT]
      refine aAd.fin ?_;refine bj _ _ (Met.intro (bk _ _ ?_));iterate 11 apply Exists.intro
      refine⟨?_,rfl⟩;exact⟨gw,cw,A,ch,hid ⟨aj,aA8 am l.size,aA8 an (Nat.zero_le _),ar,a0,Z,ao,aq⟩⟩
 case rest=>
  obtain⟨gw,cw,A,ch,hq⟩:=hcut;have x0:=hq.2.2.2.2.1.cell 0;have z1:=hq.1.cell 1;dsimp only[aY,aZ]at x0 z1;clear bq m aA ag H3;go_upto_region 11 with fail
  have bG:=cQ wc (.cells #[.slice none 0 0] 58);have kg:=(show BlkIs (wc.alloc (.cells #[.slice none 0 0] 58)) wc.heap.size 58 [.slice none 0 0]from aAo _ _ _ rfl);obtain⟨G,hG⟩:=ex_ wc.heap.size;rw[<-hG]at kg⊢;have KG:=hid kg
  have HG:=hid (show w.heap.size+2<=G/\gw<G/\A<G/\G=wc.heap.size/\w.heap.size+2<=gw/\w.heap.size+2<=A from by
   have h1:=hq.2.2.2.2.2.1.lt;have h2:=aO.out;have h3:=(aAa hq.2.1);obtain⟨A3,c3,e3,-,-,f3⟩:=h3;obtain⟨g3,cO,du,-,-⟩:=f3 (by omega);injection e3 with e31 _ _
   rw[cO]at e31;cases e31
   have h4:=(aAa hq.2.2.1);obtain⟨A4,c4,e4,-,-,f4⟩:=h4;obtain⟨g4,cN,dt,-,-⟩:=f4 (by omega);injection e4 with e41 _ _
   rw[cN]at e41;cases e41
   exact⟨by omega,by omega,by omega,hG,bU h2 hq.2.2.2.2.2.2.1,bU h2 hq.2.2.2.2.2.2.2⟩)
  have bs:=hid (dD (S:=[X,Y,G]) bG);have BG:=hid bG;clear x0 z1 kg bG hG;generalize wc.alloc (.cells #[.slice none 0 0] 58)=wg at *
  have r:=hid (show∀V:dF,Ch [X,Y,G] wc V->BlkIs V w 52 [.pointer (some (C,0))]/\BlkIs V (w.heap.size+1) 51 [(2:Int),.slice (some (gc,oc)) 1 cc]/\BlkIs V C 87 [(2:Int),.slice (some (gw,0)) 1 cw,.pointer (some (P,0)),.pointer (some (X,0)),.map (some I),.map (some K),(1:Int)]/\MapIs V I #[⟨.string key,.pointer (some (Y,0)),0⟩] 1/\MapIs V K #[⟨.int .i64 1,.string key,0⟩] 1/\aCc V (.slice (some (gc,oc)) 1 cc) [aGl]from by
   intro V hc;have hg:=HG.out;have hl:=ac.out;have hn:=aE.out;have hgc:=aT.out;have bh:=cg.out;simp only[cC,bJ,or_false,not_or]at hgc;have hw:=hq.2.2.2.1;refine⟨hq.2.2.2.2.1.ch hc (by simp;omega),hq.2.2.2.2.2.1.ch hc (by simp;omega),hq.1.ch hc (by simp;omega),(c8.ch hw (by simp;omega)).ch hc (by simp;omega),(c7.ch hw (by simp;omega)).ch hc (by simp;omega),(aU.ch hw (by simp;omega)).ch hc (by simp;omega)⟩)
  obtain⟨c5,bY,c6⟩:=aAw ((cW.ch hq.2.2.2.1 (by have:=aE.out;simp;omega)).later BG.out) ((cV.ch hq.2.2.2.1 (by have:=aE.out;simp;omega)).later BG.out) ((cX.ch hq.2.2.2.1 (by have:=aE.out;simp;omega)).later BG.out)
  have aC:=hid (show∀V:dF,Ch [X] wg V->(fun V:dF=>V.cell? (w,0)=some (.pointer (some (C,0)))/\V.cell? (C,3)=some (.pointer (some (X,0)))/\BlkIs V (w.heap.size+1) 51 [(2:Int),.slice (some (gc,oc)) 1 cc]) V by
   intro V hc;obtain⟨f1,f2,f3,-,-,-⟩:=r.out V (bs.trans (hc.mono (by simp)));exact⟨f1.cell 0,f3.cell 3,f2⟩)
  refine bCd (fun V:dF=>V.cell? (w,0)=some (.pointer (some (C,0)))/\V.cell? (C,3)=some (.pointer (some (X,0)))/\BlkIs V (w.heap.size+1) 51 [(2:Int),.slice (some (gc,oc)) 1 cc]) (.take 0 (.take 1 (.take 2 (.take 3 (.take 4 (.take 7 (.step 5 (.take 6 .done)))))))) (aC.out _ (dC [X] wg).drew) ?_;obtain⟨wd,s⟩:=ex_ wg.drew;have z:=hid (show dH wg wg wd from by rw[s];exact bW (bX _ wg));rw[<-s];clear s
  repeat (first
   | (refine aAd.A0 ?_ (hy:=by intro wq av;exact aAe 51 _ rfl (w.heap.size+1) rfl 51 #[(2:Int),.slice (some (gc,oc)) 1 cc] (0,0) _ av.2.2 underlying51 rfl aHw))
   | refine aAd.A0 ?_|refine aAd.AG ?_|refine aAd.AS ?_|with_reducible apply aAd.fork3|refine GoT.A0 ?_|refine GoT.AG ?_|refine GoT.AS ?_|fail)
  with_reducible apply aAd.step
  refine bT ?_;intro t a;go_simp;go_at_call 36
  (with_reducible refine(aXq X Q cc (some ⟨gc,oc,none⟩) wd (c5.out.later z.out) (c6.out.later z.out) (r.out _ (bs.out.trans (.of_below z.out))).2.2.2.2.2).mono ?_)
  rintro e H ⟨vm,O,rfl,bL,cB,bS⟩;obtain⟨gm,cm,rfl,-,-,-,cF,-⟩:=aBc bL;try go_simp
  have aH:=hid ((dD (S:=[X]) z.out).trans bS);refine a.out _ _ (aC.out _ aH.out) (fun _=>?_);clear a t bL cB bS z;refine aBq ?_;refine aLd ?_;refine aAd.fin ?_;obtain⟨aR,aK,bl⟩:=aAw (bs.trans (aH.mono (T:=[X,Y,G]) (by simp))) (KG.ch aH.out (by have:=HG.out;have:=ac.out;simp;omega)) (bY.ch aH.out (by have:=aE.out;simp;omega));have hf:=r.out _ aR.out;have x0:=hf.1.cell 0;have z4:=hf.2.2.1.cell 4;have z5:=hf.2.2.1.cell 5;have bg:=(aDu (i:=0) aUh aBx (show MapKept.IsKey (.int .i64) (.int .i64 1)from rfl) hf.2.2.2.2.1 rfl).1;dsimp only[aY,aZ]at x0 z4 z5;clear hf aC c5 c6 bY KG BG;go_wp2_with fail
  refine wp_loop_rounds 2 ?_;rw[rounds_succ];go_upto_region 15 with fail
  clear cF x0 z4 z5 bg
  have aB:=hid (show∀V:dF,dH H H V->(fun V:dF=>V.cell? (w,0)=some (.pointer (some (C,0)))/\V.cell? (C,4)=some (.map (some I))/\(Instr.lookup 84 (.map (some I)) (.string key) false).run prog V= .ok (.pointer (some (Y,0))) V/\V.cell? (Y,8)=some (.int .i64 1)/\V.cell? (w.heap.size+1,0)=some (.int .i64 2)) V by
   intro V o;obtain⟨f1,f2,f3,f4,-,-⟩:=r.out V (aR.trans (.of_below o));exact⟨f1.cell 0,f3.cell 4,(aDu (i:=0) aFc aH2 (show MapKept.IsKey .string (.string key)from trivial) f4 (by simp[Instr.findNow,Instr.sameNow,aVy])).1,(bl.later o).cell 8,f2.cell 0⟩)
  refine aIu (.take 0 (.take 1 (.take 2 (.take 3 (.take 4 (.take 5 (.take 6 (.take 7 (.take 8 (.take 9 (.take 10 (.take 11 (.take 12 .done))))))))))))) aB (bW (bX _ H)) ?_;obtain⟨wd,s⟩:=ex_ H.drew;have z:=hid (show dH H H wd from by rw[s];exact bW (bX _ H));rw[<-s];clear s;refine aLd ?_;refine aAd.fin ?_;obtain⟨x0,z4,bg,-,-⟩:=aB.out _ z.out;obtain⟨aQ,ca,c2⟩:=aAw (aR.trans (.of_below (S:=[X,Y,G]) z.out)) (aK.later z.out) (bl.later z.out);clear aB aH aK bl aR z;go_wp2_with fail
  refine(aV3 G (w.heap.size+1) w.heap.size Y cc vc gc oc vA rv key wd ca.out (r.out _ aQ.out).2.1 c2.out (r.out _ aQ.out).2.2.2.2.2 (by have:=HG.out;have:=ac.out;omega) (by have:=HG.out;have:=cg.out;have h9:=aT.out;simp only[cC,bJ,or_false,not_or]at h9;exact⟨by omega,h9.2.2⟩)).mono ?_;rintro e J ⟨rfl,g,c,vB,vd,bF,bM,bE,bR⟩;obtain⟨cY,ae,c1,br⟩:=aBp bF bM bE (aQ.trans (bR.mono (T:=[X,Y,G]) (by simp)));clear bF bM bE bR ca c2 aQ x0 z4 bg;go_wp2_with fail
  rw[rounds_succ];have x0:=(r.out _ br.out).1.cell 0;dsimp only[aY,aZ]at x0;go_wp2_with fail
  refine(aWj C J).mono ?_;rintro e w8 ⟨rfl,bI⟩;have b8:=cQ J (.cells #[.pointer (some (C,0))] 52);have k8:=(show BlkIs (J.alloc (.cells #[.pointer (some (C,0))] 52)) J.heap.size 52 [.pointer (some (C,0))]from aAo _ _ _ rfl);rw[<-bI]at b8 k8;have cd:=hid k8;have B8:=hid b8;clear bI b8 k8 x0;go_wp2_with fail
  refine(wpIn_wide (n:=10)).1 ?_;refine aBe rfl (by omega) (gf:=80) (lb:=#[.pointer (some (J,0))]) rfl trivial (enters_of func80 (by kernel_rfl) rfl) ?_;intro fn dw U D L W1 bK hD hL au;have h5:=w8.size_alloc (.deferred (some []));have bD:=((bX w8.heap.size w8).alloc (bP _) (.deferred (some []))).alloc (by omega) (.loop (U .ready none));rw[<-au]at bD;have be:W1.heap.size=w8.heap.size+2:=by rw[au,cU,h5]
  have lD:W1.heap[D]? =some (.deferred (some [])):=by
   rw[au,hD];exact(Below.heap_alloc _ _ _ (by omega)).trans (heap_alloc_new w8 _)
  have lL:W1.heap[L]? =some (.loop (U .ready none)):=by
   have:=heap_alloc_new (w8.alloc (.deferred (some []))) (.loop (U .ready none));rw[h5]at this;rw[au,hL,hD];exact this
  have aG:=hid (show D=w8.heap.size/\L=w8.heap.size+1/\W1.heap.size=w8.heap.size+2 from⟨hD,by omega,be⟩);have B1:=hid (bA B8.out bD);have bi:=r.out _ (br.trans (.of_below B1.out));refine(aWk (10-1) L J.heap.size C I Y _ _ _ _ _ _ _ _ _ _ _ key W1 (cd.later bD) bi.2.2.1 bi.2.2.2.1 (c1.later B1.out)).mono ?_;rintro e W2 ⟨⟨v,rfl⟩,bZ⟩;refine⟨⟨v,rfl⟩,.ready,none,(fun h=>by cases h),(bZ.block L (by have:=aG.out;omega)).trans lL,?_⟩;have bO:(W2.putObj L (.loop (U .exhausted none))).heap[D]? =some (.deferred (some [])):=(World.putObj_heap_other (by have:=aG.out;omega)).trans ((bZ.block D (by have:=aG.out;omega)).trans lD);have b4:dH J J (W2.putObj L (.loop (U .exhausted none))):=aAm (bA B1.out bZ) _ (by have:=aG.out;have:=B8.size;omega) (bA B1.out bZ).size;have aW:(W2.putObj L (.loop (U .exhausted none))).heap.size=W2.heap.size:=World.putObj_size;obtain⟨dE,cf,B4⟩:=aAw (show w8.heap.size+2<=(W2.putObj L (.loop (U .exhausted none))).heap.size by rw[aW,<-be];exact bZ.size) bO b4;clear bO b4 bZ bi lL lD be bD h5 hD hL bK au aW cd B1;generalize W2.putObj L (.loop (U .exhausted none))=W4 at *;have cb:=hid (cY.later B4.out);have cZ:=hid (aAr B4.out ae.out);obtain⟨gs,cs,cD,cI,bh,cJ,h1,h2⟩:=aBc cZ.out;cases cD
  have y0:=cb.cell 0;dsimp only[aY,aZ]at y0
  have hH:Sort.Holds encStr W4 g 0 (#[key.data.toList]):=fun j hj=>by
   obtain rfl:j=0:=by simpa using hj
   exact⟨by first|exact h1|(rw[cR,h1];rfl),h2⟩
  have ce:=hid (Tryz.slices_Sort_string g 0 c [key.data.toList] W4 hH bh (by simp));have HH:=hid hH;clear h1 h2 hH bh cI cJ;simp only[aH6];go_wp2_with fail
  refine ce.mono ?_;rintro e W5 ⟨rfl,n,os,bd⟩;have cE:([key.data.toList].mergeSort fun x y=>decide (x<=y))=[key.data.toList]:=by simp
  rw[cE,show([key.data.toList]:List _).toArray=#[key.data.toList]from rfl,Sort.putRow_self encStr (Sort.ahead W4 n) g 0 #[key.data.toList] (fun j hj=>HH.out j hj)]at bd;have b5:=aH9 bd;obtain⟨aK,d0,B5⟩:=aAw (cb.later b5) ((b5.block D (aAc cf.out)).trans cf.out) (bA B4.out b5);have y1:=aK.cell 0;dsimp only[aY,aZ]at y1;clear bd b5 y0 ce HH;go_wp2_with fail
  refine⟨by simp,.inl ⟨_,_,rfl,run_takeDeferred d0.out,?_⟩⟩;refine⟨_,by simp[results,results13,go_sem];try rfl,?_⟩;have b6:dH J J (W5.putObj D (.deferred none)):=aAm B5.out _ (by have:=aG.out;have:=B8.size;omega) B5.size;have aP:=br.trans (.of_below (S:=[X,Y,G]) b6);have hg:=HG.out;have hl:=ac.out;refine⟨g,c,gw,cw,vB,vd,rfl,(r.out _ aP).2.2.1,aJt hq.2.1 hq.2.2.1 aP (by simp;omega) (by simp;omega),c1.later b6,(r.out _ aP).2.2.2.1,(hq.2.2.2.1.mono (T:=[C,X,Y]) (by simp)).next aP (fun j hj=>?_)⟩;simp only[cC,bJ,or_false]at hj;rcases hj with rfl|rfl|rfl
  . exact .inl (by simp)
  . exact .inl (by simp)
  . exact .inr (by omega)
theorem Ch.setRow {S:List Nat} {a w:dF} (h:Ch S a w) {k:Nat} (hk:k∈S\/a.heap.size<=k) (ds:Array dG):Ch S a (w.setRow k ds):=
 ⟨h.os,h.tape,h.output,bU h.size (Nat.le_of_eq (aE0 w k ds).symm),fun j hj hn=>by
  have hne:j≠k:=fun e=>by subst e;rcases hk with h1|h1;exact hn h1;omega
  exact(setRow_other w k j ds hne).trans (h.block j hj hn)⟩
theorem aQh:(prog.info? 42).map (·.size)=some 10:=by kernel_rfl
theorem aVu (C P X I K Y gw cw vc:Nat) (vA:Option Addr) (rv:dG) (key:ByteArray) (w:dF) (hC:BlkIs w C 87 [(2:Int),.slice (some (gw,0)) 1 cw,.pointer (some (P,0)),.pointer (some (X,0)),.map (some I),.map (some K),(1:Int)]) (hI:MapIs w I #[⟨.string key,.pointer (some (Y,0)),0⟩] 1) (hY:BlkIs w Y 93 [(3:Int),(),(1:Int),(10:Int),(19:Int),(),(),(),(1:Int),rv,(1:Int),.slice vA 0 vc,(2:Int),false,(2:Int)]) (hr:RgsAt w rv awS.rows [awC]) :
 dJ prog 39 #[.pointer (some (C,0)),.string key] w fun e w'=>∃rv',e= .returned (.tuple #[.agg #[(3:Int),(),(1:Int),(10:Int),(19:Int),(),(),(),(1:Int),rv'],.bool true])/\RgsAt w' rv' awS.rows [awC]/\dH w w w':=by
 have c:=hr.form;obtain⟨l,j,rfl,-⟩:=c;simp only[cG]at hr hY⊢;obtain⟨a0,Z,V,U,G,F⟩:=aIl hr hC hI hY (fun(W:dF) (h:BlkIs W Y 93 [(3:Int),(),(1:Int),(10:Int),(19:Int),(),(),(),(1:Int),.slice l 1 j,(1:Int),.slice vA 0 vc,(2:Int),false,(2:Int)])=>(show W.rangeAt Y 0 [(3:Int),(),(1:Int),(10:Int),(19:Int),(),(),(),(1:Int),.slice l 1 j]from aE4 (ds:=[.int .i64 1,.slice vA 0 vc,.int .i64 2,.bool false,.int .i64 2]) h)) (fun(W:dF) (S:dH w w W)=>aJ2 (.slice l 1 j) awS.rows awC aZ5 (aDf _) aV0 W (hr.below S));clear hC hI hY hr;go_enter func39,ntmps39
 go_upto_region 1 with fail
 have d:=cQ w (.cells #[(),(),(),(),(),(),(),(),(),.slice none 0 0] 42);have D:=hid ((show BlkIs (w.alloc (.cells #[(),(),(),(),(),(),(),(),(),.slice none 0 0] 42)) w.heap.size 42 [(),(),(),(),(),(),(),(),(),.slice none 0 0]from aAo _ _ _ rfl));have L:=hid d;have M:=(Z.later d).cell 4;have z:=(aDu (i:=0) (v:= .pointer (some (Y,0))) aFc aH2 (show MapKept.IsKey .string (.string key)from trivial) (V.later d) (by simp[Instr.findNow,Instr.sameNow,aVy])).1;dsimp only[aY,aZ]at M;have f:=U.later d;clear d;generalize w.alloc (.cells #[(),(),(),(),(),(),(),(),(),.slice none 0 0] 42)=w1 at *
 go_wp2_with (first
  | (refine wpList_load_mid rfl 42 (.tmp 25) rfl Y 0 rfl [(3:Int),(),(1:Int),(10:Int),(19:Int),(),(),(),(1:Int),.slice l 1 j] _ (G.out _ f) underlying42 rfl aQh ?_)
  | fail)
 (with_reducible refine(F.out w1 L.out).mono ?_)
 rintro e N ⟨rv',R,a,v1,v2,v3,pv,p0,rfl,b,B⟩;have H:=hid (b.off (aDf _));have E:=hid D.lt;obtain⟨A,-⟩:=b;subst A;have g:=hid (D.later B);have J:=hid (bA L.out B);clear B M z f D L
 go_wp2_with (first
  | (refine wpList_store_row rfl 42 (.tmp 4) (.tmp 27) rfl (w.heap.size) #[(3:Int),(),(1:Int),(10:Int),(19:Int),(),(),(),(1:Int),.slice (some (R,0)) 1 a] rfl rfl 42 _ g.out aQh rfl (by simp[bB]) ?_)
  | fail)
 have O:=hid (g.setRow [(3:Int),(),(1:Int),(10:Int),(19:Int),(),(),(),(1:Int),.slice (some (R,0)) 1 a]);have T:=below_setRow J.out (bP _) #[(3:Int),(),(1:Int),(10:Int),(19:Int),(),(),(),(1:Int),.slice (some (R,0)) 1 a];have y:=(H.ch ((dC [w.heap.size] N).setRow (k:=w.heap.size) (.inl (by simp)) #[(3:Int),(),(1:Int),(10:Int),(19:Int),(),(),(),(1:Int),.slice (some (R,0)) 1 a]) (by intro k Q;rw[List.mem_singleton.1 Q];exact .inl E.out)).here;generalize N.setRow w.heap.size #[.int .i64 3,.int .i64 0,.int .i64 1,.int .i64 10,.int .i64 19,.int .i64 0,.int .i64 0,.int .i64 0,.int .i64 1,.slice (some (R,0)) 1 a]=w4 at *;obtain⟨x,u,t,s,r,q,p,o,n,m⟩:=O.C10;refine bodyPost_ret (by simp[results,results39,go_sem,x,u,t,s,r,q,p,o,n,m];try rfl) rfl ?_;exact⟨_,rfl,y,T⟩
variable {w:dF} {v:dG} {xs:List Rw}
def bEc (q:Qy) (tn base:Int) (rv:dG):dG:= .agg #[q.kind,q.table,q.column,q.low,q.high,q.by_,q.other,tn,base,rv]
def bF4 (q:Qy) (v1:dG) (r:Res) (since till base:Int) (v2 v3:dG):dG:= .agg #[q.kind,q.table,q.column,q.low,q.high,q.by_,q.other,v1,r.value,r.found,since,till,base,v2,v3]
def bF3:Value:= .agg #[(),(),(),(),(),(),(),.slice none 0 0,(),false,(),(),(),.slice none 0 0,.slice none 0 0]
theorem Tryz.infoAns:(prog.info? 38).map (·.size)=some 15:=by kernel_rfl
theorem aZa:prog.built 38 []=some #[.int .i64 0,.int .i64 0,.int .i64 0,.int .i64 0,.int .i64 0,.int .i64 0,.int .i64 0,.slice none 0 0,.int .i64 0,.bool false,.int .i64 0,.int .i64 0,.int .i64 0,.slice none 0 0,.slice none 0 0]:=by kernel_rfl
theorem aNe {P:Program} {ops:Array Oper} {rest:List Oper} {o:Oper} {a:Act} {Q:Exit->Act->dF->Prop} (hg:o.guard=none) (t:dI) (ho:o.op= .build t #[]) (cs:Array dG)
 (hb:P.built t []=some cs) (h:wpList P ops Q rest (a.put o.dst (.agg cs)) w):wpList P ops Q (o :: rest) a w:=by
  have e:((#[]:Array (Nat×Operand)).map fun(i,x)=>(i,a.eval x)).toList=[]:=by simp
  refine wpList_build hg t #[] ho (by rw[e,hb];rfl) ?_;rw[e,hb];exact h
def aHy (w:dF) (v:dG) (xs:List Rw) (k:Nat):Prop:=∃A c,v= .slice A xs.length c/\xs.length<=c/\(0<xs.length->∃g o,A=some ⟨g,o,none⟩/\g≠k/\g<w.heap.size/\∀(j:Nat) x,xs[j]? =some x->∀(i:Nat) u,(rwC x)[i]? =some u->w.cell? ⟨g,o+j*5+i,none⟩=some u)
theorem aHy.setRow {k:Nat} (h:aHy w v xs k) (ds:Array dG):RwsAt (w.setRow k ds) v xs:=by
 obtain⟨A,c,n,r,d⟩:=h;refine⟨A,c,n,r,fun t=>?_⟩;obtain⟨g,o,s,f,l,q⟩:=d t;have e:=setRow_other w k g ds f
 have b:g<(w.setRow k ds).heap.size:=by
  have m:w.heap[g]? =some w.heap[g]:=Array.getElem?_eq_getElem l;rw[<-e]at m;exact(cS.1 m).1
 exact⟨g,o,s,b,fun j x d i u p=>(cA (a:=⟨g,o+j*5+i,none⟩) e).trans (q j x d i u p)⟩
theorem RwsAt.off_zero (h:RwsAt w v xs) {k:Nat} {T:dI} {cs:List dG} (hk:BlkIs w k T cs) (hz:∀u∈cs,∀z,u= .int .i64 z->z=0) (hx:∀x∈xs,x.key≠0):aHy w v xs k:=by
 obtain⟨A,c,l,m,b⟩:=h;refine⟨A,c,l,m,fun j=>?_⟩;obtain⟨g,o,n,d,f⟩:=b j;refine⟨g,o,n,fun e=>?_,d,f⟩;subst e;obtain⟨x,a⟩:∃x,xs[0]? =some x:=⟨_,List.getElem?_eq_getElem j⟩;have i:=f 0 x a 1 _ rfl;rw[hk.cell]at i;exact hx x (cK a) (hz _ (cK i) _ rfl)
theorem aF1 (h:RwsAt w v xs) {k:Nat} {T:dI} {cs:List dG} (hk:BlkIs w k T cs) (i:Nat) (hno:∀s,s<=i->i<s+5->∃m,m<5/\∀z,cs[s+m]?≠some (.int .i64 z)) (u:dG):RwsAt (w.setCell (k,i) u) v xs:=by
 obtain⟨A,c,D,H,d⟩:=h;refine⟨A,c,D,H,fun K=>?_⟩;obtain⟨g,o,J,p,q⟩:=d K;refine⟨g,o,J,by simpa[World.setCell]using p,fun j x f b r l=>?_⟩;by_cases e:g=k
 . subst e;have G:=(cL.1 l).1;have F:(rwC x).length=5:=rfl
   have n:i≠o+j*5+b:=fun e=>by
    obtain⟨m,E,B⟩:=hno (o+j*5) (by omega) (by omega)
    obtain⟨y,C⟩:∃y,(rwC x)[m]? =some (.int .i64 y):=by
     match m,E with
     | 0,_=>exact⟨_,rfl⟩
     | 1,_=>exact⟨_,rfl⟩
     | 2,_=>exact⟨_,rfl⟩
     | 3,_=>exact⟨_,rfl⟩
     | 4,_=>exact⟨_,rfl⟩
    have t:=q j x f m _ C;rw[hk.cell]at t;exact B y t
   rw[(hk.set i u).cell,List.getElem?_set_ne n,<-hk.cell];exact q j x f b r l
 . exact(cA (a:=⟨g,o+j*5+b,none⟩) (heap_setCell_other w ⟨k,i,none⟩ g u e)).trans (q j x f b r l)
theorem aRu (st:StT) (gd:GoodS st) (q:Qy) (g:GoodQ q) (tn base:Int) (rv:dG) (l:List Rec) (A:Option Addr) (cc:Nat) (s':StT) (hrun:runS st l=some s') (hl:l.length<=64) (hb1:base=st.pos) (hb2:0<=base) (hb3:base<=10000) (w:dF)
 (hr:RgsAt w rv st.rows (aCo q st.rows)) (h100:(aAy q st.rows).length<=100) (hx:aCj w (.slice A l.length cc) l) :
 dJ prog 8 #[bEc q tn base rv,.slice A l.length cc] w fun e w'=>
  ((∃r since v1 A2 n2 c2 A3 n3 c3,replayQ q (evalQ q st.rows) base l=some (r,since)/\e= .returned (.tuple #[bF4 q v1 r since (base+(l.length:Nat)) base (.slice A2 n2 c2) (.slice A3 n3 c3),true])/\RwsAt w' v1 r.rows)\/(replayQ q (evalQ q st.rows) base l=none/\e= .returned (.tuple #[bF3,false])))/\dH w w w':=by
  obtain⟨RA,rc,rfl,-⟩:=hr.form;have b:=fun W (B:dH w w W)=>aQv st gd q g _ W (hr.below B) h100
  have a4:=fun W (B:dH w w W)=>aSz _ st.rows _ W (hr.below B) (by
   unfold aCo aFt;rw[List.length_cons];split
   . rw[List.length_map];omega
   . simp)
  have a3:=fun W (B:dH w w W)=>aQk _ l W (hx.below B) (by omega);have d:=fun v W (B:dH w w W) hv=>aNp q g st gd l s' hrun (by omega) base hb1 hb2 hb3 v A cc W hv (hx.below B)
  have T:∀r since,replayQ q (evalQ q st.rows) base l=some (r,since)->∀x∈r.rows,x.key≠0:=fun r since h x hx=>by
   obtain⟨e,-⟩:=aGq gd hrun (by omega) h;have hg:=(aBy gd hrun).1;rw[e]at hx;have hb:=(aHn (q:=q) hg.rows).rows x hx;have:=(aI1 hb).2.2.1;omega
  obtain⟨SN,au⟩:=ex_ ((aCo q st.rows).length);obtain⟨N,hN⟩:=ex_ l.length;obtain⟨R,hR⟩:=ex_ (evalQ q st.rows);obtain⟨P,hP⟩:=ex_ (replayQ q R base l);rw[<-au]at b a4⊢;rw[<-hN]at a3 d hl⊢;rw[<-hR]at b d⊢;rw[<-hP]at d⊢;obtain⟨C,O,aL,aK,y⟩:=aDs (fun r since (h:P=some (r,since))=>T r since (by rw[<-hR,<-hP];exact h)) b a4 a3 d;clear T b a4 a3 d au hN hR hP hr hx h100 hrun gd g hb1;obtain⟨wb,HZ,HW,HB,KE,KT⟩:=aNb w [q.kind,q.table,q.column,q.low,q.high,q.by_,q.other,tn,base,.slice RA SN rc] 42 [(),(),(),(),(),(),(),.slice none 0 0,(),false,(),(),(),.slice none 0 0,.slice none 0 0] 38
  (try unfold qV at O)
  (try unfold qV at y)
  (try unfold resV at O)
  (try unfold resV at y)
  unfold bEc;go_enter func8,ntmps8
  go_upto_region 1 with fail
  rw[<-HW.out];obtain⟨z0,z1,z2,z3,z4,z5,z6,z7,z8,z9⟩:=KE.C10;go_wp2_with fail
  refine(O.out wb HB.out).mono ?_;rintro e w1 ⟨v1,rfl,J,b1⟩;obtain⟨A9,c9,rfl,-⟩:=J.form;obtain⟨N9,av⟩:=ex_ R.rows.length;rw[<-av]at J⊢;obtain⟨aI,aF,aD,aN⟩:=aBp J (KE.later b1) (KT.later b1) (bA HB.out b1);clear b1 J av HW KE KT HB O HZ z0 z1 z2 z3 z4 z5 z6 z7 z8 z9
  go_upto_region 2 with(first
   | (refine aAi rfl 35 (.tmp 6) (.tmp 15) rfl w1.heap.size #[.slice A9 N9 c9,R.value,R.found] _ 35 rfl rfl rfl Tryz.infoRes3 rfl (by simp[bB]) ?_)
   | fail)
  have b2:=Below.one w1 (.cells #[.slice A9 N9 c9,R.value,R.found] 35);have S:BlkIs (w1.alloc (.cells #[.slice A9 N9 c9,R.value,R.found] 35)) w1.heap.size 35 [.slice A9 N9 c9,R.value,R.found]:=aAp _ _ _ rfl rfl;obtain⟨X6,hX⟩:=ex_ w1.heap.size;generalize w1.alloc (.cells #[.slice A9 N9 c9,R.value,R.found] 35)=w2 at b2 S⊢;rw[<-hX]at S⊢;obtain⟨bq,M,aC,ai,bl⟩:=aDs (aI.below b2) (aF.later b2) (aD.later b2) (bA aN.out b2) S;clear b2 S hX aI aF aD aN;have t1:decide ((64:Int)<(N:Int))=false:=by rw[decide_eq_false_iff_not];omega
  have ha:cM.wrap (base+(N:Int))=base+(N:Int):=by rw[bV];omega
  go_upto_region 4 with fail
  have HS:=hid (fun(W:dF) (B:dH w2 w2 W)=>(show(fun W=>W.rangeAt w.heap.size 0 q/\W.cell? (w,8)=some (.int .i64 base)/\W.cell? (w,9)=some (.slice RA SN rc)) W from⟨(M.later B).rangeAt (by intro j u k;rw[cR];have hj:=(cL.1 k).1;match j,hj,k with|0,_,k=>exact k|1,_,k=>exact k|2,_,k=>exact k|3,_,k=>exact k|4,_,k=>exact k|5,_,k=>exact k|6,_,k=>exact k),(M.later B).cell 8,(M.later B).cell 9⟩));have Z:dH w2 w2 w2.drew:=bW (bX _ _);refine aIu (.take 0 (.take 1 (.take 2 (.take 3 (.take 4 (.take 5 (.take 6 (.take 7 (.take 8 (.take 9 (.take 10 (.take 12 (.fork 11 (.fork 13 (.take 14 (.step 15 (.step 16 .done))) 15 (.step 13 (.take 14 (.step 16 .done)))) 15 (.step 11 (.step 13 (.take 14 (.step 16 .done))))))))))))))))) HS Z ?_;obtain⟨wd,an⟩:=ex_ w2.drew;rw[<-an]at Z⊢;clear an t1
  repeat' (first
   | (refine aAd.A0 ?_ (hy:=by intro wq bg;exact aBl 29 _ rfl w.heap.size 0 rfl q _ bg.1 underlying29 rfl Tryz.infoQry7))
   | refine aAd.A0 ?_|refine aAd.AG ?_|refine aAd.AS ?_|with_reducible apply aAd.step|with_reducible apply aAd.fork|with_reducible apply aAd.fork3|refine GoT.A0 ?_|refine GoT.AG ?_|refine GoT.AS ?_
   | (first
      | refine bT ?_|refine GoT.PG ?_
      intro K hK;go_simp
      first
      | (obtain⟨wx,a,am,a5,F,KA,-⟩:=Below.fresh Z #[(),(),(),(),(),(),(),.slice none 0 0,(),false,(),(),(),.slice none 0 0,.slice none 0 0] 38;rw[<-am,<-a5];have af:w2.heap.size<=a:=(by rw[a5];exact Z.size);replace Z:=bA Z F;clear F am a5)
      | (go_at_call 17;refine(aL.out _ (bA ai.out Z)).mono ?_;rintro e wx ⟨v2,rfl,ap,F⟩;obtain⟨H,E,rfl,-⟩:=ap.form;obtain⟨n2,ar⟩:=ex_ ((aCo q st.rows).length);rw[<-ar];clear ar ap;replace Z:=bA Z F;(try replace KA:=KA.later F);clear F;go_wp2_with fail)
      | (go_at_call 18;refine(aK.out _ (bA ai.out Z)).mono ?_;rintro e wx ⟨v3,rfl,ao,F⟩;obtain⟨G,D,rfl,-⟩:=id ao;obtain⟨n3,aq⟩:=ex_ l.length;rw[<-aq];clear aq ao;replace Z:=bA Z F;(try replace KA:=KA.later F);clear F;go_wp2_with fail)
      | fail
      refine hK.out _ _ ?_ (fun _=>?_)
      . exact HS.out _ Z
      clear hK K;try simp only[cT,sx1,sx2,sx3]))
  all_goals (
   refine bT ?_;intro K hK;refine wp_store_row 38 (.tmp 8) (.tmp 39) rfl a #[q.kind,q.table,q.column,q.low,q.high,q.by_,q.other,.slice none 0 0,(),false,(),.int .i64 (base+(N:Int)),base,.slice H n2 E,.slice G n3 D] rfl rfl 38 _ KA Tryz.infoAns rfl (by simp[bB]) ?_;have K9:=hid (KA.setRow [q.kind,q.table,q.column,q.low,q.high,q.by_,q.other,.slice none 0 0,(),false,(),.int .i64 (base+(N:Int)),base,.slice H n2 E,.slice G n3 D]);have U:=below_setRow Z af #[q.kind,q.table,q.column,q.low,q.high,q.by_,q.other,.slice none 0 0,(),false,(),.int .i64 (base+(N:Int)),base,.slice H n2 E,.slice G n3 D];refine hK.out _ _ (HS.out _ U) (fun _=>?_);clear hK K KA Z;generalize wx.setRow a #[.int .i64 q.kind,.int .i64 q.table,.int .i64 q.column,.int .i64 q.low,.int .i64 q.high,.int .i64 q.by_,.int .i64 q.other,.slice none 0 0,.int .i64 0,.bool false,.int .i64 0,.int .i64 (base+(N:Int)),.int .i64 base,.slice H n2 E,.slice G n3 D]=wy at K9 U⊢;try simp only[cT]
   refine aAd.fin ?_;obtain⟨aE,aB,ab,ah,aH,aG⟩:=aIl (M.later U) (aC.later U) (bl.later U) (bA ai.out U) (show w.heap.size+1<w2.heap.size from aC.lt) af;have aM:=hid (y.out (.slice A9 N9 c9) wy ah.out (bq.below U));clear U HS af;obtain⟨z0,z1,z2,z3,z4,z5,z6,z7,z8,z9⟩:=aE.C10;have bf:=ab.out
   go_wp2_with (first
    | (refine wpList_load_row rfl 35 (.tmp 6) rfl (X6) rfl 35 #[.slice A9 N9 c9,R.value,R.found] (0,0) _ ab.out underlying35 rfl Tryz.infoRes3 ?_)
    | fail)
   refine(aM.out).mono ?_;rintro e w8 ⟨ho,b8⟩;obtain⟨L,m,Q⟩:=aAw (aB.later b8) (K9.later b8) (bA ah.out b8);clear b8 z0 z1 z2 z3 z4 z5 z6 z7 z8 z9 bf aE aB ab ah aM K9 y aL aK;have a7:=m.cell 7;have a8:=m.cell 8;have a9:=m.cell 9;have az:=m.cell 10;have f7:=m.frozen 7;have f8:=m.frozen 8;have f9:=m.frozen 9;have ay:=m.frozen 10;have f:a≠w.heap.size+1:=by have:=aG.out;have:=aH.out;omega
   have i:w.heap.size<=a:=by have:=aG.out;have:=aH.out;omega
   rcases ho with⟨r,since,v',hp,rfl,hv'⟩|⟨hp,rfl⟩
   . obtain⟨z,o,rfl,-⟩:=hv'.form;obtain⟨t,aw⟩:=ex_ r.rows.length;rw[<-aw]at hv'⊢;obtain⟨HP,bp,ad,c⟩:=aBp hp hv' ((((m.set 7 (.slice z t o)).set 8 (.int .i64 r.value)).set 9 (.bool r.found)).set 10 (.int .i64 since)) ((((L.other (p:=⟨a,7,none⟩) (fun e=>f e.symm) (.slice z t o)).other (p:=⟨a,8,none⟩) (fun e=>f e.symm) (.int .i64 r.value)).other (p:=⟨a,9,none⟩) (fun e=>f e.symm) (.bool r.found)).other (p:=⟨a,10,none⟩) (fun e=>f e.symm) (.int .i64 since));have hw:=C.out r since hp;obtain⟨n,ag,aJ⟩:=aAw ((((Q.setCell (p:=⟨a,7,none⟩) i (.slice z t o)).setCell (p:=⟨a,8,none⟩) i (.int .i64 r.value)).setCell (p:=⟨a,9,none⟩) i (.bool r.found)).setCell (p:=⟨a,10,none⟩) i (.int .i64 since)) (aF1 (aF1 (aF1 (aF1 hv' m.out 7 (by intro s h1 h2;have hs:s=3\/s=4\/s=5\/s=6\/s=7:=(by omega);rcases hs with rfl|rfl|rfl|rfl|rfl;exact⟨4,by decide,by simp⟩;exact⟨3,by decide,by simp⟩;exact⟨2,by decide,by simp⟩;exact⟨1,by decide,by simp⟩;exact⟨0,by decide,by simp⟩) (.slice z t o)) (m.set 7 (.slice z t o)) 8 (by intro s h1 h2;have hs:s=4\/s=5\/s=6\/s=7\/s=8:=(by omega);rcases hs with rfl|rfl|rfl|rfl|rfl;exact⟨3,by decide,by simp⟩;exact⟨2,by decide,by simp⟩;exact⟨1,by decide,by simp⟩;exact⟨0,by decide,by simp⟩;exact⟨1,by decide,by simp⟩) (.int .i64 r.value)) ((m.set 7 (.slice z t o)).set 8 (.int .i64 r.value)) 9 (by intro s h1 h2;have hs:s=5\/s=6\/s=7\/s=8\/s=9:=(by omega);rcases hs with rfl|rfl|rfl|rfl|rfl;exact⟨4,by decide,by simp⟩;exact⟨3,by decide,by simp⟩;exact⟨2,by decide,by simp⟩;exact⟨1,by decide,by simp⟩;exact⟨0,by decide,by simp⟩) (.bool r.found)) (((m.set 7 (.slice z t o)).set 8 (.int .i64 r.value)).set 9 (.bool r.found)) 10 (by intro s h1 h2;have hs:s=6\/s=7\/s=8\/s=9\/s=10:=(by omega);rcases hs with rfl|rfl|rfl|rfl|rfl;exact⟨3,by decide,by simp⟩;exact⟨2,by decide,by simp⟩;exact⟨1,by decide,by simp⟩;exact⟨0,by decide,by simp⟩;exact⟨3,by decide,by simp⟩) (.int .i64 since)) hw;clear hw hv' hp aw bp C;go_upto_region 6 with fail
     generalize (((w8.setCell (a,7) (.slice z t o)).setCell (a,8) (.int .i64 r.value)).setCell (a,9) (.bool r.found)).setCell (a,10) (.int .i64 since)=w9 at ad c n ag⊢;clear a7 a8 a9 az f7 f8 f9 ay m L Q;have aA:=hid (ag.off_zero c.out (by simp) aJ.out)
     go_wp2_with (first
      | (refine wpList_load_row rfl 38 (.tmp 8) rfl (a) rfl 38 #[q.kind,q.table,q.column,q.low,q.high,q.by_,q.other,.slice z t o,r.value,r.found,since,.int .i64 (base+(N:Int)),base,.slice H n2 E,.slice G n3 D] (0,0) _ ad.out underlying38 rfl Tryz.infoAns ?_)
      | (refine wpList_store_row rfl 38 (.tmp 4) (.tmp 56) rfl (w.heap.size+1) #[q.kind,q.table,q.column,q.low,q.high,q.by_,q.other,.slice z t o,r.value,r.found,since,.int .i64 (base+(N:Int)),base,.slice H n2 E,.slice G n3 D] rfl rfl 38 _ c.out Tryz.infoAns rfl (by simp[bB]) ?_)
      | fail)
     obtain⟨KF,BF,VF⟩:=aAw (c.setRow [q.kind,q.table,q.column,q.low,q.high,q.by_,q.other,.slice z t o,r.value,r.found,since,.int .i64 (base+(N:Int)),base,.slice H n2 E,.slice G n3 D]) (below_setRow n.out (show w.heap.size<=w.heap.size+1 by omega) #[q.kind,q.table,q.column,q.low,q.high,q.by_,q.other,.slice z t o,r.value,r.found,since,.int .i64 (base+(N:Int)),base,.slice H n2 E,.slice G n3 D]) (aA.setRow #[q.kind,q.table,q.column,q.low,q.high,q.by_,q.other,.slice z t o,r.value,r.found,since,.int .i64 (base+(N:Int)),base,.slice H n2 E,.slice G n3 D]);generalize w9.setRow (w.heap.size+1) #[.int .i64 q.kind,.int .i64 q.table,.int .i64 q.column,.int .i64 q.low,.int .i64 q.high,.int .i64 q.by_,.int .i64 q.other,.slice z t o,.int .i64 r.value,.bool r.found,.int .i64 since,.int .i64 (base+(N:Int)),.int .i64 base,.slice H n2 E,.slice G n3 D]=wf at KF BF VF⊢;obtain⟨k0,k1,S,k3,k4,k5,k6,k7,k8,k9,a1,a0,Y,X,V⟩:=KF.C15;clear KF ad c n ag aA;refine bodyPost_ret (by simp[results,results8,go_sem,k0,k1,S,k3,k4,k5,k6,k7,k8,k9,a1,a0,Y,X,V];try rfl) rfl ?_;exact⟨.inl ⟨r,since,_,_,_,_,_,_,_,HP.out,rfl,VF.out⟩,BF.out⟩
   . have HP:=hid hp;have c:=hid ((((L.other (p:=⟨a,7,none⟩) (fun e=>f e.symm) (.slice none 0 0)).other (p:=⟨a,8,none⟩) (fun e=>f e.symm) (.int .i64 res0.value)).other (p:=⟨a,9,none⟩) (fun e=>f e.symm) (.bool res0.found)).other (p:=⟨a,10,none⟩) (fun e=>f e.symm) (.int .i64 0));have n:=hid ((((Q.setCell (p:=⟨a,7,none⟩) i (.slice none 0 0)).setCell (p:=⟨a,8,none⟩) i (.int .i64 res0.value)).setCell (p:=⟨a,9,none⟩) i (.bool res0.found)).setCell (p:=⟨a,10,none⟩) i (.int .i64 0));clear hp C;go_upto_region 6 with fail
     generalize (((w8.setCell (a,7) (.slice none 0 0)).setCell (a,8) (.int .i64 res0.value)).setCell (a,9) (.bool res0.found)).setCell (a,10) (.int .i64 0)=w9 at c n⊢;clear a7 a8 a9 az f7 f8 f9 ay m L Q;go_upto_region 7 with fail
     go_step
     refine aNe rfl 38 rfl #[(),(),(),(),(),(),(),.slice none 0 0,(),false,(),(),(),.slice none 0 0,.slice none 0 0] aZa ?_;refine aBq ?_
     (refine wpList_store_row rfl 38 (.tmp 4) (.tmp 55) rfl (w.heap.size+1) #[(),(),(),(),(),(),(),.slice none 0 0,(),false,(),(),(),.slice none 0 0,.slice none 0 0] rfl rfl 38 _ c.out Tryz.infoAns rfl (by simp[bB]) ?_)
     try simp only[cT]
     go_wp2_with fail
     have KF:=hid (c.setRow [(),(),(),(),(),(),(),.slice none 0 0,(),false,(),(),(),.slice none 0 0,.slice none 0 0]);have BF:=hid (below_setRow n.out (show w.heap.size<=w.heap.size+1 by omega) #[(),(),(),(),(),(),(),.slice none 0 0,(),false,(),(),(),.slice none 0 0,.slice none 0 0]);generalize w9.setRow (w.heap.size+1) #[.int .i64 0,.int .i64 0,.int .i64 0,.int .i64 0,.int .i64 0,.int .i64 0,.int .i64 0,.slice none 0 0,.int .i64 0,.bool false,.int .i64 0,.int .i64 0,.int .i64 0,.slice none 0 0,.slice none 0 0]=wf at KF BF⊢;obtain⟨k0,k1,S,k3,k4,k5,k6,k7,k8,k9,a1,a0,Y,X,V⟩:=KF.C15;clear KF c n;refine bodyPost_ret (by simp[results,results8,go_sem,k0,k1,S,k3,k4,k5,k6,k7,k8,k9,a1,a0,Y,X,V];try rfl) rfl ?_;exact⟨.inr ⟨HP.out,rfl⟩,BF.out⟩
   )
theorem aPl (w:dF):(Instr.makeSlice 26 (.int .i64 0) (.int .i64 1)).run prog w= .ok (.slice (some (w,0)) 0 1) (w.alloc (.cells #[(),.slice none 0 0] 51)):=by kernel_rfl
theorem aXe (w:dF):(w.alloc (.cells #[(),.slice none 0 0] 51)).ownsRow w.heap.size 51 2 (.slice (some (w,0)) 0 1) 0 []:=
 ⟨rfl,.inr ⟨w.heap.size,1,#[(),.slice none 0 0],rfl,bP _,heap_alloc_new w _,by omega,by unfold maxLen;omega,rfl,rfl⟩⟩
theorem bB3 (C P X I K Y gw cw vc:Nat) (vA:Option Addr) (rv:dG) (key:ByteArray) (w:dF) (hC:BlkIs w C 87 [(2:Int),.slice (some (gw,0)) 1 cw,.pointer (some (P,0)),.pointer (some (X,0)),.map (some I),.map (some K),(1:Int)]) (hI:MapIs w I #[⟨.string key,.pointer (some (Y,0)),0⟩] 1) (hY:BlkIs w Y 93 [(3:Int),(),(1:Int),(10:Int),(19:Int),(),(),(),(1:Int),rv,(1:Int),.slice vA 0 vc,(2:Int),false,(2:Int)]) (hr:RgsAt w rv awS.rows [awC]) (hw:aCj w (.slice (some (gw,0)) 1 cw) [aNc]) :
 dJ prog 14 #[.pointer (some (C,0)),.string key] w fun e w'=>∃v1 c1 A2 n2 c2 A3 n3 c3,e= .returned (.tuple #[.agg #[(3:Int),(),(1:Int),(10:Int),(19:Int),(),(),.slice v1 0 c1,(2:Int),false,(2:Int),(2:Int),(1:Int),.slice A2 n2 c2,.slice A3 n3 c3],.bool true])/\dH w w w':=by
 obtain⟨i0,hi,aT,aS,aR⟩:=aRf;have o:=aPl;have aq:=hid o;have KC:=hid hC;obtain⟨A',c',ac,af,a6⟩:=hw;obtain⟨E,oq,ai,A,aa⟩:=a6 (by simp);have aV:E=gw/\oq=0/\c'=cw:=by injection ac with e1 _ e3;rw[ai]at e1;injection e1 with e2;injection e2 with e4 e5 _;exact⟨e4.symm,e5.symm,e3.symm⟩
 obtain⟨rfl,rfl,rfl⟩:=aV;obtain⟨a8,cv,ae,f⟩:=aa 0 aNc rfl;obtain⟨R,N,rfl,-⟩:=id f;obtain⟨HW,bf,au⟩:=aAw (show w.cell? (E,0)=some (.int .i64 2)/\w.cell? (E,1)=some (.slice R 1 N)/\E<w.heap.size/\1<=c' from⟨a8,ae,A,af⟩) (show aCc w (.slice R 1 N) [aGl]from f) (fun(V:dF) (g:dH w w V)=>aVu C P X I K Y E c' vc vA rv key V (hC.later g) (hI.later g) (hY.later g) (hr.below g));clear hC hI hY hr ac a6 ai A aa a8 ae f af o;go_enter func14,ntmps14
 go_upto_region 1 with fail
 have HB:=hid (cQ w (.cells #[(),(),(),(),(),(),(),.slice none 0 0,(),false,(),(),(),.slice none 0 0,.slice none 0 0] 38));have KA:=hid (show BlkIs (w.alloc (.cells #[(),(),(),(),(),(),(),.slice none 0 0,(),false,(),(),(),.slice none 0 0,.slice none 0 0] 38)) w.heap.size 38 [(),(),(),(),(),(),(),.slice none 0 0,(),false,(),(),(),.slice none 0 0,.slice none 0 0]from aAo _ _ _ rfl);generalize w.alloc (.cells #[(),(),(),(),(),(),(),.slice none 0 0,(),false,(),(),(),.slice none 0 0,.slice none 0 0] 38)=w1 at *;go_wp2_with fail
 (with_reducible refine(au.out w1 HB.out).mono ?_)
 rintro e w2 ⟨bu,rfl,m,b2⟩;have L:=m.form;obtain⟨Z,U,rfl,-⟩:=L;simp only[cG]at m⊢;go_upto_region 2 with fail
 have be:=cQ w2 (.cells #[(3:Int),(),(1:Int),(10:Int),(19:Int),(),(),(),(1:Int),.slice Z 1 U] 42);have ke:=(show BlkIs (w2.alloc (.cells #[(3:Int),(),(1:Int),(10:Int),(19:Int),(),(),(),(1:Int),.slice Z 1 U] 42)) w2.heap.size 42 [(3:Int),(),(1:Int),(10:Int),(19:Int),(),(),(),(1:Int),.slice Z 1 U]from aAo _ _ _ rfl);obtain⟨eb,M⟩:=ex_ w2.heap.size;rw[<-M]at ke⊢;have KE:=hid ke;have O:=bA b2 be;obtain⟨b3,ax,ba,bF⟩:=aBp (KA.later O) (bA HB.out O) (m.below be) (show w.heap.size<eb by rw[M];exact bC KA.lt b2.size);clear b2 be ke M m O KA HB au;generalize w2.alloc (.cells #[(3:Int),(),(1:Int),(10:Int),(19:Int),(),(),(),(1:Int),.slice Z 1 U] 42)=w3 at *
 have ao:=hid (show∀V:dF,dH w3 w3 V->(fun V:dF=>V.cell? (eb,8)=some (.int .i64 1)/\V.cell? (C,0)=some (.int .i64 2)) V by
  intro V g;exact⟨(KE.later g).cell 8,((KC.later ax.out).later g).cell 0⟩)
 refine aIu (.take 0 (.take 1 (.take 2 (.take 3 (.take 4 (.take 5 (.take 6 (.take 7 (.take 8 (.take 9 (.take 10 .done))))))))))) ao (bW (bX _ w3)) ?_;obtain⟨wd,G⟩:=ex_ w3.drew;have c:=hid (show dH w3 w3 wd from by rw[G];exact bW (bX _ w3));rw[<-G];clear G;refine aLd ?_;refine aAd.fin ?_;have av:=hid (bA ax.out c.out);have y8:=(KE.later c.out).cell 8;dsimp only[aY,aZ]at y8;clear ao;go_wp2_with fail
 refine(aLy C 2 1 (some ⟨E,0,none⟩) 1 c' _ wd (KC.later av.out) (by omega) (by omega) HW.2.2.2 (fun h=>by cases h)).mono ?_;rintro e l ⟨rfl,b4⟩;have aw:=hid (bA av.out b4);have B4:=hid b4;have o:=aq.out;clear b4 y8;go_upto_region 6 with fail
 have bm:=cQ l (.cells #[(),.slice none 0 0] 51);have J:=aXe l;obtain⟨t,q⟩:=ex_ l.heap.size;rw[<-q]at J⊢;obtain⟨bc,ap,BM,ar⟩:=aBp (show t<(l.alloc (.cells #[(),.slice none 0 0] 51)).heap.size by rw[cU,<-q];omega) J bm (show t=l.heap.size/\eb<l.heap.size from⟨q,bC KE.lt (bU c.size B4.size)⟩);clear J bm q o aq;generalize l.alloc (.cells #[(),.slice none 0 0] 51)=wm at *;have Q:=hid (bA aw.out BM.out);have z0:=(Q.cell (p:=⟨E,0,none⟩) HW.2.2.1).trans HW.1;have z1:=(Q.cell (p:=⟨E,1,none⟩) HW.2.2.1).trans HW.2.1;go_wp2_with fail
 refine wp_loop_rounds 2 ?_;rw[rounds_succ];go_upto_region 9 with fail
 have bR:=cQ wm (.cells #[(2:Int),.slice R 1 N] 51);have kr:=(show BlkIs (wm.alloc (.cells #[(2:Int),.slice R 1 N] 51)) wm.heap.size 51 [(2:Int),.slice R 1 N]from aAo _ _ _ rfl);have KR:=hid kr;have BR:=hid bR;have r0:=kr.cell 0;have r1:=kr.cell 1;dsimp only[aY,aZ]at r0 r1;have F:=hid (aAr bR ap.out);clear bR kr z0 z1;generalize wm.alloc (.cells #[(2:Int),.slice R 1 N] 51)=wr at *;have bg:=hid (bA Q.out BR.out);go_wp2_with fail
 refine(aJ1 2 R N wr (bf.below bg.out)).mono ?_;rintro e T ⟨bt,rfl,n,b5⟩;obtain⟨Ah,ch,rfl,-,-,ag⟩:=aAa n;obtain⟨gh,rfl,ab,-,-⟩:=ag (by omega)
 have B:wr.heap.size<=gh:=by
  rcases n.2 with⟨h,_⟩|⟨g9,cap,cur,h,g,_⟩
  . cases h
  . cases h;exact g
 have bb:=hid n;have bd:=hid (show wr.heap.size<=gh/\t<wr.heap.size from⟨B,bC bc.out BR.size⟩);have x:=aAr b5 F.out;have B5:=hid b5;have z:l.heap.size<=T.heap.size:=by have h1:=BM.size;have h2:=BR.size;have h3:=b5.size;omega
 clear n ag ab B b5 r0 r1 ap F
 go_wp2_with (first
  | (at_builtin;refine wpList_append_own _ rfl _ _ 26 rfl t 51 i0 (.agg #[(),.slice none 0 0]) 2 32 underlying26 hi aT aS aR rfl (by decide) (.slice (some (t,0)) 0 1) 0 [] rfl (x.alloc _) ⟨T.heap.size,0,none⟩ 1 1 [(2:Int),.slice (some (gh,0)) 1 ch] rfl rfl (fun j u hu=>by rw[dA,cR,BlkIs.cell (show BlkIs (T.alloc (.cells #[(2:Int),.slice (some (gh,0)) 1 ch] 51)) T.heap.size 51 [(2:Int),.slice (some (gh,0)) 1 ch]from aAo _ _ _ rfl)];exact hu) (by simp[bB]) (by unfold maxLen;omega) (by omega) (by rw[cU];have:=ar.out;omega) ?_;intro v' w6 a d _;have v:Ch [t] T w6:=((dC [t] T).alloc _).grown (row:=some t) d (by intro k hk;cases hk;exact .inl (by simp));clear d x)
  | fail)
 rw[rounds_succ];obtain⟨Ag,cg,rfl,-,-,ah⟩:=aAa a;obtain⟨g6,rfl,-,-,-⟩:=ah (by omega);have D:=aA6 (S:=fun k=>k≠t) bb.out ⟨v.size,fun k hk hl=>v.block k hl (by simpa using hk)⟩ (fun b g=>by simp[bQ]at g;have:=bd.out;omega);have a7:=aJt a D (dC [] w6) (by simp) (by simp);have i:dH l l w6:=(bA (bA BM.out BR.out) B5.out).trans (v.below (by intro k hk;rw[List.mem_singleton.1 hk,ar.1];exact bP _) z);obtain⟨b0,b1,b8,B6,b7⟩:=aDs ((KE.later c.out).later (bA B4.out i)) ((b3.later c.out).later (bA B4.out i)) ((ba.below c.out).below (bA B4.out i)) (bA aw.out i) a7;clear a7 i D ah a v z
 go_wp2_with (first
  | (refine wpList_load_row rfl 42 (.tmp 6) rfl (eb) rfl 42 #[(3:Int),(),(1:Int),(10:Int),(19:Int),(),(),(),(1:Int),.slice Z 1 U] (0,0) _ b0.out underlying42 rfl aQh ?_)
  | fail)
 obtain⟨s9,aU⟩:=bDo;have s:=aRu awS aKo awQ aZi 0 1 (.slice Z 1 U) [aNc] (some ⟨g6,0,none⟩) cg s9 aU (by simp) rfl (by omega) (by omega) w6 (by rw[aKn];exact b8.out) aIg b7.out;unfold bEc awQ at s;simp only[cG]at s
 (with_reducible refine s.mono ?_)
 rintro e w9 ⟨y,b9⟩;clear s
 have H:∃v1 c1 A2 n2 c2 A3 n3 c3,e= .returned (.tuple #[.agg #[(3:Int),(),(1:Int),(10:Int),(19:Int),(),(),.slice v1 0 c1,(2:Int),false,(2:Int),(2:Int),(1:Int),.slice A2 n2 c2,.slice A3 n3 c3],.bool true]):=by
  rcases y with⟨r,since,v1,A2,n2,c2,A3,n3,c3,hrp,rfl,hv1⟩|⟨hrp,-⟩
  . have he:=hrp.symm.trans aO0;injection he with he
    injection he with e1 e2
    subst e1 e2;obtain⟨A1,c1,rfl,-⟩:=hv1.form;exact⟨A1,c1,A2,n2,c2,A3,n3,c3,rfl⟩
  . have he:=hrp.symm.trans aO0;cases he
 obtain⟨v1,c1,A2,n2,c2,A3,n3,c3,rfl⟩:=H;clear y;have am:=hid (b1.later b9);have B9:=hid (bA B6.out b9);clear b9
 go_wp2_with (first
  | (refine wpList_store_row rfl 38 (.tmp 4) (.tmp 56) rfl (w.heap.size) #[(3:Int),(),(1:Int),(10:Int),(19:Int),(),(),.slice v1 0 c1,(2:Int),false,(2:Int),(2:Int),(1:Int),.slice A2 n2 c2,.slice A3 n3 c3] rfl rfl 38 _ am.out Tryz.infoAns rfl (by simp[bB]) ?_)
  | fail)
 have k4:=hid (am.setRow [(3:Int),(),(1:Int),(10:Int),(19:Int),(),(),.slice v1 0 c1,(2:Int),false,(2:Int),(2:Int),(1:Int),.slice A2 n2 c2,.slice A3 n3 c3]);have b4:=below_setRow B9.out (bP _) #[(3:Int),(),(1:Int),(10:Int),(19:Int),(),(),.slice v1 0 c1,(2:Int),false,(2:Int),(2:Int),(1:Int),.slice A2 n2 c2,.slice A3 n3 c3];generalize w9.setRow w.heap.size #[.int .i64 3,.int .i64 0,.int .i64 1,.int .i64 10,.int .i64 19,.int .i64 0,.int .i64 0,.slice v1 0 c1,.int .i64 2,.bool false,.int .i64 2,.int .i64 2,.int .i64 1,.slice A2 n2 c2,.slice A3 n3 c3]=wz at *;obtain⟨aP,aO,aN,aM,aL,aK,aJ,aI,aH,aG,a5,a4,a3,a2,a1⟩:=k4.C15;refine bodyPost_ret (by simp[results,results14,go_sem,aP,aO,aN,aM,aL,aK,aJ,aI,aH,aG,a5,a4,a3,a2,a1];try rfl) rfl ?_;exact⟨_,_,_,_,_,_,_,_,rfl,b4⟩
theorem aVr {w:dF} {g:Nat} {c:Chg} (h:BlkIs w g 48 (chgCells c)):aCc w (.slice (some (g,0)) 1 1) [c]:=by
 refine⟨_,_,rfl,bP _,fun _=>⟨g,0,rfl,h.lt,fun j x a i u b=>?_⟩⟩;cases j with
 | succ j=>simp at a
 | zero=>
   obtain rfl:c=x:=by simpa using a
   rw[show 0+0*10+i=i by omega,h.cell];exact b
theorem aZf (w:dF) (hR:aA4 w):dJ prog 4 #[] w fun e w'=>e= .returned (.bool true)/\dH w w w':=by
 have HR:=hid hR;clear hR;go_enter func4,ntmps4
 go_upto_region 3 with fail
 obtain⟨m,HZ,HW,HB,KA,KB,t,KQ⟩:=bEq w [(),(5:Int),false,(),(),(),true,(10:Int),(2:Int),(7:Int)] 48 [(),(6:Int),false,(),(),(),true,(11:Int),(9:Int),(7:Int)] 48 [(1:Int),.slice (some (w,0)) 1 1,(2:Int),.slice (some (w.heap.size+1,0)) 1 1] 51 [(3:Int),(),(1:Int),(10:Int),(19:Int),(),()] 29;try simp only[Nat.add_assoc]at HW
 rw[<-HW.out]
 have HL:=hid (show aCj m (.slice (some (w.heap.size+1+1,0)) 2 2) [bCf,aNc]from by
  refine⟨_,_,rfl,bP _,fun _=>⟨w.heap.size+1+1,0,rfl,t.lt,fun j r o=>?_⟩⟩
  match j,o with
  | 0,o=>
    obtain rfl:bCf=r:=by simpa using o
    refine⟨t.cell 0,_,t.cell 1,_,_,rfl,bP _,fun _=>⟨w.heap.size,0,rfl,KA.lt,fun j x F i u hu=>?_⟩⟩;cases j with
    | succ j=>simp[bCf]at F
    | zero=>
      obtain rfl:(⟨0,5,false,(0,0,0),true,(10,2,7)⟩:Chg)=x:=by simpa[bCf]using F
      rw[show 0+0*10+i=i by omega,KA.cell];exact hu
  | 1,o=>
    obtain rfl:aNc=r:=by simpa using o
    refine⟨t.cell 2,_,t.cell 3,_,_,rfl,bP _,fun _=>⟨w.heap.size+1,0,rfl,KB.lt,fun j x F i u hu=>?_⟩⟩;cases j with
    | succ j=>simp[aNc]at F
    | zero=>
      obtain rfl:aGl=x:=by simpa[aNc,aGl]using F
      rw[show 0+0*10+i=i by omega,KB.cell];exact hu
  | j+2,o=>simp at o)
 clear HW;have ac:=hid (show aCc m (.slice (some (w.heap.size+1,0)) 1 1) [aGl]from aVr (c:=aGl) KB.out);go_wp2_with fail
 have b5:=cQ m (.cells #[(5:Int)] 3);have k5:=(show BlkIs (m.alloc (.cells #[(5:Int)] 3)) m.heap.size 3 [(5:Int)]from aAo _ _ _ rfl)
 (with_reducible refine(bB2 m.heap.size 1 _ k5).mono ?_)
 rintro e w2 ⟨C,P,X,I,K,Q,U,E,rfl,hN,H,b2⟩;obtain⟨a3,ab,BN,aR⟩:=aBp hN H (bA b5 b2) b5.size;clear b5 k5 hN H b2;have Z:BlkIs w2 (w.heap.size+1+1+1) 29 [(3:Int),(),(1:Int),(10:Int),(19:Int),(),()]:=KQ.later BN.out;have a7:=hid Z;have d:=aJe (.slice (some (w.heap.size+1+1,0)) 2 2) [bCf,aNc] 1 (by simp) (by simp) awS bE9 awQ aZi 0 w2 (HL.below BN.out) ((HR.later HB.out).later BN.out) aIg;rw[aKn]at d;unfold qV awQ at d;dsimp only at d;simp only[show((1:Nat):Int)=1 from rfl]at d;have O:=hid d;clear d Z;obtain⟨q0,q1,Z,q3,q4,q5,q6⟩:=a7.C7;go_wp2_with fail
 (with_reducible refine O.out.mono ?_)
 rintro e w3 ⟨rv,rfl,l,b3⟩;have q:=l.form;obtain⟨RA,rc,rfl,-⟩:=q;simp only[cG]at l⊢;have aa:=hid l;have B3:=hid b3;clear b3 l O q0 q1 Z q3 q4 q5 q6;have R:=hid (bB1 C P X I K Q U E (.slice RA 1 rc) w3 (a3.later B3.out) aa.out);go_wp2_with fail
 (with_reducible refine R.out.mono ?_)
 rintro e w4 ⟨rfl,⟨Y,v,B,N,hP⟩,L⟩;obtain⟨f,T,h⟩:=aAw hP (((dD (S:=[C,P,X,I,K,Q,U,E]) BN.out).trans (.of_below B3.out)).trans L) (show∀b∈[C,P,X,I,K,Q,U,E],m.heap.size<=b from fun b hb=>bU (by rw[cU];omega) (ab.out b hb));have a:=hid (T.below h.out (bP _));have k2:=t.later a.out;have l2:=k2.cell 2;have l3:=k2.cell 3;dsimp only[aY,aZ]at l2 l3
 have n:w.heap.size+1∉[C,X,Y]:=by
  have h1:=f.ny;have h2:=f.bn;have h3:=f.lo C (by simp);have h4:=h.out C (by simp);have h5:=h.out X (by simp);have h6:=HZ.out;simp only[cC,bJ,or_false,not_or];exact⟨by omega,by omega,by omega⟩
 have V:=hid (aVv C P X I K Q Y (w.heap.size+1) 0 1 B N v w4 f.out (ac.below a.out) n);clear hP L n R k2;go_wp2_with fail
 (with_reducible refine V.out.mono ?_)
 rintro e w5 ⟨g,c,gw,cw,vA,vc,rfl,D,y,z,A,s⟩
 have G:=(f.r.ch s (by
  intro k J;simp only[cC,bJ,or_false]at J;rcases J with rfl|rfl|rfl
  . exact .inl (f.lo _ (by simp))
  . exact .inl (f.lo _ (by simp))
  . exact .inr f.ny)).here
 have p:=bB3 C P X I K Y gw cw vc vA v prtKey w5 D A z G y;unfold prtKey at p;have M:=hid p;have ad:=hid s;clear D y z A s G p V l2 l3;go_wp2_with fail
 (with_reducible refine M.out.mono ?_)
 rintro e w6 ⟨v1,c1,A2,n2,c2,A3,n3,c3,rfl,b6⟩;have B6:=hid b6;clear b6 M;go_wp2_with fail
 have a4:dH m w4 w5:=ad.below (by
  have h1:=f.ny;have h2:=f.bn;have h3:=f.lo C (by simp);have h4:=h.out C (by simp);have h5:=h.out X (by simp);intro k J;simp only[cC,bJ,or_false]at J;rcases J with rfl|rfl|rfl
  . exact h4
  . exact h5
  . omega) a.size
 have a5:=bA (a.trans a4) B6.out;have hz:=bA HB.out a5;go_ret;exact⟨rfl,hz.alloc hz.size _⟩
theorem aTg (x:Int) (hx: -9223372036854775808<=x/\x<=9223372036854775807): -9223372036854775808<=x.tdiv 7/\x.tdiv 7<=9223372036854775807:=by
 by_cases h:0<=x
 . rw[cH h];omega
 . have e:x.tdiv 7= -((-x).tdiv 7):=by rw[Int.neg_tdiv,Int.neg_neg]
   have a:0<= -x:=by omega
   rw[e,cH a];omega
theorem aNf (x:Int) (hx: -9223372036854775808<=x/\x<=9223372036854775807): -9223372036854775808<=x.tdiv 3/\x.tdiv 3<=9223372036854775807:=by
 by_cases h:0<=x
 . rw[cH h];omega
 . have e:x.tdiv 3= -((-x).tdiv 3):=by rw[Int.neg_tdiv,Int.neg_neg]
   have a:0<= -x:=by omega
   rw[e,cH a];omega
theorem bDp (x0 x1 x2 x3 x4:Int) (w:dF) (b0: -9223372036854775808<=x0/\x0<=9223372036854775807) (b1: -9223372036854775808<=x1/\x1<=9223372036854775807) (b2: -9223372036854775808<=x2/\x2<=9223372036854775807) (b3: -9223372036854775808<=x3/\x3<=9223372036854775807) (b4: -9223372036854775808<=x4/\x4<=9223372036854775807) :
 dJ prog 6 #[.agg #[x0,x1,x2,x3,x4]] w fun e w'=>∃q,GoodQ q/\e= .returned (qV q)/\dH w w w':=by
 obtain⟨G,HZ,HW,HB,KX,KT⟩:=aNb w [x0,x1,x2,x3,x4] 23 [(),(),(),(),(),(),()] 29;obtain⟨g,o⟩:=ex_ (aC3 x0 7);have ay:=aA3 x0 7 (by omega);obtain⟨d,hd⟩:=ex_ (x0.tdiv 7)
 have ar: -9223372036854775808<=d/\d<=9223372036854775807:=by
  rw[hd];exact aTg x0 b0
 obtain⟨T,hT⟩:=ex_ (aC3 d 3);have ax:=aA3 d 3 (by omega);have P1:=hid (fun W=>aDo x0 7 (by omega) (by omega) b0 W);have P2:=hid (fun W=>aDo d 3 (by omega) (by omega) ar W);rw[<-o]at P1 ay;rw[<-hT]at P2 ax;have hq:cM.wrap (x0.tdiv 7)=d:=by rw[bV,hd];omega
 have aK:cM.wrap (1+g)=1+g:=by rw[bV];omega
 clear o hT hd;go_enter func6,ntmps6
 go_upto_region 1 with fail
 rw[<-HW.out];go_cut [3] (fun tv k=>∃X,tv= .pointer (some ⟨X,0,none⟩)/\w.heap.size+1<X/\Hid (BlkIs k X 29 [.int .i64 (1+g),T,(),(),(),(),()])/\Hid (BlkIs k w 23 [x0,x1,x2,x3,x4])/\Hid (BlkIs k (w.heap.size+1) 29 [(),(),(),(),(),(),()])/\Hid (dH w w k))
 case first=>
  have F:=hid (fun(W:dF) (hW:dH G G W)=>(show(fun W=>W.cell? (w,0)=some (.int .i64 x0)) W from(KX.later hW).cell 0));have Z:dH G G G.drew:=bW (bX _ _);refine aIu (.take 0 (.take 1 (.take 4 (.take 5 (.take 6 (.fork 2 (.take 3 (.fork 7 (.take 8 (.step 9 (.step 10 .done))) 9 (.step 7 (.take 8 (.step 10 .done))))) 9 (.step 2 (.take 3 (.step 7 (.take 8 (.step 10 .done))))))))))) F Z ?_;obtain⟨wd,a3⟩:=ex_ G.drew;rw[<-a3]at Z⊢;clear a3
  repeat' (first
   | refine aAd.A0 ?_|refine aAd.AG ?_|refine aAd.AS ?_|with_reducible apply aAd.step|with_reducible apply aAd.fork|with_reducible apply aAd.fork3|refine GoT.A0 ?_|refine GoT.AG ?_|refine GoT.AS ?_
   | (first
      | refine bT ?_|refine GoT.PG ?_
      intro K o;go_simp
      first
      | (obtain⟨k,X8,f,L,bx,KA,-⟩:=Below.fresh Z #[(),(),(),(),(),(),()] 29;rw[<-f,<-L];have M:G.heap.size<=X8:=(by rw[L];exact Z.size);replace Z:=bA Z bx;clear bx f L)
      | (go_at_call 7;(with_reducible refine(P1.out _).mono ?_);rintro e k ⟨rfl,f⟩;rw[f];clear f k;go_wp2_with fail)
      | (go_at_call 7;(with_reducible refine(P2.out _).mono ?_);rintro e k ⟨rfl,f⟩;rw[f];clear f k;go_wp2_with fail)
      | fail
      refine o.out _ _ ?_ (fun _=>?_)
      . exact F.out _ Z
      clear o K;try simp only[cT,sx1,sx2,sx3]))
  all_goals (
   refine bT ?_;intro K o;refine wp_store_row 29 (.tmp 3) (.tmp 12) rfl X8 #[.int .i64 (1+g),T,(),(),(),(),()] rfl rfl 29 _ KA Tryz.infoQry7 rfl (by simp[bB]) ?_;have K9:=hid (KA.setRow [.int .i64 (1+g),T,(),(),(),(),()]);have Y:=below_setRow Z M #[.int .i64 (1+g),T,(),(),(),(),()];refine o.out _ _ (F.out _ Y) (fun _=>?_);clear o K KA Z;generalize k.setRow X8 #[.int .i64 (1+g),.int .i64 T,.int .i64 0,.int .i64 0,.int .i64 0,.int .i64 0,.int .i64 0]=wy at K9 Y⊢;try simp only[cT]
   refine aAd.fin ?_;obtain⟨aB,az,h,j⟩:=aBp M (KX.later Y) (KT.later Y) (bA HB.out Y);have b9:=KT.lt;clear Y M;go_wp2_with fail
   go_meet
   exact⟨X8,rfl,by have:=aB.out;omega,K9,az,h,j⟩)
 case rest=>
  obtain⟨X,rfl,hX,n,HX,HT,Q⟩:=hcut;obtain⟨w2,a5⟩:=ex_ wc;rw[<-a5]at n HX HT Q⊢;clear a5 wc;have ba:w.heap.size<X:=by omega
  have q0:=n.cell 0;have f0:=n.frozen 0;have q1:=n.cell 1;have f1:=n.frozen 1;have q2:=n.cell 2;have f2:=n.frozen 2;have q3:=n.cell 3;have f3:=n.frozen 3;have q4:=n.cell 4;have f4:=n.frozen 4;have q5:=n.cell 5;have f5:=n.frozen 5;have q6:=n.cell 6;have f6:=n.frozen 6;obtain⟨z0,z1,z2,z3,z4⟩:=HX.C5;by_cases hk:g=0
  case pos=>
   obtain⟨a,ha⟩:=ex_ (aC3 x1 9);have J:=aA3 x1 9 (by omega);have Pa:=hid (fun W=>aDo x1 9 (by omega) (by omega) b1 W);rw[<-ha]at Pa J;clear ha;have e1:cM.wrap (1+a)=1+a:=by rw[bV];omega
   have t1:((1+g)== 1)=true:=by rw[beq_iff_eq];omega
   go_wp2_with fail
   (with_reducible refine(Pa.out w2).mono ?_)
   rintro e k ⟨rfl,f⟩;rw[f];clear f k;obtain⟨l,h,j⟩:=aAw ((n.set 3 (.int .i64 (1+a))).set 4 (.int .i64 (1+a))) ((HT.other (p:=⟨X,3,none⟩) (by dsimp only;omega) (.int .i64 (1+a))).other (p:=⟨X,4,none⟩) (by dsimp only;omega) (.int .i64 (1+a))) ((Q.setCell (p:=⟨X,3,none⟩) (by dsimp only;omega) (.int .i64 (1+a))).setCell (p:=⟨X,4,none⟩) (by dsimp only;omega) (.int .i64 (1+a)));go_upto_region 5 with fail
   generalize ((w2.setCell (X,3) (.int .i64 (1+a))).setCell (X,4) (.int .i64 (1+a)))=w9 at l h j⊢;clear q0 f0 q1 f1 q2 f2 q3 f3 q4 f4 q5 f5 q6 f6 z0 z1 z2 z3 z4
   go_wp2_with (first
    | (refine wpList_load_row rfl 29 (.tmp 3) rfl (X) rfl 29 #[.int .i64 (1+g),T,(),.int .i64 (1+a),.int .i64 (1+a),(),()] (0,0) _ l.out underlying29 rfl Tryz.infoQry7 ?_)
    | (refine wpList_store_row rfl 29 (.tmp 2) (.tmp 24) rfl (w.heap.size+1) #[.int .i64 (1+g),T,(),.int .i64 (1+a),.int .i64 (1+a),(),()] rfl rfl 29 _ h.out Tryz.infoQry7 rfl (by simp[bB]) ?_)
    | fail)
   have t:=hid (h.setRow [.int .i64 (1+g),T,(),.int .i64 (1+a),.int .i64 (1+a),(),()]);have z:=hid (below_setRow j.out (show w.heap.size<=w.heap.size+1 by omega) #[.int .i64 (1+g),T,(),.int .i64 (1+a),.int .i64 (1+a),(),()]);generalize w9.setRow (w.heap.size+1) #[.int .i64 (1+g),.int .i64 T,.int .i64 0,.int .i64 (1+a),.int .i64 (1+a),.int .i64 0,.int .i64 0]=wf at t z⊢;refine bodyPost_ret (results_cell_row rfl _ _ (w.heap.size+1) 29 #[.int .i64 (1+g),T,(),.int .i64 (1+a),.int .i64 (1+a),(),()] (0,0) _ rfl t.out underlying29 rfl Tryz.infoQry7) rfl ?_;exact⟨⟨1+g,T,0,1+a,1+a,0,0⟩,by refine⟨?_,?_,?_,?_,?_,?_,?_,?_,?_,?_,?_,?_,?_⟩ <;> dsimp only <;> omega,rfl,z.out⟩
  case neg=>
   obtain⟨a,ha⟩:=ex_ (aC3 x1 4);have J:=aA3 x1 4 (by omega);have Pa:=hid (fun W=>aDo x1 4 (by omega) (by omega) b1 W);rw[<-ha]at Pa J;clear ha;obtain⟨b,hb⟩:=ex_ (aC3 x2 12);have aw:=aA3 x2 12 (by omega);have Pb:=hid (fun W=>aDo x2 12 (by omega) (by omega) b2 W);rw[<-hb]at Pb aw;clear hb;obtain⟨c,hc⟩:=ex_ (aC3 x3 14);have av:=aA3 x3 14 (by omega);have Pc:=hid (fun W=>aDo x3 14 (by omega) (by omega) b3 W);rw[<-hc]at Pc av;clear hc;have t1:((1+g)== 1)=false:=by rw[beq_eq_false_iff_ne];omega
   have e1:cM.wrap (b-3)=b-3:=by rw[bV];omega
   have e2:cM.wrap (b-3+c)=b-3+c:=by rw[bV];omega
   go_wp2_with fail
   (with_reducible refine(Pa.out w2).mono ?_)
   rintro e k ⟨rfl,f⟩;rw[f];clear f k;obtain⟨x,D,P,U⟩:=aBp (n.set 2 (.int .i64 a)) (HX.other (p:=⟨X,2,none⟩) (by dsimp only;omega) (.int .i64 a)) (HT.other (p:=⟨X,2,none⟩) (by dsimp only;omega) (.int .i64 a)) (Q.setCell (p:=⟨X,2,none⟩) (by dsimp only;omega) (.int .i64 a));go_upto_region 7 with fail
   generalize w2.setCell (X,2) (.int .i64 a)=w3 at x D P U⊢;clear q0 f0 q1 f1 q2 f2 q3 f3 q4 f4 q5 f5 q6 f6 z0 z1 z2 z3 z4;have z2:=D.c2;have q3:=x.cell 3;have f3:=x.frozen 3;go_wp2_with fail
   (with_reducible refine(Pb.out w3).mono ?_)
   rintro e k ⟨rfl,f⟩;rw[f];clear f k;obtain⟨E,C,O,S⟩:=aBp (x.set 3 (.int .i64 (b-3))) (D.other (p:=⟨X,3,none⟩) (by dsimp only;omega) (.int .i64 (b-3))) (P.other (p:=⟨X,3,none⟩) (by dsimp only;omega) (.int .i64 (b-3))) (U.setCell (p:=⟨X,3,none⟩) (by dsimp only;omega) (.int .i64 (b-3)));go_upto_region 8 with fail
   generalize w3.setCell (X,3) (.int .i64 (b-3))=w4 at E C O S⊢;clear z2 q3 f3 x D P U;have F:=hid (show(fun W=>W.cell? (X,3)=some (.int .i64 (b-3))/\W.cell? (w,3)=some (.int .i64 x3)) w4.drew from⟨E.drew.cell 3,C.drew.cell 3⟩);refine bCd (fun W=>W.cell? (X,3)=some (.int .i64 (b-3))/\W.cell? (w,3)=some (.int .i64 x3)) (.take 0 (.take 1 (.take 2 (.take 3 (.step 4 (.take 5 (.take 6 (.step 7 .done)))))))) F.out ?_;obtain⟨r,B,N,R⟩:=aBp E.drew C.drew O.drew (bW S.out);obtain⟨w5,a4⟩:=ex_ w4.drew;rw[<-a4]at r B N R F⊢;clear a4 E C O S;have q4:=r.cell 4;have f4:=r.frozen 4
   repeat (first
    | refine aAd.A0 ?_|refine aAd.AG ?_|refine aAd.AS ?_|with_reducible apply aAd.step|with_reducible apply aAd.fork|with_reducible apply aAd.fork3|refine GoT.A0 ?_|refine GoT.AG ?_|refine GoT.AS ?_
    | (first
       | refine bT ?_|refine GoT.PG ?_
       intro K o;go_simp
       first
       | (go_at_call 7;(with_reducible refine(Pc.out _).mono ?_);rintro e k ⟨rfl,f⟩;rw[f];clear f k;go_wp2_with fail)
       | fail
       refine o.out _ _ ?_ (fun _=>?_)
       . exact F.out
       clear o K;try simp only[cT,sx1,sx2,sx3]))
   refine bT ?_;intro K o;go_simp;refine o.out _ _ ⟨((r.set 4 (.int .i64 (b-3+c))).cell 3),(B.other (p:=⟨X,4,none⟩) (by dsimp only;omega) (.int .i64 (b-3+c))).cell 3⟩ (fun _=>?_);clear o K;obtain⟨m,A,u,y⟩:=aBp (r.set 4 (.int .i64 (b-3+c))) (B.other (p:=⟨X,4,none⟩) (by dsimp only;omega) (.int .i64 (b-3+c))) (N.other (p:=⟨X,4,none⟩) (by dsimp only;omega) (.int .i64 (b-3+c))) (R.setCell (p:=⟨X,4,none⟩) (by dsimp only;omega) (.int .i64 (b-3+c)));generalize w5.setCell (X,4) (.int .i64 (b-3+c))=w6 at m A u y⊢;clear q4 f4 r B N R F;try simp only[cT]
   refine aAd.fin ?_;have q0:=m.cell 0;have q5:=m.cell 5;have f5:=m.frozen 5;have q6:=m.cell 6;have f6:=m.frozen 6;have z4:=A.c4;by_cases h4:3<=g
   case neg=>
    have t2:decide ((4:Int)<=1+g)=false:=by rw[decide_eq_false_iff_not];omega
    have t3:((1+g)== 7)=false:=by rw[beq_eq_false_iff_ne];omega
    obtain⟨l,h,j⟩:=aAw m.out u.out y.out;go_upto_region 13 with fail
    go_wp2_with (first
     | (refine wpList_load_row rfl 29 (.tmp 3) rfl (X) rfl 29 #[.int .i64 (1+g),T,a,.int .i64 (b-3),.int .i64 (b-3+c),(),()] (0,0) _ l.out underlying29 rfl Tryz.infoQry7 ?_)
     | (refine wpList_store_row rfl 29 (.tmp 2) (.tmp 57) rfl (w.heap.size+1) #[.int .i64 (1+g),T,a,.int .i64 (b-3),.int .i64 (b-3+c),(),()] rfl rfl 29 _ h.out Tryz.infoQry7 rfl (by simp[bB]) ?_)
     | fail)
    have t:=hid (h.setRow [.int .i64 (1+g),T,a,.int .i64 (b-3),.int .i64 (b-3+c),(),()]);have z:=hid (below_setRow j.out (show w.heap.size<=w.heap.size+1 by omega) #[.int .i64 (1+g),T,a,.int .i64 (b-3),.int .i64 (b-3+c),(),()]);generalize w6.setRow (w.heap.size+1) #[.int .i64 (1+g),.int .i64 T,.int .i64 a,.int .i64 (b-3),.int .i64 (b-3+c),.int .i64 0,.int .i64 0]=wf at t z⊢;refine bodyPost_ret (results_cell_row rfl _ _ (w.heap.size+1) 29 #[.int .i64 (1+g),T,a,.int .i64 (b-3),.int .i64 (b-3+c),(),()] (0,0) _ rfl t.out underlying29 rfl Tryz.infoQry7) rfl ?_;exact⟨⟨1+g,T,a,b-3,b-3+c,0,0⟩,by refine⟨?_,?_,?_,?_,?_,?_,?_,?_,?_,?_,?_,?_,?_⟩ <;> dsimp only <;> omega,rfl,z.out⟩
   case pos=>
    obtain⟨i,hd3⟩:=ex_ (aC3 x4 3);have a9:=aA3 x4 3 (by omega);have ad:=hid (fun W=>aDo x4 3 (by omega) (by omega) b4 W);rw[<-hd3]at ad a9;clear hd3;have e5:cM.wrap (1+i)=1+i:=by rw[bV];omega
    have t2:decide ((4:Int)<=1+g)=true:=by rw[decide_eq_true_iff];omega
    go_wp2_with fail
    (with_reducible refine(ad.out w6).mono ?_)
    rintro e k ⟨rfl,f⟩;rw[f];clear f k;by_cases h7:g=6
    case neg=>
     have t3:((1+g)== 7)=false:=by rw[beq_eq_false_iff_ne];omega
     obtain⟨l,h,j⟩:=aAw (m.set 5 (.int .i64 (1+i))) (u.other (p:=⟨X,5,none⟩) (by dsimp only;omega) (.int .i64 (1+i))) (y.setCell (p:=⟨X,5,none⟩) (by dsimp only;omega) (.int .i64 (1+i)));go_upto_region 13 with fail
     generalize (w6.setCell (X,5) (.int .i64 (1+i)))=w9 at l h j⊢
     go_wp2_with (first
      | (refine wpList_load_row rfl 29 (.tmp 3) rfl (X) rfl 29 #[.int .i64 (1+g),T,a,.int .i64 (b-3),.int .i64 (b-3+c),.int .i64 (1+i),()] (0,0) _ l.out underlying29 rfl Tryz.infoQry7 ?_)
      | (refine wpList_store_row rfl 29 (.tmp 2) (.tmp 57) rfl (w.heap.size+1) #[.int .i64 (1+g),T,a,.int .i64 (b-3),.int .i64 (b-3+c),.int .i64 (1+i),()] rfl rfl 29 _ h.out Tryz.infoQry7 rfl (by simp[bB]) ?_)
      | fail)
     have t:=hid (h.setRow [.int .i64 (1+g),T,a,.int .i64 (b-3),.int .i64 (b-3+c),.int .i64 (1+i),()]);have z:=hid (below_setRow j.out (show w.heap.size<=w.heap.size+1 by omega) #[.int .i64 (1+g),T,a,.int .i64 (b-3),.int .i64 (b-3+c),.int .i64 (1+i),()]);generalize w9.setRow (w.heap.size+1) #[.int .i64 (1+g),.int .i64 T,.int .i64 a,.int .i64 (b-3),.int .i64 (b-3+c),.int .i64 (1+i),.int .i64 0]=wf at t z⊢;refine bodyPost_ret (results_cell_row rfl _ _ (w.heap.size+1) 29 #[.int .i64 (1+g),T,a,.int .i64 (b-3),.int .i64 (b-3+c),.int .i64 (1+i),()] (0,0) _ rfl t.out underlying29 rfl Tryz.infoQry7) rfl ?_;exact⟨⟨1+g,T,a,b-3,b-3+c,1+i,0⟩,by refine⟨?_,?_,?_,?_,?_,?_,?_,?_,?_,?_,?_,?_,?_⟩ <;> dsimp only <;> omega,rfl,z.out⟩
    case pos=>
     have t3:((1+g)== 7)=true:=by rw[beq_iff_eq];omega
     obtain⟨V,H⟩:=ex_ (x4.tdiv 3);have a8: -9223372036854775808<=V/\V<=9223372036854775807:=by rw[H];exact aNf x4 b4
     have b8:cM.wrap (x4.tdiv 3)=V:=by rw[bV,H];have:=aNf x4 b4;omega
     clear H;obtain⟨s,a7⟩:=ex_ (aC3 V 3);have a6:=aA3 V 3 (by omega);have ac:=hid (fun W=>aDo V 3 (by omega) (by omega) a8 W);rw[<-a7]at ac a6;clear a7;obtain⟨v,af,ag,ah⟩:=aBp (m.set 5 (.int .i64 (1+i))) (A.other (p:=⟨X,5,none⟩) (by dsimp only;omega) (.int .i64 (1+i))) (u.other (p:=⟨X,5,none⟩) (by dsimp only;omega) (.int .i64 (1+i))) (y.setCell (p:=⟨X,5,none⟩) (by dsimp only;omega) (.int .i64 (1+i)));go_upto_region 11 with fail
     generalize w6.setCell (X,5) (.int .i64 (1+i))=w7 at v af ag ah⊢;clear q0 q5 f5 q6 f6 z4 m A u y;have q0:=v.cell 0;have q6:=v.cell 6;have f6:=v.frozen 6;have z4:=af.c4;go_wp2_with fail
     (with_reducible refine(ac.out w7).mono ?_)
     rintro e k ⟨rfl,f⟩;rw[f];clear f k;obtain⟨l,h,j⟩:=aAw (v.set 6 (.int .i64 s)) (ag.other (p:=⟨X,6,none⟩) (by dsimp only;omega) (.int .i64 s)) (ah.setCell (p:=⟨X,6,none⟩) (by dsimp only;omega) (.int .i64 s));go_upto_region 13 with fail
     generalize (w7.setCell (X,6) (.int .i64 s))=w9 at l h j⊢
     go_wp2_with (first
      | (refine wpList_load_row rfl 29 (.tmp 3) rfl (X) rfl 29 #[.int .i64 (1+g),T,a,.int .i64 (b-3),.int .i64 (b-3+c),.int .i64 (1+i),s] (0,0) _ l.out underlying29 rfl Tryz.infoQry7 ?_)
      | (refine wpList_store_row rfl 29 (.tmp 2) (.tmp 57) rfl (w.heap.size+1) #[.int .i64 (1+g),T,a,.int .i64 (b-3),.int .i64 (b-3+c),.int .i64 (1+i),s] rfl rfl 29 _ h.out Tryz.infoQry7 rfl (by simp[bB]) ?_)
      | fail)
     have t:=hid (h.setRow [.int .i64 (1+g),T,a,.int .i64 (b-3),.int .i64 (b-3+c),.int .i64 (1+i),s]);have z:=hid (below_setRow j.out (show w.heap.size<=w.heap.size+1 by omega) #[.int .i64 (1+g),T,a,.int .i64 (b-3),.int .i64 (b-3+c),.int .i64 (1+i),s]);generalize w9.setRow (w.heap.size+1) #[.int .i64 (1+g),.int .i64 T,.int .i64 a,.int .i64 (b-3),.int .i64 (b-3+c),.int .i64 (1+i),.int .i64 s]=wf at t z⊢;refine bodyPost_ret (results_cell_row rfl _ _ (w.heap.size+1) 29 #[.int .i64 (1+g),T,a,.int .i64 (b-3),.int .i64 (b-3+c),.int .i64 (1+i),s] (0,0) _ rfl t.out underlying29 rfl Tryz.infoQry7) rfl ?_;exact⟨⟨1+g,T,a,b-3,b-3+c,1+i,s⟩,by refine⟨?_,?_,?_,?_,?_,?_,?_,?_,?_,?_,?_,?_,?_⟩ <;> dsimp only <;> omega,rfl,z.out⟩
end
section
open Go.Proofs.Tryz
open Go Go.RowKit Go.Shelf
variable {w:dF} {q:Qy}
theorem aCj.mid {g o c:Nat} {l:List Rec} (h:aCj w (.slice (some (g,o)) l.length c) l) (b k:Nat) (hb:b+k<=l.length):aCj w (.slice (some (g,o+b*2)) k (c-b)) ((l.take (b+k)).drop b):=by
 obtain⟨A,x,i,u,f⟩:=h;have a:((l.take (b+k)).drop b).length=k:=by rw[List.length_drop,cP];omega
 injection i with e1 _ e3
 subst e1 e3;refine⟨_,_,by rw[a],by omega,fun s=>?_⟩;rw[a]at s;obtain⟨v,t,q,m,p⟩:=f (by omega);cases q
 refine⟨g,o+b*2,rfl,m,fun j r e=>?_⟩;have n:j<k:=by rw[<-a];exact(cL.1 e).1
 have d:l[b+j]? =some r:=by
  rw[List.getElem?_drop,List.getElem?_take,if_pos (by omega)]at e;exact e
 have:=p (b+j) r d;rw[show o+(b+j)*2=o+b*2+j*2 by omega]at this;exact this
theorem aCj.cut {lA:Option Addr} {n lc:Nat} {l:List Rec} (h:aCj w (.slice lA n lc) l) (hn:n=l.length) (b k:Nat) (hb:b+k<=n) :
 aCj w (.slice (if lc=b then lA else lA.map (fun x=>x.add (b*2))) k (lc-b)) ((l.take (b+k)).drop b):=by
 subst hn;have a:((l.take (b+k)).drop b).length=k:=by rw[List.length_drop,cP];omega
 by_cases e:k=0
 . subst e;have:(l.take (b+0)).drop b=[]:=List.eq_nil_of_length_eq_zero a;rw[this];exact⟨_,_,rfl,Nat.zero_le _,fun g=>absurd g (by simp)⟩
 . obtain⟨A,o,d,j,c⟩:=id h;injection d with e1 _ e3
   subst e1 e3;obtain⟨m,i,f,-,-⟩:=c (by omega);subst f;have:=h.mid b k hb;rw[if_neg (by omega),Option.map_some,dA];exact this
theorem aR5 {v:dG} {xs:List Rw} (h:RwsAt w v xs) {k:Nat} (hk:BlkIs w k 38 [(),(),(),(),(),(),(),.slice none 0 0,(),false,(),(),(),.slice none 0 0,.slice none 0 0]) (hx:∀x∈xs,rowB x.table x.key x.v=true) (ds:Array dG):RwsAt (w.setRow k ds) v xs:=by
 obtain⟨A,c,q,z,y⟩:=h;refine⟨A,c,q,z,fun p=>?_⟩;obtain⟨g,o,B,l,n⟩:=y p;obtain⟨x,d⟩:∃x,xs[0]? =some x:=⟨xs[0],List.getElem?_eq_getElem p⟩;have b:=n 0 x d 1 _ rfl;have m:=hx x (cK d)
 have t:1<=x.key:=by
  unfold rowB at m;simp only[Bool.and_eq_true,decide_eq_true_eq]at m;exact m.1.2.1
 have f:g≠k:=fun e=>by
  subst e;rw[hk.cell]at b;have s:=cK b;simp only[cC,bJ,or_false,Value.int.injEq,reduceCtorEq,true_and,false_or,or_false]at s;omega
 have e:=setRow_other w k g ds f;refine⟨g,o,B,by rw[aE0];exact l,fun j x hx i u r=>(cA (a:=⟨g,o+j*5+i,none⟩) e).trans (n j x hx i u r)⟩
theorem AnsOf.rowsB {ps:List Rec} {s:StT} (hs:runS st0 ps=some s) {b t:Nat} {r:Res} {si:Int} (h:AnsOf q ps b t r si):(∀x∈r.rows,rowB x.table x.key x.v=true)/\r.rows.length<=2*2000:=by
 obtain⟨j,f,g⟩:=h.at_ hs;obtain⟨e,a⟩:=aDh hs t;have i:=g t f (by omega) e a;have d:=(aBy aCl a).1;have c:=aHn (q:=q) d.rows;rw[i]at c;exact⟨c.rows,bU c.len (by have:=d.small;omega)⟩
def aG5 (q:Qy) (L:List Rec) (b k:Nat) (w':dF) (ok:Bool) (A1:Option Addr) (n1 c1:Nat) (val:Int) (fd:Bool) (si ti ba:Int):Prop:=
 ok=true->ti=((b+k:Nat):Int)/\ba=(b:Int)/\∃rws,AnsOf q L b (b+k) ⟨rws,val,fd⟩ si/\RwsAt w' (.slice A1 n1 c1) rws
theorem aG5.below {L:List Rec} {b k n1 c1:Nat} {w':dF} {ok fd:Bool} {A1:Option Addr} {val si ti ba:Int} (h:aG5 q L b k w ok A1 n1 c1 val fd si ti ba) (hb:dH w w w'):aG5 q L b k w' ok A1 n1 c1 val fd si ti ba:=fun ho=>by
 obtain⟨h1,h2,rws,h3,h4⟩:=h ho;exact⟨h1,h2,rws,h3,h4.below hb⟩
theorem aG5.store {L:List Rec} {s:StT} (hs:runS st0 L=some s) {b k n1 c1 ab:Nat} {w:dF} {ok fd:Bool} {A1:Option Addr} {val si ti ba:Int} (h:aG5 q L b k w ok A1 n1 c1 val fd si ti ba) (hk:BlkIs w ab 38 [(),(),(),(),(),(),(),.slice none 0 0,(),false,(),(),(),.slice none 0 0,.slice none 0 0]) (ds:Array dG):aG5 q L b k (w.setRow ab ds) ok A1 n1 c1 val fd si ti ba:=fun ho=>by
 obtain⟨h1,h2,rws,h3,h4⟩:=h ho;exact⟨h1,h2,rws,h3,aR5 h4 hk (h3.rowsB hs).1 ds⟩
theorem aRv (q:Qy) (g:GoodQ q) (L:List Rec) (s sb:StT) (b k n:Nat) (hn:n=L.length) (hb:b+k<=n) (h16:n<=16) (hrun:runS st0 L=some s) (hsb:runS st0 (L.take b)=some sb) (h100:(aAy q sb.rows).length<=100) (sA:Option Addr) (sc:Nat) (rv:dG) (w:dF)
 (hr:RgsAt w rv sb.rows (aCo q sb.rows)) (hx:aCj w (.slice sA k sc) ((L.take (b+k)).drop b)) :
 dJ prog 8 #[.agg #[q.kind,q.table,q.column,q.low,q.high,q.by_,q.other,(),.int .i64 (b:Nat),rv],.slice sA k sc] w fun e w'=>
  (∃ok k0 k1 k2 k3 k4 k5 k6 A1 n1 c1 val fd si ti ba A2 n2 c2 A3 n3 c3,e= .returned (.tuple #[.agg #[.int .i64 k0,.int .i64 k1,.int .i64 k2,.int .i64 k3,.int .i64 k4,.int .i64 k5,.int .i64 k6,.slice A1 n1 c1,.int .i64 val,.bool fd,.int .i64 si,.int .i64 ti,.int .i64 ba,.slice A2 n2 c2,.slice A3 n3 c3],.bool ok])/\aG5 q L b k w' ok A1 n1 c1 val fd si ti ba)/\dH w w w':=by
  subst hn;have a:((L.take (b+k)).drop b).length=k:=by rw[List.length_drop,cP];omega
  obtain⟨t,o⟩:=aBy aCl hsb
  have d:((b:Nat):Int)=sb.pos:=by
   rw[o,cP,Nat.min_eq_left (by omega)]
   show _=st0.pos+_
   simp[st0]
  obtain⟨f,i⟩:∃f,runS sb ((L.take (b+k)).drop b)=some f:=by
   obtain⟨m,l⟩:=aDh hrun (b+k)
   have e:L.take (b+k)=L.take b++(L.take (b+k)).drop b:=by
    conv=>lhs;rw[<-List.take_append_drop b (L.take (b+k))]
    rw[List.take_take,Nat.min_eq_left (by omega)]
   rw[e,aCf,hsb]at l;exact⟨m,l⟩
  have h:=aRu sb t q g 0 (b:Nat) rv _ sA sc f i (by omega) d (by omega) (by omega) w hr h100 (by rw[a];exact hx);rw[a]at h;refine h.mono ?_;rintro e w' ⟨p,j⟩;refine⟨?_,j⟩;rcases p with⟨r,since,v1,A2,n2,c2,A3,n3,c3,hrp,rfl,hv1⟩|⟨-,rfl⟩
  . obtain⟨c,val,fd⟩:=r;obtain⟨A1,c1,rfl,-⟩:=hv1.form;refine⟨true,_,_,_,_,_,_,_,A1,c.length,c1,val,fd,since,_,_,A2,n2,c2,A3,n3,c3,rfl,fun _=>⟨by simp,rfl,c,⟨by omega,by omega,sb,hsb,hrp⟩,hv1⟩⟩
  . exact⟨false,_,_,_,_,_,_,_,_,_,_,_,_,_,_,_,_,_,_,_,_,_,rfl,fun h=>absurd h (by decide)⟩
end
section
open Go Go.RowKit Go.Shelf
variable {k:Nat} {w':dF} {v:dG} {xs:List Rw}
structure AppMore (z:dG) (size:Nat) (v:dG) (n m:Nat) (w w':dF) (v':dG):Prop where
 room:v= .slice none 0 0->∀g,v'.ownBlock=some g->∀(j:Nat) u,m*size<=j->w'.cell? (g,j)=some u->u∈z.cells.toList
 kept:∀g,v.ownBlock=some g->∀j,j<n*size->w'.cell? (g,j)=w.cell? (g,j)
theorem aL4 {zc:Array dG} {i:Nat} {u:dG} (h:(Builtin.zeroCells zc k)[i]? =some u):u∈zc.toList:=by
 unfold Builtin.zeroCells at h;rw[Array.getElem?_map,Option.map_eq_some_iff]at h;obtain⟨j,c,rfl⟩:=h;obtain⟨a,rfl⟩:=cS.1 c;rw[Array.size_range]at a;rw[Array.getElem_range]
 have d:0<zc.size:=by
  rcases Nat.eq_zero_or_pos zc.size with e|e
  . rw[e,Nat.mul_zero]at a;omega
  . exact e
 have b:=Nat.mod_lt i d;rw[getElem!_pos zc _ b];exact Array.getElem_mem_toList b
section
variable {P:Program} (w:dF)
theorem aJq (base:Nat) (t ty e:dI) (i:TypeInfo) (z:dG) (size bytes:Nat) (ht:P.underlying t=some (.slice e)) (hi:P.info? e=some i) (hz:i.zero=some z)
 (hsize:i.size=size) (hby:i.bytes=bytes) (hzs:z.cells.size=size) (hsz:0<size)
 (v:dG) (n:Nat) (xs:List dG) (hown:w.ownsRow base e size v n xs)
 (a:Addr) (m c:Nat) (news:List dG) (hl:news.length=m*size) (hnews:∀j u,news[j]? =some u->w.cell? (a.add j)=some u) (h1:∀u∈news,u.oneCell'=true)
 (h63:n+m<=maxLen) (hbytes:(n+m)*bytes<=140737488355328) (hbase:base<=w.heap.size) (hm0:0<m) :
 ∃v' w',(Builtin.append_ #[t,t] ty #[v,.slice (some a) m c]).run P w= .ok v' w'/\w'.ownsRow base e size v' (n+m) (xs++news)/\w.grownBy w' v.ownBlock/\
   (v'= .slice none 0 0↔v= .slice none 0 0/\m=0)/\AppMore z size v n m w w' v':=by
  obtain⟨v',w',o,A,y,x⟩:=run_append_own (P:=P) w base t ty e i z size bytes ht hi hz hsize hby hzs hsz v n xs hown a m c news hl hnews h1 h63 hbytes hbase;refine⟨v',w',o,A,y,x,?_⟩;subst hsize;subst hby;have l:n+m<=9223372036854775807:=by simp only[maxLen]at h63;omega
  rcases hown.2 with⟨rfl,rfl⟩|⟨g,cap,cur,rfl,hbg,hg,hnc,hcm,hcs,htake⟩
  . refine⟨fun _ g hg j u r q=>?_,fun g hg=>by simp[bQ]at hg⟩;have b:=run_append_nil (P:=P) w t ty e i z ht hi hz a m c news hl hnews hm0 (by omega) (by have s:=hbytes;simp only[cR]at s;omega);rw[o]at b;injection b with e1 e2
    subst e1 e2;obtain rfl:w.heap.size=g:=by simpa[bQ]using hg
    rw[cell_of_row _ w.heap.size j _ e (0,0) (heap_alloc_new w.drew _),Array.getElem?_append_right (by simp only[List.size_toArray];omega)]at q;exact aL4 q
  . refine⟨fun h=>(by cases h),fun B p j r=>?_⟩;obtain rfl:g=B:=by simpa[bQ]using p
    by_cases d:n+m<=cap
    . have k:n*i.size+news.length<=cur.size:=by rw[hl,hcs,<-Nat.add_mul];exact Nat.mul_le_mul_right _ d
      have b:=run_append_room (P:=P) w t ty e i ht hi g n cap cur hg a m c news hl hnews h1 d k;rw[o]at b;injection b with e1 e2
      subst e1 e2;rw[cell_of_row _ g j _ e _ (setRow_heap w g cur _ e _ hg),cell_of_row _ g j _ e _ hg];rw[List.getElem?_toArray,List.append_assoc,List.getElem?_append_left (by rw[cP,Array.length_toList];omega),List.getElem?_take,if_pos r,Array.getElem?_toList]
    . have f:∀j u,xs[j]? =some u->w.cell? ((⟨g,0,none⟩:Addr).add j)=some u:=hown.cells (g:=g) rfl;have b:=run_append_grow (P:=P) w t ty e i z ht hi hz ⟨g,0,none⟩ n cap xs hown.1 f a m c news hl hnews (by omega) (by omega) (growslice_fits (by omega) hbytes);rw[o]at b;injection b with e1 e2
      subst e1 e2;exact cA (a:=⟨g,j,none⟩) (heap_alloc_old w.drew _ g (cS.1 hg).1)
theorem aKx {o:Oper} {a:Act} {K:Act->dF->Prop} {Q:Exit->Act->dF->Prop} (s x:Operand) (t:dI)
 (ho:o.op= .call {callee:= .builtin .append,args:=#[s,x],argTypes:=#[t,t]})
 (base:Nat) (e:dI) (i:TypeInfo) (z:dG) (size bytes:Nat) (ht:P.underlying t=some (.slice e)) (hi:P.info? e=some i) (hz:i.zero=some z)
 (hsize:i.size=size) (hby:i.bytes=bytes) (hzs:z.cells.size=size) (hsz:0<size)
 (v:dG) (n:Nat) (xs:List dG) (hs:a.eval s=v) (hown:w.ownsRow base e size v n xs)
 (ad:Addr) (m c:Nat) (news:List dG) (hx:a.eval x= .slice (some ad) m c) (hl:news.length=m*size) (hnews:∀j u,news[j]? =some u->w.cell? (ad.add j)=some u) (h1:∀u∈news,u.oneCell'=true)
 (h63:n+m<=maxLen) (hbytes:(n+m)*bytes<=140737488355328) (hbase:base<=w.heap.size) (hm0:0<m)
 (h:∀v' w',w'.ownsRow base e size v' (n+m) (xs++news)->w.grownBy w' v.ownBlock->AppMore z size v n m w w' v'->K (a.put o.dst v') w'):o.wp P a w K Q:=by
  obtain⟨v',w',b,g,f,-,d⟩:=aJq (P:=P) w base t o.type e i z size bytes ht hi hz hsize hby hzs hsz v n xs hown ad m c news hl hnews h1 h63 hbytes hbase hm0;unfold Oper.wp execOp;simp only[ho,resolve,invoke,builtin,Sem.run_bind,Sem.run_pure,Result.andThen_ok,List.map_toArray,List.map_cons,List.map_nil,hs,hx,b];exact h v' w' g f d
theorem aEa {ops:Array Oper} {rest:List Oper} {o:Oper} {a:Act} {Q:Exit->Act->dF->Prop} (hgd:o.guard=none) (s x:Operand) (t:dI)
 (ho:o.op= .call {callee:= .builtin .append,args:=#[s,x],argTypes:=#[t,t]})
 (base:Nat) (e:dI) (i:TypeInfo) (z:dG) (size bytes:Nat) (ht:P.underlying t=some (.slice e)) (hi:P.info? e=some i) (hz:i.zero=some z)
 (hsize:i.size=size) (hby:i.bytes=bytes) (hzs:z.cells.size=size) (hsz:0<size)
 (v:dG) (n:Nat) (xs:List dG) (hs:a.eval s=v) (hown:w.ownsRow base e size v n xs)
 (ad:Addr) (m c:Nat) (news:List dG) (hx:a.eval x= .slice (some ad) m c) (hl:news.length=m*size) (hnews:∀j u,news[j]? =some u->w.cell? (ad.add j)=some u) (h1:∀u∈news,u.oneCell'=true)
 (h63:n+m<=maxLen) (hbytes:(n+m)*bytes<=140737488355328) (hbase:base<=w.heap.size) (hm0:0<m)
 (h:∀v' w',w'.ownsRow base e size v' (n+m) (xs++news)->w.grownBy w' v.ownBlock->AppMore z size v n m w w' v'->wpList P ops Q rest (a.put o.dst v') w'):wpList P ops Q (o :: rest) a w:=
  wpList_plain hgd fun _ hK=>aKx w s x t ho base e i z size bytes ht hi hz hsize hby hzs hsz v n xs hs hown ad m c news hx hl hnews h1 h63 hbytes hbase hm0 fun v' w' h2 h3 h4=>hK _ _ (h v' w' h2 h3 h4)
end
theorem aHy.ch {w:dF} (h:aHy w v xs k) (hc:Ch [k] w w'):RwsAt w' v xs:=by
 obtain⟨A,c,f,m,d⟩:=h;refine⟨A,c,f,m,fun q=>?_⟩;obtain⟨g,o,p,e,b,n⟩:=d q;exact⟨g,o,p,bC b hc.size,fun j x d i u l=>(cA (a:=⟨g,o+j*5+i,none⟩) (hc.block g b (by simpa using e))).trans (n j x d i u l)⟩
theorem aHy.below {w:dF} (h:aHy w v xs k) (hb:dH w w w'):aHy w' v xs k:=by
 obtain⟨A,c,e,l,b⟩:=h;refine⟨A,c,e,l,fun q=>?_⟩;obtain⟨g,o,n,d,a,m⟩:=b q;exact⟨g,o,n,d,bC a hb.size,fun j x b i u f=>(hb.cell (p:=⟨g,o+j*5+i,none⟩) a).trans (m j x b i u f)⟩
theorem RwsAt.off_new {w:dF} (h:RwsAt w v xs) (hk:w.heap.size<=k):aHy w v xs k:=by
 obtain⟨A,c,d,e,b⟩:=h;refine⟨A,c,d,e,fun j=>?_⟩;obtain⟨g,o,i,a,f⟩:=b j;exact⟨g,o,i,by omega,a,f⟩
theorem RwsAt.room {w:dF} {ga:Nat} (h:RwsAt w v xs) (hx:∀x∈xs,rowB x.table x.key x.v=true) (hch:Ch [ga] w w') (hk:∀j,j<15->w'.cell? (ga,j)=w.cell? (ga,j))
 (h14:∀z,w.cell? (ga,14)≠some (.int .i64 z)) (h0:∀(j:Nat) z,15<=j->w.cell? (ga,j)=some (.int .i64 z)->z=0):RwsAt w' v xs:=by
  obtain⟨A,c,r,B,E⟩:=h;refine⟨A,c,r,B,fun s=>?_⟩;obtain⟨g,o,J,f,l⟩:=E s;refine⟨g,o,J,bC f hch.size,fun j x b i u n=>?_⟩;by_cases e:g=ga
  . subst e;have H:=hx x (cK b);have C:1<=x.key:=(aI1 H).2.2.1;have D:=(cL.1 n).1;have t:(rwC x).length=5:=rfl
    have k:∀m,m<5->∃y,(rwC x)[m]? =some (.int .i64 y):=fun m p=>by
     match m,p with
     | 0,_=>exact⟨_,rfl⟩
     | 1,_=>exact⟨_,rfl⟩
     | 2,_=>exact⟨_,rfl⟩
     | 3,_=>exact⟨_,rfl⟩
     | 4,_=>exact⟨_,rfl⟩
    have d:∀m,m<5->o+j*5+m≠14:=fun m p e=>by
     obtain⟨y,q⟩:=k m p;have:=l j x b m _ q;rw[e]at this;exact h14 y this
    have F:o+j*5+1<15:=by
     by_cases G:o+j*5+1<15
     . exact G
     . have:=h0 (o+j*5+1) x.key (by omega) (l j x b 1 _ rfl);omega
    have N:=d 1 (by omega);have M:=d 2 (by omega);have L:=d 3 (by omega);have K:=d 4 (by omega);exact(hk _ (by omega)).trans (l j x b i u n)
  . exact(cA (a:=⟨g,o+j*5+i,none⟩) (hch.block g f (by simpa using e))).trans (l j x b i u n)
theorem AnsOf.few {q:Qy} {ps:List Rec} {s:StT} (hs:runS st0 ps=some s) {b t:Nat} {r:Res} {si:Int} (h:AnsOf q ps b t r si) (hf:∀r∈ps,r.chs.length<=3) (h16:ps.length<=16):r.rows.length<=2000:=by
 obtain⟨k,e,f⟩:=h.at_ hs;obtain⟨d,a⟩:=aDh hs t;have i:=f t e (by omega) d a;have j:=(aBy aCl a).1;have c:=aHn (q:=q) j.rows;rw[i]at c;have o:=aI0 aCl a (fun r g=>hf r (List.mem_of_mem_take g));have n:(ps.take t).length<=16:=by rw[cP];omega
 have m:st0.rows.length=0:=rfl;have l:=c.len;omega
end
end Go.Proofs.YtmhpfoicloojcaaGreatDoor
