/- Walks: Make, read, patches, cache. -/
import Derived.Test.YtmhpfoicloojcaaGreatDoorZbm
import Derived.Test.YtmhpfoicloojcaaGreatDoorZbn
set_option linter.all false
open List renaming length_append→aE,length_take→aH,length_drop→aJ,getElem?_eq_getElem→aL,getElem?_cons_succ→aM,getElem?_eq_some_iff→aN,length_map→aR,append_assoc→aS,length_cons→aW,take_left'→bD,take_length→bI,flatMap_append→bJ,take_add_one→bM,take_append_drop→bP,length_filter_le→bR,drop_left'→bS
open Go.Builtin renaming zeroCells→aG
open Go.World renaming size_alloc→aI,setCell→bN
open Go.RowKit.Below renaming refl→aK,drew→bL
open Nat renaming mul_le_mul_right→aO,zero_add→aT,le_trans→aZ,le_refl→bF,add_mul→bG,min_eq_left→bT
open Go.Value renaming oneCell'→bH
open Go.Addr renaming add_mid→bK
open Go renaming World→bV,Value→bW,TypeId→bY,Calls→bZ
open Go.RowKit renaming Below→bX
namespace Go.Proofs.YtmhpfoicloojcaaGreatDoor
open Below renaming next→aF,one→aQ
open Upd renaming of_below→bU
set_option maxRecDepth 100000
set_option maxHeartbeats 16000000
section
open Go.Proofs.Tryz
open Go Go.RowKit Go.Shelf
attribute [local go_sem] Oper.semAt_some
theorem aPv (w:bV):bZ prog 25 #[] w fun e w'=>∃X Q,e= .returned (.pointer (some ⟨X,0,none⟩))/\BlkIs w' X 153 [.map (some Q),.pointer none]/\MapIs w' Q #[] 0/\X≠Q/\w.heap.size<=X/\w.heap.size<=Q/\bX w w w':=by
 have a:∀(t:bY) (W:bV),(Instr.makeMap t none).run prog W= .ok (.map (some W.heap.size)) (W.alloc (.map #[] 0)):=fun _ _=>rfl;go_enter func25,ntmps25
 go_wp2_with fail
 go_ret;exact⟨_,_,rfl,aAo _ _ _ (by rw[aI]),(MapIs.made w).alloc _,by omega,by omega,bF _,((aK _ w).alloc (bF _) _).alloc (by rw[aI];omega) _⟩
theorem aTp (w:bV):(Instr.makeSlice 56 (.int .i64 1) (.int .i64 1)).run prog w= .ok (.slice (some (w,0)) 1 1) (w.alloc (.cells #[()] 3)):=by kernel_rfl
theorem aUe (g c:Nat) (w:bV) (hg:BlkIs w g 3 [(5:Int)]) :
 bZ prog 24 #[(10:Int),.slice (some (g,0)) 1 c] w fun e w'=>∃P U E sA sc uc,e= .returned (.tuple #[.pointer (some ⟨P,0,none⟩),()])/\
   BlkIs w' P 149 [.string ⟨#[]⟩,.int .i64 0,.int .i64 0,.pointer (some ⟨P,0,none⟩),.pointer (some ⟨P,0,none⟩),.int .i64 10,.slice sA 1 sc,.slice (some ⟨U,0,none⟩) 1 uc,.map (some E),.int .i64 10]/\BlkIs w' U 3 [()]/\MapIs w' E #[] 0/\
   P≠U/\P≠E/\U≠E/\w.heap.size<=P/\w.heap.size<=U/\w.heap.size<=E/\bX w w w':=by
 have G:=hg.c0;have o:∀(t:bY) (W:bV),(Instr.makeMap t none).run prog W= .ok (.map (some W.heap.size)) (W.alloc (.map #[] 0)):=fun _ _=>rfl;have n:=aTp;have N:=hid hg;clear hg;go_enter func24,ntmps24
 go_wp2_with fail
 go_loopw [6,29] (fun A iv wr=>wr=w/\((A= .int .i64 10/\iv= .int .i64 0)\/(A= .int .i64 5/\iv= .int .i64 1))) (fun _ iv _=>1-(intOf iv).toNat)
 case atStart=>exact⟨rfl,.inl ⟨rfl,rfl⟩⟩
 case round=>
  obtain⟨h,hrel⟩:=hrel;rw[h];clear h wr;rcases hrel with⟨rfl,rfl⟩|⟨rfl,rfl⟩
  . go_wp2_with fail
    simp[intOf]
  . go_wp2_with fail
    have y:=hid (fun(W:bV) (L:bX w w W)=>bBv (some ⟨g,0,none⟩) 1 c [(5:Int)] W rfl (by simp[bH]) (fun _=>⟨g,0,rfl,fun j u J=>by rw[aT];exact((N.later L).cell j).trans J⟩) (by omega));have Z:bX w w w.drew:=bL (aK _ _);refine bCd (fun _=>True) (.take 0 (.take 1 (.take 3 (.take 4 (.take 7 (.fork3 2 (.fork 5 (.step 6 (.take 8 (.step 9 (.take 10 .done)))) 6 (.step 5 (.take 8 (.step 9 (.take 10 .done))))) 5 (.fork 2 (.step 6 (.take 8 (.step 9 (.take 10 .done)))) 6 (.step 2 (.take 8 (.step 9 (.take 10 .done))))) 6 (.fork 2 (.step 5 (.take 8 (.step 9 (.take 10 .done)))) 5 (.step 2 (.take 8 (.step 9 (.take 10 .done))))))))))) trivial ?_;obtain⟨R,i⟩:=ex_ w.drew;rw[<-i]at Z⊢;clear i
    repeat' (first
     | refine aAd.A0 ?_|refine aAd.AG ?_|refine aAd.AS ?_|with_reducible apply aAd.step|with_reducible apply aAd.fork|with_reducible apply aAd.fork3|refine GoT.A0 ?_|refine GoT.AG ?_|refine GoT.AS ?_
     | (first
        | refine GoT.P0 ?_|refine GoT.PG ?_
        intro K C;go_simp
        first
        | (go_at_call 58;(with_reducible refine(y.out _ Z).mono ?_);rintro e l ⟨S,rfl,B,a⟩;obtain⟨sA,sc,rfl,-⟩:=aAa B;clear B;replace Z:=aF Z a;(try replace f:=f.later a);(try replace d:=d.later a);clear a;go_wp2_with fail)
        | (obtain⟨l,E,b,r,a,d,-⟩:=Below.newm Z;rw[<-b,<-r];have O:=hid (show w.heap.size<=E by rw[r];exact Z.size);replace Z:=aF Z a;(try replace f:=f.later a);(try replace d:=d.later a);clear a b r)
        | (obtain⟨l,U,b,p,a,f,-⟩:=Below.newb Z #[()] 3;rw[<-b,<-p];have M:=hid (show w.heap.size<=U by rw[p];exact Z.size);replace Z:=aF Z a;(try replace d:=d.later a);clear a b p)
        | (obtain⟨l,P,b,q,a,m,-⟩:=Below.newb Z #[.string ⟨#[]⟩,.int .i64 0,.int .i64 0,.pointer none,.pointer none,.int .i64 10,.slice sA 1 sc,.slice (some (U,0)) 1 1,.map (some E),.int .i64 10] 149;rw[<-b,<-q];have F:=hid (show w.heap.size<=P by rw[q];exact Z.size);replace Z:=aF Z a;(try replace f:=f.later a);(try replace d:=d.later a);clear a b q)
        | fail
        refine C.out _ _ ?_ (fun _=>?_)
        . trivial
        clear C K;try simp only[Act.put,sx1,sx2,sx3]))
    all_goals (
     refine aAd.fin ?_;obtain⟨k,z,v,x,D⟩:=aDs (show P≠U/\P≠E/\U≠E from⟨fun e=>by subst e;exact absurd (m.symm.trans f) (by simp),fun e=>by subst e;exact absurd (m.symm.trans d) (by simp),fun e=>by subst e;exact absurd (f.symm.trans d) (by simp)⟩) (aZb P _ _ _ _ _ _ l m) f d Z;clear o n m f d Z G;go_wp2_with fail
     (with_reducible refine(z.out).mono ?_)
     rintro e Q ⟨rfl,H,s⟩;go_wp2_with fail
     go_ret2
     exact⟨P,U,E,sA,sc,1,rfl,H,v.ch s (by have:=k.out;simp;omega),x.ch s (by have:=k.out;simp;omega),k.1,k.2.1,k.2.2,F.out,M.out,O.out,D.trans ((s.below (by simp;have:=F.out;omega) D.size))⟩)
structure NewC (w:bV) (C P X I K Q U E:Nat):Prop where
 c:BlkIs w C 87 [(1:Int),.slice none 0 0,.pointer (some (P,0)),.pointer (some (X,0)),.map (some I),.map (some K),()]
 p:∃sA sc uc,BlkIs w P 149 [.string ⟨#[]⟩,.int .i64 0,.int .i64 0,.pointer (some (P,0)),.pointer (some (P,0)),.int .i64 10,.slice sA 1 sc,.slice (some (U,0)) 1 uc,.map (some E),.int .i64 10]
 u:BlkIs w U 3 [()]
 e:MapIs w E #[] 0
 x:BlkIs w X 153 [.map (some Q),.pointer none]
 q:MapIs w Q #[] 0
 i:MapIs w I #[] 0
 k:MapIs w K #[] 0
 nd:[C,P,X,I,K,Q,U,E].Nodup
theorem NewC.later {w w':bV} {C P X I K Q U E:Nat} (h:NewC w C P X I K Q U E) (hb:bX w w w'):NewC w' C P X I K Q U E:=by
 obtain⟨d,b,a,f⟩:=h.p;exact⟨h.c.later hb,⟨d,b,a,f.later hb⟩,h.u.later hb,h.e.later hb,h.x.later hb,h.q.later hb,h.i.later hb,h.k.later hb,h.nd⟩
theorem NewC.lt {w:bV} {C P X I K Q U E:Nat} (h:NewC w C P X I K Q U E):∀b∈[C,P,X,I,K,Q,U,E],b<w.heap.size:=by
 obtain⟨j,g,f,d⟩:=h.p;intro b a;simp only[List.mem_cons,List.not_mem_nil,or_false]at a;rcases a with rfl|rfl|rfl|rfl|rfl|rfl|rfl|rfl
 . exact h.c.lt
 . exact d.lt
 . exact h.x.lt
 . exact h.i.lt
 . exact h.k.lt
 . exact h.q.lt
 . exact h.u.lt
 . exact h.e.lt
theorem bB2 (g c:Nat) (w:bV) (hg:BlkIs w g 3 [(5:Int)]) :
 bZ prog 11 #[(1:Int),(10:Int),.slice (some (g,0)) 1 c] w fun e w'=>∃C P X I K Q U E,e= .returned (.tuple #[.pointer (some ⟨C,0,none⟩),()])/\NewC w' C P X I K Q U E/\(∀b∈[C,P,X,I,K,Q,U,E],w.heap.size<=b)/\bX w w w':=by
 have a1:∀(t:bY) (W:bV),(Instr.makeMap t none).run prog W= .ok (.map (some W.heap.size)) (W.alloc (.map #[] 0)):=fun _ _=>rfl;have S:=hid (aUe g c w hg);clear hg;go_enter func11,ntmps11
 go_wp2_with fail
 (with_reducible refine(aRb 1 (by omega) (by omega) w).mono ?_)
 rintro e T ⟨rfl,h⟩;rw[h];clear h T;go_wp2_with fail
 (with_reducible refine(S.out).mono ?_)
 rintro e d ⟨P,U,E,Z,Y,V,rfl,J,H,L,l,k,j,q,p,o,R⟩;obtain⟨y,u,A,HN,B⟩:=aDs J H L (show P≠U/\P≠E/\U≠E/\w.heap.size<=P/\w.heap.size<=U/\w.heap.size<=E from⟨l,k,j,q,p,o⟩) R;clear J H L l k j q p o R S;go_wp2_with fail
 (with_reducible refine(aPv d).mono ?_)
 rintro e a ⟨X,Q,rfl,m,n,G,O,N,f⟩;obtain⟨x,s,z,r,v,i,HL⟩:=aMz (y.later f) (u.later f) (A.later f) m n (aF B.out f) (show P<d.heap.size/\U<d.heap.size/\E<d.heap.size/\d.heap.size<=X/\d.heap.size<=Q/\X≠Q/\X<a.heap.size/\Q<a.heap.size/\w.heap.size<=d.heap.size/\d.heap.size<=a.heap.size from⟨y.lt,u.lt,A.lt,O,N,G,m.lt,n.lt,B.size,f.size⟩);clear m n G O N f y u A B;go_wp2_with fail
 go_ret2
 obtain⟨l,k,j,q,p,o⟩:=HN.out;obtain⟨m1,m2,m3,m4,m5,m6,m7,m8,m9,a0⟩:=HL.out;have F:(a.alloc (.map #[] 0)).heap.size=a.heap.size+1:=by rw[aI]
 have D:((a.alloc (.map #[] 0)).alloc (.map #[] 0)).heap.size=a.heap.size+1+1:=by rw[aI,aI]
 have KK:MapIs ((a.alloc (.map #[] 0)).alloc (.map #[] 0)) (a.heap.size+1) #[] 0:=by have:=MapIs.made (a.alloc (.map #[] 0));rwa [F]at this
 refine⟨a.heap.size+1+1,P,X,a.heap.size,a.heap.size+1,Q,U,E,rfl,⟨aAo _ _ _ D.symm,⟨Z,Y,V,((x.alloc _).alloc _).alloc _⟩,((s.alloc _).alloc _).alloc _,((z.alloc _).alloc _).alloc _,((r.alloc _).alloc _).alloc _,
   ((v.alloc _).alloc _).alloc _,((MapIs.made a).alloc _).alloc _,KK.alloc _,?_⟩,?_,((i.alloc i.size _).alloc (by rw[F];omega) _).alloc (by rw[D];omega) _⟩
 . simp only[List.nodup_cons,List.mem_cons,List.not_mem_nil,or_false,not_or,List.nodup_nil,and_true,not_false_eq_true];omega
 . intro b M;simp only[List.mem_cons,List.not_mem_nil,or_false]at M;rcases M with rfl|rfl|rfl|rfl|rfl|rfl|rfl|rfl <;> omega
theorem bC8 (args:Array bW) (W:bV):(callFunc 55 args).run prog W= .ok (.enter 55 args) W:=enters_of func55 (by kernel_rfl) rfl args W
structure MkJ (w:bV) (b bO:Nat) (q:Qy) (L:List Rw) (RB:Nat) (rv:bW) (rows:List Rw) (ss:List Sc) (W:bV):Prop where
 out:∃v ps,BlkIs W bO 36 [v]/\RgsOwn W (bO+1) v L ss ps
 st:BlkIs W w 72 [.pointer (some (b,0))]
 qb:BlkIs W (w.heap.size+1) 29 q
 row:W.ownsRow RB 116 5 rv rows.length (rows.flatMap rwC)
 bel:bX w w W
theorem MkJ.later {w:bV} {b bO:Nat} {q:Qy} {L:List Rw} {RB:Nat} {rv:bW} {rows:List Rw} {ss:List Sc} {W W':bV} (h:MkJ w b bO q L RB rv rows ss W) (hb:bX W W W'):MkJ w b bO q L RB rv rows ss W':=by
 obtain⟨v,a,d,c⟩:=h.out;exact⟨⟨v,a,d.later hb,c.later hb⟩,h.st.later hb,h.qb.later hb,aAb hb h.row,aF h.bel hb⟩
theorem MkJ.put {w:bV} {b bO m:Nat} {q:Qy} {st:StT} {RB:Nat} {rv:bW} {rows:List Rw} {ss:List Sc} {W:bV} (h:MkJ w b bO q st.rows RB rv rows ss W) (hS:StAt w b m st) (gd:GoodS st) (hR:aA4 w) (s:Sc) (hs:GoodSc s) (hbO:w.heap.size+2<=bO) (hRB:bO<RB) (h8:ss.length<=1000) :
 bZ prog 55 #[scV s,.pointer (some (w,0)),.pointer (some (bO,0))] W fun e w'=>e= .returned (.tuple #[])/\MkJ w b bO q st.rows RB rv rows (ss++[s]) w':=by
 obtain⟨v,g,d,c⟩:=h.out;refine(aXt b m st s hs w.heap.size bO (bO+1) v ss g W (hS.below h.bel) gd (hR.later h.bel) h.st d c (Nat.lt_succ_self _) d.lt h8).mono ?_;rintro e w' ⟨l,f,p,j,i,u⟩;have a:∀k,k<=bO->some k≠v.ownBlock:=fun k n e=>by have:=(c.row.lt _ e.symm).1;omega
 refine⟨l,⟨f,_,j,i⟩,h.st.upd2 u (by omega) (a _ (by omega)),h.qb.upd2 u (by omega) (a _ (by omega)),aN2 h.row u (fun e=>by have:=(h.row.lt _ e).1;omega) (aB6 c.row h.row (by decide)),?_⟩;exact h.bel.trans (u.below (by omega) (fun k e=>by have:=(c.row.lt _ e).1;omega) h.bel.size)
theorem aXa (b m:Nat) (st:StT) (q:Qy) (g:GoodQ q) (w:bV) (hS:StAt w b m st) (gd:GoodS st) (hR:aA4 w) (h100:(aAy q st.rows).length<=100) :
 bZ prog 21 #[.pointer (some (b,0)),qV q] w fun e w'=>∃v ps,e= .returned (.tuple #[v,()])/\RgsOwn w' w.heap.size v st.rows (aCo q st.rows) ps/\bX w w w':=by
 obtain⟨n,R,D⟩:=aAw (fun W=>aCk q g W) (fun W=>aZx q g W) (fun W (hW:bX w w W)=>aQz b m st q.table q.column q.low q.high g.c0 g.c3 W (hS.below hW) gd);have c:=fun(i C:Nat) rv ss (W:bV) (h:MkJ w b i q st.rows C rv (aAy q st.rows) ss W) s hs h1 h2 h3=>h.put hS gd hR s hs h1 h2 h3;obtain⟨E,HG,HL⟩:=aAw c g h100;clear c hS gd hR g h100;obtain⟨wb,HZ,HW,HB,KS,KQ⟩:=aNb w [.pointer (some (b,0))] 72 q 29;have bg:=bC8
 (try unfold qV at n)
 (try unfold qV at R)
 unfold qV;go_enter func21,ntmps21
 go_upto_region 1 with fail
 rw[<-HW.out];have x0:=KS.c0
 go_wp2_with (first
  | (refine wpList_load_row rfl 29 (.tmp 3) rfl (w.heap.size+1) rfl 29 q (0,0) _ KQ.out underlying29 rfl Tryz.infoQry7 ?_)
  | fail)
 (with_reducible refine(n.out wb).mono ?_)
 rintro e w1 ⟨rfl,b1⟩;obtain⟨i,F⟩:=ex_ w1.heap.size;have z:=hid (show w.heap.size+2<=i by have:=b1.size;have:=HZ.out;omega);have k2:BlkIs (w1.alloc (.cells #[.slice none 0 0] 36)) w1.heap.size 36 [.slice none 0 0]:=aAp _ _ _ rfl rfl;have b2:=aQ w1 (.cells #[.slice none 0 0] 36);rw[<-F]at k2;obtain⟨O,K,t,U⟩:=aBp k2 ((KS.later b1).later b2) ((KQ.later b1).later b2) (aF (aF HB.out b1) b2);clear k2 HW KS KQ HB HZ n x0 b1;go_upto_region 6 with fail
 rw[<-F];generalize w1.alloc (.cells #[.slice none 0 0] 36)=w2 at O K t U b2⊢;clear b2 F;go_upto_region 7 with fail
 go_wp2_with (first
  | (refine wpList_load_row rfl 29 (.tmp 3) rfl (w.heap.size+1) rfl 29 q (0,0) _ t.out underlying29 rfl Tryz.infoQry7 ?_)
  | fail)
 (with_reducible refine(R.out w2).mono ?_)
 rintro e X ⟨rfl,b3⟩;obtain⟨L,a6,a8,af⟩:=aBp (O.later b3) (K.later b3) (t.later b3) (aF U.out b3);clear b3 O K t U R;unfold scV aWp;dsimp only
 go_upto_region 8 with(first
  | (refine aAi rfl 131 (.tmp 8) (.tmp 21) rfl X.heap.size #[q.table,q.column,q.low,q.high] _ 131 rfl rfl rfl Tryz.infoScan rfl (by simp[bH]) ?_)
  | fail)
 have Z:=aQ X (.cells #[q.table,q.column,q.low,q.high] 131);have k4:BlkIs (X.alloc (.cells #[q.table,q.column,q.low,q.high] 131)) X.heap.size 131 [q.table,q.column,q.low,q.high]:=aAp _ _ _ rfl rfl;obtain⟨X8,G⟩:=ex_ X.heap.size;have ax:=hid (show i<X8 by rw[G];exact L.lt);generalize X.alloc (.cells #[q.table,q.column,q.low,q.high] 131)=w4 at Z k4⊢;rw[<-G]at k4⊢;obtain⟨a9,J,a7,T,r⟩:=aDs (L.later Z) (a6.later Z) (a8.later Z) (aF af.out Z) k4;clear Z k4 G L a6 a8 af;have x1:=J.c0;obtain⟨z0,z1,z2,z3⟩:=r.C4;go_wp2_with fail
 (with_reducible refine(D.out w4 T.out).mono ?_)
 rintro e w5 ⟨rv,rfl,a,Y⟩;rw[show aC2 st.rows q.table q.column q.low q.high=aAy q st.rows from rfl]at a;obtain⟨RA,rc,rfl,aq,-,f⟩:=aAa a;obtain⟨C,H⟩:=ex_ w4.heap.size;rw[<-H]at a;have aa:=hid (show i<C by rw[H];have:=r.lt;have:=ax.out;omega);obtain⟨N,hN⟩:=ex_ ((aAy q st.rows).length)
 have J5:MkJ w b i q st.rows C (.slice RA N rc) (aAy q st.rows) [] w5:=by
  refine⟨⟨_,_,a9.later Y,RgsOwn.nil _ _ _⟩,J.later Y,a7.later Y,by rw[hN];exact a,aF T.out Y⟩
 have a5:=hid (r.later Y);have aC:=hid f;rw[<-hN]at aq HL⊢;have HN:=hid hN;have ad:=hid J5;have bo:N<=100:=HL.out;clear J5 r a9 J a7 T Y a f hN H HL z0 z1 z2 z3 x1 D;have t1:decide ((100:Int)<(N:Int))=false:=by rw[decide_eq_false_iff_not];omega
 have c:=E.out i C _ [] w5 ad.out (aWp q) (aTn HG.out) z.out aa.out (by simp);unfold scV aWp at c;have ac:=hid c;clear c
 go_wp2_with (first
  | (refine wpList_load_row rfl 131 (.tmp 8) rfl (X8) rfl 131 #[q.table,q.column,q.low,q.high] (0,0) _ a5.out underlying131 rfl Tryz.infoScan ?_)
  | fail)
 refine(ac.out).mono ?_;rintro e w6 ⟨rfl,J6⟩;have o:=hid J6;clear J6 ac ad a5;have k0:=o.qb.c0;by_cases B:q.kind=7
 case neg=>
  have e7:(q.kind== 7)=false:=by simpa using B
  obtain⟨v,ps,l,d⟩:=o.out.out;have j:aCo q st.rows=[]++[⟨q.table,q.column,q.low,q.high⟩]:=by unfold aCo aFt;rw[if_neg B];rfl
  have P:=hid j;have y:=l.c0;obtain⟨AO,cO,hv,-⟩:=aAa d.row;have V:=hid (d.mono (show w.heap.size<=i+1 by have:=z.out;omega));clear l d j B;subst hv;go_wp2_with fail
  refine bodyPost_ret (by simp[results,results21,go_sem];try rfl) rfl ?_;refine⟨_,ps,rfl,?_,o.bel⟩;rw[P.out];exact V.out
 case pos=>
  have e7:(q.kind== 7)=true:=by simpa using B
  have j:aCo q st.rows=[⟨q.table,q.column,q.low,q.high⟩]++(aAy q st.rows).map (aCs q):=by unfold aCo aFt;rw[if_pos B];rfl
  have P:=hid j;have aA:=hid B;clear B j;go_wp2_with fail
  go_loopw [43] (fun kv wr=>∃k:Nat,kv= .int .i64 k/\k<=N/\Hid (MkJ w b i q st.rows C (.slice RA N rc) (aAy q st.rows) ([⟨q.table,q.column,q.low,q.high⟩]++((aAy q st.rows).take k).map (aCs q)) wr)) (fun kv _=>N-(intOf kv).toNat)
  case atStart=>exact⟨0,rfl,by omega,o⟩
  case round=>
   clear k0 o;obtain⟨k,rfl,B,HJ⟩:=hrel;by_cases h1:k<N
   case neg=>
    obtain rfl:k=N:=by omega
    have hj:=HJ.out;rw[HN.out,bI,<-P.out,<-HN.out]at hj;obtain⟨v,ps,l,d⟩:=hj.out;have aD:=hid hj.bel;have y:=l.c0;obtain⟨AO,cO,hv,-⟩:=aAa d.row;have V:=hid (d.mono (show w.heap.size<=i+1 by have:=z.out;omega));clear l d hj HJ;obtain⟨M,hM⟩:=ex_ ((aCo q st.rows).length);rw[<-hM]at hv;clear hM;subst hv;go_wp2_with fail
    refine bodyPost_ret (by simp[results,results21,go_sem];try rfl) rfl ?_;exact⟨_,_,rfl,V.out,aD.out⟩
   case pos=>
    obtain⟨x,hx⟩:∃x,(aAy q st.rows)[k]? =some x:=⟨_,aL (by rw[<-HN.out];exact h1)⟩;have a:=HJ.row;rw[<-HN.out]at a;obtain⟨A',c',he,-,-,p⟩:=aAa a;injection he with e1 e2 e3
    subst e1 e3;obtain⟨gr,rfl,bf,-,p⟩:=p (by omega)
    have hr:wr.rangeAt gr (0+k*5) x:=fun m u hu=>by
     rw[aT];exact p _ _ (aBk rwC 5 aAu _ k m x u hx hu)
    have Q:=hid hr;have ay:=hid (show(aAy q st.rows).take (k+1)=(aAy q st.rows).take k++[x] by rw[bM,hx];rfl);have q1:(0:Int)<=(k:Int):=by omega
    have q2:(k:Int)<(N:Int):=by omega
    clear a p hr hx;rw[aT]at Q
    go_upto_region 16 with(first
     | (refine wpList_load_mid rfl 116 (.tmp 45) rfl gr (k*5) rfl x _ Q.out underlying116 rfl Tryz.infoRowSz ?_)
     | (refine aAi rfl 116 (.tmp 11) (.tmp 46) rfl wr.heap.size x _ 116 rfl rfl rfl Tryz.infoRowSz rfl (by simp[bH]) ?_)
     | fail)
    have b7:=aQ wr (.cells x 116);have k7:BlkIs (wr.alloc (.cells x 116)) wr.heap.size 116 x:=aAp _ _ _ rfl rfl;obtain⟨au,hX⟩:=ex_ wr.heap.size;generalize wr.alloc (.cells x 116)=w7 at b7 k7⊢;rw[<-hX]at k7⊢;obtain⟨S,a4,A⟩:=aAw (HJ.later b7) k7 (aQ0 q x w7);clear b7 k7 hX HJ Q
    (try unfold qV at A)
    (try unfold rwV at A)
    go_wp2_with (first
     | (refine wpList_load_row rfl 29 (.tmp 3) rfl (w.heap.size+1) rfl 29 q (0,0) _ S.qb underlying29 rfl Tryz.infoQry7 ?_)
     | (refine wpList_load_row rfl 116 (.tmp 11) rfl (au) rfl 116 x (0,0) _ a4.out underlying116 rfl Tryz.infoRowSz ?_)
     | fail)
    (with_reducible refine(A.out).mono ?_)
    rintro e w8 ⟨rfl,b8⟩
    have c:=E.out i C _ _ w8 (S.later b8) (aCs q x) (aN0 HG.out aA.out x) z.out aa.out (by
     rw[aE,aR,aH];simp;omega)
    have ab:=hid c;clear c b8 S a4 A;go_wp2_with fail
    refine(ab.out).mono ?_;rintro e w9 ⟨rfl,J9⟩
    have aB:=hid (show MkJ w b i q st.rows C _ (aAy q st.rows) ([⟨q.table,q.column,q.low,q.high⟩]++((aAy q st.rows).take (k+1)).map (aCs q)) w9 by
     rw[ay.out,List.map_append,<-aS];exact J9)
    clear J9 ab;go_wp2_with fail
    go_roundw
    case rel=>exact⟨k+1,by go_num,h1,aB⟩
    case measure=>simp[intOf];omega
theorem Tryz.infoEnt:(prog.info? 42).map (·.size)=some 10:=by kernel_rfl
theorem aJe (v:bW) (l:List Rec) (p:Nat) (hp:p<=l.length) (hl:l.length<=10000) (s:StT) (hs:runS st0 (l.take p)=some s) (q:Qy) (g:GoodQ q) (tn:Int) (w:bV) (hv:aCj w v l) (hR:aA4 w) (h100:(aAy q s.rows).length<=100) :
 bZ prog 9 #[v,p,qV q,tn] w fun e w'=>∃rv,e= .returned (.agg #[q.kind,q.table,q.column,q.low,q.high,q.by_,q.other,tn,p,rv])/\RgsAt w' rv s.rows (aCo q s.rows)/\bX w w w':=by
 obtain⟨A,U,rfl,-⟩:=id hv;have a:=fun W (z:bX w w W)=>bCl _ l p hp hl hs W (hv.below z);have f:=hid (fun b m W (z:bX w w W) u=>aXa b m s q g W u (aBy aCl hs).1 (hR.later z) h100);obtain⟨N,G⟩:=ex_ l.length;rw[<-G]at a⊢;have r:=hid a;clear a G hv hp hl hs g hR h100;obtain⟨P,R,L,E,J,H⟩:=aNb w q 29 [(),(),(),(),(),(),(),(),(),.slice none 0 0] 42
 (try unfold qV at f)
 unfold qV;go_enter func9,ntmps9
 go_upto_region 1 with fail
 rw[<-L.out];go_wp2_with fail
 (with_reducible refine(r.out P E.out).mono ?_)
 rintro e F ⟨b,m,rfl,u,-,-,y⟩;obtain⟨d,c,h⟩:=aAw (J.later y) (H.later y) (aF E.out y);have M:=hid (f.out b m F h.out u);clear y L J H E r f u R
 go_wp2_with (first
  | (refine wpList_load_row rfl 29 (.tmp 6) rfl (w.heap.size) rfl 29 q (0,0) _ d.out underlying29 rfl Tryz.infoQry7 ?_)
  | fail)
 (with_reducible refine(M.out).mono ?_)
 rintro e Q ⟨rv,T,rfl,t,x⟩;obtain⟨k,i,rfl,-⟩:=aAa t.row;obtain⟨j,n⟩:=ex_ ((aCo q s.rows).length);rw[<-n]at t⊢;obtain⟨B,o,D,S,C⟩:=aDs (d.later x) (c.later x) (aF h.out x) t (show w.heap.size+1<F.heap.size from c.lt);clear x t n d c h M
 go_wp2_with (first
  | (refine wpList_load_row rfl 29 (.tmp 6) rfl (w.heap.size) rfl 29 q (0,0) _ B.out underlying29 rfl Tryz.infoQry7 ?_)
  | (refine wpList_store_row rfl 42 (.tmp 8) (.tmp 29) rfl (w.heap.size+1) #[q.kind,q.table,q.column,q.low,q.high,q.by_,q.other,tn,p,.slice k j i] rfl rfl 42 _ o.out Tryz.infoEnt rfl (by simp[bH]) ?_)
  | fail)
 obtain⟨K,O,RF⟩:=aAw (o.setRow [q.kind,q.table,q.column,q.low,q.high,q.by_,q.other,tn,p,.slice k j i]) (below_setRow D.out (show w.heap.size<=w.heap.size+1 by omega) #[q.kind,q.table,q.column,q.low,q.high,q.by_,q.other,tn,p,.slice k j i]) (S.setRow (w.heap.size+1) C.out #[q.kind,q.table,q.column,q.low,q.high,q.by_,q.other,tn,p,.slice k j i]);generalize Q.setRow (w.heap.size+1) #[.int .i64 q.kind,.int .i64 q.table,.int .i64 q.column,.int .i64 q.low,.int .i64 q.high,.int .i64 q.by_,.int .i64 q.other,.int .i64 tn,.int .i64 p,.slice k j i]=wf at K O RF⊢;refine bodyPost_ret (results_cell_row rfl _ _ (w.heap.size+1) 42 #[q.kind,q.table,q.column,q.low,q.high,q.by_,q.other,tn,p,.slice k j i] (0,0) _ rfl K.out underlying42 rfl Tryz.infoEnt) rfl ?_;exact⟨_,rfl,RF.at_ (aDf s.rows),O.out⟩
noncomputable def aEu (i:Nat):Field:=((prog.fieldsOf 131)[i]?).getD default
theorem aWr (W:bV) (a b c d:Int):(Op.equalIn 10000 131 (.agg #[a,b,c,d]) (.agg #[a,b,c,d])).run prog W= .ok true W:=by
 obtain⟨y,v⟩:∃i,prog.info? 3=some i:=Option.isSome_iff_exists.1 (by kernel_rfl);have x:(prog.fieldsOf 131).toList=[aEu 0,aEu 1,aEu 2,aEu 3]:=by kernel_rfl
 have q : ((aEu 0).name == "_") = false := by kernel_rfl
 have p : ((aEu 1).name == "_") = false := by kernel_rfl
 have o : ((aEu 2).name == "_") = false := by kernel_rfl
 have n : ((aEu 3).name == "_") = false := by kernel_rfl
 have h:(aEu 0).type=3:=by kernel_rfl
 have g:(aEu 1).type=3:=by kernel_rfl
 have f:(aEu 2).type=3:=by kernel_rfl
 have e:(aEu 3).type=3:=by kernel_rfl
 have m:(aEu 0).offset=0:=by kernel_rfl
 have l:(aEu 1).offset=1:=by kernel_rfl
 have k:(aEu 2).offset=2:=by kernel_rfl
 have j:(aEu 3).offset=3:=by kernel_rfl
 have u : (aEu 0).name ≠ "_" := by simpa using q
 have t : (aEu 1).name ≠ "_" := by simpa using p
 have s : (aEu 2).name ≠ "_" := by simpa using o
 have r : (aEu 3).name ≠ "_" := by simpa using n
 rw[run_equalIn_struct (w:=W) 9999 _ _ _ (by kernel_rfl) (by kernel_rfl),x];simp only[Op.eqFields,h,g,f,e,m,l,k,j,if_pos u,if_pos t,if_pos s,if_pos r];simp[part,run_sizeOf,v,run_equalIn_int,underlying3,go_sem]
theorem bBh:prog.eqGuardType prog.depth 131=false:=by kernel_rfl
theorem RgsAt.nil (w:bV) (A:Option Addr) (c:Nat) (L:List Rw):RgsAt w (.slice A 0 c) L []:=⟨A,c,rfl,Nat.zero_le _,fun h=>absurd h (by simp)⟩
theorem aW9 (st:StT) (gd:GoodS st) (rb:Nat) (s:Sc) (hs:GoodSc s) (ss:List Sc) (v:bW) (w0 w:bV) (hb0:bX w0 w0 w) (hrb0:w0.heap.size<=rb) (kr:BlkIs w rb 128 [v]) (h:RgsAt w0 v st.rows (s :: ss)) (h8:ss.length<=1000) :
 bZ prog 48 #[.pointer (some (rb,0)),scV s] w fun e w'=>∃rv v',e= .returned rv/\w'.ownsRow w.heap.size 116 5 rv (s.rows st.rows).length ((s.rows st.rows).flatMap rwC)/\BlkIs w' rb 128 [v']/\RgsAt w0 v' st.rows ss/\Upd rb w w':=by
 obtain⟨A,k,rfl,U,hx⟩:=h;obtain⟨g,o,rfl,hg,hj⟩:=hx (by simp);obtain⟨⟨v1,v2,v3⟩,a,ap⟩:=hj 0 s rfl;rw[Nat.zero_mul,Nat.add_zero]at a;have V:RgsAt w0 (.slice (some (g,o)) (s :: ss).length k) st.rows (s :: ss):=⟨_,_,rfl,U,fun _=>⟨g,o,rfl,hg,hj⟩⟩;have m:=V.tail;obtain⟨X,a6,a4⟩:=ap;obtain⟨H,D,e1,-⟩:=X.form;obtain⟨G,B,e2,-⟩:=id a6;obtain⟨E,z,e3⟩:=a4.len;dsimp only at e1 e2 e3;subst e1 e2 e3;have T:(s.cut st.rows).filter (inQ s.column s.low s.high)=s.rows st.rows:=bCk gd rfl hs;have d:=fun W (hW:bX w0 w0 W)=>bAj s.table s.column s.low s.high (s.cnt st.rows) (s.from_ st.rows) (.slice H (s.cut st.rows).length D) (.slice G (s.pths st.rows).length B) (.slice E (sumsS st.rows).length z) (s.cut st.rows) hs.t0 hs.t3 hs.c0 hs.c3 hs.le W (X.below hW) ⟨_,_,_,rfl⟩ ⟨_,_,_,rfl⟩ (aPi gd rfl hs);rw[T]at d;unfold rgC at a;dsimp only at a;unfold pfC at a;unfold pfV at d;obtain⟨C,hC⟩:=ex_ (s.cnt st.rows);obtain⟨F,hF⟩:=ex_ (s.from_ st.rows);obtain⟨O,a9⟩:=ex_ ((s.cut st.rows).length);obtain⟨L,a8⟩:=ex_ ((s.pths st.rows).length);obtain⟨K,a7⟩:=ex_ ((sumsS st.rows).length);obtain⟨N,hN⟩:=ex_ ss.length;rw[<-hC,<-hF,<-a9,<-a8,<-a7]at d a;rw[<-hN]at h8 m;rw[aW,<-hN]at kr U;obtain⟨x,R,a2,ac,HN⟩:=aDs d a m kr hN;have an:=kr.lt;have hq:=fun W=>aWr W s.table s.column s.low s.high;have aP:=bBh;clear d a V m X a6 a4 T hC hF a9 a8 a7 hN kr hj hx gd hs;obtain⟨S,HZ,HW,HB,KX⟩:=bB6 w [s.table,s.column,s.low,s.high] 131;have aB:rb<w.heap.size:=an;unfold scV;go_enter func48,ntmps48
 go_upto_region 1 with fail
 rw[<-HW.out];have x0:=(ac.later HB.out).c0;have t1:decide ((0:Int)<((N+1:Nat):Int))=true:=by rw[decide_eq_true_iff];omega
 go_wp2_with fail
 (with_reducible refine(aDw S).mono ?_)
 rintro e J ⟨rfl,c⟩;rw[c];clear c J t1;have ad:=hid (show S.rangeAt g o [s.table,s.column,s.low,s.high,(C:Int),(F:Int),.slice H O D,.slice G L B,.slice E K z]from fun i u hu=>((hb0.trans (HB.mono hb0.size)).cell (p:=⟨g,o+i,none⟩) hg).trans (R.out i u hu));have q1:(0:Int)<(N:Int)+1:=by omega
 go_upto_region 3 with(first
  | (refine wpList_load_mid rfl 68 (.tmp 19) rfl g o rfl [s.table,s.column,s.low,s.high,(C:Int),(F:Int),.slice H O D,.slice G L B,.slice E K z] _ ad.out underlying68 rfl Tryz.infoPf9 ?_)
  | (refine aAi rfl 68 (.tmp 5) (.tmp 20) rfl S.heap.size #[s.table,s.column,s.low,s.high,(C:Int),(F:Int),.slice H O D,.slice G L B,.slice E K z] _ 68 rfl rfl rfl Tryz.infoPf9 rfl (by simp[bH]) ?_)
  | fail)
 have b2:=aQ S (.cells #[s.table,s.column,s.low,s.high,(C:Int),(F:Int),.slice H O D,.slice G L B,.slice E K z] 68);have k2:BlkIs (S.alloc (.cells #[s.table,s.column,s.low,s.high,(C:Int),(F:Int),.slice H O D,.slice G L B,.slice E K z] 68)) S.heap.size 68 [s.table,s.column,s.low,s.high,(C:Int),(F:Int),.slice H O D,.slice G L B,.slice E K z]:=aAp _ _ _ rfl rfl;obtain⟨X5,hX⟩:=ex_ S.heap.size;have ab:=hid (show w.heap.size<X5 by rw[hX];exact KX.lt);generalize S.alloc (.cells #[s.table,s.column,s.low,s.high,(C:Int),(F:Int),.slice H O D,.slice G L B,.slice E K z] 68)=w2 at b2 k2⊢;rw[<-hX]at k2⊢;obtain⟨Q,P,ae,r⟩:=aBp k2 (KX.later b2) (aF HB.out b2) ((ac.later HB.out).later b2);clear b2 k2 hX x0 q1 ad HW KX HB HZ;have x1:=r.c0;have f1:w2.frozen? (rb,0)=false:=r.frozen 0;have q3:(1:Int)<=(N:Int)+1:=by omega
 have q4:(N:Int)+1<=(k:Int):=by omega
 by_cases hc:k=1
 . subst hc;obtain rfl:N=0:=by omega
   go_upto_region 4 with fail
   obtain⟨q,l,n,j,a3⟩:=aDs (r.set 0 (.slice (some (g,o)) 0 0)) (Q.other (p:=⟨rb,0,none⟩) (by have:=ab.out;dsimp only;omega) (.slice (some (g,o)) 0 0)) (P.other (p:=⟨rb,0,none⟩) (by dsimp only;omega) (.slice (some (g,o)) 0 0)) ((bU ae.out (b:=rb)).trans (Upd.setCell rb 0 w2 (.slice (some (g,o)) 0 0))) (show w2.heap.size=(w2.setCell (rb,0) (.slice (some (g,o)) 0 0)).heap.size by simp[bN]);generalize w2.setCell (rb,0) (.slice (some (g,o)) 0 0)=w3 at q l n j a3⊢;clear x1 f1 q3 q4 r Q P;obtain⟨z0,z1,z2,z3⟩:=l.C4;have t:0=0:=rfl;clear t
   go_wp2_with (first
    | (refine wpList_load_row rfl 131 (.tmp 3) rfl (w.heap.size) rfl 131 #[s.table,s.column,s.low,s.high] (0,0) _ n.out underlying131 rfl Tryz.infoScan ?_)
    | fail)
   (with_reducible refine(aDw w3).mono ?_)
   rintro e J ⟨rfl,c⟩;rw[c];clear c J z0 z1 z2 z3;have hr:=x.out w3 (hb0.trans ((j.below hrb0 hb0.size)));have HR:=hid hr;clear hr
   go_wp2_with (first
    | (refine wpList_load_row rfl 68 (.tmp 5) rfl (X5) rfl 68 #[s.table,s.column,s.low,s.high,(C:Int),(F:Int),.slice H O D,.slice G L B,.slice E K z] (0,0) _ l.out underlying68 rfl Tryz.infoPf9 ?_)
    | fail)
   (with_reducible refine(HR.out).mono ?_)
   rintro e w4 ⟨rv,rfl,f,Z⟩;obtain⟨RA,rc,rfl,-⟩:=aAa f;obtain⟨M,Y⟩:=ex_ ((s.rows st.rows).length);rw[<-Y];obtain⟨y,a0,a1,HM⟩:=aBp (aAh f (show w.heap.size<=w3.heap.size from j.size)) (q.later Z) (j.trans (bU Z)) Y;clear f Z Y q l n j;go_wp2_with fail
   (with_reducible refine(aDw w4).mono ?_)
   rintro e J ⟨rfl,c⟩;rw[c];clear c J;go_wp2_with fail
   go_ret;refine⟨_,_,rfl,?_,a0.out,(by rw[List.eq_nil_of_length_eq_zero HN.symm];exact RgsAt.nil _ _ _ _),a1.out⟩;rw[HM.out];exact y.out
 . go_upto_region 4 with fail
   obtain⟨q,l,n,j,a3⟩:=aDs (r.set 0 (.slice (some (g,o+9)) N (k-1))) (Q.other (p:=⟨rb,0,none⟩) (by have:=ab.out;dsimp only;omega) (.slice (some (g,o+9)) N (k-1))) (P.other (p:=⟨rb,0,none⟩) (by dsimp only;omega) (.slice (some (g,o+9)) N (k-1))) ((bU ae.out (b:=rb)).trans (Upd.setCell rb 0 w2 (.slice (some (g,o+9)) N (k-1)))) (show w2.heap.size=(w2.setCell (rb,0) (.slice (some (g,o+9)) N (k-1))).heap.size by simp[bN]);generalize w2.setCell (rb,0) (.slice (some (g,o+9)) N (k-1))=w3 at q l n j a3⊢;clear x1 f1 q3 q4 r Q P;obtain⟨z0,z1,z2,z3⟩:=l.C4;have t:0=0:=rfl;clear t
   go_wp2_with (first
    | (refine wpList_load_row rfl 131 (.tmp 3) rfl (w.heap.size) rfl 131 #[s.table,s.column,s.low,s.high] (0,0) _ n.out underlying131 rfl Tryz.infoScan ?_)
    | fail)
   (with_reducible refine(aDw w3).mono ?_)
   rintro e J ⟨rfl,c⟩;rw[c];clear c J z0 z1 z2 z3;have hr:=x.out w3 (hb0.trans ((j.below hrb0 hb0.size)));have HR:=hid hr;clear hr
   go_wp2_with (first
    | (refine wpList_load_row rfl 68 (.tmp 5) rfl (X5) rfl 68 #[s.table,s.column,s.low,s.high,(C:Int),(F:Int),.slice H O D,.slice G L B,.slice E K z] (0,0) _ l.out underlying68 rfl Tryz.infoPf9 ?_)
    | fail)
   (with_reducible refine(HR.out).mono ?_)
   rintro e w4 ⟨rv,rfl,f,Z⟩;obtain⟨RA,rc,rfl,-⟩:=aAa f;obtain⟨M,Y⟩:=ex_ ((s.rows st.rows).length);rw[<-Y];obtain⟨y,a0,a1,HM⟩:=aBp (aAh f (show w.heap.size<=w3.heap.size from j.size)) (q.later Z) (j.trans (bU Z)) Y;clear f Z Y q l n j;go_wp2_with fail
   (with_reducible refine(aDw w4).mono ?_)
   rintro e J ⟨rfl,c⟩;rw[c];clear c J;go_wp2_with fail
   go_ret;refine⟨_,_,rfl,?_,a0.out,a2.out,a1.out⟩;rw[HM.out];exact y.out
variable {k:Nat}
def aSh {α:Type} (f:α->α) (xs:List α) (k:Nat):List α:=(xs.take k).map f++xs.drop k
theorem bAz {α:Type} {f:α->α} {xs:List α} (hk:k<=xs.length):(aSh f xs k).length=xs.length:=by
 unfold aSh;rw[aE,aR,aH,aJ];omega
theorem bA0 {α:Type} {f:α->α} {xs:List α} {p:α} (h:xs[k]? =some p):(aSh f xs k)[k]? =some p:=by
 have a:=(aN.1 h).1;unfold aSh;rw[List.getElem?_append_right (by rw[aR,aH];omega),aR,aH,List.getElem?_drop,<-h]
 congr 1
 omega
theorem aXp {α:Type} {f:α->α} {xs:List α} {p:α} (h:xs[k]? =some p):aSh f xs (k+1)=(aSh f xs k).set k (f p):=by
 have a:=(aN.1 h).1;have e:xs.take (k+1)=xs.take k++[p]:=by rw[bM,h];rfl
 have d:xs.drop k=p :: xs.drop (k+1):=by
  rw[List.drop_eq_getElem_cons a]
  congr 1
  exact Option.some.inj ((aL a).symm.trans h)
 unfold aSh;rw[e,d,List.map_append,List.set_append_right k (f p) (by rw[aR,aH];omega),aR,aH,show k-min k xs.length=0 by omega];simp
theorem aWo {α:Type} {l:List α} {p:α} (h:l[k]? =some p):l.set k p=l:=by
 have a:=(aN.1 h).1;refine List.ext_getElem? fun j=>?_;rw[List.getElem?_set];split
 . rename_i e
   subst e
   first|exact h.symm|(rw[if_pos a];exact h.symm)
 . rfl
theorem aVb {l:List (Rw×Rw)} {i:Nat} {p:Rw×Rw} (h:l[i]? =some p) (t:List bW) (y:Rw) :
 (l.flatMap prC++t).take (i*10+5)++rwC y++(l.flatMap prC++t).drop (i*10+5+(rwC y).length)=(l.set i (p.1,y)).flatMap prC++t:=by
  have a:=(aN.1 h).1;have g:l[i]=p:=Option.some.inj ((aL a).symm.trans h);have e:l=l.take i++p :: l.drop (i+1):=by rw[<-g,<-List.drop_eq_getElem_cons a,bP]
  have b:((l.take i).flatMap prC).length=i*10:=by rw[aAk prC 10 aAx,aH];congr 1;omega
  have c:l.flatMap prC++t=((l.take i).flatMap prC++rwC p.1)++(rwC p.2++((l.drop (i+1)).flatMap prC++t)):=by
   conv=>lhs;rw[e]
   rw[bJ,List.flatMap_cons,show prC p=rwC p.1++rwC p.2 from rfl];simp only[aS]
  have j:l.flatMap prC++t=((l.take i).flatMap prC++rwC p.1++rwC p.2)++((l.drop (i+1)).flatMap prC++t):=by rw[c];simp only[aS]
  have f:(l.flatMap prC++t).take (i*10+5)=(l.take i).flatMap prC++rwC p.1:=by
   rw[c];exact bD (by rw[aE,b];rfl)
  have d:(l.flatMap prC++t).drop (i*10+5+(rwC y).length)=(l.drop (i+1)).flatMap prC++t:=by
   rw[j];exact bS (by rw[aE,aE,b];rfl)
  rw[f,d,List.set_eq_take_append_cons_drop,if_pos a,bJ,List.flatMap_cons,show prC (p.1,y)=rwC p.1++rwC y from rfl];simp only[aS]
theorem aX4 (q:Qy) (c:Chg) (pb pa:Option Addr) (B:Nat) (v:bW) (xs:List (Rw×Rw)) (w:bV) (h1:c.table=q.other) (h2:c.has=true) (h0:0<xs.length)
 (hv:w.ownsRow B 358 10 v xs.length (xs.flatMap prC)) (hB:B<=w.heap.size) (h8:xs.length<=100000) :
 bZ prog 232 #[effV q c pb pa,v] w fun e w'=>∃v',e= .returned (.tuple #[v',.bool (c.had)])/\w'.ownsRow B 358 10 v' (xs.map (aBf c)).length ((xs.map (aBf c)).flatMap prC)/\bX B w w':=by
 obtain⟨w1,i⟩:=ex_ (w.alloc (.cells #[q.kind,q.table,q.column,q.low,q.high,q.by_,q.other,c.table,c.key,c.had,c.old.1,c.old.2.1,c.old.2.2,c.has,c.new.1,c.new.2.1,c.new.2.2,.pointer pb,.pointer pa,.int .i64 (aC7 q c),.int .i64 (aCq q c)] 256));have b1:bX w w w1:=by rw[i];exact aQ _ _
 have z1:w1.heap.size=w.heap.size+1:=by rw[i,aI]
 have e1:BlkIs w1 w 256 (aIw q c pb pa):=by rw[i];exact aAp _ _ _ rfl rfl
 rcases hv.2 with⟨_,hz⟩|⟨g,cap,cur,rfl,hg1,hg2,hg3,hg4,hg5,hg6⟩
 . exfalso;omega
 have x:cur.toList=xs.flatMap prC++cur.toList.drop (xs.length*10):=by rw[<-hg6,bP]
 obtain⟨X,D⟩:=ex_ (cur.toList.drop (xs.length*10));rw[<-D]at x;have a:BlkIs w g 358 (xs.flatMap prC++X):=by rw[<-x];exact hg2
 have F:(xs.flatMap prC++X).length=cap*10:=by rw[<-x,<-hg5];simp
 have aB:=a.lt
 have Y:w1.rangeAt w.heap.size 7 c:=e1.rangeAt (fun j u hu=>by
  rw[<-hu];rcases j with _|_|_|_|_|_|_|_|_|_|j;all_goals first|rfl|(simp only[aIw,aM];simp at hu))
 have b:=fun W=>aHx c W;simp only[h2,if_true]at b;rw[aPk]at b;obtain⟨y,hy⟩:=ex_ (aB1 c);rw[<-hy]at b;unfold aD8 at b;have t1:(c.table== q.other)=true:=by simpa using h1
 obtain⟨N,hN⟩:=ex_ xs.length;have ao:=hid hg4;rw[<-hN]at hg3 h8 h0⊢;obtain⟨a2,Q,a9,ak,S,a4,H,G,aa,HY,M⟩:=aU3 i b1 e1 z1 hN Y b a F hy (show(prog.info? 116).map (·.size)=some (rwC y).toArray.size from Tryz.infoRowSz);unfold effV;clear i b1 e1 z1 hN hv h1 h2 Y b a F x D hg2 hg4 hg5 hg6 hy;go_enter func232,ntmps232
 go_upto_region 2 with fail
 rw[<-a2.out];go_wp2_with (first|(refine wpList_load_mid rfl 48 (.tmp 20) rfl w.heap.size 7 rfl c _ a4.out underlying48 rfl Tryz.infoChg10 ?_)|fail)
 refine(H.out _).mono ?_;rintro e V ⟨rfl,b2⟩;go_upto_region 3 with(first|(refine aAi rfl 116 (.tmp 6) (.tmp 23) rfl V.heap.size (rwC y).toArray _ 116 rfl rfl rfl M.out rfl (all_oneCell_toArray (aBj y)) ?_)|fail)
 obtain⟨R,J⟩:=ex_ V.heap.size;obtain⟨w3,t⟩:=ex_ (V.alloc (.cells (rwC y).toArray 116));have A:bX V V w3:=by rw[t];exact aQ _ _
 have a1:=hid (show BlkIs w3 R 116 (rwC y) by rw[t,J];exact aAp _ _ _ rfl (by simp));rw[<-J,<-t];obtain⟨a8,a7,ab⟩:=aAw ((a9.later b2).later A) (G.later (aF Q.out (aF b2 A))) ((aF Q.out (aF b2 A)).mono hB);have az:w.heap.size<R:=by have:=ak.out;have:=b2.size;omega
 clear b2 A J t a2 Q a9 a4 H G;go_wp2_with fail
 go_loopw [35] (fun iv wr=>∃k:Nat,iv= .int .i64 k/\k<=N/\Hid (BlkIs wr g 358 ((aSh (aBf c) xs k).flatMap prC++X))/\Hid (BlkIs wr w 256 (aIw q c pb pa))/\Hid (BlkIs wr R 116 (rwC y))/\Hid (bX B w wr)) (fun iv _=>N-(intOf iv).toNat)
 case atStart=>
  refine⟨0,rfl,by omega,?_,a8,a1,ab⟩;have:aSh (aBf c) xs 0=xs:=by unfold aSh;simp
  rw[this];exact a7
 case round=>
  clear a8 a7 ab a1;obtain⟨k,rfl,ah,T,U,C,HB⟩:=hrel;by_cases hk:k<N
  case neg=>
   obtain rfl:k=N:=by omega
   have hm:aSh (aBf c) xs k=xs.map (aBf c):=by
    unfold aSh;rw[S.out,bI,List.drop_length,List.append_nil]
   have E:wr.ownsRow B 358 10 (.slice (some (g,0)) k cap) (xs.map (aBf c)).length ((xs.map (aBf c)).flatMap prC):=by
    have h:(xs.map (aBf c)).length=k:=by rw[aR,<-S.out]
    rw[h];have a:=T.out;rw[hm]at a;refine⟨by rw[aAk prC 10 aAx,h],.inr ⟨g,cap,_,rfl,hg1,a,hg3,ao.out,?_,?_⟩⟩
    . have h1:=aa.out;rw[List.size_toArray];rw[aE,aAk prC 10 aAx]at h1⊢;rw[h];rw[<-S.out]at h1;exact h1
    . exact bD (by rw[aAk prC 10 aAx,h])
   have a5:=hid E;have x9:=U.c9;clear hm E T U C;go_wp2_with fail
   go_quiet (fail)
   go_wp2_with fail
   go_returns
   exact⟨_,rfl,aAb (below_drewN (aK _ _) _) a5.out,below_drewN HB.out _⟩
  case pos=>
   obtain⟨p,hp⟩:∃p,xs[k]? =some p:=⟨_,aL (by rw[<-S.out];exact hk)⟩;have L:=bA0 (f:=aBf c) hp
   have m:∀(j:Nat) u,(prC p)[j]? =some u->wr.cell? (g,k*10+j)=some u:=fun j u hu=>by
    rw[T.cell];exact aQe aAx L j u hu
   have x1:wr.cell? (g,k*10+6)=some (.int .i64 p.2.key):=m 6 _ rfl;have x2:=U.c8;have q1:(0:Int)<=(k:Int):=by omega
   have q2:(k:Int)<(N:Int):=by omega
   have a3:=hid (aXp (f:=aBf c) hp);have a6:=hid L;obtain⟨d,Z⟩:∃d,decide (p.2.key=c.key)=d:=⟨_,rfl⟩;have t2:(p.2.key== c.key)=d:=Z;clear L m hp;cases d
   case false=>
    have K:aBf c p=p:=by unfold aBf;rw[if_neg (of_decide_eq_false Z)]
    clear Z;go_wp2_with fail
    go_quiet (fail)
    go_wp2_with fail
    go_roundw
    case rel=>
     refine⟨k+1,by go_num,by omega,?_,?_,?_,?_⟩
     . rw[a3.out,K,aWo a6.out];exact hid (T.later (below_drewN (aK _ _) _))
     . exact hid (U.later (below_drewN (aK _ _) _))
     . exact hid (C.later (below_drewN (aK _ _) _))
     . exact hid (below_drewN HB.out _)
    case measure=>simp[intOf];omega
   case true=>
    have K:aBf c p=(p.1,y):=by unfold aBf;rw[if_pos (of_decide_eq_true Z),HY.out]
    clear Z;go_wp2_with fail
    go_quiet (fail)
    have z:=T.later (below_drewN (aK _ wr) nq);obtain⟨O,s,P⟩:=aAw (U.later (below_drewN (aK _ wr) nq)) (C.later (below_drewN (aK _ wr) nq)) (below_drewN HB.out nq);clear T U C HB x1 x2;generalize wr.drewN nq=ws at z O s P⊢
    have r:k*10+5+(rwC y).length<=((aSh (aBf c) xs k).flatMap prC++X).length:=by
     rw[aE,aAk prC 10 aAx,bAz (by rw[<-S.out];exact ah),<-S.out,show(rwC y).length=5 from rfl];omega
    have HT:=hid (z.there (o:=k*10+5) (n:=(rwC y).toArray.size) (by rw[show(rwC y).toArray.size=(rwC y).length from rfl];exact r));have l:=z.setCells (rwC y) (k*10+5) r;rw[aVb a6.out X y]at l;obtain⟨an,ap,al,aq,am⟩:=aDs l (show BlkIs (ws.setCells g (k*10+5) (rwC y)) w.heap.size 256 (aIw q c pb pa)from(aCd (by omega) (rwC y) (k*10+5)).trans O.out) (show BlkIs (ws.setCells g (k*10+5) (rwC y)) R 116 (rwC y)from(aCd (by omega) (rwC y) (k*10+5)).trans s.out) (aAz P.out hg1 (rwC y) (k*10+5)) (show ws.heap[R]? =some (.cells (rwC y).toArray 116 (0,0))from s.out);clear z O P r l
    go_wp2_with (first
     | (with_reducible refine wpList_load_row rfl 116 (.tmp 6) rfl R rfl 116 (rwC y).toArray (0,0) _ am.out underlying116 rfl M.out ?_)
     | (with_reducible refine wpList_store_mid rfl 116 (.tmp 52) (.tmp 50) rfl g (k*10+5) (rwC y).toArray rfl rfl HT.out M.out (all_oneCell_toArray (aBj y)) ?_)
     | fail)
    go_roundw
    case rel=>
     refine⟨k+1,by go_num,by omega,?_,ap,al,aq⟩;rw[a3.out,K];exact an
    case measure=>simp[intOf];omega
theorem aUr (q:Qy) (c:Chg) (pb pa:Option Addr) (B:Nat) (v:bW) (xs:List (Rw×Rw)) (w:bV) (h1:c.table=q.other) (h2:c.has=true) (h0:xs.length=0)
 (hv:w.ownsRow B 358 10 v xs.length (xs.flatMap prC)) (hB:B<=w.heap.size) (_:xs.length<=100000) :
 bZ prog 232 #[effV q c pb pa,v] w fun e w'=>∃v',e= .returned (.tuple #[v',.bool (c.had)])/\w'.ownsRow B 358 10 v' (xs.map (aBf c)).length ((xs.map (aBf c)).flatMap prC)/\bX B w w':=by
 obtain⟨p,b⟩:=ex_ (w.alloc (.cells #[q.kind,q.table,q.column,q.low,q.high,q.by_,q.other,c.table,c.key,c.had,c.old.1,c.old.2.1,c.old.2.2,c.has,c.new.1,c.new.2.1,c.new.2.2,.pointer pb,.pointer pa,.int .i64 (aC7 q c),.int .i64 (aCq q c)] 256));have D:bX w w p:=by rw[b];exact aQ _ _
 have r:BlkIs p w 256 (aIw q c pb pa):=by rw[b];exact aAp _ _ _ rfl rfl
 obtain⟨A,J,rfl,-⟩:=aAa hv
 have i:p.rangeAt w.heap.size 7 c:=r.rangeAt (fun j u C=>by
  rw[<-C];rcases j with _|_|_|_|_|_|_|_|_|_|j;all_goals first|rfl|(simp only[aIw,aM];simp at C))
 have a:=fun W=>aHx c W;simp only[h2,if_true]at a;rw[aPk]at a;obtain⟨y,x⟩:=ex_ (aB1 c);rw[<-x]at a;unfold aD8 at a;have H:(c.table== q.other)=true:=by simpa using h1
 have z:xs.map (aBf c)=xs:=by rw[List.eq_nil_of_length_eq_zero h0];rfl
 rw[z];have E:=hid hv;rw[h0];obtain⟨k,o,m,l,f,F,t⟩:=aMz b D r i a h0 (show(prog.info? 116).map (·.size)=some (rwC y).toArray.size from Tryz.infoRowSz);unfold effV;clear b D r hv h1 h2 i a x z h0;go_enter func232,ntmps232
 go_upto_region 2 with fail
 rw[<-k.out];go_wp2_with (first|(refine wpList_load_mid rfl 48 (.tmp 20) rfl w.heap.size 7 rfl c _ l.out underlying48 rfl Tryz.infoChg10 ?_)|fail)
 refine(f.out _).mono ?_;rintro e g ⟨rfl,s⟩;go_upto_region 3 with(first|(refine aAi rfl 116 (.tmp 6) (.tmp 23) rfl g.heap.size (rwC y).toArray _ 116 rfl rfl rfl t.out rfl (all_oneCell_toArray (aBj y)) ?_)|fail)
 have d:bX g g (g.alloc (.cells (rwC y).toArray 116)):=aQ _ _;generalize g.alloc (.cells (rwC y).toArray 116)=w3 at d⊢;have n:=hid (aF o.out (aF s d));have G:=((m.later s).later d).c9;clear s d k o m l f;go_wp2_with fail
 go_loopw [35] (fun iv wr=>iv= .int .i64 0/\wr=w3) (fun iv _=>2-(intOf iv).toNat)
 case atStart=>exact⟨rfl,rfl⟩
 case round=>
  obtain⟨rfl,rfl⟩:=hrel;go_wp2_with fail
  go_quiet (fail)
  go_wp2_with fail
  go_returns
  have h:=aAb (below_drewN n.out nq) E.out;rw[F.out]at h;exact⟨_,rfl,h,(below_drewN n.out _).mono hB⟩
theorem aRm {α:Type} (f:α->Bool):∀l:List α,l.find? f=l[l.findIdx f]?
 | []=>rfl
 | x :: l=>by
   rw[List.find?_cons,List.findIdx_cons];cases h:f x with
   | true=>simp
   | false=>simp[aRm f l]
theorem aW4 (q:Qy) (c:Chg) (pb pa:Option Addr) (B:Nat) (v:bW) (xs:List (Rw×Rw)) (w:bV) (hb:PtrRow w pb (befQ q c)) (ha:PtrRow w pa (aftQ q c))
 (hv:w.ownsRow B 358 10 v xs.length (xs.flatMap prC)) (hB:B<=w.heap.size) (h8:xs.length<=100000) :
 bZ prog 232 #[effV q c pb pa,v] w fun e w'=>∃v',e= .returned (.tuple #[v',.bool (aHi q c xs).2])/\w'.ownsRow B 358 10 v' (aHi q c xs).1.length ((aHi q c xs).1.flatMap prC)/\bX B w w':=by
 unfold aHi;by_cases d:c.table=q.other
 . rw[if_pos d];cases g:c.has with
   | false=>
     refine(aX5 q c pb pa B v xs w d g hv hB h8).mono ?_;rintro e w' ⟨v',rfl,o,b⟩;exact⟨v',rfl,o,b.mono hB⟩
   | true=>
     rcases Nat.eq_zero_or_pos xs.length with h0|h0
     . exact aUr q c pb pa B v xs w d g h0 hv hB h8
     . exact aX4 q c pb pa B v xs w d g h0 hv hB h8
 . rw[if_neg d];have f:=hb.isSome;cases i:aftQ q c with
   | none=>
     rw[i]at ha;refine(aX3 q c pb pa B v xs w d ha hv hB h8).mono ?_;rintro e w' ⟨v',rfl,o,b⟩;exact⟨v',rfl,o,b.mono hB⟩
   | some a=>
     rw[i]at ha;obtain⟨j,rfl,k⟩:=ha;dsimp only;rw[aRm];cases h:xs[xs.findIdx (fun p=>decide (p.2.key=aCq q c))]? with
     | none=>
       refine(aX2 q c pb (some ⟨j,0,none⟩) B v xs w d (by simp) f (by have:=List.getElem?_eq_none_iff.1 h;omega) hv hB h8).mono ?_;rintro e w' ⟨v',rfl,o,b⟩;exact⟨v',rfl,o,b.mono hB⟩
     | some p=>
       refine(aX1 q c pb j a B v xs w d k _ p rfl h hv hB h8).mono ?_;rintro e w' ⟨v',rfl,o,b⟩;exact⟨v',rfl,o,b.mono hB⟩
theorem aPc (p:Rw->Bool) (gp:Nat) (lb:Array bW) (eg:∀args w,(callFunc gp args).run prog w= .ok (.enter gp args) w) (v:bW) (xs:List Rw) (w:bV)
 (hv:∃A c,v= .slice A xs.length c/\(0<xs.length->∃g o,A=some ⟨g,o,none⟩/\g<w.heap.size/\∀(j:Nat) u,(xs.flatMap rwC)[j]? =some u->w.cell? ⟨g,o+j,none⟩=some u))
 (hp:aHz rwV w.heap.size w gp lb p) (h8:xs.length<=100000) :
 bZ prog 227 #[v,.func (.func gp) #[] lb] w fun e w'=>
  ∃v',e= .returned v'/\w'.ownsRow w.heap.size 116 5 v' (xs.filter fun x=>!p x).length ((xs.filter fun x=>!p x).flatMap rwC)/\bX w w w':=by
 have h:=hid (aD5 v xs w hv h8);have f:=hid (fun v' W (d:bX w w W) m=>bBr p gp lb eg w.heap.size v' xs W m (hp.later d) d.size h8);clear hv hp h8;go_enter func227,ntmps227
 go_wp2_with fail
 refine(h.out).mono ?_;rintro e i ⟨k,rfl,b,a⟩;have n:=f.out k i a b;have r:=hid a;clear h f b a;go_wp2_with fail
 refine n.mono ?_;rintro e s ⟨t,rfl,l,q⟩;go_wp2_with fail
 go_ret;exact⟨_,rfl,l,r.trans q⟩
theorem aP6 (xs:List Rw) (x:Rw) (i:Nat) (hi:i<=xs.length):(xs.take i++x :: xs.drop i).length=xs.length+1:=by
 rw[aE,aW,aH,aJ];omega
theorem aSp (B:Nat) (v:bW) (xs:List Rw) (x:Rw) (vb:Nat) (w:bV) (hv:w.ownsRow B 116 5 v xs.length (xs.flatMap rwC)) (hx:BlkIs w vb 116 (rwC x)) (hB:B<=w.heap.size) (h8:xs.length<=100000) :
 bZ prog 265 #[v,xs.length,.slice (some (vb,0)) 1 1] w fun e w'=>∃v',e= .returned v'/\w'.ownsRow B 116 5 v' (xs.length+1) ((xs++[x]).flatMap rwC)/\bX B w w':=by
 obtain⟨p,s,l,i,h⟩:=aSr;have g:∀k,v.ownBlock=some k->B<=k:=fun k r=>(hv.lt k r).1;obtain⟨A,c,d,y,m,-⟩:=aAa hv
 have a:∀(j:Nat) u,(rwC x)[j]? =some u->w.cell? ((⟨vb,0,none⟩:Addr).add j)=some u:=fun j u q=>by
  rw[bK,aT,hx.cell];exact q
 have o:(xs++[x]).flatMap rwC=xs.flatMap rwC++rwC x:=by simp
 rw[o];obtain⟨N,n⟩:=ex_ xs.length;rw[<-n]at hv h8 d y⊢;obtain⟨z,D,C⟩:=aAw hv a g;clear hv a hx o n m g;subst d;by_cases t:c=N
 all_goals
   go_enter func265,ntmps265
   go_wp2_with (at_builtin;refine wpList_append_own _ rfl _ _ 33 rfl B 116 p (rwV rw0) 5 40 underlying33 s l i h rfl (by decide) _ _ _ rfl z.out ⟨vb,0,none⟩ 1 1 (rwC x) rfl (by rfl) D.out (aBj x) (by unfold maxLen;omega) (by omega) hB ?_;intro v' E f b _)
   go_ret;exact⟨v',rfl,f,(aK B w).grown b hB C.out⟩
theorem aUu (xs:List Rw) (sp:List bW) (x:Rw) (i:Nat) (hi:i<xs.length) (D cs1:List bW) (hD:D=(xs.drop i).flatMap rwC)
 (h1:cs1=(xs.flatMap rwC++sp).take ((i+1)*5)++D++(xs.flatMap rwC++sp).drop ((i+1)*5+D.length)) :
 cs1.take (i*5)++rwC x++cs1.drop (i*5+(rwC x).length)=(xs.take i++x :: xs.drop i).flatMap rwC++(xs.flatMap rwC++sp).drop ((i+1)*5+D.length):=by
 have b:((xs.flatMap rwC++sp).take ((i+1)*5))=(xs.take (i+1)).flatMap rwC:=aD2 aAu xs sp (i+1) (by omega);have a:((xs.take (i+1)).flatMap rwC).length=(i+1)*5:=by rw[aAk rwC 5 aAu,aH,bT (by omega)]
 have d:cs1.take (i*5)=(xs.take i).flatMap rwC:=by
  rw[h1,b,aS,aD2 aAu (xs.take (i+1)) _ i (by rw[aH];omega),List.take_take,bT (by omega)]
 have c:cs1.drop (i*5+(rwC x).length)=D++(xs.flatMap rwC++sp).drop ((i+1)*5+D.length):=by
  rw[h1,b,aAu,show i*5+5=(i+1)*5 by rw[bG],aS];exact bS a
 rw[d,c,hD];simp
theorem aP4 (B g cap:Nat) (sp:List bW) (xs:List Rw) (x:Rw) (i vb:Nat) (w:bV) (hk:BlkIs w g 116 (xs.flatMap rwC++sp)) (hx:BlkIs w vb 116 (rwC x)) (hne:vb≠g)
 (hi:i<xs.length) (hr:xs.length+1<=cap) (hsp:(xs.flatMap rwC++sp).length=cap*5) (hcap:cap<=9223372036854775807) (hg:B<=g) (h8:xs.length<=100000) :
 bZ prog 265 #[.slice (some (g,0)) xs.length cap,i,.slice (some (vb,0)) 1 1] w fun e w'=>∃v',e= .returned v'/\w'.ownsRow B 116 5 v' (xs.length+1) ((xs.take i++x :: xs.drop i).flatMap rwC)/\bX B w w':=by
 have F:∀O V,(callFunc 297 #[.slice (some (vb,0)) 1 1,.slice (some (g,(i+1)*5)) O V]).run prog w= .ok (.value (.bool false)) w:=fun O V=>by
  rw [run_callFunc_extern func297 (by kernel_rfl) (by kernel_rfl) (by kernel_rfl) (e := Extern.SlicesOverlaps.overlaps #[33, 33] #[4]) (by kernel_rfl),
    Lib.run_overlaps_apart w 33 4 116 underlying33 5 aJh ⟨vb,0,none⟩ ⟨g,(i+1)*5,none⟩ 1 1 O V hne 116 116 5 (cap*5) (aEe hx) (by rw[aEe hk,hsp]) (by
     have:1*5<=cap*5:=aO _ (by omega);omega) (hx.frozen 0) (hx.frozen 5)]
  rfl
 obtain⟨D,H⟩:=ex_ ((xs.drop i).flatMap rwC);have c:D.length=(xs.length-i)*5:=by rw[H,aAk rwC 5 aAu,aJ]
 have d:(i+1)*5+(xs.length-i)*5=(xs.length+1)*5:=by rw[<-bG];congr 1;omega
 have a:(xs.length+1)*5<=cap*5:=aO _ hr;have z:(i+1)*5<=cap*5:=aO _ (by omega)
 have f:=fun U M ty=>aBu (P:=prog) (ty:=ty) (w:=w.drew) (dT:=33) (sT:=33) (K:=5) underlying33 Tryz.infoRowSz g ((i+1)*5) (xs.length-i) U ⟨g,i*5,none⟩ (xs.length+1-i) M (xs.length-i) D
   (by show min _ _=_;omega) c (fun j u Q=>by
     rw[bK]
     show w.cell? _=_
     rw[hk.cell];refine aEv (t:=sp) aAu (i:=i) (m:=xs.length-i) (by omega) j u ?_;rw[List.take_of_length_le (by rw[aJ];exact bF _),<-H];exact Q) hk.drew (by rw[c,d,hsp];exact a) (by rw[H];exact aFf aBj _)
 have q:=hk.drew.setCells D ((i+1)*5) (by rw[c,d,hsp];exact a);obtain⟨l,b⟩:=ex_ ((xs.flatMap rwC++sp).take ((i+1)*5)++D++(xs.flatMap rwC++sp).drop ((i+1)*5+D.length))
 have h:l.length=cap*5:=by
  rw[b,aE,aE,aH,aJ,hsp,c];omega
 have s:=aUu xs sp x i hi D l H b;rw[<-b]at q;have y:BlkIs (w.drew.setCells g ((i+1)*5) D) vb 116 (rwC x):=(aCd hne _ _).trans hx;have C:=aAz (bL (aK B w)) hg D ((i+1)*5);generalize S:w.drew.setCells g ((i+1)*5) D=W1 at f q y C
 have v:=fun(W:bV) (k:BlkIs W g 116 l) (R:BlkIs W vb 116 (rwC x)) U M ty=>aBu (P:=prog) (ty:=ty) (w:=W) (dT:=33) (sT:=33) (K:=5) underlying33 Tryz.infoRowSz g (i*5) (xs.length+1-i) U ⟨vb,0,none⟩ 1 M 1 (rwC x)
   (by show min _ _=_;omega) rfl (fun j u Q=>by
     rw[bK,aT,R.cell];exact Q) k (by rw[h,aAu];have h5:i*5+5=(i+1)*5:=(by rw[bG]);omega) (aBj x)
 have A:=fun(W:bV) (k:BlkIs W g 116 l)=>k.setCells (rwC x) (i*5) (by rw[h,aAu];have h5:i*5+5=(i+1)*5:=(by rw[bG]);omega);rw[s]at A
 have r:=fun(W:bV) (k:BlkIs W g 116 l)=>(show(W.setCells g (i*5) (rwC x)).ownsRow B 116 5 (.slice (some (g,0)) (xs.length+1) cap) (xs.length+1) ((xs.take i++x :: xs.drop i).flatMap rwC)from
   ⟨by rw[aAk rwC 5 aAu,aP6 xs x i (by omega)],.inr ⟨g,cap,_,rfl,hg,A W k,hr,by unfold maxLen;omega,by
    rw[List.size_toArray,aE,aJ,hsp,aAk rwC 5 aAu,aP6 xs x i (by omega),c]
    omega,by
    have:((xs.take i++x :: xs.drop i).flatMap rwC).length=(xs.length+1)*5:=by rw[aAk rwC 5 aAu,aP6 xs x i (by omega)]
    exact bD this⟩⟩)
 obtain⟨n,p,o,E,J,L⟩:=aIl r f v q y C;clear r f v q y C A s h b c d a z S H;obtain⟨N,T⟩:=ex_ xs.length;obtain⟨HK,HX,HN⟩:=aAw hk hx T;rw[<-T]at hi hr h8 p o n⊢;clear hk hx T hsp hne;have q1:¬((1:Int)=0):=by omega
 have q2:¬((i:Int)=(N:Int)):=by omega
 have q3:¬cap=i:=by omega
 have q4:¬cap=i+1:=by omega
 have q5:(0:Int)<=(i:Int):=by omega
 have q6:(i:Int)<=(N:Int):=by omega
 have q7:(N:Int)<=(cap:Int):=by omega
 have q8:¬((cap:Int)<(N:Int)+1):=by omega
 have q9:(N:Int)+1<=(cap:Int):=by omega
 have a3:IntKind.i64.wrap ((i:Int)+1)=(i:Int)+1:=by rw[IntKind.wrap_i64];omega
 have a2:(0:Int)<=(i:Int)+1:=by omega
 have a1:((i:Int)+1).toNat=i+1:=by omega
 have a0:(i:Int)<=(N:Int)+1:=by omega
 have Z:(i:Int)+1<=(N:Int)+1:=by omega
 go_enter func265,ntmps265
 go_wp2_with (simp only[F])
 have G:=p.out (cap-(i+1)) (cap-i) 3;go_region
 clear G F;have X:=o.out W1 E.out J.out (cap-i) 1 3;have Y:=hid (And.intro (n.out W1 E.out) (aAz L.out hg (rwC x) (i*5)));clear p o n E J L;go_wp2_with fail
 go_ret;exact⟨_,rfl,Y.1,Y.2⟩
theorem aP8 (B g cap:Nat) (sp:List bW) (xs:List Rw) (x:Rw) (i vb:Nat) (w:bV) (hk:BlkIs w g 116 (xs.flatMap rwC++sp)) (hx:BlkIs w vb 116 (rwC x))
 (hi:i<xs.length) (hr0:xs.length<=cap) (hr:cap<xs.length+1) (hB:B<=w.heap.size) (h8:xs.length<=100000) :
 bZ prog 265 #[.slice (some (g,0)) xs.length cap,i,.slice (some (vb,0)) 1 1] w fun e w'=>∃v',e= .returned v'/\w'.ownsRow B 116 5 v' (xs.length+1) ((xs.take i++x :: xs.drop i).flatMap rwC)/\bX B w w':=by
 obtain⟨i0,a0,U,T,E⟩:=aSr;have ab:=hk.lt
 have y:(Builtin.firstCells i0.size i (.slice (some (g,0)) i cap)).run prog w.drew= .ok ((xs.take i).flatMap rwC).toArray w.drew:=by
  rw[T]
  exact run_firstCells_some w.drew 5 i ⟨g,0,none⟩ i cap ((xs.take i).flatMap rwC) (by rw[aAk rwC 5 aAu,aH,bT (by omega)]) (fun j u V=>by
   rw[bK]
   show w.cell? _=_
   rw[hk.cell,aT];have h:=aEv (t:=sp) aAu (l:=xs) (i:=0) (m:=i) (by omega) j u (by rw[List.drop_zero];exact V);rw[Nat.zero_mul,aT]at h;exact h)
 have b:=fun ty=>Lib.run_append_grow_zeros w 33 3 ty 116 i0 _ .i64 .i64 underlying33 underlying3 a0 U (some ⟨g,0,none⟩) i cap ((xs.take i).flatMap rwC) y (xs.length+1-i) (by omega) (by omega) (by omega) (by omega) (by rw[E];omega) (by rw[E];exact growslice_fits (by omega) (by omega));have Y:i+(xs.length+1-i)=xs.length+1:=by omega
 rw[Y]at b;obtain⟨G,hG⟩:=ex_ (grownCap w (xs.length+1) cap 116);rw[<-hG]at b;have R:xs.length+1<=G:=by rw[hG];exact grownCap_ge w _ _ _
 have a2:G<=maxLen:=by rw[hG];exact grownCap_le_maxLen w (xs.length+1) cap 116 (by unfold maxLen;omega)
 obtain⟨A,hA⟩:=ex_ ((xs.take i).flatMap rwC);have a:A.length=i*5:=by rw[hA,aAk rwC 5 aAu,aH,bT (by omega)]
 obtain⟨Z,hZ⟩:=ex_ ((aG (rwV rw0).cells (xs.length+1-i)++aG (rwV rw0).cells (G-(xs.length+1))).toList)
 have f:Z.length=(G-i)*5:=by
  rw[hZ,Array.toList_append,aE,aOn,aOn,<-bG]
  congr 1
  omega
 obtain⟨D,hD⟩:=ex_ ((xs.drop i).flatMap rwC);have k:D.length=(xs.length-i)*5:=by rw[hD,aAk rwC 5 aAu,aJ]
 have m1:i*5+(G-i)*5=G*5:=by rw[<-bG];congr 1;omega
 have m2:i*5+5=(i+1)*5:=by rw[bG]
 have m3:(i+1)*5+(xs.length-i)*5=(xs.length+1)*5:=by rw[<-bG];congr 1;omega
 have m4:(xs.length+1)*5<=G*5:=aO _ R
 have s:(((xs.take i).flatMap rwC).toArray++aG (rwV rw0).cells (xs.length+1-i)++aG (rwV rw0).cells (G-(xs.length+1))).toList=A++Z:=by
  rw[hZ,hA];simp
 have p:BlkIs (w.drew.alloc (.cells (((xs.take i).flatMap rwC).toArray++aG (rwV rw0).cells (xs.length+1-i)++aG (rwV rw0).cells (G-(xs.length+1))) 116)) w.heap.size 116 (A++Z):=aAp (w:=w.drew) _ _ _ rfl s.symm;have M:BlkIs (w.drew.alloc (.cells (((xs.take i).flatMap rwC).toArray++aG (rwV rw0).cells (xs.length+1-i)++aG (rwV rw0).cells (G-(xs.length+1))) 116)) g 116 (xs.flatMap rwC++sp):=hk.drew.alloc _;have F:BlkIs (w.drew.alloc (.cells (((xs.take i).flatMap rwC).toArray++aG (rwV rw0).cells (xs.length+1-i)++aG (rwV rw0).cells (G-(xs.length+1))) 116)) vb 116 (rwC x):=hx.drew.alloc _;have Q:bX B w (w.drew.alloc (.cells (((xs.take i).flatMap rwC).toArray++aG (rwV rw0).cells (xs.length+1-i)++aG (rwV rw0).cells (G-(xs.length+1))) 116)):=(bL (aK B w)).alloc hB _;generalize w.drew.alloc (.cells (((xs.take i).flatMap rwC).toArray++aG (rwV rw0).cells (xs.length+1-i)++aG (rwV rw0).cells (G-(xs.length+1))) 116)=W1 at b p M F Q
 have d:=fun dc sc ty=>aBu (P:=prog) (ty:=ty) (w:=W1) (dT:=33) (sT:=33) (K:=5) underlying33 Tryz.infoRowSz w.heap.size (i*5) (xs.length+1-i) dc ⟨vb,0,none⟩ 1 sc 1 (rwC x)
   (by show min _ _=_;omega) rfl (fun j u V=>by
     rw[bK,aT,F.cell];exact V) p (by rw[aE,a,f,m1,aAu,m2];omega) (aBj x)
 have c:=p.setCells (rwC x) (i*5) (by rw[aE,a,f,m1,aAu,m2];omega)
 have e2:(A++Z).take (i*5)++rwC x++(A++Z).drop (i*5+(rwC x).length)=A++rwC x++Z.drop 5:=by
  rw[bD a,<-List.drop_drop,bS a];rfl
 rw[e2]at c;have L:BlkIs (W1.setCells w.heap.size (i*5) (rwC x)) g 116 (xs.flatMap rwC++sp):=(aCd (by omega) _ _).trans M;have O:=aAz Q hB (rwC x) (i*5);generalize ad:W1.setCells w.heap.size (i*5) (rwC x)=W2 at d c L O;have q:(A++rwC x).length=(i+1)*5:=by rw[aE,a,aAu,m2]
 have H:(A++rwC x++Z.drop 5).length=G*5:=by
  rw[aE,q,aJ,f];have:1*5<=(G-i)*5:=aO _ (by omega);omega
 have z:=fun dc sc ty=>aBu (P:=prog) (ty:=ty) (w:=W2.drew) (dT:=33) (sT:=33) (K:=5) underlying33 Tryz.infoRowSz w.heap.size ((i+1)*5) (xs.length-i) dc ⟨g,i*5,none⟩ (xs.length-i) sc (xs.length-i) D
   (by show min _ _=_;omega) k (fun j u V=>by
     rw[bK]
     show W2.cell? _=_
     rw[L.cell];refine aEv (t:=sp) aAu (i:=i) (m:=xs.length-i) (by omega) j u ?_;rw[List.take_of_length_le (by rw[aJ];exact bF _),<-hD];exact V) c.drew (by rw[k,m3,H];exact m4) (by rw[hD];exact aFf aBj _)
 have J:=c.drew.setCells D ((i+1)*5) (by rw[k,m3,H];exact m4);have a1:=aAz (bL O) hB D ((i+1)*5)
 have e3:(A++rwC x++Z.drop 5).take ((i+1)*5)++D++(A++rwC x++Z.drop 5).drop ((i+1)*5+D.length)=(xs.take i++x :: xs.drop i).flatMap rwC++(Z.drop 5).drop D.length:=by
  rw[bD q,<-List.drop_drop,bS q,hA,hD];simp
 rw[e3]at J
 have v:(W2.drew.setCells w.heap.size ((i+1)*5) D).ownsRow B 116 5 (.slice (some (w,0)) (xs.length+1) G) (xs.length+1) ((xs.take i++x :: xs.drop i).flatMap rwC):=
   ⟨by rw[aAk rwC 5 aAu,aP6 xs x i (by omega)],.inr ⟨w.heap.size,G,_,rfl,hB,J,R,a2,by
    rw[List.size_toArray,aE,aJ,aJ,f,aAk rwC 5 aAu,aP6 xs x i (by omega),k];have:1*5<=(G-i)*5:=aO _ (by omega)
    omega,by
    have:((xs.take i++x :: xs.drop i).flatMap rwC).length=(xs.length+1)*5:=by rw[aAk rwC 5 aAu,aP6 xs x i (by omega)]
    exact bD this⟩⟩
 obtain⟨C,af,o,n,S⟩:=aDs v a1 d z b;clear v a1 d z b hk hx ab y Y hG a2 hA a hZ f hD k m1 m2 m3 m4 s p M F Q c e2 L O ad q H J e3 a0 U T E;obtain⟨N,hN⟩:=ex_ xs.length;rw[<-hN]at hi hr0 hr h8 R C o n S⊢;clear hN;have X:((N+1-i:Nat):Int)=(N:Int)+1-(i:Int):=by omega
 have r:=S.out 33;rw[X]at r;have aj:=o.out (G-i) 1 3;have ai:=n.out (G-(i+1)) (cap-i) 3;clear o n S X;have q3:¬cap=i:=by omega
 have ao:¬G=i:=by omega
 have q4:¬G=i+1:=by omega
 have q5:(0:Int)<=(i:Int):=by omega
 have q6:(i:Int)<=(N:Int):=by omega
 have an:(i:Int)<=(cap:Int):=by omega
 have q8:(cap:Int)<(N:Int)+1:=by omega
 have av:IntKind.i64.wrap ((i:Int)+1)=(i:Int)+1:=by rw[IntKind.wrap_i64];omega
 have au:(0:Int)<=(i:Int)+1:=by omega
 have ar:((i:Int)+1).toNat=i+1:=by omega
 have aq:(i:Int)<=(N:Int)+1:=by omega
 have ap:(i:Int)+1<=(N:Int)+1:=by omega
 go_enter func265,ntmps265
 clear q3;have q3:¬cap=i:=by omega
 go_wp2_with (first
  | (at_builtin;refine Lib.wpList_append_run _ rfl _ _ 33 3 rfl _ _ rfl rfl _ _ r ?_)
  | fail)
 go_region
 go_wp2_with fail
 go_ret;exact⟨_,rfl,C.out,af.out⟩
theorem bBa (B:Nat) (v:bW) (xs:List Rw) (x:Rw) (i vb:Nat) (w:bV) (hv:w.ownsRow B 116 5 v xs.length (xs.flatMap rwC)) (hx:BlkIs w vb 116 (rwC x)) (hne:∀k,v.ownBlock=some k->vb≠k)
 (hi:i<=xs.length) (hB:B<=w.heap.size) (h8:xs.length<=100000) :
 bZ prog 265 #[v,i,.slice (some (vb,0)) 1 1] w fun e w'=>∃v',e= .returned v'/\w'.ownsRow B 116 5 v' (xs.length+1) ((xs.take i++x :: xs.drop i).flatMap rwC)/\bX B w w':=by
 by_cases j:i=xs.length
 . subst j;have h:=aSp B v xs x vb w hv hx hB h8;rw[bI,List.drop_length];exact h
 . have c:i<xs.length:=by omega
   rcases hv.2 with⟨_,h0⟩|⟨g,cap,cur,rfl,hg1,hg2,hg3,hg4,hg5,hg6⟩
   . exfalso;omega
   have b:cur.toList=xs.flatMap rwC++cur.toList.drop (xs.length*5):=by
    rw[<-hg6,bP]
   have a:BlkIs w g 116 (xs.flatMap rwC++cur.toList.drop (xs.length*5)):=by rw[<-b];exact hg2
   have d:(xs.flatMap rwC++cur.toList.drop (xs.length*5)).length=cap*5:=by rw[<-b,<-hg5];simp
   by_cases f:xs.length+1<=cap
   . exact aP4 B g cap _ xs x i vb w a hx (hne g rfl) c f d (by unfold maxLen at hg4;omega) hg1 h8
   . exact aP8 B g cap _ xs x i vb w a hx c hg3 (by omega) hB h8
theorem aOf (p:Rw->Bool) (gp:Nat) (lb:Array bW) (eg:∀args w,(callFunc gp args).run prog w= .ok (.enter gp args) w) (B:Nat) (v:bW) (xs:List Rw) (x:Rw) (w:bV)
 (hv:w.ownsRow B 116 5 v xs.length (xs.flatMap rwC)) (hp:aHz rwV w.heap.size w gp lb p) (hB:B<=w.heap.size) (h8:xs.length<=100000) :
 bZ prog 229 #[v,rwV x,.func (.func gp) #[] lb] w fun e w'=>
  ∃v',e= .returned v'/\w'.ownsRow B 116 5 v' (aDv p x xs).length ((aDv p x xs).flatMap rwC)/\bX B w w':=by
 have L:(if xs.findIdx p<xs.length then((xs.findIdx p:Nat):Int)else -1)= -1\/∃i:Nat,(if xs.findIdx p<xs.length then((xs.findIdx p:Nat):Int)else -1)=(i:Int)/\i=xs.findIdx p/\i<xs.length:=by
  by_cases h:xs.findIdx p<xs.length
  . exact .inr ⟨_,if_pos h,rfl,h⟩
  . exact .inl (if_neg h)
 have E:=List.findIdx_le_length (xs:=xs) (p:=p);have g:¬xs.findIdx p<xs.length->xs.findIdx p=xs.length:=by omega
 have G:=aQ w (.cells (rwC x).toArray 116);have C:∀W,bX w w W->W.ownsRow B 116 5 v xs.length (xs.flatMap rwC):=fun W y=>aAb y hv;have u:=fun W (y:bX w w W)=>aUy p gp lb eg v B xs W (C W y) ((hp.later y).mono y.size) (by omega)
 have t:=fun W (y:bX w w W) (i P:Nat) (Z:BlkIs W P 116 (rwC x)) (a0:w.heap.size<=P) (hi:i<=xs.length)=>bBa B v xs x i P W (C W y) Z (fun k hk e=>by
  have:=(hv.lt k hk).2;omega) hi (aZ hB y.size) h8
 have s:(aDv p x xs).length=xs.length+1:=by
  unfold aDv;exact aP6 xs x _ E
 rw[s];obtain⟨b,q,r,d⟩:=aBp (u _ G) (aAp (w:=w) 116 (rwC x).toArray (rwC x) rfl (by simp)) G t;have R:=aAa hv;obtain⟨A,c,rfl,hc,a3,-⟩:=R;have V:(aDv p x xs).flatMap rwC=(xs.take (xs.findIdx p)++x :: xs.drop (xs.findIdx p)).flatMap rwC:=rfl;rw[V];obtain⟨I,U⟩:=ex_ (xs.findIdx p);rw[<-U]at b L E g⊢;obtain⟨N,T⟩:=ex_ xs.length;rw[<-T]at b d L E g hc h8⊢;clear u t C G hv hp s U T V;obtain⟨j,l,o,n,m⟩:=x;unfold rwV;dsimp only at *;by_cases D:I<N
 case pos=>
  rw[if_pos D]at b L;clear L g;go_enter func229,ntmps229
  go_wp2_with fail
  refine(b.out).mono ?_;rintro e z ⟨rfl,H⟩;have a:=hid (aF r.out H);have M:z.heap[w.heap.size]? =some (.cells #[j,l,o,n,m] 116 (0,0)):=q.later H;have O:=hid M;have f:(prog.info? 116).map (·.size)=some (#[j,l,o,n,m]:Array bW).size:=Tryz.infoRowSz;have J:=hid f;clear f;clear b q r H M
  go_wp2_with (first
   | (with_reducible refine wpList_load_row rfl 116 (.tmp 4) rfl w.heap.size rfl 116 #[j,l,o,n,m] (0,0) _ O.out underlying116 rfl J.out ?_)
   | fail)
  have F:=d.out (z.alloc (.cells #[j,l,o,n,m] 116)) (a.alloc a.size _) I z.heap.size (aAp _ _ _ rfl rfl) a.size (by omega);have K:=hid ((a.alloc a.size (.cells #[j,l,o,n,m] 116)).mono hB);clear d a O;refine F.mono ?_;rintro e X ⟨Y,rfl,Q,S⟩;go_wp2_with fail
  go_ret;exact⟨_,rfl,Q,K.trans S⟩
 case neg=>
  rw[if_neg D]at b L;obtain rfl:=g D;clear L g;go_enter func229,ntmps229
  go_wp2_with fail
  refine(b.out).mono ?_;rintro e z ⟨rfl,H⟩;have a:=hid (aF r.out H);have M:z.heap[w.heap.size]? =some (.cells #[j,l,o,n,m] 116 (0,0)):=q.later H;have O:=hid M;have f:(prog.info? 116).map (·.size)=some (#[j,l,o,n,m]:Array bW).size:=Tryz.infoRowSz;have J:=hid f;clear f;clear b q r H M
  go_wp2_with (first
   | (with_reducible refine wpList_load_row rfl 116 (.tmp 4) rfl w.heap.size rfl 116 #[j,l,o,n,m] (0,0) _ O.out underlying116 rfl J.out ?_)
   | fail)
  have F:=d.out (z.alloc (.cells #[j,l,o,n,m] 116)) (a.alloc a.size _) I z.heap.size (aAp _ _ _ rfl rfl) a.size (by omega);have K:=hid ((a.alloc a.size (.cells #[j,l,o,n,m] 116)).mono hB);clear d a O;refine F.mono ?_;rintro e X ⟨Y,rfl,Q,S⟩;go_wp2_with fail
  go_ret;exact⟨_,rfl,Q,K.trans S⟩
theorem bEp (args:Array bW) (w:bV):(callFunc 228 args).run prog w= .ok (.enter 228 args) w:=enters_of func228 (by kernel_rfl) rfl args w
theorem bEo (args:Array bW) (w:bV):(callFunc 266 args).run prog w= .ok (.enter 266 args) w:=enters_of func266 (by kernel_rfl) rfl args w
theorem aA0 {w:bV} {B:Nat} {e:bY} {size n:Nat} {v:bW} {xs:List bW} (h:w.ownsRow B e size v n xs) (b i:Nat) (u:bW) (hb:b<B):(w.setCell ⟨b,i,none⟩ u).ownsRow B e size v n xs:=by
 obtain⟨c,a⟩:=h;refine⟨c,?_⟩;rcases a with a|⟨g,cap,cur,e1,e2,e3,e4⟩
 . exact .inl a
 . exact .inr ⟨g,cap,cur,e1,e2,(heap_setCell_other w ⟨b,i,none⟩ g _ (by dsimp only;omega)).trans e3,e4⟩
theorem aDg {w:bV} {v:bW} {xs:List Rw} (h:RwsAt w v xs):∃A c,v= .slice A xs.length c/\(0<xs.length->∃g o,A=some ⟨g,o,none⟩/\g<w.heap.size/\∀(j:Nat) u,(xs.flatMap rwC)[j]? =some u->w.cell? ⟨g,o+j,none⟩=some u):=by
 obtain⟨A,c,rfl,_,a⟩:=h;refine⟨A,c,rfl,fun e=>?_⟩;obtain⟨g,o,rfl,d,b⟩:=a e;exact⟨g,o,rfl,d,aSw b⟩
theorem aLg:aM9 182 aH7:=by
 intro q c P pa r v w hb ha _ hF R;obtain⟨l,n,L⟩:=r;obtain⟨f0,-,-⟩:=hF;have al:=aDg R;have aA:=hid ha;obtain⟨A,cc,rfl,-⟩:=R.form;obtain⟨N,hN⟩:=ex_ l.length;dsimp only at *;obtain⟨k,hw1⟩:=ex_ (((w.alloc (.cells #[q.kind,q.table,q.column,q.low,q.high,q.by_,q.other,c.table,c.key,c.had,c.old.1,c.old.2.1,c.old.2.2,c.has,c.new.1,c.new.2.1,c.new.2.2,.pointer P,.pointer pa,.int .i64 (aC7 q c),.int .i64 (aCq q c)] 256)).alloc (.cells #[.slice A N cc,n,L] 35)).alloc (.cells #[.slice none 0 0,(),false] 35));have b1:bX w.heap.size w k:=by rw[hw1];exact((((aK w.heap.size w).alloc (bF _) _).alloc (by simp) _).alloc (by simp;omega) _)
 have z1:k.heap.size=w.heap.size+1+1+1:=by rw[hw1,aI,aI,aI]
 have e1:BlkIs k w.heap.size 256 (aIw q c P pa):=by rw[hw1];exact((aAp _ _ _ rfl rfl).alloc _).alloc _
 have r1:BlkIs k (w.heap.size+1) 35 [.slice A N cc,n,L]:=by rw[hw1];exact(aAp _ _ _ (by simp)).alloc _
 have t1:BlkIs k (w.heap.size+1+1) 35 [.slice none 0 0,(),false]:=by rw[hw1];exact aAp _ _ _ (by simp)
 have P1:=ha.later b1
 have s:=aPc (aDn c) 228 #[.pointer (some ⟨w.heap.size,0,none⟩)] bEp (.slice A l.length cc) l k (by
  obtain⟨A',c',e,h⟩:=aDg (R.below b1);exact⟨A',c',e,h⟩) (fun W x o=>aPj q c P pa w.heap.size x W (e1.later o)) (by omega)
 unfold aH7;dsimp only;obtain⟨F,U⟩:=ex_ (l.filter fun x=>!aDn c x);rw[<-U]at s⊢;have ao:F.length<=10000:=by rw[U];exact aZ (bR _ _) f0
 rw[<-hN]at s;rcases hA:aftQ q c with _|a;all_goals rw[hA]at P1 aA
 all_goals dsimp only
 case none=>
  obtain⟨C,B,ag,H,m,D,j,E⟩:=aMy hw1 s b1 e1 r1 t1 z1 P1;unfold effV resV;dsimp only;rw[<-hN];clear hw1 s b1 e1 r1 t1 z1 P1 hb R al U hN f0 ha;go_enter func182,ntmps182
  go_wp2_with fail
  rw[<-C.out];refine(B.out).mono ?_;rintro e t ⟨v2,rfl,Q,b2⟩;have r2:=m.later b2;have x0:=r2.c0;have f0:t.frozen? ⟨w.heap.size+1,0,none⟩=false:=r2.frozen 0;obtain⟨f,d,rfl,-⟩:=aAa Q;obtain⟨M,T⟩:=ex_ F.length;rw[<-T]at Q ao;obtain⟨O2,b,HM⟩:=aAw Q b2 T;have Z:(.slice f F.length d:bW)= .slice f M d:=by rw[T]
  rw[Z];clear r2 Q b2 T Z B C;go_upto_region 2 with fail
  have hz:=j.out;have V:=(H.later b.out).other (p:=⟨w.heap.size+1,0,none⟩) (by dsimp only;omega) (.slice f M d);have r3:=(m.later b.out).set 0 (.slice f M d);have t3:=(D.later b.out).other (p:=⟨w.heap.size+1,0,none⟩) (by dsimp only;omega) (.slice f M d);have P3:=(E.later b.out).other (m.later b.out) (by decide) (i:=0) (.slice f M d);have o3:=aA0 O2.out (w.heap.size+1) 0 (.slice f M d) (by omega);have b3:bX w.heap.size w (t.setCell ⟨w.heap.size+1,0,none⟩ (.slice f M d)):=(aF ag.out b.out).setCell (p:=⟨w.heap.size+1,0,none⟩) (by dsimp only;omega) _;have s3:(t.setCell ⟨w.heap.size+1,0,none⟩ (.slice f M d)).heap.size=t.heap.size:=by simp[bN]
  have s2:=b.size;generalize t.setCell ⟨w.heap.size+1,0,none⟩ (.slice f M d)=w3 at V r3 t3 P3 o3 b3 s3⊢;have a6:k.heap.size<=w3.heap.size:=by omega
  have x1:=V.c18;obtain⟨E3,R3,T3,ad,O3,B3⟩:=aIl V r3 t3 P3 o3 b3;clear V r3 t3 P3 o3 b3 s3 s2 hz x0 f0 O2 b H m D E;have aU:pa=none:=ad.out;subst aU;obtain⟨y0,y1,y2⟩:=R3.C3;obtain⟨u0,u1,u2⟩:=T3.C3;have g0:=T3.frozen 0;have g1:=T3.frozen 1;have g2:=T3.frozen 2;obtain⟨KF,BF,OF⟩:=aAw (((T3.set 0 (.slice f M d)).set 1 (.int .i64 n)).set 2 (.bool L)) (((B3.setCell (p:=⟨w.heap.size+1+1,0,none⟩) (by dsimp only;omega) (.slice f M d)).setCell (p:=⟨w.heap.size+1+1,1,none⟩) (by dsimp only;omega) (.int .i64 n)).setCell (p:=⟨w.heap.size+1+1,2,none⟩) (by dsimp only;omega) (.bool L)) (aA0 (aA0 (aA0 O3.out (w.heap.size+1+1) 0 (.slice f M d) (by have:=j.out;omega)) (w.heap.size+1+1) 1 (.int .i64 n) (by have:=j.out;omega)) (w.heap.size+1+1) 2 (.bool L) (by have:=j.out;omega));go_wp2_with fail
  generalize ((w3.setCell ⟨w.heap.size+1+1,0,none⟩ (.slice f M d)).setCell ⟨w.heap.size+1+1,1,none⟩ (.int .i64 n)).setCell ⟨w.heap.size+1+1,2,none⟩ (.bool L)=wf at KF BF OF⊢;obtain⟨k0,k1,k2⟩:=KF.C3;clear KF y0 y1 y2 u0 u1 u2 g0 g1 g2;refine bodyPost_ret (by simp[results,results182,go_sem,k0,k1,k2];try rfl) rfl ?_;refine⟨_,rfl,?_,BF.out⟩;have:=OF.out;rw[HM.out]at this⊢;exact aA1 this
 case some=>
  obtain⟨G,hG⟩:=ex_ (aDv (ltO q.column a) a F);rw[<-hG];have bc:=hid hG;clear hG;obtain⟨C,B,ag,H,m,D,j,E⟩:=aMy hw1 s b1 e1 r1 t1 z1 P1;unfold effV resV;dsimp only;rw[<-hN];clear hw1 s b1 e1 r1 t1 z1 P1 hb R al U hN f0 ha;go_enter func182,ntmps182
  go_wp2_with fail
  rw[<-C.out];refine(B.out).mono ?_;rintro e t ⟨v2,rfl,Q,b2⟩;have r2:=m.later b2;have x0:=r2.c0;have f0:t.frozen? ⟨w.heap.size+1,0,none⟩=false:=r2.frozen 0;obtain⟨f,d,rfl,-⟩:=aAa Q;obtain⟨M,T⟩:=ex_ F.length;rw[<-T]at Q ao;obtain⟨O2,b,HM⟩:=aAw Q b2 T;have Z:(.slice f F.length d:bW)= .slice f M d:=by rw[T]
  rw[Z];clear r2 Q b2 T Z B C;go_upto_region 2 with fail
  have hz:=j.out;have V:=(H.later b.out).other (p:=⟨w.heap.size+1,0,none⟩) (by dsimp only;omega) (.slice f M d);have r3:=(m.later b.out).set 0 (.slice f M d);have t3:=(D.later b.out).other (p:=⟨w.heap.size+1,0,none⟩) (by dsimp only;omega) (.slice f M d);have P3:=(E.later b.out).other (m.later b.out) (by decide) (i:=0) (.slice f M d);have o3:=aA0 O2.out (w.heap.size+1) 0 (.slice f M d) (by omega);have b3:bX w.heap.size w (t.setCell ⟨w.heap.size+1,0,none⟩ (.slice f M d)):=(aF ag.out b.out).setCell (p:=⟨w.heap.size+1,0,none⟩) (by dsimp only;omega) _;have s3:(t.setCell ⟨w.heap.size+1,0,none⟩ (.slice f M d)).heap.size=t.heap.size:=by simp[bN]
  have s2:=b.size;generalize t.setCell ⟨w.heap.size+1,0,none⟩ (.slice f M d)=w3 at V r3 t3 P3 o3 b3 s3⊢;have a6:k.heap.size<=w3.heap.size:=by omega
  have x1:=V.c18;obtain⟨E3,R3,T3,ad,O3,B3⟩:=aIl V r3 t3 P3 o3 b3;clear V r3 t3 P3 o3 b3 s3 s2 hz x0 f0 O2 b H m D E;obtain⟨g,aV,ka⟩:∃g,pa=some ⟨g,0,none⟩/\BlkIs w3 g 116 (rwC a):=ad.out;subst aV;have bs:g<w.heap.size:=by obtain⟨b',e,h⟩:=aA.out;cases e;exact h.lt
  have bp:=j.out;have a1:=fun W (o:bX k.heap.size w3 W)=>aOy q c P g a W (ka.below o (by omega));have u:=fun W be bv (o:bX k.heap.size w3 W) (hs:k.heap.size<=W.heap.size) (ho:W.ownsRow k.heap.size 116 5 (.slice f M d) F.length (F.flatMap rwC)) (he:BlkIs W be 256 (aIw q c P (some ⟨g,0,none⟩))) (R:BlkIs W bv 3 [.int .i64 (a.val q.column)])=>aOf (ltO q.column a) 266 #[.pointer (some ⟨be,0,none⟩),.pointer (some ⟨bv,0,none⟩)] bEo k.heap.size (.slice f M d) F a W ho (fun W' x a7=>aLz q c P be bv g a x W' (he.later a7) ((ka.below o (by omega)).later a7) (R.later a7)) hs (by have:=HM.out;omega);rw[<-bc.out]at u;obtain⟨az,ay,HS⟩:=aAw a1 u (fun W (o:bX k.heap.size w3 W)=>(show(fun W=>W.cell? ⟨w.heap.size+1,0,none⟩=some (.slice f M d)/\W.cell? ⟨w.heap.size,18,none⟩=some (.pointer (some ⟨g,0,none⟩))/\W.cell? ⟨g,0,none⟩=some (.int .i64 a.table)/\W.cell? ⟨g,1,none⟩=some (.int .i64 a.key)/\W.cell? ⟨g,2,none⟩=some (.int .i64 a.v.1)/\W.cell? ⟨g,3,none⟩=some (.int .i64 a.v.2.1)/\W.cell? ⟨g,4,none⟩=some (.int .i64 a.v.2.2)/\W.heap[w.heap.size]? =some (.cells #[q.kind,q.table,q.column,q.low,q.high,q.by_,q.other,c.table,c.key,c.had,c.old.1,c.old.2.1,c.old.2.2,c.has,c.new.1,c.new.2.1,c.new.2.2,.pointer P,.pointer (some ⟨g,0,none⟩),.int .i64 (aC7 q c),.int .i64 (aCq q c)] 256 (0,0))/\bX k.heap.size w3 W) W from⟨(R3.below o (by omega)).cell 0,(E3.below o (by omega)).cell 18,(ka.below o (by omega)).cell 0,(ka.below o (by omega)).cell 1,(ka.below o (by omega)).cell 2,(ka.below o (by omega)).cell 3,(ka.below o (by omega)).cell 4,E3.below o (by omega),o⟩));clear a1 ka u hA;go_wp2_with fail
  have Y:bX k.heap.size w3 w3.drew:=bL (aK _ _);refine wp_region_noPanic ?_;refine aGd (fun W=>W.cell? ⟨w.heap.size+1,0,none⟩=some (.slice f M d)/\W.cell? ⟨w.heap.size,18,none⟩=some (.pointer (some ⟨g,0,none⟩))/\W.cell? ⟨g,0,none⟩=some (.int .i64 a.table)/\W.cell? ⟨g,1,none⟩=some (.int .i64 a.key)/\W.cell? ⟨g,2,none⟩=some (.int .i64 a.v.1)/\W.cell? ⟨g,3,none⟩=some (.int .i64 a.v.2.1)/\W.cell? ⟨g,4,none⟩=some (.int .i64 a.v.2.2)/\W.heap[w.heap.size]? =some (.cells #[q.kind,q.table,q.column,q.low,q.high,q.by_,q.other,c.table,c.key,c.had,c.old.1,c.old.2.1,c.old.2.2,c.has,c.new.1,c.new.2.1,c.new.2.2,.pointer P,.pointer (some ⟨g,0,none⟩),.int .i64 (aC7 q c),.int .i64 (aCq q c)] 256 (0,0))/\bX k.heap.size w3 W) 8 2 0 [(1,false),(2,false),(3,false),(4,false),(5,false),(6,false),(7,true),(8,true)] (oi:=?oi1) (v:=?v1) (by kernel_rfl) rfl ?hi1 (by decide) rfl ?hsel1 ?hsink1 ?hchain1 (by decide) ?hf1 ?hr1 ?hok1 (fun _ _ _ _ _ h=>h) (Or.inl ⟨?hw1,?hy1⟩) (HS.out _ Y) (fun aY=>?_)
  case hi1=>simp only[List.getElem?_toArray,List.getElem?_cons_zero];rfl
  case hsel1=>kernel_rfl
  case hsink1=>kernel_rfl
  case hchain1=>kernel_rfl
  case hf1=>kernel_rfl
  case hr1=>kernel_rfl
  case hok1=>kernel_rfl
  case hw1=>rfl
  case hy1=>intro w;go_simp;try with_reducible rfl
  refine aBq ?_;refine aBi.A0 ?_;refine aBi.A0 ?_;refine aBi.A0 ?_;refine aBi.A0 ?_;refine aBi.A0 ?_;refine aBi.A0 ?_ (hy:=by intro w aX;exact aAe 256 _ rfl _ rfl 256 #[q.kind,q.table,q.column,q.low,q.high,q.by_,q.other,c.table,c.key,c.had,c.old.1,c.old.2.1,c.old.2.2,c.has,c.new.1,c.new.2.1,c.new.2.2,.pointer P,.pointer (some ⟨g,0,none⟩),.int .i64 (aC7 q c),.int .i64 (aCq q c)] (0,0) _ aX.2.2.2.2.2.2.2.1 underlying256 rfl Tryz.infoEff);refine aBi.P0 ?_;intro K hK;go_simp;go_at_call 230
  refine(az.out _ Y).mono ?_;rintro e w4 ⟨be,bv,rfl,he,R,b4⟩;have X:bX k.heap.size w3 w4:=Y.trans (b4.mono (aZ a6 Y.size));try go_simp
  refine hK.out _ _ (HS.out _ X) (fun _=>?_);clear hK K;refine aBq ?_;refine aBi.P0 ?_;intro K hK;go_simp;go_at_call 229
  refine(ay.out _ be bv X (aZ a6 X.size) (aAb b4 (by have:=O3.out;rw[HM.out]at this;rw[HM.out];exact this.drew)) he R).mono ?_;rintro e w5 ⟨v5,rfl,o5,b5⟩;have z:bX k.heap.size w3 w5:=Below.trans X b5;try go_simp
  refine hK.out _ _ (HS.out _ z) (fun _=>?_);clear hK K;refine aBq ?_;refine aBi.done ?_;simp only[List.drop_succ_cons,List.drop_zero];obtain⟨J,y,rfl,-⟩:=aAa o5;have f5:w5.frozen? ⟨w.heap.size+1,0,none⟩=false:=(R3.below z (by omega)).frozen 0;obtain⟨O,S⟩:=ex_ G.length;have Z:(.slice J G.length y:bW)= .slice J O y:=by rw[S]
  rw[Z];rw[Z,<-S]at o5;obtain⟨bb,R6,T6,B6,O6⟩:=aDs S ((R3.below z (by omega)).set 0 (.slice J O y)) ((T3.below z (by omega)).other (p:=⟨w.heap.size+1,0,none⟩) (by dsimp only;omega) (.slice J O y)) ((B3.trans (z.mono (by omega))).setCell (p:=⟨w.heap.size+1,0,none⟩) (by dsimp only;omega) (.slice J O y)) (aA0 o5 (w.heap.size+1) 0 (.slice J O y) (by omega));clear o5 S Z;go_wp2_with fail
  refine NoPanic.normal ?_;generalize w5.setCell ⟨w.heap.size+1,0,none⟩ (.slice J O y)=w6 at R6 T6 B6 O6⊢;obtain⟨y0,y1,y2⟩:=R6.C3;obtain⟨u0,u1,u2⟩:=T6.C3;have g0:=T6.frozen 0;have g1:=T6.frozen 1;have g2:=T6.frozen 2;obtain⟨KF,BF,OF⟩:=aAw (((T6.set 0 (.slice J O y)).set 1 (.int .i64 n)).set 2 (.bool L)) (((B6.setCell (p:=⟨w.heap.size+1+1,0,none⟩) (by dsimp only;omega) (.slice J O y)).setCell (p:=⟨w.heap.size+1+1,1,none⟩) (by dsimp only;omega) (.int .i64 n)).setCell (p:=⟨w.heap.size+1+1,2,none⟩) (by dsimp only;omega) (.bool L)) (aA0 (aA0 (aA0 O6.out (w.heap.size+1+1) 0 (.slice J O y) (by have:=j.out;omega)) (w.heap.size+1+1) 1 (.int .i64 n) (by have:=j.out;omega)) (w.heap.size+1+1) 2 (.bool L) (by have:=j.out;omega));go_wp2_with fail
  generalize ((w6.setCell ⟨w.heap.size+1+1,0,none⟩ (.slice J O y)).setCell ⟨w.heap.size+1+1,1,none⟩ (.int .i64 n)).setCell ⟨w.heap.size+1+1,2,none⟩ (.bool L)=wf at KF BF OF⊢;obtain⟨k0,k1,k2⟩:=KF.C3;clear KF y0 y1 y2 u0 u1 u2 g0 g1 g2;refine bodyPost_ret (by simp[results,results182,go_sem,k0,k1,k2];try rfl) rfl ?_;refine⟨_,rfl,?_,BF.out⟩;have:=OF.out;rw[bb.out]at this⊢;exact aA1 this
theorem aK8:∀l:List Rw,(aEc l).length=l.length / 2
 | []=>rfl
 | [_]=>by simp[aEc]
 | a :: b :: l=>by
   unfold aEc;rw[aW,aK8 l,aW,aW];omega
theorem aK9:∀(l:List Rw) (k:Nat) (x y:Rw),l[2*k]? =some x->l[2*k+1]? =some y->(aEc l)[k]? =some (x,y)
 | [],k,x,y,h,_=>by simp at h
 | [a],k,x,y,_,h=>by simp at h
 | a :: b :: l,0,x,y,h,h2=>by
   simp at h h2;subst h h2;rfl
 | a :: b :: l,k+1,x,y,h,h2=>by
   unfold aEc;rw[aM];refine aK9 l k x y ?_ ?_
   . rw[show 2*(k+1)=2*k+1+1 by omega,aM,aM]at h;exact h
   . rw[show 2*(k+1)+1=2*k+1+1+1 by omega,aM,aM]at h2;exact h2
theorem aUw {α:Type} (p:α->Bool) (x:α) (l:List α):(aDv p x l).length=l.length+1:=by
 unfold aDv;rw[aE,aW,aH,aJ];have:=List.findIdx_le_length (xs:=l) (p:=p);omega
theorem aUq (q:Qy) (c:Chg) (l:List (Rw×Rw)):(aHi q c l).1.length<=l.length+1:=by
 have a:=bR (aGt c) l;have b:=bR (aEr c) l;unfold aHi;split
 . split
   . simp
   . dsimp only;omega
 . split
   . dsimp only;omega
   . split
     . dsimp only;omega
     . dsimp only;rw[aUw];omega
theorem aIn:∀a b:List (Rw×Rw),aCa (a++b)=aCa a++aCa b
 | [],_=>rfl
 | p :: a,b=>by
   show p.1 :: p.2 :: aCa (a++b)=p.1 :: p.2 ::(aCa a++aCa b)
   rw[aIn a b]
theorem aNy:∀(q:Qy) (c:Chg) (pb pa:Option Addr) (r:Res) (v:bW) (W:bV),q.table=q.other->RwsAt W v r.rows->
 bZ prog 193 #[effV q c pb pa,resV v r] W fun e w'=>e= .returned (.tuple #[resV v r,false])/\bX W W w':=by
 intro q c pb pa r v w b a;obtain⟨l,n,j⟩:=r;obtain⟨A,k,rfl,-⟩:=a.form;unfold effV resV;dsimp only at *;have i:(q.table== q.other)=true:=by simpa using b
 generalize l.length=N at *;have h:=hid (fun(g f d:Obj)=>((((aK w.heap.size w).alloc (bF _) g).alloc (by simp) f).alloc (by simp;omega) d));clear a b;go_enter func193,ntmps193
 go_wp2_with fail
 refine bodyPost_ret (by simp[results,results193,go_sem];try rfl) rfl ?_;exact⟨rfl,h.out _ _ _⟩
theorem aNz:∀(q:Qy) (c:Chg) (pb pa:Option Addr) (r:Res) (v:bW) (w:bV),q.table≠q.other->PtrRow w pb (befQ q c)->PtrRow w pa (aftQ q c)->ResF r->RwsAt w v r.rows->
 bZ prog 193 #[effV q c pb pa,resV v r] w fun e w'=>∃v',e= .returned (.tuple #[resV v' ⟨aCa (aHi q c (aEc r.rows)).1,r.value,r.found⟩,.bool (aHi q c (aEc r.rows)).2])/\RwsAt w' v' (aCa (aHi q c (aEc r.rows)).1)/\bX w w w':=by
 intro q c pb pa r v w E hb ha hF hv;obtain⟨l,n,X⟩:=r;obtain⟨f0,-,-⟩:=hF;obtain⟨A,cc,rfl,bh,al⟩:=hv;obtain⟨N,hN⟩:=ex_ l.length;dsimp only at *;obtain⟨f,s⟩:=ex_ (((w.alloc (.cells #[q.kind,q.table,q.column,q.low,q.high,q.by_,q.other,c.table,c.key,c.had,c.old.1,c.old.2.1,c.old.2.2,c.has,c.new.1,c.new.2.1,c.new.2.2,.pointer pb,.pointer pa,.int .i64 (aC7 q c),.int .i64 (aCq q c)] 256)).alloc (.cells #[.slice A N cc,n,X] 35)).alloc (.cells #[.slice none 0 0,(),false] 35));have b1:bX w w f:=by rw[s];exact((((aK w.heap.size w).alloc (bF _) _).alloc (by simp) _).alloc (by simp;omega) _)
 have z1:f.heap.size=w.heap.size+1+1+1:=by rw[s,aI,aI,aI]
 have e1:BlkIs f w 256 (aIw q c pb pa):=by rw[s];exact((aAp _ _ _ rfl rfl).alloc _).alloc _
 have r1:BlkIs f (w.heap.size+1) 35 [.slice A N cc,n,X]:=by rw[s];exact(aAp _ _ _ (by simp)).alloc _
 have t1:BlkIs f (w.heap.size+1+1) 35 [.slice none 0 0,(),false]:=by rw[s];exact aAp _ _ _ (by simp)
 have t0:(q.table== q.other)=false:=by simpa using E
 obtain⟨P,hP⟩:=ex_ (aEc l);have a5:P.length=N / 2:=by rw[hP,aK8,hN]
 have an:∀(k:Nat) (x y:Rw),l[2*k]? =some x->l[2*k+1]? =some y->P[k]? =some (x,y):=fun k x y h h2=>by rw[hP];exact aK9 l k x y h h2
 have a1:=fun W v' (T:bX w w W) (L:W.ownsRow f.heap.size 358 10 v' P.length (P.flatMap prC)) (hz:f.heap.size<=W.heap.size)=>aW4 q c pb pa f.heap.size v' P W (hb.later T) (ha.later T) L hz (by rw[a5,hN];omega);obtain⟨J,hJ⟩:=ex_ (aHi q c P);have bA:=hid (show J.1.length<=P.length+1 by rw[hJ];exact aUq q c P);rw[<-hP];rw[<-hJ]at a1⊢;obtain⟨au,az,ax,aa,br,a9,bx,O,bt,HN,bs⟩:=aU3 s b1 e1 r1 t1 z1 a1 a5 an hN al;have bB:l.length<=10000:=f0;rw[<-hN]at bB;unfold effV resV;dsimp only;rw[<-hN];clear s b1 e1 r1 t1 z1 a1 a5 an hN hb ha E hP al f0 hJ bh;go_enter func193,ntmps193
 go_upto_region 3 with fail
 rw[<-au.out];go_wp2_with fail
 go_loopw [6,7] (fun lv iv wr=>∃k i:Nat,Hid (i=2*k)/\iv= .int .i64 i/\k<=P.length/\Hid (wr.ownsRow f.heap.size 358 10 lv k ((P.take k).flatMap prC))/\Hid (bX f f wr)) (fun _ iv _=>N-(intOf iv).toNat)
 case atStart=>exact⟨0,0,hid rfl,rfl,by omega,hid (World.ownsRow_nil _ _ _ _),hid (aK _ _)⟩
 case round=>
  obtain⟨k,i,t,rfl,hk,HO,B⟩:=hrel;have ct:i+1<20010:=by have:=O.out;have:=t.out;omega
  have x0:=(aa.later B.out).c0;by_cases hc:i+1<N
  case pos=>
   have c1:(i:Int)+1<(N:Int):=by omega
   have q1:(0:Int)<=(i:Int):=by omega
   have q2:(i:Int)<(N:Int):=by omega
   have q3:(0:Int)<=(i:Int)+1:=by omega
   have q4:((i:Int)+1).toNat=i+1:=by omega
   have q5:IntKind.i64.wrap ((i:Int)+1)=(i:Int)+1:=by rw[IntKind.wrap_i64];omega
   obtain⟨x,hx⟩:∃x,l[2*k]? =some x:=⟨_,aL (by rw[<-HN.out];have:=t.out;omega)⟩;obtain⟨y,hy⟩:∃y,l[2*k+1]? =some y:=⟨_,aL (by rw[<-HN.out];have:=t.out;omega)⟩;have hp:=bt.out k x y hx hy;obtain⟨g,o,rfl,hg,S⟩:=bs.out (by rw[<-HN.out];omega);have d:∀W,bX w w W->∀(j:Nat) (z:Rw),l[j]? =some z->W.rangeAt g (o+j*5) z:=fun W T j z hz m u hu=>(T.cell (p:=⟨g,o+j*5+m,none⟩) hg).trans (S j z hz m u hu);have cn:=a9.out;have ai:=B.size;have C:bX w w wr:=az.trans (B.mono (by omega));have HS:=hid (fun W (T:bX f wr W)=>(show(fun W=>W.cell? (w.heap.size+1,0)=some (.slice (some (g,o)) N cc)/\W.rangeAt g (o+i*5) x/\W.rangeAt g (o+(i+1)*5) y) W from⟨((aa.later B.out).below T (by omega)).cell 0,by have:=d W (C.trans (T.mono (by omega))) _ x hx;rw[<-t.out]at this;exact this,by have:=d W (C.trans (T.mono (by omega))) _ y hy;rw[<-t.out]at this;exact this⟩));have HP:=hid hp;clear hx hy hp S d C;go_upto_region 7 with fail
   refine aKs (fun W=>W.cell? (w.heap.size+1,0)=some (.slice (some (g,o)) N cc)/\W.rangeAt g (o+i*5) x/\W.rangeAt g (o+(i+1)*5) y) [(0,false),(1,false),(2,false),(3,false),(4,false),(5,false),(6,false),(7,false),(8,false),(9,false),(10,false),(11,false),(12,false),(13,true),(14,true),(15,true)] (HS.out _ (bL (aK _ _))) ?_
   repeat (first
    | (refine aAq.A0 ?_ (hy:=by intro w a4;exact aBl 116 _ rfl g (o+i*5) rfl x _ a4.2.1 underlying116 rfl Tryz.infoRowSz))
    | (refine aAq.A0 ?_ (hy:=by intro w a4;exact aBl 116 _ rfl g (o+(i+1)*5) rfl y _ a4.2.2 underlying116 rfl Tryz.infoRowSz))
    | refine aAq.A0 ?_|refine aAq.AG ?_|refine aAq.AS ?_
   )
   refine aAq.P0 ?_;intro K U;go_simp;have kz:BlkIs (wr.alloc (.cells #[x.table,x.key,x.v.1,x.v.2.1,x.v.2.2,y.table,y.key,y.v.1,y.v.2.1,y.v.2.2] 358)).drew wr.heap.size 358 (prC (x,y)):=BlkIs.drew (aAp _ _ _ rfl rfl);have G:bX wr wr (wr.alloc (.cells #[x.table,x.key,x.v.1,x.v.2.1,x.v.2.2,y.table,y.key,y.v.1,y.v.2.1,y.v.2.2] 358)).drew:=bL (aQ wr _);generalize (wr.alloc _).drew=wz at kz G⊢;have bz:=G.mono ai;refine U.out _ _ (HS.out _ bz) (fun _=>?_);clear U K;refine aBq ?_;refine aAq.P0 ?_;intro K U;have oz:=aAb G HO.out;have cs:k<=10000:=by have:=O.out;omega
   have cg:=G.size;obtain⟨i0,a2,b2,aj,b0⟩:=aYd;refine wp_append_lies wz (.tmp 27) (.tmp 40) 356 (by rfl) f.heap.size 358 i0 (prV (rw0,rw0)) 10 80 underlying356 a2 b2 aj b0 rfl (by decide) u6 k ((P.take k).flatMap prC) (by rfl) oz ⟨wr.heap.size,0,none⟩ 1 1 (prC (x,y)) (by rfl) rfl (aCn kz 0 _ rfl) (aDd _) (by decide) (by unfold maxLen;omega) (by omega) (by omega) _ rfl ?_;intro gc c6 w6 o6 g6 _ _;have Y:=aFi bz (by omega) g6 (fun k hk=>(oz.lt k hk).1);refine U.out _ _ (HS.out _ Y) (fun _=>?_);clear U K;refine aBq ?_;refine aAq.P0 ?_;intro K U;go_simp;refine U.out _ _ (HS.out _ Y) (fun _=>?_);clear U K;refine aBq ?_;refine aAq.fin ?_
   have oN:w6.ownsRow f.heap.size 358 10 (.slice (some (gc,0)) (k+1) c6) (k+1) ((P.take (k+1)).flatMap prC):=by
    rw[bM,HP.out,bJ]
    simpa using o6
   have bu:=hid oN;have bE:=hid (B.trans Y);have bc:k<P.length:=(aN.1 HP.out).1;clear o6 oN oz Y bz G kz g6 HO B;go_wp2_with fail
   go_roundw
   case rel=>exact⟨k+1,i+2,hid (by have:=t.out;omega),by go_num,bc,bu,bE⟩
   case measure=>simp[intOf];omega
  case neg=>
   have c1:¬(i:Int)+1<(N:Int):=by omega
   have bd:k=P.length:=by have:=O.out;have:=t.out;omega
   subst bd;have L:=HO.out;rw[bI]at L;have a3:bX w w wr:=az.trans (B.mono (by have:=a9.out;omega));have b:=bx.out wr u6 a3 L B.size;obtain⟨H,bC,aw,ay⟩:=aBp b (ax.later B.out) (show wr.heap[w.heap.size]? =some (.cells #[q.kind,q.table,q.column,q.low,q.high,q.by_,q.other,c.table,c.key,c.had,c.old.1,c.old.2.1,c.old.2.2,c.has,c.new.1,c.new.2.1,c.new.2.2,.pointer pb,.pointer pa,.int .i64 (aC7 q c),.int .i64 (aCq q c)] 256 (0,0))from ax.later B.out) a3;have ai:=B.size;clear L a3 b HO au;go_upto_region 8 with fail
   go_wp2_with (first|(refine wpList_load_row rfl 256 (.tmp 2) rfl w.heap.size rfl 256 #[q.kind,q.table,q.column,q.low,q.high,q.by_,q.other,c.table,c.key,c.had,c.old.1,c.old.2.1,c.old.2.2,c.has,c.new.1,c.new.2.1,c.new.2.2,.pointer pb,.pointer pa,.int .i64 (aC7 q c),.int .i64 (aCq q c)] (0,0) _ aw.out underlying256 rfl Tryz.infoEff ?_)|fail)
   have b:=H.out;unfold effV at b;refine b.mono ?_;rintro e w3 ⟨v3,rfl,o3,b3⟩;clear b H;obtain⟨A3,c3,rfl,-⟩:=aAa o3;obtain⟨M,hM⟩:=ex_ J.1.length;have EE:(.slice A3 J.1.length c3:bW)= .slice A3 M c3:=by rw[hM]
   have hz:=a9.out;rw[EE];rw[EE,<-hM]at o3;have r3:=(aa.later B.out).below b3 (by omega);have x5:wr.heap.size<=w3.heap.size:=b3.size;have x6:=r3.c0;have x7:w3.frozen? (w.heap.size+1,0)=false:=r3.frozen 0;obtain⟨R4,T4,O4,B4,HM⟩:=aDs (r3.set 0 (.slice none 0 0)) (((br.later B.out).below b3 (by omega)).other (p:=⟨w.heap.size+1,0,none⟩) (by dsimp only;omega) (.slice none 0 0)) (aA0 o3 (w.heap.size+1) 0 (.slice none 0 0) (by omega)) ((ay.trans (b3.mono (by omega))).setCell (p:=⟨w.heap.size+1,0,none⟩) (by dsimp only;omega) (.slice none 0 0)) hM;clear o3 b3 r3 hM EE aw bC ay x0 B;go_upto_region 10 with fail
   generalize w3.setCell (w.heap.size+1,0) (.slice none 0 0)=w4 at R4 T4 O4 B4⊢;go_wp2_with fail
   go_loopw [51] (fun iv wr=>∃(k:Nat) (lv:bW),iv= .int .i64 k/\k<=M/\Hid (BlkIs wr (w.heap.size+1) 35 [lv,n,X])/\Hid (wr.ownsRow w4.heap.size 116 5 lv (2*k) ((aCa (J.1.take k)).flatMap rwC))/\Hid (∀j,j≠w.heap.size+1->j<w4.heap.size->wr.heap[j]? =w4.heap[j]?)/\Hid (bX w w wr/\w4.heap.size<=wr.heap.size)) (fun iv _=>M-(intOf iv).toNat)
   case atStart=>exact⟨0,_,rfl,by omega,R4,hid (World.ownsRow_nil _ _ _ _),hid (fun _ _ _=>rfl),hid ⟨B4.out,bF _⟩⟩
   case round=>
    obtain⟨m,lv,rfl,hm,KR,KO,KS,KB⟩:=hrel;by_cases bb:m<M
    case neg=>
     obtain rfl:m=M:=by omega
     have F:=T4.lt;obtain⟨A5,c5,rfl,-⟩:=aAa KO.out;obtain⟨D,V⟩:=ex_ (2*m);have L:=KO.out;rw[<-V,HM.out,bI]at L;rw[<-V]at KR;obtain⟨O5,HD,T5⟩:=aAw L V (show BlkIs wr (w.heap.size+1+1) 35 _ from(KS.out (w.heap.size+1+1) (by omega) F).trans T4.out);clear L KO KS T4 V;obtain⟨y0,y1,y2⟩:=KR.C3;obtain⟨v0,v1,v2⟩:=T5.C3;have g0:=T5.frozen 0;have g1:=T5.frozen 1;have g2:=T5.frozen 2;obtain⟨KF,BF,OF⟩:=aAw (((T5.set 0 (.slice A5 D c5)).set 1 (.int .i64 n)).set 2 (.bool X)) (((KB.1.setCell (p:=⟨w.heap.size+1+1,0,none⟩) (by dsimp only;omega) (.slice A5 D c5)).setCell (p:=⟨w.heap.size+1+1,1,none⟩) (by dsimp only;omega) (.int .i64 n)).setCell (p:=⟨w.heap.size+1+1,2,none⟩) (by dsimp only;omega) (.bool X)) (aA0 (aA0 (aA0 O5.out (w.heap.size+1+1) 0 (.slice A5 D c5) F) (w.heap.size+1+1) 1 (.int .i64 n) F) (w.heap.size+1+1) 2 (.bool X) F);go_wp2_with fail
     generalize ((wr.setCell (w.heap.size+1+1,0) (.slice A5 D c5)).setCell (w.heap.size+1+1,1) (.int .i64 n)).setCell (w.heap.size+1+1,2) (.bool X)=wf at KF BF OF⊢;obtain⟨k0,k1,k2⟩:=KF.C3;clear KF y0 y1 y2 v0 v1 v2 g0 g1 g2;refine bodyPost_ret (by simp[results,results193,go_sem,k0,k1,k2];try rfl) rfl ?_;have bf:(aCa J.1).length=D:=by rw[aHm,HD.out,HM.out]
     refine⟨_,rfl,?_,BF.out⟩;have:=OF.out;rw[<-bf]at this⊢;exact aA1 this
    case pos=>
     obtain⟨p,hp⟩:∃p,J.1[m]? =some p:=⟨_,aL (by rw[<-HM.out];exact bb)⟩;obtain⟨cR,cF,bg,-,-,Q⟩:=aAa O4.out;cases bg
     obtain⟨g3,rfl,be,am,S⟩:=Q (by omega);have bQ:f.heap.size<=g3:=(O4.lt g3 am).1;have av:=hid (show wr.rangeAt g3 (m*10) [p.1.table,p.1.key,p.1.v.1,p.1.v.2.1,p.1.v.2.2,p.2.table,p.2.key,p.2.v.1,p.2.v.2.1,p.2.v.2.2]from fun j u hu=>(World.cell?_of_block (a:=⟨g3,m*10+j,none⟩) (KS.out g3 (by omega) be)).trans (S _ _ (aBk prC 10 aAx J.1 m j p u hp hu)));have HP:=hid hp;have q1:(0:Int)<=(m:Int):=by omega
     have q2:(m:Int)<(M:Int):=by omega
     clear hp S am Q
     go_upto_region 13 with(first
      | (refine wpList_load_mid rfl 358 (.tmp 53) rfl g3 (m*10) rfl [p.1.table,p.1.key,p.1.v.1,p.1.v.2.1,p.1.v.2.2,p.2.table,p.2.key,p.2.v.1,p.2.v.2.1,p.2.v.2.2] _ av.out underlying358 rfl Tryz.infoPairSz ?_)
      | (refine aAi rfl 358 (.tmp 10) (.tmp 54) rfl wr.heap.size #[p.1.table,p.1.key,p.1.v.1,p.1.v.2.1,p.1.v.2.2,p.2.table,p.2.key,p.2.v.1,p.2.v.2.1,p.2.v.2.2] _ 358 rfl rfl rfl Tryz.infoPairSz rfl (by simp[bH]) ?_)
      | fail)
     have Z:bX wr wr (wr.alloc (.cells #[p.1.table,p.1.key,p.1.v.1,p.1.v.2.1,p.1.v.2.2,p.2.table,p.2.key,p.2.v.1,p.2.v.2.1,p.2.v.2.2] 358)):=aQ _ _;have kb:BlkIs (wr.alloc (.cells #[p.1.table,p.1.key,p.1.v.1,p.1.v.2.1,p.1.v.2.2,p.2.table,p.2.key,p.2.v.1,p.2.v.2.1,p.2.v.2.2] 358)) wr.heap.size 358 [p.1.table,p.1.key,p.1.v.1,p.1.v.2.1,p.1.v.2.2,p.2.table,p.2.key,p.2.v.1,p.2.v.2.1,p.2.v.2.2]:=aAp _ _ _ rfl rfl;obtain⟨wb,a0⟩:=ex_ wr.heap.size;have co:w4.heap.size<=wb:=by rw[a0];exact KB.2
     generalize ba:wr.alloc (.cells #[p.1.table,p.1.key,p.1.v.1,p.1.v.2.1,p.1.v.2.2,p.2.table,p.2.key,p.2.v.1,p.2.v.2.1,p.2.v.2.2] 358)=w5 at Z kb⊢;rw[<-a0]at kb⊢;obtain⟨AL,cL,rfl,-⟩:=aAa KO.out;obtain⟨D,V⟩:=ex_ (2*m);have ko:=KO.out;rw[<-V]at ko KR;have r5:=KR.later Z;have o5:=aAb Z ko;have s5:∀j,j≠w.heap.size+1->j<w4.heap.size->w5.heap[j]? =w4.heap[j]? :=fun j h1 h2=>(Z.block j (Nat.lt_of_lt_of_le h2 KB.2)).trans (KS.out j h1 h2);have k5:bX w w w5/\w4.heap.size<=w5.heap.size:=⟨aF KB.1 Z,aZ KB.2 Z.size⟩;have y0:=r5.c0;obtain⟨z0,z1,z2,z3,z4,z5,z6,z7,z8,z9⟩:=kb.C10;have Y:bX w5 w5 (w5.alloc (.cells #[p.1.table,p.1.key,p.1.v.1,p.1.v.2.1,p.1.v.2.2,p.2.table,p.2.key,p.2.v.1,p.2.v.2.1,p.2.v.2.2] 116)):=aQ _ _;have k6:BlkIs (w5.alloc (.cells #[p.1.table,p.1.key,p.1.v.1,p.1.v.2.1,p.1.v.2.2,p.2.table,p.2.key,p.2.v.1,p.2.v.2.1,p.2.v.2.2] 116)) w5.heap.size 116 (rwC p.1++rwC p.2):=aAp _ _ _ rfl rfl;have o6:=aAb Y o5;have cw:D<=1000000:=by have:=bA.out;have:=HM.out;have:=O.out;omega
     have cq:m<=1000000:=by omega
     obtain⟨HD,B5,B6,K6,O6,R5,S5,K5⟩:=aMy V Z Y k6 o6 r5 s5 k5;clear V Z Y k6 o6 o5 r5 s5 k5 ko kb ba a0 KO KR KS KB;obtain⟨i0,a2,b8,b7,b4⟩:=aSr
     go_wp2_with (first
      | (refine wpList_append_lies _ rfl (.tmp 56) (.tmp 61) 33 rfl w4.heap.size 116 i0 (rwV rw0) 5 40 underlying33 a2 b8 b7 b4 rfl (by decide) (.slice AL D cL) D ((aCa (J.1.take m)).flatMap rwC) rfl O6.out ⟨w5.heap.size,0,none⟩ 2 2 (rwC p.1++rwC p.2) rfl rfl (aCn K6.out 0 _ rfl) (by intro u hu;rcases List.mem_append.1 hu with h|h <;> exact aBj _ u h) (by decide) (by unfold maxLen;omega) (by omega) (aZ K5.2 B6.size) _ rfl ?_
         intro gr cr w7 o7 g7 h7 _;have E:∀j,j<w4.heap.size->some j≠(Value.slice AL D cL).ownBlock:=fun j S e=>by have:=(O6.lt j e.symm).1;omega
         have R:=B6.size;have s7:∀j,j<w4.heap.size->w7.heap[j]? =w5.heap[j]? :=fun j S=>(g7.block j (by have:=K5.2;omega) (E j S)).trans (B6.block j (by have:=K5.2;omega));have r7:BlkIs w7 (w.heap.size+1) 35 [.slice AL D cL,n,X]:=(s7 _ (by have:=T4.lt;omega)).trans R5.out;have f0:=r7.c0;have f1:w7.frozen? (w.heap.size+1,0)=false:=r7.frozen 0;obtain⟨S7,R7,O7,B7⟩:=aBp s7 r7 o7 (aFi (K5.1.trans (B6.mono (by have:=K5.1.size;omega))) (by have:=K5.1.size;omega) g7 (fun k hk=>by have:=(O6.lt k hk).1;have:=T4.lt;omega));have N7:w4.heap.size<=w7.heap.size:=aZ K5.2 (aZ R g7.size);clear s7 r7 o7 g7 h7 E R)
      | fail)
     have F:=T4.lt;go_roundw
     case rel=>
      refine⟨m+1,_,by go_num,by omega,hid (R7.set 0 _),?_,?_,?_⟩
      . have h:=aA0 O7.out (w.heap.size+1) 0 (.slice (some (gr,0)) (D+2) cr) (by omega);rw[bM,HP.out,aIn,bJ];have e:2*(m+1)=D+2:=by have:=HD.out;omega
        rw[e];exact hid (by simpa[aCa]using h)
      . exact hid (fun j h1 h2=>(Below.heap_setCell _ _ _ _ (by dsimp only;omega)).trans ((S7.out j h2).trans (S5.out j h1 h2)))
      . exact hid ⟨B7.setCell (p:=⟨w.heap.size+1,0,none⟩) (by dsimp only;omega) _,by simp[bN];exact N7⟩
     case measure=>simp[intOf];omega
end
end Go.Proofs.YtmhpfoicloojcaaGreatDoor
