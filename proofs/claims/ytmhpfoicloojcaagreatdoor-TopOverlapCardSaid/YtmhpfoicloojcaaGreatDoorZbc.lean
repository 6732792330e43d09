/- Walks: effect, query print, touch, store. -/
import Derived.Test.YtmhpfoicloojcaaGreatDoorZaz
import Derived.Test.YtmhpfoicloojcaaGreatDoorZba
import Derived.Test.YtmhpfoicloojcaaGreatDoorZbb
set_option linter.all false
open Go.World renaming size_alloc→aF
open Nat renaming le_refl→aH
open List renaming getElem?_eq_some_iff→aN,getElem?_eq_getElem→aT,take_add_one→aW,take_of_length_le→bC,mem_of_getElem?→bE
open Go.RowKit.Below renaming refl→aO,alloc→aX,drew→bB
open Array renaming getElem?_eq_some_iff→aQ
open Bool renaming and_eq_true→aU
open Go.Oper renaming semAt_some→bA
open Go.Instr renaming lookup→bF
open Go renaming Value→bG,TypeId→bI,Calls→bJ
open Go.RowKit renaming Below→bH
namespace Go.Proofs.YtmhpfoicloojcaaGreatDoor
open Below renaming next→aE,al→aR,one→aY
open BlkIs renaming new→aG
open Only renaming of_below→bD
set_option maxRecDepth 100000
set_option maxHeartbeats 16000000
section
open Go.Proofs.Tryz
open Go Go.RowKit
attribute [local go_sem] Oper.semAt_some
def PtrRow (w:World) (p:Option Addr) (o:Option Rw):Prop:=match o with
 | none=>p=none
 | some x=>∃b,p=some ⟨b,0,none⟩/\BlkIs w b 116 (rwC x)
theorem PtrRow.later {w w':World} {p:Option Addr} {o:Option Rw} (h:PtrRow w p o) (hb:bH w w w'):PtrRow w' p o:=by
 cases o with
 | none=>exact h
 | some x=>
   obtain⟨b,c,a⟩:=h;exact⟨b,c,a.later hb⟩
theorem PtrRow.isSome {w:World} {p:Option Addr} {o:Option Rw} (h:PtrRow w p o):p.isSome=o.isSome:=by
 cases o with
 | none=>
   have h:p=none:=h;rw[h];rfl
 | some x=>
   obtain⟨b,a,c⟩:=h;rw[a];rfl
theorem aR3 (x:Rw) (ok:Bool) (q:Qy) (bq:Nat) (w:World) (hq:BlkIs w bq 29 (qC q)) :
 bJ prog 194 #[rwV x,ok,.pointer (some (bq,0))] w fun e w'=>
  ∃p,e= .returned (.tuple #[.pointer p,.int .i64 (if ok&&aQa q x then x.val q.by_ else 0)])/\PtrRow w' p (if ok&&aQa q x then some x else none)/\bH w w w':=by
 have f:=fun W c=>aB5 x c W;have H:aQa q x=(decide (x.table=q.table)&&(decide (q.low<=x.val q.column)&&decide (x.val q.column<=q.high))):=rfl;rw[H];obtain⟨k,t,c,F,G,m,o⟩:=q;dsimp only at *;have d:=fun W=>f W c;have b:=fun W=>f W m;clear f;generalize x.val c=v at *;generalize x.val m=u at *;have r:=aY w (.cells (rwC x).toArray 116);have s:=aG w 116 (rwC x).toArray;obtain⟨E,U,Y,X,V⟩:=x;unfold rwV at d b⊢;unfold rwC at r s;dsimp only at *;have g:=hq.lt;obtain⟨-,A,L⟩:=hq.C3;obtain⟨D,l⟩:∃y,decide (E=t)=y:=⟨_,rfl⟩;obtain⟨C,j⟩:∃y,decide (F<=v)=y:=⟨_,rfl⟩;obtain⟨B,i⟩:∃y,decide (v<=G)=y:=⟨_,rfl⟩;have e4:(E != t)=!D:=by rw[<-l];rfl
 have e5:decide (v<F)=!C:=by rw[<-j,<-decide_not];exact decide_eq_decide.2 (by omega)
 have e6:decide (G<v)=!B:=by rw[<-i,<-decide_not];exact decide_eq_decide.2 (by omega)
 rw[l,j,i];obtain⟨P,N,M,O,Q⟩:=aDs d b hq s r;clear d b H l j i hq s r;go_enter func194,ntmps194
 go_wp2_with fail
 (with_reducible refine(P.out _).mono ?_)
 rintro e w1 ⟨rfl,n⟩;have a:=hid (aE Q.out n);have h:=O.later n;have J:=M.later a.out;clear n A L g;obtain⟨-,A,-,T,S,R⟩:=J.C6;obtain⟨k0,k1,k2,k3,k4,-,-,-,-,-⟩:=aJs h;have z:=hid h;clear h J;cases ok
 . go_wp2_with fail
   refine bodyPost_ret (by simp[results,results194,go_sem];try rfl) rfl ?_;exact⟨_,rfl,rfl,a.out⟩
 cases D
 . go_wp2_with fail
   refine bodyPost_ret (by simp[results,results194,go_sem];try rfl) rfl ?_;exact⟨_,rfl,rfl,a.out⟩
 cases C
 . go_wp2_with fail
   refine bodyPost_ret (by simp[results,results194,go_sem];try rfl) rfl ?_;exact⟨_,rfl,rfl,a.out⟩
 cases B
 . go_wp2_with fail
   refine bodyPost_ret (by simp[results,results194,go_sem];try rfl) rfl ?_;exact⟨_,rfl,rfl,a.out⟩
 . go_wp2_with fail
   (with_reducible refine(N.out _).mono ?_)
   rintro e Z ⟨rfl,K⟩;go_wp2_with fail
   refine bodyPost_ret (by simp[results,results194,go_sem];try rfl) rfl ?_;exact⟨_,rfl,⟨_,rfl,z.later K⟩,aE a.out K⟩
variable {w:World}
def aIw (q:Qy) (c:Chg) (pb pa:Option Addr):List bG:=
 [.int .i64 q.kind,.int .i64 q.table,.int .i64 q.column,.int .i64 q.low,.int .i64 q.high,.int .i64 q.by_,.int .i64 q.other,
  .int .i64 c.table,.int .i64 c.key,.bool c.had,.int .i64 c.old.1,.int .i64 c.old.2.1,.int .i64 c.old.2.2,.bool c.has,.int .i64 c.new.1,.int .i64 c.new.2.1,.int .i64 c.new.2.2,
  .pointer pb,.pointer pa,.int .i64 (aC7 q c),.int .i64 (aCq q c)]
def effV (q:Qy) (c:Chg) (pb pa:Option Addr):bG:=
 .agg #[.int .i64 q.kind,.int .i64 q.table,.int .i64 q.column,.int .i64 q.low,.int .i64 q.high,.int .i64 q.by_,.int .i64 q.other,
  .int .i64 c.table,.int .i64 c.key,.bool c.had,.int .i64 c.old.1,.int .i64 c.old.2.1,.int .i64 c.old.2.2,.bool c.has,.int .i64 c.new.1,.int .i64 c.new.2.1,.int .i64 c.new.2.2,
  .pointer pb,.pointer pa,.int .i64 (aC7 q c),.int .i64 (aCq q c)]
theorem aAp {g:Nat} (t:TypeId) (cs:Array Value) (l:List Value) (h:g=w.heap.size) (hl:l=cs.toList:=by rfl):BlkIs (w.alloc (.cells cs t)) g t l:=by
 rw[h,hl];exact aG w t cs
theorem World.setRow_new (w:World) (old new:Array bG) (t:bI):(w.alloc (.cells old t)).setRow w.heap.size new=w.alloc (.cells new t):=by
 have h:(w.heap.push (Obj.cells old t)).modify w.heap.size (fun x=>match x with| .cells _ e fr=> .cells new e fr|o=>o)=w.heap.push (.cells new t):=by
  apply Array.ext_getElem?;intro i;rw[Array.getElem?_modify,Array.getElem?_push,Array.getElem?_push];by_cases e:i=w.heap.size
  . subst e;simp
  . rw[if_neg (Ne.symm e)];simp[e]
 exact congrArg (fun h=>({w with heap:=h}:World)) h
theorem aAi {P:Program} {ops:Array Oper} {rest:List Oper} {o:Oper} {a:Act} {Q:Exit->Act->World->Prop} (hgd:o.guard=none) (ty:bI) (x y:Operand) (ho:o.op= .store ty x y)
 (g:Nat) (cells old:Array bG) (t:bI) (hx:a.eval x= .pointer (some (g,0))) (hg:g=w.heap.size) (hy:a.eval y= .agg cells) (hi:(P.info? ty).map (·.size)=some cells.size)
 (hold:old.size=cells.size) (h1:cells.all (·.oneCell')=true)
 (h:wpList P ops Q rest (a.put o.dst undef) (w.alloc (.cells cells t))):wpList P ops Q (o :: rest) a (w.alloc (.cells old t)):=by
  subst hg;refine wpList_store_row hgd ty x y ho w.heap.size cells hx hy t old (World.alloc_heap_new w _) hi hold h1 ?_;rw[World.setRow_new];exact h
theorem PtrRow.other {p:Option Addr} {o:Option Rw} (h:PtrRow w p o) {g:Nat} {t:bI} {cs:List bG} (hg:BlkIs w g t cs) (ht:t≠116) {i:Nat} (u:bG):PtrRow (w.setCell (g,i) u) p o:=by
 cases o with
 | none=>exact h
 | some x=>
   obtain⟨b,c,a⟩:=h;refine⟨b,c,a.other (fun e=>ht ?_) u⟩;dsimp only at e;subst e;have:=a.symm.trans hg;simp at this;exact this.2.symm
theorem PtrRow.row {p:Option Addr} {o:Option Rw} (h:PtrRow w p o) {g:Nat} {t:bI} {cs:List bG} (hg:BlkIs w g t cs) (ht:t≠116) (ds:Array bG):PtrRow (w.setRow g ds) p o:=by
 cases o with
 | none=>exact h
 | some x=>
   obtain⟨b,c,a⟩:=h;refine⟨b,c,a.setRow_ne (fun e=>ht ?_) ds⟩;subst e;have:=a.symm.trans hg;simp at this;exact this.2.symm
theorem Tryz.infoChg10:(prog.info? 48).map (·.size)=some 10:=by kernel_rfl
theorem Tryz.infoEff:(prog.info? 256).map (·.size)=some 21:=by kernel_rfl
theorem aKf (q:Qy) (c:Chg) (w:World):bJ prog 133 #[qV q,aD8 c] w fun e w'=>
 ∃pb pa,e= .returned (effV q c pb pa)/\PtrRow w' pb (befQ q c)/\PtrRow w' pa (aftQ q c)/\bH w w w':=by
 have j:=fun W=>aOz c W;have l:=fun W=>aHx c W;have hs:=fun x ok bq W hq=>aR3 x ok q bq W hq;unfold effV;obtain⟨O,hO⟩:=ex_ (aC7 q c);obtain⟨M,hM⟩:=ex_ (aCq q c);rw[<-hO,<-hM];obtain⟨XB,J⟩:=ex_ (if c.had then aD0 c else rw0);obtain⟨XA,K⟩:=ex_ (if c.has then aB1 c else rw0);rw[<-J]at j;rw[<-K]at l
 have eb:(if c.had&&aQa q XB then some XB else none)=befQ q c:=by
  rw[J];unfold befQ;cases c.had <;> rfl
 have ea:(if c.has&&aQa q XA then some XA else none)=aftQ q c:=by
  rw[K];unfold aftQ;cases c.has <;> rfl
 have ob:(if c.had&&aQa q XB then XB.val q.by_ else 0)=O:=by
  rw[hO];unfold aC7;rw[<-eb];split <;> rfl
 have oa:(if c.has&&aQa q XA then XA.val q.by_ else 0)=M:=by
  rw[hM];unfold aCq;rw[<-ea];split <;> rfl
 have h:=fun bq W hq=>hs XB c.had bq W hq;have H:=fun bq W hq=>hs XA c.has bq W hq;rw[eb,ob]at h;rw[ea,oa]at H;generalize befQ q c=RB at *;generalize aftQ q c=RA at *;clear hs eb ea ob oa J K hO hM;obtain⟨D,E,aj,ak⟩:=aBp j l h H;clear j l h H;obtain⟨k,z,A,B,C,m,o⟩:=q;obtain⟨t,key,d,⟨s,r,n⟩,b,⟨y,v,u⟩⟩:=c;unfold qV aD8 at *;dsimp only at *;have Z:=(List.replicate 21 Value.nilFunc);clear Z;obtain⟨Q,f⟩:=ex_ ((((w.alloc (.cells #[k,z,A,B,C,m,o] 29)).alloc (.cells #[t,key,d,s,r,n,b,y,v,u] 48)).alloc (.cells #[(),(),(),(),(),(),(),(),(),false,(),(),(),false,(),(),(),.pointer none,.pointer none,(),()] 256)).alloc (.cells #[k,z,A,B,C,m,o,t,key,d,s,r,n,b,y,v,u,.pointer none,.pointer none,(),()] 256));have B4:bH w w Q:=by rw[f];exact((((aO w.heap.size w).alloc (aH _) _).alloc (by simp) _).alloc (by simp;omega) _).alloc (by simp;omega) _
 have J0:BlkIs Q w 29 [k,z,A,B,C,m,o]:=by rw[f];exact(((aG w _ _).alloc _).alloc _).alloc _
 have J1:BlkIs Q (w.heap.size+1) 48 [t,key,d,s,r,n,b,y,v,u]:=by rw[f];exact((aAp _ _ _ (by simp)).alloc _).alloc _
 have J2:BlkIs Q (w.heap.size+1+1) 256 [(),(),(),(),(),(),(),(),(),false,(),(),(),false,(),(),(),.pointer none,.pointer none,(),()]:=by rw[f];exact(aAp _ _ _ (by simp)).alloc _
 have J3:BlkIs Q (w.heap.size+1+1+1) 256 [k,z,A,B,C,m,o,t,key,d,s,r,n,b,y,v,u,.pointer none,.pointer none,(),()]:=by rw[f];exact aAp _ _ _ (by simp)
 have ai:=hid f;have HJ:=hid (And.intro B4 (And.intro J0 (And.intro J1 (And.intro J2 J3))));clear f B4 J0 J1 J2 J3;go_enter func133,ntmps133
 go_wp2_with (refine aAi rfl 256 (.tmp 5) (.tmp 9) rfl (w.heap.size+1+1+1) #[k,z,A,B,C,m,o,t,key,d,s,r,n,b,y,v,u,.pointer none,.pointer none,(),()] _ 256 rfl (by simp) rfl Tryz.infoEff rfl (by simp[Value.oneCell']) ?_)
 rw[<-ai.out];clear ai;obtain⟨b4,j0,j1,G,a⟩:=HJ.out
 (with_reducible refine(D.out Q).mono ?_)
 rintro e w5 ⟨rfl,X⟩;obtain⟨Ba,P,af,ab,a7⟩:=aDs (aE b4 X) (j0.later X) (j1.later X) (G.later X) (a.later X);clear b4 j0 j1 G a X HJ D;go_wp2_with fail
 have h:=aj.out w.heap.size w5 P.out
 (with_reducible refine h.mono ?_)
 clear h;rintro e w6 ⟨pb,rfl,Y,g⟩;obtain⟨ah,ae,aa⟩:=aAw (P.later g) (af.later g) (ab.later g);have a:=a7.later g;have x1:=a.c17;have x2:=a.c19;have f1:w6.frozen? (w.heap.size+1+1+1,17)=false:=a.frozen 17;have f2:w6.frozen? (w.heap.size+1+1+1,19)=false:=a.frozen 19;obtain⟨T,V,F,U,S,R⟩:=aIl ((a.set 17 (.pointer pb)).set 19 (.int .i64 O)) ((ah.other (p:=⟨w.heap.size+1+1+1,17,none⟩) (by dsimp only;omega) (.pointer pb)).other (p:=⟨w.heap.size+1+1+1,19,none⟩) (by dsimp only;omega) (.int .i64 O)) ((ae.other (p:=⟨w.heap.size+1+1+1,17,none⟩) (by dsimp only;omega) (.pointer pb)).other (p:=⟨w.heap.size+1+1+1,19,none⟩) (by dsimp only;omega) (.int .i64 O)) ((aa.other (p:=⟨w.heap.size+1+1+1,17,none⟩) (by dsimp only;omega) (.pointer pb)).other (p:=⟨w.heap.size+1+1+1,19,none⟩) (by dsimp only;omega) (.int .i64 O)) (((aE Ba.out g).setCell (p:=⟨w.heap.size+1+1+1,17,none⟩) (by dsimp only;omega) (.pointer pb)).setCell (p:=⟨w.heap.size+1+1+1,19,none⟩) (by dsimp only;omega) (.int .i64 O)) ((Y.other a (by decide) (i:=17) (.pointer pb)).other (a.set 17 (.pointer pb)) (by decide) (i:=19) (.int .i64 O));clear Y g a P af ab a7 Ba ah ae aa;have ka:=hid (fun W=>E.out W);clear aj E;go_upto_region 4 with fail
 generalize (w6.setCell (w.heap.size+1+1+1,17) (.pointer pb)).setCell (w.heap.size+1+1+1,19) (.int .i64 O)=w7 at V F U T S R⊢;clear x1 x2 f1 f2;have j1:=F.out;go_wp2_with (refine wpList_load_row rfl 48 (.tmp 3) rfl (w.heap.size+1) rfl 48 #[t,key,d,s,r,n,b,y,v,u] (0,0) _ j1 underlying48 rfl Tryz.infoChg10 ?_)
 clear j1
 (with_reducible refine(ka.out w7).mono ?_)
 rintro e w8 ⟨rfl,L⟩;obtain⟨Bc,N,ad,a9,a6,Pc⟩:=aIl (aE S.out L) (V.later L) (F.later L) (U.later L) (T.later L) (R.later L);clear V F U T S R L ka;go_wp2_with fail
 have a1:=ak.out w.heap.size w8 N.out
 (with_reducible refine a1.mono ?_)
 clear a1;rintro e w9 ⟨pa,rfl,Y,g⟩;obtain⟨ag,ac,a8⟩:=aAw (N.later g) (ad.later g) (a9.later g);have a:=a6.later g;have x1:=a.c18;have x2:=a.c20;have f1:w9.frozen? (w.heap.size+1+1+1,18)=false:=a.frozen 18;have f2:w9.frozen? (w.heap.size+1+1+1,20)=false:=a.frozen 20;obtain⟨T,V,F,U,S,R,kq⟩:=aMz ((a.set 18 (.pointer pa)).set 20 (.int .i64 M)) ((ag.other (p:=⟨w.heap.size+1+1+1,18,none⟩) (by dsimp only;omega) (.pointer pa)).other (p:=⟨w.heap.size+1+1+1,20,none⟩) (by dsimp only;omega) (.int .i64 M)) ((ac.other (p:=⟨w.heap.size+1+1+1,18,none⟩) (by dsimp only;omega) (.pointer pa)).other (p:=⟨w.heap.size+1+1+1,20,none⟩) (by dsimp only;omega) (.int .i64 M)) ((a8.other (p:=⟨w.heap.size+1+1+1,18,none⟩) (by dsimp only;omega) (.pointer pa)).other (p:=⟨w.heap.size+1+1+1,20,none⟩) (by dsimp only;omega) (.int .i64 M)) (((aE Bc.out g).setCell (p:=⟨w.heap.size+1+1+1,18,none⟩) (by dsimp only;omega) (.pointer pa)).setCell (p:=⟨w.heap.size+1+1+1,20,none⟩) (by dsimp only;omega) (.int .i64 M)) ((Y.other a (by decide) (i:=18) (.pointer pa)).other (a.set 18 (.pointer pa)) (by decide) (i:=20) (.int .i64 M)) (((Pc.later g).other a (by decide) (i:=18) (.pointer pa)).other (a.set 18 (.pointer pa)) (by decide) (i:=20) (.int .i64 M));clear Y g a N ad a9 a6 Bc ag ac a8;clear ak Pc;go_upto_region 5 with fail
 generalize (w9.setCell (w.heap.size+1+1+1,18) (.pointer pa)).setCell (w.heap.size+1+1+1,20) (.int .i64 M)=w10 at V F U T S R kq⊢;clear x1 x2 f1 f2 V F;have G:=U.out;have a:=T.out
 go_wp2_with (first
  | (refine wpList_load_row rfl 256 (.tmp 5) rfl (w.heap.size+1+1+1) rfl 256 #[k,z,A,B,C,m,o,t,key,d,s,r,n,b,y,v,u,.pointer pb,.pointer pa,O,M] (0,0) _ a underlying256 rfl Tryz.infoEff ?_)
  | (refine wpList_store_row rfl 256 (.tmp 4) (.tmp 33) rfl (w.heap.size+1+1) #[k,z,A,B,C,m,o,t,key,d,s,r,n,b,y,v,u,.pointer pb,.pointer pa,O,M] rfl rfl 256 _ G Tryz.infoEff rfl (by simp[Value.oneCell']) ?_))
 have r2:=G.setRow [k,z,A,B,C,m,o,t,key,d,s,r,n,b,y,v,u,.pointer pb,.pointer pa,O,M];refine bodyPost_ret (results_cell_row rfl _ _ (w.heap.size+1+1) 256 #[k,z,A,B,C,m,o,t,key,d,s,r,n,b,y,v,u,.pointer pb,.pointer pa,O,M] (0,0) _ rfl r2 underlying256 rfl Tryz.infoEff) rfl ?_;refine⟨pb,pa,rfl,?_,?_,below_setRow S.out (by omega) _⟩
 . exact kq.row G (by decide) _
 . exact R.row G (by decide) _
end
section
open Go.Proofs.Tryz
open Go Go.RowKit Go.Shelf
attribute [local go_sem] Oper.semAt_some
theorem aDq:(prog.info? 29).map (·.size)=some 7:=by kernel_rfl
theorem bB0:(prog.info? 220).map (·.size)=some 3:=by kernel_rfl
theorem BlkIs.kept_by {e:bI} {b:Option Nat} {w w':World} {g:Nat} {t:bI} {cs:List bG} (h:BlkIs w g t cs) (hk:Lib.OthersKept e b w w') (hb:some g≠b) (ht:t≠e):BlkIs w' g t cs:=
 hk g _ h hb fun c fz he=>by injection he with _ h2;exact ht h2
theorem aK2 (b:Nat) (w:World):bJ prog 173 #[.pointer (some (b,0))] w fun e w'=>∃g,e= .returned (.slice (some (g,0)) 4 4)/\
 BlkIs w' g 233 [.pointer (some (b,1)),.pointer (some (b,2)),.pointer (some (b,3)),.pointer (some (b,4))]/\w.heap.size<=g/\bH w w w':=by
 go_enter func173,ntmps173
 go_wp2_with fail
 go_region
 go_wp2_with fail
 go_ret;exact⟨_,rfl,(aAo _ _ _ rfl).drew,aH _,(aX (aO _ _) (aH _) _).drew⟩
theorem bAp (B b:Nat) (l:List UInt8) (s:List UInt8) (w:World) (h:Lib.IsBuilderF 226 5 B b (Lib.byteCells l) w) (hl:l.length<=100) (hs:s.length<=100) (hBw:B<=w.heap.size) :
 bJ prog 116 #[.string ⟨s.toArray⟩,.pointer (some (b,0))] w fun e w'=>e= .returned (.tuple #[])/\Lib.IsBuilderF 226 5 B b (Lib.byteCells (l++32 :: s)) w'/\bH B w w'/\Lib.OthersKept 5 (some b) w w':=by
 have g:=hid (aWf B b (Lib.byteCells l) 32 w h (by simp[Lib.byteCells];omega) hBw);clear h;go_enter func116,ntmps116
 go_wp2_with fail
 refine g.mono ?_;rintro e i ⟨rfl,d,a,c⟩;have n:=hid (aS9 B b (Lib.byteCells l++[.int .u8 32]) ⟨s.toArray⟩ i (.inr d) (by simp[Lib.byteCells,ByteArray.size];omega) (Nat.le_trans hBw a.size));have f:=hid (And.intro a c);clear a c d g;go_wp2_with fail
 refine n.mono ?_;rintro e o ⟨rfl,k,m,j⟩;go_wp2_with fail
 go_end0
 refine⟨rfl,.inr ?_,f.1.trans m,f.2.trans j⟩;have e:Lib.byteCells (l++32 :: s)=Lib.byteCells l++[.int .u8 32]++Lib.strCells ⟨s.toArray⟩:=by simp[Lib.byteCells,Lib.strCells]
 rw[e];exact k
theorem aVw {T e:bI} {B b:Nat} {bs:List bG} {w w':World} (h:Lib.IsBuilderF T e B b bs w) (hb:bH w w w'):Lib.IsBuilderF T e B b bs w':=by
 have key:∀p,Lib.BuilderAtF T e B b p bs w->Lib.BuilderAtF T e B b p bs w':=by
  rintro p ⟨f,v,c,a,d⟩;refine⟨f,v,(hb.block b (aQ.1 c).1).trans c,?_,d⟩;refine⟨a.1,?_⟩;rcases a.2 with h5|⟨g,cap,cur,fz,k1,k2,k3,k4⟩
  . exact .inl h5
  . exact .inr ⟨g,cap,cur,fz,k1,k2,(hb.block g (aQ.1 k3).1).trans k3,k4⟩
 exact h.imp (key _) (key _)
def prtKey:ByteArray:=⟨#[99,111,117,110,116,32,48,32,49,32,49,48,32,49,57]⟩
def bAq:Nat->List UInt8
 | 0=>[99,111,117,110,116]
 | 1=>[99,111,117,110,116,32,48]
 | 2=>[99,111,117,110,116,32,48,32,49]
 | 3=>[99,111,117,110,116,32,48,32,49,32,49,48]
 | _=>[99,111,117,110,116,32,48,32,49,32,49,48,32,49,57]
def bCe:Nat->Nat
 | 0=>0
 | 1=>1
 | 2=>10
 | _=>19
theorem aW5 {k:Nat} (hk:k<4):bAq (k+1)=bAq k++32 :: Lib.decDigits (bCe k)/\(bAq k).length<=100/\(Lib.decDigits (bCe k)).length<=100/\bCe k<100:=by
 have:k=0\/k=1\/k=2\/k=3:=by omega
 rcases this with rfl|rfl|rfl|rfl <;> decide +kernel
theorem aU7 (k:Int) (w:World):(bF 85 (.map none) (.int .i64 k) true).run prog w= .ok (.tuple #[.string ⟨#[]⟩,.bool false]) w:=by
 have b:=MapKept.run_checkKey (P:=prog) (w:=w) (k:= .int .i64 k) aBx (show MapKept.IsKey (.int .i64) (.int .i64 k)from rfl) true 9999;have a:=MapKept.run_findKey (P:=prog) (w:=w) aBx (show Instr.findNow (.int .i64) (.int .i64 k) [] 0=some none from rfl);simp[bF,run_underlying aMs,b,a,zeroValue9,Result.andThen]
theorem aW8 (w:World):bJ prog 60 #[qV awQ] w fun e w'=>e= .returned (.tuple #[.string prtKey,()])/\bH w w w':=by
 have HV:=hid (fun W=>aCk awQ aZi W);unfold qV awQ at *;dsimp only at *;obtain⟨wb,HZ,HW,HB,KQ⟩:=bB6 w [(3:Int),(),(1:Int),(10:Int),(19:Int),(),()] 29;go_enter func60,ntmps60
 go_upto_region 1 with fail
 rw[<-HW.out]
 go_wp2_with (first
  | (refine wpList_load_row rfl 29 (.tmp 1) rfl (w.heap.size) rfl 29 #[(3:Int),(),(1:Int),(10:Int),(19:Int),(),()] (0,0) _ KQ.out underlying29 rfl aDq ?_)
  | fail)
 refine(HV.out wb).mono ?_;rintro e j ⟨rfl,b1⟩;have u:=hid (KQ.later b1);have aq:=hid (aE HB.out b1);clear b1 KQ HB HV HW;go_wp2_with fail
 have C:=hid (fun(W:World) (hW:bH j j W)=>(show(fun W=>W.cell? (w,0)=some (.int .i64 3)) W from(u.later hW).cell 0));have Z:bH j j j.drew:=bB (aO _ _);refine aIu (.take 1 (.take 2 (.fork 0 (.take 3 (.step 4 (.step 5 .done))) 4 (.step 0 (.take 3 (.step 5 .done)))))) C Z ?_;obtain⟨wd,G⟩:=ex_ j.drew;rw[<-G]at Z⊢;clear G
 repeat' (first
  | refine aAd.A0 ?_|refine aAd.AG ?_|refine aAd.AS ?_|with_reducible apply aAd.step|with_reducible apply aAd.fork|with_reducible apply aAd.fork3|refine GoT.A0 ?_|refine GoT.AG ?_|refine GoT.AS ?_
  | (first
     | refine GoT.P0 ?_|refine GoT.PG ?_
     intro K l;go_simp
     first
     | (obtain⟨wx,f,a,b,d,v,-⟩:=Below.newb Z #[.string ⟨#[]⟩,.nilFunc,.map none] 220;rw[<-a,<-b];have x:j.heap.size<=f:=(by rw[b];exact Z.size);replace Z:=aE Z d;(try replace Y:=aE Y d);clear d a b)
     | (go_at_call 114;(with_reducible refine(aYw _).mono ?_);rintro e F ⟨m,ga,gb,rfl,kx,d⟩;replace Z:=aE Z d;(try replace v:=v.later d);(try replace Y:=aE Y d);clear d;go_wp2_with fail)
     | fail
     refine l.out _ _ ?_ (fun _=>?_)
     . exact C.out _ Z
     clear l K;try simp only[Act.put,sx1,sx2,sx3]))
 all_goals (
  have S:=hid (fun(W:World) (hW:bH F F W)=>(hW.block m (aQ.1 kx).1).trans kx);clear kx;refine aAd.grow (fun W=>W.cell? (w,0)=some (.int .i64 3)/\W.heap[m]? =some (.map (bBm ga gb) 7)) ⟨C.out _ Z,S.out _ (aO _ _)⟩ (fun W h=>h.1) ?_;have Y:bH F F F:=aO _ _)
 repeat' (first
  | (refine aAd.A0 ?_ (hy:=by intro w a9;have hl:=aSu a9.2;go_simp;try with_reducible rfl))
  | refine aAd.A0 ?_|refine aAd.AG ?_|refine aAd.AS ?_|with_reducible apply aAd.step|with_reducible apply aAd.fork|with_reducible apply aAd.fork3|refine GoT.A0 ?_|refine GoT.AG ?_|refine GoT.AS ?_
  | (first
     | refine GoT.P0 ?_|refine GoT.PG ?_
     intro K l;go_simp
     first
     | (obtain⟨wx,f,a,b,d,v,-⟩:=Below.newb Z #[.string ⟨#[]⟩,.nilFunc,.map none] 220;rw[<-a,<-b];have x:j.heap.size<=f:=(by rw[b];exact Z.size);replace Z:=aE Z d;(try replace Y:=aE Y d);clear d a b)
     | fail
     refine l.out _ _ ?_ (fun _=>?_)
     . exact⟨C.out _ Z,S.out _ Y⟩
     clear l K;try simp only[Act.put,sx1,sx2,sx3]))
 all_goals (
  refine GoT.P0 ?_;intro K l
  (try unfold aYv)
  refine wp_store_row 220 (.tmp 4) (.tmp 17) rfl f #[.string ⟨#[99,111,117,110,116]⟩,.func (.func 173) #[] #[],.map none] rfl rfl 220 _ v bB0 rfl (by simp[Value.oneCell']) ?_
  have H:m≠f:=fun e=>by
   subst e;have:=(S.out _ Y).symm.trans v;simp at this
  have B:=hid (v.setRow [.string ⟨#[99,111,117,110,116]⟩,.func (.func 173) #[] #[],.map none]);have M:=below_setRow Z x #[.string ⟨#[99,111,117,110,116]⟩,.func (.func 173) #[] #[],.map none];have M9:=(setRow_other _ f m #[.string ⟨#[99,111,117,110,116]⟩,.func (.func 173) #[] #[],.map none] H).trans (S.out _ Y);refine l.out _ _ ⟨C.out _ M,M9⟩ (fun _=>?_);clear l K M9 H Y Z v;generalize World.setRow _ f #[.string ⟨#[99,111,117,110,116]⟩,.func (.func 173) #[] #[],.map none]=wy at B M⊢;try simp only[Act.put]
  refine aAd.fin ?_;have Q:=hid (u.later M);have A:=hid (aE aq.out M);have HX:=hid (show w.heap.size<f/\w.heap.size<=wy.heap.size from⟨by have:=u.lt;omega,A.size⟩);clear S C M x;have k0:(wy.alloc (.cells #[.pointer none,.slice none 0 0] 226)).cell? (f,0)=some (.string ⟨#[99,111,117,110,116]⟩):=(B.alloc _).cell 0;go_wp2_with fail
  have U:Lib.IsBuilderF 226 5 wy.heap.size wy.heap.size (Lib.byteCells []) (wy.alloc (.cells #[.pointer none,.slice none 0 0] 226)):= .inl ⟨aH _,_,heap_alloc_new wy (.cells #[.pointer none,.slice none 0 0] 226),World.ownsRowF_of (World.ownsRow_nil _ _ _ _),by simp[Value.ownBlock]⟩;obtain⟨P,R,a0⟩:=aAw (Q.alloc (.cells #[.pointer none,.slice none 0 0] 226)) (B.alloc (.cells #[.pointer none,.slice none 0 0] 226)) (aE A.out (aX (aO _ _) (aH _) (.cells #[.pointer none,.slice none 0 0] 226)));have r:wy.heap.size<(wy.alloc (.cells #[.pointer none,.slice none 0 0] 226)).heap.size:=by rw[aF];omega
  have c:=hid (show f<wy.heap.size/\w.heap.size<wy.heap.size from⟨B.lt,by have:=HX.out;have:=B.lt;omega⟩);generalize wy.alloc (.cells #[.pointer none,.slice none 0 0] 226)=wz at *;have h1:=aS9 wy.heap.size wy.heap.size [] ⟨#[99,111,117,110,116]⟩ wz U (by decide) (Nat.le_of_lt r);refine h1.mono ?_;rintro e w4 ⟨rfl,d4,b4,o4⟩;clear h1 U k0 B Q A;obtain⟨K4,O,X,q,y⟩:=aDs (R.kept_by o4 (by have:=c.out;simp;omega) (by decide)) (P.kept_by o4 (by have:=c.out;simp;omega) (by decide)) (a0.trans (b4.mono (by have:=c.out;omega))) (show Lib.IsBuilderF 226 5 wy.heap.size wy.heap.size (Lib.byteCells (bAq 0)) w4 from .inr d4) (show wy.heap.size<w4.heap.size from Nat.lt_of_lt_of_le r b4.size);clear b4 o4 d4 R P a0 r;have aP:∀(fn:Fn) (first L:Array bG) (w:World),(Instr.makeFunc fn first L).run prog w= .ok (.func fn first L) w:=fun _ _ _ _=>rfl;have k1:=K4.c1;go_wp2_with fail
  (with_reducible refine(aK2 w.heap.size w4).mono ?_)
  rintro e w5 ⟨g,rfl,kg,hg,t⟩;obtain⟨K5,N,V,aZ,p,n,T,al⟩:=aMy (K4.later t) (O.later t) (aE X.out t) (show Lib.OthersKept 5 (some wy.heap.size) w4 w5 from fun k o hk _ _=>(t.block k (aQ.1 hk).1).trans hk) (aVw q.out t) (Nat.le_trans (Nat.le_of_lt y.out) t.size) kg (show g≠wy.heap.size by have:=y.out;omega);clear t hg kg q y X K4 O k1;go_wp2_with fail
  go_loopw [26] (fun iv wr=>∃(k:Nat),iv= .int .i64 k/\k<=4/\Hid (Lib.IsBuilderF 226 5 wy.heap.size wy.heap.size (Lib.byteCells (bAq k)) wr)/\Hid (BlkIs wr f 220 [.string ⟨#[99,111,117,110,116]⟩,.func (.func 173) #[] #[],.map none])/\Hid (BlkIs wr w 29 [(3:Int),(),(1:Int),(10:Int),(19:Int),(),()])/\
      Hid (BlkIs wr g 233 [.pointer (some (w,1)),.pointer (some (w,2)),.pointer (some (w,3)),.pointer (some (w,4))])/\Hid (bH w w wr)/\Hid (wy.heap.size<=wr.heap.size)) (fun iv _=>4-(intOf iv).toNat)
  case atStart=>exact⟨0,rfl,by omega,p,K5,N,T,V,n⟩
  case round=>
   clear p K5 N T V n;obtain⟨k,rfl,hk,HD,HK,D,E,z,i⟩:=hrel;by_cases J:k<4
   case pos=>
    have t1:decide (k<4)=true:=by simpa using J
    obtain⟨p1,p2,p3,p4⟩:=aW5 J;have q0:(0:Int)<=(k:Int):=by omega
    have q1:(k:Int)<4:=by omega
    have x1:wr.cell? (g,k)=some (.pointer (some (w,k+1))):=by
     have s:k=0\/k=1\/k=2\/k=3:=by omega
     rcases s with rfl|rfl|rfl|rfl
     . exact E.cell 0
     . exact E.cell 1
     . exact E.cell 2
     . exact E.cell 3
    have x2:wr.cell? (w,k+1)=some (.int .i64 (bCe k)):=by
     have s:k=0\/k=1\/k=2\/k=3:=by omega
     rcases s with rfl|rfl|rfl|rfl
     . exact D.cell 1
     . exact D.cell 2
     . exact D.cell 3
     . exact D.cell 4
    have x3:=HK.c2;have a7:=aU7 k wr;obtain⟨P1,P2,P3,P4,H4⟩:=aDs p1 p2 p3 p4 J;clear p1 p2 p3 p4 J;go_wp2_with fail
    (with_reducible refine(Tryz.strconv_Itoa_small (bCe k) P4.out wr).mono ?_)
    rintro e wx ⟨rfl,a⟩;rw[a];clear a wx;go_wp2_with fail
    (with_reducible refine(bAp wy.heap.size wy.heap.size (bAq k) (Lib.decDigits (bCe k)) wr HD.out P2.out P3.out i.out).mono ?_)
    rintro e w7 ⟨rfl,d7,b7,o7⟩;rw[<-P1.out]at d7;obtain⟨K7,ae,ag,ap,ai,am⟩:=aIl (HK.kept_by o7 (by have:=c.out;simp;omega) (by decide)) (D.kept_by o7 (by have:=c.out;simp;omega) (by decide)) (E.kept_by o7 (by have:=al.out;simp;omega) (by decide)) (z.trans (b7.mono (by have:=c.out;omega))) (Nat.le_trans i.out b7.size) d7;clear d7 b7 o7 x1 x2 x3 a7 HD HK D E z i;go_wp2_with fail
    exact⟨⟨k+1,by go_num,H4.out,am,K7,ae,ag,ap,ai⟩,by have:=H4.out;simp[intOf];omega⟩
   case neg=>
    obtain rfl:k=4:=by omega
    clear J hk;have aj:=hid (Tryz.Builder_String_any_k wy.heap.size wy.heap.size (bAq 4) wr HD.out i.out);go_wp2_with fail
    (with_reducible refine(aj.out).mono ?_)
    rintro e w8 ⟨rfl,-,b8,-⟩;have ao:=hid (z.trans (b8.mono (by have:=c.out;omega)));clear b8;go_wp2_with fail
    go_ret2
    exact⟨rfl,ao.out⟩)
theorem aEs:prog.underlying 150=some (.map 3 29):=underlying150
theorem aI7:prog.underlying 84=some (.map 9 88):=underlying84
theorem aH2:prog.underlying 9=some .string:=underlying9
theorem aVa (C I:Nat) (c0 c1 c2 c3 c5 c6:bG) (key:ByteArray) (w:World) (hC:BlkIs w C 87 [c0,c1,c2,c3,.map (some I),c5,c6]) (hI:MapIs w I #[] 0) :
 bJ prog 29 #[.pointer (some (C,0)),.string key] w fun e w'=>e= .returned (.bool false)/\w'=w:=by
 have b:=hC.c4;have a:=(hI.none_at (k:= .string key) aI7 aH2 trivial (zeroValue88 _)).2;clear hC hI;go_enter func29,ntmps29
 go_wp2_with fail
 go_ret;exact⟨rfl,rfl⟩
theorem aX8 (X Q:Nat) (hXQ:X≠Q) (v1:bG) (w:World) (hX:BlkIs w X 153 [.map (some Q),v1]) (hQ:MapIs w Q #[] 0) :
 bJ prog 69 #[.pointer (some (X,0)),.int .i64 1,.agg #[(3:Int),(),(1:Int),(10:Int),(19:Int),(),()]] w fun e w'=>e= .returned (.int .i64 0)/\
   BlkIs w' X 153 [.map (some Q),.pointer none]/\MapIs w' Q #[⟨.int .i64 1,.agg #[(3:Int),(),(1:Int),(10:Int),(19:Int),(),()],0⟩] 1/\Ch [X,Q] w w':=by
 have R:=hid (fun W=>aCk awQ aZi W);have ag:=hX.lt;have ah:=hQ.lt;unfold qV awQ at R;dsimp only at R;obtain⟨wb,HZ,HW,S,KB⟩:=bB6 w [(3:Int),(),(1:Int),(10:Int),(19:Int),(),()] 29;have V:=hid (hX.later S.out);have Y:=hid (hQ.later S.out);go_enter func69,ntmps69
 go_upto_region 1 with fail
 rw[<-HW.out];have x0:=V.c0;have U:=(Y.none_at (k:= .int .i64 1) aEs aBx rfl (zeroValue29 _)).2;clear hX hQ;go_upto_region 4 with fail
 obtain⟨O,E,G,y⟩:=aBp (aE S.out (aX (aO _ wb) (aH _) (.cells #[(),(),(),(),(),(),()] 29))) (V.alloc (.cells #[(),(),(),(),(),(),()] 29)) (Y.alloc (.cells #[(),(),(),(),(),(),()] 29)) (KB.alloc (.cells #[(),(),(),(),(),(),()] 29));generalize wb.alloc (.cells #[(),(),(),(),(),(),()] 29)=w2 at *;clear x0 U S V Y KB HW;obtain⟨y0,y1,y2,y3,y4,y5,y6⟩:=y.C7;go_wp2_with fail
 refine(R.out w2).mono ?_;rintro e w3 ⟨rfl,C⟩;obtain⟨N,h,u,x⟩:=aBp (aE O.out C) (E.later C) (G.later C) (y.later C);clear C O E G y R y0 y1 y2 y3 y4 y5 y6;have x3:=h.c0;have T:=fun ty=>u.len0 aEs ty;go_upto_region 6 with fail
 clear x3 T;have z:=hid (show X≠w.heap.size/\Q≠w.heap.size from⟨by omega,by omega⟩);have Z:=hid (show(fun W=>W.cell? (X,0)=some (.map (some Q))/\BlkIs W w 29 [(3:Int),(),(1:Int),(10:Int),(19:Int),(),()]) w3.drew from⟨h.drew.cell 0,x.drew⟩);refine bCd (fun W=>W.cell? (X,0)=some (.map (some Q))/\BlkIs W w 29 [(3:Int),(),(1:Int),(10:Int),(19:Int),(),()]) (.take 0 (.take 1 (.take 2 (.take 3 (.take 4 (.take 5 (.take 6 (.step 7 (.take 8 (.step 9 (.take 10 (.take 11 (.step 12 .done))))))))))))) Z.out ?_;obtain⟨n,a⟩:=ex_ w3.drew;obtain⟨D,r,H,L⟩:=aBp (show BlkIs n X 153 [.map (some Q),v1] by rw[a];exact h.drew) (show MapIs n Q #[] 0 by rw[a];exact u.drew) (show BlkIs n w 29 [(3:Int),(),(1:Int),(10:Int),(19:Int),(),()] by rw[a];exact x.drew) (show bH w w n by rw[a];exact N.drew);rw[<-a]at Z⊢;clear a h u x N
 repeat' (first
  | (refine aAd.A0 ?_ (hy:=by intro wq f;exact aAe 29 _ rfl _ rfl 29 #[(3:Int),(),(1:Int),(10:Int),(19:Int),(),()] (0,0) _ f.2 underlying29 rfl aDq))
  | refine aAd.A0 ?_|refine aAd.AG ?_|refine aAd.AS ?_|with_reducible apply aAd.step|with_reducible apply aAd.fork|with_reducible apply aAd.fork3|refine GoT.A0 ?_|refine GoT.AG ?_|refine GoT.AS ?_|fail)
 have o:=aKe aEs aBx (show MapKept.IsKey (.int .i64) (.int .i64 1)from rfl) r.out (zeroValue29 n);obtain⟨g,i,l,B⟩:=aBp (D.setBlock (c:=Q) (fun e=>hXQ e.symm) (.map #[⟨.int .i64 1,.agg #[(),(),(),(),(),(),()],0⟩] 1)) (r.put (es':=#[⟨.int .i64 1,.agg #[(),(),(),(),(),(),()],0⟩]) (clock':=1)) (H.setBlock (c:=Q) (z.2) (.map #[⟨.int .i64 1,.agg #[(),(),(),(),(),(),()],0⟩] 1)) ((Ch.of_below L.out:Ch [X,Q] w n).setBlock (b:=Q) (.inl (by simp)) (.map #[⟨.int .i64 1,.agg #[(),(),(),(),(),(),()],0⟩] 1));refine GoT.P0 ?_;intro K m;go_simp;refine m.out _ _ ⟨g.cell 0,l.out⟩ (fun _=>?_);clear m K o;generalize Go.ChangeMaps.setBlock n Q (.map #[⟨.int .i64 1,.agg #[(),(),(),(),(),(),()],0⟩] 1)=w4 at g i l B⊢;clear D r H L Z;refine aBq ?_
 repeat' (first
  | (refine aAd.A0 ?_ (hy:=by intro wq f;exact aAe 29 _ rfl _ rfl 29 #[(3:Int),(),(1:Int),(10:Int),(19:Int),(),()] (0,0) _ f.2 underlying29 rfl aDq))
  | refine aAd.A0 ?_|refine aAd.AG ?_|refine aAd.AS ?_|with_reducible apply aAd.step|with_reducible apply aAd.fork|with_reducible apply aAd.fork3|refine GoT.A0 ?_|refine GoT.AG ?_|refine GoT.AS ?_|fail)
 have o:=aHo (P:=prog) (t:=150) (v:= .agg #[(3:Int),(),(1:Int),(10:Int),(19:Int),(),()]) i.out;obtain⟨d,s,j,A⟩:=aBp (g.setBlock (c:=Q) (fun e=>hXQ e.symm) (.map #[⟨.int .i64 1,.agg #[(3:Int),(),(1:Int),(10:Int),(19:Int),(),()],0⟩] 1)) (i.put (es':=#[⟨.int .i64 1,.agg #[(3:Int),(),(1:Int),(10:Int),(19:Int),(),()],0⟩]) (clock':=1)) (l.setBlock (c:=Q) (z.2) (.map #[⟨.int .i64 1,.agg #[(3:Int),(),(1:Int),(10:Int),(19:Int),(),()],0⟩] 1)) (B.setBlock (b:=Q) (.inl (by simp)) (.map #[⟨.int .i64 1,.agg #[(3:Int),(),(1:Int),(10:Int),(19:Int),(),()],0⟩] 1));refine GoT.P0 ?_;intro K m;go_simp;refine m.out _ _ ⟨d.cell 0,j.out⟩ (fun _=>?_);clear m K o;generalize Go.ChangeMaps.setBlock w4 Q (.map #[⟨.int .i64 1,.agg #[(3:Int),(),(1:Int),(10:Int),(19:Int),(),()],0⟩] 1)=w5 at d s j A⊢;clear g i l B;refine aBq ?_
 repeat' (first
  | (refine aAd.A0 ?_ (hy:=by intro wq f;exact aAe 29 _ rfl _ rfl 29 #[(3:Int),(),(1:Int),(10:Int),(19:Int),(),()] (0,0) _ f.2 underlying29 rfl aDq))
  | refine aAd.A0 ?_|refine aAd.AG ?_|refine aAd.AS ?_|with_reducible apply aAd.step|with_reducible apply aAd.fork|with_reducible apply aAd.fork3|refine GoT.A0 ?_|refine GoT.AG ?_|refine GoT.AS ?_|fail)
 have x5:=d.c1;have f5:=d.frozen 1;obtain⟨q,F,J,M⟩:=aBp (d.set 1 (.pointer none)) (s.setCell (p:=⟨X,1,none⟩) hXQ (.pointer none)) (j.other (p:=⟨X,1,none⟩) (fun e=>z.1 e.symm) (.pointer none)) (A.setCell (p:=⟨X,1,none⟩) (.inl (by simp)) (.pointer none));refine GoT.P0 ?_;intro K m;go_simp;refine m.out _ _ ⟨q.cell 0,J.out⟩ (fun _=>?_);clear m K;refine aBq ?_;refine aAd.fin ?_;generalize w5.setCell (X,1) (.pointer none)=w6 at q F J M⊢;clear d s j A x5 f5;go_wp2_with fail
 go_ret;exact⟨rfl,q.out,F.out,M.out⟩
end
section
open Go.Proofs.Tryz
open Go Go.RowKit
attribute [local go_sem] Oper.semAt_some
theorem aOe {α β:Type} {p:Option α} {o:Option β} (h:p.isSome=o.isSome):p.isNone=o.isNone:=by cases p <;> cases o <;> simp_all
def aIh (g:Nat) (f:Qy->Chg->Bool):Prop:=∀(q:Qy) (c:Chg) (pb pa:Option Addr) (W:World),PtrRow W pb (befQ q c)->PtrRow W pa (aftQ q c)->
 bJ prog g #[effV q c pb pa] W fun e w'=>e= .returned (.bool (f q c))/\bH W W w'
theorem aV4:aIh 181 aO8:=by
 intro q c a b w d e;try dsimp only
 have g:=d.isSome;have f:=e.isSome;unfold aO8;rw[<-g,<-f];clear g f d e;unfold effV
 have h:=aY w (.cells #[.int .i64 q.kind,.int .i64 q.table,.int .i64 q.column,.int .i64 q.low,.int .i64 q.high,.int .i64 q.by_,.int .i64 q.other,
  .int .i64 c.table,.int .i64 c.key,.bool c.had,.int .i64 c.old.1,.int .i64 c.old.2.1,.int .i64 c.old.2.2,.bool c.has,.int .i64 c.new.1,.int .i64 c.new.2.1,.int .i64 c.new.2.2,
  .pointer a,.pointer b,.int .i64 (aC7 q c),.int .i64 (aCq q c)] 256)
 have i:=hid h;clear h;cases a <;> cases b
 all_goals
   go_enter func181,ntmps181
   go_wp2_with fail
   go_ret;exact⟨rfl,i.out⟩
theorem aUc:aIh 183 aO7:=by
 intro q c a b w d e;try dsimp only
 have g:a.isNone=(befQ q c).isNone:=aOe d.isSome;have f:b.isNone=(aftQ q c).isNone:=aOe e.isSome;unfold aO7;rw[<-g,<-f];clear g f d e;unfold effV
 have h:=aY w (.cells #[.int .i64 q.kind,.int .i64 q.table,.int .i64 q.column,.int .i64 q.low,.int .i64 q.high,.int .i64 q.by_,.int .i64 q.other,
  .int .i64 c.table,.int .i64 c.key,.bool c.had,.int .i64 c.old.1,.int .i64 c.old.2.1,.int .i64 c.old.2.2,.bool c.has,.int .i64 c.new.1,.int .i64 c.new.2.1,.int .i64 c.new.2.2,
  .pointer a,.pointer b,.int .i64 (aC7 q c),.int .i64 (aCq q c)] 256)
 have i:=hid h;clear h;cases a <;> cases b
 all_goals
   go_enter func183,ntmps183
   go_wp2_with fail
   go_ret;exact⟨rfl,i.out⟩
theorem bAc:aIh 185 (fun q c=>decide (aC7 q c≠aCq q c)):=by
 intro q c d f w g i;try dsimp only
 clear g i;unfold effV;generalize aC7 q c=O at *;generalize aCq q c=M at *
 have b:=aY w (.cells #[.int .i64 q.kind,.int .i64 q.table,.int .i64 q.column,.int .i64 q.low,.int .i64 q.high,.int .i64 q.by_,.int .i64 q.other,
  .int .i64 c.table,.int .i64 c.key,.bool c.had,.int .i64 c.old.1,.int .i64 c.old.2.1,.int .i64 c.old.2.2,.bool c.has,.int .i64 c.new.1,.int .i64 c.new.2.1,.int .i64 c.new.2.2,
  .pointer d,.pointer f,.int .i64 O,.int .i64 M] 256)
 have j:=hid b;clear b;obtain⟨y,a⟩:=ex_ (decide (O≠M));have e:(O != M)=y:=by rw[a];by_cases h:O=M <;> simp[h]
 rw[<-a];clear a;go_enter func185,ntmps185
 go_wp2_with fail
 go_ret;exact⟨rfl,j.out⟩
theorem bA1:aIh 187 (fun q c=>aO7 q c || decide (aC7 q c≠aCq q c)):=by
 intro q c d f w l m;try dsimp only
 have a:=fun W (h:bH w w W)=>aUc q c d f W (l.later h) (m.later h);clear l m;unfold effV at *;generalize aO7 q c=I at *;generalize aC7 q c=O at *;generalize aCq q c=M at *
 have b:=aY w (.cells #[.int .i64 q.kind,.int .i64 q.table,.int .i64 q.column,.int .i64 q.low,.int .i64 q.high,.int .i64 q.by_,.int .i64 q.other,
  .int .i64 c.table,.int .i64 c.key,.bool c.had,.int .i64 c.old.1,.int .i64 c.old.2.1,.int .i64 c.old.2.2,.bool c.has,.int .i64 c.new.1,.int .i64 c.new.2.1,.int .i64 c.new.2.2,
  .pointer d,.pointer f,.int .i64 O,.int .i64 M] 256)
 have i:=aG w 256 #[.int .i64 q.kind,.int .i64 q.table,.int .i64 q.column,.int .i64 q.low,.int .i64 q.high,.int .i64 q.by_,.int .i64 q.other,
  .int .i64 c.table,.int .i64 c.key,.bool c.had,.int .i64 c.old.1,.int .i64 c.old.2.1,.int .i64 c.old.2.2,.bool c.has,.int .i64 c.new.1,.int .i64 c.new.2.1,.int .i64 c.new.2.2,
  .pointer d,.pointer f,.int .i64 O,.int .i64 M]
 obtain⟨n,j,o⟩:=aAw a b i;obtain⟨y,g⟩:=ex_ (decide (O≠M));have e:(O != M)=y:=by rw[g];by_cases h:O=M <;> simp[h]
 rw[<-g];clear b a g;go_enter func187,ntmps187
 go_wp2_with (refine wpList_load_row rfl 256 (.tmp 1) rfl w.heap.size rfl 256 #[q.kind,q.table,q.column,q.low,q.high,q.by_,q.other,c.table,c.key,c.had,c.old.1,c.old.2.1,c.old.2.2,c.has,c.new.1,c.new.2.1,c.new.2.2,.pointer d,.pointer f,O,M] (0,0) _ i underlying256 rfl Tryz.infoEff ?_)
 clear i
 (with_reducible refine(n.out _ j.out).mono ?_)
 rintro e r ⟨rfl,b⟩;have p:=hid (aE j.out b);have k:=o.later b;have t:=k.c19;have s:=k.c20;clear k b n j o;cases I
 all_goals
   go_wp2_with fail
   go_ret;exact⟨rfl,p.out⟩
theorem bA2:aIh 190 (fun q c=>aO7 q c || decide (aC7 q c≠aCq q c)):=by
 intro q c d f w l m;try dsimp only
 have a:=fun W (h:bH w w W)=>aUc q c d f W (l.later h) (m.later h);clear l m;unfold effV at *;generalize aO7 q c=I at *;generalize aC7 q c=O at *;generalize aCq q c=M at *
 have b:=aY w (.cells #[.int .i64 q.kind,.int .i64 q.table,.int .i64 q.column,.int .i64 q.low,.int .i64 q.high,.int .i64 q.by_,.int .i64 q.other,
  .int .i64 c.table,.int .i64 c.key,.bool c.had,.int .i64 c.old.1,.int .i64 c.old.2.1,.int .i64 c.old.2.2,.bool c.has,.int .i64 c.new.1,.int .i64 c.new.2.1,.int .i64 c.new.2.2,
  .pointer d,.pointer f,.int .i64 O,.int .i64 M] 256)
 have i:=aG w 256 #[.int .i64 q.kind,.int .i64 q.table,.int .i64 q.column,.int .i64 q.low,.int .i64 q.high,.int .i64 q.by_,.int .i64 q.other,
  .int .i64 c.table,.int .i64 c.key,.bool c.had,.int .i64 c.old.1,.int .i64 c.old.2.1,.int .i64 c.old.2.2,.bool c.has,.int .i64 c.new.1,.int .i64 c.new.2.1,.int .i64 c.new.2.2,
  .pointer d,.pointer f,.int .i64 O,.int .i64 M]
 obtain⟨n,j,o⟩:=aAw a b i;obtain⟨y,g⟩:=ex_ (decide (O≠M));have e:(O != M)=y:=by rw[g];by_cases h:O=M <;> simp[h]
 rw[<-g];clear b a g;go_enter func190,ntmps190
 go_wp2_with (refine wpList_load_row rfl 256 (.tmp 1) rfl w.heap.size rfl 256 #[q.kind,q.table,q.column,q.low,q.high,q.by_,q.other,c.table,c.key,c.had,c.old.1,c.old.2.1,c.old.2.2,c.has,c.new.1,c.new.2.1,c.new.2.2,.pointer d,.pointer f,O,M] (0,0) _ i underlying256 rfl Tryz.infoEff ?_)
 clear i
 (with_reducible refine(n.out _ j.out).mono ?_)
 rintro e r ⟨rfl,b⟩;have p:=hid (aE j.out b);have k:=o.later b;have t:=k.c19;have s:=k.c20;clear k b n j o;cases I
 all_goals
   go_wp2_with fail
   go_ret;exact⟨rfl,p.out⟩
theorem aX0:aIh 192 (fun q c=>aO8 q c || decide (c.table=q.other)):=by
 intro q c d f w l m;try dsimp only
 have a:=fun W (h:bH w w W)=>aV4 q c d f W (l.later h) (m.later h);clear l m;unfold effV at *;generalize aO8 q c=I at *
 have b:=aY w (.cells #[.int .i64 q.kind,.int .i64 q.table,.int .i64 q.column,.int .i64 q.low,.int .i64 q.high,.int .i64 q.by_,.int .i64 q.other,
  .int .i64 c.table,.int .i64 c.key,.bool c.had,.int .i64 c.old.1,.int .i64 c.old.2.1,.int .i64 c.old.2.2,.bool c.has,.int .i64 c.new.1,.int .i64 c.new.2.1,.int .i64 c.new.2.2,
  .pointer d,.pointer f,.int .i64 (aC7 q c),.int .i64 (aCq q c)] 256)
 have i:=aG w 256 #[.int .i64 q.kind,.int .i64 q.table,.int .i64 q.column,.int .i64 q.low,.int .i64 q.high,.int .i64 q.by_,.int .i64 q.other,
  .int .i64 c.table,.int .i64 c.key,.bool c.had,.int .i64 c.old.1,.int .i64 c.old.2.1,.int .i64 c.old.2.2,.bool c.has,.int .i64 c.new.1,.int .i64 c.new.2.1,.int .i64 c.new.2.2,
  .pointer d,.pointer f,.int .i64 (aC7 q c),.int .i64 (aCq q c)]
 obtain⟨n,j,o⟩:=aAw a b i;obtain⟨y,g⟩:=ex_ (decide (c.table=q.other));have e:(c.table== q.other)=y:=by rw[g];rfl
 rw[<-g];clear b a g;go_enter func192,ntmps192
 go_wp2_with (refine wpList_load_row rfl 256 (.tmp 1) rfl w.heap.size rfl 256 #[q.kind,q.table,q.column,q.low,q.high,q.by_,q.other,c.table,c.key,c.had,c.old.1,c.old.2.1,c.old.2.2,c.has,c.new.1,c.new.2.1,c.new.2.2,.pointer d,.pointer f,.int .i64 (aC7 q c),.int .i64 (aCq q c)] (0,0) _ i underlying256 rfl Tryz.infoEff ?_)
 clear i
 (with_reducible refine(n.out _ j.out).mono ?_)
 rintro e r ⟨rfl,b⟩;have p:=hid (aE j.out b);have k:=o.later b;have t:=k.c6;have s:=k.c7;clear k b n j o;cases I
 all_goals
   go_wp2_with fail
   go_ret;exact⟨rfl,p.out⟩
def fnV (g:Nat):bG:= .func (.func g) #[] #[]
def bC6 (g:Nat):bG:= .func (.func 231) #[] #[.pointer (some (g,0))]
def bA9 (g5 g6:Nat):Int->bG
 | 1=> .agg #[fnV 181,fnV 182]
 | 2=> .agg #[fnV 181,fnV 182]
 | 3=> .agg #[fnV 183,fnV 184]
 | 4=> .agg #[fnV 185,fnV 186]
 | 5=> .agg #[fnV 187,bC6 g5]
 | 6=> .agg #[fnV 190,bC6 g6]
 | 7=> .agg #[fnV 192,fnV 193]
 | _=>undef
def aPy (g5 g6:Nat) (k:Nat):MapEntry:={key:= .int .i64 k,val:=bA9 g5 g6 k,born:=k-1}
def kindEs (g5 g6:Nat):Array MapEntry:=#[aPy g5 g6 1,aPy g5 g6 2,aPy g5 g6 3,aPy g5 g6 4,aPy g5 g6 5,aPy g5 g6 6,aPy g5 g6 7]
structure KindsAt (w:World) (m g5 g6:Nat):Prop where
 map:w.heap[m]? =some (.map (kindEs g5 g6) 7)
 b5:BlkIs w g5 199 [fnV 189]
 b6:BlkIs w g6 199 [fnV 191]
theorem KindsAt.later {w w':World} {m g5 g6:Nat} (h:KindsAt w m g5 g6) (hb:bH w w w'):KindsAt w' m g5 g6:=
 ⟨(hb.block m (aQ.1 h.map).1).trans h.map,h.b5.later hb,h.b6.later hb⟩
theorem aLv (g:Nat) (w:World):bJ prog 188 #[fnV g] w fun e w'=>e= .returned (bC6 w.heap.size)/\w'=w.alloc (.cells #[fnV g] 199):=by
 unfold fnV bC6;go_enter func188,ntmps188
 go_wp2_with fail
 go_ret;exact⟨rfl,rfl⟩
theorem aFa:prog.underlying 252=some (.map 3 251):=underlying252
theorem aFl:prog.underlying 3=some (.int .i64):=underlying3
theorem aQ7 (w:World):bJ prog 132 #[] w fun e w'=>∃m g5 g6,e= .returned (.map (some m))/\KindsAt w' m g5 g6/\bH w w w':=by
 have F:∀W:World,(Instr.makeMap 252 none).run prog W= .ok (.map (some W.heap.size)) (W.alloc (.map #[] 0)):=fun _=>rfl;have M:=heap_alloc_new w (.map #[] 0);have Z:=hid (aY w (.map #[] 0));have i:=aLv 189;have h:=aLv 191;unfold fnV bC6 at i h;have V:=hid i;have U:=hid h;clear i h;go_enter func132,ntmps132
 go_wp2_with (first
  | (refine aBd rfl (.tmp 1) (.const (.int .i64 1)) (.tmp 2) 252 (.inl rfl) aFa aFl w.heap.size 0 _ rfl M (.int .i64 1) _ rfl rfl rfl rfl ?_;intro w1 L A g)
  | (refine aBd rfl (.tmp 1) (.const (.int .i64 2)) (.tmp 3) 252 (.inl rfl) aFa aFl w.heap.size 1 _ rfl L (.int .i64 2) _ rfl rfl rfl rfl ?_;intro w2 K z n)
  | (refine aBd rfl (.tmp 1) (.const (.int .i64 3)) (.tmp 4) 252 (.inl rfl) aFa aFl w.heap.size 2 _ rfl K (.int .i64 3) _ rfl rfl rfl rfl ?_;intro w3 J y r)
  | (refine aBd rfl (.tmp 1) (.const (.int .i64 4)) (.tmp 5) 252 (.inl rfl) aFa aFl w.heap.size 3 _ rfl J (.int .i64 4) _ rfl rfl rfl rfl ?_;intro f u x C)
  | (refine aBd rfl (.tmp 1) (.const (.int .i64 5)) (.tmp 7) 252 (.inl rfl) aFa aFl w.heap.size 4 _ rfl h4' (.int .i64 5) _ rfl rfl rfl rfl ?_;intro j t q B)
  | (refine aBd rfl (.tmp 1) (.const (.int .i64 6)) (.tmp 9) 252 (.inl rfl) aFa aFl w.heap.size 5 _ rfl h5' (.int .i64 6) _ rfl rfl rfl rfl ?_;intro w6 H l s6)
  | (refine aBd rfl (.tmp 1) (.const (.int .i64 7)) (.tmp 10) 252 (.inl rfl) aFa aFl w.heap.size 6 _ rfl H (.int .i64 7) _ rfl rfl rfl rfl ?_;intro w7 G k s7)
  | (go_at_call 188;(with_reducible refine(V.out f).mono ?_);rintro e a ⟨rfl,d⟩;have h4':=(congrArg (fun W:World=>W.heap[w.heap.size]?) d).trans ((heap_alloc_old f _ _ (aQ.1 u).1).trans u);have Y:=hid d;clear d)
  | (go_at_call 188;(with_reducible refine(U.out j).mono ?_);rintro e c ⟨rfl,b⟩;have h5':=(congrArg (fun W:World=>W.heap[w.heap.size]?) b).trans ((heap_alloc_old j _ _ (aQ.1 t).1).trans t);have X:=hid b;clear b)
  | fail)
 have v:f.heap.size=w.heap.size+1:=by rw[C,r,n,g,aF]
 have d:=Y.out;have b:=X.out;have y4:a.heap.size=f.heap.size+1:=by rw[d,aF]
 have y5:c.heap.size=j.heap.size+1:=by rw[b,aF]
 have E:BlkIs a (w.heap.size+1) 199 [fnV 189]:=by rw[d];exact aAp _ _ _ v.symm
 have D:BlkIs c a 199 [fnV 191]:=by rw[b];exact aAp _ _ _ B.symm
 have s:a.heap.size≠w.heap.size:=by omega
 have T:=hid (Z.trans (A.below (aH _) (by rw[aF];omega)));have S:=hid (T.trans (z.below (aH _) (by rw[g,aF];omega)));have R:=hid (S.trans (y.below (aH _) (by rw[n,g,aF];omega)));have Q:=hid (R.trans (x.below (aH _) (by rw[r,n,g,aF];omega)));have p:bH w w a:=by rw[d];exact Q.alloc (by omega) _
 have P:=hid (p.trans (q.below (aH _) (by omega)));have o:bH w w c:=by rw[b];exact P.alloc (by omega) _
 have O:=hid (o.trans (l.below (aH _) (by omega)));have N:=O.trans (k.below (aH _) (by omega));go_ret;refine⟨w.heap.size,w.heap.size+1,a.heap.size,rfl,⟨G,?_,?_⟩,N⟩
 . exact(((((E.upd q (by omega)).later (by rw[b];exact aY _ _))).upd l (by omega)).upd k (by omega))
 . exact(D.upd l s).upd k s
variable {c:Chg}
def resV (v:bG) (r:Res):bG:= .agg #[v,r.value,r.found]
theorem aY9 (h:chgB c=true) (hh:c.had=true):rowB c.table c.key c.old=true:=by
 unfold chgB aEd at h;simp only[aU,Bool.or_eq_true,hh]at h;rcases h.1.2 with⟨_,h⟩|⟨h,_⟩
 . exact h
 . simp at h
theorem bAu {q:Qy} (h:chgB c=true): -1000000000<=aC7 q c/\aC7 q c<=1000000000:=by
 unfold aC7 aGa;cases e:befQ q c with
 | none=>simp
 | some x=>
   obtain⟨a,rfl,_⟩:=aM4 e;exact aF0 (aY9 h a) _
theorem bAv {q:Qy} (h:chgB c=true): -1000000000<=aCq q c/\aCq q c<=1000000000:=by
 unfold aCq aGa;cases e:aftQ q c with
 | none=>simp
 | some x=>
   obtain⟨a,rfl,_⟩:=aJc e;exact aF0 (aRq h a) _
structure ResF (r:Res):Prop where
 len:r.rows.length<=10000
 lo: -1000000000000000<=r.value
 hi:r.value<=1000000000000000
def aM9 (g:Nat) (f:Qy->Chg->Res->Res×Bool):Prop:=∀(q:Qy) (c:Chg) (pb pa:Option Addr) (r:Res) (v:bG) (W:World),PtrRow W pb (befQ q c)->PtrRow W pa (aftQ q c)->
 chgB c=true->ResF r->RwsAt W v r.rows->
 bJ prog g #[effV q c pb pa,resV v r] W fun e w'=>∃v',e= .returned (.tuple #[resV v' (f q c r).1,.bool (f q c r).2])/\RwsAt w' v' (f q c r).1.rows/\bH W W w'
theorem aPr:aM9 184 aHd:=by
 intro q c s j r v w k g _ m a;have i:=g.isSome;unfold aHd;rw[<-i];obtain⟨l,n,t⟩:=r;obtain⟨-,x,u⟩:=m;obtain⟨A,y,rfl,-⟩:=a.form;unfold effV resV;dsimp only at *;obtain⟨N,h⟩:=ex_ l.length;rw[<-h]at a⊢;clear h;have f:=fun(e d b:Obj)=>((((aO w.heap.size w).alloc (aH _) e).alloc (by simp) d).alloc (by simp;omega) b);have o:=hid (fun(e d b:Obj)=>(a.below (f e d b)));have p:=hid f;clear f k g i a;cases j
 all_goals
   go_enter func184,ntmps184
   go_wp2_with fail
   refine bodyPost_ret (by simp[results,results184,go_sem];try rfl) rfl ?_;exact⟨_,rfl,o.out _ _ _,p.out _ _ _⟩
theorem aT1:aM9 186 aNx:=by
 intro q c s t r v w j k h m d;have a:=bAu (q:=q) h;have g:=bAv (q:=q) h;unfold aNx;obtain⟨l,n,x⟩:=r;obtain⟨-,z,y⟩:=m;obtain⟨A,B,rfl,-⟩:=d.form;unfold effV resV;generalize aC7 q c=O at *;generalize aCq q c=M at *;obtain⟨a,b⟩:=a;obtain⟨g,u⟩:=g;dsimp only at *;obtain⟨N,i⟩:=ex_ l.length;rw[<-i]at d⊢;clear i;have f:=fun(a b e:Obj)=>((((aO w.heap.size w).alloc (aH _) a).alloc (by simp) b).alloc (by simp;omega) e);have o:=hid (fun(a b e:Obj)=>(d.below (f a b e)));have p:=hid f;clear f j k d;go_enter func186,ntmps186
 go_wp2_with fail
 refine bodyPost_ret (by simp[results,results186,go_sem];try rfl) rfl ?_;exact⟨_,rfl,o.out _ _ _,p.out _ _ _⟩
end
section
open Go.Proofs.Tryz
open Go Go.RowKit Go.Shelf
attribute [local go_sem] Oper.semAt_some
def aLf (r:Res):bG:= .agg #[.slice none 0 0,r.value,r.found]
def aW0 (r:Res):List bG:=[.slice none 0 0,.int .i64 r.value,.bool r.found]
theorem bBt (r:Res) (x:Rw) (h0:0<=r.value) (h1:r.value<=1000000) (w:World) :
 bJ prog 93 #[aLf r,rwV x] w fun e w'=>e= .returned (aLf ⟨r.rows,r.value+1,r.found⟩)/\bH w w w':=by
 obtain⟨l,n,f⟩:=r;unfold aLf rwV;dsimp only at *;have d:=hid (fun(c b a:Obj)=>((((aO w.heap.size w).alloc (aH _) c).alloc (by simp) b).alloc (by simp;omega) a));go_enter func93,ntmps93
 go_wp2_with fail
 refine bodyPost_ret (by simp[results,results93,go_sem];try rfl) rfl ?_;exact⟨rfl,d.out _ _ _⟩
theorem bAd (r:Res) (m:Int) (h0: -1000000000000000<=r.value) (h1:r.value<=1000000000000000) (h2: -1000000000<=m) (h3:m<=1000000000) (w:World) :
 bJ prog 96 #[aLf r,m] w fun e w'=>e= .returned (aLf ⟨r.rows,r.value+m,r.found⟩)/\bH w w w':=by
 obtain⟨l,n,d⟩:=r;unfold aLf;dsimp only at *;have c:=hid (fun(b a:Obj)=>(((aO w.heap.size w).alloc (aH _) b).alloc (by simp) a));go_enter func96,ntmps96
 go_wp2_with fail
 refine bodyPost_ret (by simp[results,results96,go_sem];try rfl) rfl ?_;exact⟨rfl,c.out _ _⟩
theorem aId (f:Res->Int->Res) (gf:Nat) (cap:Array bG) (hen:∀args W,(callFunc gf args).run prog W= .ok (.enter gf args) W) (l:List Int) (r0:Res) (v:bG) (B:Nat) (w:World)
 (hv:w.ownsRow B 3 1 v l.length (l.map (Value.int .i64))) (hl:l.length<=1000000)
 (hf:∀(k:Nat) (n:Int),l[k]? =some n->∀W,bH w w W->bJ prog gf (#[aLf ((l.take k).foldl f r0),.int .i64 n]++cap) W fun e w'=>e= .returned (aLf (f ((l.take k).foldl f r0) n))/\bH W W w') :
 bJ prog 94 #[v,aLf r0,.func (.func gf) #[] cap] w fun e w'=>e= .returned (aLf (l.foldl f r0))/\bH w w w':=by
 obtain⟨A,c,rfl,hc,-,h⟩:=aAa hv;obtain⟨N,D⟩:=ex_ l.length;obtain⟨G,b⟩:=ex_ ((w.alloc (.cells #[.slice none 0 0,r0.value,r0.found] 35)).alloc (.cells #[.slice none 0 0,(),false] 35));have X:bH w w G:=by rw[b];exact((aO w.heap.size w).alloc (aH _) _).alloc (by simp) _
 have P:BlkIs G w 35 (aW0 r0):=by rw[b];exact(aAp _ _ _ rfl rfl).alloc _
 obtain⟨t,s,x,u,Y,O,Z⟩:=aMz (show BlkIs G (w.heap.size+1) 35 (aW0 res0) by rw[b];exact aAp _ _ _ (by simp)) b X P hf D h;obtain⟨R,J⟩:=ex_ (l.foldl f r0);rw[<-D,<-J];have M:=hid J;clear J b X P hf h hv;rw[<-D]at hl hc;clear D;unfold aLf;go_enter func94,ntmps94
 go_upto_region 1 with fail
 rw[<-s.out];go_wp2_with fail
 go_loopw [11] (fun iv wr=>∃k:Nat,iv= .int .i64 k/\k<=N/\Hid (BlkIs wr w 35 (aW0 ((l.take k).foldl f r0)))/\Hid (BlkIs wr (w.heap.size+1) 35 (aW0 res0))/\Hid (bH w w wr)) (fun iv _=>N-(intOf iv).toNat)
 case atStart=>exact⟨0,rfl,by omega,u,t,x⟩
 case round=>
  clear u t x s;obtain⟨k,rfl,hk,o,j,q⟩:=hrel;by_cases S:k<N
  case pos=>
   obtain⟨n,C⟩:∃n,l[k]? =some n:=⟨_,aT (by rw[<-O.out];exact S)⟩;obtain⟨g,rfl,hg,-,Q⟩:=Z.out (by rw[<-O.out];omega);have x0:wr.cell? (g,k)=some (.int .i64 n):=(q.cell (p:=⟨g,k,none⟩) hg).trans (Q k _ (by rw[List.getElem?_map,C];rfl));have q1:(0:Int)<=(k:Int):=by omega
   have q2:(k:Int)<(N:Int):=by omega
   have a:=Y.out k n C wr q.out;obtain⟨F,z,y⟩:=o.C3
   have d:(l.take (k+1)).foldl f r0=f ((l.take k).foldl f r0) n:=by
    rw[aW,C,List.foldl_append];rfl
   have L:=hid d;generalize (l.take k).foldl f r0=r at a z y o L;generalize f r n=r' at a L;have i:=hid a;clear a Q C d;go_wp2_with fail
   have a:=i.out;unfold aLf at a
   (with_reducible refine a.mono ?_)
   rintro e w2 ⟨rfl,E⟩;have m:=o.later E;obtain⟨z0,z1,z2⟩:=m.C3;have V:=m.frozen 0;have U:=m.frozen 1;have T:=m.frozen 2;obtain⟨KR,KT,KB⟩:=aAw (((m.set 0 (.slice none 0 0)).set 1 (.int .i64 r'.value)).set 2 (.bool r'.found)) (((((j.later E).other (p:=⟨w.heap.size,0,none⟩) (by dsimp only;omega) (.slice none 0 0)).other (p:=⟨w.heap.size,1,none⟩) (by dsimp only;omega) (.int .i64 r'.value))).other (p:=⟨w.heap.size,2,none⟩) (by dsimp only;omega) (.bool r'.found)) ((((aE q.out E).setCell (p:=⟨w.heap.size,0,none⟩) (aH _) (.slice none 0 0)).setCell (p:=⟨w.heap.size,1,none⟩) (aH _) (.int .i64 r'.value)).setCell (p:=⟨w.heap.size,2,none⟩) (aH _) (.bool r'.found));clear a i m E o j q F z y x0;go_wp2_with fail
   go_roundw
   case rel=>exact⟨k+1,by go_num,S,by rw[L.out];exact KR,KT,KB⟩
   case measure=>simp[intOf];omega
  case neg=>
   obtain rfl:k=N:=by omega
   have H:=o.out;rw[O.out,List.take_length,<-M.out]at H;obtain⟨F,z,y⟩:=H.C3;obtain⟨v0,v1,v2⟩:=j.C3;have V:=j.frozen 0;have U:=j.frozen 1;have T:=j.frozen 2;have K:=hid (((j.set 0 (.slice none 0 0)).set 1 (.int .i64 R.value)).set 2 (.bool R.found));have BF:=hid (((q.setCell (p:=⟨w.heap.size+1,0,none⟩) (by dsimp only;omega) (.slice none 0 0)).setCell (p:=⟨w.heap.size+1,1,none⟩) (by dsimp only;omega) (.int .i64 R.value)).setCell (p:=⟨w.heap.size+1,2,none⟩) (by dsimp only;omega) (.bool R.found));clear H o j q Y Z;go_wp2_with fail
   generalize ((wr.setCell (w.heap.size+1,0) (.slice none 0 0)).setCell (w.heap.size+1,1) (.int .i64 R.value)).setCell (w.heap.size+1,2) (.bool R.found)=wf at K BF⊢;obtain⟨k0,k1,k2⟩:=K.C3;clear K F z y v0 v1 v2 V U T;refine bodyPost_ret (by simp[results,results94,go_sem,k0,k1,k2];try rfl) rfl ?_;exact⟨rfl,BF.out⟩
end
section
open Go.Proofs.Tryz
open Go Go.RowKit
attribute [local go_sem] Oper.semAt_some
variable {l:List Chg} {k:Nat} {x:Chg}
theorem aVq {c:Chg} (h:chgB c=true):In64 c.table/\In64 c.key:=by
 unfold chgB aEd rowB at h;unfold In64;obtain⟨t,k,b,d,a,new⟩:=c;dsimp only at h⊢;cases b <;> cases a <;> simp at h <;> omega
theorem aIf (c:Chg): -1<=dif c/\dif c<=1:=by
 unfold dif;cases c.has <;> cases c.had <;> simp
theorem aD4:∀l:List Chg,-(l.length:Int)<=aKg l/\aKg l<=(l.length:Int)
 | []=>by simp[aKg]
 | c :: l=>by
   have h1:=aD4 l;have h2:=aIf c;unfold aKg at *;simp only[List.map_cons,List.sum_cons,List.length_cons];omega
theorem aOt (hx:l[k]? =some x):aKg (l.take (k+1))=aKg (l.take k)+dif x:=by
 rw[aW,hx];simp[aKg]
theorem aEj {f:Chg->Bool} (hx:l[k]? =some x) (h:(l.take k).all f=true) (hf:f x=true):(l.take (k+1)).all f=true:=by
 rw[aW,hx,List.all_append,h]
 simpa using hf
theorem aV6 {f:Chg->Bool} (hx:l[k]? =some x) (hf:f x=false):l.all f=false:=by
 rw[List.all_eq_false];exact⟨x,bE hx,by simp[hf]⟩
theorem bBo (b m:Nat) (s:StT) (p:Int) (A:Option Addr) (c:Nat) (l:List Chg) (w:World) (hS:StAt w b m s) (g:GoodS s) (hp1:0<=s.pos) (hp2:s.pos<=100000) (hv:aCc w (.slice A l.length c) l) :
 bJ prog 101 #[.pointer (some (b,0)),aQy p (.slice A l.length c)] w fun e w'=>e= .returned (.bool (aFg s ⟨p,l⟩))/\bH w w w':=by
 have O:=aR w (.cells #[p,.slice A l.length c] 51);have K0:=aG w 51 #[p,.slice A l.length c];have N:=hS.below O;have T:=hv.below O;unfold aQy;obtain⟨d,a3⟩:=ex_ (w.alloc (.cells #[p,.slice A l.length c] 51));rw[<-a3]at O K0 N T;have G:=fun W (hW:bH d d W)=>aJu p A c l W (T.below hW);obtain⟨B,hB⟩:=ex_ (recB ⟨p,l⟩);obtain⟨E,hE⟩:=ex_ (decide (p=s.pos+1))
 have U:aFg s ⟨p,l⟩=(B&&E&&(l.all (aEl s.rows)&&decide ((s.rows.length:Int)+aKg l<=2000))):=by
  unfold aFg;rw[hB,hE]
 have V:B=true->1<=l.length/\l.length<=8/\∀x∈l,chgB x=true:=by
  intro e;rw[e]at hB;have hB:=hB.symm;have h2:=hB;unfold recB at h2;simp only[aU,decide_eq_true_eq]at h2;exact⟨h2.1.2.1,h2.1.2.2,aJb (aEg hB)⟩
 unfold aQy at G;rw[<-hB]at G;rw[U];obtain⟨J,a2,aI,aK,aJ,HK,HG,HA⟩:=aMy G V a3 N T K0 g O;obtain⟨q,hq⟩:=ex_ (s.pos+1);have t0:IntKind.i64.wrap (s.pos+1)=q:=by rw[hq];simp[IntKind.wrap,IntKind.bits,IntKind.signed];omega
 have t1:(p != q)=!E:=by rw[hE,hq];rfl
 have bk:=g.small;have b9:w.heap.size<d.heap.size:=K0.lt;have a:=hid (fun(W:World) (hW:bH d d W)=>(show(fun W=>W.cell? (w,0)=some (.int .i64 p)/\W.cell? (w,1)=some (.slice A l.length c)/\W.cell? (b,1)=some (.int .i64 s.pos)/\bH d d W) W from⟨(K0.later hW).cell 0,(K0.later hW).cell 1,(N.below hW).blk.cell 1,hW⟩));have c0:=(a.out d (aO _ _)).1;have c1:=(a.out d (aO _ _)).2.1;have c2:=(a.out d (aO _ _)).2.2.1;have c3:=N.blk.c0;clear G V N T K0 g O hB hE U hS hv hq;go_enter func101,ntmps101
 go_wp2_with fail
 rw[<-aI.out];clear aI a3;cases B
 case false=>
  have Z:=aO d.heap.size d;replace Z:=bB Z;refine aKs (fun W=>W.cell? (w,0)=some (.int .i64 p)/\W.cell? (w,1)=some (.slice A l.length c)/\W.cell? (b,1)=some (.int .i64 s.pos)/\bH d d W) [(0,true),(1,true),(2,true),(3,true),(4,false),(5,false),(6,true),(7,true),(8,true),(9,true),(10,true),(11,true),(12,true),(13,true)] (a.out _ Z) ?_
  repeat (first
   | refine aAq.A0 ?_|refine aAq.AG ?_|refine aAq.AS ?_
   | (first
      | refine aAq.P0 ?_|refine aAq.PG ?_
      intro K Y;go_simp
      first
      | (go_at_call 31;(with_reducible refine(J.out _ Z).mono ?_);rintro e wx ⟨rfl,bx⟩;replace Z:=aE Z bx;clear bx;go_wp2_with fail)
      | fail
      refine Y.out _ _ ?_ (fun _=>?_)
      . exact a.out _ Z
      clear Y K;try simp only[Act.put,sx1,sx2,sx3]))
  refine aAq.fin ?_;go_wp2_with fail
  go_ret;exact⟨rfl,aE HA.out Z⟩
 case true=>
  obtain⟨l1,l8,X⟩:=a2.out rfl;have aM:=hid X;clear X a2;cases E
  case false=>
   have Z:=aO d.heap.size d;replace Z:=bB Z;refine aKs (fun W=>W.cell? (w,0)=some (.int .i64 p)/\W.cell? (w,1)=some (.slice A l.length c)/\W.cell? (b,1)=some (.int .i64 s.pos)/\bH d d W) [(0,true),(1,true),(2,true),(3,true),(4,false),(5,false),(6,true),(7,true),(8,true),(9,true),(10,true),(11,true),(12,true),(13,true)] (a.out _ Z) ?_
   repeat (first
    | refine aAq.A0 ?_|refine aAq.AG ?_|refine aAq.AS ?_
    | (first
       | refine aAq.P0 ?_|refine aAq.PG ?_
       intro K Y;go_simp
       first
       | (go_at_call 31;(with_reducible refine(J.out _ Z).mono ?_);rintro e wx ⟨rfl,bx⟩;replace Z:=aE Z bx;clear bx;go_wp2_with fail)
       | fail
       refine Y.out _ _ ?_ (fun _=>?_)
       . exact a.out _ Z
       clear Y K;try simp only[Act.put,sx1,sx2,sx3]))
   refine aAq.fin ?_;go_wp2_with fail
   go_ret;exact⟨rfl,aE HA.out Z⟩
  case true=>
   have Z:=aO d.heap.size d;replace Z:=bB Z;refine aKs (fun W=>W.cell? (w,0)=some (.int .i64 p)/\W.cell? (w,1)=some (.slice A l.length c)/\W.cell? (b,1)=some (.int .i64 s.pos)/\bH d d W) [(0,true),(1,true),(2,true),(3,true),(4,false),(5,false),(6,true),(7,true),(8,true),(9,true),(10,true),(11,true),(12,true),(13,true)] (a.out _ Z) ?_
   repeat (first
    | refine aAq.A0 ?_|refine aAq.AG ?_|refine aAq.AS ?_
    | (first
       | refine aAq.P0 ?_|refine aAq.PG ?_
       intro K Y;go_simp
       first
       | (go_at_call 31;(with_reducible refine(J.out _ Z).mono ?_);rintro e wx ⟨rfl,bx⟩;replace Z:=aE Z bx;clear bx;go_wp2_with fail)
       | fail
       refine Y.out _ _ ?_ (fun _=>?_)
       . exact a.out _ Z
       clear Y K;try simp only[Act.put,sx1,sx2,sx3]))
   refine aAq.fin ?_;clear a c0 c1 c2 c3 t0 t1;have a8:=aK.below Z;have aA:=HK.later Z;have c3:=a8.blk.c0;have c1:=aA.c1;have ax:=fun ty=>a8.map.len aLl ty;have HZ:=hid Z;clear a8 aA Z J;go_wp2_with fail
   clear ax c3 c1;go_loopw [5,33] (fun sv iv wr=>∃k:Nat,k<=l.length/\iv= .int .i64 k/\sv= .int .i64 ((s.rows.length:Int)+aKg (l.take k))/\Hid ((l.take k).all (aEl s.rows)=true)/\Hid (bH d d wr)) (fun _ iv _=>l.length-(intOf iv).toNat)
   case atStart=>exact⟨0,by omega,rfl,by simp[aKg],hid rfl,hid HZ.out⟩
   case round=>
    clear HZ;obtain⟨k,hk,rfl,rfl,HH,HB⟩:=hrel;by_cases h1:k<l.length
    case pos=>
     obtain⟨⟨C,F,j,⟨R,Q,P⟩,r,⟨n0,n1,n2⟩⟩,hx⟩:∃x,l[k]? =some x:=⟨_,aT h1⟩;have a6:=aD4 (l.take k);rw[List.length_take,Nat.min_eq_left hk]at a6;have az:=aOt hx;have hd3:=aIf ⟨C,F,j,(R,Q,P),r,(n0,n1,n2)⟩;obtain⟨D,hD⟩:=ex_ ((s.rows.length:Int)+aKg (l.take k));rw[<-hD];obtain⟨aq,ap⟩:=aVq (aM.out _ (bE hx));have a9:=aK.below HB.out;obtain⟨A',c',hv,hc,hj⟩:=aJ.out;injection hv with e1 e2 e3
     subst e1 e3;obtain⟨g,o,rfl,hg,hj⟩:=hj (by omega);have M:∀(i:Nat) u,(chgCells ⟨C,F,j,(R,Q,P),r,(n0,n1,n2)⟩)[i]? =some u->wr.cell? (g,o+k*10+i)=some u:=fun i u hu=>(HB.cell (p:=⟨g,o+k*10+i,none⟩) hg).trans (hj k _ hx i u hu);obtain⟨c0,c1,c2,c3,c4,c5,c6,c7,c8,c9⟩:=aQn M;have q0:(0:Int)<=(k:Int):=by omega
     have q1:(k:Int)<(l.length:Int):=by omega
     have aB:=a9.blk.c0;have t1:decide (k<l.length)=true:=by simpa using h1
     obtain⟨b0,HD,t⟩:=aAw a9 (And.intro hD (And.intro a6 (And.intro az hd3))) (And.intro hx (And.intro aq ap));have aV: -8<=D/\D<=2008:=by omega
     obtain⟨bb,ba⟩:=aV;clear M hj a9 hD a6 az hd3 hx aq ap h1 aJ;go_wp2_with fail
     have a4:=Below.alloc1 wr (.cells (chgCells ⟨C,F,j,(R,Q,P),r,(n0,n1,n2)⟩).toArray 48);have K4:=aG wr 48 (chgCells ⟨C,F,j,(R,Q,P),r,(n0,n1,n2)⟩).toArray;have f:=hid (b0.below a4);have ae:=hid (aE HB.out a4);unfold chgCells at a4 K4 f ae;generalize wr.alloc (.cells _ 48)=w4 at *;have a7:=f.blk.c0;obtain⟨d0,d1⟩:=K4.C2
     have a5:∀o,(bF 201 (.map (some m)) (idV C F) true).run prog (w4.alloc o).drew= .ok (.tuple #[rwV ((getS s.rows C F).getD rw0),.bool (getS s.rows C F).isSome]) (w4.alloc o).drew:=fun o=>
      MapAt.look aSs (f.map.block (w':=(w4.alloc o).drew) (Below.heap_alloc _ _ m f.map.lt)) aLl (aPa _) t.2.1 t.2.2
     have L:(bF 201 (.map (some m)) (idV C F) true).run prog w4.drew= .ok (.tuple #[rwV ((getS s.rows C F).getD rw0),.bool (getS s.rows C F).isSome]) w4.drew:=
       MapAt.look aSs (f.map.block (w':=w4.drew) rfl) aLl (aPa _) t.2.1 t.2.2
     obtain⟨y,hy⟩:=ex_ ((getS s.rows C F).getD rw0);obtain⟨yb,S⟩:=ex_ ((getS s.rows C F).isSome);rw[<-hy,<-S]at L;simp only[<-hy,<-S]at a5;unfold idV rwV at a5 L;have HY:=hid (And.intro hy S);have aw:=K4.lt;have av:=f.blk.lt;have aL:=hid K4;have b1:=hid a4;clear hy S c0 c1 c2 c3 c4 c5 c6 c7 c8 c9 aB K4 a4;go_region
     have b5:bH w4 w4 (w4.alloc (.cells (rwC y).toArray 116)).drew:=bB (Below.alloc1 _ _);have K5:BlkIs (w4.alloc (.cells (rwC y).toArray 116)).drew w4.heap.size 116 (rwC y):=aG w4 _ _;have K6:=aL.later b5;have n:=hid (aE ae.out b5)
     have H:aEl s.rows ⟨C,F,j,(R,Q,P),r,(n0,n1,n2)⟩=(if yb then j&&decide (y.v=(R,Q,P))else !j):=by
      unfold aEl;dsimp only;rw[HY.1,HY.2];cases getS s.rows C F <;> rfl
     obtain⟨yt,yk,y0,y1,y2⟩:=y;unfold rwC at b5 K5 n;dsimp only at b5 K5 n H;unfold rwC at K6;dsimp only at K6⊢;clear b5 a7 d0 d1 a5 L aw av aL f ae b1;generalize (w4.alloc (.cells _ 116)).drew=w5 at *;obtain⟨d0,d1,d2,d3,d4,d5,d6⟩:=K6.C7;obtain⟨-,-,e2,e3,e4⟩:=K5.C5;obtain⟨z,hz⟩:∃z,decide ((y0,y1,y2)=(R,Q,P))=z:=⟨_,rfl⟩;have hq:=fun W=>aFr W (y0,y1,y2) (R,Q,P);rw[hz]at hq H;dsimp only at hq;have bn:=aLp;have h:=hid H;clear H hz K5 K6
     have au:aEl s.rows ⟨C,F,j,(R,Q,P),r,(n0,n1,n2)⟩=false->(true&&true&&(l.all (aEl s.rows)&&decide ((s.rows.length:Int)+aKg l<=2000)))=false:=fun e=>by
      rw[aV6 t.1 e];rfl
     have ad:=hid au;clear au;cases yb
     case false=>
      cases j
      case true=>
       go_wp2_with fail
       go_ret;exact⟨congrArg (fun x=>Ending.returned (.bool x)) (ad.out (by rw[h.out];rfl)).symm,aE HA.out n.out⟩
      case false=>
       cases r
       case false=>
        go_wp2_with fail
        refine⟨⟨k+1,by have:=t.1;have:=(aN.1 this).1;omega,by go_num,?_,hid (aEj t.1 HH.out (by rw[h.out];rfl)),n⟩,by have:=t.1;have:=(aN.1 this).1;simp[intOf];omega⟩;obtain⟨g1,g2,g3,g4⟩:=HD.out;rw[g3,g1]
        (simp[dif]) <;> omega
       case true=>
        go_wp2_with fail
        refine⟨⟨k+1,by have:=t.1;have:=(aN.1 this).1;omega,by go_num,?_,hid (aEj t.1 HH.out (by rw[h.out];rfl)),n⟩,by have:=t.1;have:=(aN.1 this).1;simp[intOf];omega⟩;obtain⟨g1,g2,g3,g4⟩:=HD.out;rw[g3,g1]
        (simp[dif]) <;> omega
     case true=>
      cases j
      case false=>
       go_wp2_with fail
       go_ret;exact⟨congrArg (fun x=>Ending.returned (.bool x)) (ad.out (by rw[h.out];rfl)).symm,aE HA.out n.out⟩
      case true=>
       cases z
       case false=>
        go_wp2_with fail
        go_ret;exact⟨congrArg (fun x=>Ending.returned (.bool x)) (ad.out (by rw[h.out];rfl)).symm,aE HA.out n.out⟩
       case true=>
        cases r
        case false=>
         go_wp2_with fail
         refine⟨⟨k+1,by have:=t.1;have:=(aN.1 this).1;omega,by go_num,?_,hid (aEj t.1 HH.out (by rw[h.out];rfl)),n⟩,by have:=t.1;have:=(aN.1 this).1;simp[intOf];omega⟩;obtain⟨g1,g2,g3,g4⟩:=HD.out;rw[g3,g1]
         (simp[dif]) <;> omega
        case true=>
         go_wp2_with fail
         refine⟨⟨k+1,by have:=t.1;have:=(aN.1 this).1;omega,by go_num,?_,hid (aEj t.1 HH.out (by rw[h.out];rfl)),n⟩,by have:=t.1;have:=(aN.1 this).1;simp[intOf];omega⟩;obtain⟨g1,g2,g3,g4⟩:=HD.out;rw[g3,g1]
         (simp[dif]) <;> omega
    case neg=>
     have t1:decide (k<l.length)=false:=by simpa using h1
     have ay:l.take k=l:=bC (by omega);rw[ay]at HH⊢;have hd:=aD4 l;obtain⟨D,hD⟩:=ex_ ((s.rows.length:Int)+aKg l);rw[<-hD];have HD:=hid hD;clear h1 ay hD hd;go_wp2_with fail
     go_ret;exact⟨by rw[HH.out,<-HD.out];simp,aE HA.out HB.out⟩
variable {w w':World}
theorem aS0 {p:Addr} (h:w'.heap[p.block]? =w.heap[p.block]?):w'.cell? p=w.cell? p:=by
 unfold World.cell?;rw[h]
theorem Only.at_ {S:Nat->Prop} (h:Only S w w') {g i:Nat} (hg:g<w.heap.size) (hn:¬S g):w'.cell? (g,i)=w.cell? ⟨g,i,none⟩:=aS0 (h.block g hg hn)
theorem BlkIs.only {S:Nat->Prop} {g:Nat} {t:bI} {cs:List bG} (h:BlkIs w g t cs) (hs:Only S w w') (hn:¬S g):BlkIs w' g t cs:=(hs.block g h.lt hn).trans h
theorem aR2 (c:Chg) (w:World) :
 bJ prog 102 #[aD8 c] w fun e w'=>e= .returned (.tuple #[aGb c c.has c.new,.bool c.has])/\bH w w w':=by
 have n:=fun W=>aM0 c c.has c.new W;obtain⟨t,k,g,⟨z,m,l⟩,has,⟨r,q,o⟩⟩:=c;have G:=hid (fun m l=>aX (aR w m) (by rw[aF];omega) l)
 obtain⟨d,f,j,i,h,a⟩:∃d f j i h,aGb ⟨t,k,g,(z,m,l),has,(r,q,o)⟩ has (r,q,o)= .agg #[.int .i64 d,.int .i64 f,.int .i64 j,.int .i64 i,.int .i64 h]:=by
  unfold aGb aNa;split <;> exact⟨_,_,_,_,_,rfl⟩
 dsimp only at n a⊢;rw[a]at n⊢;have x:=hid n;clear n a;unfold aD8 aZk at x;unfold aD8;dsimp only at x⊢;go_enter func102,ntmps102
 go_wp2_with fail
 refine(x.out _).mono ?_;rintro e y ⟨rfl,v⟩;have K:=(aAn (w.alloc (.cells #[.int .i64 t,.int .i64 k,.bool g,.int .i64 z,.int .i64 m,.int .i64 l,.bool has,.int .i64 r,.int .i64 q,.int .i64 o] 48)) (.cells #[.int .i64 0,.int .i64 0,.int .i64 0,.int .i64 0,.int .i64 0] 116) (w.heap.size+1) (by rw[aF]));have b:BlkIs y (w.heap.size+1) 116 [.int .i64 0,.int .i64 0,.int .i64 0,.int .i64 0,.int .i64 0]:=(v.block _ (by rw[aF,aF];omega)).trans K;have u:=aE (G.out _ _) v;obtain⟨S,R,Q,P,O⟩:=b.C5;have N:=b.frozen 0;have M:=b.frozen 1;have L:=b.frozen 2;have J:=b.frozen 3;have H:=b.frozen 4;clear v K;go_wp2_with fail
 have F:=((((b.set 0 (.int .i64 d)).set 1 (.int .i64 f)).set 2 (.int .i64 j)).set 3 (.int .i64 i)).set 4 (.int .i64 h);have s:=((((u.setCell (p:=⟨w.heap.size+1,0,none⟩) (by simp) (.int .i64 d)).setCell (p:=⟨w.heap.size+1,1,none⟩) (by simp) (.int .i64 f)).setCell (p:=⟨w.heap.size+1,2,none⟩) (by simp) (.int .i64 j)).setCell (p:=⟨w.heap.size+1,3,none⟩) (by simp) (.int .i64 i)).setCell (p:=⟨w.heap.size+1,4,none⟩) (by simp) (.int .i64 h);generalize ((((y.setCell (w.heap.size+1,0) (.int .i64 d)).setCell (w.heap.size+1,1) (.int .i64 f)).setCell (w.heap.size+1,2) (.int .i64 j)).setCell (w.heap.size+1,3) (.int .i64 i)).setCell (w.heap.size+1,4) (.int .i64 h)=wF at *;obtain⟨E,D,C,B,A⟩:=F.C5;refine bodyPost_ret (by simp[results,results102,go_sem,E,D,C,B,A];try rfl) rfl ?_;exact⟨rfl,s⟩
theorem aC9 (n a b:Int) (w:World) :
 bJ prog 155 #[n,a,b] w fun e w'=>e= .returned (.bool (decide (a<=n)&&decide (n<=b)))/\w'=w:=by
 by_cases g:a<=n
 . have c:decide (a<=n)=true:=by simpa using g
   by_cases f:n<=b
   . have d:decide (n<=b)=true:=by simpa using f
     rw[c,d];go_enter func155,ntmps155
     go_wp2_with fail
     go_ret;exact⟨rfl,rfl⟩
   . have d:decide (n<=b)=false:=by simpa using f
     rw[c,d];go_enter func155,ntmps155
     go_wp2_with fail
     go_ret;exact⟨rfl,rfl⟩
 . have c:decide (a<=n)=false:=by simpa using g
   rw[c,Bool.false_and];go_enter func155,ntmps155
   go_wp2_with fail
   go_ret;exact⟨rfl,rfl⟩
theorem aNj (t k:Int) (v:Int×Int×Int) (w:World) :
 bJ prog 214 #[aNa t k v] w fun e w'=>e= .returned (.bool (rowB t k v))/\bH w w w':=by
 obtain⟨d,c,b⟩:=v;obtain⟨p,m⟩:∃y,aWg d=y:=⟨_,rfl⟩;obtain⟨o,l⟩:∃y,aWg c=y:=⟨_,rfl⟩;obtain⟨n,i⟩:∃y,aWg b=y:=⟨_,rfl⟩;obtain⟨D,s⟩:∃y,(decide (0<=t)&&decide (t<=3))=y:=⟨_,rfl⟩;obtain⟨F,r⟩:∃y,(decide (1<=k)&&decide (k<=1000000))=y:=⟨_,rfl⟩;have E:rowB t k (d,c,b)=(D&&F&&(p&&o&&n)):=by unfold rowB;dsimp only;rw[m,l,i,s,r]
 rw[E];have C:=fun W=>aC9 d (-1000000000) 1000000000 W;have B:=fun W=>aC9 c (-1000000000) 1000000000 W;have A:=fun W=>aC9 b (-1000000000) 1000000000 W;have z:=fun W=>aC9 t 0 3 W;have x:=fun W=>aC9 k 1 1000000 W;unfold aWg at m l i;rw[m]at C;rw[l]at B;rw[i]at A;rw[s]at z;rw[r]at x;obtain⟨N,M,L,J,H⟩:=aDs C B A z x;unfold aNa;dsimp only;have a:=hid (aR w (.cells #[t,k,d,c,b] 116));have K:=aG w 116 #[t,k,d,c,b];obtain⟨T,S,R,Q,P⟩:=K.C5;clear E m l i s r C B A z x K;go_enter func214,ntmps214
 go_wp2_with fail
 generalize w.alloc (.cells #[t,k,d,c,b] 116)=w1 at *;go_loopw [3] (fun iv wr=>∃j:Nat,j<=3/\iv= .int .i64 j/\wr=w1/\Hid ((0<j->p=true)/\(1<j->o=true)/\(2<j->n=true))) (fun iv _=>3-(intOf iv).toNat)
 case atStart=>exact⟨0,by omega,rfl,rfl,hid ⟨fun h=>by omega,fun h=>by omega,fun h=>by omega⟩⟩
 case round=>
  obtain⟨j,U,rfl,rfl,f⟩:=hrel;obtain rfl|rfl|rfl|rfl:j=0\/j=1\/j=2\/j=3:=by omega
  . go_wp2_with fail
    refine(N.out _).mono ?_;rintro e q ⟨rfl,rfl⟩;cases p
    . go_wp2_with fail
      go_ret;exact⟨by simp,a.out⟩
    . go_wp2_with fail
      exact⟨⟨1,by omega,by go_num,by trivial,hid (by simp)⟩,by simp[intOf]⟩
  . have g:=f.1 (by omega);subst g;go_wp2_with fail
    refine(M.out _).mono ?_;rintro e q ⟨rfl,rfl⟩;cases o
    . go_wp2_with fail
      go_ret;exact⟨by simp,a.out⟩
    . go_wp2_with fail
      exact⟨⟨2,by omega,by go_num,by trivial,hid (by simp)⟩,by simp[intOf]⟩
  . have g:=f.1 (by omega);have u:=f.2.1 (by omega);subst g u;go_wp2_with fail
    refine(L.out _).mono ?_;rintro e q ⟨rfl,rfl⟩;cases n
    . go_wp2_with fail
      go_ret;exact⟨by simp,a.out⟩
    . go_wp2_with fail
      exact⟨⟨3,by omega,by go_num,by trivial,hid (by simp)⟩,by simp[intOf]⟩
  . have g:=f.1 (by omega);have u:=f.2.1 (by omega);have G:=f.2.2 (by omega);subst g u G;go_wp2_with fail
    refine(J.out _).mono ?_;rintro e q ⟨rfl,rfl⟩;cases D
    . go_wp2_with fail
      go_ret;exact⟨rfl,a.out⟩
    go_wp2_with fail
    refine(H.out _).mono ?_;rintro e O ⟨rfl,rfl⟩;go_wp2_with fail
    go_ret;exact⟨by simp,a.out⟩
theorem aR9 (c:Chg) (w:World) :
 bJ prog 213 #[aD8 c] w fun e w'=>e= .returned (.tuple #[aGb c c.had c.old,c.had])/\bH w w w':=by
 obtain⟨t,k,had,⟨g,b,a⟩,f,⟨j,i,h⟩⟩:=c;have d:=hid (fun b a=>aX (aR w b) (by rw[aF];omega) a);unfold aD8 aGb aNa;dsimp only;cases had
 . rw[if_neg (by decide)];go_enter func213,ntmps213
   go_wp2_with fail
   go_returns
   exact⟨rfl,d.out _ _⟩
 . rw[if_pos rfl];go_enter func213,ntmps213
   go_wp2_with fail
   go_returns
   exact⟨rfl,d.out _ _⟩
theorem aNs (c:Chg) (w:World) :
 bJ prog 86 #[aD8 c] w fun e w'=>e= .returned (.tuple #[aGb c c.has c.new,c.has])/\bH w w w':=by
 obtain⟨t,k,f,⟨g,b,a⟩,has,⟨j,i,h⟩⟩:=c;have d:=hid (fun b a=>aX (aR w b) (by rw[aF];omega) a);unfold aD8 aGb aNa;dsimp only;cases has
 . rw[if_neg (by decide)];go_enter func86,ntmps86
   go_wp2_with fail
   go_returns
   exact⟨rfl,d.out _ _⟩
 . rw[if_pos rfl];go_enter func86,ntmps86
   go_wp2_with fail
   go_returns
   exact⟨rfl,d.out _ _⟩
theorem bAn (c:Chg) (w:World) :
 bJ prog 156 #[aD8 c] w fun e w'=>e= .returned (.bool (chgB c))/\bH w w w':=by
 have aj:=fun W=>aR9 c W;have am:=fun W=>aNs c W;have ab:=fun W=>aNj c.table c.key c.old W;have aa:=fun W=>aNj c.table c.key c.new W;have hq:=fun W=>aFr W c.old c.new;have ai:=fun W=>aFr W c.old (0,0,0);have ah:=fun W=>aFr W c.new (0,0,0);obtain⟨y,hy⟩:∃y,decide (c.old=c.new)=y:=⟨_,rfl⟩;obtain⟨z1,a9⟩:∃y,decide (c.old=(0,0,0))=y:=⟨_,rfl⟩;obtain⟨z2,a8⟩:∃y,decide (c.new=(0,0,0))=y:=⟨_,rfl⟩;obtain⟨r1,h1⟩:∃y,rowB c.table c.key c.old=y:=⟨_,rfl⟩;obtain⟨r2,h2⟩:∃y,rowB c.table c.key c.new=y:=⟨_,rfl⟩;have hR:chgB c=(((c.had != c.has) ||(c.had&&!y))&&(c.had&&r1 || !c.had&&z1)&&(c.has&&r2 || !c.has&&z2)):=by unfold chgB aEd;rw[hy,h1,h2,a9,a8]
 rw[hR];rw[hy]at hq;rw[a9]at ai;rw[a8]at ah;rw[h1]at ab;rw[h2]at aa;have aD:=aLp;obtain⟨z,C,a6,a5⟩:=aBp aj am ab aa;clear hR hy h1 h2 a9 a8 aj am ab aa;obtain⟨t,k,av,⟨S,R,Q⟩,ak,⟨O,N,M⟩⟩:=c;unfold aD8 at z C;unfold aGb aNa at z C;unfold aNa at a6 a5;unfold aD8;dsimp only at z C a6 a5 hq ai ah⊢;cases av
 . cases ak
   . simp only[if_false,Bool.false_eq_true]at z C;have U:=aR w (.cells #[t,k,false,S,R,Q,false,O,N,M] 48);have a:=aG w 48 #[t,k,false,S,R,Q,false,O,N,M];obtain⟨n,m,l,j,i,h,g,f,d,b⟩:=a.C10;have V:=hid U;have v:=hid a;clear U a;go_enter func156,ntmps156
     go_wp2_with fail
     refine(z.out _).mono ?_;rintro e T ⟨rfl,J⟩;have r:=aE V.out J;have K:=aR T (.cells #[(),(),(),(),()] 116);have x:=aG T 116 #[(),(),(),(),()];have a:=(v.later J).later K;have q:=aE r K;clear n m l j i h g f d b;obtain⟨n,m,l,j,i,h,g,f,d,b⟩:=a.C10;obtain⟨u,s,B⟩:=aAw x a q;clear x a K q J r v V;go_wp2_with fail
     refine(C.out _).mono ?_;rintro e L ⟨rfl,E⟩;have p:=aE B.out E;have F:=aR L (.cells #[(),(),(),(),()] 116);have D:=aG L 116 #[(),(),(),(),()];have a:=(s.later E).later F;have x:=(u.later E).later F;have o:=aE p F;clear n m l j i h g f d b;obtain⟨n,m,l,j,i,h,g,f,d,b⟩:=a.C10;obtain⟨d0,d1,d2,d3,d4⟩:=x.C5;obtain⟨e0,e1,Z,Y,X⟩:=D.C5;obtain⟨J0,J3,H⟩:=aAw a D o;clear a x D F o E p u s B;go_wp2_with fail
     go_ret;exact⟨rfl,H.out⟩
   . simp only[if_true,if_false,Bool.false_eq_true]at z C;have U:=aR w (.cells #[t,k,false,S,R,Q,true,O,N,M] 48);have a:=aG w 48 #[t,k,false,S,R,Q,true,O,N,M];obtain⟨n,m,l,j,i,h,g,f,d,b⟩:=a.C10;have V:=hid U;have v:=hid a;clear U a;go_enter func156,ntmps156
     go_wp2_with fail
     refine(z.out _).mono ?_;rintro e T ⟨rfl,J⟩;have r:=aE V.out J;have K:=aR T (.cells #[(),(),(),(),()] 116);have x:=aG T 116 #[(),(),(),(),()];have a:=(v.later J).later K;have q:=aE r K;clear n m l j i h g f d b;obtain⟨n,m,l,j,i,h,g,f,d,b⟩:=a.C10;obtain⟨u,s,B⟩:=aAw x a q;clear x a K q J r v V;go_wp2_with fail
     refine(C.out _).mono ?_;rintro e L ⟨rfl,E⟩;have p:=aE B.out E;have F:=aR L (.cells #[t,k,O,N,M] 116);have D:=aG L 116 #[t,k,O,N,M];have a:=(s.later E).later F;have x:=(u.later E).later F;have o:=aE p F;clear n m l j i h g f d b;obtain⟨n,m,l,j,i,h,g,f,d,b⟩:=a.C10;obtain⟨d0,d1,d2,d3,d4⟩:=x.C5;obtain⟨e0,e1,Z,Y,X⟩:=D.C5;obtain⟨J0,J3,H⟩:=aAw a D o;clear a x D F o E p u s B;go_wp2_with fail
     generalize (L.alloc (.cells #[t,k,O,N,M] 116))=w4 at *;refine(a5.out _).mono ?_;rintro e w5 ⟨rfl,P⟩;have G:=aE H.out P;have a:=J0.later P;clear n m l j i h g f d b d0 d1 d2 d3 d4 e0 e1 Z Y X;obtain⟨n,m,l,j,i,h,g,f,d,b⟩:=a.C10;have A:=hid G;clear a P G;cases r2
     case false=>
      cases z1
      case false=>
       go_wp2_with fail
       go_ret;exact⟨rfl,A.out⟩
      case true=>
       go_wp2_with fail
       go_ret;exact⟨rfl,A.out⟩
     cases z1
     case false=>
      go_wp2_with fail
      go_ret;exact⟨rfl,A.out⟩
     go_wp2_with fail
     go_ret;exact⟨rfl,A.out⟩
 . cases ak
   . simp only[if_true,if_false,Bool.false_eq_true]at z C;have U:=aR w (.cells #[t,k,true,S,R,Q,false,O,N,M] 48);have a:=aG w 48 #[t,k,true,S,R,Q,false,O,N,M];obtain⟨n,m,l,j,i,h,g,f,d,b⟩:=a.C10;have V:=hid U;have v:=hid a;clear U a;go_enter func156,ntmps156
     go_wp2_with fail
     refine(z.out _).mono ?_;rintro e T ⟨rfl,J⟩;have r:=aE V.out J;have K:=aR T (.cells #[t,k,S,R,Q] 116);have x:=aG T 116 #[t,k,S,R,Q];have a:=(v.later J).later K;have q:=aE r K;clear n m l j i h g f d b;obtain⟨n,m,l,j,i,h,g,f,d,b⟩:=a.C10;obtain⟨u,s,B⟩:=aAw x a q;clear x a K q J r v V;go_wp2_with fail
     refine(C.out _).mono ?_;rintro e L ⟨rfl,E⟩;have p:=aE B.out E;have F:=aR L (.cells #[(),(),(),(),()] 116);have D:=aG L 116 #[(),(),(),(),()];have a:=(s.later E).later F;have x:=(u.later E).later F;have o:=aE p F;clear n m l j i h g f d b;obtain⟨n,m,l,j,i,h,g,f,d,b⟩:=a.C10;obtain⟨d0,d1,d2,d3,d4⟩:=x.C5;obtain⟨e0,e1,Z,Y,X⟩:=D.C5;obtain⟨J0,J3,H⟩:=aAw a D o;clear a x D F o E p u s B;go_wp2_with fail
     generalize (L.alloc (.cells #[(),(),(),(),()] 116))=w4 at *;refine(a6.out _).mono ?_;rintro e w5 ⟨rfl,P⟩;have G:=aE H.out P;have a:=J0.later P;have D:=J3.later P;clear n m l j i h g f d b d0 d1 d2 d3 d4 e0 e1 Z Y X;obtain⟨n,m,l,j,i,h,g,f,d,b⟩:=a.C10;obtain⟨e0,e1,Z,Y,X⟩:=D.C5;have J0:=hid a;have A:=hid G;clear a D P G;cases r1
     case false=>
      go_wp2_with fail
      go_ret;exact⟨rfl,A.out⟩
     cases z2
     case false=>
      go_wp2_with fail
      go_ret;exact⟨rfl,A.out⟩
     go_wp2_with fail
     go_ret;exact⟨rfl,A.out⟩
   . simp only[if_true]at z C;have U:=aR w (.cells #[t,k,true,S,R,Q,true,O,N,M] 48);have a:=aG w 48 #[t,k,true,S,R,Q,true,O,N,M];obtain⟨n,m,l,j,i,h,g,f,d,b⟩:=a.C10;have V:=hid U;have v:=hid a;clear U a;go_enter func156,ntmps156
     go_wp2_with fail
     refine(z.out _).mono ?_;rintro e T ⟨rfl,J⟩;have r:=aE V.out J;have K:=aR T (.cells #[t,k,S,R,Q] 116);have x:=aG T 116 #[t,k,S,R,Q];have a:=(v.later J).later K;have q:=aE r K;clear n m l j i h g f d b;obtain⟨n,m,l,j,i,h,g,f,d,b⟩:=a.C10;obtain⟨u,s,B⟩:=aAw x a q;clear x a K q J r v V;go_wp2_with fail
     refine(C.out _).mono ?_;rintro e L ⟨rfl,E⟩;have p:=aE B.out E;have F:=aR L (.cells #[t,k,O,N,M] 116);have D:=aG L 116 #[t,k,O,N,M];have a:=(s.later E).later F;have x:=(u.later E).later F;have o:=aE p F;clear n m l j i h g f d b;obtain⟨n,m,l,j,i,h,g,f,d,b⟩:=a.C10;obtain⟨d0,d1,d2,d3,d4⟩:=x.C5;obtain⟨e0,e1,Z,Y,X⟩:=D.C5;obtain⟨J0,J3,H⟩:=aAw a D o;clear a x D F o E p u s B;cases y
     case true=>
      go_wp2_with fail
      go_ret;exact⟨rfl,H.out⟩
     go_wp2_with fail
     generalize (L.alloc (.cells #[t,k,O,N,M] 116))=w4 at *;refine(a6.out _).mono ?_;rintro e w5 ⟨rfl,P⟩;have G:=aE H.out P;have a:=J0.later P;have D:=J3.later P;clear n m l j i h g f d b d0 d1 d2 d3 d4 e0 e1 Z Y X;obtain⟨n,m,l,j,i,h,g,f,d,b⟩:=a.C10;obtain⟨e0,e1,Z,Y,X⟩:=D.C5;have J0:=hid a;have A:=hid G;clear a D P G;cases r1
     case false=>
      go_wp2_with fail
      go_ret;exact⟨rfl,A.out⟩
     go_wp2_with fail
     refine(a5.out _).mono ?_;rintro e w6 ⟨rfl,b6⟩;have ao:=hid (aE A.out b6);clear b6 n m l j i h g f d b e0 e1 Z Y X;cases r2
     case false=>
      go_wp2_with fail
      go_ret;exact⟨rfl,ao.out⟩
     go_wp2_with fail
     go_ret;exact⟨rfl,ao.out⟩
variable {l:List Chg} {k:Nat}
def aV1 (l:List Chg) (k:Nat):Bool:=aEy (-1) 0 (l.take k)
theorem aY8 {c:Chg} (h:chgB c=true):0<=c.table/\1<=c.key:=by
 unfold chgB aEd rowB at h;obtain⟨t,k,b,d,a,new⟩:=c;dsimp only at h⊢;cases b <;> cases a <;> simp[aU,decide_eq_true_eq]at h <;> omega
theorem aV2 (t k:Int) (a:List Chg) (p c:Chg):aEy t k (a++[p]++[c])=(aEy t k (a++[p])&&(chgB c&&!(decide (c.table<p.table) || decide (c.table=p.table)&&decide (c.key<=p.key)))):=by
 rw[List.append_assoc]
 show aEy t k (a++p ::[c])=_
 rw[aQq];simp[aEy]
theorem aG2 (t k:Int):∀(a b:List Chg),aEy t k (a++b)=true->aEy t k a=true
 | [],_,_=>rfl
 | c :: a,b,h=>by
   rw[List.cons_append,aHu]at h;rw[aHu];simp only[aU]at h⊢;exact⟨h.1,aG2 _ _ a b h.2⟩
theorem aL0 {x:Chg} (h:l[0]? =some x):aV1 l 1=chgB x:=by
 obtain⟨e,d⟩:=aN.1 h;unfold aV1;rw[aW,List.take_zero,h]
 show aEy (-1) 0 [x]=chgB x
 rw[aHu];cases a:chgB x with
 | false=>rfl
 | true=>
   obtain⟨p,_⟩:=aY8 a;have c:decide (x.table< -1)=false:=by simp;omega
   have b:decide (x.table= -1)=false:=by simp;omega
   rw[c,b];rfl
theorem aO2 {p x:Chg} (hp:l[k]? =some p) (hx:l[k+1]? =some x):aV1 l (k+2)=(aV1 l (k+1)&&(chgB x&&!(decide (x.table<p.table) || decide (x.table=p.table)&&decide (x.key<=p.key)))):=by
 unfold aV1;rw[aW (i:=k+1),hx,aW (i:=k),hp];exact aV2 _ _ _ _ _
theorem aZj (h:l.length<=k):aV1 l k=aEy (-1) 0 l:=by unfold aV1;rw[bC h]
theorem aL1 (h:aV1 l k=false):aEy (-1) 0 l=false:=by
 cases a:aEy (-1) 0 l with
 | false=>rfl
 | true=>
   rw[<-List.take_append_drop k l]at a;have:=aG2 _ _ _ _ a;unfold aV1 at h;rw[h]at this;cases this
theorem bAi (p:Int) (A:Option Addr) (c:Nat) (l:List Chg) (w:World) (hv:aCc w (.slice A l.length c) l) :
 bJ prog 85 #[aQy p (.slice A l.length c)] w fun e w'=>e= .returned (.bool (recB ⟨p,l⟩))/\bH w w w':=by
 obtain⟨y1,H⟩:∃y,(decide (1<=p)&&decide (p<=10000))=y:=⟨_,rfl⟩;obtain⟨V,G⟩:∃y,(decide ((1:Int)<=(l.length:Nat))&&decide (((l.length:Nat):Int)<=8))=y:=⟨_,rfl⟩;obtain⟨R,hR⟩:=ex_ (aEy (-1) 0 l)
 have t:recB ⟨p,l⟩=(y1&&V&&R):=by
  rw[<-H,<-G,hR];have S:decide (1<=l.length)=decide ((1:Int)<=(l.length:Nat)):=by congr 1;simp;omega
  have e2:decide (l.length<=8)=decide (((l.length:Nat):Int)<=8):=by congr 1;simp;omega
  unfold recB;dsimp only;rw[S,e2]
 rw[t];have E:=fun W=>aC9 p 1 10000 W;have D:=fun W=>aC9 (l.length:Nat) 1 8 W;rw[H]at E;rw[G]at D;have H1:=hid E;have H2:=hid D
 have v:V=true->1<=l.length/\l.length<=8:=by
  intro e;rw[e]at G;simp only[aU,decide_eq_true_eq]at G;omega
 obtain⟨B,HR,HV⟩:=aAw v hR hv;unfold aQy;have A0:=hid (aR w (.cells #[p,.slice A l.length c] 51));have d:=aG w 51 #[p,.slice A l.length c];obtain⟨p0,O⟩:=d.C2;have KK:=hid d;clear t H G E D v hR hv d;go_enter func85,ntmps85
 go_wp2_with fail
 refine(H1.out _).mono ?_;rintro e w1 ⟨rfl,rfl⟩;cases y1
 . go_wp2_with fail
   go_ret;exact⟨rfl,A0.out⟩
 go_wp2_with fail
 refine(H2.out _).mono ?_;rintro e w2 ⟨rfl,rfl⟩;cases V
 . go_wp2_with fail
   go_ret;exact⟨rfl,A0.out⟩
 obtain⟨l1,l8⟩:=B.out rfl;go_wp2_with fail
 generalize w.alloc (.cells #[p,.slice A l.length c] 51)=w0 at *;clear p0 O B;go_loopw [3] (fun iv wr=>∃k:Nat,k<=l.length/\iv= .int .i64 k/\BlkIs wr w 51 [p,.slice A l.length c]/\Hid (aV1 l k=true)/\bH w w wr) (fun iv _=>l.length-(intOf iv).toNat)
 case atStart=>exact⟨0,by omega,rfl,KK.out,hid rfl,A0.out⟩
 case round=>
  obtain⟨k,hk,rfl,hL,HA,P⟩:=hrel;have O:=hL.c1;by_cases Q:k<l.length
  . have H:decide (k<l.length)=true:=by simpa using Q
    obtain⟨x,C⟩:∃x,l[k]? =some x:=⟨_,aT Q⟩;obtain⟨A',c',hv,hc,J⟩:=HV.out;injection hv with S e2 e3
    subst S e3;obtain⟨g,o,rfl,hg,J⟩:=J (by omega);have hJ:=hid J;have a:∀(i:Nat) u,(chgCells x)[i]? =some u->wr.cell? (g,o+k*10+i)=some u:=fun i u hu=>(P.cell (p:=⟨g,o+k*10+i,none⟩) hg).trans (J k x C i u hu);obtain⟨c0,E,D,c3,c4,c5,c6,c7,c8,c9⟩:=aQn a;have q0:(0:Int)<=(k:Int):=by omega
    have q1:(k:Int)<(l.length:Int):=by omega
    have a1:=aR wr (.cells x 48);have F:=aG wr 48 x;have d:=hL.later a1;obtain⟨d0,d1,d2,d3,d4,d5,d6,d7,d8,d9⟩:=F.C10;have p2:=d.c1;obtain⟨HX,aa,r,ab⟩:=aBp C F d (aE P a1);clear a J C F d a1 hL P;go_wp2_with fail
    generalize wr.alloc (.cells x 48)=w4 at *;refine(bAn x _).mono ?_;rintro e X ⟨rfl,T⟩;have F:=aa.later T;have d:=r.later T;have f:=aE ab.out T;clear c0 E D c3 c4 c5 c6 c7 c8 c9 d0 d1 d2 d3 d4 d5 d6 d7 d8 d9 p2 O;obtain⟨r1,b⟩:∃y,chgB x=y:=⟨_,rfl⟩;rw[b];cases r1
    . have j:R=false:=by
       rw[HR.out];refine aL1 (k:=k+1) ?_
       match k,HX.out with
       | 0,C=>rw[aL0 C,b]
       | k+1,C=>
         obtain⟨pc,a3⟩:∃y,l[k]? =some y:=⟨_,aT (by omega)⟩;rw[aO2 a3 C,b];simp
      subst j;clear b;go_wp2_with fail
      go_ret;exact⟨rfl,f⟩
    have N:=hid b;clear b;cases k with
    | zero=>
      go_wp2_with fail
      exact⟨⟨1,by omega,by go_num,d,hid (by rw[aL0 HX.out];exact N.out),f⟩,by simp[intOf];omega⟩
    | succ k=>
      obtain⟨y,Z⟩:∃y,l[k]? =some y:=⟨_,aT (by omega)⟩;have n:=aO2 Z HX.out;rw[HA.out,N.out,Bool.true_and,Bool.true_and]at n;have a:∀(i:Nat) u,(chgCells y)[i]? =some u->X.cell? (g,o+k*10+i)=some u:=fun i u hu=>(f.cell (p:=⟨g,o+k*10+i,none⟩) hg).trans (hJ.out k y Z i u hu);obtain⟨c0,E,D,c3,c4,c5,c6,c7,c8,c9⟩:=aQn a;have O:=d.c1;have s0:(0:Int)<=(k:Int):=by omega
      have s1:(k:Int)<(l.length:Int):=by omega
      have s2:decide ((0:Int)<((k+1:Nat):Int))=true:=by simp only[decide_eq_true_eq];omega
      have s3:IntKind.i64.wrap (((k+1:Nat):Int)-1)=(k:Int):=by
       rw[show((k+1:Nat):Int)-1=(k:Int) by omega];rw[IntKind.wrap_i64];omega
      have U:=aR X (.cells y 48);have K2:=aG X 48 y;have L:=F.later U;have M:=d.later U;have K:=aE f U;obtain⟨d0,d1,d2,d3,d4,d5,d6,d7,d8,d9⟩:=L.C10;obtain⟨e0,S,e2,e3,e4,e5,e6,e7,e8,e9⟩:=K2.C10;obtain⟨y3,t3⟩:∃z,decide (x.table<y.table)=z:=⟨_,rfl⟩;obtain⟨y4,Y⟩:∃z,decide (x.table=y.table)=z:=⟨_,rfl⟩;obtain⟨y5,t5⟩:∃z,decide (x.key<=y.key)=z:=⟨_,rfl⟩
      have t6:(y.table== x.table)=y4:=by
       rw[<-Y];by_cases h:x.table=y.table
       . rw[decide_eq_true h,h];simp
       . rw[decide_eq_false h];simpa using fun e=>h e.symm
      rw[t3,Y,t5]at n;obtain⟨q,r,s⟩:=aAw n M K;clear n a Z F d K2 L M U f K Y T;have m:=hid (show aV1 l (k+2)=false->R=false from fun e=>by rw[HR.out];exact aL1 e);cases y3
      case true=>
       have j:R=false:=m.out (by rw[q.out];rfl);subst j;go_wp2_with fail
       go_ret;exact⟨rfl,s.out⟩
      cases y4
      case false=>
       go_wp2_with fail
       exact⟨⟨k+2,by omega,by go_num,r.out,hid (by rw[q.out];rfl),s.out⟩,by simp[intOf];omega⟩
      cases y5
      case true=>
       have j:R=false:=m.out (by rw[q.out];rfl);subst j;go_wp2_with fail
       go_ret;exact⟨rfl,s.out⟩
      go_wp2_with fail
      exact⟨⟨k+2,by omega,by go_num,r.out,hid (by rw[q.out];rfl),s.out⟩,by simp[intOf];omega⟩
  . have H:decide (k<l.length)=false:=by simpa using Q
    have hr:R=true:=by
     rw[HR.out,<-aZj (Nat.not_lt.1 Q)];exact HA.out
    subst hr;go_wp2_with fail
    go_ret;exact⟨rfl,P⟩
theorem aLs {s:StT} (g:GoodS s) {r:Rec} (hf:aFg s r=true) (k:Nat) :
 SortS ((r.chs.take k).foldl aBs s.rows)/\aIq ((r.chs.take k).foldl aBs s.rows)/\((r.chs.take k).foldl aBs s.rows).length<=2008:=by
 obtain⟨a,n,f,m⟩:=aB7 hf;have d:aEy (-1) 0 (r.chs.take k)=true:=aG2 _ _ _ (r.chs.drop k) (by rw[List.take_append_drop];exact aEg a)
 have i:(r.chs.take k).all (aEl s.rows)=true:=by
  rw[List.all_eq_true]at f⊢;exact fun x c=>f x (List.mem_of_mem_take c)
 refine⟨SortS.apps _ g.sort,fun x c=>?_,?_⟩
 . have h:=aHv d g.rows x c;unfold rowB at h;simp only[aU,decide_eq_true_eq]at h;unfold In64;omega
 . have e:=aM5 g.sort d i;have b:=(aD4 (r.chs.take k)).2
   have l:r.chs.length<=8:=by
    unfold recB at a;simp only[aU,decide_eq_true_eq]at a;exact a.1.2.2
   have j:=g.small;rw[List.length_take]at b;omega
theorem aIb {l:List Chg} {k:Nat} {x:Chg} (hx:l[k]? =some x) (L:List Rw):(l.take (k+1)).foldl aBs L=aBs ((l.take k).foldl aBs L) x:=by
 rw[aW,hx,List.foldl_append];rfl
theorem Only.of_turned {w w':World} {m:Nat} (h:w.mapTurned w' m):Only (fun j=>j=m) w w':=Only.grown h.grown (fun _ e=>(Option.some.inj e).symm)
def bm (b m k:Nat):Prop:=k=b\/k=m
theorem aR4 (b m:Nat) (s:StT) (p:Int) (A:Option Addr) (c:Nat) (l:List Chg) (w:World) (hS:StAt w b m s) (g:GoodS s) (hp1:0<=s.pos) (hp2:s.pos<=100000) (hv:aCc w (.slice A l.length c) l) (hA:∀a,A=some a->a.block≠m) (hf:aFg s ⟨p,l⟩=true) :
 bJ prog 54 #[.pointer (some (b,0)),aQy p (.slice A l.length c)] w fun e w'=>e= .returned (.int .i64 0)/\StAt w' b m ⟨l.foldl aBs s.rows,p⟩/\Only (bm b m) w w':=by
 have B:=Below.alloc1 w (.cells #[p,.slice A l.length c] 51);have K0:=aG w 51 #[p,.slice A l.length c];have y:=bBo b m s p A c l _ (hS.below B) g hp1 hp2 (hv.below B);rw[hf]at y;have D:=fun k=>aLs g hf k;dsimp only at D;have T:=aJb (aEg (aB7 hf).1);dsimp only at T
 have aS:l.length<=8:=by
  have H:=(aB7 hf).1;unfold recB at H;simp only[aU,decide_eq_true_eq]at H;exact H.1.2.2
 unfold aQy at y⊢;obtain⟨HF,M,aB,HS,HV,HK,aC,aD,ae⟩:=bBf y D T (hS.below B) (hv.below B) K0 B hA (And.intro hS.blk.lt (And.intro hS.map.lt hS.ne));clear y B hS g hv hf D T K0 hA;obtain⟨N,hN⟩:=ex_ w.heap.size;clear hN;go_enter func54,ntmps54
 go_wp2_with fail
 generalize ar:w.alloc (.cells #[p,.slice A l.length c] 51)=w0 at *;clear ar;refine(HF.out).mono ?_;rintro e w1 ⟨rfl,b1⟩;have C:=hid (HS.below b1);have V:=HK.later b1;have az:=hid (HV.below b1);have HO:=hid (aE aC.out b1);have c1:=V.c1;have aA:=hid V;clear V b1 HF HS HK HV;go_wp2_with fail
 clear c1;go_loopw [21] (fun iv wr=>∃k:Nat,k<=l.length/\iv= .int .i64 k/\Hid (MapAt prog 207 wr m ((l.take k).foldl aBs s.rows))/\Hid (Only (fun j=>j=m) w1 wr)) (fun iv _=>l.length-(intOf iv).toNat)
 case atStart=>exact⟨0,by omega,rfl,hid C.map,hid (Only.refl _ _)⟩
 case round=>
  obtain⟨k,hk,rfl,HM,HB⟩:=hrel;by_cases H:k<l.length
  case pos=>
   obtain⟨⟨f,h,q,⟨L,K,J⟩,G,⟨v,t,r⟩⟩,hx⟩:∃x,l[k]? =some x:=⟨_,aT H⟩;obtain⟨R,Q⟩:=aVq (aB.out _ (bE hx));dsimp only at R Q;obtain⟨A',c',hv,hc,hj⟩:=az.out;injection hv with e1 e2 e3
   subst e1 e3;obtain⟨g,o,rfl,hg,hj⟩:=hj (by omega);have au:g≠m:=aD.out _ rfl;have F:∀(i:Nat) u,(chgCells ⟨f,h,q,(L,K,J),G,(v,t,r)⟩)[i]? =some u->wr.cell? (g,o+k*10+i)=some u:=fun i u Z=>(HB.at_ hg au).trans (hj k _ hx i u Z);obtain⟨c0,c1,c2,c3,c4,c5,c6,c7,c8,c9⟩:=aQn F;have q0:(0:Int)<=(k:Int):=by omega
   have q1:(k:Int)<(l.length:Int):=by omega
   have t1:decide (k<l.length)=true:=by simpa using H
   have HX:=hid (And.intro hx (And.intro R Q));have z:=fun W=>aR2 ⟨f,h,q,(L,K,J),G,(v,t,r)⟩ W;unfold aD8 at z;dsimp only at z;have O:=hid z;clear F hj hx R Q H z;go_wp2_with fail
   have a5:bH wr wr ((wr.alloc (.cells (chgCells ⟨f,h,q,(L,K,J),G,(v,t,r)⟩).toArray 48)).alloc (.cells #[f,h] 207)):=aX (Below.alloc1 _ _) (by rw[aF];omega) _;have K5:BlkIs ((wr.alloc (.cells (chgCells ⟨f,h,q,(L,K,J),G,(v,t,r)⟩).toArray 48)).alloc (.cells #[f,h] 207)) (wr.heap.size+1) 207 [f,h]:=aAn _ _ _ (by rw[aF]);unfold chgCells at a5 K5;dsimp only at a5 K5;generalize (wr.alloc (.cells _ 48)).alloc (.cells _ 207)=w5 at *;refine(O.out w5).mono ?_;rintro e w6 ⟨rfl,b6⟩;have a6:=aE a5 b6;have K6:=K5.later b6;clear K5 b6 a5 c0 c1 c2 c3 c4 c5 c6 c7 c8 c9 O;cases G
   case true=>
    have E:aGb ⟨f,h,q,(L,K,J),true,(v,t,r)⟩ true (v,t,r)=rwV ⟨f,h,v,t,r⟩:=rfl;rw[E];unfold rwV;dsimp only;clear E;go_wp2_with fail
    have X:=aX a6 a6.size (.cells #[f,h,v,t,r] 116);have K7:=K6.alloc (.cells #[f,h,v,t,r] 116);have K8:=aG w6 116 #[f,h,v,t,r];generalize S:w6.alloc (.cells _ 116)=w7 at *;clear S;have Y:Only (fun j=>j=m) w1 w7:=HB.trans (bD X);have M7:MapAt prog 207 w7 m ((l.take k).foldl aBs s.rows):=HM.block (X.block m HM.lt);have B7:=C.blk.only Y C.ne;obtain⟨p1,p2,p3⟩:=M.out k;obtain⟨wu,Z,P,tu⟩:=MapAt.put (w:=w7.drew) aSs (M7.block rfl) aLl p1 p2 (Nat.lt_of_le_of_lt p3 (by unfold maxLen;omega)) ⟨f,h,v,t,r⟩ HX.2.1 HX.2.2;have d:=aIb HX.1 s.rows;have n:aBs ((l.take k).foldl aBs s.rows) ⟨f,h,q,(L,K,J),true,(v,t,r)⟩=aS8 ((l.take k).foldl aBs s.rows) ⟨f,h,v,t,r⟩:=rfl;rw[n]at d;rw[<-d]at P;have MU:=hid P;have OU:=hid (Y.trans (Only.trans (bD (bB (aO _ _))) (Only.of_turned tu)));have u0:=B7.c0;obtain⟨u1,u2⟩:=K7.C2;obtain⟨u3,u4,u5,u6,u7⟩:=K8.C5;unfold idV rwV at Z;dsimp only at Z;clear a6 X K6 K7 K8 Y M7 B7 p1 p2 p3 P tu d n;go_region
    clear u0 u1 u2 u3 u4 u5 u6 u7;go_wp2_with fail
    exact⟨⟨k+1,by omega,by go_num,MU,OU⟩,by simp[intOf];omega⟩
   case false=>
    have E:aGb ⟨f,h,q,(L,K,J),false,(v,t,r)⟩ false (v,t,r)= .agg #[(),(),(),(),()]:=rfl;rw[E];clear E;go_wp2_with fail
    have X:=aX a6 a6.size (.cells #[(),(),(),(),()] 116);have K7:=K6.alloc (.cells #[(),(),(),(),()] 116);generalize S:w6.alloc (.cells _ 116)=w7 at *;clear S;have Y:Only (fun j=>j=m) w1 w7:=HB.trans (bD X);have M7:MapAt prog 207 w7 m ((l.take k).foldl aBs s.rows):=HM.block (X.block m HM.lt);have B7:=C.blk.only Y C.ne;obtain⟨p1,p2,p3⟩:=M.out k;obtain⟨wu,Z,P,tu⟩:=MapAt.del (w:=w7.drew) aSs (M7.block rfl) aLl p1 p2 f h HX.2.1 HX.2.2 0;have d:=aIb HX.1 s.rows;have n:aBs ((l.take k).foldl aBs s.rows) ⟨f,h,q,(L,K,J),false,(v,t,r)⟩=aSy ((l.take k).foldl aBs s.rows) f h:=rfl;rw[n]at d;rw[<-d]at P;have MU:=hid P;have OU:=hid (Y.trans (Only.trans (bD (bB (aO _ _))) (Only.of_turned tu)));have u0:=B7.c0;obtain⟨u1,u2⟩:=K7.C2;unfold idV at Z;clear a6 X K6 K7 Y M7 B7 p1 p2 p3 P tu d n;go_region
    clear u0 u1 u2;go_wp2_with fail
    exact⟨⟨k+1,by omega,by go_num,MU,OU⟩,by simp[intOf];omega⟩
  case neg=>
   have t1:decide (k<l.length)=false:=by simpa using H
   have aa:l.take k=l:=bC (by omega);rw[aa]at HM;have U:b≠m:=ae.2.2;have Bx:=C.blk.only HB.out U;have Kx:=aA.only HB.out (fun e=>by have:=ae.2.1;omega);have x0:=Kx.c0;have x1:=Bx.c1;have f1:=Bx.frozen 1;clear H aa;go_wp2_with fail
   go_ret;refine⟨rfl,⟨Bx.set 1 (.int .i64 p),HM.block (Below.heap_setCell _ _ _ _ (fun e=>U e.symm)),U⟩,?_⟩;refine Only.trans (bD HO.out) (Only.trans (HB.mono fun k e=>Or.inr e) (Only.setCell _ _ _ (Or.inl rfl)))
end
end Go.Proofs.YtmhpfoicloojcaaGreatDoor
