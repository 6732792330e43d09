/- Walks: From, Touches, Patch, Start. -/
import Derived.Test.YtmhpfoicloojcaaGreatDoorZbo
set_option linter.all false
open Go.Value renaming oneCell'→aR
open Go.RowKit.Below renaming refl→aX,drew→bF
open Nat renaming le_trans→bD,zero_add→bS,le_refl→bV
open List renaming getElem?_eq_some_iff→bE,getElem?_cons_zero→bM,getElem?_toArray→bQ,length_map→bT
open Go.Act renaming put→bG
open Go renaming World→cB,Value→cC,TypeId→cE,Calls→cF
namespace Go.Proofs.YtmhpfoicloojcaaGreatDoor
open Below renaming next→aA,one→aF
open GoT renaming P0→bH,A0→bX,AG→bY,AS→bZ,PG→cA
set_option maxRecDepth 100000
set_option maxHeartbeats 16000000
section
open Go.Proofs.Tryz
open Go Go.RowKit
attribute [local go_sem] Oper.semAt_some
theorem aSd:aM9 193 aJv:=by
 intro q c d f r v W g i l j a;unfold aJv;by_cases h:q.table=q.other
 . rw[if_pos h];refine(aNy q c d f r v W h a).mono ?_;rintro e k ⟨rfl,b⟩;exact⟨v,rfl,a.below b,b⟩
 . rw[if_neg h];exact aNz q c d f r v W h g i j a
structure KindIs (w:cB) (q:Qy) (gt gp:Nat) (cap:Array cC):Prop where
 et:∀args W,(callFunc gt args).run prog W= .ok (.enter gt args) W
 ep:∀args W,(callFunc gp args).run prog W= .ok (.enter gp args) W
 touch:∀(c:Chg) (pb pa:Option Addr) (W:cB),PtrRow W pb (befQ q c)->PtrRow W pa (aftQ q c)->
   cF prog gt #[effV q c pb pa] W fun e w'=>e= .returned (.bool (touchQ q c))/\Below W W w'
 patch:∀(c:Chg) (pb pa:Option Addr) (r:Res) (v:cC) (W:cB),Below w w W->PtrRow W pb (befQ q c)->PtrRow W pa (aftQ q c)->chgB c=true->ResF r->RwsAt W v r.rows->
   cF prog gp (#[effV q c pb pa,resV v r]++cap) W fun e w'=>∃v',e= .returned (.tuple #[resV v' (patK q c r).1,.bool (patK q c r).2])/\RwsAt w' v' (patK q c r).1.rows/\Below W W w'
theorem bDc (args:Array cC) (W:cB):(callFunc 181 args).run prog W= .ok (.enter 181 args) W:=enters_of func181 (by kernel_rfl) rfl args W
theorem bEk (args:Array cC) (W:cB):(callFunc 183 args).run prog W= .ok (.enter 183 args) W:=enters_of func183 (by kernel_rfl) rfl args W
theorem bDa (args:Array cC) (W:cB):(callFunc 231 args).run prog W= .ok (.enter 231 args) W:=enters_of func231 (by kernel_rfl) rfl args W
theorem bEj (args:Array cC) (W:cB):(callFunc 185 args).run prog W= .ok (.enter 185 args) W:=enters_of func185 (by kernel_rfl) rfl args W
theorem bEi (args:Array cC) (W:cB):(callFunc 187 args).run prog W= .ok (.enter 187 args) W:=enters_of func187 (by kernel_rfl) rfl args W
theorem bEh (args:Array cC) (W:cB):(callFunc 190 args).run prog W= .ok (.enter 190 args) W:=enters_of func190 (by kernel_rfl) rfl args W
theorem bEg (args:Array cC) (W:cB):(callFunc 192 args).run prog W= .ok (.enter 192 args) W:=enters_of func192 (by kernel_rfl) rfl args W
theorem bEf (args:Array cC) (W:cB):(callFunc 184 args).run prog W= .ok (.enter 184 args) W:=enters_of func184 (by kernel_rfl) rfl args W
theorem bEe (args:Array cC) (W:cB):(callFunc 193 args).run prog W= .ok (.enter 193 args) W:=enters_of func193 (by kernel_rfl) rfl args W
theorem bC9 (args:Array cC) (W:cB):(callFunc 182 args).run prog W= .ok (.enter 182 args) W:=enters_of func182 (by kernel_rfl) rfl args W
theorem bDb (args:Array cC) (W:cB):(callFunc 186 args).run prog W= .ok (.enter 186 args) W:=enters_of func186 (by kernel_rfl) rfl args W
theorem aUl (q:Qy) (g:GoodQ q) {w:cB} {m g5 g6:Nat} (K:KindsAt w m g5 g6):∃gt gp cap,bA9 g5 g6 q.kind= .agg #[fnV gt,.func (.func gp) #[] cap]/\KindIs w q gt gp cap/\
 ∀W,Below w w W->(Instr.lookup 252 (.map (some m)) (.int .i64 q.kind) false).run prog W= .ok (.agg #[fnV gt,.func (.func gp) #[] cap]) W:=by
 have a:q.kind=1\/q.kind=2\/q.kind=3\/q.kind=4\/q.kind=5\/q.kind=6\/q.kind=7:=by
  have:=g.k1;have:=g.k7;omega
 have s:=fun(W:cB) (h:Below w w W) (k:Int) (v:cC) i (t:Instr.findNow (.int .i64) (.int .i64 k) (kindEs g5 g6).toList 0=some (some (i,v)))=>
  (aDu aFa aFl (show MapKept.IsKey (.int .i64) (.int .i64 k)from rfl) (K.later h).map t).1
 rcases a with a|a|a|a|a|a|a
 . have l:∀c,touchQ q c=aO8 q c:=fun c=>by unfold touchQ;rw[a];rfl
   have n:∀c r,patK q c r=aH7 q c r:=fun c r=>by unfold patK;rw[a];rfl
   refine⟨181,182,#[],by rw[a];rfl,⟨bDc,bC9,fun c b d W e f=>?_,fun c b d r v W h e f p o j=>?_⟩,fun W h=>by rw[a];exact s W h 1 _ 0 rfl⟩
   . rw[l];exact aV4 q c b d W e f
   . rw[n];exact aLg q c b d r v W e f p o j
 . have l:∀c,touchQ q c=aO8 q c:=fun c=>by unfold touchQ;rw[a];rfl
   have n:∀c r,patK q c r=aH7 q c r:=fun c r=>by unfold patK;rw[a];rfl
   refine⟨181,182,#[],by rw[a];rfl,⟨bDc,bC9,fun c b d W e f=>?_,fun c b d r v W h e f p o j=>?_⟩,fun W h=>by rw[a];exact s W h 2 _ 1 rfl⟩
   . rw[l];exact aV4 q c b d W e f
   . rw[n];exact aLg q c b d r v W e f p o j
 . have l:∀c,touchQ q c=aO7 q c:=fun c=>by unfold touchQ;rw[a];rfl
   have n:∀c r,patK q c r=aHd q c r:=fun c r=>by unfold patK;rw[a];rfl
   refine⟨183,184,#[],by rw[a];rfl,⟨bEk,bEf,fun c b d W e f=>?_,fun c b d r v W h e f p o j=>?_⟩,fun W h=>by rw[a];exact s W h 3 _ 2 rfl⟩
   . rw[l];exact aUc q c b d W e f
   . rw[n];exact aPr q c b d r v W e f p o j
 . have l:∀c,touchQ q c=decide (aC7 q c≠aCq q c):=fun c=>by unfold touchQ;rw[a];rfl
   have n:∀c r,patK q c r=aNx q c r:=fun c r=>by unfold patK;rw[a];rfl
   refine⟨185,186,#[],by rw[a];rfl,⟨bEj,bDb,fun c b d W e f=>?_,fun c b d r v W h e f p o j=>?_⟩,fun W h=>by rw[a];exact s W h 4 _ 3 rfl⟩
   . rw[l];exact bAc q c b d W e f
   . rw[n];exact aT1 q c b d r v W e f p o j
 . have l:∀c,touchQ q c=(aO7 q c || decide (aC7 q c≠aCq q c)):=fun c=>by unfold touchQ;rw[a];rfl
   have n:∀c r,patK q c r=aEh ltB q c r:=fun c r=>by unfold patK;rw[a];rfl
   refine⟨187,231,#[.pointer (some (g5,0))],by rw[a];rfl,⟨bEi,bDa,fun c b d W e f=>?_,fun c b d r v W h e f p o j=>?_⟩,fun W h=>by rw[a];exact s W h 5 _ 4 rfl⟩
   . rw[l];exact bA1 q c b d W e f
   . rw[n];exact aT2 g5 q c b d r v W e f o j (K.later h).b5
 . have l:∀c,touchQ q c=(aO7 q c || decide (aC7 q c≠aCq q c)):=fun c=>by unfold touchQ;rw[a];rfl
   have n:∀c r,patK q c r=aEh gtB q c r:=fun c r=>by unfold patK;rw[a];rfl
   refine⟨190,231,#[.pointer (some (g6,0))],by rw[a];rfl,⟨bEh,bDa,fun c b d W e f=>?_,fun c b d r v W h e f p o j=>?_⟩,fun W h=>by rw[a];exact s W h 6 _ 5 rfl⟩
   . rw[l];exact bA2 q c b d W e f
   . rw[n];exact aT3 g6 q c b d r v W e f o j (K.later h).b6
 . have l:∀c,touchQ q c=(aO8 q c || decide (c.table=q.other)):=fun c=>by unfold touchQ;rw[a];rfl
   have n:∀c r,patK q c r=aJv q c r:=fun c r=>by unfold patK;rw[a];rfl
   refine⟨192,193,#[],by rw[a];rfl,⟨bEg,bEe,fun c b d W e f=>?_,fun c b d r v W h e f p o j=>?_⟩,fun W h=>by rw[a];exact s W h 7 _ 6 rfl⟩
   . rw[l];exact aX0 q c b d W e f
   . rw[n];exact aSd q c b d r v W e f p o j
theorem aUk (q:Qy) (g:GoodQ q) {W:cB} {m g5 g6:Nat} (h:W.heap[m]? =some (.map (kindEs g5 g6) 7)):(Instr.lookup 252 (.map (some m)) (.int .i64 q.kind) false).run prog W= .ok (bA9 g5 g6 q.kind) W:=by
 have a:q.kind=1\/q.kind=2\/q.kind=3\/q.kind=4\/q.kind=5\/q.kind=6\/q.kind=7:=by
  have:=g.k1;have:=g.k7;omega
 have b:=fun(k:Int) (v:cC) i (c:Instr.findNow (.int .i64) (.int .i64 k) (kindEs g5 g6).toList 0=some (some (i,v)))=>
  (aDu aFa aFl (show MapKept.IsKey (.int .i64) (.int .i64 k)from rfl) h c).1
 rcases a with a|a|a|a|a|a|a
 . rw[a];exact b 1 _ 0 rfl
 . rw[a];exact b 2 _ 1 rfl
 . rw[a];exact b 3 _ 2 rfl
 . rw[a];exact b 4 _ 3 rfl
 . rw[a];exact b 5 _ 4 rfl
 . rw[a];exact b 6 _ 5 rfl
 . rw[a];exact b 7 _ 6 rfl
theorem aNl (a b:cC) (W:cB):(Instr.field 251 (.agg #[a,b]) 0).run prog W= .ok a W:=by
 simp[Instr.field,run_underlying underlying251,go_sem,asAgg,Result.andThen]
theorem aNk (a b:cC) (W:cB):(Instr.field 251 (.agg #[a,b]) 1).run prog W= .ok b W:=by
 simp[Instr.field,run_underlying underlying251,go_sem,asAgg,Result.andThen]
end
section
open Go.Proofs.Tryz
open Go Go.RowKit Go.Shelf
attribute [local go_sem] Oper.semAt_some
theorem aH0 (q:Qy) (g:GoodQ q) (c:Chg) (hc:chgB c=true) (w:cB):cF prog 73 #[qV q,aD8 c] w fun e w'=>e= .returned (.bool (touchQ q c))/\Below w w w':=by
 have E:=fun W=>aCk q g W;have j:=fun W=>aKh c W;rw[hc]at j;obtain⟨U,S,V,T⟩:=aBp (fun W=>aKf q c W) (fun(W:cB)=>E W) j g;clear E j g hc;obtain⟨f,d⟩:=ex_ ((w.alloc (.cells q 29)).alloc (.cells c 48));have G:Below w w f:=by rw[d];exact((aX w.heap.size w).alloc (bV _) _).alloc (by simp) _
 have D:BlkIs f w 29 q:=by rw[d];exact(aAp _ _ _ rfl rfl).alloc _
 have F:BlkIs f (w.heap.size+1) 48 c:=by rw[d];exact aAp _ _ _ (by simp)
 obtain⟨HZ,H,L,B,p⟩:=aDs (show f.heap.size=w.heap.size+2 by rw[d];simp) d G D F;clear d G D F;unfold qV aD8 at *;have N:=aNl;have M:=aNk;go_enter func73,ntmps73
 go_upto_region 1 with fail
 rw[<-H.out];have i:=hid (fun(W:cB) (y:Below f f W)=>(show(fun W=>BlkIs W w 29 q/\BlkIs W (w.heap.size+1) 48 c/\W.cell? (w,0)=some (.int .i64 q.kind)) W from⟨B.later y,p.later y,(B.later y).cell 0⟩));have Z:Below f f f.drew:=bF (aX _ _);clear H B p;refine aIu (.take 0 (.step 1 (.take 2 (.take 3 (.step 4 (.take 5 (.take 6 (.take 8 (.take 9 (.take 12 (.take 13 (.step 7 (.take 10 (.take 11 (.step 14 (.step 15 (.take 16 (.take 17 .done)))))))))))))))))) i Z ?_
 repeat (first
  | (refine aAd.A0 ?_ (hy:=by intro w a;exact aAe 29 _ rfl _ rfl 29 q (0,0) _ a.1 underlying29 rfl Tryz.infoQry7))
  | (refine aAd.A0 ?_ (hy:=by intro w a;exact aAe 48 _ rfl _ rfl 48 c (0,0) _ a.2.1 underlying48 rfl Tryz.infoChg10))
  | (refine aAd.AG ?_ (hy:=by intro w a;exact aAe 29 _ rfl _ rfl 29 q (0,0) _ a.1 underlying29 rfl Tryz.infoQry7))
  | (refine aAd.AG ?_ (hy:=by intro w a;exact aAe 48 _ rfl _ rfl 48 c (0,0) _ a.2.1 underlying48 rfl Tryz.infoChg10))
  | refine aAd.A0 ?_|refine aAd.AG ?_|refine aAd.AS ?_|with_reducible apply aAd.step|with_reducible apply aAd.fork|with_reducible apply aAd.fork3|refine bX ?_|refine bY ?_|refine bZ ?_
  | (first
     | refine bH ?_|refine cA ?_
     intro K o;go_simp
     first
     | (go_at_call 47;(with_reducible refine(S.out _).mono ?_);rintro e s ⟨rfl,b⟩;replace Z:=aA Z b;clear b;go_wp2_with fail)
     | (go_at_call 71;(with_reducible refine(V.out _).mono ?_);rintro e s ⟨rfl,b⟩;replace Z:=aA Z b;clear b;go_wp2_with fail)
     | (go_at_call 132;(with_reducible refine(aQ7 _).mono ?_);rintro e t ⟨m,g5,X,rfl,C,b⟩;replace Z:=aA Z b;clear b;go_wp2_with fail)
     | fail
     refine o.out _ _ ?_ (fun _=>?_)
     . exact i.out _ Z
     clear o K;try simp only[bG,sx1,sx2,sx3]))
 obtain⟨gt,R,z,-,x,n⟩:=aUl q T.out C;have O:=x.et;have J:=hid (fun c u v W Q P=>x.touch c u v W Q P);have r:=hid n;clear x C n;unfold fnV at r;refine aAd.grow (fun W=>BlkIs W w 29 q/\BlkIs W (w.heap.size+1) 48 c/\W.cell? (w,0)=some (.int .i64 q.kind)/\(Instr.lookup 252 (.map (some m)) (.int .i64 q.kind) false).run prog W= .ok (.agg #[.func (.func gt) #[] #[],.func (.func R) #[] z]) W) ⟨(i.out _ Z).1,(i.out _ Z).2.1,(i.out _ Z).2.2,r.out _ (aX _ _)⟩ (fun W h=>⟨h.1,h.2.1,h.2.2.1⟩) ?_;have Y:Below t t t:=aX _ _
 repeat (first
  | (refine aAd.A0 ?_ (hy:=by intro w a;exact aAe 29 _ rfl _ rfl 29 q (0,0) _ a.1 underlying29 rfl Tryz.infoQry7))
  | (refine aAd.A0 ?_ (hy:=by intro w a;exact aAe 48 _ rfl _ rfl 48 c (0,0) _ a.2.1 underlying48 rfl Tryz.infoChg10))
  | (refine aAd.AG ?_ (hy:=by intro w a;exact aAe 29 _ rfl _ rfl 29 q (0,0) _ a.1 underlying29 rfl Tryz.infoQry7))
  | (refine aAd.AG ?_ (hy:=by intro w a;exact aAe 48 _ rfl _ rfl 48 c (0,0) _ a.2.1 underlying48 rfl Tryz.infoChg10))
  | refine aAd.A0 ?_|refine aAd.AG ?_|refine aAd.AS ?_|with_reducible apply aAd.step|with_reducible apply aAd.fork|with_reducible apply aAd.fork3|refine bX ?_|refine bY ?_|refine bZ ?_
  | (first
     | refine bH ?_|refine cA ?_
     intro K o;go_simp
     first
     | (go_at_call 133;(with_reducible refine(U.out _).mono ?_);rintro e s ⟨u,v,rfl,k,l,b⟩;replace Z:=aA Z b;replace Y:=aA Y b;clear b;go_wp2_with fail)
     | ((with_reducible refine(J.out c u v _ k l).mono ?_);rintro e s ⟨rfl,b⟩;replace Z:=aA Z b;replace Y:=aA Y b;clear b k l;go_wp2_with fail)
     | fail
     refine o.out _ _ ?_ (fun _=>?_)
     . exact⟨(i.out _ Z).1,(i.out _ Z).2.1,(i.out _ Z).2.2,r.out _ Y⟩
     clear o K;try simp only[bG,sx1,sx2,sx3]))
 refine aAd.fin ?_;clear i r J Y;have A:=hid (L.trans (Z.mono L.size));clear Z;go_wp2_with fail
 go_ret;exact⟨rfl,A.out⟩
variable {w:cB} {v:cC} {xs:List Rw}
theorem Below.fresh {B:Nat} {W:cB} (_:Below B w W) (cs:Array cC) (T:cE):∃w' X,w'=W.alloc (.cells cs T)/\X=W.heap.size/\Below W W w'/\BlkIs w' X T cs.toList/\w'.heap.size=X+1:=
 ⟨_,_,rfl,rfl,aF W _,aAp _ _ _ rfl rfl,by rw[World.size_alloc]⟩
theorem RwsAt.not_small (h:RwsAt w v xs) {k:Nat} {T:cE} {cs:List cC} (hk:BlkIs w k T cs) (h5:cs.length<5):∃A c,v= .slice A xs.length c/\xs.length<=c/\(0<xs.length->∃g o,A=some ⟨g,o,none⟩/\g≠k/\g<w.heap.size/\∀(j:Nat) x,xs[j]? =some x->∀(i:Nat) u,(rwC x)[i]? =some u->w.cell? ⟨g,o+j*5+i,none⟩=some u):=by
 obtain⟨A,c,l,m,a⟩:=h;refine⟨A,c,l,m,fun f=>?_⟩;obtain⟨g,o,n,b,d⟩:=a f;refine⟨g,o,n,fun e=>?_,b,d⟩;subst e;obtain⟨x,a⟩:∃x,xs[0]? =some x:=⟨_,List.getElem?_eq_getElem f⟩;have:=d 0 x a 4 _ rfl;rw[hk.cell]at this;have:=(bE.1 this).1;omega
theorem aBt (h:RwsAt w v xs) {k:Nat} {T:cE} {cs:List cC} (hk:BlkIs w k T cs) (h5:cs.length<5) (ds:Array cC):RwsAt (w.setRow k ds) v xs:=by
 obtain⟨A,c,n,r,d⟩:=h.not_small hk h5;refine⟨A,c,n,r,fun t=>?_⟩;obtain⟨g,o,s,f,l,q⟩:=d t;have e:=setRow_other w k g ds f
 have b:g<(w.setRow k ds).heap.size:=by
  have m:w.heap[g]? =some w.heap[g]:=Array.getElem?_eq_getElem l;rw[<-e]at m;exact(Array.getElem?_eq_some_iff.1 m).1
 exact⟨g,o,s,b,fun j x d i u p=>(World.cell?_of_block (a:=⟨g,o+j*5+i,none⟩) e).trans (q j x d i u p)⟩
theorem aJn (h:RwsAt w v xs) {k:Nat} {T:cE} {cs:List cC} (hk:BlkIs w k T cs) (h5:cs.length<5) (i:Nat) (u:cC):RwsAt (w.setCell (k,i) u) v xs:=by
 obtain⟨A,c,m,q,b⟩:=h.not_small hk h5;refine⟨A,c,m,q,fun s=>?_⟩;obtain⟨g,o,r,d,e,p⟩:=b s;exact⟨g,o,r,by simpa[World.setCell]using e,fun j x b f l n=>(World.cell?_of_block (a:=⟨g,o+j*5+f,none⟩) (heap_setCell_other w ⟨k,i,none⟩ g u d)).trans (p j x b f l n)⟩
theorem aXd (q:Qy) (g:GoodQ q) (c:Chg) (hc:chgB c=true) (r:Res) (hF:ResF r) (v:cC) (w:cB) (hv:RwsAt w v r.rows) :
 cF prog 74 #[qV q,resV v r,aD8 c] w fun e w'=>
  ((∃r' v',aHc q r c=some r'/\e= .returned (.tuple #[resV v' r',true])/\RwsAt w' v' r'.rows)\/(aHc q r c=none/\e= .returned (.tuple #[resV (.slice none 0 0) res0,false])))/\Below w w w':=by
  obtain⟨l,n,u⟩:=r;have ao:=hF.len;obtain⟨A,cc,rfl,-⟩:=hv.form;have a4:=fun W (z:Below w w W)=>aD5 (.slice A l.length cc) l W (aDg (hv.below z)) (by dsimp only at ao;omega);have T:=fun W=>aH0 q g c hc W;have U:=fun W=>aKf q c W;obtain⟨P,hP⟩:=ex_ (patK q c ⟨l,n,u⟩);have S:=hid (show aHc q ⟨l,n,u⟩ c=if touchQ q c then(if P.2 then some P.1 else none)else some ⟨l,n,u⟩ by rw[hP];rfl);have HP:=hid hP;obtain⟨N,hN⟩:=ex_ l.length;dsimp only at *;rw[<-hN]at a4 ao hv⊢;obtain⟨ax,J,aw,HN,HG,aP,aO⟩:=aMz a4 T U hN g hc hF;clear a4 T U hN g hc hF hP hv;obtain⟨wb,HZ,HW,HB,KQ,KR,KC,KT⟩:=bEq w q 29 [.slice A N cc,n,u] 35 c 48 [.slice none 0 0,(),false] 35;generalize touchQ q c=tq at J S;unfold qV aD8 at *;unfold resV;dsimp only;have bg:=aNl;have bf:=aNk;go_enter func74,ntmps74
  go_upto_region 1 with fail
  rw[<-HW.out];have x0:=KR.c0;go_wp2_with fail
  (with_reducible refine(ax.out wb HB.out).mono ?_)
  rintro e w1 ⟨v1,rfl,o1,b1⟩;obtain⟨t,o,rfl,-⟩:=aAa o1;have hz:=HZ.out;have r1:=KR.later b1;have x1:=r1.c0;have x2:w1.frozen? (w.heap.size+1,0)=false:=r1.frozen 0;obtain⟨a7,Q,R,a6,ad⟩:=aDs (r1.set 0 (.slice t N o)) ((KQ.later b1).other (p:=⟨w.heap.size+1,0,none⟩) (by dsimp only;omega) (.slice t N o)) ((KC.later b1).other (p:=⟨w.heap.size+1,0,none⟩) (by dsimp only;omega) (.slice t N o)) ((KT.later b1).other (p:=⟨w.heap.size+1,0,none⟩) (by dsimp only;omega) (.slice t N o)) ((aA HB.out b1).setCell (p:=⟨w.heap.size+1,0,none⟩) (by dsimp only;omega) (.slice t N o));have ov:=aA0 o1 (w.heap.size+1) 0 (.slice t N o) (by omega);rw[HN.out]at ov;have a1:=aA1 ov;rw[<-HN.out]at a1;have aa:=hid a1;clear ov a1 x0 b1 HW ax KR KQ KC KT HB o1 r1 HZ hz;go_upto_region 2 with fail
  generalize w1.setCell (w.heap.size+1,0) (.slice t N o)=w2 at a7 Q R a6 ad aa⊢;clear x1 x2
  go_wp2_with (first
   | (refine wpList_load_row rfl 29 (.tmp 3) rfl (w.heap.size) rfl 29 q (0,0) _ Q.out underlying29 rfl Tryz.infoQry7 ?_)
   | (refine wpList_load_row rfl 48 (.tmp 5) rfl (w.heap.size+1+1) rfl 48 c (0,0) _ R.out underlying48 rfl Tryz.infoChg10 ?_)
   | fail)
  (with_reducible refine(J.out w2).mono ?_)
  rintro e B ⟨rfl,b3⟩;obtain⟨aq,ar,aN,O,az,au⟩:=aIl (a7.later b3) (Q.later b3) (R.later b3) (a6.later b3) (aA ad.out b3) (aa.below b3);clear b3 J a7 Q R a6 ad aa;cases tq
  case false=>
   go_wp2_with (first
    | (refine wpList_load_row rfl 35 (.tmp 4) rfl (w.heap.size+1) rfl 35 #[.slice t N o,n,u] (0,0) _ aq.out underlying35 rfl Tryz.infoRes3 ?_)
    | (refine wpList_store_row rfl 35 (.tmp 6) (.tmp 18) rfl (w.heap.size+1+1+1) #[.slice t N o,n,u] rfl rfl 35 _ O.out Tryz.infoRes3 rfl (by simp[aR]) ?_)
    | fail)
   obtain⟨H,X,VF⟩:=aAw (O.setRow [.slice t N o,n,u]) (below_setRow az.out (show w.heap.size<=w.heap.size+1+1+1 by omega) #[.slice t N o,n,u]) (aBt au.out O.out (by simp) #[.slice t N o,n,u]);generalize B.setRow (w.heap.size+1+1+1) #[.slice t N o,.int .i64 n,.bool u]=wf at H X VF⊢;obtain⟨k0,k1,k2⟩:=H.C3;clear H;refine bodyPost_ret (by simp[results,results74,go_sem,k0,k1,k2];try rfl) rfl ?_;refine⟨.inl ⟨⟨l,n,u⟩,_,S.out,rfl,VF.out⟩,X.out⟩
  case true=>
   go_upto_region 4 with fail
   have s:=hid (fun(W:cB) (z:Below B B W)=>(show(fun W=>BlkIs W w 29 q/\BlkIs W (w.heap.size+1+1) 48 c/\BlkIs W (w.heap.size+1) 35 [.slice t N o,n,u]/\W.cell? (w,0)=some (.int .i64 q.kind)) W from⟨ar.later z,aN.later z,aq.later z,(ar.later z).cell 0⟩));have a9:=hid (fun(W:cB) (z:Below B B W)=>au.below z);have Z:Below B B B.drew:=bF (aX _ _);refine aIu (.take 1 (.take 2 (.take 5 (.take 6 (.take 8 (.fork 0 (.take 3 (.take 4 (.fork 7 (.fork 9 (.take 10 (.take 11 (.take 12 (.step 13 (.step 14 (.take 15 .done)))))) 13 (.step 9 (.take 10 (.take 11 (.take 12 (.step 14 (.take 15 .done))))))) 13 (.step 7 (.step 9 (.take 10 (.take 11 (.take 12 (.step 14 (.take 15 .done)))))))))) 13 (.step 0 (.take 3 (.take 4 (.step 7 (.step 9 (.take 10 (.take 11 (.take 12 (.step 14 (.take 15 .done)))))))))))))))) s Z ?_;obtain⟨wd,ak⟩:=ex_ B.drew;rw[<-ak]at Z⊢;clear ak
   repeat' (first
    | (refine aAd.A0 ?_ (hy:=by intro w a;exact aAe 29 _ rfl _ rfl 29 q (0,0) _ a.1 underlying29 rfl Tryz.infoQry7))
    | (refine aAd.A0 ?_ (hy:=by intro w a;exact aAe 48 _ rfl _ rfl 48 c (0,0) _ a.2.1 underlying48 rfl Tryz.infoChg10))
    | (refine aAd.A0 ?_ (hy:=by intro w a;exact aAe 35 _ rfl _ rfl 35 #[.slice t N o,n,u] (0,0) _ a.2.2.1 underlying35 rfl Tryz.infoRes3))
    | refine aAd.A0 ?_|refine aAd.AG ?_|refine aAd.AS ?_|with_reducible apply aAd.step|with_reducible apply aAd.fork|with_reducible apply aAd.fork3|refine bX ?_|refine bY ?_|refine bZ ?_
    | (first
       | refine bH ?_|refine cA ?_
       intro K F;go_simp
       first
       | (obtain⟨wx,M,x,k,d,y,-⟩:=Below.fresh Z #[.slice none 0 0,(),false] 35;rw[<-x,<-k];have a8:B.heap.size<=M:=(by rw[k];exact Z.size);replace Z:=aA Z d;(try replace f:=f.later d);(try replace i:=i.later d);(try replace j:=j.below d);(try replace Y:=aA Y d);clear d x k)
       | (go_at_call 132;(with_reducible refine(aQ7 _).mono ?_);rintro e wm ⟨m,g5,g6,rfl,kx,d⟩;replace Z:=aA Z d;(try replace y:=y.later d);(try replace f:=f.later d);(try replace i:=i.later d);(try replace j:=j.below d);(try replace Y:=aA Y d);clear d;go_wp2_with fail)
       | fail
       refine F.out _ _ ?_ (fun _=>?_)
       . exact s.out _ Z
       clear F K;try simp only[bG,sx1,sx2,sx3]))
   all_goals (
    obtain⟨gt,gp,bj,am,ki,-⟩:=aUl q HG.out kx;have a3:=fun(W:cB) (z:W.heap[m]? =some (.map (kindEs g5 g6) 7))=>aUk q HG.out z;rw[am]at a3;have aI:=ki.et;have aJ:=ki.ep
    have L:=hid (fun pb pa W v0 z h1 h2 aH=>by
     have:=ki.patch c pb pa ⟨l,n,u⟩ v0 W z h1 h2 aP.out aO.out aH;rw[<-HP.out]at this;exact this)
    obtain⟨ac,HL,HM⟩:=aAw a3 (fun(W:cB) (z:Below wm wm W)=>(kx.later z).map) kx.map;clear ki kx a3 am;unfold fnV at ac;unfold resV at L;dsimp only at L;have ab:=hid L.out;unfold effV at ab;refine aAd.grow (fun W=>BlkIs W w 29 q/\BlkIs W (w.heap.size+1+1) 48 c/\BlkIs W (w.heap.size+1) 35 [.slice t N o,n,u]/\W.cell? (w,0)=some (.int .i64 q.kind)/\W.heap[m]? =some (.map (kindEs g5 g6) 7)) ⟨(s.out _ Z).1,(s.out _ Z).2.1,(s.out _ Z).2.2.1,(s.out _ Z).2.2.2,HL.out _ (aX _ _)⟩ (fun W h=>⟨h.1,h.2.1,h.2.2.1,h.2.2.2.1⟩) ?_;have Y:Below wm wm wm:=aX _ _)
   repeat' (first
    | (refine aAd.A0 ?_ (hy:=by intro w a;exact aAe 29 _ rfl _ rfl 29 q (0,0) _ a.1 underlying29 rfl Tryz.infoQry7))
    | (refine aAd.A0 ?_ (hy:=by intro w a;exact aAe 48 _ rfl _ rfl 48 c (0,0) _ a.2.1 underlying48 rfl Tryz.infoChg10))
    | (refine aAd.A0 ?_ (hy:=by intro w a;exact aAe 35 _ rfl _ rfl 35 #[.slice t N o,n,u] (0,0) _ a.2.2.1 underlying35 rfl Tryz.infoRes3))
    | (refine aAd.A0 ?_ (hy:=by intro w a;have hl:=ac.out w a.2.2.2.2;go_simp;try with_reducible rfl))
    | refine aAd.A0 ?_|refine aAd.AG ?_|refine aAd.AS ?_|with_reducible apply aAd.step|with_reducible apply aAd.fork|with_reducible apply aAd.fork3|refine bX ?_|refine bY ?_|refine bZ ?_
    | (first
       | refine bH ?_|refine cA ?_
       intro K F;go_simp
       first
       | (obtain⟨wx,M,x,k,d,y,-⟩:=Below.fresh Z #[.slice none 0 0,(),false] 35;rw[<-x,<-k];have a8:B.heap.size<=M:=(by rw[k];exact Z.size);replace Z:=aA Z d;(try replace f:=f.later d);(try replace i:=i.later d);(try replace j:=j.below d);(try replace Y:=aA Y d);clear d x k)
       | (go_at_call 133;(with_reducible refine(aw.out _).mono ?_);rintro e wx ⟨pb,pa,rfl,f,i,d⟩;replace Z:=aA Z d;(try replace y:=y.later d);replace Y:=aA Y d;clear d;go_wp2_with fail)
       | ((with_reducible refine(L.out pb pa _ _ Y f i (a9.out _ Z)).mono ?_);rintro e wx ⟨v9,rfl,j,d⟩;replace Z:=aA Z d;(try replace y:=y.later d);(try replace f:=f.later d);(try replace i:=i.later d);(try replace Y:=aA Y d);clear d f i;go_wp2_with fail)
       | ((with_reducible refine(ab.out pb pa _ _ Y f i (a9.out _ Z)).mono ?_);rintro e wx ⟨v9,rfl,j,d⟩;replace Z:=aA Z d;(try replace y:=y.later d);(try replace f:=f.later d);(try replace i:=i.later d);(try replace Y:=aA Y d);clear d f i;go_wp2_with fail)
       | fail
       refine F.out _ _ ?_ (fun _=>?_)
       . exact⟨(s.out _ Z).1,(s.out _ Z).2.1,(s.out _ Z).2.2.1,(s.out _ Z).2.2.2,HL.out _ Y⟩
       clear F K;try simp only[bG,sx1,sx2,sx3]))
   all_goals (
    obtain⟨E,C,rfl,-⟩:=j.form;obtain⟨D,an⟩:=ex_ P.1.rows.length;rw[<-an]at j⊢;clear an)
   repeat' (first
    | (refine aAd.A0 ?_ (hy:=by intro w a;exact aAe 29 _ rfl _ rfl 29 q (0,0) _ a.1 underlying29 rfl Tryz.infoQry7))
    | (refine aAd.A0 ?_ (hy:=by intro w a;exact aAe 48 _ rfl _ rfl 48 c (0,0) _ a.2.1 underlying48 rfl Tryz.infoChg10))
    | (refine aAd.A0 ?_ (hy:=by intro w a;exact aAe 35 _ rfl _ rfl 35 #[.slice t N o,n,u] (0,0) _ a.2.2.1 underlying35 rfl Tryz.infoRes3))
    | refine aAd.A0 ?_|refine aAd.AG ?_|refine aAd.AS ?_|with_reducible apply aAd.step|with_reducible apply aAd.fork|with_reducible apply aAd.fork3|refine bX ?_|refine bY ?_|refine bZ ?_
    | (first
       | refine bH ?_|refine cA ?_
       intro K F;go_simp
       first
       | (obtain⟨wx,M,x,k,d,y,-⟩:=Below.fresh Z #[.slice none 0 0,(),false] 35;rw[<-x,<-k];have a8:B.heap.size<=M:=(by rw[k];exact Z.size);replace Z:=aA Z d;(try replace f:=f.later d);(try replace i:=i.later d);(try replace j:=j.below d);(try replace Y:=aA Y d);clear d x k)
       | fail
       refine F.out _ _ ?_ (fun _=>?_)
       . exact⟨(s.out _ Z).1,(s.out _ Z).2.1,(s.out _ Z).2.2.1,(s.out _ Z).2.2.2,HL.out _ Y⟩
       clear F K;try simp only[bG,sx1,sx2,sx3]))
   all_goals (
    refine bH ?_;intro K F;refine wp_store_row 35 (.tmp 8) (.tmp 30) rfl M #[.slice E D C,P.1.value,P.1.found] rfl rfl 35 _ y Tryz.infoRes3 rfl (by simp[aR]) ?_
    have al:m≠M:=fun e=>by
     subst e;have:=(HL.out _ Y).symm.trans y;simp at this
    have K9:=hid (y.setRow [.slice E D C,P.1.value,P.1.found]);have V9:=hid (aBt j y (by simp) #[.slice E D C,P.1.value,P.1.found]);have V:=below_setRow Z a8 #[.slice E D C,P.1.value,P.1.found];have M9:=(setRow_other wx M m #[.slice E D C,P.1.value,P.1.found] al).trans (HL.out _ Y);refine F.out _ _ ⟨(s.out _ V).1,(s.out _ V).2.1,(s.out _ V).2.2.1,(s.out _ V).2.2.2,M9⟩ (fun _=>?_);clear F K M9 al y j Y Z;generalize wx.setRow M #[.slice E D C,.int .i64 P.1.value,.bool P.1.found]=wy at K9 V9 V⊢;try simp only[bG])
   repeat' (first
    | (refine aAd.A0 ?_ (hy:=by intro w a;exact aAe 29 _ rfl _ rfl 29 q (0,0) _ a.1 underlying29 rfl Tryz.infoQry7))
    | (refine aAd.A0 ?_ (hy:=by intro w a;exact aAe 48 _ rfl _ rfl 48 c (0,0) _ a.2.1 underlying48 rfl Tryz.infoChg10))
    | (refine aAd.A0 ?_ (hy:=by intro w a;exact aAe 35 _ rfl _ rfl 35 #[.slice t N o,n,u] (0,0) _ a.2.2.1 underlying35 rfl Tryz.infoRes3))
    | refine aAd.A0 ?_|refine aAd.AG ?_|refine aAd.AS ?_|with_reducible apply aAd.step|with_reducible apply aAd.fork|with_reducible apply aAd.fork3|refine bX ?_|refine bY ?_
    | (refine bZ ?_))
   all_goals (
    refine aAd.fin ?_;have G:=hid (O.later V);have ay:=hid (aA az.out V);obtain⟨pk,a2⟩:∃b,P.2=b:=⟨_,rfl⟩;rw[a2];have av:=hid a2;clear a2 V s a9 L ab HL ac HM aI aJ;cases pk
    case false=>
     go_wp2_with (first
      | (refine wpList_store_row rfl 35 (.tmp 6) (.tmp 34) rfl (w.heap.size+1+1+1) #[.slice none 0 0,(),false] rfl rfl 35 _ G.out Tryz.infoRes3 rfl (by simp[aR]) ?_)
      | fail)
     have H:=hid (G.setRow [.slice none 0 0,(),false]);have X:=hid (below_setRow ay.out (show w.heap.size<=w.heap.size+1+1+1 by omega) #[.slice none 0 0,(),false]);generalize wy.setRow (w.heap.size+1+1+1) #[.slice none 0 0,.int .i64 0,.bool false]=wf at H X⊢;obtain⟨k0,k1,k2⟩:=H.C3;clear H;refine bodyPost_ret (by simp[results,results74,go_sem,k0,k1,k2];try rfl) rfl ?_;refine⟨.inr ⟨?_,rfl⟩,X.out⟩;rw[S.out,av.out];rfl
    case true=>
     go_wp2_with (first
      | (refine wpList_load_row rfl 35 (.tmp 8) rfl (M) rfl 35 #[.slice E D C,P.1.value,P.1.found] (0,0) _ K9.out underlying35 rfl Tryz.infoRes3 ?_)
      | (refine wpList_store_row rfl 35 (.tmp 6) (.tmp 35) rfl (w.heap.size+1+1+1) #[.slice E D C,P.1.value,P.1.found] rfl rfl 35 _ G.out Tryz.infoRes3 rfl (by simp[aR]) ?_)
      | fail)
     obtain⟨H,X,VF⟩:=aAw (G.setRow [.slice E D C,P.1.value,P.1.found]) (below_setRow ay.out (show w.heap.size<=w.heap.size+1+1+1 by omega) #[.slice E D C,P.1.value,P.1.found]) (aBt V9.out G.out (by simp) #[.slice E D C,P.1.value,P.1.found]);generalize wy.setRow (w.heap.size+1+1+1) #[.slice E D C,.int .i64 P.1.value,.bool P.1.found]=wf at H X VF⊢;obtain⟨k0,k1,k2⟩:=H.C3;clear H;refine bodyPost_ret (by simp[results,results74,go_sem,k0,k1,k2];try rfl) rfl ?_;refine⟨.inl ⟨P.1,_,?_,rfl,?_⟩,X.out⟩
     . rw[S.out,av.out];rfl
     . exact VF.out)
def bCj (r:Res) (n:Int):Res:=⟨r.rows,r.value+n,r.found⟩
theorem aIc:∀(l:List Int) (r:Res),l.foldl bCj r=⟨r.rows,r.value+l.sum,r.found⟩
 | [],r=>by simp
 | a :: l,r=>by
   rw[List.foldl_cons,aIc l];unfold bCj;simp only[List.sum_cons]
   congr 1
   omega
theorem aMi {r:Res} (h:r.rows=[]) (w:cB):aLf r=resV (.slice none 0 0) r/\RwsAt w (.slice none 0 0) r.rows:=by
 refine⟨rfl,?_⟩;rw[h];exact⟨none,0,rfl,bV _,fun h=>absurd h (by simp)⟩
theorem aRo (g:Nat) (w:cB):cF prog 97 #[fnV g] w fun e w'=>∃gx,e= .returned (.func (.func 160) #[] #[.pointer (some ⟨gx,0,none⟩)])/\BlkIs w' gx 199 [fnV g]/\Below w.heap.size w w':=by
 refine(bBq g w).mono ?_;rintro e w' ⟨rfl,rfl⟩;exact⟨_,rfl,aAp _ _ _ rfl rfl,aF w _⟩
theorem aYs (q:Qy) (g:GoodQ q) (hk:q.kind=3) (rows others:List Rw) (v1 v2:cC) (w:cB) (h1:RwsAt w v1 rows) (h2:RwsAt w v2 others) (n1:rows.length<=3000) (hb:∀x∈rows,rowB x.table x.key x.v=true) :
 cF prog 51 #[qV q,v1,v2] w fun e w'=>∃v',e= .returned (resV v' (aCe q rows (aB8 q others)))/\RwsAt w' v' (aCe q rows (aB8 q others)).rows/\Below w.heap.size w w':=by
 obtain⟨a,E,U,X⟩:=aBp (fun W=>aCk q g W) (fun(W:cB) (t:Below w.heap.size w W)=>h1.below t) (fun(W:cB) (t:Below w.heap.size w W)=>h2.below t) hb;clear hb g;obtain⟨H,T,D,F,z,y⟩:=aNb w q 29 [.slice none 0 0,(),false] 35;obtain⟨Q,Y,rfl,-⟩:=h1.form;obtain⟨V2,C2,rfl,-⟩:=h2.form;obtain⟨m,f⟩:=ex_ rows.length;obtain⟨N2,d⟩:=ex_ others.length;rw[<-f]at E n1⊢;rw[<-d]at U⊢;have h:=hid f;have V:=hid d;clear f d h1 h2;obtain⟨R,k⟩:=ex_ (aCe q rows (aB8 q others));rw[<-k];unfold aCe at k;rw[if_pos hk,<-h.out]at k;have r:=hid k;have B:=hid hk;clear k hk
 (try unfold qV at a)
 unfold qV;go_enter func51,ntmps51
 go_upto_region 1 with fail
 rw[<-D.out]
 go_wp2_with (first
  | (refine wpList_load_row rfl 29 (.tmp 3) rfl (w.heap.size) rfl 29 q (0,0) _ z.out underlying29 rfl Tryz.infoQry7 ?_)
  | fail)
 (with_reducible refine(a.out H).mono ?_)
 rintro e b ⟨rfl,l⟩;have j:=z.later l;have p:=hid (j.later (aF b (.cells #[.slice none 0 0,(),false] 35)));have o:=hid ((y.later l).later (aF b (.cells #[.slice none 0 0,(),false] 35)));have s:BlkIs (b.alloc (.cells #[.slice none 0 0,(),false] 35)) b.heap.size 35 [.slice none 0 0,(),false]:=aAp _ _ _ rfl rfl;have i:=hid (aA (aA F.out l) (aF b (.cells #[.slice none 0 0,(),false] 35)));go_upto_region 4 with fail
 generalize b.alloc (.cells #[.slice none 0 0,(),false] 35)=w3 at p o i s⊢;obtain⟨O,c⟩:=ex_ b.heap.size;have HX:=hid (show w.heap.size+1<O by rw[c];exact(y.later l).lt);rw[<-c]at s⊢;have S:=hid s
 have N:w3.cell? ⟨w.heap.size,0,none⟩=some (.int .i64 3):=by
  rw[show(3:Int)=q.kind from B.symm];exact p.cell 0
 clear c s j l D z y F a T;obtain⟨y0,y1,Z⟩:=S.C3;go_wp2_with fail
 refine(aY5 rows (.slice Q m Y) w3 (E.out w3 i.out) (by rw[<-h.out];omega)).mono ?_;rintro e J ⟨rfl,u⟩;rw[<-h.out];have n:=hid (o.later u);have C:=hid (aA i.out u);clear u;unfold aLf;dsimp only
 go_wp2_with (first
  | (refine wpList_store_row rfl 35 (.tmp 6) (.tmp 18) rfl (w.heap.size+1) #[.slice none 0 0,m,false] rfl rfl 35 _ n.out Tryz.infoRes3 rfl (by simp[aR]) ?_)
  | fail)
 obtain⟨A,G,P⟩:=aAw (n.setRow [.slice none 0 0,m,false]) (below_setRow C.out (show w.heap.size<=w.heap.size+1 by omega) #[.slice none 0 0,m,false]) (True.intro);generalize J.setRow (w.heap.size+1) #[.slice none 0 0,.int .i64 m,.bool false]=wf at A G P⊢;obtain⟨M,L,K⟩:=A.C3;clear A;refine bodyPost_ret (by simp[results,results51,go_sem,M,L,K];try rfl) rfl ?_;refine⟨.slice none 0 0,?_,?_,G.out⟩
 . rw[r.out];rfl
 . rw[r.out];exact(aMi rfl wf).2
theorem aYr (q:Qy) (g:GoodQ q) (hk:q.kind=4) (rows others:List Rw) (v1 v2:cC) (w:cB) (h1:RwsAt w v1 rows) (h2:RwsAt w v2 others) (n1:rows.length<=3000) (hb:∀x∈rows,rowB x.table x.key x.v=true) :
 cF prog 51 #[qV q,v1,v2] w fun e w'=>∃v',e= .returned (resV v' (aCe q rows (aB8 q others)))/\RwsAt w' v' (aCe q rows (aB8 q others)).rows/\Below w.heap.size w w':=by
 obtain⟨a,HR,HO,a2⟩:=aBp (fun W=>aCk q g W) (fun(W:cB) (b:Below w.heap.size w W)=>h1.below b) (fun(W:cB) (b:Below w.heap.size w W)=>h2.below b) hb;clear hb g;obtain⟨wb,HZ,HW,HB,U,T⟩:=aNb w q 29 [.slice none 0 0,(),false] 35;obtain⟨V1,C1,rfl,-⟩:=h1.form;obtain⟨V2,C2,rfl,-⟩:=h2.form;obtain⟨N1,p⟩:=ex_ rows.length;obtain⟨N2,o⟩:=ex_ others.length;rw[<-p]at HR n1⊢;rw[<-o]at HO⊢;have L:=hid p;have ar:=hid o;clear p o h1 h2;obtain⟨R,C⟩:=ex_ (aCe q rows (aB8 q others));rw[<-C];unfold aCe at C;rw[if_neg (by rw[hk];decide),if_pos hk]at C;have J:=hid C;have a0:=hid hk;clear C hk
 (try unfold qV at a)
 unfold qV;go_enter func51,ntmps51
 go_upto_region 1 with fail
 rw[<-HW.out]
 go_wp2_with (first
  | (refine wpList_load_row rfl 29 (.tmp 3) rfl (w.heap.size) rfl 29 q (0,0) _ U.out underlying29 rfl Tryz.infoQry7 ?_)
  | fail)
 (with_reducible refine(a.out wb).mono ?_)
 rintro e c ⟨rfl,F⟩;have u:=U.later F;have s:=hid (u.later (aF c (.cells #[.slice none 0 0,(),false] 35)));have G:=hid ((T.later F).later (aF c (.cells #[.slice none 0 0,(),false] 35)));have P:BlkIs (c.alloc (.cells #[.slice none 0 0,(),false] 35)) c.heap.size 35 [.slice none 0 0,(),false]:=aAp _ _ _ rfl rfl;have t:=hid (aA (aA HB.out F) (aF c (.cells #[.slice none 0 0,(),false] 35)));go_upto_region 4 with fail
 generalize c.alloc (.cells #[.slice none 0 0,(),false] 35)=w3 at s G t P⊢;obtain⟨S,i⟩:=ex_ c.heap.size;have HX:=hid (show w.heap.size+1<S by rw[i];exact(T.later F).lt);rw[<-i]at P⊢;have K7:=hid P
 have ah:w3.cell? ⟨w.heap.size,0,none⟩=some (.int .i64 4):=by
  rw[show(4:Int)=q.kind from a0.symm];exact s.cell 0
 clear i P u F HW U T HB a HZ;have d:=fun W (b:Below w3.heap.size w3 W)=>aE9 q rows (.slice V1 N1 C1) W (HR.out W (aA t.out b)) (by rw[<-L.out];omega)
 (try unfold qV at d)
 have Y:=hid d;clear d;have A:(aA7 q rows).foldl bCj res0=R:=by rw[J.out,aIc];simp[res0]
 have Q:(aA7 q rows).length=N1:=by rw[L.out];simp[aA7]
 have h:=aTa a2.out q.by_
 have f:=fun N B W (O:World.ownsRow W B 3 1 N (aA7 q rows).length ((aA7 q rows).map (Value.int .i64)))=>aId bCj 96 #[] bC7 (aA7 q rows) res0 N B W O (by omega) (fun k n hn W' _=>by
  have h5:((aA7 q rows).take k).length<=3000:=by rw[List.length_take];omega
  have h6:=aPe (l:=(aA7 q rows).take k) (fun m hm=>h m (List.mem_of_mem_take hm));have h7:=h n (List.mem_of_getElem? hn);have h8:=aIc ((aA7 q rows).take k) res0;have h9:((aA7 q rows).take k).foldl bCj res0=⟨[],((aA7 q rows).take k).sum,false⟩:=by rw[h8];simp[res0]
  rw[h9];exact bAd ⟨[],((aA7 q rows).take k).sum,false⟩ n (by dsimp only;omega) (by dsimp only;omega) h7.1 h7.2 W')
 rw[A]at f;have a1:=hid f;have X:=hid (show R.rows=[] by rw[J.out]);clear f A Q h;go_upto_region 8 with fail
 have H:=hid (fun(W:cB) (b:Below w3.heap.size w3 W)=>(show(fun W=>BlkIs W w.heap.size 29 q/\BlkIs W S 35 [.slice none 0 0,(),false]) W from⟨s.later b,K7.later b⟩));have Z:Below w3.heap.size w3 w3.drew:=bF (aX _ _);refine aIu (.take 0 (.take 1 (.take 3 (.step 2 (.step 4 (.step 5 .done)))))) H Z ?_;obtain⟨wd,y⟩:=ex_ w3.drew;rw[<-y]at Z⊢;clear y
 repeat (first
  | (refine aAd.A0 ?_ (hy:=by intro w j;exact aAe 29 _ rfl _ rfl 29 q (0,0) _ j.1 underlying29 rfl Tryz.infoQry7))
  | (refine aAd.A0 ?_ (hy:=by intro w j;exact aAe 35 _ rfl _ rfl 35 #[.slice none 0 0,(),false] (0,0) _ j.2 underlying35 rfl Tryz.infoRes3))
  | refine aAd.A0 ?_|refine aAd.AG ?_|refine aAd.AS ?_|with_reducible apply aAd.step|with_reducible apply aAd.fork|with_reducible apply aAd.fork3|refine bX ?_|refine bY ?_|refine bZ ?_
  | (first
     | refine bH ?_|refine cA ?_
     intro K D;go_simp
     first
     | (go_at_call 95;(with_reducible refine(Y.out _ Z).mono ?_);rintro e wx ⟨N,rfl,O,E⟩;replace Z:=aA Z E;clear E;go_wp2_with fail)
     | (go_at_call 94;refine(a1.out N _ _ O).mono ?_;rintro e wx ⟨rfl,E⟩;replace Z:=aA Z E;clear E O;go_wp2_with fail)
     | fail
     refine D.out _ _ ?_ (fun _=>?_)
     . exact H.out _ Z
     clear D K;try simp only[bG,sx1,sx2,sx3]))
 have r:=hid (G.later Z);have M:=hid (aA t.out Z);refine bH ?_;intro K D;refine wp_store_row 35 (.tmp 6) (.tmp 25) rfl (w.heap.size+1) #[.slice none 0 0,R.value,R.found] rfl rfl 35 _ r.out Tryz.infoRes3 rfl (by simp[aR]) ?_;refine D.out _ _ ⟨(H.out _ Z).1.setRow_ne (show w.heap.size≠w.heap.size+1 by omega) #[.slice none 0 0,R.value,R.found],(H.out _ Z).2.setRow_ne (show S≠w.heap.size+1 by have:=HX.out;omega) #[.slice none 0 0,R.value,R.found]⟩ (fun _=>?_);clear D K;refine aAd.fin ?_;obtain⟨w4,z⟩:=ex_ wx;rw[<-z]at r M⊢;clear z H Z;try simp only[bG]
 obtain⟨V,BF,VF⟩:=aAw (r.setRow [.slice none 0 0,R.value,R.found]) (below_setRow M.out (show w.heap.size<=w.heap.size+1 by omega) #[.slice none 0 0,R.value,R.found]) (True.intro);generalize w4.setRow (w.heap.size+1) #[.slice none 0 0,.int .i64 R.value,.bool R.found]=wf at V BF VF⊢;obtain⟨k0,k1,k2⟩:=V.C3;clear V;go_wp2_with fail
 refine bodyPost_ret (by simp[results,results51,go_sem,k0,k1,k2];try rfl) rfl ?_;refine⟨_,rfl,?_,BF.out⟩;exact(aMi X.out wf).2
theorem aYq (q:Qy) (g:GoodQ q) (hk:q.kind=5) (rows others:List Rw) (v1 v2:cC) (w:cB) (h1:RwsAt w v1 rows) (h2:RwsAt w v2 others) (n1:rows.length<=3000) (hb:∀x∈rows,rowB x.table x.key x.v=true) :
 cF prog 51 #[qV q,v1,v2] w fun e w'=>∃v',e= .returned (resV v' (aCe q rows (aB8 q others)))/\RwsAt w' v' (aCe q rows (aB8 q others)).rows/\Below w.heap.size w w':=by
 obtain⟨c,HR,HO,ao⟩:=aBp (fun W=>aCk q g W) (fun(W:cB) (f:Below w.heap.size w W)=>h1.below f) (fun(W:cB) (f:Below w.heap.size w W)=>h2.below f) hb;clear hb g;obtain⟨wb,HZ,HW,HB,Y,X⟩:=aNb w q 29 [.slice none 0 0,(),false] 35;obtain⟨V1,C1,rfl,-⟩:=h1.form;obtain⟨V2,C2,rfl,-⟩:=h2.form;obtain⟨N1,p⟩:=ex_ rows.length;obtain⟨N2,o⟩:=ex_ others.length;rw[<-p]at HR n1⊢;rw[<-o]at HO⊢;have L:=hid p;have an:=hid o;clear p o h1 h2;obtain⟨R,D⟩:=ex_ (aCe q rows (aB8 q others));rw[<-D];unfold aCe at D;rw[if_neg (by rw[hk];decide),if_neg (by rw[hk];decide),if_pos hk]at D;have J:=hid D;have a3:=hid hk;clear D hk
 (try unfold qV at c)
 unfold qV;go_enter func51,ntmps51
 go_upto_region 1 with fail
 rw[<-HW.out]
 go_wp2_with (first
  | (refine wpList_load_row rfl 29 (.tmp 3) rfl (w.heap.size) rfl 29 q (0,0) _ Y.out underlying29 rfl Tryz.infoQry7 ?_)
  | fail)
 (with_reducible refine(c.out wb).mono ?_)
 rintro e h ⟨rfl,F⟩;have y:=Y.later F;have s:=hid (y.later (aF h (.cells #[.slice none 0 0,(),false] 35)));have G:=hid ((X.later F).later (aF h (.cells #[.slice none 0 0,(),false] 35)));have P:BlkIs (h.alloc (.cells #[.slice none 0 0,(),false] 35)) h.heap.size 35 [.slice none 0 0,(),false]:=aAp _ _ _ rfl rfl;have t:=hid (aA (aA HB.out F) (aF h (.cells #[.slice none 0 0,(),false] 35)));go_upto_region 4 with fail
 generalize h.alloc (.cells #[.slice none 0 0,(),false] 35)=w3 at s G t P⊢;obtain⟨V,l⟩:=ex_ h.heap.size;have HX:=hid (show w.heap.size+1<V by rw[l];exact(X.later F).lt);rw[<-l]at P⊢;have K7:=hid P
 have af:w3.cell? ⟨w.heap.size,0,none⟩=some (.int .i64 5):=by
  rw[show(5:Int)=q.kind from a3.symm];exact s.cell 0
 clear l P y F HW Y X HB c HZ;have i:=fun W (f:Below w3.heap.size w3 W)=>aE9 q rows (.slice V1 N1 C1) W (HR.out W (aA t.out f)) (by rw[<-L.out];omega)
 (try unfold qV at i)
 have a2:=hid i;clear i;have C:(aA7 q rows).foldl (aGj ltB) res0=R:=J.symm;have T:(aA7 q rows).length=N1:=by rw[L.out];simp[aA7]
 have j:=fun N B W Q (u:World.ownsRow W B 3 1 N (aA7 q rows).length ((aA7 q rows).map (Value.int .i64))) (O:BlkIs W Q 199 [fnV 98])=>aId (aGj ltB) 160 #[.pointer (some ⟨Q,0,none⟩)] aZ1 (aA7 q rows) res0 N B W u (by omega) (fun k n hn W' U=>aVh ltB 98 Q bEd (fun a b W=>bDe a b W) _ n W' (O.later U));rw[C]at j;have a4:=hid j;have a1:=hid (show R.rows=[] by rw[J.out];exact(aKc (.inl rfl) _).rows);clear j C T;go_upto_region 10 with fail
 have H:=hid (fun(W:cB) (f:Below w3.heap.size w3 W)=>(show(fun W=>BlkIs W w.heap.size 29 q/\BlkIs W V 35 [.slice none 0 0,(),false]) W from⟨s.later f,K7.later f⟩));have Z:Below w3.heap.size w3 w3.drew:=bF (aX _ _);refine aIu (.take 0 (.take 1 (.take 3 (.step 2 (.step 4 (.step 5 (.step 6 .done))))))) H Z ?_;obtain⟨wd,z⟩:=ex_ w3.drew;rw[<-z]at Z⊢;clear z
 repeat (first
  | (refine aAd.A0 ?_ (hy:=by intro w m;exact aAe 29 _ rfl _ rfl 29 q (0,0) _ m.1 underlying29 rfl Tryz.infoQry7))
  | (refine aAd.A0 ?_ (hy:=by intro w m;exact aAe 35 _ rfl _ rfl 35 #[.slice none 0 0,(),false] (0,0) _ m.2 underlying35 rfl Tryz.infoRes3))
  | refine aAd.A0 ?_|refine aAd.AG ?_|refine aAd.AS ?_|with_reducible apply aAd.step|with_reducible apply aAd.fork|with_reducible apply aAd.fork3|refine bX ?_|refine bY ?_|refine bZ ?_
  | (first
     | refine bH ?_|refine cA ?_
     intro K E;go_simp
     first
     | (go_at_call 95;(with_reducible refine(a2.out _ Z).mono ?_);rintro e S ⟨N,rfl,u,d⟩;replace Z:=aA Z d;clear d;go_wp2_with fail)
     | (go_at_call 97;refine(aRo 98 _).mono ?_;rintro e S ⟨Q,rfl,O,d⟩;replace Z:=aA Z d;replace u:=aAb d u;clear d;go_wp2_with fail)
     | (go_at_call 94;refine(a4.out N _ _ _ u O).mono ?_;rintro e S ⟨rfl,d⟩;replace Z:=aA Z d;clear d u O;go_wp2_with fail)
     | fail
     refine E.out _ _ ?_ (fun _=>?_)
     . exact H.out _ Z
     clear E K;try simp only[bG,sx1,sx2,sx3]))
 have r:=hid (G.later Z);have M:=hid (aA t.out Z);refine bH ?_;intro K E;refine wp_store_row 35 (.tmp 6) (.tmp 33) rfl (w.heap.size+1) #[.slice none 0 0,R.value,R.found] rfl rfl 35 _ r.out Tryz.infoRes3 rfl (by simp[aR]) ?_;refine E.out _ _ ⟨(H.out _ Z).1.setRow_ne (show w.heap.size≠w.heap.size+1 by omega) #[.slice none 0 0,R.value,R.found],(H.out _ Z).2.setRow_ne (show V≠w.heap.size+1 by have:=HX.out;omega) #[.slice none 0 0,R.value,R.found]⟩ (fun _=>?_);clear E K;refine aAd.fin ?_;obtain⟨w4,A⟩:=ex_ S;rw[<-A]at r M⊢;clear A H Z;try simp only[bG]
 obtain⟨KF,BF,VF⟩:=aAw (r.setRow [.slice none 0 0,R.value,R.found]) (below_setRow M.out (show w.heap.size<=w.heap.size+1 by omega) #[.slice none 0 0,R.value,R.found]) (True.intro);generalize w4.setRow (w.heap.size+1) #[.slice none 0 0,.int .i64 R.value,.bool R.found]=wf at KF BF VF⊢;obtain⟨k0,k1,k2⟩:=KF.C3;clear KF;go_wp2_with fail
 refine bodyPost_ret (by simp[results,results51,go_sem,k0,k1,k2];try rfl) rfl ?_;refine⟨_,rfl,?_,BF.out⟩;exact(aMi a1.out wf).2
theorem aYp (q:Qy) (g:GoodQ q) (hk:q.kind=6) (rows others:List Rw) (v1 v2:cC) (w:cB) (h1:RwsAt w v1 rows) (h2:RwsAt w v2 others) (n1:rows.length<=3000) (hb:∀x∈rows,rowB x.table x.key x.v=true) :
 cF prog 51 #[qV q,v1,v2] w fun e w'=>∃v',e= .returned (resV v' (aCe q rows (aB8 q others)))/\RwsAt w' v' (aCe q rows (aB8 q others)).rows/\Below w.heap.size w w':=by
 obtain⟨c,HR,HO,ao⟩:=aBp (fun W=>aCk q g W) (fun(W:cB) (f:Below w.heap.size w W)=>h1.below f) (fun(W:cB) (f:Below w.heap.size w W)=>h2.below f) hb;clear hb g;obtain⟨wb,HZ,HW,HB,Y,X⟩:=aNb w q 29 [.slice none 0 0,(),false] 35;obtain⟨V1,C1,rfl,-⟩:=h1.form;obtain⟨V2,C2,rfl,-⟩:=h2.form;obtain⟨N1,p⟩:=ex_ rows.length;obtain⟨N2,o⟩:=ex_ others.length;rw[<-p]at HR n1⊢;rw[<-o]at HO⊢;have L:=hid p;have an:=hid o;clear p o h1 h2;obtain⟨R,D⟩:=ex_ (aCe q rows (aB8 q others));rw[<-D];unfold aCe at D;rw[if_neg (by rw[hk];decide),if_neg (by rw[hk];decide),if_neg (by rw[hk];decide),if_pos hk]at D;have J:=hid D;have a3:=hid hk;clear D hk
 (try unfold qV at c)
 unfold qV;go_enter func51,ntmps51
 go_upto_region 1 with fail
 rw[<-HW.out]
 go_wp2_with (first
  | (refine wpList_load_row rfl 29 (.tmp 3) rfl (w.heap.size) rfl 29 q (0,0) _ Y.out underlying29 rfl Tryz.infoQry7 ?_)
  | fail)
 (with_reducible refine(c.out wb).mono ?_)
 rintro e h ⟨rfl,F⟩;have y:=Y.later F;have s:=hid (y.later (aF h (.cells #[.slice none 0 0,(),false] 35)));have G:=hid ((X.later F).later (aF h (.cells #[.slice none 0 0,(),false] 35)));have P:BlkIs (h.alloc (.cells #[.slice none 0 0,(),false] 35)) h.heap.size 35 [.slice none 0 0,(),false]:=aAp _ _ _ rfl rfl;have t:=hid (aA (aA HB.out F) (aF h (.cells #[.slice none 0 0,(),false] 35)));go_upto_region 4 with fail
 generalize h.alloc (.cells #[.slice none 0 0,(),false] 35)=w3 at s G t P⊢;obtain⟨V,l⟩:=ex_ h.heap.size;have HX:=hid (show w.heap.size+1<V by rw[l];exact(X.later F).lt);rw[<-l]at P⊢;have K7:=hid P
 have af:w3.cell? ⟨w.heap.size,0,none⟩=some (.int .i64 6):=by
  rw[show(6:Int)=q.kind from a3.symm];exact s.cell 0
 clear l P y F HW Y X HB c HZ;have i:=fun W (f:Below w3.heap.size w3 W)=>aE9 q rows (.slice V1 N1 C1) W (HR.out W (aA t.out f)) (by rw[<-L.out];omega)
 (try unfold qV at i)
 have a2:=hid i;clear i;have C:(aA7 q rows).foldl (aGj gtB) res0=R:=J.symm;have T:(aA7 q rows).length=N1:=by rw[L.out];simp[aA7]
 have j:=fun N B W Q (u:World.ownsRow W B 3 1 N (aA7 q rows).length ((aA7 q rows).map (Value.int .i64))) (O:BlkIs W Q 199 [fnV 99])=>aId (aGj gtB) 160 #[.pointer (some ⟨Q,0,none⟩)] aZ1 (aA7 q rows) res0 N B W u (by omega) (fun k n hn W' U=>aVh gtB 99 Q bEl (fun a b W=>bDf a b W) _ n W' (O.later U));rw[C]at j;have a4:=hid j;have a1:=hid (show R.rows=[] by rw[J.out];exact(aKc (.inr rfl) _).rows);clear j C T;go_upto_region 12 with fail
 have H:=hid (fun(W:cB) (f:Below w3.heap.size w3 W)=>(show(fun W=>BlkIs W w.heap.size 29 q/\BlkIs W V 35 [.slice none 0 0,(),false]) W from⟨s.later f,K7.later f⟩));have Z:Below w3.heap.size w3 w3.drew:=bF (aX _ _);refine aIu (.take 0 (.take 1 (.take 3 (.step 2 (.step 4 (.step 5 (.step 6 .done))))))) H Z ?_;obtain⟨wd,z⟩:=ex_ w3.drew;rw[<-z]at Z⊢;clear z
 repeat (first
  | (refine aAd.A0 ?_ (hy:=by intro w m;exact aAe 29 _ rfl _ rfl 29 q (0,0) _ m.1 underlying29 rfl Tryz.infoQry7))
  | (refine aAd.A0 ?_ (hy:=by intro w m;exact aAe 35 _ rfl _ rfl 35 #[.slice none 0 0,(),false] (0,0) _ m.2 underlying35 rfl Tryz.infoRes3))
  | refine aAd.A0 ?_|refine aAd.AG ?_|refine aAd.AS ?_|with_reducible apply aAd.step|with_reducible apply aAd.fork|with_reducible apply aAd.fork3|refine bX ?_|refine bY ?_|refine bZ ?_
  | (first
     | refine bH ?_|refine cA ?_
     intro K E;go_simp
     first
     | (go_at_call 95;(with_reducible refine(a2.out _ Z).mono ?_);rintro e S ⟨N,rfl,u,d⟩;replace Z:=aA Z d;clear d;go_wp2_with fail)
     | (go_at_call 97;refine(aRo 99 _).mono ?_;rintro e S ⟨Q,rfl,O,d⟩;replace Z:=aA Z d;replace u:=aAb d u;clear d;go_wp2_with fail)
     | (go_at_call 94;refine(a4.out N _ _ _ u O).mono ?_;rintro e S ⟨rfl,d⟩;replace Z:=aA Z d;clear d u O;go_wp2_with fail)
     | fail
     refine E.out _ _ ?_ (fun _=>?_)
     . exact H.out _ Z
     clear E K;try simp only[bG,sx1,sx2,sx3]))
 have r:=hid (G.later Z);have M:=hid (aA t.out Z);refine bH ?_;intro K E;refine wp_store_row 35 (.tmp 6) (.tmp 41) rfl (w.heap.size+1) #[.slice none 0 0,R.value,R.found] rfl rfl 35 _ r.out Tryz.infoRes3 rfl (by simp[aR]) ?_;refine E.out _ _ ⟨(H.out _ Z).1.setRow_ne (show w.heap.size≠w.heap.size+1 by omega) #[.slice none 0 0,R.value,R.found],(H.out _ Z).2.setRow_ne (show V≠w.heap.size+1 by have:=HX.out;omega) #[.slice none 0 0,R.value,R.found]⟩ (fun _=>?_);clear E K;refine aAd.fin ?_;obtain⟨w4,A⟩:=ex_ S;rw[<-A]at r M⊢;clear A H Z;try simp only[bG]
 obtain⟨KF,BF,VF⟩:=aAw (r.setRow [.slice none 0 0,R.value,R.found]) (below_setRow M.out (show w.heap.size<=w.heap.size+1 by omega) #[.slice none 0 0,R.value,R.found]) (True.intro);generalize w4.setRow (w.heap.size+1) #[.slice none 0 0,.int .i64 R.value,.bool R.found]=wf at KF BF VF⊢;obtain⟨k0,k1,k2⟩:=KF.C3;clear KF;go_wp2_with fail
 refine bodyPost_ret (by simp[results,results51,go_sem,k0,k1,k2];try rfl) rfl ?_;refine⟨_,rfl,?_,BF.out⟩;exact(aMi a1.out wf).2
theorem aYo (q:Qy) (g:GoodQ q) (hk:q.kind=7) (rows others:List Rw) (v1 v2:cC) (w:cB) (h1:RwsAt w v1 rows) (h2:RwsAt w v2 others) (n1:rows.length<=3000) (n2:others.length<=10000) (hb:∀x∈rows,rowB x.table x.key x.v=true) :
 cF prog 51 #[qV q,v1,v2] w fun e w'=>∃v',e= .returned (resV v' (aCe q rows (aB8 q others)))/\RwsAt w' v' (aCe q rows (aB8 q others)).rows/\Below w.heap.size w w':=by
 obtain⟨a,Q,S,a9⟩:=aBp (fun W=>aCk q g W) (fun(W:cB) (A:Below w.heap.size w W)=>h1.below A) (fun(W:cB) (A:Below w.heap.size w W)=>h2.below A) hb;clear hb g;obtain⟨X,HZ,P,U,D,C⟩:=aNb w q 29 [.slice none 0 0,(),false] 35;obtain⟨V1,C1,rfl,-⟩:=h1.form;obtain⟨V2,C2,rfl,-⟩:=h2.form;obtain⟨N1,j⟩:=ex_ rows.length;obtain⟨N2,i⟩:=ex_ others.length;rw[<-j]at Q n1⊢;rw[<-i]at S n2⊢;have L:=hid j;have K:=hid i;clear j i h1 h2;obtain⟨R,n⟩:=ex_ (aCe q rows (aB8 q others));rw[<-n];unfold aCe at n;rw[if_neg (by rw[hk];decide),if_neg (by rw[hk];decide),if_neg (by rw[hk];decide),if_neg (by rw[hk];decide),if_pos hk]at n;have H:=hid n;have M:=hid hk;clear n hk
 (try unfold qV at a)
 unfold qV;go_enter func51,ntmps51
 go_upto_region 1 with fail
 rw[<-P.out]
 go_wp2_with (first
  | (refine wpList_load_row rfl 29 (.tmp 3) rfl (w.heap.size) rfl 29 q (0,0) _ D.out underlying29 rfl Tryz.infoQry7 ?_)
  | fail)
 (with_reducible refine(a.out X).mono ?_)
 rintro e f ⟨rfl,r⟩;have m:=D.later r;have l:=hid (m.later (aF f (.cells #[.slice none 0 0,(),false] 35)));have t:=hid ((C.later r).later (aF f (.cells #[.slice none 0 0,(),false] 35)));have y:BlkIs (f.alloc (.cells #[.slice none 0 0,(),false] 35)) f.heap.size 35 [.slice none 0 0,(),false]:=aAp _ _ _ rfl rfl;have d:=hid (aA (aA U.out r) (aF f (.cells #[.slice none 0 0,(),false] 35)));go_upto_region 4 with fail
 generalize f.alloc (.cells #[.slice none 0 0,(),false] 35)=w3 at l t d y⊢;obtain⟨X7,h⟩:=ex_ f.heap.size;have HX:=hid (show w.heap.size+1<X7 by rw[h];exact(C.later r).lt);rw[<-h]at y⊢;have K7:=hid y
 have a2:w3.cell? ⟨w.heap.size,0,none⟩=some (.int .i64 7):=by
  rw[show(7:Int)=q.kind from M.symm];exact l.cell 0
 clear h y m r P D C U a HZ;have c:R=⟨aCa (aCh (aB8 q others) q.by_ rows),0,false⟩:=H.out;have G:=hid (show R.value=0 by rw[c]);have J:=hid (show R.found=false by rw[c]);have z:=aUo q rows others (.slice V1 N1 C1) (.slice V2 N2 C2) w3 (Q.out w3 d.out) (S.out w3 d.out) (by rw[<-L.out];omega) (by rw[<-K.out];omega);rw[show aCa (aCh (aB8 q others) q.by_ rows)=R.rows by rw[c]]at z
 (try unfold qV at z)
 have T:=hid z;clear z c
 go_wp2_with (first
  | (refine wpList_load_row rfl 29 (.tmp 3) rfl (w.heap.size) rfl 29 q (0,0) _ l.out underlying29 rfl Tryz.infoQry7 ?_)
  | fail)
 refine(T.out).mono ?_;rintro e Y ⟨v9,rfl,b,B⟩;obtain⟨u,p,rfl,-⟩:=b.form;clear T;obtain⟨s,o⟩:=ex_ R.rows.length;rw[<-o]at b⊢;obtain⟨k,N,F⟩:=aAw (t.later B) (aA d.out B) b;clear B b o
 go_wp2_with (first
  | (refine wpList_store_row rfl 35 (.tmp 6) (.tmp 48) rfl (w.heap.size+1) #[.slice u s p,(),false] rfl rfl 35 _ k.out Tryz.infoRes3 rfl (by simp[aR]) ?_)
  | fail)
 obtain⟨E,V,O⟩:=aAw (k.setRow [.slice u s p,(),false]) (below_setRow N.out (show w.heap.size<=w.heap.size+1 by omega) #[.slice u s p,(),false]) (aBt F.out k.out (by simp) #[.slice u s p,(),false]);generalize Y.setRow (w.heap.size+1) #[.slice u s p,.int .i64 0,.bool false]=wf at E V O⊢;obtain⟨k0,k1,Z⟩:=E.C3;clear E;refine bodyPost_ret (by simp[results,results51,go_sem,k0,k1,Z];try rfl) rfl ?_;refine⟨_,?_,O.out,V.out⟩;unfold resV;rw[G.out,J.out]
theorem aYu (q:Qy) (g:GoodQ q) (hk:q.kind=1) (rows others:List Rw) (v1 v2:cC) (w:cB) (h1:RwsAt w v1 rows) (h2:RwsAt w v2 others) (n1:rows.length<=3000) (hb:∀x∈rows,rowB x.table x.key x.v=true) :
 cF prog 51 #[qV q,v1,v2] w fun e w'=>∃v',e= .returned (resV v' (aCe q rows (aB8 q others)))/\RwsAt w' v' (aCe q rows (aB8 q others)).rows/\Below w.heap.size w w':=by
 obtain⟨b,S,HO,a9⟩:=aBp (fun W=>aCk q g W) (fun(W:cB) (B:Below w.heap.size w W)=>h1.below B) (fun(W:cB) (B:Below w.heap.size w W)=>h2.below B) hb;clear hb g;obtain⟨X,HZ,Q,U,E,D⟩:=aNb w q 29 [.slice none 0 0,(),false] 35;obtain⟨V1,C1,rfl,-⟩:=h1.form;obtain⟨V2,C2,rfl,-⟩:=h2.form;obtain⟨N1,i⟩:=ex_ rows.length;obtain⟨N2,h⟩:=ex_ others.length;rw[<-i]at S n1⊢;rw[<-h]at HO⊢;have M:=hid i;have a8:=hid h;clear i h h1 h2;obtain⟨R,o⟩:=ex_ (aCe q rows (aB8 q others));rw[<-o];unfold aCe at o;rw[if_neg (by rw[hk];decide),if_neg (by rw[hk];decide),if_neg (by rw[hk];decide),if_neg (by rw[hk];decide),if_neg (by rw[hk];decide)]at o;have K:=hid o;have N:=hid hk;clear o hk
 (try unfold qV at b)
 unfold qV;go_enter func51,ntmps51
 go_upto_region 1 with fail
 rw[<-Q.out]
 go_wp2_with (first
  | (refine wpList_load_row rfl 29 (.tmp 3) rfl (w.heap.size) rfl 29 q (0,0) _ E.out underlying29 rfl Tryz.infoQry7 ?_)
  | fail)
 (with_reducible refine(b.out X).mono ?_)
 rintro e d ⟨rfl,s⟩;have l:=E.later s;have y:=hid (l.later (aF d (.cells #[.slice none 0 0,(),false] 35)));have u:=hid ((D.later s).later (aF d (.cells #[.slice none 0 0,(),false] 35)));have A:BlkIs (d.alloc (.cells #[.slice none 0 0,(),false] 35)) d.heap.size 35 [.slice none 0 0,(),false]:=aAp _ _ _ rfl rfl;have k:=hid (aA (aA U.out s) (aF d (.cells #[.slice none 0 0,(),false] 35)));go_upto_region 4 with fail
 generalize d.alloc (.cells #[.slice none 0 0,(),false] 35)=w3 at y u k A⊢;obtain⟨X7,f⟩:=ex_ d.heap.size;have HX:=hid (show w.heap.size+1<X7 by rw[f];exact(D.later s).lt);rw[<-f]at A⊢;have K7:=hid A
 have a2:w3.cell? ⟨w.heap.size,0,none⟩=some (.int .i64 1):=by
  rw[show(1:Int)=q.kind from N.symm];exact y.cell 0
 clear f A l s Q E D U b HZ;have c:R=⟨rows,0,false⟩:=K.out;have J:=hid (show R.value=0 by rw[c]);have L:=hid (show R.found=false by rw[c]);have m:rows=R.rows:=by rw[c]
 have T:=hid (aD5 (.slice V1 N1 C1) rows w3 (by have:=aDg (S.out w3 k.out);exact this) (by rw[<-M.out];omega));have H:=hid m;clear c m;go_wp2_with fail
 refine(T.out).mono ?_;rintro e Y ⟨v9,rfl,n,C⟩;have a:=aA1 n;rw[H.out]at a;obtain⟨z,r,rfl,-⟩:=a.form;clear T n;obtain⟨t,p⟩:=ex_ R.rows.length;rw[<-p]at a⊢;obtain⟨j,O,G⟩:=aAw (u.later C) (aA k.out C) a;clear C a p
 go_wp2_with (first
  | (refine wpList_store_row rfl 35 (.tmp 6) (.tmp 51) rfl (w.heap.size+1) #[.slice z t r,(),false] rfl rfl 35 _ j.out Tryz.infoRes3 rfl (by simp[aR]) ?_)
  | fail)
 obtain⟨F,V,P⟩:=aAw (j.setRow [.slice z t r,(),false]) (below_setRow O.out (show w.heap.size<=w.heap.size+1 by omega) #[.slice z t r,(),false]) (aBt G.out j.out (by simp) #[.slice z t r,(),false]);generalize Y.setRow (w.heap.size+1) #[.slice z t r,.int .i64 0,.bool false]=wf at F V P⊢;obtain⟨k0,k1,Z⟩:=F.C3;clear F;refine bodyPost_ret (by simp[results,results51,go_sem,k0,k1,Z];try rfl) rfl ?_;refine⟨_,?_,P.out,V.out⟩;unfold resV;rw[J.out,L.out]
theorem aYt (q:Qy) (g:GoodQ q) (hk:q.kind=2) (rows others:List Rw) (v1 v2:cC) (w:cB) (h1:RwsAt w v1 rows) (h2:RwsAt w v2 others) (n1:rows.length<=3000) (hb:∀x∈rows,rowB x.table x.key x.v=true) :
 cF prog 51 #[qV q,v1,v2] w fun e w'=>∃v',e= .returned (resV v' (aCe q rows (aB8 q others)))/\RwsAt w' v' (aCe q rows (aB8 q others)).rows/\Below w.heap.size w w':=by
 obtain⟨b,S,HO,a9⟩:=aBp (fun W=>aCk q g W) (fun(W:cB) (B:Below w.heap.size w W)=>h1.below B) (fun(W:cB) (B:Below w.heap.size w W)=>h2.below B) hb;clear hb g;obtain⟨X,HZ,Q,U,E,D⟩:=aNb w q 29 [.slice none 0 0,(),false] 35;obtain⟨V1,C1,rfl,-⟩:=h1.form;obtain⟨V2,C2,rfl,-⟩:=h2.form;obtain⟨N1,i⟩:=ex_ rows.length;obtain⟨N2,h⟩:=ex_ others.length;rw[<-i]at S n1⊢;rw[<-h]at HO⊢;have M:=hid i;have a8:=hid h;clear i h h1 h2;obtain⟨R,o⟩:=ex_ (aCe q rows (aB8 q others));rw[<-o];unfold aCe at o;rw[if_neg (by rw[hk];decide),if_neg (by rw[hk];decide),if_neg (by rw[hk];decide),if_neg (by rw[hk];decide),if_neg (by rw[hk];decide)]at o;have K:=hid o;have N:=hid hk;clear o hk
 (try unfold qV at b)
 unfold qV;go_enter func51,ntmps51
 go_upto_region 1 with fail
 rw[<-Q.out]
 go_wp2_with (first
  | (refine wpList_load_row rfl 29 (.tmp 3) rfl (w.heap.size) rfl 29 q (0,0) _ E.out underlying29 rfl Tryz.infoQry7 ?_)
  | fail)
 (with_reducible refine(b.out X).mono ?_)
 rintro e d ⟨rfl,s⟩;have l:=E.later s;have y:=hid (l.later (aF d (.cells #[.slice none 0 0,(),false] 35)));have u:=hid ((D.later s).later (aF d (.cells #[.slice none 0 0,(),false] 35)));have A:BlkIs (d.alloc (.cells #[.slice none 0 0,(),false] 35)) d.heap.size 35 [.slice none 0 0,(),false]:=aAp _ _ _ rfl rfl;have k:=hid (aA (aA U.out s) (aF d (.cells #[.slice none 0 0,(),false] 35)));go_upto_region 4 with fail
 generalize d.alloc (.cells #[.slice none 0 0,(),false] 35)=w3 at y u k A⊢;obtain⟨X7,f⟩:=ex_ d.heap.size;have HX:=hid (show w.heap.size+1<X7 by rw[f];exact(D.later s).lt);rw[<-f]at A⊢;have K7:=hid A
 have a2:w3.cell? ⟨w.heap.size,0,none⟩=some (.int .i64 2):=by
  rw[show(2:Int)=q.kind from N.symm];exact y.cell 0
 clear f A l s Q E D U b HZ;have c:R=⟨rows,0,false⟩:=K.out;have J:=hid (show R.value=0 by rw[c]);have L:=hid (show R.found=false by rw[c]);have m:rows=R.rows:=by rw[c]
 have T:=hid (aD5 (.slice V1 N1 C1) rows w3 (by have:=aDg (S.out w3 k.out);exact this) (by rw[<-M.out];omega));have H:=hid m;clear c m;go_wp2_with fail
 refine(T.out).mono ?_;rintro e Y ⟨v9,rfl,n,C⟩;have a:=aA1 n;rw[H.out]at a;obtain⟨z,r,rfl,-⟩:=a.form;clear T n;obtain⟨t,p⟩:=ex_ R.rows.length;rw[<-p]at a⊢;obtain⟨j,O,G⟩:=aAw (u.later C) (aA k.out C) a;clear C a p
 go_wp2_with (first
  | (refine wpList_store_row rfl 35 (.tmp 6) (.tmp 51) rfl (w.heap.size+1) #[.slice z t r,(),false] rfl rfl 35 _ j.out Tryz.infoRes3 rfl (by simp[aR]) ?_)
  | fail)
 obtain⟨F,V,P⟩:=aAw (j.setRow [.slice z t r,(),false]) (below_setRow O.out (show w.heap.size<=w.heap.size+1 by omega) #[.slice z t r,(),false]) (aBt G.out j.out (by simp) #[.slice z t r,(),false]);generalize Y.setRow (w.heap.size+1) #[.slice z t r,.int .i64 0,.bool false]=wf at F V P⊢;obtain⟨k0,k1,Z⟩:=F.C3;clear F;refine bodyPost_ret (by simp[results,results51,go_sem,k0,k1,Z];try rfl) rfl ?_;refine⟨_,?_,P.out,V.out⟩;unfold resV;rw[J.out,L.out]
theorem bBl (q:Qy) (g:GoodQ q) (rows others:List Rw) (v1 v2:cC) (w:cB) (h1:RwsAt w v1 rows) (h2:RwsAt w v2 others) (n1:rows.length<=3000) (n2:others.length<=10000) (hb:∀x∈rows,rowB x.table x.key x.v=true) :
 cF prog 51 #[qV q,v1,v2] w fun e w'=>∃v',e= .returned (resV v' (aCe q rows (aB8 q others)))/\RwsAt w' v' (aCe q rows (aB8 q others)).rows/\Below w.heap.size w w':=by
 have a:q.kind=1\/q.kind=2\/q.kind=3\/q.kind=4\/q.kind=5\/q.kind=6\/q.kind=7:=by
  have:=g.k1;have:=g.k7;omega
 rcases a with a|a|a|a|a|a|a
 . exact aYu q g a rows others v1 v2 w h1 h2 n1 hb
 . exact aYt q g a rows others v1 v2 w h1 h2 n1 hb
 . exact aYs q g a rows others v1 v2 w h1 h2 n1 hb
 . exact aYr q g a rows others v1 v2 w h1 h2 n1 hb
 . exact aYq q g a rows others v1 v2 w h1 h2 n1 hb
 . exact aYp q g a rows others v1 v2 w h1 h2 n1 hb
 . exact aYo q g a rows others v1 v2 w h1 h2 n1 n2 hb
variable {w W:cB} {q:Qy} {rb:Nat} {rd:cC}
theorem aN3 {base e size n n' c:Nat} {xs:List cC} (h:w.ownsRow base e size (.slice none n c) n' xs):n=0/\c=0:=by
 rcases h.2 with⟨h1,_⟩|⟨g,cap,cur,h1,_⟩
 . injection h1 with _ e2 e3
   exact⟨e2,e3⟩
 . injection h1 with e1
   cases e1
theorem aIj {base e size n n' c:Nat} {A:Option Addr} {xs:List cC} (h:w.ownsRow base e size (.slice A n c) n' xs):∀ad,A=some ad->∀(j:Nat) u,xs[j]? =some u->w.cell? (ad.add j)=some u:=by
 intro ad l j u a;subst l
 have f:0<n':=by
  apply Nat.pos_of_ne_zero;intro m;have:=h.1;rw[m,Nat.zero_mul]at this;rw[List.eq_nil_of_length_eq_zero this]at a;simp at a
 obtain⟨p,o,i,-,-,d⟩:=aAa h;injection i with e1 e2 e3
 subst e1;obtain⟨g,b,_,_,k⟩:=d f;injection b with b
 subst b;rw[Addr.add_mid,bS];exact k j u a
theorem aN5 {L rows:List Rw} {k:Nat} {x:Rw} (hx:rows[k]? =some x):aBw q L (rows.take (k+1))=aBw q L (rows.take k)++(aCs q x).rows L:=by
 rw[List.take_add_one,hx];unfold aBw;rw[List.flatMap_append];simp[Sc.rows,aCs]
structure StJ (w:cB) (rb:Nat) (q:Qy) (st:StT) (dv:cC) (ss:List Sc) (W:cB):Prop where
 rd:BlkIs W rb 128 [dv]
 at_:RgsAt w dv st.rows ss
 qb:BlkIs W w 29 q
 tb:BlkIs W (w.heap.size+1) 35 [.slice none 0 0,(),false]
 ob:BlkIs W (w.heap.size+1+1) 4 [true]
 bel:Below w w W
 ge:w.heap.size+1+1<rb
theorem StJ.later {st:StT} {ss:List Sc} {W':cB} (h:StJ w rb q st rd ss W) (hb:Below W W W'):StJ w rb q st rd ss W':=
 ⟨h.rd.later hb,h.at_,h.qb.later hb,h.tb.later hb,h.ob.later hb,aA h.bel hb,h.ge⟩
theorem StJ.grown {st:StT} {ss:List Sc} {W':cB} {o:Option Nat} (h:StJ w rb q st rd ss W) (hg:W.grownBy W' o) (ho:∀k,o=some k->rb<k):StJ w rb q st rd ss W':=by
 have b:=h.ge;have a:∀k,k<=rb->some k≠o:=fun k c e=>by have:=ho k e.symm;omega
 exact⟨h.rd.kept hg (a _ (by omega)),h.at_,h.qb.kept hg (a _ (by omega)),h.tb.kept hg (a _ (by omega)),h.ob.kept hg (a _ (by omega)),h.bel.grown hg h.bel.size (fun k e=>by have:=ho k e;omega),h.ge⟩
theorem StJ.read {st:StT} {s:Sc} {ss:List Sc} (h:StJ w rb q st rd (s :: ss) W) (gd:GoodS st) (hs:GoodSc s) (h8:ss.length<=1000) :
 cF prog 48 #[.pointer (some (rb,0)),scV s] W fun e w'=>∃rv rd',e= .returned rv/\w'.ownsRow W.heap.size 116 5 rv (s.rows st.rows).length ((s.rows st.rows).flatMap rwC)/\StJ w rb q st rd' ss w'/\Upd rb W w':=by
 have f:=h.ge;refine(aW9 st gd rb s hs ss rd w W h.bel (by omega) h.rd h.at_ h8).mono ?_;rintro e w' ⟨rv,a,rfl,d,c,b,u⟩;exact⟨rv,a,rfl,d,⟨c,b,h.qb.upd u (by omega),h.tb.upd u (by omega),h.ob.upd u (by omega),h.bel.trans (u.below (by omega) h.bel.size),h.ge⟩,u⟩
theorem aQv (st:StT) (gd:GoodS st) (q:Qy) (g:GoodQ q) (v:cC) (w:cB) (h:RgsAt w v st.rows (aCo q st.rows)) (h100:(aAy q st.rows).length<=100) :
 cF prog 16 #[qV q,v] w fun e w'=>∃v',e= .returned (.tuple #[resV v' (evalQ q st.rows),true])/\RwsAt w' v' (evalQ q st.rows).rows/\Below w w w':=by
 obtain⟨Q,ap,z,au,T⟩:=aDs (fun W=>aCk q g W) (fun W=>aZx q g W) (fun rows others v1 v2 W h1 h2 n1 n2 hb=>bBl q g rows others v1 v2 W h1 h2 n1 n2 hb) (fun others ho=>aU9 (l:=st.rows) gd.sort q (others:=others) ho) (fun rb rd s ss (W:cB) (h:StJ w rb q st rd (s :: ss) W) hs h8=>h.read gd hs h8);have o:∀x∈aAy q st.rows,rowB x.table x.key x.v=true:=fun x hx=>gd.rows x (aE7.1 hx).1;have be:=hid (fun rows=>aJ3 gd.sort q rows);obtain⟨A,cc,hv,-⟩:=h.form;obtain⟨b6,b2,HG,HL⟩:=aBp h o g h100;obtain⟨R,hR⟩:=ex_ (evalQ q st.rows);rw[<-hR]at au⊢;obtain⟨SN,aI⟩:=ex_ ((aCo q st.rows).length);rw[<-aI]at hv;subst hv;clear o g h h100 hR aI gd;obtain⟨wb,HZ,HW,HB,KQ,KT,KO⟩:=bEr w q 29 [.slice none 0 0,(),false] 35 [false] 4
 (try unfold qV at Q)
 (try unfold qV at ap)
 (try unfold qV at z)
 unfold qV;go_enter_defers func16,ntmps16
 go_upto_region 1 with fail
 rw[<-HW.out];go_upto_region 2 with fail
 have x0:=KO.c0;have f0:wb.frozen? (w.heap.size+1+1,0)=false:=KO.frozen 0;obtain⟨al,a2,ak,av,an⟩:=aDs (KO.set 0 (.bool true)) (KQ.other (p:=⟨w.heap.size+1+1,0,none⟩) (by dsimp only;omega) (.bool true)) (KT.other (p:=⟨w.heap.size+1+1,0,none⟩) (by dsimp only;omega) (.bool true)) (HB.setCell (p:=⟨w.heap.size+1+1,0,none⟩) (by dsimp only;omega) (.bool true)) (show w.heap.size+1+1<(wb.setCell (w.heap.size+1+1,0) (.bool true)).heap.size by have:=HZ.out;simp[World.setCell];omega);go_upto_region 4 with fail
 generalize wb.setCell (w.heap.size+1+1,0) (.bool true)=w2 at al a2 ak av an⊢;clear x0 f0 HW KO KQ KT HB HZ
 go_wp2_with (first
  | (refine wpList_load_row rfl 29 (.tmp 2) rfl (w.heap.size) rfl 29 q (0,0) _ a2.out underlying29 rfl Tryz.infoQry7 ?_)
  | fail)
 (with_reducible refine(Q.out w2).mono ?_)
 rintro e w3 ⟨rfl,b3⟩;obtain⟨aS,aQ,aP,aO,bk⟩:=aDs (Nat.lt_of_lt_of_le an.out b3.size) (al.later b3) (a2.later b3) (ak.later b3) (aA av.out b3);clear b3 al a2 ak av an Q;go_wp2_with fail
 (with_reducible refine(aDw w3).mono ?_)
 rintro e wx ⟨rfl,b⟩;rw[b];clear b wx;have b4:=aF w3 (.cells #[.slice A SN cc] 128);have k4:BlkIs (w3.alloc (.cells #[.slice A SN cc] 128)) w3.heap.size 128 [.slice A SN cc]:=aAp _ _ _ rfl rfl;obtain⟨rb,o⟩:=ex_ w3.heap.size
 have J4:StJ w rb q st (.slice A SN cc) (aCo q st.rows) (w3.alloc (.cells #[.slice A SN cc] 128)):=
   ⟨by rw[o];exact k4,b6.out,aP.later b4,aO.later b4,aQ.later b4,aA bk.out b4,by rw[o];exact aS.out⟩
 have a4:=hid J4;clear J4 k4 b4 aQ aP aO bk aS;go_upto_region 6 with fail
 rw[<-o];generalize w3.alloc (.cells #[.slice A SN cc] 128)=w4 at a4⊢;clear o
 go_wp2_with (first
  | (refine wpList_load_row rfl 29 (.tmp 2) rfl (w.heap.size) rfl 29 q (0,0) _ a4.qb underlying29 rfl Tryz.infoQry7 ?_)
  | fail)
 (with_reducible refine(ap.out w4).mono ?_)
 rintro e w5 ⟨rfl,b5⟩
 have bN:(aFt q st.rows).length<=100:=by
  unfold aFt;split
  . rw[bT];exact HL.out
  . simp
 have b1:=hid (T.out rb (.slice A SN cc) (aWp q) (aFt q st.rows) w5 (a4.later b5) (aTn HG.out) (by omega));clear a4 b5 ap bN b6;go_wp2_with fail
 refine(b1.out).mono ?_;rintro e w6 ⟨rv,bC,rfl,H,J6,u6⟩;rw[bAe]at H;obtain⟨RA,rc,rfl,bL,-,-⟩:=aAa H;obtain⟨N,hN⟩:=ex_ ((aAy q st.rows).length);rw[<-hN]at H bL HL⊢;obtain⟨U,V,S⟩:=aAw hN J6 H;have hL:N<=100:=HL.out;have t1:decide ((N:Int)<=100)=true:=by rw[decide_eq_true_iff];omega
 clear hN J6 H u6 b1 HL;go_wp2_with fail
 (with_reducible refine(aDw w6).mono ?_)
 rintro e wx ⟨rfl,b⟩;rw[b];clear b wx t1;have k0:=V.qb.c0;by_cases Z:q.kind=7
 case neg=>
  have e7:(q.kind== 7)=false:=by simpa using Z
  have J:aFt q st.rows=[]:=by unfold aFt;rw[if_neg Z]
  have C:=V.out;rw[J]at C;have RX:=S.out;have HK:=hid Z;clear Z J V S;obtain⟨DA,DC,K,-⟩:=C.at_.form;rw[List.length_nil]at K;subst K;have x0:=C.rd.c0;have r:=z.out (aAy q st.rows) (([]:List Rw)) (.slice RA N rc) (.slice none 0 0) w6 (by have h:=RX;rw[U.out]at h;have h2:=aA1 h;rw[<-U.out]at h2;exact h2) (⟨none,0,rfl,bV _,fun h=>absurd h (by simp)⟩) (by rw[<-U.out];omega) (by simp) b2.out;rw[au.out (([]:List Rw)) (fun h=>absurd h HK.out)]at r;have X:=hid r;have i:=hid C;clear r;go_wp2_with fail
  (with_reducible refine(aDw w6).mono ?_)
  rintro e wx ⟨rfl,b⟩;rw[b];clear b wx
  go_wp2_with (first
   | (refine wpList_load_row rfl 29 (.tmp 2) rfl (w.heap.size) rfl 29 q (0,0) _ i.qb underlying29 rfl Tryz.infoQry7 ?_)
   | fail)
  refine(X.out).mono ?_;rintro e w7 ⟨v9,rfl,j,F⟩;obtain⟨B,t,rfl,-⟩:=j.form;obtain⟨y,P⟩:=ex_ R.rows.length;rw[<-P]at j⊢;have ao:=hid j;have a:=hid (i.later F);have ad:(w.heap.size+1+1)≠w.heap.size+1:=by omega
  have G:=a.ob.setRow_ne ad #[.slice B y t,R.value,R.found];have y0:=G.c0;have y1:(w7.setRow (w.heap.size+1) #[.slice B y t,R.value,R.found]).frozen? (w.heap.size+1+1,0)=false:=G.frozen 0;clear F j P i X;unfold resV;dsimp only
  go_wp2_with (first
   | (refine wpList_store_row rfl 35 (.tmp 4) (.tmp 53) rfl (w.heap.size+1) #[.slice B y t,R.value,R.found] rfl rfl 35 _ a.tb Tryz.infoRes3 rfl (by simp[aR]) ?_)
   | fail)
  obtain⟨KF,KB,VF,BF⟩:=aBp ((a.tb.setRow [.slice B y t,R.value,R.found]).other (p:=⟨w.heap.size+1+1,0,none⟩) (by dsimp only;omega) (.bool true)) (G.set 0 (.bool true)) (aJn (aBt ao.out a.tb (by simp) #[.slice B y t,R.value,R.found]) G (by simp) 0 (.bool true)) ((below_setRow a.bel (show w.heap.size<=w.heap.size+1 by omega) #[.slice B y t,R.value,R.found]).setCell (p:=⟨w.heap.size+1+1,0,none⟩) (by dsimp only;omega) (.bool true));generalize (w7.setRow (w.heap.size+1) #[.slice B y t,R.value,R.found]).setCell (w.heap.size+1+1,0) (.bool true)=wf at KF KB VF BF⊢;clear G y0 y1;refine leaves_cons (f:=45) (args:=#[.pointer (some (w.heap.size+1+1,0))]) (by simp) (by simp[go_sem]) ?_;refine(aKj ⟨w.heap.size+1+1,0,none⟩ wf).mono ?_;rintro e u' Y ⟨rfl,rfl,d⟩;rw[d];clear d Y;refine leaves_cons (f:=44) (args:=#[.pointer (some (w.heap.size+1+1,0)),.pointer (some (w.heap.size+1,0))]) (by simp[settle]) (by simp[go_sem]) ?_;refine(aJg ⟨w.heap.size+1+1,0,none⟩ ⟨w.heap.size+1,0,none⟩ wf (KB.cell 0)).mono ?_;rintro e u' Y ⟨rfl,rfl,d⟩;rw[d];clear d Y;obtain⟨k0,k1,k2⟩:=KF.C3;have k3:=KB.c0;simp[Leaves,settle,results,results16,go_sem,k0,k1,k2,k3];exact⟨_,rfl,VF.out,BF.out⟩
 case pos=>
  have e7:(q.kind== 7)=true:=by simpa using Z
  have J:aFt q st.rows=((aAy q st.rows).drop 0).map (aCs q):=by unfold aFt;rw[if_pos Z];rfl
  have C:=V.out;rw[J]at C;have i:=hid C;have c8:=hid Z;obtain⟨OB,ae⟩:=ex_ w6.heap.size;obtain⟨c4,bd,aZ⟩:=aAw (show rb<OB by rw[ae];exact C.rd.lt) (show OB<=w6.heap.size by omega) (show∀k,(Value.slice RA N rc).ownBlock=some k->k<OB from fun k e=>by rw[ae];exact(S.lt k e).2);clear Z J C V ae;go_wp2_with fail
  go_loopw [8,31] (fun ov kv wr=>∃(k:Nat) (dv:cC),kv= .int .i64 k/\k<=N/\Hid (StJ w rb q st dv (((aAy q st.rows).drop k).map (aCs q)) wr)/\Hid (wr.ownsRow OB 116 5 ov (aBw q st.rows ((aAy q st.rows).take k)).length ((aBw q st.rows ((aAy q st.rows).take k)).flatMap rwC))/\Hid (wr.ownsRow w5.heap.size 116 5 (.slice RA N rc) N ((aAy q st.rows).flatMap rwC))/\Hid (OB<=wr.heap.size)) (fun _ kv _=>N-(intOf kv).toNat)
  case atStart=>exact⟨0,bC,rfl,by omega,i,hid (World.ownsRow_nil _ _ _ _),S,bd⟩
  case round=>
   clear k0 i S bd;obtain⟨k,dv,rfl,Z,HJ,HO,HR,HW⟩:=hrel;by_cases h1:k<N
   case neg=>
    obtain rfl:k=N:=by omega
    have C:=HJ.out;have RX:=HR.out;have ho:=HO.out;have O:(aAy q st.rows).drop k=[]:=by rw[U.out];exact List.drop_length
    rw[O]at C;rw[U.out,List.take_length]at ho;have D:=be.out (aAy q st.rows);obtain⟨OA,oc,rfl,-⟩:=aAa ho;obtain⟨M,hM⟩:=ex_ ((aBw q st.rows (aAy q st.rows)).length);have ac:=aA1 ho;rw[<-hM]at ac D⊢;have c3:=hid ac;have c6:=hid (show(aBw q st.rows (aAy q st.rows)).length<=10000 by rw[<-hM];have:=U.out;omega);clear ac ho D hM O HO HR HJ;obtain⟨DA,DC,K,-⟩:=C.at_.form;rw[show(List.map (aCs q) []).length=0 from rfl]at K;subst K;have x0:=C.rd.c0;have r:=z.out (aAy q st.rows) (aBw q st.rows (aAy q st.rows)) (.slice RA k rc) (.slice OA M oc) wr (by have h:=RX;rw[U.out]at h;have h2:=aA1 h;rw[<-U.out]at h2;exact h2) (c3.out) (by rw[<-U.out];omega) (c6.out) b2.out;rw[au.out (aBw q st.rows (aAy q st.rows)) (fun _=>rfl)]at r;have X:=hid r;have i:=hid C;clear r;go_wp2_with fail
    (with_reducible refine(aDw wr).mono ?_)
    rintro e wx ⟨rfl,b⟩;rw[b];clear b wx
    go_wp2_with (first
     | (refine wpList_load_row rfl 29 (.tmp 2) rfl (w.heap.size) rfl 29 q (0,0) _ i.qb underlying29 rfl Tryz.infoQry7 ?_)
     | fail)
    refine(X.out).mono ?_;rintro e w7 ⟨v9,rfl,j,F⟩;obtain⟨B,t,rfl,-⟩:=j.form;obtain⟨y,P⟩:=ex_ R.rows.length;rw[<-P]at j⊢;have ao:=hid j;have a:=hid (i.later F);have ad:(w.heap.size+1+1)≠w.heap.size+1:=by omega
    have G:=a.ob.setRow_ne ad #[.slice B y t,R.value,R.found];have y0:=G.c0;have y1:(w7.setRow (w.heap.size+1) #[.slice B y t,R.value,R.found]).frozen? (w.heap.size+1+1,0)=false:=G.frozen 0;clear F j P i X;unfold resV;dsimp only
    go_wp2_with (first
     | (refine wpList_store_row rfl 35 (.tmp 4) (.tmp 53) rfl (w.heap.size+1) #[.slice B y t,R.value,R.found] rfl rfl 35 _ a.tb Tryz.infoRes3 rfl (by simp[aR]) ?_)
     | fail)
    obtain⟨KF,KB,VF,BF⟩:=aBp ((a.tb.setRow [.slice B y t,R.value,R.found]).other (p:=⟨w.heap.size+1+1,0,none⟩) (by dsimp only;omega) (.bool true)) (G.set 0 (.bool true)) (aJn (aBt ao.out a.tb (by simp) #[.slice B y t,R.value,R.found]) G (by simp) 0 (.bool true)) ((below_setRow a.bel (show w.heap.size<=w.heap.size+1 by omega) #[.slice B y t,R.value,R.found]).setCell (p:=⟨w.heap.size+1+1,0,none⟩) (by dsimp only;omega) (.bool true));generalize (w7.setRow (w.heap.size+1) #[.slice B y t,R.value,R.found]).setCell (w.heap.size+1+1,0) (.bool true)=wf at KF KB VF BF⊢;clear G y0 y1;refine leaves_cons (f:=45) (args:=#[.pointer (some (w.heap.size+1+1,0))]) (by simp) (by simp[go_sem]) ?_;refine(aKj ⟨w.heap.size+1+1,0,none⟩ wf).mono ?_;rintro e u' Y ⟨rfl,rfl,d⟩;rw[d];clear d Y;refine leaves_cons (f:=44) (args:=#[.pointer (some (w.heap.size+1+1,0)),.pointer (some (w.heap.size+1,0))]) (by simp[settle]) (by simp[go_sem]) ?_;refine(aJg ⟨w.heap.size+1+1,0,none⟩ ⟨w.heap.size+1,0,none⟩ wf (KB.cell 0)).mono ?_;rintro e u' Y ⟨rfl,rfl,d⟩;rw[d];clear d Y;obtain⟨k0,k1,k2⟩:=KF.C3;have k3:=KB.c0;simp[Leaves,settle,results,results16,go_sem,k0,k1,k2,k3];exact⟨_,rfl,VF.out,BF.out⟩
   case pos=>
    obtain⟨x,hx⟩:∃x,(aAy q st.rows)[k]? =some x:=⟨_,List.getElem?_eq_getElem (by rw[<-U.out];exact h1)⟩;obtain⟨A',c',he,-,-,a0⟩:=aAa HR.out;injection he with e1 e2 e3
    subst e1 e3;obtain⟨gr,rfl,cL,-,a0⟩:=a0 (by omega)
    have hr:wr.rangeAt gr (0+k*5) x:=fun m u hu=>by
     rw[bS];exact a0 _ _ (aBk rwC 5 aAu _ k m x u hx hu)
    rw[bS]at hr;have b0:=hid hr
    have O:(aAy q st.rows).drop k=x ::(aAy q st.rows).drop (k+1):=by
     obtain⟨bP,e⟩:=bE.1 hx;rw[List.drop_eq_getElem_cons bP,e]
    have aY:=hid (aN5 (q:=q) (L:=st.rows) hx);have hj:=HJ.out;rw[O,List.map_cons]at hj;have bi:=hid hj;have D:=be.out ((aAy q st.rows).take (k+1));rw[aY.out,List.length_append,List.length_take]at D;have aH:(((aAy q st.rows).drop (k+1)).map (aCs q)).length<=1000:=by rw[bT,List.length_drop,<-U.out];omega
    obtain⟨NO,af⟩:=ex_ ((aBw q st.rows ((aAy q st.rows).take k)).length);obtain⟨OA,oc,rfl,-⟩:=aAa HO.out;rw[<-af]at HO D⊢;obtain⟨a6,cb,c5⟩:=aAw (show NO+((aCs q x).rows st.rows).length<=101 by omega) aH af;have q1:(0:Int)<=(k:Int):=by omega
    have q2:(k:Int)<(N:Int):=by omega
    clear a0 hr hx O hj HJ D aH af
    go_upto_region 13 with(first
     | (refine wpList_load_mid rfl 116 (.tmp 33) rfl gr (k*5) rfl x _ b0.out underlying116 rfl Tryz.infoRowSz ?_)
     | (refine aAi rfl 116 (.tmp 10) (.tmp 34) rfl wr.heap.size x _ 116 rfl rfl rfl Tryz.infoRowSz rfl (by simp[aR]) ?_)
     | fail)
    have F:=aF wr (.cells x 116);have k7:BlkIs (wr.alloc (.cells x 116)) wr.heap.size 116 x:=aAp _ _ _ rfl rfl;obtain⟨bW,hX⟩:=ex_ wr.heap.size;generalize wr.alloc (.cells x 116)=w7 at F k7⊢;rw[<-hX]at k7⊢;obtain⟨a,bg,ba,aV,aN,a3⟩:=aIl (bi.later F) (aAb F HO.out) (aAb F HR.out) (bD HW.out F.size) k7 (aQ0 q x w7);clear F k7 hX bi b0 HO HR HW
    (try unfold qV at a3)
    (try unfold rwV at a3)
    go_wp2_with (first
     | (refine wpList_load_row rfl 29 (.tmp 2) rfl (w.heap.size) rfl 29 q (0,0) _ a.qb underlying29 rfl Tryz.infoQry7 ?_)
     | (refine wpList_load_row rfl 116 (.tmp 10) rfl (bW) rfl 116 x (0,0) _ aN.out underlying116 rfl Tryz.infoRowSz ?_)
     | fail)
    (with_reducible refine(a3.out).mono ?_)
    rintro e Y ⟨rfl,b8⟩;obtain⟨a5,ar,bf,b9,aU⟩:=aDs (T.out rb dv (aCs q x) _ Y (a.later b8) (aN0 HG.out c8.out x) cb.out) (a.later b8) (aAb b8 bg.out) (aAb b8 ba.out) (bD aV.out b8.size);clear b8 a bg ba aV aN a3;go_wp2_with fail
    refine(a5.out).mono ?_;rintro e w9 ⟨cD,bB,rfl,E,J9,u9⟩;obtain⟨aL,aa,rfl,-⟩:=aAa E;obtain⟨M9,ag⟩:=ex_ (((aCs q x).rows st.rows).length);rw[<-ag]at E a6⊢;have aG:=aN3 (w:=w9) (base:=Y.heap.size) (e:=116) (size:=5) (n:=M9) (n':=M9) (c:=aa) (xs:=((aCs q x).rows st.rows).flatMap rwC);obtain⟨ce,cd,c1,ca,aq,c2,aT,c7⟩:=aMy (show aL=none->M9=0/\aa=0 from fun e=>aG (by rw[<-e];exact E)) (aIj E) (show(((aCs q x).rows st.rows).flatMap rwC).length=M9*5 from E.1) J9 (aJw u9 ar.rd (by decide) bf.out) (aJw u9 ar.rd (by decide) b9.out) (bD aU.out u9.size) ag;have cN:=a6.out;clear aG E J9 u9 a5 ar bf b9 aU ag;obtain⟨i0,bR,bK,bJ,bI⟩:=aSr
    go_wp2_with (first
     | (refine aAf rfl (.tmp 35) (.tmp 40) 33 rfl OB 116 i0 (rwV rw0) 5 40 underlying33 bR bK bJ bI rfl (by decide) (.slice OA NO oc) NO _ rfl aq.out aL M9 aa (((aCs q x).rows st.rows).flatMap rwC) rfl ce.out c1.out cd.out (aFf aBj _) (by unfold maxLen;omega) (by omega) aT.out ?_
        intro cy cv aE a1;have bh:=hid aE;have bj:=hid (ca.grown a1 (fun k e=>by have:=(aq.lt k e).1;have:=c4.out;omega))
        have bb:=hid (c2.kept a1 (by
         cases bO:(Value.slice (some (gr,0)) N rc).ownBlock with
         | none=>exact .inl rfl
         | some k=>exact .inr (fun e=>by have:=aZ.out k bO;have:=(aq.lt k e.symm).1;omega)))
        have aW:=hid (bD aT.out a1.size);clear aE a1)
     | fail)
    go_roundw
    case rel=>
     refine⟨k+1,bB,by go_num,h1,bj,?_,bb,aW⟩;rw[aY.out,List.length_append,List.flatMap_append,<-c5.out,<-c7.out];exact bh
    case measure=>simp[intOf];omega
variable {w:cB} {n R B:Nat} {xs:List cC}
theorem aRp (v:cC) (l:List (List UInt8)) (w:cB) (h:ListAt w v l) (h8:l.length<=100000) :
 cF prog 120 #[v] w fun e w'=>∃v',e= .returned v'/\w'.ownsRow w.heap.size 9 1 v' l.length (svs l)/\Below w.heap.size w w':=by
 by_cases b:l=[]
 . subst b;obtain⟨A,c,rfl⟩:=h.nil;exact aVn A 0 c [] w rfl (by simp) (fun h=>absurd h (by omega)) (by omega)
 . obtain⟨g,o,c,rfl,f⟩:=h.rows b;refine aVn (some ⟨g,o,none⟩) l.length c (svs l) w (by unfold svs;rw[bT];omega) (fun u a=>?_) (fun _=>⟨g,o,rfl,fun j u a=>?_⟩) h8
   . unfold svs at a;obtain⟨x,_,rfl⟩:=List.mem_map.1 a;rfl
   . unfold svs at a;rw[List.getElem?_map]at a;obtain⟨x,d,rfl⟩:=Option.map_eq_some_iff.1 a;exact f.2.2.2.2 j x d
theorem aAv {base e size c g:Nat} (h:w.ownsRow base e size (.slice (some ⟨g,0,none⟩) n c) n xs) (j:Nat) (u:cC) (hu:xs[j]? =some u):w.cell? ⟨g,j,none⟩=some u:=by
 have:=aIj h _ rfl j u hu
 rwa [Addr.add_mid,bS]at this
theorem aDa {base base':Nat} {e e':cE} {n' k k' m c:Nat} {v':cC} {xs':List cC} (h:w.ownsRow base e n (.slice (some ⟨R,0,none⟩) m c) k xs) (h':w.ownsRow base' e' n' v' k' xs') (he:e≠e') (i:Nat) (u:cC):(w.setCell ⟨R,i,none⟩ u).ownsRow base' e' n' v' k' xs':=
 aAg h' _ _ fun b hb e=>by
  rcases aB6 h h' he with h1|h1
  . rw[h1]at hb;cases hb
  . exact h1 (hb.trans (by rw[e];rfl))
structure OwnR (w:cB) (B:Nat) (rv:cC) (L:List Rw) (s:Sc) (R rc:Nat) (v1 v2 v3 pv:cC) (p0:List (List UInt8)):Prop where
 eq:rv= .slice (some ⟨R,0,none⟩) 1 rc
 row:w.ownsRow B 68 9 rv 1 (rgC L s (v1,v2,v3))
 rows:w.ownsRow B 116 5 v1 (s.cut L).length ((s.cut L).flatMap rwC)
 ps:s.pths L=[p0]
 paths:w.ownsRow B 58 1 v2 1 [pv]
 path:w.ownsRow B 9 1 pv p0.length (svs p0)
 roots:w.ownsRow B 9 1 v3 16 (svs (sumsS L))
theorem OwnR.keep {W:cB} {rv:cC} {L:List Rw} {s:Sc} {rc:Nat} {v1 v2 v3 pv:cC} {p0:List (List UInt8)} (h:OwnR w B rv L s R rc v1 v2 v3 pv p0) {g:Nat} {t:cE} {cs:List cC} (hg:BlkIs w g t cs)
 (t1:t≠68) (t2:t≠116) (t3:t≠58) (t4:t≠9) (hs:w.heap.size<=W.heap.size) (hk:∀k,k≠g->k<w.heap.size->W.heap[k]? =w.heap[k]?):OwnR W B rv L s R rc v1 v2 v3 pv p0:=by
  have key:∀{e size n:Nat} {v:cC} {a:List cC},t≠e->w.ownsRow B e size v n a->W.ownsRow B e size v n a:=fun d c=>
   aA6 (S:=fun j=>j≠g) c ⟨hs,hk⟩ (fun b f e=>(hg.not_row d c) (by rw[f,e]))
  exact⟨h.eq,key t1 h.row,key t2 h.rows,h.ps,key t3 h.paths,key t4 h.path,key t4 h.roots⟩
theorem aJi {N:Nat} {W:cB} {e size:Nat} {v:cC} (h:w.ownsRow B e size v n xs) (hN:N=w.heap.size) (hs:w.heap.size<=W.heap.size) (hk:∀k,B<=k->k<N->W.heap[k]? =w.heap[k]?):W.ownsRow B e size v n xs:=
 aA6 (S:=fun j=>B<=j) h ⟨hs,fun k h1 h2=>hk k h1 (by omega)⟩ fun _ hb=>aAj h hb
theorem OwnR.off {rv:cC} {L:List Rw} {s:Sc} {rc:Nat} {v1 v2 v3 pv:cC} {p0:List (List UInt8)} (h:OwnR w B rv L s R rc v1 v2 v3 pv p0) (h16:(sumsS L).length=16):Off B w.heap.size w (fun W=>RgsAt W rv L [s]):=by
 refine⟨bV _,fun W e f=>?_⟩;have t:=aJi h.row rfl e f;have z:=aJi h.rows rfl e f;have y:=aJi h.paths rfl e f;have x:=aJi h.path rfl e f;have v:=aJi h.roots rfl e f;rw[h.eq]at t;obtain⟨J,H,b,r,-,k⟩:=aAa t;injection b with b _ e3
 subst b e3;obtain⟨G,b,o,-,d⟩:=k (by omega);injection b with b
 injection b with b
 subst b;rw[h.eq];refine⟨_,_,rfl,r,fun _=>⟨R,0,rfl,o,fun j F c=>?_⟩⟩;have m:j=0:=by have:=(bE.1 c).1;simpa using this
 subst m;simp at c;subst c;refine⟨(v1,v2,v3),fun i u A=>by rw[Nat.zero_mul,Nat.add_zero,bS];exact d i u A,⟨aA1 z,?_,aGv v h16.symm⟩⟩;rw[h.ps];obtain⟨E,D,rfl,q,-,g⟩:=aAa y;refine⟨E,D,rfl,q,fun _=>?_⟩;obtain⟨C,rfl,n,-,a⟩:=g (by omega);refine⟨C,0,rfl,n,fun j p l=>?_⟩;have m:j=0:=by have:=(bE.1 l).1;simpa using this
 subst m;simp at l;subst l;exact⟨pv,a 0 pv rfl,aF4 x⟩
theorem aJ2 (rv:cC) (L:List Rw) (s:Sc) (hcut:(s.cut L).length=1) (h16:(sumsS L).length=16) (hpl:∀p∈s.pths L,p.length<=1000) (w:cB) (hr:RgsAt w rv L [s]) :
 cF prog 61 #[.agg #[(3:Int),(),(1:Int),(10:Int),(19:Int),(),(),(),(1:Int),rv]] w fun e w'=>∃rv' R rc v1 v2 v3 pv p0,e= .returned (.agg #[(3:Int),(),(1:Int),(10:Int),(19:Int),(),(),(),(1:Int),rv'])/\OwnR w' w.heap.size rv' L s R rc v1 v2 v3 pv p0/\Below w.heap.size w w':=by
 have T:(s.pths L).length=1:=by unfold Sc.pths cutP;rw[bT,List.length_range];exact hcut
 obtain⟨p0,U⟩:=List.length_eq_one_iff.1 T;have bg:=hpl p0 (by rw[U];exact List.mem_singleton.2 rfl);obtain⟨A,c,rfl,hc,hx⟩:=id hr;obtain⟨g,go,rfl,hg,hj⟩:=hx (by simp);obtain⟨⟨v1,v2,v3⟩,a,B⟩:=hj 0 s rfl;rw[Nat.zero_mul,Nat.add_zero]at a;have t:=aTu B;obtain⟨A1,c1,rfl,-⟩:=B.rows.form;obtain⟨A2,c2,a7,aa,G⟩:=B.paths;rw[U]at a7 aa G;simp only at a7;subst a7;obtain⟨g2,o2,rfl,az,ay⟩:=G (by simp);obtain⟨pv,a9,a8⟩:=ay 0 p0 rfl;rw[Nat.add_zero]at a9;obtain⟨Ap,cp,aw⟩:=a8.len;subst aw;obtain⟨A3,c3,ar⟩:=B.roots.len;simp only at ar;subst ar;have z:=B.rows;have n:=B.roots;rw[h16]at n t a;rw[hcut]at z t a;simp only[List.length_singleton]at t a aa hc;obtain⟨aM,bz,bx⟩:=aAw (fun(W:cB) (q:Below w.heap.size w W)=>aQl (some ⟨g,go,none⟩) 1 c (rgC L s (.slice A1 1 c1,.slice (some ⟨g2,o2,none⟩) 1 c2,.slice A3 16 c3)) W rfl t (fun _=>⟨g,go,rfl,fun j u hu=>(q.cell (p:=⟨g,go+j,none⟩) hg).trans (a j u hu)⟩) (by omega)) (fun(W:cB) (q:Below w.heap.size w W)=>aD5 (.slice A1 1 c1) (s.cut L) W (aDg (z.below q)) (by omega)) (fun(W:cB) (q:Below w.heap.size w W)=>aRp (.slice A3 16 c3) (sumsS L) W (n.below q) (by omega))
 have bw:=hid (fun(W:cB) (q:Below w.heap.size w W)=>bBu (some ⟨g2,o2,none⟩) 1 c2 [.slice Ap p0.length cp] W rfl (by intro u hu;rw[List.mem_singleton]at hu;rw[hu];rfl) (fun _=>⟨g2,o2,rfl,fun j u hu=>by
  have hj:j=0:=by have:=(bE.1 hu).1;simpa using this
  subst hj;simp at hu;subst hu;exact(q.cell (p:=⟨g2,o2,none⟩) az).trans a9⟩) (by omega))
 obtain⟨bu,a5,bC,bt⟩:=aBp (fun(W:cB) (q:Below w.heap.size w W)=>aRp (.slice Ap p0.length cp) p0 W (a8.below q) (by omega)) hcut h16 U;clear hr hx hj a B t G ay a9 a8 z n hpl T U bg hcut h16 hc aa hg az;obtain⟨wb,HZ,HW,HB,KE,KT⟩:=aNb w [(3:Int),(),(1:Int),(10:Int),(19:Int),(),(),(),(1:Int),.slice (some ⟨g,go,none⟩) 1 c] 42 [(),(),(),(),(),(),(),(),(),.slice none 0 0] 42;go_enter func61,ntmps61
 go_upto_region 1 with fail
 rw[<-HW.out];have x9:=KE.c9;go_wp2_with fail
 (with_reducible refine(aM.out wb HB.out).mono ?_)
 rintro e w1 ⟨bU,rfl,ho,b1⟩;obtain⟨Y,aI,aN⟩:=aAw (KE.later b1) (KT.later b1) (aA HB.out b1);obtain⟨RA,rc,rfl,-,-,aq⟩:=aAa ho;obtain⟨R,rfl,aC,-,-⟩:=aq (by omega);have aD:wb.heap.size<=R:=aAj ho rfl;have HR:=hid (show w.heap.size+1<R by have:=HZ.out;omega);have HO:=hid (aAh ho (show w.heap.size<=wb.heap.size from HB.size));have f9:=Y.frozen 9;have y9:=Y.c9;obtain⟨X,ac,D,a0⟩:=aBp (show BlkIs _ w.heap.size 42 [(3:Int),(),(1:Int),(10:Int),(19:Int),(),(),(),(1:Int),.slice (some ⟨R,0,none⟩) 1 rc]from Y.set 9 (.slice (some ⟨R,0,none⟩) 1 rc)) (aI.other (p:=⟨w.heap.size,9,none⟩) (by dsimp only;omega) (.slice (some ⟨R,0,none⟩) 1 rc)) (aN.setCell (p:=⟨w.heap.size,9,none⟩) (bV _) (.slice (some ⟨R,0,none⟩) 1 rc)) (aAg HO.out ⟨w.heap.size,9,none⟩ (.slice (some ⟨R,0,none⟩) 1 rc) (by intro b e;have e:R=b:=Option.some.inj e;subst e;have:=HR.out;dsimp only;omega));clear ho aq aC aD b1 KE KT HB HO Y aI aN aM x9 HZ HW;go_upto_region 2 with fail
 generalize w1.setCell ⟨w.heap.size,9,none⟩ (.slice (some ⟨R,0,none⟩) 1 rc)=w2 at *;clear y9 f9;have x9:=X.c9;go_wp2_with fail
 go_loopw [13] (fun iv wr=>∃rv',BlkIs wr w.heap.size 42 [(3:Int),(),(1:Int),(10:Int),(19:Int),(),(),(),(1:Int),rv']/\BlkIs wr (w.heap.size+1) 42 [(),(),(),(),(),(),(),(),(),.slice none 0 0]/\Below w.heap.size w wr/\((iv= .int .i64 0/\wr=w2/\rv'= .slice (some ⟨R,0,none⟩) 1 rc)\/(iv= .int .i64 1/\∃R rc v1 v2 v3 pv p0,OwnR wr w.heap.size rv' L s R rc v1 v2 v3 pv p0))) (fun iv _=>1-(intOf iv).toNat)
 case atStart=>exact⟨_,X.out,ac.out,D.out,.inl ⟨rfl,rfl,rfl⟩⟩
 case round=>
  obtain⟨rv',hE,hT,hB,hrel⟩:=hrel;rcases hrel with⟨rfl,hwr,rfl⟩|⟨rfl,hown⟩
  . rw[hwr];clear hE hT hB hwr wr;go_upto_region 6 with fail
    clear x9
    have HS:=hid (fun(W:cB) (q:Below w2.heap.size w2 W)=>by
     have ho:=aAb q a0.out;exact(show(fun W=>W.cell? ⟨R,6,none⟩=some (.slice A1 1 c1)/\W.cell? ⟨R,7,none⟩=some (.slice (some ⟨g2,o2,none⟩) 1 c2)/\W.cell? ⟨R,8,none⟩=some (.slice A3 16 c3)) W from⟨aAv ho 6 _ rfl,aAv ho 7 _ rfl,aAv ho 8 _ rfl⟩))
    have Z:Below w2.heap.size w2 w2.drew:=bF (aX _ _);have x:=hid (fun(W:cB) (q:Below w2.heap.size w2 W)=>D.trans (q.mono D.size));refine wp_region_noPanic ?_;refine aKw (fun W=>W.cell? ⟨R,6,none⟩=some (.slice A1 1 c1)/\W.cell? ⟨R,7,none⟩=some (.slice (some ⟨g2,o2,none⟩) 1 c2)/\W.cell? ⟨R,8,none⟩=some (.slice A3 16 c3)) 16 9 1 2 [(0,false),(3,false),(4,false),(5,false),(6,false),(8,false),(9,false),(10,false),(11,false),(13,false),(14,false),(15,false),(16,false),(7,true),(12,true),(17,true)] (oi:=?oi1) (oj:=?oj1) (v:=?v1) (u:=?u1) (by kernel_rfl) rfl ?hi1 ?hj1 (by decide) (by decide) rfl ?hsel1 ?hsink1 ?hchain1 (by decide) ?hf1 ?hr1 ?hff1 ?hrr1 ?hok1 (fun _ _ _ _ _ h=>h) (Or.inl ⟨?hw1,?hy1⟩) (Or.inl ⟨?hww1,?hyy1⟩) (HS.out _ Z) (fun C=>?_)
    case hi1=>simp only[bQ,List.getElem?_cons_succ,bM];rfl
    case hj1=>simp only[bQ,List.getElem?_cons_succ,bM];rfl
    case hsel1=>kernel_rfl
    case hsink1=>kernel_rfl
    case hchain1=>kernel_rfl
    case hf1=>kernel_rfl
    case hr1=>kernel_rfl
    case hff1=>kernel_rfl
    case hrr1=>kernel_rfl
    case hok1=>kernel_rfl
    case hw1=>rfl
    case hy1=>intro w;go_simp;try with_reducible rfl
    case hww1=>rfl
    case hyy1=>intro w;go_simp;try with_reducible rfl
    refine aBq ?_;refine aBi.A0 ?_;refine aBi.A0 ?_;refine aBi.A0 ?_;refine aBi.A0 ?_;refine aBi.A0 ?_;refine aBi.A0 ?_;refine aBi.A0 ?_;refine aBi.A0 ?_;refine aBi.A0 ?_;refine aBi.A0 ?_;refine aBi.A0 ?_;refine aBi.A0 ?_;refine aBi.A0 ?_;refine aBi.P0 ?_;intro K N;go_simp;go_at_call 52
    (with_reducible refine(bz.out _ (x.out _ Z)).mono ?_)
    rintro e w3 ⟨r1,rfl,k1,b3⟩;replace Z:=aA Z b3;have a6:=b3.size;clear b3;try go_simp
    refine N.out _ _ (HS.out _ Z) (fun _=>?_);clear N K;refine aBq ?_;refine aBi.P0 ?_;intro K N;go_simp;go_at_call 120
    (with_reducible refine(bx.out _ (x.out _ Z)).mono ?_)
    rintro e w4 ⟨r3,rfl,k3,b4⟩;replace Z:=aA Z b4;replace k1:=aAb b4 k1;have aj:=b4.size;clear b4;try go_simp
    refine N.out _ _ (HS.out _ Z) (fun _=>?_);clear N K;refine aBq ?_;refine aBi.P0 ?_;intro K N;go_simp;go_at_call 121
    (with_reducible refine(bw.out _ (x.out _ Z)).mono ?_)
    rintro e w5 ⟨r2,rfl,k2,b5⟩;replace Z:=aA Z b5;replace k1:=aAb b5 k1;replace k3:=aAb b5 k3;clear b5;try go_simp
    refine N.out _ _ (HS.out _ Z) (fun _=>?_);clear N K;refine aBq ?_;refine aBi.done ?_;simp only[List.drop_succ_cons,List.drop_zero];obtain⟨J,f,rfl,-⟩:=aAa k1;obtain⟨H,d,rfl,-⟩:=aAa k3;obtain⟨B2,E,rfl,-,-,G⟩:=aAa k2;obtain⟨i,rfl,aE,-,-⟩:=G (by omega);clear G;have bh:w4.heap.size<=i:=aAj k2 rfl;have o:=aAb Z a0.out;have P:=x.out _ Z;have aJ:=hid (X.later Z);have aH:=hid (ac.later Z);rw[a5.out]at k1⊢;rw[bC.out]at k3⊢;have aB:R<w2.heap.size:=(a0.lt _ rfl).2;have S:=(bF (aX w2.heap.size w2)).size;have aL:=hid (show R<i by omega);have bs:=hid (show w.heap.size<=i by have:=HR.out;have:=aL.out;omega);have ap:=aAh k1 (show w.heap.size<=_ from bD D.size S);have am:=aAh k3 (show w.heap.size<=_ from bD (bD D.size S) a6);have an:=aAh k2 (show w.heap.size<=_ from bD (bD (bD D.size S) a6) aj);have f6:=o.frozenAt 6;have f7:=o.frozenAt 7;have f8:=o.frozenAt 8;have O:=hid (show _ from(((o.stored 6 (.slice J 1 f)).1.stored 8 (.slice H 16 d)).1.stored 7 (.slice (some ⟨i,0,none⟩) 1 E)).1);have r:=(o.stored 6 (.slice J 1 f)).1;have F:=(r.stored 8 (.slice H 16 d)).1;obtain⟨bq,bp,aK⟩:=aAw (aDa F (aDa r (aDa o ap (by decide) 6 (.slice J 1 f)) (by decide) 8 (.slice H 16 d)) (by decide) 7 (.slice (some ⟨i,0,none⟩) 1 E)) (aDa F (aDa r (aDa o am (by decide) 6 (.slice J 1 f)) (by decide) 8 (.slice H 16 d)) (by decide) 7 (.slice (some ⟨i,0,none⟩) 1 E)) (aDa F (aDa r (aDa o an (by decide) 6 (.slice J 1 f)) (by decide) 8 (.slice H 16 d)) (by decide) 7 (.slice (some ⟨i,0,none⟩) 1 E));have ab:=HR.out;obtain⟨bn,bk,ae⟩:=aAw (((aJ.other (p:=⟨R,6,none⟩) (by dsimp only;omega) (.slice J 1 f)).other (p:=⟨R,8,none⟩) (by dsimp only;omega) (.slice H 16 d)).other (p:=⟨R,7,none⟩) (by dsimp only;omega) (.slice (some ⟨i,0,none⟩) 1 E)) (((aH.other (p:=⟨R,6,none⟩) (by dsimp only;omega) (.slice J 1 f)).other (p:=⟨R,8,none⟩) (by dsimp only;omega) (.slice H 16 d)).other (p:=⟨R,7,none⟩) (by dsimp only;omega) (.slice (some ⟨i,0,none⟩) 1 E)) (((P.setCell (p:=⟨R,6,none⟩) (by dsimp only;omega) (.slice J 1 f)).setCell (p:=⟨R,8,none⟩) (by dsimp only;omega) (.slice H 16 d)).setCell (p:=⟨R,7,none⟩) (by dsimp only;omega) (.slice (some ⟨i,0,none⟩) 1 E));clear r F k1 k2 k3 ap an am o P aJ aH Z C ab bh aE S a6 aj aB;go_wp2_with fail
    refine NoPanic.normal ?_;generalize ((w5.setCell ⟨R,6,none⟩ (.slice J 1 f)).setCell ⟨R,8,none⟩ (.slice H 16 d)).setCell ⟨R,7,none⟩ (.slice (some ⟨i,0,none⟩) 1 E)=w6 at *;clear f6 f7 f8 HS x X ac D a0;replace O:=hid (show w6.ownsRow w.heap.size 68 9 (.slice (some ⟨R,0,none⟩) 1 rc) 1 (rgC L s (.slice J 1 f,.slice (some ⟨i,0,none⟩) 1 E,.slice H 16 d))from O.out);have x7:w6.cell? ⟨R,7,none⟩=some (.slice (some ⟨i,0,none⟩) 1 E):=aAv O.out 7 _ rfl;go_wp2_with fail
    clear x7;go_loopw [49] (fun iv wr=>(iv= .int .i64 0/\wr=w6)\/(iv= .int .i64 1/\BlkIs wr w.heap.size 42 [(3:Int),(),(1:Int),(10:Int),(19:Int),(),(),(),(1:Int),.slice (some ⟨R,0,none⟩) 1 rc]/\BlkIs wr (w.heap.size+1) 42 [(),(),(),(),(),(),(),(),(),.slice none 0 0]/\Below w.heap.size w wr/\∃M,OwnR wr w.heap.size (.slice (some ⟨R,0,none⟩) 1 rc) L s R rc (.slice J 1 f) (.slice (some ⟨i,0,none⟩) 1 E) (.slice H 16 d) M p0)) (fun iv _=>1-(intOf iv).toNat)
    case atStart=>exact .inl ⟨rfl,rfl⟩
    case round=>
     rcases hrel with⟨rfl,hwr⟩|⟨rfl,hE,hT,hB,M,hown⟩
     . rw[hwr];clear hwr wr;go_upto_region 10 with fail
       have HS:=hid (fun(W:cB) (q:Below w6.heap.size w6 W)=>(show(fun W=>W.cell? ⟨R,7,none⟩=some (.slice (some ⟨i,0,none⟩) 1 E)/\W.cell? ⟨i,0,none⟩=some (.slice Ap p0.length cp)) W from⟨aAv (aAb q O.out) 7 _ rfl,aAv (aAb q aK.out) 0 _ rfl⟩));have Z:Below w6.heap.size w6 w6.drew:=bF (aX _ _);have x:=hid (fun(W:cB) (q:Below w6.heap.size w6 W)=>ae.trans (q.mono ae.size));refine wp_region_noPanic ?_;refine aGd (fun W=>W.cell? ⟨R,7,none⟩=some (.slice (some ⟨i,0,none⟩) 1 E)/\W.cell? ⟨i,0,none⟩=some (.slice Ap p0.length cp)) 12 2 0 [(1,false),(2,false),(3,false),(4,false),(5,false),(6,false),(7,false),(8,false),(9,false),(10,false),(11,false),(12,true)] (oi:=?oi2) (v:=?v2) (by kernel_rfl) rfl ?hi2 (by decide) rfl ?hsel2 ?hsink2 ?hchain2 (by decide) ?hf2 ?hr2 ?hok2 (fun _ _ _ _ _ h=>h) (Or.inl ⟨?hw2,?hy2⟩) (HS.out _ Z) (fun C=>?_)
       case hi2=>simp only[bQ,bM];rfl
       case hsel2=>kernel_rfl
       case hsink2=>kernel_rfl
       case hchain2=>kernel_rfl
       case hf2=>kernel_rfl
       case hr2=>kernel_rfl
       case hok2=>kernel_rfl
       case hw2=>rfl
       case hy2=>intro w;go_simp;try with_reducible rfl
       refine aBq ?_;refine aBi.A0 ?_;refine aBi.A0 ?_;refine aBi.A0 ?_;refine aBi.A0 ?_;refine aBi.A0 ?_;refine aBi.A0 ?_;refine aBi.A0 ?_;refine aBi.A0 ?_;refine aBi.A0 ?_;refine aBi.A0 ?_;refine aBi.A0 ?_;refine aBi.P0 ?_;intro K N;go_simp;go_at_call 120
       (with_reducible refine(bu.out _ (x.out _ Z)).mono ?_)
       rintro e w7 ⟨p1,rfl,k5,b7⟩;replace Z:=aA Z b7;clear b7;try go_simp
       refine N.out _ _ (HS.out _ Z) (fun _=>?_);clear N K;refine aBq ?_;refine aBi.done ?_;simp only[List.drop_succ_cons,List.drop_zero];obtain⟨Q,l,rfl,-⟩:=aAa k5;have ai:=(bF (aX w6.heap.size w6)).size;have ak:=aAh k5 (show w.heap.size<=_ from bD ae.size ai);have ax:=aAb Z O.out;have ao:=aAb Z bq.out;have al:=aAb Z bp.out;have y:=aAb Z aK.out;have P:=x.out _ Z;have f0:=y.frozenAt 0;have T:=bs.out;have bf:=aL.out;have ab:=HR.out;have au:=(y.stored 0 (.slice Q p0.length l)).1;obtain⟨bl,bj,bB⟩:=aAw ((bn.later Z).other (p:=⟨i,0,none⟩) (by dsimp only;omega) (.slice Q p0.length l)) ((bk.later Z).other (p:=⟨i,0,none⟩) (by dsimp only;omega) (.slice Q p0.length l)) (P.setCell (p:=⟨i,0,none⟩) (by dsimp only;omega) (.slice Q p0.length l))
       have ad:=hid (show OwnR (w7.setCell ⟨i,0,none⟩ (.slice Q p0.length l)) w.heap.size (.slice (some ⟨R,0,none⟩) 1 rc) L s R rc (.slice J 1 f) (.slice (some ⟨i,0,none⟩) 1 E) (.slice H 16 d) (.slice Q p0.length l) p0 from
         ⟨rfl,aDa y ax (by decide) 0 (.slice Q p0.length l),by rw[a5.out];exact aDa y ao (by decide) 0 (.slice Q p0.length l),bt.out,au,aDa y ak (by decide) 0 (.slice Q p0.length l),aDa y al (by decide) 0 (.slice Q p0.length l)⟩)
       clear au ax ao al y k5 ak P T bf ab ai Z C;go_wp2_with fail
       refine NoPanic.normal ?_;generalize w7.setCell ⟨i,0,none⟩ (.slice Q p0.length l)=w8 at *;go_wp2_with fail
       exact⟨.inr ⟨rfl,bl.out,bj.out,bB.out,_,ad.out⟩,by simp[intOf]⟩
     . go_wp2_with fail
       exact⟨⟨_,hE,hT,hB,.inr ⟨rfl,R,rc,_,_,_,M,p0,hown⟩⟩,by simp[intOf]⟩
  . obtain⟨V,m,bc,bb,ba,M,bd,hown⟩:=hown;obtain⟨HE,HT,bA,ad⟩:=aBp hE hT hB hown;have av:=hown.eq;subst av;clear hE hT hB hown
    go_wp2_with (first
     | (refine wpList_load_row rfl 42 (.tmp 1) rfl (w.heap.size) rfl 42 #[(3:Int),(),(1:Int),(10:Int),(19:Int),(),(),(),(1:Int),.slice (some ⟨V,0,none⟩) 1 m] (0,0) _ HE.out underlying42 rfl Tryz.infoEnt ?_)
     | (refine wpList_store_row rfl 42 (.tmp 2) (.tmp 68) rfl (w.heap.size+1) #[(3:Int),(),(1:Int),(10:Int),(19:Int),(),(),(),(1:Int),.slice (some ⟨V,0,none⟩) 1 m] rfl rfl 42 _ HT.out Tryz.infoEnt rfl (by simp[aR]) ?_)
     | fail)
    obtain⟨KF,BF,OF⟩:=aAw (HT.setRow [(3:Int),(),(1:Int),(10:Int),(19:Int),(),(),(),(1:Int),.slice (some ⟨V,0,none⟩) 1 m]) (below_setRow bA.out (show w.heap.size<=w.heap.size+1 by omega) #[(3:Int),(),(1:Int),(10:Int),(19:Int),(),(),(),(1:Int),.slice (some ⟨V,0,none⟩) 1 m]) (ad.keep (W:=wr.setRow (w.heap.size+1) #[(3:Int),(),(1:Int),(10:Int),(19:Int),(),(),(),(1:Int),.slice (some ⟨V,0,none⟩) 1 m]) HT.out (by decide) (by decide) (by decide) (by decide) (Nat.le_of_eq (aE0 wr _ _).symm) (fun k hk _=>setRow_other wr (w.heap.size+1) k #[(3:Int),(),(1:Int),(10:Int),(19:Int),(),(),(),(1:Int),.slice (some ⟨V,0,none⟩) 1 m] hk));generalize wr.setRow (w.heap.size+1) #[.int .i64 3,.int .i64 0,.int .i64 1,.int .i64 10,.int .i64 19,.int .i64 0,.int .i64 0,.int .i64 0,.int .i64 1,.slice (some ⟨V,0,none⟩) 1 m]=wf at KF BF OF⊢;refine bodyPost_ret (results_cell_row rfl _ _ (w.heap.size+1) 42 #[(3:Int),(),(1:Int),(10:Int),(19:Int),(),(),(),(1:Int),.slice (some ⟨V,0,none⟩) 1 m] (0,0) _ rfl KF.out underlying42 rfl Tryz.infoEnt) rfl ?_;exact⟨_,V,m,bc,bb,ba,M,bd,rfl,OF.out,BF.out⟩
end
end Go.Proofs.YtmhpfoicloojcaaGreatDoor
