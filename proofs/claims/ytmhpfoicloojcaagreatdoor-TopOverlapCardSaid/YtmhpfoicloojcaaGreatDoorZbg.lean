/- Walks: range, orders, summaries. -/
import Derived.Test.YtmhpfoicloojcaaGreatDoorZbe
import Derived.Test.YtmhpfoicloojcaaGreatDoorZbd
import Derived.Test.YtmhpfoicloojcaaGreatDoorZbf
set_option linter.all false
open Go.World renaming size_alloc→aE,ownsRow_nil→bM,putObj_heap_other→bW,grownBy_alloc→cD
open Option renaming ne_none_iff_exists'→bK
open List renaming length_append→bL,Perm→bU,flatMap_cons→bX,take_of_length_le→cA,filter_cons→cB,length_filter_le→cC,flatMap_append→cE
open Nat renaming le_refl→bR,lt_of_lt_of_le→bT
open Go.Value renaming ownBlock→bV
open Go.RowKit.Below renaming grown→bY
open Go renaming World→cF,Value→cG,TypeId→cH,Calls→cI
namespace Go.Proofs.YtmhpfoicloojcaaGreatDoor
open Below renaming next→a2,alloc1→bH
open BlkIs renaming new→bN,alloc→bZ
set_option maxRecDepth 100000
set_option maxHeartbeats 16000000
section
open Go.Proofs.Tryz
open Go Go.RowKit
attribute [local go_sem] Oper.semAt_some
variable {w:cF}
theorem Tryz.infoRow:(prog.info? 116).map (fun i=>(i.zero,i.size,i.bytes))=some (some (.agg #[(),(),(),(),()]),5,40):=by kernel_rfl
theorem aJa:∃i,prog.info? 116=some i/\i.zero=some (.agg #[(),(),(),(),()])/\i.size=5/\i.bytes=40:=by
 obtain⟨d,e,c,b,a⟩:=info_parts Tryz.infoRow;exact⟨d,e,c,b,a⟩
def bDr (g:Nat) (lb:Array cG) (p:Rw->Bool) (w:cF):Prop:=
 ∀(W:cF) (x:Rw),Below w w W->cI prog g (#[rwV x]++lb) W fun e w'=>e= .returned (.bool (p x))/\Below W W w'
theorem aT0 {L:List Rw} {left:Rw->Bool} {x:Rw} (hn:L.Nodup) (hx:x∈L) (hl:left x=true):(x :: L.filter (fun y=>left y&&!decide (y=x))).Perm (L.filter left):=by
 induction L with
 | nil=>simp at hx
 | cons a L ih=>
   obtain⟨f,c⟩:=List.nodup_cons.1 hn;by_cases e:x=a
   . subst e;rw[cB,cB];simp only[hl,decide_true,Bool.not_true,Bool.and_false,Bool.false_eq_true,if_false,if_true];refine bU.cons _ ?_;rw[List.filter_congr (q:=left)];intro y d;have:¬y=x:=fun e=>f (e▸d);simp[this]
   . have b:x∈L:=by
      rcases List.mem_cons.1 hx with h|h
      . exact absurd h e
      . exact h
     rw[cB,cB];have g:¬a=x:=fun h=>e h.symm;simp only[g,decide_false,Bool.not_false,Bool.and_true];split
     . exact(bU.swap _ _ _).trans (bU.cons _ (ih c b))
     . exact ih c b
theorem Below.by_ {w':cF} (h:Below w w w') (row:Option Nat):w.grownBy w' row:=⟨h.os,h.tape,h.output,h.size,fun k hk _=>h.block k hk⟩
theorem aAh {base base':Nat} {e:cH} {size:Nat} {v:cG} {n:Nat} {xs:List cG} (h:w.ownsRow base e size v n xs) (hb:base'<=base):w.ownsRow base' e size v n xs:=by
 refine⟨h.1,?_⟩;rcases h.2 with h0|⟨g,cap,cur,hv,hg,rest⟩
 . exact .inl h0
 . exact .inr ⟨g,cap,cur,hv,Nat.le_trans hb hg,rest⟩
theorem aAj {base:Nat} {e:cH} {size:Nat} {v:cG} {n:Nat} {xs:List cG} (h:w.ownsRow base e size v n xs) {k:Nat} (hk:v.ownBlock=some k):base<=k:=(h.lt k hk).1
structure ChJ (w:cF) (B m bx:Nat) (L:List Rw) (p:Rw->Bool) (c:Int) (r:Nat) (v:cG) (wr:cF):Prop where
 go:∃(left:Rw->Bool) (dn:List Rw),MapGo prog 207 wr m r L left (wr.rangeLeft m r)/\wr.ownsRow B 116 5 v dn.length (dn.flatMap rwC)/\(dn++L.filter (fun x=>left x&&p x)).Perm (L.filter p)
 col:wr.cell? (bx,0)=some (.int .i64 c)
 below:Below w w wr
 size:B<=wr.heap.size
theorem aVp (b m:Nat) (s:StT) (c:Int) (g:Nat) (lb:Array cG) (p:Rw->Bool) (t:Int) (hpt:∀r,p r=true->r.table=t) (w:cF) (hS:StAt w b m s) (gd:GoodS s) (hp:bDr g lb p w)
 (eg:∀args w,(callFunc g args).run prog w= .ok (.enter g args) w) :
 cI prog 112 #[.pointer (some (b,0)),.int .i64 c,.func (.func g) #[] lb] w fun e w'=>∃v,e= .returned v/\w'.ownsRow w.heap.size 116 5 v (aQ4 s.rows p c).length ((aQ4 s.rows p c).flatMap rwC)/\Below w w w':=by
 have a1:=bH w (.cells #[c] 3);have K1:=bN w 3 #[c];have ak:=hS.below a1;obtain⟨H,ap,l,aj,N⟩:=MapAt.range aSs ak.map aLl gd.sort gd.rows64;have a4:(w.alloc (.cells #[c] 3)).heap.size=w.heap.size+1:=aE _ _;rw[a4]at N;have HM:=hid (And.intro hS.map.lt (And.intro hS.blk.lt gd))
 have hJ:ChJ w H.heap.size m w.heap.size s.rows p c (w.heap.size+1) (.slice none 0 0) H:=by
  rw[a4]at l;refine⟨⟨fun _=>true,[],?_,bM _ _ _ _,by simp⟩,?_,?_,bR _⟩
  . rw[l.left_eq];exact l
  . exact aj.cell (K1.cell 0) (by simp)
  . exact bY a1 aj a1.size (fun k e=>by cases e)
 rw[a4]at ap;have c0:=ak.blk.c0;obtain⟨HJ,HP,aN,HZ⟩:=aBp hJ hp hpt N;clear hS ak a1 K1 l hJ hp aj N gd hpt a4;obtain⟨i0,aI,aH,aG,N⟩:=aJa;go_enter func112,ntmps112
 go_wp2_with fail
 clear c0 ap;go_loopw [7] (fun sv wr=>∃v,v=sv/\Hid (ChJ w H.heap.size m w.heap.size s.rows p c (w.heap.size+1) v wr)) (fun _ wr=>wr.rangeLeft m (w.heap.size+1))
 case atStart=>exact⟨_,rfl,HJ⟩
 case round=>
  clear HJ;obtain⟨v,rfl,HR⟩:=hrel;obtain⟨⟨left,B,l,d,a⟩,D,o,hB⟩:=HR.out;have av:=HM.2.2.rows64;rcases l.next aSs av 0 with⟨hall,hrun⟩|⟨x,w4,cnt,hx,hlx,hrun,hgo4,hcnt,hg4,hz4,hent⟩
  . have a9:s.rows.filter (fun x=>left x&&p x)=[]:=by
     rw[List.filter_eq_nil_iff];intro x hx;simp[hall x hx]
    rw[a9,List.append_nil]at a
    have a6:B.length<=2000:=by
     have h1:=a.length_eq;have h2:=cC p s.rows;have h3:=HM.2.2.small;omega
    have aJ:v.ownBlock≠some w.heap.size:=fun e=>by have:=aAj d e;have:=HZ.out;omega
    have HS:=hid (aWm d D aJ (by omega));obtain⟨vA,vc,rfl,-,-,-⟩:=aAa d;obtain⟨al,ad,ac⟩:=aAw a o d;clear a o d l hall a9 D HR a6;go_wp2_with fail
    refine(HS.out).mono ?_;rintro e G ⟨rfl,L',ah,ao,a8,g5⟩;have hL:L'=aQ4 s.rows p c:=aT9 HM.2.2.sort aN.out c (ah.trans al.out) ao;subst hL;have ar:Below w w G:=bY ad.out g5 ad.size (fun k e=>by have:=aAj ac.out e;have:=HZ.out;omega);have aa:B.length=(aQ4 s.rows p c).length:=ah.length_eq.symm;have HF:=hid (And.intro a8 (And.intro ar aa));clear ah ao a8 g5 ar aa ac;go_wp2_with fail
    go_ret;obtain⟨f1,f2,f3⟩:=HF.out;exact⟨_,rfl,aAh f1 (by have:=HZ.out;omega),f2⟩
  . have O:=d.kept hg4 (by
     right;intro e;have:=aAj d e;have:=HZ.out;omega)
    have A:w4.cell? (w,0)=some (.int .i64 c):=hg4.cell D (by simp);have i:Below w w w4:=bY o hg4 o.size (fun k e=>by cases e;omega)
    have b2:B.length<=2000:=by
     have h1:=a.length_eq;have h2:=cC p s.rows;have h3:=HM.2.2.small;rw[bL]at h1;omega
    have hm:=HM.1;have aF:=HZ.out;have z:=HP.out;obtain⟨G,ag⟩:=ex_ (w4.alloc (.cells (rwC x).toArray 116));have V:Below w4 w4 G:=by rw[ag];exact bH _ _
    have Q:=z G x (Below.trans i (V.mono i.size))
    have step:∀f,Below G G f->∀(v7:cG) (X:cF) (row:Option Nat),f.grownBy X row->(∀k,row=some k->H.heap.size<=k)->∀R,X.ownsRow H.heap.size 116 5 v7 R.length (R.flatMap rwC)->(R++s.rows.filter (fun y=>(left y&&!decide (y=x))&&p y)).Perm (s.rows.filter p)->
        ChJ w H.heap.size m w.heap.size s.rows p c (w.heap.size+1) v7 X/\X.rangeLeft m (w.heap.size+1)<wr.rangeLeft m (w.heap.size+1):=by
     intro f F v7 X row g7 C R M af;have aL:=hgo4.kept (Below.by_ V none) (by simp) (by simp);have aK:=aL.kept (Below.by_ F none) (by simp) (by simp);have aw:=aK.kept g7 (fun e=>by have:=C m e.symm;omega) (fun e=>by have:=C _ e.symm;omega);have a6:=aw.left_eq;have ab:Below w w f:=Below.trans i (((V.trans (F.mono V.size))).mono i.size);refine⟨⟨⟨_,R,a6▸aw,M,af⟩,?_,bY ab g7 ab.size (fun k e=>by have:=C k e;omega),?_⟩,by rw[a6];exact hcnt⟩
     . have ax:f.cell? (w,0)=some (.int .i64 c):=((V.trans (F.mono V.size)).cell (p:=⟨w.heap.size,0,none⟩) (aAl A)).trans A;exact g7.cell ax (fun e=>by have h9:H.heap.size<=w.heap.size:=C _ e.symm;omega)
     . have:=V.size;have:=F.size;have:=g7.size;have:=hg4.size;omega
    have aq:s.rows.Nodup:=List.Pairwise.imp (fun hb e=>by subst e;unfold Rw.before at hb;omega) HM.2.2.sort
    have au:∀f,Below G G f->H.heap.size<=f.heap.size:=fun f F=>by
     have:=V.size;have:=F.size;have:=hg4.size;omega
    have a7:∀f,Below G G f->f.ownsRow H.heap.size 116 5 v B.length (B.flatMap rwC):=fun f F=>aAb F (aAb V O)
    have J:p x=true->((B++[x])++s.rows.filter (fun y=>(left y&&!decide (y=x))&&p y)).Perm (s.rows.filter p):=by
     intro e;rw[List.append_assoc];refine bU.trans (bU.append_left B ?_) a;refine bU.trans ?_ (aT0 (left:=fun y=>left y&&p y) aq hx (by simp[hlx,e]))
     have e2:(fun y=>left y&&!decide (y=x)&&p y)=fun y=>left y&&p y&&!decide (y=x):=by
      funext y
      cases left y <;> cases p y <;> simp
     rw[e2];exact bU.refl _
    have L:p x=false->(B++s.rows.filter (fun y=>(left y&&!decide (y=x))&&p y)).Perm (s.rows.filter p):=by
     intro e;refine bU.trans (bU.append_left B ?_) a;rw[List.filter_congr (q:=fun y=>left y&&p y)];intro y _;by_cases h:y=x
     . subst h;simp[e]
     . simp[h]
    obtain⟨az,aR,aC,aA,aO,HC,S⟩:=aMz step au a7 J L Q ag;have P:=aBh [x];simp only[bX,List.flatMap_nil,List.append_nil]at P;have T:=hid P;clear step au a7 J L Q ag z a d O D A o i hB l hgo4 hcnt hg4 hz4 V hm aF aq hx hlx av HR P;obtain⟨Y,Z,r0,r1,r2⟩:=x;unfold rwV idV at hrun hent;unfold rwV at HC;unfold rwC at S T;dsimp only at hrun hent HC S T;go_wp2_with fail
    rw[<-S.out];refine(HC.out).mono ?_;rintro e f ⟨rfl,F⟩;have U:=hid F
    have K5:f.cell? (w4,0)=some (.int .i64 Y)/\f.cell? (w4,1)=some (.int .i64 Z)/\f.cell? (w4,2)=some (.int .i64 r0)/\f.cell? (w4,3)=some (.int .i64 r1)/\f.cell? (w4,4)=some (.int .i64 r2):=by
     have K:BlkIs G w4 116 [Y,Z,r0,r1,r2]:=by rw[S.out];exact bN w4 _ _
     have K:=K.later F;exact⟨K.cell 0,K.cell 1,K.cell 2,K.cell 3,K.cell 4⟩
    obtain⟨k0,k1,k2,k3,k4⟩:=K5;clear F hrun hent HC S;cases z:p ⟨Y,Z,r0,r1,r2⟩
    case false=>
     have HE:=hid z;clear z;go_wp2_with fail
     have n:=az.out f U.out v f none (World.grownBy.refl _ _) (fun k e=>by cases e) B (aC.out f U.out) (aO.out HE.out);exact⟨⟨v,rfl,hid n.1⟩,n.2⟩
    case true=>
     have HE:=hid z;have d:=aC.out f U.out;have b5:=aR.out f U.out
     have E:∀(j:Nat) u,[Value.int .i64 Y,Z,r0,r1,r2][j]? =some u->(f.alloc (.cells #[Y,Z,r0,r1,r2] 116)).cell? ((⟨f.heap.size,0,none⟩:Addr).add j)=some u:=fun j u hu=>by
      rw[aBm,(bN f 116 _).cell];exact hu
     have aQ:=hid E;have aB:=hid d;clear z E d;go_wp2_with (at_builtin;refine wpList_append_own _ rfl _ _ 33 rfl H.heap.size 116 i0 _ 5 40 underlying33 aI aH aG N rfl (by decide) v B.length (B.flatMap rwC) rfl (aB.alloc _) ⟨f.heap.size,0,none⟩ 1 1 [Y,Z,r0,r1,r2] rfl rfl aQ.out T.out (by unfold maxLen;omega) (by omega) (by rw[aE];omega) ?_;intro v7 X M g7 _)
     have hg:f.grownBy X v.ownBlock:=(cD f _ v.ownBlock).trans g7
     have ai:X.ownsRow H.heap.size 116 5 v7 (B++[(⟨Y,Z,r0,r1,r2⟩:Rw)]).length ((B++[(⟨Y,Z,r0,r1,r2⟩:Rw)]).flatMap rwC):=by
      rw[bL,cE];exact M
     have n:=az.out f U.out v7 X v.ownBlock hg (fun k e=>aAj aB.out e) (B++[(⟨Y,Z,r0,r1,r2⟩:Rw)]) ai (aA.out HE.out);exact⟨⟨v7,rfl,hid n.1⟩,n.2⟩
theorem bC0 (x:Rw) (t c lo hi:Int) (bc bt bl bh:Nat) (w:cF) (h1:w.cell? (bc,0)=some (.int .i64 c)) (h2:w.cell? (bt,0)=some (.int .i64 t)) (h3:w.cell? (bl,0)=some (.int .i64 lo)) (h4:w.cell? (bh,0)=some (.int .i64 hi)) :
 cI prog 113 #[rwV x,.pointer (some (bc,0)),.pointer (some (bt,0)),.pointer (some (bl,0)),.pointer (some (bh,0))] w fun e w'=>e= .returned (.bool (inR t c lo hi x))/\Below w w w':=by
 have d:=fun W=>aB5 x c W;have D:inR t c lo hi x=(decide (x.table=t)&&(decide (lo<=x.val c)&&decide (x.val c<=hi))):=rfl;rw[D];generalize x.val c=v at *;obtain⟨b,z,C,B,A⟩:=x;have m:=aAl h1;have l:=aAl h2;have k:=aAl h3;have j:=aAl h4;dsimp only at m l k j;have f:=bH w (.cells (rwC ⟨b,z,C,B,A⟩).toArray 116);have g:=bN w 116 (rwC ⟨b,z,C,B,A⟩).toArray;unfold rwV at d⊢;unfold rwC at f g;dsimp only at d f g⊢;obtain⟨u,q⟩:∃y,decide (b=t)=y:=⟨_,rfl⟩;obtain⟨G,J⟩:∃y,decide (lo<=v)=y:=⟨_,rfl⟩;obtain⟨F,H⟩:∃y,decide (v<=hi)=y:=⟨_,rfl⟩;rw[q,J,H];have L:(b== t)=u:=q;obtain⟨K,h,s⟩:=aAw d (And.intro m (And.intro l (And.intro k j))) (And.intro h1 (And.intro h2 (And.intro h3 h4)));clear d D m l k j h2 h3 h4 q;go_enter func113,ntmps113
 have o:=h.1;go_wp2_with fail
 generalize n:w.alloc (.cells _ 116)=w2 at *;clear n o;refine(K.out w2).mono ?_;rintro e i ⟨rfl,r⟩;have a:=a2 f r;have E:=g.later r;have P:=E.c0;have O:i.cell? (bt,0)=some (.int .i64 t):=(a.cell (p:=⟨bt,0,none⟩) h.2.1).trans s.2.1;have N:i.cell? (bl,0)=some (.int .i64 lo):=(a.cell (p:=⟨bl,0,none⟩) h.2.2.1).trans s.2.2.1;have M:i.cell? (bh,0)=some (.int .i64 hi):=(a.cell (p:=⟨bh,0,none⟩) h.2.2.2).trans s.2.2.2;clear f r g E h1;cases u
 . go_wp2_with fail
   go_ret;exact⟨rfl,a⟩
 cases G
 . go_wp2_with fail
   go_ret;exact⟨rfl,a⟩
 cases F
 . go_wp2_with fail
   go_ret;exact⟨rfl,a⟩
 . go_wp2_with fail
   go_ret;exact⟨rfl,a⟩
theorem aQz (b m:Nat) (s:StT) (t c lo hi:Int) (hc1:0<=c) (hc2:c<=3) (w:cF) (hS:StAt w b m s) (gd:GoodS s) :
 cI prog 57 #[.pointer (some (b,0)),t,c,lo,hi] w fun e w'=>∃v,e= .returned v/\w'.ownsRow w.heap.size 116 5 v (aC2 s.rows t c lo hi).length ((aC2 s.rows t c lo hi).flatMap rwC)/\Below w w w':=by
 have h:Below w w ((((w.alloc (.cells #[t] 3)).alloc (.cells #[c] 3)).alloc (.cells #[lo] 3)).alloc (.cells #[hi] 3)):=
   Below.alloc (Below.alloc (Below.alloc (bH w _) (by rw[aE];omega) _) (by rw[aE,aE];omega) _) (by rw[aE,aE,aE];omega) _
 have j:((((w.alloc (.cells #[t] 3)).alloc (.cells #[c] 3)).alloc (.cells #[lo] 3)).alloc (.cells #[hi] 3)).heap.size=w.heap.size+4:=by simp[aE]
 have n:BlkIs ((((w.alloc (.cells #[t] 3)).alloc (.cells #[c] 3)).alloc (.cells #[lo] 3)).alloc (.cells #[hi] 3)) w.heap.size 3 [t]:=bZ (bZ (bZ (bN w _ _) _) _) _;have i:BlkIs ((((w.alloc (.cells #[t] 3)).alloc (.cells #[c] 3)).alloc (.cells #[lo] 3)).alloc (.cells #[hi] 3)) (w.heap.size+1) 3 [c]:=bZ (bZ (aAn _ _ _ (by simp[aE])) _) _;have l:BlkIs ((((w.alloc (.cells #[t] 3)).alloc (.cells #[c] 3)).alloc (.cells #[lo] 3)).alloc (.cells #[hi] 3)) (w.heap.size+2) 3 [lo]:=bZ (aAn _ _ _ (by simp[aE])) _;have k:BlkIs ((((w.alloc (.cells #[t] 3)).alloc (.cells #[c] 3)).alloc (.cells #[lo] 3)).alloc (.cells #[hi] 3)) (w.heap.size+3) 3 [hi]:=aAn _ _ _ (by simp[aE]);obtain⟨p,a⟩:=ex_ (((((w.alloc (.cells #[t] 3)).alloc (.cells #[c] 3)).alloc (.cells #[lo] 3)).alloc (.cells #[hi] 3)));rw[<-a]at h j n i l k;have r:∀d w,(callFunc 113 d).run prog w= .ok (.enter 113 d) w:=enters_of func113 (by kernel_rfl) rfl
 have q:bDr 113 #[.pointer (some (w.heap.size+1,0)),.pointer (some (w,0)),.pointer (some (w.heap.size+2,0)),.pointer (some (w.heap.size+3,0))] (inR t c lo hi) p:=fun W x g=>
  bC0 x t c lo hi _ _ _ _ W ((i.later g).cell 0) ((n.later g).cell 0) ((l.later g).cell 0) ((k.later g).cell 0)
 have o:=hid (aVp b m s c _ _ (inR t c lo hi) t aHk p (hS.below h) gd q r);have u:=i.c0;obtain⟨D,z,A⟩:=aAw h j a;have J:decide (c<0)=false:=by simpa using hc1
 have H:decide (4<=c)=false:=by simp;omega
 have f:=u;rw[a]at f;clear h j n i l k hS q a u r;go_enter func57,ntmps57
 go_wp2_with fail
 rw[<-A.out];refine(o.out).mono ?_;rintro e E ⟨v,rfl,own,y⟩;obtain⟨G,F,rfl,-,-,-⟩:=aAa own;have B:=hid own;have C:=hid y;clear own y f;go_wp2_with fail
 go_ret;exact⟨_,rfl,aAh B.out (by rw[z.out];omega),a2 D.out C.out⟩
variable {w:cF} {L:List Rw} {t c:Int}
structure OrdOwn (w:cF) (B:Nat) (L:List Rw) (t c:Int) (rv ev:cG):Prop where
 rows:w.ownsRow B 116 5 rv (tabS L t c).length ((tabS L t c).flatMap rwC)
 ents:w.ownsRow B 9 1 ev (tabS L t c).length (svs (entsS L t c))
theorem OrdOwn.later {w':cF} {B:Nat} {rv ev:cG} (h:OrdOwn w B L t c rv ev) (hb:Below w w w'):OrdOwn w' B L t c rv ev:=⟨aAb hb h.rows,aAb hb h.ents⟩
theorem OrdOwn.mono {B B':Nat} {rv ev:cG} (h:OrdOwn w B L t c rv ev) (hb:B'<=B):OrdOwn w B' L t c rv ev:=⟨aAh h.rows hb,aAh h.ents hb⟩
theorem bAa {s:StT} {x:Rw} (hx:x∈tabS s.rows t c):x∈s.rows/\x.table=t:=by
 have:=List.mem_filter.1 ((aB9 _ _ _).mem_iff.1 hx);exact⟨this.1,aFy x this.2⟩
theorem aL8 (s:StT) (g:GoodS s) (t c:Int):(tabS s.rows t c).length<=2000:=by
 have:=(aB9 s.rows (inT t) c).length_eq;have b:=cC (inT t) s.rows;have a:=g.small;unfold tabS;omega
theorem aVi {k:Nat} {x:Rw} (hx:(tabS L t c)[k]? =some x):(entsS L t c).take (k+1)=(entsS L t c).take k++[aHq x]:=by
 rw[List.take_add_one];unfold entsS;rw[List.getElem?_map,hx];rfl
theorem aAg {base:Nat} {e:cH} {size:Nat} {v:cG} {n:Nat} {xs:List cG} (h:w.ownsRow base e size v n xs) (p:Addr) (u:cG) (hp:∀b,v.ownBlock=some b->b≠p.block):(w.setCell p u).ownsRow base e size v n xs:=
 aA6 h (aDj.of_only (S:=fun k=>k≠p.block) (T:=fun k=>k=p.block) (Only.setCell w p u rfl) (fun _ h=>h)) hp
structure OrJ (w:cF) (B no:Nat) (L:List Rw) (t c:Int) (rv:cG) (k:Nat) (wr:cF):Prop where
 box:∃ev,BlkIs wr no 209 [rv,ev]/\wr.ownsRow B 9 1 ev k (svs ((entsS L t c).take k))
 rows:wr.ownsRow w.heap.size 116 5 rv (tabS L t c).length ((tabS L t c).flatMap rwC)
 res:BlkIs wr w 209 [.slice none 0 0,.slice none 0 0]
 below:Below w w wr
 size:B<=wr.heap.size
theorem aLh (b m:Nat) (s:StT) (t c:Int) (hc1:0<=c) (hc2:c<=3) (w:cF) (hS:StAt w b m s) (gd:GoodS s) :
 cI prog 104 #[.pointer (some (b,0)),t,c] w fun e w'=>∃rv ev,e= .returned (.agg #[rv,ev])/\OrdOwn w' w.heap.size s.rows t c rv ev/\Below w w w':=by
 have a1:=bH w (.cells #[.slice none 0 0,.slice none 0 0] 209);have ab:=hid (bN w 209 #[.slice none 0 0,.slice none 0 0]);have v:=aQz b m s t c (-1000000000) 1000000000 hc1 hc2 _ (hS.below a1) gd;rw[aTv gd t c]at v;have r:∀x∈tabS s.rows t c,∀W,cI prog 162 #[rwV x] W fun e w'=>e= .returned (.tuple #[.string (str (aHq x)),()])/\Below W W w':=fun x T W=>aVj x (gd.rows x (bAa T).1) W;have aD:=aL8 s gd t c;obtain⟨a8,aB,R⟩:=aAw v r a1;clear v r a1 hS gd;obtain⟨i0,av,an,am,al⟩:=aF5;go_enter func104,ntmps104
 go_wp2_with fail
 generalize aq:w.alloc (.cells _ 209)=w1 at *;clear aq;refine(a8.out).mono ?_;rintro e l ⟨rv,rfl,D,b2⟩;have a3:=bH l (.cells #[rv,.slice none 0 0] 209);have K3:=bN l 209 #[rv,.slice none 0 0]
 have hJ:OrJ w (l.heap.size+1) l.heap.size s.rows t c rv 0 (l.alloc (.cells #[rv,.slice none 0 0] 209)):=by
  refine⟨⟨.slice none 0 0,K3,?_⟩,?_,(ab.later b2).later a3,a2 (a2 R.out b2) a3,by rw[aE];omega⟩
  . rw[List.take_zero];exact bM _ _ _ _
  . exact aAb a3 (aAh D R.size)
 obtain⟨M,J,rfl,aX,-,ar⟩:=aAa D;have HJ:=hid hJ;have k0:=K3.cell 0;obtain⟨ad,ac,aa,Q⟩:=aBp (R.size) b2.size ab.lt (fun q (h:(Value.slice M (tabS s.rows t c).length J).ownBlock=some q)=>D.lt q h);simp only[List.getElem?_cons_zero]at k0;clear hJ D b2 a3 K3 a8;go_wp2_with fail
 clear k0;generalize ap:l.alloc (.cells _ 209)=w3 at *;clear ap;go_loopw [20] (fun iv wr=>∃k:Nat,k<=(tabS s.rows t c).length/\iv= .int .i64 k/\Hid (OrJ w (l.heap.size+1) l.heap.size s.rows t c (.slice M (tabS s.rows t c).length J) k wr)) (fun iv _=>(tabS s.rows t c).length-(intOf iv).toNat)
 case atStart=>exact⟨0,by omega,rfl,HJ⟩
 case round=>
  clear HJ ar;obtain⟨k,hk,rfl,HR⟩:=hrel;by_cases U:k<(tabS s.rows t c).length
  case pos=>
   obtain⟨x,T⟩:∃x,(tabS s.rows t c)[k]? =some x:=⟨_,List.getElem?_eq_getElem U⟩;obtain⟨⟨ev,O,d⟩,a,f,i,F⟩:=HR.out;obtain⟨g,o,c',hv,b0,L,d0,d1,d2,d3,d4⟩:=(aA1 a).at_ T;injection hv with e1 _ e3
   subst e1 e3;have r:=aB.out x (List.mem_of_getElem? T);have A:=aVi T;have a4:=bH wr (.cells (rwC x).toArray 116);have q0:(0:Int)<=(k:Int):=by omega
   have q1:(k:Int)<((tabS s.rows t c).length:Int):=by omega
   have t1:decide (k<(tabS s.rows t c).length)=true:=by simpa using U
   have Z:(aHq x).length<=50:=aIe x;obtain⟨E,Y⟩:=ex_ (aHq x);rw[<-Y]at r A Z;obtain⟨HT,HE,a7⟩:=aAw A r (And.intro O (And.intro d (And.intro a (And.intro f (And.intro i F)))));clear r A Y T O d a f i U HR;obtain⟨xt,xk,x0,x1,x2⟩:=x;unfold rwV at HE;unfold rwC at a4;dsimp only at HE a4 d0 d1 d2 d3 d4;go_wp2_with fail
   generalize ao:wr.alloc (.cells _ 116)=w4 at *;clear ao;refine(HE.out w4).mono ?_;rintro e S ⟨rfl,b5⟩;have C:=a4.trans (b5.mono a4.size);obtain⟨O,d,a,f,i,F⟩:=a7.out;have n:=O.later C;have j:=aAb C d;have u:=aAb C a;have y:=f.later C;have z:=a2 i C;have aR:l.heap.size+1<=S.heap.size:=Nat.le_trans F C.size;have k1:=n.c1;have H5:=hid (And.intro n (And.intro j (And.intro u (And.intro y z))));have aC:=n.lt;clear O d a f i F n u y z b5 C a4 HE a7 d0 d1 d2 d3 d4;have a9:=hid j;clear j;go_wp2_with (at_builtin;refine wpList_append_own _ rfl _ _ 58 rfl (l.heap.size+1) 9 i0 (.string ⟨#[]⟩) 1 16 underlying58 av an am al rfl (by decide) ev k (svs ((entsS s.rows t c).take k)) rfl (a9.alloc _) ⟨S.heap.size,0,none⟩ 1 1 [.string (str E)] rfl rfl (cell_one_new _ _ _) (by simp[Value.oneCell']) (by unfold maxLen;omega) (by omega) (by rw[aE];omega) ?_;intro v7 K N g7 _;obtain⟨g8,c8,rfl⟩:=ownsRow_succ N;have n:=H5.1;have j:=a9.out;have L:S.grownBy K ev.ownBlock:=(cD S _ ev.ownBlock).trans g7;have B:=fun k e=>aAj j (k:=k) e;have H:BlkIs K l 209 [.slice (some (g,o)) (tabS s.rows t c).length J,ev]:=(L.block l.heap.size n.lt (fun e=>by have:=B _ e.symm;omega)).trans n;have m0:K.cell? (l,1)=some ev:=H.cell 1;have f0:=H.frozen 1;clear n j L B H)
   obtain⟨n,j,u,y,z⟩:=H5.out;have L:S.grownBy K ev.ownBlock:=(cD S _ ev.ownBlock).trans g7;have B:=fun k e=>aAj j (k:=k) e;have H:BlkIs K l 209 [.slice (some (g,o)) (tabS s.rows t c).length J,ev]:=(L.block l.heap.size n.lt (fun e=>by have:=B _ e.symm;omega)).trans n;have au:=aa.out;have ay:=ad.out;have ax:=ac.out;have aZ:=(Q.out g rfl).2;have P:=u.kept L (.inr (fun e=>by have h9:l.heap.size+1<=g:=B _ e.symm;omega));have V:=(L.block w.heap.size y.lt (fun e=>by have:=B _ e.symm;omega)).trans y;have a5:Below w w K:=bY z L z.size (fun k e=>by have:=B k e;omega)
   have G:K.ownsRow (l.heap.size+1) 9 1 (.slice (some (g8,0)) (k+1) c8) (k+1) (svs ((entsS s.rows t c).take (k+1))):=by
    rw[HT.out,aG8];exact N
   refine⟨⟨k+1,by have:=q1;omega,by go_num,hid ⟨⟨.slice (some (g8,0)) (k+1) c8,H.set 1 (.slice (some (g8,0)) (k+1) c8),aAg G _ _ (fun b e=>?_)⟩,aAg P _ _ (fun b e=>?_),BlkIs.other V ?_ _,a5.setCell ?_ _,?_⟩⟩,by simp[intOf];omega⟩
   . have:=aAj G e
     show b≠l.heap.size
     omega
   . have:b<l.heap.size:=(Q.out b e).2
     show b≠l.heap.size
     omega
   . show w.heap.size≠l.heap.size
     omega
   . show w.heap.size<=l.heap.size
     omega
   . have U:=L.size;have h2:(K.setCell (l,1) (.slice (some (g8,0)) (k+1) c8)).heap.size=K.heap.size:=by simp[World.setCell]
     omega
  case neg=>
   have t1:decide (k<(tabS s.rows t c).length)=false:=by simpa using U
   obtain rfl:k=(tabS s.rows t c).length:=by omega
   obtain⟨⟨ev,O,d⟩,a,f,i,F⟩:=HR.out;obtain⟨eA,ec,rfl,-,-,-⟩:=aAa d;obtain⟨k0,k1⟩:=O.C2;obtain⟨r0,r1⟩:=f.C2;have f0:=f.frozen 0;have f1:=f.frozen 1;have Y:(entsS s.rows t c).take (tabS s.rows t c).length=entsS s.rows t c:=cA (by rw[aD3];exact bR _);rw[Y]at d;have HW:=hid (And.intro d (And.intro a (And.intro f i)));clear d a f i Y U HR O;go_wp2_with fail
   obtain⟨d,a,f,i⟩:=HW.out;have au:=aa.out;have ay:=ad.out;have ax:=ac.out;have K2:=(f.set 0 (.slice M (tabS s.rows t c).length J)).set 1 (.slice eA (tabS s.rows t c).length ec);have aw:=(i.setCell (p:=⟨w.heap.size,0,none⟩) (bR _) (.slice M (tabS s.rows t c).length J)).setCell (p:=⟨w.heap.size,1,none⟩) (bR _) (.slice eA (tabS s.rows t c).length ec);have o4:=aAg (aAg d ⟨w.heap.size,0,none⟩ (.slice M (tabS s.rows t c).length J) (fun b e=>by have:=aAj d e;show b≠w.heap.size;omega)) ⟨w.heap.size,1,none⟩ (.slice eA (tabS s.rows t c).length ec) (fun b e=>by have:=aAj d e;show b≠w.heap.size;omega);have X:∀b,(Value.slice M (tabS s.rows t c).length J).ownBlock=some b->b≠w.heap.size:=fun b e=>by have:=(Q.out b e).1;omega
   have r4:=aAg (aAg a ⟨w.heap.size,0,none⟩ (.slice M (tabS s.rows t c).length J) X) ⟨w.heap.size,1,none⟩ (.slice eA (tabS s.rows t c).length ec) X;generalize (wr.setCell (w,0) (.slice M (tabS s.rows t c).length J)).setCell (w,1) (.slice eA (tabS s.rows t c).length ec)=wF at *;obtain⟨y0,y1⟩:=K2.C2;refine bodyPost_ret (by simp[results,results104,go_sem,y0,y1];try rfl) rfl ?_;exact⟨_,_,rfl,⟨r4,aAh o4 (by omega)⟩,aw⟩
end
section
open Go Go.RowKit
variable {W W':cF} {b:Nat} {ov:cG} {ps:List (Rec×cG)} {s:StT}
theorem aNq (p:Rec×cG) (h:p.2.oneCell'=true):∀u∈recCells p,u.oneCell'=true:=by
 intro u a;unfold recCells at a;simp only[List.mem_cons,List.not_mem_nil,or_false]at a;rcases a with rfl|rfl
 . rfl
 . exact h
theorem aOx (c:Chg):∀u∈chgCells c,u.oneCell'=true:=by
 intro u a;unfold chgCells at a;simp only[List.mem_cons,List.not_mem_nil,or_false]at a;rcases a with rfl|rfl|rfl|rfl|rfl|rfl|rfl|rfl|rfl|rfl <;> rfl
theorem aOm (l:List Chg):∀u∈l.flatMap chgCells,u.oneCell'=true:=by
 intro u a;obtain⟨c,_,a⟩:=List.mem_flatMap.1 a;exact aOx c u a
theorem aIm (l:List Chg):(l.flatMap chgCells).length=l.length*10:=aAk chgCells 10 aB2 l
theorem aKa:∀(l:List Chg) (m:Nat),(l.take m).flatMap chgCells=(l.flatMap chgCells).take (m*10)
 | l,0=>by simp
 | [],m+1=>by simp
 | x :: l,m+1=>by
   rw[List.take_succ_cons,bX,aKa l m,bX,show(m+1)*10=(chgCells x).length+m*10 by rw[aB2];omega,List.take_append,cA (Nat.le_add_right _ _)];simp
theorem aKb:∀(l:List Chg) (m:Nat),(l.drop m).flatMap chgCells=(l.flatMap chgCells).drop (m*10)
 | l,0=>by simp
 | [],m+1=>by simp
 | x :: l,m+1=>by
   rw[List.drop_succ_cons,aKb l m,bX,show(m+1)*10=(chgCells x).length+m*10 by rw[aB2];omega,List.drop_append];simp
theorem aZn (ad:Addr) (m n:Nat):(ad.add m).add n=ad.add (m+n):=by
 unfold Addr.add;by_cases b:m=0 <;> by_cases a:n=0 <;> simp[b,a,Nat.add_assoc]
theorem aV8 (ad:Addr) (m:Nat):ad.add (m+1)=⟨ad.block,ad.off+(m+1),none⟩:=by simp[Addr.add]
def aK5 (w:cF) (v:cG) (xs:List (List Int)):Prop:=
 ∃A c,v= .slice A xs.length c/\xs.length<=c/\(0<xs.length->∃ad,A=some ad/\ad.block<w.heap.size/\∀(i:Nat) x,xs[i]? =some x->x.length=6/\
   ∀(j:Nat) z,x[j]? =some z->w.cell? (ad.add (i*6+j))=some (.int .i64 z)/\ -9223372036854775808<=z/\z<=9223372036854775807)
theorem aK5.below {w w':cF} {v:cG} {xs:List (List Int)} (h:aK5 w v xs) (hb:Below w w w'):aK5 w' v xs:=by
 obtain⟨A,c,g,n,e⟩:=h;refine⟨A,c,g,n,fun r=>?_⟩;obtain⟨b,o,a,k⟩:=e r;have l:∀m,w'.cell? (b.add m)=w.cell? (b.add m):=fun m=>hb.cell (p:=b.add m) (by rw[aHt];exact a);refine⟨b,o,bT a hb.size,fun i x e=>?_⟩;obtain⟨q,f⟩:=k i x e;exact⟨q,fun j z d=>by rw[l];exact f j z d⟩
structure LogZ (W:cF) (b:Nat) (ov:cG) (ps:List (Rec×cG)) (s:StT):Prop where
 row:W.ownsRow (b+1) 51 2 ov ps.length (ps.flatMap recCells)
 chs:∀p∈ps,W.ownsRow (b+1) 48 10 p.2 p.1.chs.length (p.1.chs.flatMap chgCells)
 st:RSt W b s
 run:runS st0 (ps.map (·.1))=some s
 few:∀p∈ps,p.1.chs.length<=3
theorem LogZ.zero (h:RSt W b st0):LogZ W b (.slice none 0 0) [] st0:=⟨bM _ _ _ _,by simp,h,rfl,by simp⟩
theorem LogZ.good (h:LogZ W b ov ps s):GoodS s/\s.pos=(ps.length:Nat):=by
 obtain⟨g,a⟩:=aBy aCl h.run;rw[List.length_map]at a;exact⟨g,by simpa[st0]using a⟩
theorem LogZ.later (h:LogZ W b ov ps s) (hb:Below W W W'):LogZ W' b ov ps s:=
 ⟨aAb hb h.row,fun p hp=>aAb hb (h.chs p hp),h.st.later hb,h.run,h.few⟩
theorem LogZ.form (h:LogZ W b ov ps s):∃A c,ov= .slice A ps.length c/\ps.length<=c:=by
 obtain⟨A,c,a,d,_⟩:=aAa h.row;exact⟨A,c,a,d⟩
theorem LogZ.recs (h:LogZ W b ov ps s):aCj W ov (ps.map (·.1)):=
 aL3.recs (S:=fun _=>True) ⟨ps,rfl,aE6 h.row,fun _ _=>trivial,fun p hp=>⟨aE6 (h.chs p hp),fun _ _=>trivial⟩⟩
theorem aI4 (ho:Only (fun j=>j=b) W W') {e:cH} {size:Nat} {v:cG} {n:Nat} {xs:List cG} (h:W.ownsRow (b+1) e size v n xs):W'.ownsRow (b+1) e size v n xs:=
 aA6 (S:=fun j=>b<j) h (.of_only ho fun k hk e=>by omega) fun j hj=>aAj h hj
theorem RSt.appended (h:RSt W b s) {base size k:Nat} {v:cG} {xs:List cG} (hr:W.ownsRow base 51 size v k xs) (hg:W.grownBy W' v.ownBlock):RSt W' b s:=by
 obtain⟨u,c,a⟩:=h.own;exact⟨u,c.kept hg (c.not_row (by decide) hr),a.kept hg (aB6 hr a (by decide))⟩
theorem LogZ.add {W1 W2 W3:cF} {v' cv:cG} {p:Int} {l:List Chg} (h:LogZ W b ov ps s) (hf:aFg s ⟨p,l⟩=true) (hs:RSt W1 b ⟨l.foldl aBs s.rows,p⟩)
 (ho:Only (fun j=>j=b) W W1) (hb:Below W1 W1 W2) (hg:W2.grownBy W3 ov.ownBlock) (hc:W.ownsRow (b+1) 48 10 cv l.length (l.flatMap chgCells))
 (own:W3.ownsRow (b+1) 51 2 v' (ps.length+1) (ps.flatMap recCells++recCells (⟨p,l⟩,cv))) (hl3:l.length<=3):LogZ W3 b v' (ps++[(⟨p,l⟩,cv)]) ⟨l.foldl aBs s.rows,p⟩:=by
  have d:=aAb hb (aI4 ho h.row);refine⟨?_,?_,(hs.later hb).appended d hg,?_,fun q a=>?_⟩
  . rw[bL,List.length_singleton,cE]
    simpa using own
  . intro q a
    have c:W2.ownsRow (b+1) 48 10 q.2 q.1.chs.length (q.1.chs.flatMap chgCells):=by
     rcases List.mem_append.1 a with a|a
     . exact aAb hb (aI4 ho (h.chs q a))
     . rw[List.mem_singleton]at a;subst a;exact aAb hb (aI4 ho hc)
    exact c.kept hg (aB6 d c (by decide))
  . rw[List.map_append,aCf,h.run];simp only[List.map_cons,List.map_nil,Option.bind_some,runS];unfold aF9;rw[hf];rfl
  . rcases List.mem_append.1 a with a|a
    . exact h.few q a
    . rw[List.mem_singleton]at a;subst a;exact hl3
end
section
open Go.Proofs.Tryz
open Go Go.RowKit Go.Shelf
attribute [local go_sem] Oper.semAt_some
theorem bAb (L:List Rw) {i j:Nat} (hi:i<4) (hj:j<4):(sumsS L)[4*i+j]? =some (bDs L (i:Nat) (j:Nat)):=by
 have b:i=0\/i=1\/i=2\/i=3:=by omega
 have a:j=0\/j=1\/j=2\/j=3:=by omega
 rcases b with rfl|rfl|rfl|rfl <;> rcases a with rfl|rfl|rfl|rfl <;> rfl
theorem aT8 (b:Nat) (w:cF):cI prog 163 #[.pointer (some (b,0))] w fun e w'=>e= .returned (.func (.func 217) #[] #[.pointer (some (w,0))])/\w'=w.alloc (.cells #[.pointer (some (b,0))] 72):=by
 go_enter func163,ntmps163
 go_wp2_with fail
 go_ret;exact⟨rfl,rfl⟩
theorem aSf (n:Nat) (hn:1<=n) (l B1 b m:Nat) (s:StT) (gd:GoodS s) (J:Nat->cF->Prop)
 (hbox:∀k W,J k W->W.cell? (B1,0)=some (.pointer (some (b,0)))/\StAt W b m s)
 (hbel:∀k W W',J k W->Below W W W'->J k W')
 (hY:∀(i j:Nat) W rv ev,i<4->j<4->J (4*i+j) W->OrdOwn W 0 s.rows i j rv ev->YieldAt Fence.wide (n-1) prog l #[.agg #[rv,ev]] W fun e W'=>e= .returned (.bool true)/\J (4*i+j+1) W')
 (W:cF) (h0:J 0 W) :
 CallsIn Fence.wide n prog 217 #[.func (.yield l) #[] #[],.pointer (some (B1,0))] W fun e W'=>(∃v,e= .returned v)/\J 16 W':=by
 refine callsIn_of_wp func217 rfl trivial ?_ rfl;simp only[ntmps217,List.size_toArray,List.length_cons,List.length_nil,Nat.reduceAdd,Nat.reduceSub,Array.replicate_succ,Array.replicate_zero,List.push_toArray,List.append_toArray,List.nil_append,List.cons_append];obtain⟨K,r,t,E⟩:=aBp hY hbox hbel h0;clear hY hbox hbel h0
 gi_wp2
 gi_loopw [5] (fun iv wr=>∃i:Nat,i<=4/\iv= .int .i64 i/\Hid (J (4*i) wr)) (fun iv _=>4-(intOf iv).toNat)
 case atStart=>exact⟨0,by omega,rfl,E⟩
 case round=>
  clear E;obtain⟨i,N,rfl,c⟩:=hrel;by_cases p:i<4
  . have G:decide ((i:Int)<4)=true:=by simp;omega
    obtain⟨L,rfl⟩:=ex_ wr
    gi_wp2
    gi_loopw [8] (fun iv wr=>∃j:Nat,j<=4/\iv= .int .i64 j/\Hid (J (4*i+j) wr)) (fun iv _=>4-(intOf iv).toNat)
    case atStart=>exact⟨0,by omega,rfl,c⟩
    case round=>
     clear c;obtain⟨j,M,rfl,c⟩:=hrel;by_cases o:j<4
     . have F:decide ((j:Int)<4)=true:=by simp;omega
       obtain⟨H,y⟩:=r.out _ wr c.out;have D:=hid (aLh b m s (i:Nat) (j:Nat) (by omega) (by omega) wr y gd);clear y
       gi_wp2
       refine⟨trivial,?_⟩;refine(callsIn_wide.2 (D.out)).mono ?_;rintro e u ⟨rv,ev,rfl,a,B⟩;have d:=t.out _ wr u c.out B;obtain⟨O,x,g,A,h,z⟩:=K.out i j u rv ev p o d (a.mono (Nat.zero_le _));clear a B D H;have C:=hid z;clear z
       gi_wp2
       refine C.mono ?_;rintro e W' ⟨rfl,f⟩;have q:=hid f;clear f d h C
       gi_wp2
       exact⟨⟨j+1,by omega,by go_num,q⟩,by simp[intOf];omega⟩
     . have F:decide ((j:Int)<4)=false:=by simp;omega
       obtain rfl:j=4:=by omega
       gi_wp2
       exact⟨⟨i+1,by omega,by go_num,by rw[show 4*(i+1)=4*i+4 by omega];exact c⟩,by simp[intOf];omega⟩
  . have G:decide ((i:Int)<4)=false:=by simp;omega
    obtain rfl:i=4:=by omega
    gi_wp2
    go_end0
    exact⟨⟨_,rfl⟩,c.out⟩
variable {w:cF} {base n:Nat} {v:cG}
theorem aIv {e:cH} {size:Nat} {xs:List cG} (h:w.ownsRow base e size v n xs) {k:Nat} (hk:v.ownBlock=some k) {r:Loop} (hl:w.heap[k]? =some (.loop r)):False:=by
 rcases h.2 with⟨rfl,_⟩|⟨g,cap,cur,rfl,_,hg,_⟩
 . simp[bV]at hk
 . obtain rfl:g=k:=by simpa[bV]using hk
   rw[hl]at hg;cases hg
theorem aJz {e:cH} {size:Nat} {xs:List cG} (h:w.ownsRow base e size v n xs) {k:Nat} (hk:v.ownBlock=some k) {r:Option (List Deferred)} (hl:w.heap[k]? =some (.deferred r)):False:=by
 rcases h.2 with⟨rfl,_⟩|⟨g,cap,cur,rfl,_,hg,_⟩
 . simp[bV]at hk
 . obtain rfl:g=k:=by simpa[bV]using hk
   rw[hl]at hg;cases hg
structure SmJ (w:cF) (rec:Loop) (B1 b m D L:Nat) (s:StT) (pre:List (List UInt8)) (W:cF):Prop where
 rl:W.heap[L]? =some (.loop rec)
 rk:W.heap[D]? =some (.deferred (some []))
 box:∃v,Boxed W w.heap.size 58 v/\W.ownsRow w.heap.size 9 1 v pre.length (svs pre)
 ptr:Boxed W B1 72 (.pointer (some (b,0)))
 below:Below w w W
theorem SmJ.later {rec:Loop} {B1 b m D L:Nat} {s:StT} {pre:List (List UInt8)} {W W':cF} (h:SmJ w rec B1 b m D L s pre W) (hb:Below W W W'):SmJ w rec B1 b m D L s pre W':=by
 obtain⟨v,a,c⟩:=h.box;exact⟨(hb.block L (aAc h.rl)).trans h.rl,(hb.block D (aAc h.rk)).trans h.rk,⟨v,(hb.block _ a.lt).trans a,aAr hb c⟩,(hb.block _ h.ptr.lt).trans h.ptr,a2 h.below hb⟩
theorem aNh {b m:Nat} {s:StT} (hS:StAt w b m s) (gd:GoodS s) (hR:aA4 w) :
 cI prog 110 #[.pointer (some (b,0))] w fun e w'=>∃v,e= .returned v/\w'.ownsRow w.heap.size 9 1 v 16 (svs (sumsS s.rows))/\Below w w w':=by
 obtain⟨i0,hi,bn,bl,bk⟩:=aF5;obtain⟨bO,bP,bc⟩:=aAw hS hR gd;clear hS hR;refine(callsIn_wide (n:=3)).1 ?_;refine callsIn_of_wp_marks func110 rfl trivial ?_ rfl;simp only[ntmps110,List.size_toArray,List.length_cons,List.length_nil,Nat.reduceAdd,Nat.reduceSub,Array.replicate_succ,Array.replicate_zero,List.push_toArray,List.append_toArray,List.nil_append,List.cons_append]
 gi_wp2
 refine⟨trivial,?_⟩;refine(callsIn_wide.2 (aT8 b _)).mono ?_;rintro e w3 ⟨rfl,bp⟩
 gi_wp2
 refine aBe rfl (by omega) (gf:=217) (lb:=#[.pointer (some (w.heap.size+1,0))]) rfl trivial (enters_of func217 (by kernel_rfl) rfl) ?_;intro fn bE a D L W1 o hD hL r;have aL:W1.heap.size=w.heap.size+4:=by rw[r];simp
 simp only[aE]at hD;have J:D=w.heap.size+2:=by omega
 refine(aSf (3-1) (by omega) L (w.heap.size+1) b m s bc.out (fun k W=>SmJ w (a .ready none) (w.heap.size+1) b m D L s ((sumsS s.rows).take k) W) ?hbox ?hbel ?hY W1 ?h0).mono ?hend
 case hbox=>
  intro k W g;exact⟨g.ptr.cell,bO.below g.below⟩
 case hbel=>intro k W Q g hb;exact g.later hb
 case h0=>
  clear o;refine⟨?_,?_,⟨.slice none 0 0,?_,bM _ _ _ _⟩,?_,?_⟩
  . rw[r,hL,hD];have:=World.alloc_heap_new (((w.alloc (.cells #[.slice none 0 0] 58)).alloc (.cells #[.pointer (some (b,0))] 72)).alloc (.deferred (some []))) (.loop (a .ready none))
    simpa only[aE]using this
  . rw[r,hD];have:=World.alloc_heap_new ((w.alloc (.cells #[.slice none 0 0] 58)).alloc (.cells #[.pointer (some (b,0))] 72)) (.deferred (some []));simp only[aE]at this;exact(Below.heap_alloc _ _ _ (by simp)).trans this
  . rw[r];exact(((Boxed.new w _ _).alloc _).alloc _).alloc _
  . have:=Boxed.new (w.alloc (.cells #[.slice none 0 0] 58)) 72 (.pointer (some (b,0)));rw[aE]at this;rw[r];exact(this.alloc _).alloc _
  . rw[r];exact((((Below.refl _ w).alloc (bR _) _).alloc (by simp) _).alloc (by simp;omega) _).alloc (by simp;omega) _
 case hY=>
  intro i j W rv ev bD bC g B;have b2:=bAb s.rows bD bC
  have ai:(sumsS s.rows).take (4*i+j+1)=(sumsS s.rows).take (4*i+j)++[bDs s.rows (i:Nat) (j:Nat)]:=by
   rw[List.take_add_one,b2];rfl
  have bz:((sumsS s.rows).take (4*i+j)).length<=16:=by rw[List.length_take,aDf];omega
  obtain⟨c,a6⟩:=ex_ ((sumsS s.rows).take (4*i+j));rw[<-a6]at g ai bz;rw[ai];obtain⟨rA,rc,rfl,-,-,-⟩:=aAa B.rows;obtain⟨P,O,rfl,-,-,-⟩:=aAa B.ents;have br:=aL8 s bc.out (i:Nat) (j:Nat);have A:=fun Q=>aNt (((tabS s.rows (i:Nat) (j:Nat)).length:Nat):Int) (by omega) (by omega) Q;have aj:=aMj (((tabS s.rows (i:Nat) (j:Nat)).length:Nat):Int)
  have G:∀x∈entsS s.rows (i:Nat) (j:Nat),x.length<=50:=fun x hx=>by
   unfold entsS at hx;rw[List.mem_map]at hx;obtain⟨y,_,rfl⟩:=hx;exact aIe y
  have l:∀Q,ListAt Q (.slice P (tabS s.rows (i:Nat) (j:Nat)).length O) (entsS s.rows (i:Nat) (j:Nat))->Below w w Q->cI prog 165 #[.slice P (tabS s.rows (i:Nat) (j:Nat)).length O] Q fun e w'=>e= .returned (.string (str (rootL (entsS s.rows (i:Nat) (j:Nat)))))/\Below Q Q w':=fun Q hv hb=>
   aTs _ _ Q hv (by rw[aD3];omega) (fun x hx=>by have:=G x hx;omega) (bP.later hb)
  have a0:=B.ents;rw[show(tabS s.rows (i:Nat) (j:Nat)).length=(entsS s.rows (i:Nat) (j:Nat)).length from(aD3 _ _ _).symm]at a0;have a7:bDs s.rows (i:Nat) (j:Nat)=aPo (((tabS s.rows (i:Nat) (j:Nat)).length:Nat):Int)++rootL (entsS s.rows (i:Nat) (j:Nat)):=rfl;have aM:=aTt (entsS s.rows (i:Nat) (j:Nat));rw[a7];have Z:=aD3 s.rows (i:Nat) (j:Nat);generalize entsS s.rows (i:Nat) (j:Nat)=EN at *;obtain⟨N,hN⟩:=ex_ ((tabS s.rows (i:Nat) (j:Nat)).length);rw[<-hN]at br A aj l Z⊢;rw[Z]at a0;obtain⟨PN,b7⟩:=ex_ (aPo ((N:Nat):Int));obtain⟨RT,b4⟩:=ex_ (rootL EN);rw[<-b7]at A aj⊢;rw[<-b4]at l aM⊢;have s1:¬9223372036854775807<PN.length+RT.length:=by omega
  obtain⟨bf,HD,HL,bQ,bb,az,be,bd⟩:=aMy (show str PN++str RT=str (PN++RT)from aM3 _ _) hD hL J A l a0 Z;clear hD hL J r aL ai a6 b2 B A aj l G a0 a7 aM b7 b4 hN Z;have HR:=hid o;refine aCr bE o g.rl rfl ?_;clear o;simp only[List.zip_toArray,List.zip_cons_cons,List.zip_nil_right,List.foldl_toArray',List.foldl_cons,List.foldl_nil,List.setIfInBounds_toArray,List.set]
  gi_wp2
  obtain⟨WA,Y⟩:=ex_ (W.alloc (.cells #[.slice rA N rc,.slice P N O] 209));have aA:Below W W WA:=by rw[Y];exact bH _ _
  have KA:BlkIs WA W 209 [.slice rA N rc,.slice P N O]:=by rw[Y];exact bN W _ _
  have f:=g.later aA;have b8:=aAb aA be.out;have bo:=g.below.size;obtain⟨no,aS⟩:=ex_ W.heap.size;rw[<-aS]at KA⊢;rw[<-Y];refine⟨f.rl,?_⟩;obtain⟨u,hu,hr⟩:=f.box;have c2:=HL.out;have c3:=HD.out;have J:=bQ.out
  have bS:w.heap.size+3<no:=by
   have:=aAc g.rl;omega
  clear Y aA g aS be bo;obtain⟨z,q⟩:=ex_ (WA.putObj L (.loop (a .busy none)));rw[<-q];have an:z.heap[L]? =some (.loop (a .busy none)):=by rw[q];exact World.putObj_heap_same (aAc f.rl)
  have aq:z.heap[D]? =some (.deferred (some [])):=by rw[q];exact(bW (by omega)).trans f.rk
  have X:WA.grownBy z (some L):=by rw[q];exact grownBy_putObj' _ _ _
  have ac:Boxed z w.heap.size 58 u:=hu.kept X (by intro e;cases e;omega);have ah:Boxed z (w.heap.size+1) 72 (.pointer (some (b,0))):=f.ptr.kept X (by intro e;cases e;omega);have b0:Below w w z:=by rw[q];exact aAm f.below _ (by omega) f.below.size
  have aQ:z.ownsRow w.heap.size 9 1 u c.length (svs c):=by rw[q];exact ownsRow_putObj hr _ f.rl rfl
  have ba:z.ownsRow 0 9 1 (.slice P N O) N (svs EN):=by rw[q];exact ownsRow_putObj b8 _ f.rl rfl
  have K2:BlkIs z no 209 [.slice rA N rc,.slice P N O]:=KA.kept X (by intro e;cases e;omega);clear q X hu hr f b8 KA;have c1:=K2.c1;have aT:=K2.lt
  gi_wp2
  refine⟨trivial,?_⟩;refine(CallsIn.inRound L (callsIn_wide.2 (bb.out z))).mono ?_;rintro e M ⟨rfl,b3⟩;have aV:=(b3.block L (aAc an)).trans an;have aW:=(b3.block D (aAc aq)).trans aq;have aH:Boxed M w.heap.size 58 u:=(b3.block _ ac.lt).trans ac;have aR:Boxed M (w.heap.size+1) 72 (.pointer (some (b,0))):=(b3.block _ ah.lt).trans ah;have aZ:=a2 b0 b3;have aP:=aAb b3 aQ;have b9:=aAb b3 ba;have K3:=K2.later b3;clear an aq ac ah b0 aQ ba K2 b3 c1 aT
  gi_wp2
  have am:M.drew.heap[L]? =some (.loop (a .busy none)):=aV;have ap:M.drew.heap[D]? =some (.deferred (some [])):=aW;have T:Boxed M.drew w.heap.size 58 u:=aH;have ag:Boxed M.drew (w.heap.size+1) 72 (.pointer (some (b,0))):=aR;have au:Below w w M.drew:=aZ.drew;have aO:M.drew.ownsRow w.heap.size 9 1 u c.length (svs c):=aP;have aw:M.drew.ownsRow 0 9 1 (.slice P N O) N (svs EN):=b9;have K4:BlkIs M.drew no 209 [.slice rA N rc,.slice P N O]:=K3;rw[<-bd.out]at aw;have a4:=hid (az.out M.drew (bd.out▸aF4 aw) au);clear aV aW aH aR aZ aP b9 K3 aw;refine aIs (fun W=>W.cell? (w,0)=some u/\W.cell? (no,1)=some (.slice P N O)) 7 1 1 [(0,false),(2,false),(3,false),(4,true),(5,true),(6,true),(7,true)] (oi:=?oi1) (v:=?v1) (by kernel_rfl) rfl ?hi1 (by decide) rfl ?hsel1 ?hsink1 ?hchain1 (by decide) ?hf1 ?hr1 ?hok1 ?hd1 (Or.inl ⟨?hw1,?hy1⟩) (⟨T.cell,K4.cell 1⟩) (fun bI=>?_)
  case hi1=>simp only[List.getElem?_toArray,List.getElem?_cons_succ,List.getElem?_cons_zero];rfl
  case hsel1=>kernel_rfl
  case hsink1=>kernel_rfl
  case hchain1=>kernel_rfl
  case hf1=>kernel_rfl
  case hr1=>kernel_rfl
  case hok1=>kernel_rfl
  case hd1=>rfl
  case hw1=>rfl
  case hy1=>intro w;go_simp;try with_reducible rfl
  refine aBq ?_
  repeat (
   refine aBi.A0 ?_)
  refine aBi.P0 ?_;intro K hK;go_simp;go_at_call 165
  with_reducible refine(a4.out).mono ?_
  rintro e W5 ⟨rfl,b5⟩;have al:=(b5.block L (aAc am)).trans am;have ao:=(b5.block D (aAc ap)).trans ap;have S:Boxed W5 w.heap.size 58 u:=(b5.block _ T.lt).trans T;have af:Boxed W5 (w.heap.size+1) 72 (.pointer (some (b,0))):=(b5.block _ ag.lt).trans ag;have aY:=a2 au b5;have aN:=aAb b5 aO;have K5:=K4.later b5;clear am ap T ag au aO K4 b5;refine hK.out _ _ ⟨S.cell,K5.cell 1⟩ (fun _=>?_);clear hK K;refine aBq ?_
  repeat (
   refine aBi.A0 ?_)
  refine aBi.P0 ?_;intro K hK;go_simp;rw[bf.out];have b6:=bH W5 (.cells #[.string (str (PN++RT))] 9);have U:=(b6.block L (aAc al)).trans al;have V:=(b6.block D (aAc ao)).trans ao;have R:Boxed (W5.alloc (.cells #[.string (str (PN++RT))] 9)) w.heap.size 58 u:=(b6.block _ S.lt).trans S;have ae:Boxed (W5.alloc (.cells #[.string (str (PN++RT))] 9)) (w.heap.size+1) 72 (.pointer (some (b,0))):=(b6.block _ af.lt).trans af;have H:=a2 aY b6;have d:=aAb b6 aN;have K6:=K5.later b6;have N6:=bN W5 9 #[.string (str (PN++RT))];generalize W5.alloc (.cells #[.string (str (PN++RT))] 9)=W6 at *;clear al ao S af aY aN K5 b6;refine hK.out _ _ ⟨R.cell,K6.cell 1⟩ (fun _=>?_);clear hK K;refine aBq ?_;refine aBi.P0 ?_;intro K hK;have F:=H.size;refine wp_append_lies W6 (.tmp 17) (.tmp 23) 58 (by rfl) w.heap.size 9 i0 (.string ⟨#[]⟩) 1 16 underlying58 hi bn bl bk rfl (by decide) u c.length (svs c) (by rfl) d ⟨W5.heap.size,0,none⟩ 1 1 [.string (str (PN++RT))] (by rfl) rfl (aCn N6 0 _ rfl) (by simp[Value.oneCell']) (by decide) (by unfold maxLen;omega) (by omega) F _ rfl ?_;intro g7 c7 C a5 t b1 aU;have E:Boxed C w.heap.size 58 u:=R.kept t (R.not_row (by decide) d);have bu:Boxed C (w.heap.size+1) 72 (.pointer (some (b,0))):=ae.kept t (ae.not_row (by decide) d);have K7:BlkIs C no 209 [.slice rA N rc,.slice P N O]:=K6.kept t (K6.not_row (by decide) d);have bx:C.heap[L]? =some (.loop (a .busy none)):=(t.block L (aAc U) (fun e=>aIv d e.symm U)).trans U;have bB:C.heap[D]? =some (.deferred (some [])):=(t.block D (aAc V) (fun e=>aJz d e.symm V)).trans V;have bG:=bY H t F (fun k e=>aAj d e);refine hK.out _ _ ⟨E.cell,K7.cell 1⟩ (fun _=>?_);clear hK K;refine aBq ?_;refine aBi.done ?_;simp only[List.drop_succ_cons,List.drop_zero];clear R ae K6 U V H d N6 t b1 aU F;have z0:=E.cell;have f0:=E.frozen;go_wp2_with fail
  refine aGc.normal ?_
  gi_wp2
  have ak:(C.setCell (w,0) (.slice (some (g7,0)) (c.length+1) c7)).heap[L]? =some (.loop (a .busy none)):=(Below.heap_setCell C ⟨w.heap.size,0,none⟩ _ L (by show L≠w.heap.size;omega)).trans bx;have bA:(C.setCell (w,0) (.slice (some (g7,0)) (c.length+1) c7)).heap[D]? =some (.deferred (some [])):=(Below.heap_setCell C ⟨w.heap.size,0,none⟩ _ D (by show D≠w.heap.size;omega)).trans bB;have bq:=Boxed.set (.slice (some (g7,0)) (c.length+1) c7) E;have bw:=E.not_row (by decide) a5;have aF:=aAg a5 ⟨w.heap.size,0,none⟩ (.slice (some (g7,0)) (c.length+1) c7) (fun k e bF=>bw (by rw[e];exact congrArg some bF.symm));have bt:Boxed (C.setCell (w,0) (.slice (some (g7,0)) (c.length+1) c7)) (w.heap.size+1) 72 (.pointer (some (b,0))):=(Below.heap_setCell C ⟨w.heap.size,0,none⟩ _ (w.heap.size+1) (by show w.heap.size+1≠w.heap.size;omega)).trans bu;have aX:=bG.setCell (p:=⟨w.heap.size,0,none⟩) (bR _) (.slice (some (g7,0)) (c.length+1) c7);generalize C.setCell (w,0) (.slice (some (g7,0)) (c.length+1) c7)=W8 at *;refine aA2 HR.out ak ⟨rfl,?_⟩;refine⟨World.putObj_heap_same (aAc ak),(bW (by omega)).trans bA,⟨_,bq.kept (grownBy_putObj' _ _ _) (by intro e;cases e;omega),?_⟩,bt.kept (grownBy_putObj' _ _ _) (by intro e;cases e;omega),aAm aX _ (by omega) aX.size⟩;have bs:=ownsRow_putObj aF (.loop (a .ready none)) ak rfl;rw[bL,List.length_singleton,aG8];exact bs
 case hend=>
  rintro e z ⟨⟨v,rfl⟩,g⟩;refine⟨⟨v,rfl⟩,.ready,none,(fun h=>by cases h),g.rl,?_⟩;clear o;have aK:(sumsS s.rows).take 16=sumsS s.rows:=cA (by rw[aDf];exact bR _);rw[aK]at g;obtain⟨u,hu,hr⟩:=g.box;rw[aDf]at hr;have aI:Boxed (z.putObj L (.loop (a .exhausted none))) w.heap.size 58 u:=hu.kept (grownBy_putObj' _ _ _) (by intro e;cases e;omega);have ad:=ownsRow_putObj hr (.loop (a .exhausted none)) g.rl rfl;have av:Below w w (z.putObj L (.loop (a .exhausted none))):=aAm g.below _ (by omega) g.below.size;have ar:(z.putObj L (.loop (a .exhausted none))).heap[D]? =some (.deferred (some [])):=(bW (by omega)).trans g.rk;obtain⟨gu,cu,rfl,-,-⟩:=World.ownsRow.form ad (by omega);clear r hD hL bp g hu hr aL aK;have HD:=hid J;clear J;generalize z.putObj L (.loop (a .exhausted none))=W4 at *;have c0:=aI.cell;simp only[aH6]
  gi_wp2
  refine⟨by simp,.inl ⟨_,_,rfl,run_takeDeferred ar,?_⟩⟩;have bJ:w.heap.size<=D:=by have:=HD.out;omega
  have d:=ownsRow_putObj ad (.deferred none) ar rfl;have H:=aAm av (.deferred none) bJ av.size;clear aI ad ar av c0;generalize W4.putObj D (.deferred none)=W6 at *;refine⟨_,by simp[results,results110,go_sem];try rfl,?_⟩;exact⟨_,rfl,d,H⟩
theorem aGv {l:List (List UInt8)} (h:w.ownsRow base 9 1 v n (svs l)) (hn:n=l.length):ListAt w v l:=by
 subst hn;exact aF4 h
theorem aLw (t c:Int) (h1:0<=t) (h2:t<=3) (h3:0<=c) (h4:c<=3) (w:cF) :
 cI prog 103 #[t,c] w fun e w'=>e= .returned (.bool true)/\w'=w:=by
 have f:decide (0<=t)=true:=by simpa using h1
 have d:decide (t<4)=true:=by simp;omega
 have b:decide (0<=c)=true:=by simpa using h3
 have a:decide (c<4)=true:=by simp;omega
 clear h1 h2 h3 h4;go_enter func103,ntmps103
 go_wp2_with fail
 go_ret;exact⟨rfl,rfl⟩
def aS5 (g:Nat) (lb:Array cG) (q:Int->Bool) (w:cF):Prop:=
 ∀(W:cF) (v:Int),Below w w W->cI prog g (#[.int .i64 v]++lb) W fun e w'=>e= .returned (.bool (q v))/\Below W W w'
theorem aS5.later {g:Nat} {lb:Array cG} {q:Int->Bool} {w w':cF} (h:aS5 g lb q w) (hb:Below w w w'):aS5 g lb q w':=fun W v hW=>h W v (a2 hb hW)
theorem bC4 (v lo:Int) (bl:Nat) (w:cF) (h:w.cell? (bl,0)=some (.int .i64 lo)) :
 cI prog 108 #[v,.pointer (some (bl,0))] w fun e w'=>e= .returned (.bool (decide (lo<=v)))/\w'=w:=by
 go_enter func108,ntmps108
 go_wp2_with fail
 go_ret;exact⟨rfl,rfl⟩
theorem bC3 (v hi:Int) (bh:Nat) (w:cF) (h:w.cell? (bh,0)=some (.int .i64 hi)) :
 cI prog 109 #[v,.pointer (some (bh,0))] w fun e w'=>e= .returned (.bool (decide (hi<v)))/\w'=w:=by
 go_enter func109,ntmps109
 go_wp2_with fail
 go_ret;exact⟨rfl,rfl⟩
theorem bCx (x:Rw) (c:Int) (g bi bc:Nat) (lb:Array cG) (q:Int->Bool) (w:cF) (h1:w.cell? (bi,0)=some (.func (.func g) #[] lb)) (h2:w.cell? (bc,0)=some (.int .i64 c)) (hp:aS5 g lb q w)
 (eg:∀args w,(callFunc g args).run prog w= .ok (.enter g args) w) :
 cI prog 107 #[rwV x,.pointer (some (bi,0)),.pointer (some (bc,0))] w fun e w'=>e= .returned (.bool (q (x.val c)))/\Below w w w':=by
 have t:=fun W=>aB5 x c W;generalize x.val c=v at *;obtain⟨j,k,n,m,l⟩:=x;have s:=aAl h1;have r:=aAl h2;dsimp only at s r;have u:=bH w (.cells (rwC ⟨j,k,n,m,l⟩).toArray 116);have y:=bN w 116 (rwC ⟨j,k,n,m,l⟩).toArray;unfold rwV at t⊢;unfold rwC at u y;dsimp only at t u y⊢;have D:=hid t;obtain⟨h,i⟩:=ex_ (w.alloc (.cells #[j,k,n,m,l] 116));have a:=u;have b:=y;rw[<-i]at a b;obtain⟨E,f,C⟩:=aAw (show∀(W:cF) (v:Int),Below h h W->cI prog g (#[.int .i64 v]++lb) W fun e w'=>e= .returned (.bool (q v))/\Below W W w' from fun W v d=>hp W v (a2 a d)) (fun(W:cF) (d:Below h h W)=>(show(fun W=>W.cell? (bi,0)=some (.func (.func g) #[] lb)/\W.cell? (bc,0)=some (.int .i64 c)/\W.cell? (w,0)=some (.int .i64 j)/\W.cell? (w,1)=some (.int .i64 k)/\W.cell? (w,2)=some (.int .i64 n)/\W.cell? (w,3)=some (.int .i64 m)/\W.cell? (w,4)=some (.int .i64 l)) W from⟨(d.cell (p:=⟨bi,0,none⟩) (bT s a.size)).trans ((a.cell (p:=⟨bi,0,none⟩) s).trans h1),(d.cell (p:=⟨bc,0,none⟩) (bT r a.size)).trans ((a.cell (p:=⟨bc,0,none⟩) r).trans h2),(b.later d).cell 0,(b.later d).cell 1,(b.later d).cell 2,(b.later d).cell 3,(b.later d).cell 4⟩)) i;have Z:Below h h h:=Below.refl _ _;have z:=hid a;clear t u y a b i hp h1 h2 s r;go_enter func107,ntmps107
 go_wp2_with fail
 rw[<-C.out];replace Z:=Below.drew Z;refine aKs (fun W=>W.cell? (bi,0)=some (.func (.func g) #[] lb)/\W.cell? (bc,0)=some (.int .i64 c)/\W.cell? (w,0)=some (.int .i64 j)/\W.cell? (w,1)=some (.int .i64 k)/\W.cell? (w,2)=some (.int .i64 n)/\W.cell? (w,3)=some (.int .i64 m)/\W.cell? (w,4)=some (.int .i64 l)) [(0,false),(1,false),(2,false),(3,true),(4,true),(5,true)] (f.out _ Z) ?_
 repeat (first
  | refine aAq.A0 ?_|refine aAq.AG ?_|refine aAq.AS ?_
  | (first
     | refine aAq.P0 ?_|refine aAq.PG ?_
     intro K A;go_simp
     first
     | (go_at_call 91;(with_reducible refine(D.out _).mono ?_);rintro e B ⟨rfl,o⟩;replace Z:=a2 Z o;clear o;go_wp2_with fail)
     | (go_at_fn g;(with_reducible refine(E.out _ _ Z).mono ?_);rintro e B ⟨rfl,o⟩;replace Z:=a2 Z o;clear o;go_wp2_with fail)
     | skip|fail
     refine A.out _ _ ?_ (fun _=>?_)
     . exact f.out _ Z
     clear A K;try simp only[Act.put,sx1,sx2,sx3]))
 refine aAq.fin ?_;go_wp2_with fail
 go_ret;exact⟨rfl,a2 z.out Z⟩
theorem aRh (p:Rw->Bool) (d:Rw):∀(l:List Rw) (i:Nat),Lib.idxByFrom (fun _ y=>p y) d l i=if l.findIdx p<l.length then((i+l.findIdx p:Nat):Int)else -1
 | [],i=>by simp[Lib.idxByFrom]
 | x :: l,i=>by
   rw[Lib.idxByFrom,List.findIdx_cons];cases h:p x with
   | true=>simp
   | false=>
     rw[aRh p d l (i+1)];simp only[Bool.false_eq_true,if_false,cond_false,List.length_cons];by_cases h2:l.findIdx p<l.length
     . rw[if_pos h2,if_pos (by omega)]
       congr 1
       omega
     . rw[if_neg h2,if_neg (by omega)]
theorem bC1 (p:Rw->Bool) (d:Rw) (l:List Rw):Lib.idxBy (fun _ y=>p y) l d=if l.findIdx p<l.length then((l.findIdx p:Nat):Int)else -1:=by
 unfold Lib.idxBy;rw[aRh];simp
theorem aQb (A:Option Addr) (c:Nat) (fv:cG) (w:cF) :
 cI prog 106 #[.slice A 0 c,fv] w fun e w'=>e= .returned (.int .i64 (-1))/\w'=w:=by
 go_enter func106,ntmps106
 go_wp2_with fail
 go_loopw [8] (fun iv wr=>iv= .int .i64 0/\wr=w) (fun iv _=>2-(intOf iv).toNat)
 case atStart=>exact⟨rfl,rfl⟩
 case round=>
  obtain⟨rfl,rfl⟩:=hrel;go_wp2_with fail
  go_ret;exact⟨rfl,rfl⟩
theorem aOh (p:Rw->Bool) (g:Nat) (lb:Array cG) (eg:∀args w,(callFunc g args).run prog w= .ok (.enter g args) w) (v:cG) (L:List Rw) (w:cF) (hv:RwsAt w v L)
 (hp:∀(W:cF) (x:Rw),Below w.heap.size w W->cI prog g (#[rwV x]++lb) W fun e w'=>e= .returned (.bool (p x))/\Below W.heap.size W w') (hl:L.length<=1000000) :
 cI prog 106 #[v,.func (.func g) #[] lb] w fun e w'=>e= .returned (.int .i64 (if L.findIdx p<L.length then((L.findIdx p:Nat):Int)else -1))/\Below w.heap.size w w':=by
 obtain⟨A,c,rfl,q,k⟩:=hv;rcases Nat.eq_zero_or_pos L.length with h0|h0
 . have:L=[]:=List.eq_nil_of_length_eq_zero h0;subst this;refine(aQb A c _ w).mono ?_;rintro e w' ⟨rfl,rfl⟩;exact⟨rfl,Below.refl _ _⟩
 . obtain⟨n,o,rfl,m,l⟩:=k h0
   have a:=AnyQ.slices_IndexFunc Tryz.idxRow 5 aRc aJh rwC aAu p g lb eg n o L.length c L w (fun W x h=>(hp W x h).mono (by
    rintro e w' ⟨rfl,b⟩
    exact⟨rfl,a2 h b⟩)) (bR _) (by omega) m (fun j d i u f=>by
     refine l j L[j] (List.getElem?_eq_getElem d) i u ?_;rw[getElem!_pos L j d]at f;exact f)
   rw[List.take_length,bC1]at a;exact a
theorem aYl (no bc:Nat) (c:Int) (L:List Rw) (rv:cG) (g:Nat) (lb:Array cG) (q:Int->Bool) (w:cF) (h1:w.cell? ⟨no,0,none⟩=some rv) (hrv:RwsAt w rv L) (h2:w.cell? ⟨bc,0,none⟩=some (.int .i64 c)) (hp:aS5 g lb q w)
 (eg:∀args w,(callFunc g args).run prog w= .ok (.enter g args) w) (hl:L.length<=1000000) :
 cI prog 105 #[.func (.func g) #[] lb,.pointer (some ⟨no,0,none⟩),.pointer (some ⟨bc,0,none⟩)] w fun e w'=>e= .returned (.int .i64 ((L.findIdx (fun r=>q (r.val c)):Nat):Int))/\Below w.heap.size w w':=by
 obtain⟨T,y⟩:=ex_ 78;have d:=bH w (.cells #[.func (.func g) #[] lb] T);have t:=bN w T #[.func (.func g) #[] lb];obtain⟨m,b⟩:=ex_ (w.alloc (.cells #[.func (.func g) #[] lb] T));rw[<-b]at d t;have l:=aAl h1;have k:=aAl h2;dsimp only at l k;have j:∀args w,(callFunc 107 args).run prog w= .ok (.enter 107 args) w:=enters_of func107 (by kernel_rfl) rfl
 have a:=aOh (fun r=>q (r.val c)) 107 #[.pointer (some ⟨w.heap.size,0,none⟩),.pointer (some ⟨bc,0,none⟩)] j rv L m (hrv.below d) (fun W x n=>
  bCx x c g _ bc lb q W ((t.later n).cell 0) ((n.cell (p:=⟨bc,0,none⟩) (bT k d.size)).trans ((d.cell (p:=⟨bc,0,none⟩) k).trans h2)) ((hp.later d).later n) eg) hl
 have o:m.cell? ⟨no,0,none⟩=some rv:=(d.cell (p:=⟨no,0,none⟩) l).trans h1;obtain⟨A,F,rfl,-,-⟩:=hrv;obtain⟨I,h⟩:=ex_ (L.findIdx (fun r=>q (r.val c)));rw[<-h]at a⊢;have E:I<=L.length:=by rw[h];exact List.findIdx_le_length
 obtain⟨u,z,C,v⟩:=aBp a b d o;have i:no<m.heap.size:=bT l d.size;have f:=o;rw[b]at f;rw[y]at f z;clear a h d t b hp h2 l k o j y;go_enter func105,ntmps105
 go_wp2_with fail
 rw[<-z.out];refine(u.out).mono ?_;rintro e D ⟨rfl,s⟩;have H:D.cell? ⟨no,0,none⟩=some (.slice A L.length F):=(s.cell (p:=⟨no,0,none⟩) i).trans v.out;have B:=hid s;clear s f h1;by_cases h:I<L.length
 . rw[if_pos h];have G:decide ((I:Int)<0)=false:=by simp
   go_wp2_with fail
   go_ret;exact⟨rfl,a2 C.out B.out⟩
 . rw[if_neg h];obtain rfl:I=L.length:=by omega
   go_wp2_with fail
   go_ret;exact⟨rfl,a2 C.out B.out⟩
end
section
open Go.Proofs.Tryz
open Go Go.RowKit Go.Shelf
variable {w w':cF} {B:Nat} {xs:List Rw} {ps:List (List (List UInt8))} {v1 v2:cG}
def pfC (t c lo hi:Int) (n f:Nat) (v1 v2 v3:cG):List cG:=[.int .i64 t,.int .i64 c,.int .i64 lo,.int .i64 hi,.int .i64 (n:Int),.int .i64 (f:Int),v1,v2,v3]
def pfV (t c lo hi:Int) (n f:Nat) (v1 v2 v3:cG):cG:= .agg #[t,c,lo,hi,(n:Int),(f:Int),v1,v2,v3]
def cutP (L:List Rw) (t c lo hi:Int):List (List (List UInt8)):=(List.range (cutO (tabS L t c) c lo hi).length).map fun k=>aBb (entsS L t c) (aDi (tabS L t c) c lo+k)
structure PfOwn (w:cF) (B:Nat) (xs:List Rw) (ps:List (List (List UInt8))) (v1 v2:cG):Prop where
 rows:w.ownsRow B 116 5 v1 xs.length (xs.flatMap rwC)
 paths:∃pvs:List cG,pvs.length=ps.length/\w.ownsRow B 58 1 v2 pvs.length pvs/\(∀(j:Nat) v p,pvs[j]? =some v->ps[j]? =some p->w.ownsRow B 9 1 v p.length (svs p)/\∀b,v.ownBlock=some b->v1.ownBlock≠some b/\v2.ownBlock≠some b)
 apart:∀b,v1.ownBlock=some b->v2.ownBlock≠some b
theorem PfOwn.nil (w:cF) (B:Nat):PfOwn w B [] [] (.slice none 0 0) (.slice none 0 0):=
 ⟨bM _ _ _ _,⟨[],rfl,bM _ _ _ _,fun j v p h=>by simp at h⟩,fun b h=>by simp[bV]at h⟩
theorem PfOwn.later (h:PfOwn w B xs ps v1 v2) (hb:Below w w w'):PfOwn w' B xs ps v1 v2:=by
 obtain⟨a,f,e,d⟩:=h.paths;exact⟨aAb hb h.rows,⟨a,f,aAb hb e,fun j v p b c=>⟨aAb hb (d j v p b c).1,(d j v p b c).2⟩⟩,h.apart⟩
theorem PfOwn.mono {B':Nat} (h:PfOwn w B xs ps v1 v2) (hb:B'<=B):PfOwn w B' xs ps v1 v2:=by
 obtain⟨a,f,e,d⟩:=h.paths;exact⟨aAh h.rows hb,⟨a,f,aAh e hb,fun j v p b c=>⟨aAh (d j v p b c).1 hb,(d j v p b c).2⟩⟩,h.apart⟩
theorem PfOwn.set (h:PfOwn w B xs ps v1 v2) (p:Addr) (u:cG) (hp:p.block<B):PfOwn (w.setCell p u) B xs ps v1 v2:=by
 obtain⟨a,i,g,f⟩:=h.paths;exact⟨aAg h.rows p u fun b e=>by have:=aAj h.rows e;omega,⟨a,i,aAg g p u fun b e=>by have:=aAj g e;omega,fun j v q c d=>⟨aAg (f j v q c d).1 p u fun b e=>by have:=aAj (f j v q c d).1 e;omega,(f j v q c d).2⟩⟩,h.apart⟩
theorem PfOwn.row (h:PfOwn w B xs ps v1 v2) {x:Rw} {g c:Nat} (hown:w'.ownsRow B 116 5 (.slice (some (g,0)) (xs.length+1) c) (xs.length+1) (xs.flatMap rwC++rwC x))
 (gr:w.grownBy w' v1.ownBlock) (hat:v1.ownBlock=some g\/g=w.heap.size):PfOwn w' B (xs++[x]) ps (.slice (some (g,0)) (xs.length+1) c) v2:=by
  obtain⟨i,u,n,t⟩:=h.paths
  have key:∀b,(∀f,v1.ownBlock=some f->f≠b)->b<w.heap.size->(Value.slice (some (g,0)) (xs.length+1) c).ownBlock≠some b:=by
   intro b a s e;have e:g=b:=Option.some.inj e;rcases hat with h|h
   . exact a g h e
   . omega
  refine⟨by rw[bL,cE];simpa using hown,⟨i,u,n.kept gr ?_,fun j v p q r=>?_⟩,fun b e=>?_⟩
  . by_cases d:v2.ownBlock=none
    . exact .inl d
    . right;intro e;obtain⟨b,a⟩:=bK.1 d;exact h.apart b (e▸a) a
  . obtain⟨m,k⟩:=t j v p q r;refine⟨m.kept gr ?_,fun b a=>⟨key b (fun f l e=>(k b a).1 (e▸l)) (m.lt b a).2,(k b a).2⟩⟩;by_cases d:v.ownBlock=none
    . exact .inl d
    . right;intro e;obtain⟨b,a⟩:=bK.1 d;exact(k b a).1 (e▸a)
  . intro o;exact key b (fun f l y=>h.apart f l (y▸o)) (n.lt b o).2 e
theorem PfOwn.path {v:cG} (h:PfOwn w B xs ps v1 v2) {p:List (List UInt8)} {g c:Nat} (hown:w'.ownsRow B 58 1 (.slice (some (g,0)) (ps.length+1) c) (ps.length+1) (h.paths.choose++[v]))
 (gr:w.grownBy w' v2.ownBlock) (hat:v2.ownBlock=some g\/g=w.heap.size) (hv:w.ownsRow B 9 1 v p.length (svs p)) (hn:∀b,v.ownBlock=some b->v1.ownBlock≠some b/\v2.ownBlock≠some b) :
 PfOwn w' B xs (ps++[p]) v1 (.slice (some (g,0)) (ps.length+1) c):=by
 obtain⟨o,z,x⟩:=h.paths.choose_spec;generalize h.paths.choose=pvs at *
 have key:∀b,(∀k,v2.ownBlock=some k->k≠b)->b<w.heap.size->(Value.slice (some (g,0)) (ps.length+1) c).ownBlock≠some b:=by
  intro b a s e;have e:g=b:=Option.some.inj e;rcases hat with h|h
  . exact a g h e
  . omega
 refine⟨h.rows.kept gr ?_,⟨pvs++[v],by simp[o],by rw[bL,o];exact hown,fun j u q d l=>?_⟩,fun b e=>key b (fun k i y=>h.apart b e (y▸i)) (h.rows.lt b e).2⟩
 . by_cases hn:v1.ownBlock=none
   . exact .inl hn
   . right;intro e;obtain⟨b,a⟩:=bK.1 hn;exact h.apart b a (e▸a)
 . by_cases t:j<pvs.length
   . rw[List.getElem?_append_left t]at d;rw[List.getElem?_append_left (by omega)]at l;obtain⟨r,m⟩:=x j u q d l;refine⟨r.kept gr ?_,fun b a=>⟨(m b a).1,key b (fun k i e=>(m b a).2 (e▸i)) (r.lt b a).2⟩⟩;by_cases hn:u.ownBlock=none
     . exact .inl hn
     . right;intro e;obtain⟨b,a⟩:=bK.1 hn;exact(m b a).2 (e▸a)
   . have n:j=pvs.length:=by
      have:=(List.getElem?_eq_some_iff.1 d).1;simp at this;omega
     subst n;rw[List.getElem?_append_right (bR _),Nat.sub_self]at d;rw[List.getElem?_append_right (by omega),o,Nat.sub_self]at l;obtain rfl:v=u:=by simpa using d
     obtain rfl:p=q:=by simpa using l
     refine⟨hv.kept gr ?_,fun b a=>⟨(hn b a).1,key b (fun k i e=>(hn b a).2 (e▸i)) (hv.lt b a).2⟩⟩;by_cases f:v.ownBlock=none
     . exact .inl f
     . right;intro e;obtain⟨b,a⟩:=bK.1 f;exact(hn b a).2 (e▸a)
theorem aTy (v:cG) (l:List (List UInt8)) (i:Nat) (w:cF) (hv:ListAt w v l) (hl:l.length<=1000000) (hi:i<l.length) (hs:∀x∈l,x.length<=900000) (hR:aA4 w) :
 cI prog 111 #[v,i] w fun e w'=>∃v',e= .returned (.tuple #[v',()])/\w'.ownsRow w.heap.size 9 1 v' (aBb l i).length (svs (aBb l i))/\Below w w w':=by
 obtain⟨g,o,c,rfl,a⟩:=hv.rows (by rintro rfl;simp at hi);refine(aW7 g o l.length c l i w a hl hi hs hR).mono ?_;rintro e w' ⟨v',rfl,own,b⟩;exact⟨v',rfl,own,b⟩
end
end Go.Proofs.YtmhpfoicloojcaaGreatDoor
