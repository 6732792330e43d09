/- Appends of rows; rows compared; results compared. -/
import Derived.Test.YtmhpfoicloojcaaGreatDoorZaz
import Derived.Laws.AppendOwnNone
import Derived.Test.YtmhpfoicloojcaaGreatDoorZbc
set_option linter.all false
open Nat renaming le_refl→aA
open List renaming getElem?_eq_getElem→aB,eq_nil_of_length_eq_zero→aC,getElem?_eq_some_iff→aD
open Go.IntKind renaming signed→aE,wrap→aF,bits→aG
open Go renaming World→aH,Value→aI,TypeId→aJ,Calls→aK
namespace Go.Proofs.YtmhpfoicloojcaaGreatDoor
set_option maxRecDepth 100000
set_option maxHeartbeats 16000000
section
open Go Go.RowKit
theorem aAf {P:Program} {w:aH} {ops:Array Oper} {rest:List Oper} {o:Oper} {a:Act} {Q:Exit->Act->aH->Prop} (hgd:o.guard=none) (s x:Operand) (t:aJ)
 (ho:o.op= .call {callee:= .builtin .append,args:=#[s,x],argTypes:=#[t,t]})
 (base:Nat) (e:aJ) (i:TypeInfo) (z:aI) (size bytes:Nat) (ht:P.underlying t=some (.slice e)) (hi:P.info? e=some i) (hz:i.zero=some z)
 (hsize:i.size=size) (hby:i.bytes=bytes) (hzs:z.cells.size=size) (hsz:0<size)
 (v:aI) (n:Nat) (xs:List aI) (hs:a.eval s=v) (hown:w.ownsRow base e size v n xs)
 (A:Option Addr) (m c:Nat) (news:List aI) (hx:a.eval x= .slice A m c) (hA:A=none->m=0/\c=0) (hl:news.length=m*size) (hnews:∀ad,A=some ad->∀j u,news[j]? =some u->w.cell? (ad.add j)=some u) (h1:∀u∈news,u.oneCell'=true)
 (h63:n+m<=maxLen) (hbytes:(n+m)*bytes<=140737488355328) (hbase:base<=w.heap.size)
 (h:∀v' w',w'.ownsRow base e size v' (n+m) (xs++news)->w.grownBy w' v.ownBlock->wpList P ops Q rest (a.put o.dst v') w'):wpList P ops Q (o :: rest) a w:=by
  cases A with
  | none=>
    obtain⟨rfl,rfl⟩:=hA rfl;have b:news=[]:=aC (by simpa using hl);subst b;refine wpList_append_own_none hgd s x t ho base e i size ht hi v n xs hs hown hx ?_;refine h v w ?_ (World.grownBy.refl w _);rw[List.append_nil];exact hown
  | some ad=>
    exact wpList_append_own w hgd s x t ho base e i z size bytes ht hi hz hsize hby hzs hsz v n xs hs hown ad m c news hx hl (hnews ad rfl) h1 h63 hbytes hbase (fun v' w' f d _=>h v' w' f d)
theorem aBh (l:List Rw):∀u∈l.flatMap rwC,u.oneCell'=true:=by
 intro u a;obtain⟨r,_,a⟩:=List.mem_flatMap.1 a;simp only[rwC,List.mem_cons,List.not_mem_nil,or_false]at a;rcases a with rfl|rfl|rfl|rfl|rfl <;> rfl
theorem aAs (l:List Rw):(l.flatMap rwC).length=l.length*5:=aAk rwC 5 aAu l
theorem aSw {l:List Rw} {w:aH} {g o:Nat} (h:∀(j:Nat) x,l[j]? =some x->∀(i:Nat) u,(rwC x)[i]? =some u->w.cell? (g,o+j*5+i)=some u) :
 ∀(j:Nat) u,(l.flatMap rwC)[j]? =some u->w.cell? (g,o+j)=some u:=by
 intro j u c;have k:=(aD.1 c).1;rw[aAs]at k;have d:j / 5*5+j % 5=j:=Nat.div_add_mod' j 5;obtain⟨x,b⟩:∃x,l[j / 5]? =some x:=⟨_,aB (by omega)⟩;obtain⟨y,a⟩:∃y,(rwC x)[j % 5]? =some y:=⟨_,aB (by rw[aAu];omega)⟩;have f:=aBk rwC 5 aAu l (j / 5) (j % 5) x y b a;rw[d,c]at f;obtain rfl:=Option.some.inj f;have e:=h _ x b _ _ a;rw[Nat.add_assoc,d]at e;exact e
end
section
open Go.Proofs.Tryz
open Go Go.RowKit Go.Shelf
attribute [local go_sem] Oper.semAt_some
def aC3 (c n:Int):Int:=(if c<0 then -(c+1)else c) % n
theorem aA3 (c n:Int) (h:0<n):0<=aC3 c n/\aC3 c n<n:=⟨Int.emod_nonneg _ (by omega),Int.emod_lt_of_pos _ h⟩
theorem aDo (c n:Int) (h1:0<n) (h2:n<=1000000) (hc: -9223372036854775808<=c/\c<=9223372036854775807) (w:aH) :
 aK prog 7 #[c,n] w fun e w'=>e= .returned (.int .i64 (aC3 c n))/\w'=w:=by
 have j:(n== 0)=false:=by simp;omega
 by_cases h:c<0
 . have g:decide (c<0)=true:=by simpa using h
   have k:IntKind.i64.wrap (c+1)=c+1:=by simp[aF,aG,aE];omega
   have i:IntKind.i64.wrap (-(c+1))= -(c+1):=by simp[aF,aG,aE];omega
   have d:(-(c+1)).tmod n=aC3 c n:=by
    unfold aC3;rw[if_pos h,Int.tmod_eq_emod_of_nonneg (by omega)]
   have f:=aA3 c n h1;have a:IntKind.i64.wrap (aC3 c n)=aC3 c n:=by simp[aF,aG,aE];omega
   obtain⟨P,b⟩:=ex_ (aC3 c n);rw[<-b]at d a⊢;clear b f;go_enter func7,ntmps7
   go_wp2_with fail
   go_ret;exact⟨rfl,rfl⟩
 . have g:decide (c<0)=false:=by simpa using h
   have d:c.tmod n=aC3 c n:=by
    unfold aC3;rw[if_neg h,Int.tmod_eq_emod_of_nonneg (by omega)]
   have f:=aA3 c n h1;have a:IntKind.i64.wrap (aC3 c n)=aC3 c n:=by simp[aF,aG,aE];omega
   obtain⟨P,b⟩:=ex_ (aC3 c n);rw[<-b]at d a⊢;clear b f;go_enter func7,ntmps7
   go_wp2_with fail
   go_ret;exact⟨rfl,rfl⟩
noncomputable def aGz (i:Nat):Field:=((prog.fieldsOf 116)[i]?).getD default
theorem aWs (W:aH) (a b c x y:Int):(Op.equalIn 10000 116 (.agg #[a,b,c,x,y]) (.agg #[a,b,c,x,y])).run prog W= .ok true W:=by
 obtain⟨z,t⟩:∃i,prog.info? 3=some i:=Option.isSome_iff_exists.1 (by kernel_rfl);obtain⟨v,s⟩:∃i,prog.info? 46=some i:=Option.isSome_iff_exists.1 (by kernel_rfl);have d:prog.cellsOf 46=3:=by kernel_rfl
 have u:(prog.fieldsOf 116).toList=[aGz 0,aGz 1,aGz 2]:=by kernel_rfl
 have n : ((aGz 0).name == "_") = false := by kernel_rfl
 have m : ((aGz 1).name == "_") = false := by kernel_rfl
 have l : ((aGz 2).name == "_") = false := by kernel_rfl
 have g:(aGz 0).type=3:=by kernel_rfl
 have f:(aGz 1).type=3:=by kernel_rfl
 have e:(aGz 2).type=46:=by kernel_rfl
 have k:(aGz 0).offset=0:=by kernel_rfl
 have j:(aGz 1).offset=1:=by kernel_rfl
 have h:(aGz 2).offset=2:=by kernel_rfl
 have r : (aGz 0).name ≠ "_" := by simpa using n
 have p : (aGz 1).name ≠ "_" := by simpa using m
 have o : (aGz 2).name ≠ "_" := by simpa using l
 have q:=fun W=>aWt W 9997;simp only[Nat.reduceAdd]at q;rw[run_equalIn_struct (w:=W) 9999 _ _ _ (by kernel_rfl) (by kernel_rfl),u];simp only[Op.eqFields,g,f,e,k,j,h,if_pos r,if_pos p,if_pos o];simp[part,run_sizeOf,t,s,d,run_equalIn_int,underlying3,go_sem,q]
theorem bBi:prog.eqGuardType prog.depth 116=false:=by kernel_rfl
theorem aNi (v1 v2:aI) (xs:List Rw) (w:aH) (hl:xs.length<=2000) (h1:RwsAt w v1 xs) (h2:RwsAt w v2 xs) :
 aK prog 22 #[v1,v2] w fun e w'=>e= .returned (.bool true)/\Below w w w':=by
 obtain⟨T,R,rfl,-⟩:=h1.form;obtain⟨S,Q,rfl,-⟩:=h2.form;obtain⟨N,d⟩:=ex_ xs.length;rw[<-d]at h1 h2 hl⊢;have E:=hid d;have H:=hid (And.intro h1 h2);clear h1 h2 d;go_enter func22,ntmps22
 go_wp2_with fail
 go_loopw [5] (fun iv wr=>∃k:Nat,k<=N/\iv= .int .i64 k/\Hid (Below w w wr)) (fun iv _=>N-(intOf iv).toNat)
 case atStart=>exact⟨0,by omega,rfl,hid (Below.refl _ _)⟩
 case round=>
  obtain⟨k,M,rfl,b⟩:=hrel;by_cases a:k<N
  . obtain⟨x,c⟩:∃x,xs[k]? =some x:=⟨_,aB (by rw[<-E.out];exact a)⟩;obtain⟨P,K,C,A,-,-,v,u,t,s,r⟩:=(H.1.below b.out).at_ c;obtain⟨O,J,B,z,-,-,q,p,o,n,m⟩:=(H.2.below b.out).at_ c;injection A with ea eb ec
    subst ea ec;clear eb;injection z with ea eb ec
    subst ea ec;clear eb;obtain⟨f,g,j,i,h⟩:=x;dsimp only at v u t s r q p o n m;have l:decide (k<N)=true:=by simpa using a
    have G:(0:Int)<=(k:Int):=by omega
    have F:(k:Int)<(N:Int):=by omega
    have D:=hid (Below.next b.out (Below.drew (Below.refl _ _)));clear c;have L:=fun W=>aWs W f g j i h;have y:=bBi;go_wp2_with fail
    go_region
    go_wp2_with fail
    exact⟨⟨k+1,by omega,by go_num,D⟩,by simp[intOf];omega⟩
  . have l:decide (k<N)=false:=by simpa using a
    go_wp2_with fail
    go_ret;exact⟨rfl,b.out⟩
variable {w:aH} {b:Nat} {s:StT}
structure RSt (w:aH) (b:Nat) (s:StT):Prop where
 own:∃v,BlkIs w b 120 [v,s.pos]/\w.ownsRow (b+1) 116 5 v s.rows.length (s.rows.flatMap rwC)
theorem RSt.box (h:RSt w b s):∃v,BlkIs w b 120 [v,s.pos]/\RwsAt w v s.rows/\True:=by
 obtain⟨v,c,a⟩:=h.own;exact⟨v,c,aA1 a,trivial⟩
theorem RSt.lt (h:RSt w b s):b<w.heap.size:=by
 obtain⟨v,a,-⟩:=h.own;exact a.lt
theorem RSt.later {w':aH} (h:RSt w b s) (hb:Below w w w'):RSt w' b s:=by
 obtain⟨v,c,a⟩:=h.own;exact⟨v,c.later hb,aAb hb a⟩
theorem bAo (w:aH):aK prog 41 #[] w fun e w'=>e= .returned (.pointer (some (w,0)))/\RSt w' w.heap.size st0/\Below w w w'/\w'.heap.size=w.heap.size+1:=by
 have K:=BlkIs.new w 120 #[.slice none 0 0,()];have b:=Below.alloc1 w (.cells #[.slice none 0 0,()] 120);have a:RSt (w.alloc (.cells #[.slice none 0 0,()] 120)) w.heap.size st0:=⟨_,K,World.ownsRow_nil _ _ _ _⟩;have H:=hid (And.intro a b);clear K b a;go_enter func41,ntmps41
 go_wp2_with fail
 go_ret;exact⟨rfl,H.1,H.2,World.size_alloc _ _⟩
theorem aQ1 (b:Nat) (s:StT) (t k:Int) (w:aH) (h:RSt w b s) (hs:SortS s.rows) (hl:s.rows.length<=3000) :
 aK prog 84 #[.pointer (some (b,0)),t,k] w fun e w'=>e= .returned (.int .i64 ((aI8 s.rows t k:Nat):Int))/\w'=w:=by
 obtain⟨v,K,D,-⟩:=h.box;have j:=fun i x (y:s.rows[i]? =some x)=>hs.low_iff t k y;have n:=aMt s.rows t k;obtain⟨J,O⟩:=ex_ (aI8 s.rows t k);obtain⟨A,c,rfl,-⟩:=D.form;obtain⟨N,E⟩:=ex_ s.rows.length;have c0:w.cell? (b,0)=some (.slice A N c):=by rw[E];exact K.cell 0
 rw[<-O]at j n⊢;rw[<-E]at n hl D;obtain⟨HI,HN,Z⟩:=aAw j E D;clear h K hs j D O E;go_enter func84,ntmps84
 go_wp2_with fail
 go_loopw [7,8] (fun G H wr=>∃a d:Nat,G= .int .i64 a/\H= .int .i64 d/\a<=J/\J<=d/\d<=N/\wr=w) (fun G H _=>(intOf H-intOf G).toNat)
 case atStart=>exact⟨0,N,rfl,rfl,by omega,n,by omega,rfl⟩
 case round=>
  obtain⟨a,d,rfl,rfl,M,L,C,rfl⟩:=hrel;by_cases B:a<d
  . have S:decide (a<d)=true:=by simpa using B
    obtain⟨m,X⟩:=ex_ ((a+d) / 2);have z:((a:Int)+(d:Int)) / 2=(m:Int):=by omega
    obtain⟨x,y⟩:∃x,s.rows[m]? =some x:=⟨_,aB (by rw[<-HN.out];omega)⟩;obtain⟨g,o,cc,Y,-,-,U,T,-⟩:=Z.at_ y;injection Y with ea eb ec
    subst ea ec;clear eb;have f:=HI.out m x y;obtain⟨r,F,x0,x1,x2⟩:=x;dsimp only at U T;have q0:(0:Int)<=(m:Int):=by omega
    have q1:(m:Int)<(N:Int):=by omega
    have V:a<=m/\m<d:=by omega
    clear X y;by_cases q:r<t
    . have p:m<J:=f.1 (by simp[ltK,q]);have R:decide (r<t)=true:=by simpa using q
      clear q f;go_wp2_with fail
      exact⟨⟨m+1,d,by go_num,rfl,by omega,L,C,by trivial⟩,by simp[intOf];omega⟩
    . have R:decide (r<t)=false:=by simpa using q
      by_cases l:r=t
      . have Q:(r== t)=true:=by simpa using l
        by_cases u:F<k
        . have p:m<J:=f.1 (by simp[ltK,l,u]);have P:decide (F<k)=true:=by simpa using u
          clear q l u f;go_wp2_with fail
          exact⟨⟨m+1,d,by go_num,rfl,by omega,L,C,by trivial⟩,by simp[intOf];omega⟩
        . have p:J<=m:=Nat.le_of_not_lt fun h=>by have:=f.2 h;simp[ltK,l,u]at this
          have P:decide (F<k)=false:=by simpa using u
          clear q l u f;go_wp2_with fail
          exact⟨⟨a,m,by trivial,by rw[z],M,by omega,by omega,by trivial⟩,by simp[intOf];omega⟩
      . have p:J<=m:=Nat.le_of_not_lt fun h=>by have:=f.2 h;simp[ltK,l]at this;omega
        have Q:(r== t)=false:=by simpa using l
        clear q l f;go_wp2_with fail
        exact⟨⟨a,m,by trivial,by rw[z],M,by omega,by omega,by trivial⟩,by simp[intOf];omega⟩
  . have S:decide (a<d)=false:=by simpa using B
    obtain rfl:a=J:=by omega
    go_wp2_with fail
    go_ret;exact⟨rfl,rfl⟩
def bE4 (o:Option Rw):aI:=match o with
 | some x=>rwV x
 | none=>rwV rw0
theorem aTw (b:Nat) (s:StT) (t k:Int) (w:aH) (h:RSt w b s) (hs:SortS s.rows) (hl:s.rows.length<=2000) :
 aK prog 42 #[.pointer (some (b,0)),t,k] w fun e w'=>e= .returned (.tuple #[bE4 (getS s.rows t k),.bool (getS s.rows t k).isSome])/\Below w w w':=by
 obtain⟨f,l⟩:=ex_ (w.alloc (.cells #[(),(),(),(),()] 116));have S:Below w w f:=by rw[l];exact Below.alloc1 w _
 have j:BlkIs f w 116 [(),(),(),(),()]:=by rw[l];exact BlkIs.new w _ _
 have z:=aQ1 b s t k f (h.later S) hs (by omega);have i:=hs.low_get t k;obtain⟨v,K,Q,-⟩:=(h.later S).box;obtain⟨J,hJ⟩:=ex_ (aI8 s.rows t k);have H:=aMt s.rows t k;obtain⟨A,c,rfl,-⟩:=Q.form;obtain⟨N,R⟩:=ex_ s.rows.length;have c0:f.cell? (b,0)=some (.slice A N c):=by rw[R];exact K.cell 0
 rw[<-hJ]at z i H;rw[<-R]at i H hl Q;have z0:f.cell? (w,0)=some (.int .i64 0):=j.cell 0;have z1:f.cell? (w,1)=some (.int .i64 0):=j.cell 1;have z2:f.cell? (w,2)=some (.int .i64 0):=j.cell 2;have z3:f.cell? (w,3)=some (.int .i64 0):=j.cell 3;have z4:f.cell? (w,4)=some (.int .i64 0):=j.cell 4;have ad:=j.frozen 0;have ac:=j.frozen 1;have ab:=j.frozen 2;have aa:=j.frozen 3;have a9:=j.frozen 4;obtain⟨M,P,a0,HR,HN,HW⟩:=aIl j S z Q R l;have q0:(0:Int)<=(J:Int):=by omega
 clear h hs z Q K j S hJ R l;obtain⟨G,hG⟩:=ex_ (getS s.rows t k);rw[<-hG]at i⊢;clear hG;go_enter func42,ntmps42
 go_wp2_with fail
 rw[<-HW.out];refine(a0.out).mono ?_;rintro e f ⟨rfl,rfl⟩;rcases i with⟨x,hx,rfl,rfl,rfl⟩|⟨rfl,hno⟩
 . obtain⟨g,o,cc,Z,-,-,Y,X,V,U,T⟩:=HR.at_ hx;injection Z with ea eb ec
   subst ea ec;clear eb;have B:J<N:=by have:=(aD.1 hx).1;rw[HN.out];exact this
   obtain⟨m,C,F,E,D⟩:=x;dsimp only at Y X V U T;have t1:decide (J<N)=true:=by simpa using B
   have q1:(J:Int)<(N:Int):=by omega
   have a:=((((M.set 0 (.int .i64 m)).set 1 (.int .i64 C)).set 2 (.int .i64 F)).set 3 (.int .i64 E)).set 4 (.int .i64 D);have d:=((((P.setCell (p:=⟨w.heap.size,0,none⟩) (aA _) (.int .i64 m)).setCell (p:=⟨w.heap.size,1,none⟩) (aA _) (.int .i64 C)).setCell (p:=⟨w.heap.size,2,none⟩) (aA _) (.int .i64 F)).setCell (p:=⟨w.heap.size,3,none⟩) (aA _) (.int .i64 E)).setCell (p:=⟨w.heap.size,4,none⟩) (aA _) (.int .i64 D);have O:=hid (And.intro a d);clear hx a d;go_wp2_with fail
   obtain⟨a,d⟩:=O.out;generalize ((((f.setCell (w,0) (.int .i64 m)).setCell (w,1) (.int .i64 C)).setCell (w,2) (.int .i64 F)).setCell (w,3) (.int .i64 E)).setCell (w,4) (.int .i64 D)=w3 at *;have y:w3.cell? (w,0)=some (.int .i64 m):=a.cell 0;have u:w3.cell? (w,1)=some (.int .i64 C):=a.cell 1;have r:w3.cell? (w,2)=some (.int .i64 F):=a.cell 2;have q:w3.cell? (w,3)=some (.int .i64 E):=a.cell 3;have n:w3.cell? (w,4)=some (.int .i64 D):=a.cell 4;refine bodyPost_ret (by simp[results,results42,go_sem,y,u,r,q,n];try rfl) rfl ?_;exact⟨rfl,d⟩
 . have a:=((((M.set 0 (.int .i64 0)).set 1 (.int .i64 0)).set 2 (.int .i64 0)).set 3 (.int .i64 0)).set 4 (.int .i64 0);have d:=((((P.setCell (p:=⟨w.heap.size,0,none⟩) (aA _) (.int .i64 0)).setCell (p:=⟨w.heap.size,1,none⟩) (aA _) (.int .i64 0)).setCell (p:=⟨w.heap.size,2,none⟩) (aA _) (.int .i64 0)).setCell (p:=⟨w.heap.size,3,none⟩) (aA _) (.int .i64 0)).setCell (p:=⟨w.heap.size,4,none⟩) (aA _) (.int .i64 0);have O:=hid (And.intro a d);clear a d;rcases hno with hno|⟨x,hx,hne⟩
   . have t1:decide (J<N)=false:=by simpa using hno
     clear hno;go_wp2_with fail
     obtain⟨a,d⟩:=O.out;generalize ((((f.setCell (w,0) (.int .i64 0)).setCell (w,1) (.int .i64 0)).setCell (w,2) (.int .i64 0)).setCell (w,3) (.int .i64 0)).setCell (w,4) (.int .i64 0)=w3 at *;have y:w3.cell? (w,0)=some (.int .i64 0):=a.cell 0;have u:w3.cell? (w,1)=some (.int .i64 0):=a.cell 1;have r:w3.cell? (w,2)=some (.int .i64 0):=a.cell 2;have q:w3.cell? (w,3)=some (.int .i64 0):=a.cell 3;have n:w3.cell? (w,4)=some (.int .i64 0):=a.cell 4;refine bodyPost_ret (by simp[results,results42,go_sem,y,u,r,q,n];try rfl) rfl ?_;exact⟨rfl,d⟩
   . obtain⟨g,o,cc,Z,-,-,Y,X,V,U,T⟩:=HR.at_ hx;injection Z with ea eb ec
     subst ea ec;clear eb;have B:J<N:=by have:=(aD.1 hx).1;rw[HN.out];exact this
     obtain⟨m,C,F,E,D⟩:=x;dsimp only at Y X V U T hne;have t1:decide (J<N)=true:=by simpa using B
     have q1:(J:Int)<(N:Int):=by omega
     clear hx;by_cases L:m=t
     . have t2:(m== t)=true:=by simpa using L
       have t3:(C== k)=false:=by simpa using fun h=>hne ⟨L,h⟩
       clear L hne;go_wp2_with fail
       obtain⟨a,d⟩:=O.out;generalize ((((f.setCell (w,0) (.int .i64 0)).setCell (w,1) (.int .i64 0)).setCell (w,2) (.int .i64 0)).setCell (w,3) (.int .i64 0)).setCell (w,4) (.int .i64 0)=w3 at *;have y:w3.cell? (w,0)=some (.int .i64 0):=a.cell 0;have u:w3.cell? (w,1)=some (.int .i64 0):=a.cell 1;have r:w3.cell? (w,2)=some (.int .i64 0):=a.cell 2;have q:w3.cell? (w,3)=some (.int .i64 0):=a.cell 3;have n:w3.cell? (w,4)=some (.int .i64 0):=a.cell 4;refine bodyPost_ret (by simp[results,results42,go_sem,y,u,r,q,n];try rfl) rfl ?_;exact⟨rfl,d⟩
     . have t2:(m== t)=false:=by simpa using L
       clear L hne;go_wp2_with fail
       obtain⟨a,d⟩:=O.out;generalize ((((f.setCell (w,0) (.int .i64 0)).setCell (w,1) (.int .i64 0)).setCell (w,2) (.int .i64 0)).setCell (w,3) (.int .i64 0)).setCell (w,4) (.int .i64 0)=w3 at *;have y:w3.cell? (w,0)=some (.int .i64 0):=a.cell 0;have u:w3.cell? (w,1)=some (.int .i64 0):=a.cell 1;have r:w3.cell? (w,2)=some (.int .i64 0):=a.cell 2;have q:w3.cell? (w,3)=some (.int .i64 0):=a.cell 3;have n:w3.cell? (w,4)=some (.int .i64 0):=a.cell 4;refine bodyPost_ret (by simp[results,results42,go_sem,y,u,r,q,n];try rfl) rfl ?_;exact⟨rfl,d⟩
end
section
open Go Go.RowKit
variable {P:Program}
theorem aL6 {w:aH} {o:Oper} {a:Act} {K:Act->aH->Prop} {Q:Exit->Act->aH->Prop} (s x:Operand) (t:aJ)
 (ho:o.op= .call {callee:= .builtin .append,args:=#[s,x],argTypes:=#[t,t]})
 (base:Nat) (e:aJ) (i:TypeInfo) (z:aI) (size bytes:Nat) (ht:P.underlying t=some (.slice e)) (hi:P.info? e=some i) (hz:i.zero=some z)
 (hsize:i.size=size) (hby:i.bytes=bytes) (hzs:z.cells.size=size) (hsz:0<size)
 (v:aI) (n:Nat) (xs:List aI) (hs:a.eval s=v) (hown:w.ownsRow base e size v n xs)
 (A:Option Addr) (m c:Nat) (news:List aI) (hx:a.eval x= .slice A m c) (hA:A=none->m=0/\c=0) (hl:news.length=m*size) (hnews:∀ad,A=some ad->∀j u,news[j]? =some u->w.cell? (ad.add j)=some u) (h1:∀u∈news,u.oneCell'=true)
 (h63:n+m<=maxLen) (hbytes:(n+m)*bytes<=140737488355328) (hbase:base<=w.heap.size)
 (h:∀v' w',w'.ownsRow base e size v' (n+m) (xs++news)->w.grownBy w' v.ownBlock->K (a.put o.dst v') w'):o.wp P a w K Q:=by
  cases A with
  | none=>
    obtain⟨rfl,rfl⟩:=hA rfl;have d:news=[]:=aC (by simpa using hl);subst d;have b:=run_append_owned_none (P:=P) (w:=w) base t o.type e i size ht hi v n xs hown;unfold Oper.wp;simp[execOp,ho,resolve,invoke,builtin,hs,hx,b,Result.andThen];exact h v w (by rw[List.append_nil];exact hown) (World.grownBy.refl w _)
  | some ad=>exact wp_append_own w s x t ho base e i z size bytes ht hi hz hsize hby hzs hsz v n xs hs hown ad m c news hx hl (hnews ad rfl) h1 h63 hbytes hbase (fun v' w' g f _=>h v' w' g f)
theorem aJr (w:aH) (base:Nat) (t ty e:aJ) (i:TypeInfo) (z:aI) (size bytes:Nat) (ht:P.underlying t=some (.slice e)) (hi:P.info? e=some i) (hz:i.zero=some z)
 (hsize:i.size=size) (hby:i.bytes=bytes) (hzs:z.cells.size=size)
 (A:Option Addr) (n:Nat) (olds:List aI) (hlo:olds.length=n*size) (hA:A=none->n=0) (holds:∀ad,A=some ad->∀j u,olds[j]? =some u->w.cell? (ad.add j)=some u)
 (a:Addr) (m c:Nat) (news:List aI) (hl:news.length=m*size) (hnews:∀j u,news[j]? =some u->w.cell? (a.add j)=some u) (hm:0<m)
 (h63:n+m<=maxLen) (hbytes:(n+m)*bytes<=140737488355328) (hbase:base<=w.heap.size) :
 ∃v' w',(Builtin.append_ #[t,t] ty #[.slice A n n,.slice (some a) m c]).run P w= .ok v' w'/\w'.ownsRow base e size v' (n+m) (olds++news)/\w.grownBy w' none:=by
 subst hsize;subst hby;have d:n+m<=9223372036854775807:=by simp only[maxLen]at h63;omega
 have g:=grownCap_ge w (n+m) n e;have h:grownCap w (n+m) n e<=maxLen:=grownCap_le_maxLen w (n+m) n e h63;have b:(olds++news).length=(n+m)*i.size:=by rw[List.length_append,hlo,hl,Nat.add_mul]
 have key:(w.drew.alloc (.cells (olds.toArray++news.toArray++Builtin.zeroCells z.cells (grownCap w (n+m) n e-(n+m))) e)).ownsRow base e i.size
       (.slice (some (w,0)) (n+m) (grownCap w (n+m) n e)) (n+m) (olds++news)/\
     w.grownBy (w.drew.alloc (.cells (olds.toArray++news.toArray++Builtin.zeroCells z.cells (grownCap w (n+m) n e-(n+m))) e)) none:=by
  refine⟨⟨b,.inr ⟨w.heap.size,_,_,rfl,hbase,heap_alloc_new w.drew _,g,h,?_,?_⟩⟩,⟨rfl,rfl,rfl,by simp,fun k o _=>heap_alloc_old w.drew _ k o⟩⟩
  . simp only[Array.size_append,List.size_toArray,size_zeroCells,hzs,hlo,hl,<-Nat.add_mul]
    congr 1
    omega
  . simp only[Array.toList_append,List.append_assoc];rw[<-List.append_assoc,<-b];exact List.take_left
 cases A with
 | none=>
   obtain rfl:=hA rfl;have l:olds=[]:=aC (by simpa using hlo);subst l;have f:=run_append_nil (P:=P) w t ty e i z ht hi hz a m c news hl hnews hm (by omega) (by have p:=hbytes;simp only[Nat.zero_add]at p;omega);simp only[Nat.zero_add,List.nil_append,Array.empty_append]at key⊢;exact⟨_,_,f,key.1,key.2⟩
 | some ad=>
   have f:=run_append_grow (P:=P) w t ty e i z ht hi hz ad n n olds hlo (holds ad rfl) a m c news hl hnews (by omega) (by omega) (growslice_fits (by omega) hbytes);exact⟨_,_,f,key.1,key.2⟩
theorem aKy {w:aH} {o:Oper} {ac:Act} {K:Act->aH->Prop} {Q:Exit->Act->aH->Prop} (s x:Operand) (t:aJ)
 (ho:o.op= .call {callee:= .builtin .append,args:=#[s,x],argTypes:=#[t,t]})
 (base:Nat) (e:aJ) (i:TypeInfo) (z:aI) (size bytes:Nat) (ht:P.underlying t=some (.slice e)) (hi:P.info? e=some i) (hz:i.zero=some z)
 (hsize:i.size=size) (hby:i.bytes=bytes) (hzs:z.cells.size=size)
 (A:Option Addr) (n:Nat) (olds:List aI) (hs:ac.eval s= .slice A n n) (hlo:olds.length=n*size) (hA:A=none->n=0) (holds:∀ad,A=some ad->∀j u,olds[j]? =some u->w.cell? (ad.add j)=some u)
 (a:Addr) (m c:Nat) (news:List aI) (hx:ac.eval x= .slice (some a) m c) (hl:news.length=m*size) (hnews:∀j u,news[j]? =some u->w.cell? (a.add j)=some u) (hm:0<m)
 (h63:n+m<=maxLen) (hbytes:(n+m)*bytes<=140737488355328) (hbase:base<=w.heap.size)
 (h:∀v' w',w'.ownsRow base e size v' (n+m) (olds++news)->w.grownBy w' none->K (ac.put o.dst v') w'):o.wp P ac w K Q:=by
  obtain⟨v',w',b,f,d⟩:=aJr (P:=P) w base t o.type e i z size bytes ht hi hz hsize hby hzs A n olds hlo hA holds a m c news hl hnews hm h63 hbytes hbase;unfold Oper.wp execOp;simp only[ho,resolve,invoke,builtin,Sem.run_bind,Sem.run_pure,Result.andThen_ok,List.map_toArray,List.map_cons,List.map_nil,hs,hx,b];exact h v' w' f d
theorem aT7 (w:aH) (base:Nat) (e:aJ) (size:Nat) (cs:Array aI) (h:cs.size=size) (hb:base<=w.heap.size) :
 (w.alloc (.cells cs e)).ownsRow base e size (.slice (some (w,0)) 1 1) 1 cs.toList:=
  ⟨by simpa using h,.inr ⟨w.heap.size,1,cs,rfl,hb,heap_alloc_new w _,aA _,by decide,by simpa using h,List.take_of_length_le (by simp[h])⟩⟩
end
section
open Go.Proofs.Tryz
open Go Go.RowKit Go.Shelf
attribute [local go_sem] Oper.semAt_some
theorem aWu (r:Res) (v1 v2:aI) (w:aH) (hl:r.rows.length<=2000) (h1:RwsAt w v1 r.rows) (h2:RwsAt w v2 r.rows) :
 aK prog 10 #[resV v1 r,resV v2 r] w fun e w'=>e= .returned (.bool true)/\Below w w w':=by
 obtain⟨l,n,b⟩:=r;obtain⟨x,s,rfl,-⟩:=h1.form;obtain⟨v,q,rfl,-⟩:=h2.form;have f:=fun W (h:Below w w W)=>aNi _ _ l W hl (h1.below h) (h2.below h);obtain⟨N,i⟩:=ex_ l.length;dsimp only at *;rw[<-i]at f⊢;have k:=hid f;clear f i hl h1 h2;obtain⟨p,t,j,g,d,c⟩:=aNb w [.slice x N s,n,b] 35 [.slice v N q,n,b] 35;unfold resV;dsimp only;go_enter func10,ntmps10
 go_upto_region 1 with fail
 rw[<-j.out];have o:=d.c0;have m:=c.c0;go_wp2_with fail
 (with_reducible refine(k.out p g.out).mono ?_)
 rintro e C ⟨rfl,a⟩;have B:=(d.later a).c1;have A:=(d.later a).c2;have z:=(c.later a).c1;have y:=(c.later a).c2;have u:=hid (Below.next g.out a);have E:(n== n)=true:=by simp
 have D:(b== b)=true:=by simp
 clear a o m j d c g t k;go_wp2_with fail
 go_ret;exact⟨rfl,u.out⟩
end
end Go.Proofs.YtmhpfoicloojcaaGreatDoor
