/- store.At; patches. -/
import Derived.Test.YtmhpfoicloojcaaGreatDoorZbc
set_option linter.all false
namespace Go.Proofs.YtmhpfoicloojcaaGreatDoor
set_option maxRecDepth 100000
set_option maxHeartbeats 16000000
section
open Go.Proofs.Tryz
open Go Go.RowKit
attribute [local go_sem] Oper.semAt_some
theorem aTq {l:List Rec} {k:Nat} {r:Rec} {s s':StT} (hr:l[k]? =some r) (h1:runS st0 (l.take k)=some s) (h2:runS st0 (l.take (k+1))=some s'):aFg s r=true/\s'=⟨r.chs.foldl aBs s.rows,r.pos⟩:=by
 rw[List.take_add_one,hr,aCf,h1]at h2;simp only[Option.bind_some,Option.toList_some,runS]at h2;cases e:aF9 s r with
 | none=>rw[e]at h2;cases h2
 | some z=>
   rw[e]at h2;obtain rfl:z=s':=by simpa[runS]using h2
   unfold aF9 at e;split at e
   . rename_i a
     exact⟨a,(Option.some.inj e).symm⟩
   . cases e
theorem aNg {α:Type} (l:List α) {k p:Nat} (h:k<=p):(l.take p).take k=l.take k:=by rw[List.take_take,Nat.min_eq_left h]
theorem Below.of_only2 {B b m:Nat} {w w2 w3:World} (h:Below w w w2) (k:Only (bm b m) w2 w3) (hb:B<=b) (hm:B<=m) (hB:B<=w.heap.size):Below B w w3:=
 (h.mono hB).trans (k.below (fun j hj=>by rcases hj with rfl|rfl <;> assumption) (Nat.le_trans hB h.size))
theorem bCl (v:Value) (l:List Rec) (p:Nat) (hp:p<=l.length) (hl:l.length<=10000) {s:StT} (hs:runS st0 (l.take p)=some s) (w:World) (hv:aCj w v l) :
 Calls prog 20 #[v,p] w fun e w'=>∃b m,e= .returned (.tuple #[.pointer (some (b,0)),()])/\StAt w' b m s/\w.heap.size<=b/\w.heap.size<=m/\Below w w w':=by
 obtain⟨A,c,rfl,hc,t⟩:=hv
 have i:∀k,k<=p->∃h,runS st0 (l.take k)=some h:=fun k hk=>by
  obtain⟨x,t⟩:=aDh hs k;rw[aNg l hk]at t;exact⟨x,t⟩
 obtain⟨HX,E,HS⟩:=aAw t i hs;have t1:decide ((p:Int)<0)=false:=by simp
 have t2:decide ((l.length:Int)<(p:Int))=false:=by simp;omega
 have q0:(0:Int)<=(p:Int):=by omega
 have q1:(p:Int)<=(c:Int):=by omega
 have n:=hid (bAf w);clear t i hs;go_enter func20,ntmps20
 go_wp2_with fail
 refine(n.out).mono ?_;rintro e w1 ⟨b,m,rfl,C,B,u,b1⟩;have D:=hid C;have F:=hid b1;clear C b1 n;go_wp2_with fail
 go_loopw [22] (fun iv wr=>∃k:Nat,k<=p/\iv= .int .i64 k/\∃h,Hid (runS st0 (l.take k)=some h)/\Hid (StAt wr b m h)/\Hid (Below w w wr)) (fun iv _=>p-(intOf iv).toNat)
 case atStart=>exact⟨0,by omega,rfl,st0,hid rfl,D,F⟩
 case round=>
  clear D F;obtain⟨k,hk,rfl,h,S,HM,r⟩:=hrel;by_cases j:k<p
  case pos=>
   obtain⟨⟨K,G⟩,O⟩:∃x,l[k]? =some x:=⟨_,List.getElem?_eq_getElem (by omega)⟩;obtain⟨s2,q⟩:=E.out (k+1) (by omega);obtain⟨d,rfl⟩:=aTq O S.out q;obtain⟨gk,M⟩:=aBy aCl S.out;rw[List.length_take,Nat.min_eq_left (by omega)]at M;have L:h.pos=(k:Int):=by rw[M];simp[st0]
   obtain⟨g,o,rfl,hg,hj⟩:=HX.out (by omega);obtain⟨j1,cv,j2,Z⟩:=hj k _ O;have Y:=Z.below r.out;obtain⟨A',Q,rfl,P,z⟩:=Z
   have y:0<G.length:=by
    have j:=(aB7 d).1;unfold recB at j;simp only[Bool.and_eq_true,decide_eq_true_eq]at j;exact j.1.2.1
   obtain⟨H,N,rfl,ac,-⟩:=z y;have u0:wr.cell? (g,o+k*2)=some (.int .i64 K):=(r.cell (p:=⟨g,o+k*2,none⟩) hg).trans j1;have u1:wr.cell? (g,o+k*2+1)=some (.slice (some (H,N)) G.length Q):=(r.cell (p:=⟨g,o+k*2+1,none⟩) hg).trans j2;have J:=Below.alloc1 wr (.cells #[K,.slice (some (H,N)) G.length Q] 51);have f:=aR4 b m h K (some ⟨H,N,none⟩) Q G _ (HM.below J) gk (by omega) (by omega) (Y.below J) (by rintro a ⟨rfl⟩;show H≠m;omega) d;unfold aQy at f;have q2:(0:Int)<=(k:Int):=by omega
   have q3:(k:Int)<(p:Int):=by omega
   have t3:decide (k<p)=true:=by simpa using j
   obtain⟨T,U,R⟩:=aAw f J q;clear f J O q d gk M L j1 j2 Y z hj j P;go_wp2_with fail
   refine(T.out).mono ?_;rintro e w3 ⟨rfl,X,V⟩;have M3:=hid X;have B3:=hid (Below.trans r.out (Below.of_only2 U.out V B u r.size));clear X V u0 u1;go_wp2_with fail
   exact⟨⟨k+1,by omega,by go_num,_,R,M3,B3⟩,by simp[intOf];omega⟩
  case neg=>
   have t3:decide (k<p)=false:=by simpa using j
   obtain rfl:k=p:=by omega
   obtain rfl:h=s:=by
    have:=S.out;rw[HS.out]at this;exact(Option.some.inj this).symm
   clear j;go_wp2_with fail
   go_ret2
   exact⟨b,m,rfl,HM.out,B,u,r.out⟩
def aZ6 (g:Nat) (better:Int->Int->Bool):Prop:=∀(a b:Int) (W:World),Calls prog g #[a,b] W fun e w'=>e= .returned (.bool (better a b))/\W=w'
theorem bA5:aZ6 189 ltB:=by
 intro a b w;unfold ltB;obtain⟨y,c⟩:∃y,decide (a<b)=y:=⟨_,rfl⟩;rw[c];go_enter func189,ntmps189
 go_wp2_with fail
 go_ret;exact⟨rfl,rfl⟩
theorem bBj:aZ6 191 gtB:=by
 intro a b w;unfold gtB;obtain⟨y,c⟩:∃y,decide (b<a)=y:=⟨_,rfl⟩;rw[c];go_enter func191,ntmps191
 go_wp2_with fail
 go_ret;exact⟨rfl,rfl⟩
theorem aT2 (gx:Nat) (q:Qy) (c:Chg) (pb pa:Option Addr) (r:Res) (v:Value) (w:World) (hb:PtrRow w pb (befQ q c)) (ha:PtrRow w pa (aftQ q c)) (hF:ResF r) (hv:RwsAt w v r.rows)
 (hg:BlkIs w gx 199 [fnV 189]) :
 Calls prog 231 #[effV q c pb pa,resV v r,.pointer (some (gx,0))] w fun e w'=>
  ∃v',e= .returned (.tuple #[resV v' (aEh ltB q c r).1,.bool (aEh ltB q c r).2])/\RwsAt w' v' (aEh ltB q c r).1.rows/\Below w w w':=by
 have y:=hb.isSome;have x:=ha.isSome;unfold aEh;rw[<-y,<-x];obtain⟨l,n,B⟩:=r;obtain⟨-,-,-⟩:=hF;obtain⟨A,D,rfl,-⟩:=hv.form;unfold effV resV;generalize aC7 q c=O at *;generalize aCq q c=M at *;dsimp only at *;have p:=fun W=>bA5 n O W;have o:=fun W=>bA5 n M W;have m:=fun W=>bA5 M n W;generalize ltB n O=x1 at *;generalize ltB n M=x2 at *;generalize ltB M n=x3 at *;obtain⟨f,d,b⟩:=aAw p o m;have k:=fun(j i h:Obj)=>((((Below.refl w.heap.size w).alloc (Nat.le_refl _) j).alloc (by simp) i).alloc (by simp;omega) h);have a:=hid (fun(j i h:Obj)=>(hv.below (k j i h)));have g:=hid k;have z:=hg.lt;have t:gx<w.heap.size+1:=by omega
 have s:gx<w.heap.size+1+1:=by omega
 unfold fnV at hg;have C:=hg.c0;obtain⟨N,u⟩:=ex_ l.length;rw[<-u]at a⊢;clear u k hb ha y x hv p o m hg;cases pb <;> cases B <;> cases pa
 . go_enter func231,ntmps231
   go_wp2_with (first
    | (go_at_call 189;(with_reducible refine(f.out _).mono ?_);rintro e w' ⟨rfl,rfl⟩)
    | (go_at_call 189;(with_reducible refine(d.out _).mono ?_);rintro e w' ⟨rfl,rfl⟩)
    | (go_at_call 189;(with_reducible refine(b.out _).mono ?_);rintro e w' ⟨rfl,rfl⟩)
    | fail)
   refine bodyPost_ret (by simp[results,results231,go_sem];try rfl) rfl ?_;exact⟨_,rfl,a.out _ _ _,g.out _ _ _⟩
 . go_enter func231,ntmps231
   go_wp2_with (first
    | (go_at_call 189;(with_reducible refine(f.out _).mono ?_);rintro e w' ⟨rfl,rfl⟩)
    | (go_at_call 189;(with_reducible refine(d.out _).mono ?_);rintro e w' ⟨rfl,rfl⟩)
    | (go_at_call 189;(with_reducible refine(b.out _).mono ?_);rintro e w' ⟨rfl,rfl⟩)
    | fail)
   refine bodyPost_ret (by simp[results,results231,go_sem];try rfl) rfl ?_;exact⟨_,rfl,a.out _ _ _,g.out _ _ _⟩
 . go_enter func231,ntmps231
   go_wp2_with (first
    | (go_at_call 189;(with_reducible refine(f.out _).mono ?_);rintro e w' ⟨rfl,rfl⟩)
    | (go_at_call 189;(with_reducible refine(d.out _).mono ?_);rintro e w' ⟨rfl,rfl⟩)
    | (go_at_call 189;(with_reducible refine(b.out _).mono ?_);rintro e w' ⟨rfl,rfl⟩)
    | fail)
   refine bodyPost_ret (by simp[results,results231,go_sem];try rfl) rfl ?_;exact⟨_,rfl,a.out _ _ _,g.out _ _ _⟩
 . cases x3
   all_goals
   go_enter func231,ntmps231
   go_wp2_with (first
    | (go_at_call 189;(with_reducible refine(f.out _).mono ?_);rintro e w' ⟨rfl,rfl⟩)
    | (go_at_call 189;(with_reducible refine(d.out _).mono ?_);rintro e w' ⟨rfl,rfl⟩)
    | (go_at_call 189;(with_reducible refine(b.out _).mono ?_);rintro e w' ⟨rfl,rfl⟩)
    | fail)
   refine bodyPost_ret (by simp[results,results231,go_sem];try rfl) rfl ?_;exact⟨_,rfl,a.out _ _ _,g.out _ _ _⟩
 . go_enter func231,ntmps231
   go_wp2_with (first
    | (go_at_call 189;(with_reducible refine(f.out _).mono ?_);rintro e w' ⟨rfl,rfl⟩)
    | (go_at_call 189;(with_reducible refine(d.out _).mono ?_);rintro e w' ⟨rfl,rfl⟩)
    | (go_at_call 189;(with_reducible refine(b.out _).mono ?_);rintro e w' ⟨rfl,rfl⟩)
    | fail)
   refine bodyPost_ret (by simp[results,results231,go_sem];try rfl) rfl ?_;exact⟨_,rfl,a.out _ _ _,g.out _ _ _⟩
 . go_enter func231,ntmps231
   go_wp2_with (first
    | (go_at_call 189;(with_reducible refine(f.out _).mono ?_);rintro e w' ⟨rfl,rfl⟩)
    | (go_at_call 189;(with_reducible refine(d.out _).mono ?_);rintro e w' ⟨rfl,rfl⟩)
    | (go_at_call 189;(with_reducible refine(b.out _).mono ?_);rintro e w' ⟨rfl,rfl⟩)
    | fail)
   refine bodyPost_ret (by simp[results,results231,go_sem];try rfl) rfl ?_;exact⟨_,rfl,a.out _ _ _,g.out _ _ _⟩
 . cases x1
   all_goals
   go_enter func231,ntmps231
   go_wp2_with (first
    | (go_at_call 189;(with_reducible refine(f.out _).mono ?_);rintro e w' ⟨rfl,rfl⟩)
    | (go_at_call 189;(with_reducible refine(d.out _).mono ?_);rintro e w' ⟨rfl,rfl⟩)
    | (go_at_call 189;(with_reducible refine(b.out _).mono ?_);rintro e w' ⟨rfl,rfl⟩)
    | fail)
   refine bodyPost_ret (by simp[results,results231,go_sem];try rfl) rfl ?_;exact⟨_,rfl,a.out _ _ _,g.out _ _ _⟩
 . cases x1 <;> cases x2 <;> cases x3
   all_goals
   go_enter func231,ntmps231
   go_wp2_with (first
    | (go_at_call 189;(with_reducible refine(f.out _).mono ?_);rintro e w' ⟨rfl,rfl⟩)
    | (go_at_call 189;(with_reducible refine(d.out _).mono ?_);rintro e w' ⟨rfl,rfl⟩)
    | (go_at_call 189;(with_reducible refine(b.out _).mono ?_);rintro e w' ⟨rfl,rfl⟩)
    | fail)
   refine bodyPost_ret (by simp[results,results231,go_sem];try rfl) rfl ?_;exact⟨_,rfl,a.out _ _ _,g.out _ _ _⟩
theorem aT3 (gx:Nat) (q:Qy) (c:Chg) (pb pa:Option Addr) (r:Res) (v:Value) (w:World) (hb:PtrRow w pb (befQ q c)) (ha:PtrRow w pa (aftQ q c)) (hF:ResF r) (hv:RwsAt w v r.rows)
 (hg:BlkIs w gx 199 [fnV 191]) :
 Calls prog 231 #[effV q c pb pa,resV v r,.pointer (some (gx,0))] w fun e w'=>
  ∃v',e= .returned (.tuple #[resV v' (aEh gtB q c r).1,.bool (aEh gtB q c r).2])/\RwsAt w' v' (aEh gtB q c r).1.rows/\Below w w w':=by
 have y:=hb.isSome;have x:=ha.isSome;unfold aEh;rw[<-y,<-x];obtain⟨l,n,B⟩:=r;obtain⟨-,-,-⟩:=hF;obtain⟨A,D,rfl,-⟩:=hv.form;unfold effV resV;generalize aC7 q c=O at *;generalize aCq q c=M at *;dsimp only at *;have p:=fun W=>bBj n O W;have o:=fun W=>bBj n M W;have m:=fun W=>bBj M n W;generalize gtB n O=x1 at *;generalize gtB n M=x2 at *;generalize gtB M n=x3 at *;obtain⟨f,d,b⟩:=aAw p o m;have k:=fun(j i h:Obj)=>((((Below.refl w.heap.size w).alloc (Nat.le_refl _) j).alloc (by simp) i).alloc (by simp;omega) h);have a:=hid (fun(j i h:Obj)=>(hv.below (k j i h)));have g:=hid k;have z:=hg.lt;have t:gx<w.heap.size+1:=by omega
 have s:gx<w.heap.size+1+1:=by omega
 unfold fnV at hg;have C:=hg.c0;obtain⟨N,u⟩:=ex_ l.length;rw[<-u]at a⊢;clear u k hb ha y x hv p o m hg;cases pb <;> cases B <;> cases pa
 . go_enter func231,ntmps231
   go_wp2_with (first
    | (go_at_call 191;(with_reducible refine(f.out _).mono ?_);rintro e w' ⟨rfl,rfl⟩)
    | (go_at_call 191;(with_reducible refine(d.out _).mono ?_);rintro e w' ⟨rfl,rfl⟩)
    | (go_at_call 191;(with_reducible refine(b.out _).mono ?_);rintro e w' ⟨rfl,rfl⟩)
    | fail)
   refine bodyPost_ret (by simp[results,results231,go_sem];try rfl) rfl ?_;exact⟨_,rfl,a.out _ _ _,g.out _ _ _⟩
 . go_enter func231,ntmps231
   go_wp2_with (first
    | (go_at_call 191;(with_reducible refine(f.out _).mono ?_);rintro e w' ⟨rfl,rfl⟩)
    | (go_at_call 191;(with_reducible refine(d.out _).mono ?_);rintro e w' ⟨rfl,rfl⟩)
    | (go_at_call 191;(with_reducible refine(b.out _).mono ?_);rintro e w' ⟨rfl,rfl⟩)
    | fail)
   refine bodyPost_ret (by simp[results,results231,go_sem];try rfl) rfl ?_;exact⟨_,rfl,a.out _ _ _,g.out _ _ _⟩
 . go_enter func231,ntmps231
   go_wp2_with (first
    | (go_at_call 191;(with_reducible refine(f.out _).mono ?_);rintro e w' ⟨rfl,rfl⟩)
    | (go_at_call 191;(with_reducible refine(d.out _).mono ?_);rintro e w' ⟨rfl,rfl⟩)
    | (go_at_call 191;(with_reducible refine(b.out _).mono ?_);rintro e w' ⟨rfl,rfl⟩)
    | fail)
   refine bodyPost_ret (by simp[results,results231,go_sem];try rfl) rfl ?_;exact⟨_,rfl,a.out _ _ _,g.out _ _ _⟩
 . cases x3
   all_goals
   go_enter func231,ntmps231
   go_wp2_with (first
    | (go_at_call 191;(with_reducible refine(f.out _).mono ?_);rintro e w' ⟨rfl,rfl⟩)
    | (go_at_call 191;(with_reducible refine(d.out _).mono ?_);rintro e w' ⟨rfl,rfl⟩)
    | (go_at_call 191;(with_reducible refine(b.out _).mono ?_);rintro e w' ⟨rfl,rfl⟩)
    | fail)
   refine bodyPost_ret (by simp[results,results231,go_sem];try rfl) rfl ?_;exact⟨_,rfl,a.out _ _ _,g.out _ _ _⟩
 . go_enter func231,ntmps231
   go_wp2_with (first
    | (go_at_call 191;(with_reducible refine(f.out _).mono ?_);rintro e w' ⟨rfl,rfl⟩)
    | (go_at_call 191;(with_reducible refine(d.out _).mono ?_);rintro e w' ⟨rfl,rfl⟩)
    | (go_at_call 191;(with_reducible refine(b.out _).mono ?_);rintro e w' ⟨rfl,rfl⟩)
    | fail)
   refine bodyPost_ret (by simp[results,results231,go_sem];try rfl) rfl ?_;exact⟨_,rfl,a.out _ _ _,g.out _ _ _⟩
 . go_enter func231,ntmps231
   go_wp2_with (first
    | (go_at_call 191;(with_reducible refine(f.out _).mono ?_);rintro e w' ⟨rfl,rfl⟩)
    | (go_at_call 191;(with_reducible refine(d.out _).mono ?_);rintro e w' ⟨rfl,rfl⟩)
    | (go_at_call 191;(with_reducible refine(b.out _).mono ?_);rintro e w' ⟨rfl,rfl⟩)
    | fail)
   refine bodyPost_ret (by simp[results,results231,go_sem];try rfl) rfl ?_;exact⟨_,rfl,a.out _ _ _,g.out _ _ _⟩
 . cases x1
   all_goals
   go_enter func231,ntmps231
   go_wp2_with (first
    | (go_at_call 191;(with_reducible refine(f.out _).mono ?_);rintro e w' ⟨rfl,rfl⟩)
    | (go_at_call 191;(with_reducible refine(d.out _).mono ?_);rintro e w' ⟨rfl,rfl⟩)
    | (go_at_call 191;(with_reducible refine(b.out _).mono ?_);rintro e w' ⟨rfl,rfl⟩)
    | fail)
   refine bodyPost_ret (by simp[results,results231,go_sem];try rfl) rfl ?_;exact⟨_,rfl,a.out _ _ _,g.out _ _ _⟩
 . cases x1 <;> cases x2 <;> cases x3
   all_goals
   go_enter func231,ntmps231
   go_wp2_with (first
    | (go_at_call 191;(with_reducible refine(f.out _).mono ?_);rintro e w' ⟨rfl,rfl⟩)
    | (go_at_call 191;(with_reducible refine(d.out _).mono ?_);rintro e w' ⟨rfl,rfl⟩)
    | (go_at_call 191;(with_reducible refine(b.out _).mono ?_);rintro e w' ⟨rfl,rfl⟩)
    | fail)
   refine bodyPost_ret (by simp[results,results231,go_sem];try rfl) rfl ?_;exact⟨_,rfl,a.out _ _ _,g.out _ _ _⟩
end
end Go.Proofs.YtmhpfoicloojcaaGreatDoor
