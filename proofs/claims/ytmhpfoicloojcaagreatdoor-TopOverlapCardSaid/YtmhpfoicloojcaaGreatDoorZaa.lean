/- Plain laws: the digest, the tree, the log, the store. -/
set_option linter.all false
open List renaming mem_filter→aA,length_append→aB,length_drop→aD,length_take→aE,filter_eq_nil_iff→aG,mem_cons→aI,filter_cons→aJ,mem_of_getElem?→aK
open Bool renaming and_eq_true→aC
open Nat renaming one_le_two_pow→aF,pow_le_pow_right→aH
namespace Go.Proofs.YtmhpfoicloojcaaGreatDoor
set_option maxRecDepth 100000
set_option maxHeartbeats 16000000
section
def aC6 (x n:Nat):Nat:=(x / 2 ^ n) |||(x*2 ^(32-n) % 4294967296)
def s0N (x:Nat):Nat:=aC6 x 7 ^^^ aC6 x 18 ^^^(x / 2 ^ 3)
def s1N (x:Nat):Nat:=aC6 x 17 ^^^ aC6 x 19 ^^^(x / 2 ^ 10)
def b0N (x:Nat):Nat:=aC6 x 2 ^^^ aC6 x 13 ^^^ aC6 x 22
def b1N (x:Nat):Nat:=aC6 x 6 ^^^ aC6 x 11 ^^^ aC6 x 25
def chN (e f g:Nat):Nat:=(e&&&f) ^^^((4294967295-e)&&&g)
def bE2 (a b c:Nat):Nat:=(a&&&b) ^^^(a&&&c) ^^^(b&&&c)
def aS7:List Nat:=[1116352408,1899447441,3049323471,3921009573,961987163,1508970993,2453635748,2870763221,3624381080,310598401,607225278,1426881987,1925078388,2162078206,2614888103,3248222580,3835390401,4022224774,264347078,604807628,770255983,1249150122,1555081692,1996064986,2554220882,2821834349,2952996808,3210313671,3336571891,3584528711,113926993,338241895,666307205,773529912,1294757372,1396182291,1695183700,1986661051,2177026350,2456956037,2730485921,2820302411,3259730800,3345764771,3516065817,3600352804,4094571909,275423344,430227734,506948616,659060556,883997877,958139571,1322822218,1537002063,1747873779,1955562222,2024104815,2227730452,2361852424,2428436474,2756734187,3204031479,3329325298]
structure V8 where
 (a b c d e f g h:Nat)
deriving DecidableEq
def V8.toL (v:V8):List Nat:=[v.a,v.b,v.c,v.d,v.e,v.f,v.g,v.h]
def iv:V8:=⟨1779033703,3144134277,1013904242,2773480762,1359893119,2600822924,528734635,1541459225⟩
def aO6 (v:V8) (k w:Nat):Nat:=(v.h+b1N v.e+chN v.e v.f v.g+k+w) % 4294967296
def aWx (v:V8):Nat:=(b0N v.a+bE2 v.a v.b v.c) % 4294967296
def rnd (v:V8) (k w:Nat):V8:=
 ⟨(aO6 v k w+aWx v) % 4294967296,v.a,v.b,v.c,(v.d+aO6 v k w) % 4294967296,v.e,v.f,v.g⟩
def aJ5 (l:List Nat):Nat:=
 (l.getD (l.length-16) 0+s0N (l.getD (l.length-15) 0)+l.getD (l.length-7) 0+s1N (l.getD (l.length-2) 0)) % 4294967296
def aFp:Nat->List Nat->List Nat
 | 0,l=>l
 | n+1,l=>aFp n (l++[aJ5 l])
def aS1 (l:List UInt8) (i:Nat):Nat:=(l.getD i 0).toNat
def be4 (l:List UInt8) (i:Nat):Nat:=aS1 l (4*i)*16777216+aS1 l (4*i+1)*65536+aS1 l (4*i+2)*256+aS1 l (4*i+3)
def aC0 (l:List UInt8):List Nat:=(List.range 16).map (be4 l)
def aWc (h v:V8):V8:=
 ⟨(h.a+v.a) % 4294967296,(h.b+v.b) % 4294967296,(h.c+v.c) % 4294967296,(h.d+v.d) % 4294967296,
  (h.e+v.e) % 4294967296,(h.f+v.f) % 4294967296,(h.g+v.g) % 4294967296,(h.h+v.h) % 4294967296⟩
def aNm (h:V8) (ps:List (Nat×Nat)):V8:=ps.foldl (fun v p=>rnd v p.1 p.2) h
def aCt (h:V8) (blk:List UInt8):V8:=aWc h (aNm h (aS7.zip (aFp 48 (aC0 blk))))
def aFh:Nat->V8->List UInt8->V8
 | 0,h,_=>h
 | n+1,h,l=>aFh n (aCt h (l.take 64)) (l.drop 64)
def be8 (n:Nat):List UInt8:=[7,6,5,4,3,2,1,0].map fun i=>UInt8.ofNat (n / 2 ^(8*i))
def aMk (s:List UInt8):List UInt8:=s++(128 :: List.replicate ((119-s.length % 64) % 64) 0)++be8 (8*s.length)
def bEt (x:Nat):List UInt8:=[UInt8.ofNat (x / 16777216),UInt8.ofNat (x / 65536),UInt8.ofNat (x / 256),UInt8.ofNat x]
def aS6 (v:V8):List UInt8:=v.toL.flatMap bEt
def aTj (s:List UInt8):List UInt8:=aS6 (aFh ((aMk s).length / 64) iv (aMk s))
def grp:Nat->Nat->List (Nat×Bool)
 | 0,_=>[]
 | f+1,z=>if z<128 then[(z,true)]else(z % 128,false) :: grp f (z / 128)
def encB (x:Nat×Bool):UInt8:=UInt8.ofNat (if x.2 then x.1 else x.1+128)
def zz (n:Int):Nat:=if n<0 then(2*(-n)-1).toNat else(2*n).toNat
def aPo (n:Int):List UInt8:=(grp 9 (zz n)).map encB
def aZp (n:Int):Prop:= -4611686018427387903<=n/\n<=4611686018427387903
theorem bDt (n:Int) (h1: -4611686018427387903<=n) (h2:n<=4611686018427387903):zz n<2 ^ 63:=by
 unfold zz;split <;> omega
theorem aLx (x:Nat×Bool) (h:x.1<128):((encB x).toNat:Int)=if x.2 then(x.1:Int)else(x.1:Int)+128:=by
 unfold encB;rw[UInt8.toNat_ofNat'];split <;> omega
theorem bBk (f y:Nat):(grp f y).length<=f:=by
 induction f generalizing y with
 | zero=>simp[grp]
 | succ f ih=>unfold grp;split <;> simp;exact ih _
theorem aMj (n:Int):(aPo n).length<=9:=by
 unfold aPo;have:=bBk 9 (zz n);simpa using this
def bA8 (s:List UInt8):List UInt8:=aTj (0 :: s)
def aHe (a b:List UInt8):List UInt8:=aTj (1 ::(a++b))
def aCy (n:Nat):Nat:=2 ^(n-1).log2
theorem aHg (n:Nat) (h:2<=n):aCy n<n:=by
 have:=Nat.log2_self_le (n:=n-1) (by omega);unfold aCy;omega
theorem aFx (n:Nat):1<=aCy n:=aF
theorem aXw (n k:Nat) (h1:2 ^ k<n) (h2:n<=2 ^(k+1)):aCy n=2 ^ k:=by
 unfold aCy;have:(n-1).log2=k:=(Nat.log2_eq_iff (by omega)).2 ⟨by omega,by omega⟩;rw[this]
def aK1:Nat->List (List UInt8)->List UInt8
 | _,[]=>aTj []
 | _,[a]=>bA8 a
 | 0,_=>[]
 | f+1,l=>aHe (aK1 f (l.take (aCy l.length))) (aK1 f (l.drop (aCy l.length)))
def rootL (l:List (List UInt8)):List UInt8:=aK1 l.length l
theorem aF2:∀(f g:Nat) (l:List (List UInt8)),l.length<=f->l.length<=g->aK1 f l=aK1 g l
 | f,g,[],_,_=>by simp[aK1]
 | f,g,[a],_,_=>by simp[aK1]
 | 0,_,a :: b :: t,h,_=>by simp at h
 | _+1,0,a :: b :: t,_,h=>by simp at h
 | f+1,g+1,a :: b :: t,h1,h2=>by
   simp only[aK1];have hl:=aHg (a :: b :: t).length (by simp);have hp:=aFx (a :: b :: t).length;generalize aCy (a :: b :: t).length=k at *;rw[aF2 f g _ (by rw[aE];omega) (by rw[aE];omega),aF2 f g _ (by rw[aD];omega) (by rw[aD];omega)]
theorem aR6 (l:List (List UInt8)) (h:2<=l.length):rootL l=aHe (rootL (l.take (aCy l.length))) (rootL (l.drop (aCy l.length))):=by
 have d:=aHg l.length h;have c:=aFx l.length
 match l,h with
 | a :: b :: t,_=>
   show aK1 ((b :: t).length+1) (a :: b :: t)=_
   simp only[aK1];generalize e:aCy (a :: b :: t).length=k at *;unfold rootL;simp only[List.length_cons]at *
   congr 1
   . exact aF2 _ _ _ (by simp only[aE,List.length_cons];omega) (Nat.le_refl _)
   . exact aF2 _ _ _ (by simp only[aD,List.length_cons];omega) (Nat.le_refl _)
theorem aNo (a b:List (List UInt8)) (k:Nat) (ha:a.length=2 ^ k) (hb1:1<=b.length) (hb2:b.length<=2 ^ k):aHe (rootL a) (rootL b)=rootL (a++b):=by
 have d:(a++b).length=2 ^ k+b.length:=by rw[aB,ha]
 have c:aCy (a++b).length=2 ^ k:=aXw _ k (by omega) (by rw[Nat.pow_succ];omega);rw[aR6 (a++b) (by omega),c,<-ha,List.take_left,List.drop_left]
def aCb:List (List (List UInt8))->Prop
 | []=>True
 | [p]=>∃k,p.length=2 ^ k
 | p :: q :: t=>(∃k,p.length=2 ^ k)/\q.length<p.length/\aCb (q :: t)
def aKr (ps:List (List (List UInt8))):Prop:=∃qs b,ps=qs++[b]/\(∃k,b.length=2 ^ k)/\aCb qs/\∀a,qs.getLast? =some a->b.length<=a.length
theorem aCb.pow:∀{ps:List (List (List UInt8))},aCb ps->∀p∈ps,∃k,p.length=2 ^ k
 | [p],h,q,hq=>by simp at hq;subst hq;exact h
 | p :: q :: t,h,r,hr=>by
   rcases aI.1 hr with rfl|hr
   . exact h.1
   . exact aCb.pow h.2.2 r hr
theorem aCb.tail {p:List (List UInt8)} {t:List (List (List UInt8))} (h:aCb (p :: t)):aCb t:=by
 cases t with
 | nil=>trivial
 | cons q t=>exact h.2.2
theorem aCb.init:∀{ps:List (List (List UInt8))} {b:List (List UInt8)},aCb (ps++[b])->aCb ps
 | [],_,_=>trivial
 | [_],_,h=>h.1
 | _ :: q :: t,_,h=>⟨h.1,h.2.1,aCb.init (ps:=q :: t) h.2.2⟩
theorem aCb.snoc:∀{ps:List (List (List UInt8))} {b:List (List UInt8)},aCb ps->(∃k,b.length=2 ^ k)->(∀a,ps.getLast? =some a->b.length<a.length)->aCb (ps++[b])
 | [],_,_,hb,_=>hb
 | [p],_,h,hb,hl=>⟨h,hl p rfl,hb⟩
 | p :: q :: t,b,h,hb,hl=>⟨h.1,h.2.1,aCb.snoc (ps:=q :: t) h.2.2 hb (fun a ha=>hl a (by rw[List.getLast?_cons_cons];exact ha))⟩
theorem aCb.last_lt:∀{ps:List (List (List UInt8))} {b:List (List UInt8)},aCb (ps++[b])->∀a,ps.getLast? =some a->b.length<a.length
 | [],_,_,a,ha=>by simp at ha
 | [p],_,h,a,ha=>by simp at ha;subst ha;exact h.2.1
 | p :: q :: t,b,h,a,ha=>aCb.last_lt (ps:=q :: t) h.2.2 a (by rw[List.getLast?_cons_cons]at ha;exact ha)
theorem aCb.sum:∀{p:List (List UInt8)} {t:List (List (List UInt8))},aCb (p :: t)->t.flatten.length<p.length
 | p,[],⟨k,hk⟩=>by simp[hk];exact Nat.pos_of_ne_zero (fun h=>by rw[h]at hk;have:=aF (n:=k);omega)
 | p,q :: t,⟨⟨k,hk⟩,hl,hq⟩=>by
   have h1:=aCb.sum hq;obtain⟨j,hj⟩:=hq.pow q (by simp);rw[List.flatten_cons,aB]
   have hjk:j<k:=by
    apply Nat.lt_of_not_le;intro a;have:=aH (n:=2) (by omega) a;omega
   have:2 ^(j+1)<=2 ^ k:=aH (by omega) hjk;rw[Nat.pow_succ]at this;omega
def aSo:List (List UInt8)->List UInt8
 | []=>aTj []
 | [a]=>a
 | a :: t=>aHe a (aSo t)
theorem aCb.root:∀{ps:List (List (List UInt8))},aCb ps->aSo (ps.map rootL)=rootL ps.flatten
 | [],_=>rfl
 | [p],_=>by simp[aSo]
 | p :: q :: t,h=>by
   have ih:=aCb.root h.2.2;have hs:=aCb.sum h;obtain⟨k,hk⟩:=h.1;obtain⟨j,hj⟩:=h.2.2.pow q (by simp);have:=aF (n:=j)
   show aHe (rootL p) (aSo ((q :: t).map rootL))=_
   rw[ih,aNo p _ k hk (by rw[List.flatten_cons,aB];omega) (by omega)];rfl
theorem aLn:∀(l:List (List UInt8)) (x:List UInt8),aSo (l++[x])=l.reverse.foldl (fun o r=>aHe r o) x
 | [],x=>rfl
 | [a],x=>rfl
 | a :: b :: t,x=>by
   have ih:=aLn (b :: t) x
   show aHe a (aSo (b :: t++[x]))=_
   rw[ih,List.reverse_cons (a:=a),List.foldl_append];rfl
theorem aCb.merge {qs:List (List (List UInt8))} {a b:List (List UInt8)} (h:aCb (qs++[a])) (hab:b.length=a.length):aKr (qs++[a++b]):=by
 obtain⟨k,g⟩:=h.pow a (by simp);refine⟨qs,a++b,rfl,⟨k+1,by rw[aB,hab,g,Nat.pow_succ];omega⟩,h.init,?_⟩;intro c f;have l:=h.last_lt c f
 obtain⟨j,i⟩:=h.pow c (by
  have:=List.mem_of_getLast? f;simp[this])
 have e:k<j:=by
  apply Nat.lt_of_not_le;intro d;have:=aH (n:=2) (by omega) d;omega
 have:2 ^(k+1)<=2 ^ j:=aH (by omega) e;rw[Nat.pow_succ]at this;rw[aB];omega
theorem aSi {qs:List (List (List UInt8))} {a b:List (List UInt8)} (h:aCb (qs++[a])) (hab:b.length=a.length):aHe (rootL a) (rootL b)=rootL (a++b):=by
 obtain⟨k,c⟩:=h.pow a (by simp);exact aNo a b k c (by have:=aF (n:=k);omega) (by omega)
theorem aCb.push {ps:List (List (List UInt8))} (h:aCb ps) (s:List UInt8):aKr (ps++[[s]]):=by
 refine⟨ps,[s],rfl,⟨0,rfl⟩,h,fun a b=>?_⟩;obtain⟨k,c⟩:=h.pow a (List.mem_of_getLast? b);have:=aF (n:=k);simp;omega
structure Chg where
 table:Int
 key:Int
 had:Bool
 old:Int×Int×Int
 has:Bool
 new:Int×Int×Int
deriving DecidableEq
structure Rec where
 pos:Int
 chs:List Chg
deriving DecidableEq
structure Hd where
 pos:Int
 chain:List UInt8
 state:List UInt8
deriving DecidableEq
def hd0:Hd:=⟨0,[],[]⟩
def aWg (v:Int):Bool:=decide (-1000000000<=v)&&decide (v<=1000000000)
def rowB (t k:Int) (v:Int×Int×Int):Bool:=decide (0<=t)&&decide (t<=3)&&(decide (1<=k)&&decide (k<=1000000))&&(aWg v.1&&aWg v.2.1&&aWg v.2.2)
def aEd (c:Chg) (there:Bool) (v:Int×Int×Int):Bool:=there&&rowB c.table c.key v || !there&&decide (v=(0,0,0))
def chgB (c:Chg):Bool:=((c.had != c.has) ||(c.had&&!decide (c.old=c.new)))&&aEd c c.had c.old&&aEd c c.has c.new
def aEy:Int->Int->List Chg->Bool
 | _,_,[]=>true
 | t,k,c :: l=>chgB c&&!(decide (c.table<t) || decide (c.table=t)&&decide (c.key<=k))&&aEy c.table c.key l
def recB (r:Rec):Bool:=decide (1<=r.pos)&&decide (r.pos<=10000)&&(decide (1<=r.chs.length)&&decide (r.chs.length<=8))&&aEy (-1) 0 r.chs
def aFm (l:List Int):List UInt8:=l.flatMap aPo
def tri (v:Int×Int×Int):List Int:=[v.1,v.2.1,v.2.2]
def hdB (h:Hd):Bool:=decide (0<=h.pos)&&decide (h.pos<=10000)&&decide (h.chain.length=32)&&decide (h.state.length=32)
theorem aU4 {h:Hd} (e:hdB h=true):0<=h.pos/\h.pos<=10000/\h.chain.length=32/\h.state.length=32:=by
 unfold hdB at e;simp only[aC,decide_eq_true_eq]at e;exact⟨e.1.1.1,e.1.1.2,e.1.2,e.2⟩
variable {t k:Int} {c:Chg} {r:Rec}
structure Rw where
 table:Int
 key:Int
 v:Int×Int×Int
deriving DecidableEq
def Rw.before (a b:Rw):Prop:=a.table<b.table\/a.table=b.table/\a.key<b.key
def SortS (l:List Rw):Prop:=l.Pairwise Rw.before
def ltK (t k:Int) (r:Rw):Bool:=decide (r.table<t) ||(decide (r.table=t)&&decide (r.key<k))
def gtK (t k:Int) (r:Rw):Bool:=decide (t<r.table) ||(decide (t=r.table)&&decide (k<r.key))
def eqK (t k:Int) (r:Rw):Bool:=decide (r.table=t)&&decide (r.key=k)
def getS (l:List Rw) (t k:Int):Option Rw:=l.find? (eqK t k)
def aS8 (l:List Rw) (x:Rw):List Rw:=l.filter (ltK x.table x.key)++x :: l.filter (gtK x.table x.key)
def aSy (l:List Rw) (t k:Int):List Rw:=l.filter (ltK t k)++l.filter (gtK t k)
def aB1 (c:Chg):Rw:=⟨c.table,c.key,c.new⟩
def aBs (l:List Rw) (c:Chg):List Rw:=if c.has then aS8 l (aB1 c)else aSy l c.table c.key
structure StT where
 rows:List Rw
 pos:Int
deriving DecidableEq
def aEl (l:List Rw) (c:Chg):Bool:=
 match getS l c.table c.key with
 | some x=>c.had&&decide (x.v=c.old)
 | none=>!c.had
def dif (c:Chg):Int:=(if c.has then 1 else 0)-(if c.had then 1 else 0)
def aKg (l:List Chg):Int:=(l.map dif).sum
def aFg (s:StT) (r:Rec):Bool:=recB r&&decide (r.pos=s.pos+1)&&(r.chs.all (aEl s.rows)&&decide ((s.rows.length:Int)+aKg r.chs<=2000))
def aF9 (s:StT) (r:Rec):Option StT:=if aFg s r then some ⟨r.chs.foldl aBs s.rows,r.pos⟩else none
def st0:StT:=⟨[],0⟩
def runS:StT->List Rec->Option StT
 | s,[]=>some s
 | s,r :: l=>(aF9 s r).bind fun s'=>runS s' l
theorem aGu {r:Rw}:ltK t k r=true↔r.table<t\/r.table=t/\r.key<k:=by simp[ltK]
theorem aFz {r:Rw}:gtK t k r=true↔t<r.table\/t=r.table/\k<r.key:=by simp[gtK]
theorem aEk {r:Rw}:eqK t k r=true↔r.table=t/\r.key=k:=by simp[eqK]
theorem bDv (t k:Int) (r:Rw):(ltK t k r=true/\eqK t k r=false/\gtK t k r=false)\/(ltK t k r=false/\eqK t k r=true/\gtK t k r=false)\/(ltK t k r=false/\eqK t k r=false/\gtK t k r=true):=by
 simp only[<-Bool.not_eq_true,aGu,aFz,aEk];omega
theorem SortS.parts {l:List Rw} (h:SortS l) (t k:Int):l=l.filter (ltK t k)++(l.filter (eqK t k)++l.filter (gtK t k)):=by
 induction l with
 | nil=>rfl
 | cons a l ih=>
   obtain⟨f,i⟩:=List.pairwise_cons.1 h;have ih:=ih i;rcases bDv t k a with⟨e1,e2,e3⟩|⟨e1,e2,e3⟩|⟨e1,e2,e3⟩
   . simp only[aJ,e1,e2,e3]
     simpa using ih
   . have d:l.filter (ltK t k)=[]:=by
      rw[aG];intro b c e;rw[aEk]at e2;have:=f b c;rw[aGu]at e;unfold Rw.before at this;omega
     simp only[aJ,e1,e2,e3];rw[d]at ih⊢
     simpa using ih
   . have d:l.filter (ltK t k)=[]:=by
      rw[aG];intro b c e;rw[aFz]at e3;have:=f b c;rw[aGu]at e;unfold Rw.before at this;omega
     have g:l.filter (eqK t k)=[]:=by
      rw[aG];intro b c e;rw[aFz]at e3;have:=f b c;rw[aEk]at e;unfold Rw.before at this;omega
     simp only[aJ,e1,e2,e3];rw[d,g]at ih⊢
     simpa using ih
theorem SortS.eq_part {l:List Rw} (h:SortS l) (t k:Int):l.filter (eqK t k)=(getS l t k).toList:=by
 induction l with
 | nil=>rfl
 | cons a l ih=>
   obtain⟨f,d⟩:=List.pairwise_cons.1 h;unfold getS at *;rw[List.find?_cons,aJ];cases e:eqK t k a
   . simpa using ih d
   . have:l.filter (eqK t k)=[]:=by
      rw[aG];intro b c g;rw[aEk]at e g;have:=f b c;unfold Rw.before at this;omega
     simp[this]
theorem aBo {l:List Rw} {x:Rw} (h:getS l t k=some x):x∈l/\x.table=t/\x.key=k:=
 ⟨List.mem_of_find?_eq_some h,aEk.1 (List.find?_some h)⟩
theorem aJ8 {l:List Rw} (h:getS l t k=none):∀x∈l,¬(x.table=t/\x.key=k):=fun x hx e=>by
 have:=List.find?_eq_none.1 h x hx;exact this (aEk.2 e)
theorem SortS.get {l:List Rw} (h:SortS l) {x:Rw} (hx:x∈l):getS l x.table x.key=some x:=by
 cases e:getS l x.table x.key with
 | none=>exact absurd ⟨rfl,rfl⟩ (aJ8 e x hx)
 | some y=>
   obtain⟨b,d,c⟩:=aBo e;have a:x∈l.filter (eqK x.table x.key):=aA.2 ⟨hx,aEk.2 ⟨rfl,rfl⟩⟩;rw[h.eq_part,e]at a;simp at a;rw[a]
theorem SortS.lt {l:List Rw} (h:SortS l) (t k:Int):SortS (l.filter (ltK t k)):=List.Pairwise.filter _ h
theorem SortS.gt {l:List Rw} (h:SortS l) (t k:Int):SortS (l.filter (gtK t k)):=List.Pairwise.filter _ h
theorem SortS.del {l:List Rw} (h:SortS l) (t k:Int):SortS (aSy l t k):=by
 refine List.pairwise_append.2 ⟨h.lt t k,h.gt t k,fun a d b c=>?_⟩;have f:=aGu.1 (aA.1 d).2;have e:=aFz.1 (aA.1 c).2;unfold Rw.before;omega
theorem SortS.put {l:List Rw} (h:SortS l) (x:Rw):SortS (aS8 l x):=by
 refine List.pairwise_append.2 ⟨h.lt _ _,List.pairwise_cons.2 ⟨fun b c=>?_,h.gt _ _⟩,fun a d b c=>?_⟩
 . have e:=aFz.1 (aA.1 c).2;unfold Rw.before;omega
 . have f:=aGu.1 (aA.1 d).2;rcases aI.1 c with rfl|c
   . exact f
   . have e:=aFz.1 (aA.1 c).2;unfold Rw.before;omega
theorem SortS.app {l:List Rw} (h:SortS l) (c:Chg):SortS (aBs l c):=by
 unfold aBs;split
 . exact h.put _
 . exact h.del _ _
theorem SortS.apps:∀(chs:List Chg) {l:List Rw},SortS l->SortS (chs.foldl aBs l)
 | [],_,h=>h
 | c :: chs,_,h=>SortS.apps chs (h.app c)
theorem aMo {l:List Rw} {t k:Int} {x:Rw}:x∈aSy l t k↔x∈l/\¬(x.table=t/\x.key=k):=by
 unfold aSy;rw[List.mem_append,aA,aA,aGu,aFz]
 constructor
 . rintro(⟨h,e⟩|⟨h,e⟩)
   . exact⟨h,by omega⟩
   . exact⟨h,by omega⟩
 . rintro⟨h,e⟩;by_cases c:x.table<t\/x.table=t/\x.key<k
   . exact .inl ⟨h,c⟩
   . exact .inr ⟨h,by omega⟩
theorem aQ5 {l:List Rw} {y x:Rw}:x∈aS8 l y↔x=y\/x∈l/\¬(x.table=y.table/\x.key=y.key):=by
 have:= @aMo l y.table y.key x;unfold aSy at this;unfold aS8;rw[List.mem_append]at *;rw[aI]
 constructor
 . rintro(h|rfl|h)
   . exact .inr (this.1 (.inl h))
   . exact .inl rfl
   . exact .inr (this.1 (.inr h))
 . rintro(rfl|h)
   . exact .inr (.inl rfl)
   . rcases this.2 h with h|h
     . exact .inl h
     . exact .inr (.inr h)
theorem aE8 {l:List Rw} {x:Rw}:x∈aBs l c↔(c.has=true/\x=aB1 c)\/x∈l/\¬(x.table=c.table/\x.key=c.key):=by
 unfold aBs;split
 . rename_i h
   rw[aQ5];simp[h,aB1]
 . rename_i h
   rw[aMo];simp[h]
theorem SortS.get_other {l:List Rw} (h:SortS l) (c:Chg) {t k:Int} (hne:¬(c.table=t/\c.key=k)):getS (aBs l c) t k=getS l t k:=by
 cases e:getS l t k with
 | none=>
   cases g:getS (aBs l c) t k with
   | none=>rfl
   | some y=>
     obtain⟨a,d,b⟩:=aBo g;rcases aE8.1 a with⟨_,rfl⟩|⟨a,_⟩
     . exact absurd ⟨d,b⟩ hne
     . exact absurd ⟨d,b⟩ (aJ8 e y a)
 | some x=>
   obtain⟨f,rfl,rfl⟩:=aBo e;exact(h.app c).get (aE8.2 (.inr ⟨f,fun e=>hne ⟨e.1.symm,e.2.symm⟩⟩))
theorem SortS.get_same {l:List Rw} (h:SortS l) (c:Chg):getS (aBs l c) c.table c.key=if c.has then some (aB1 c)else none:=by
 cases e:c.has with
 | true=>exact(h.app c).get (x:=aB1 c) (aE8.2 (.inl ⟨e,rfl⟩))
 | false=>
   cases f:getS (aBs l c) c.table c.key with
   | none=>rfl
   | some y=>
     obtain⟨a,d,b⟩:=aBo f;rcases aE8.1 a with⟨h1,_⟩|⟨_,h1⟩
     . rw[e]at h1;cases h1
     . exact absurd ⟨d,b⟩ h1
theorem aH8 {l:List Rw} (h:SortS l) (c d:Chg) (hne:¬(c.table=d.table/\c.key=d.key)):aEl (aBs l c) d=aEl l d:=by
 unfold aEl;rw[h.get_other c hne]
def aIr (t k:Int) (c:Chg):Prop:=t<c.table\/t=c.table/\k<c.key
theorem aEx {l:List Chg} (h:aEy t k (c :: l)=true):chgB c=true/\aIr t k c/\aEy c.table c.key l=true:=by
 unfold aEy at h;simp only[aC,Bool.not_eq_true',Bool.or_eq_false_iff,Bool.and_eq_false_iff,decide_eq_false_iff_not]at h;obtain⟨⟨b,e,d⟩,a⟩:=h;refine⟨b,?_,a⟩;unfold aIr;omega
theorem aFj:∀{t k:Int} {l:List Chg},aEy t k l=true->∀c∈l,aIr t k c
 | _,_,[],_,_,h=>by simp at h
 | t,k,c :: l,h,d,hd=>by
   obtain⟨_,h2,h3⟩:=aEx h;rcases aI.1 hd with rfl|hd
   . exact h2
   . have:=aFj h3 d hd;unfold aIr at *;omega
theorem aIr.ne {d:Chg} (h:aIr c.table c.key d):¬(c.table=d.table/\c.key=d.key):=by unfold aIr at h;omega
theorem aJb:∀{t k:Int} {l:List Chg},aEy t k l=true->∀c∈l,chgB c=true
 | _,_,[],_,_,h=>by simp at h
 | t,k,c :: l,h,d,hd=>by
   obtain⟨h1,_,h3⟩:=aEx h;rcases aI.1 hd with rfl|hd
   . exact h1
   . exact aJb h3 d hd
theorem aU2:∀{l:List Rw} {t k:Int} {chs:List Chg},SortS l->aEy t k chs=true->chs.all (aEl l)=true->∀(i:Nat) c,chs[i]? =some c->aEl ((chs.take i).foldl aBs l) c=true
 | l,t,k,[],_,_,_,i,c,hc=>by simp at hc
 | l,t,k,d :: chs,h,ha,hh,0,c,hc=>by
   simp at hc;subst hc;simp only[List.all_cons,aC]at hh;exact hh.1
 | l,t,k,d :: chs,h,ha,hh,i+1,c,hc=>by
   obtain⟨_,_,h3⟩:=aEx ha;simp only[List.all_cons,aC]at hh
   have hall:chs.all (aEl (aBs l d))=true:=by
    rw[List.all_eq_true]at *;intro x a;rw[aH8 h d x (aFj h3 x a).ne];exact hh.2 x a
   have:=aU2 (h.app d) h3 hall i c (by simpa using hc)
   simpa using this
theorem aF7 {l:List Rw} (h:SortS l) (t k:Int):(l.filter (ltK t k)).length+(l.filter (gtK t k)).length+(if(getS l t k).isSome then 1 else 0)=l.length:=by
 have e:=congrArg List.length (h.parts t k);rw[aB,aB,h.eq_part]at e;cases a:getS l t k <;> simp[a]at e⊢<;> omega
theorem aRi {l:List Rw} (h:aEl l c=true):(getS l c.table c.key).isSome=c.had:=by
 unfold aEl at h;cases e:getS l c.table c.key <;> simp[e]at h⊢
 . exact h.symm▸rfl
 . exact h.1▸rfl
theorem aZl {l:List Rw} (h:SortS l) {c:Chg} (hc:aEl l c=true):((aBs l c).length:Int)=l.length+dif c:=by
 have e:=aF7 h c.table c.key;rw[aRi hc]at e;unfold aBs dif aS8 aSy aB1;cases c.has <;> cases a:c.had <;> simp[a]at e⊢<;> omega
theorem aM5:∀{chs:List Chg} {l:List Rw} {t k:Int},SortS l->aEy t k chs=true->chs.all (aEl l)=true->((chs.foldl aBs l).length:Int)=l.length+aKg chs
 | [],l,t,k,h,_,_=>by simp[aKg]
 | d :: chs,l,t,k,h,ha,hh=>by
   obtain⟨_,_,h3⟩:=aEx ha;simp only[List.all_cons,aC]at hh
   have hall:chs.all (aEl (aBs l d))=true:=by
    rw[List.all_eq_true]at *;intro x a;rw[aH8 h d x (aFj h3 x a).ne];exact hh.2 x a
   have:=aM5 (h.app d) h3 hall;have e:=aZl h hh.1;simp only[List.foldl_cons];rw[this,e];simp[aKg];omega
structure GoodS (s:StT):Prop where
 sort:SortS s.rows
 small:s.rows.length<=2000
 rows:∀r∈s.rows,rowB r.table r.key r.v=true
theorem aCl:GoodS st0:=⟨List.Pairwise.nil,by simp[st0],fun r h=>by simp[st0]at h⟩
theorem aRq (h:chgB c=true) (hh:c.has=true):rowB c.table c.key c.new=true:=by
 unfold chgB aEd at h;simp only[aC,Bool.or_eq_true,hh]at h;rcases h.2 with⟨_,h⟩|⟨h,_⟩
 . exact h
 . simp at h
theorem aHv:∀{chs:List Chg} {l:List Rw} {t k:Int},aEy t k chs=true->(∀r∈l,rowB r.table r.key r.v=true)->∀r∈chs.foldl aBs l,rowB r.table r.key r.v=true
 | [],l,t,k,_,hr=>hr
 | d :: chs,l,t,k,ha,hr=>by
   obtain⟨h1,_,h3⟩:=aEx ha
   show∀r∈chs.foldl aBs (aBs l d),rowB r.table r.key r.v=true
   refine aHv h3 fun r hr'=>?_;rcases aE8.1 hr' with⟨hh,rfl⟩|⟨hx,_⟩
   . exact aRq h1 hh
   . exact hr r hx
theorem aB7 {s:StT} (h:aFg s r=true):recB r=true/\r.pos=s.pos+1/\r.chs.all (aEl s.rows)=true/\(s.rows.length:Int)+aKg r.chs<=2000:=by
 unfold aFg at h;simp only[aC,decide_eq_true_eq]at h;exact⟨h.1.1,h.1.2,h.2.1,h.2.2⟩
theorem aEg (h:recB r=true):aEy (-1) 0 r.chs=true:=by
 unfold recB at h;simp only[aC]at h;exact h.2
theorem GoodS.step {s s':StT} (g:GoodS s) (h:aF9 s r=some s'):GoodS s'/\s'.pos=s.pos+1/\recB r=true/\r.pos=s.pos+1:=by
 unfold aF9 at h;split at h
 . rename_i d
   obtain⟨c,b,e,f⟩:=aB7 d;obtain rfl:=Option.some.inj h;have a:=aEg c;refine⟨⟨g.sort.apps r.chs,?_,aHv a g.rows⟩,b,c,b⟩;have:=aM5 g.sort a e
   show(r.chs.foldl aBs s.rows).length<=2000
   omega
 . cases h
theorem aCf:∀(l m:List Rec) (s:StT),runS s (l++m)=(runS s l).bind fun s'=>runS s' m
 | [],m,s=>rfl
 | r :: l,m,s=>by
   simp only[List.cons_append,runS];cases aF9 s r with
   | none=>rfl
   | some s'=>simpa using aCf l m s'
theorem aDh {l:List Rec} {s s':StT} (h:runS s l=some s') (n:Nat):∃x,runS s (l.take n)=some x:=by
 rw[<-List.take_append_drop n l,aCf]at h;cases e:runS s (l.take n)with
 | none=>rw[e]at h;cases h
 | some x=>exact⟨x,rfl⟩
theorem aBy:∀{l:List Rec} {s s':StT},GoodS s->runS s l=some s'->GoodS s'/\s'.pos=s.pos+l.length
 | [],s,s',g,h=>by
   obtain rfl:=Option.some.inj h;exact⟨g,by simp⟩
 | r :: l,s,s',g,h=>by
   simp only[runS]at h;cases e:aF9 s r with
   | none=>rw[e]at h;cases h
   | some x=>
     rw[e]at h;obtain⟨g1,p1,_⟩:=g.step e;obtain⟨g2,p2⟩:=aBy g1 h;exact⟨g2,by rw[p2,p1];simp;omega⟩
def aD1:Nat->List (List UInt8)->Nat->List (List UInt8)
 | 0,_,_=>[]
 | f+1,l,i=>if l.length<=1 then[]else
   if i<aCy l.length then aD1 f (l.take (aCy l.length)) i++[rootL (l.drop (aCy l.length))]
   else aD1 f (l.drop (aCy l.length)) (i-aCy l.length)++[rootL (l.take (aCy l.length))]
def aBb (l:List (List UInt8)) (i:Nat):List (List UInt8):=aD1 l.length l i
theorem aE5:∀(f g:Nat) (l:List (List UInt8)) (i:Nat),l.length<=f->l.length<=g->aD1 f l i=aD1 g l i
 | 0,0,_,_,_,_=>rfl
 | 0,g+1,l,i,h,_=>by simp[aD1,show l.length<=1 by omega]
 | f+1,0,l,i,_,h=>by simp[aD1,show l.length<=1 by omega]
 | f+1,g+1,l,i,h1,h2=>by
   simp only[aD1];by_cases h:l.length<=1
   . rw[if_pos h,if_pos h]
   . have hl:=aHg l.length (by omega);have hp:=aFx l.length;rw[if_neg h,if_neg h];generalize aCy l.length=k at *;rw[aE5 f g _ i (by rw[aE];omega) (by rw[aE];omega),aE5 f g _ (i-k) (by rw[aD];omega) (by rw[aD];omega)]
theorem aSb (l:List (List UInt8)) (i:Nat) (h:l.length<=1):aBb l i=[]:=by
 unfold aBb;cases a:l.length with
 | zero=>rfl
 | succ n=>simp[aD1,a,show n=0 by omega]
theorem aPp (l:List (List UInt8)) (i:Nat) (h:2<=l.length) (hi:i<aCy l.length):aBb l i=aBb (l.take (aCy l.length)) i++[rootL (l.drop (aCy l.length))]:=by
 have b:=aHg l.length h;unfold aBb;obtain⟨f,a⟩:∃f,l.length=f+1:=⟨l.length-1,by omega⟩;rw[show aD1 l.length l i=aD1 (f+1) l i by rw[a]];simp only[aD1];rw[if_neg (by omega),if_pos hi,aE5 f _ _ i (by rw[aE];omega) (Nat.le_refl _)]
theorem aNu (l:List (List UInt8)) (i:Nat) (h:2<=l.length) (hi:aCy l.length<=i):aBb l i=aBb (l.drop (aCy l.length)) (i-aCy l.length)++[rootL (l.take (aCy l.length))]:=by
 have b:=aFx l.length;unfold aBb;obtain⟨f,a⟩:∃f,l.length=f+1:=⟨l.length-1,by omega⟩;rw[show aD1 l.length l i=aD1 (f+1) l i by rw[a]];simp only[aD1];rw[if_neg (by omega),if_neg (by omega),aE5 f _ _ _ (by rw[aD];omega) (Nat.le_refl _)]
theorem aTt:∀l:List (List UInt8),(rootL l).length=32
 | []=>rfl
 | [_]=>rfl
 | _ :: _ :: _=>rfl
variable {l:List Rw}
def aI8 (l:List Rw) (t k:Int):Nat:=(l.filter (ltK t k)).length
theorem aMt (l:List Rw) (t k:Int):aI8 l t k<=l.length:=List.length_filter_le _ _
theorem SortS.low_take (h:SortS l) (t k:Int):l.take (aI8 l t k)=l.filter (ltK t k):=by
 have e:=congrArg (List.take (aI8 l t k)) (h.parts t k);rw[List.take_left' (show(l.filter (ltK t k)).length=aI8 l t k from rfl)]at e;exact e
theorem SortS.low_drop (h:SortS l) (t k:Int):l.drop (aI8 l t k)=(getS l t k).toList++l.filter (gtK t k):=by
 have e:=congrArg (List.drop (aI8 l t k)) (h.parts t k);rw[List.drop_left' (show(l.filter (ltK t k)).length=aI8 l t k from rfl),h.eq_part]at e;exact e
theorem SortS.low_iff (h:SortS l) (t k:Int) {i:Nat} {x:Rw} (hx:l[i]? =some x):(ltK t k x=true)↔i<aI8 l t k:=by
 constructor
 . intro e;apply Decidable.byContradiction;intro d;have b:(l.drop (aI8 l t k))[i-aI8 l t k]? =some x:=by rw[List.getElem?_drop,Nat.add_sub_cancel' (by omega)];exact hx
   rw[h.low_drop]at b;have a:=aK b;rw[List.mem_append]at a;rw[aGu]at e;rcases a with a|a
   . rw[Option.mem_toList]at a;have:=(aBo a).2;omega
   . have:=aFz.1 (aA.1 a).2;omega
 . intro c;have b:(l.take (aI8 l t k))[i]? =some x:=by rw[List.getElem?_take,if_pos c];exact hx
   rw[h.low_take]at b;exact(aA.1 (aK b)).2
theorem SortS.low_get (h:SortS l) (t k:Int) :
 (∃x,l[aI8 l t k]? =some x/\x.table=t/\x.key=k/\getS l t k=some x)\/(getS l t k=none/\(l.length<=aI8 l t k\/∃x,l[aI8 l t k]? =some x/\¬(x.table=t/\x.key=k))):=by
  have e:l[aI8 l t k]? =((getS l t k).toList++l.filter (gtK t k))[0]? :=by rw[<-h.low_drop,List.getElem?_drop,Nat.add_zero]
  cases a:getS l t k with
  | some x=>
    rw[a]at e;exact .inl ⟨x,by simpa using e,(aBo a).2.1,(aBo a).2.2,rfl⟩
  | none=>
    refine .inr ⟨rfl,?_⟩;cases b:l[aI8 l t k]? with
    | none=>exact .inl (List.getElem?_eq_none_iff.1 b)
    | some x=>exact .inr ⟨x,rfl,aJ8 a x (aK b)⟩
def aKt (c:Chg):List Rw:=if c.has then[aB1 c]else[]
def aC5 (c:Chg):Nat:=if c.had then 1 else 0
theorem SortS.app_place (h:SortS l) {c:Chg} (hc:aEl l c=true) :
 aBs l c=l.take (aI8 l c.table c.key)++aKt c++(l.drop (aI8 l c.table c.key)).drop (aC5 c)/\aI8 l c.table c.key+aC5 c<=l.length:=by
 have a:=aRi hc;have b:=congrArg List.length (h.low_drop c.table c.key);rw[aD,aB]at b;have d:=aMt l c.table c.key
 have f:(l.drop (aI8 l c.table c.key)).drop (aC5 c)=l.filter (gtK c.table c.key):=by
  rw[h.low_drop];unfold aC5;cases e:getS l c.table c.key <;> simp[e]at a <;> simp[a]
 rw[f,h.low_take];refine⟨?_,?_⟩
 . unfold aBs aS8 aSy aKt;split <;> simp[aB1]
 . unfold aC5;cases e:getS l c.table c.key <;> simp[e]at a b <;> simp[a] <;> omega
structure Lg where
 recs:List Rec
 heads:List Hd
deriving DecidableEq
def aXy (x:Lg):Hd:=(x.heads.getLast?).getD hd0
structure Good (x:Lg):Prop where
 len:x.heads.length=x.recs.length+1
 head:∀(i:Nat) h,x.heads[i]? =some h->hdB h=true/\h.pos=i
 rec_:∀(i:Nat) r,x.recs[i]? =some r->recB r=true/\r.pos=i+1
theorem Good.last {x:Lg} (h:Good x):x.heads[x.recs.length]? =some (aXy x):=by
 have b:=h.len;unfold aXy;rw[List.getLast?_eq_getElem?,b,Nat.add_sub_cancel];have a:x.recs.length<x.heads.length:=by omega
 rw[List.getElem?_eq_getElem a];rfl
theorem Good.lastB {x:Lg} (h:Good x):hdB (aXy x)=true/\(aXy x).pos=x.recs.length:=h.head _ _ h.last
theorem Good.small {x:Lg} (h:Good x):x.recs.length<=10000:=by
 have:=h.lastB;have a:=(aU4 this.1).2.1;omega
end
end Go.Proofs.YtmhpfoicloojcaaGreatDoor
