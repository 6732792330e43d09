/- The digest's compression. -/
import Derived.Test.YtmhpfoicloojcaaGreatDoorZaj
import Derived.Deep.DeepCutAuto
import Derived.Deep.CutBlock
import Derived.Test.YtmhpfoicloojcaaGreatDoorZak
set_option linter.all false
open Go.IntKind renaming u32→aA,wrap_u32'→aD
open List renaming getElem?_eq_some_iff→aB,getElem?_eq_getElem→aC,replicate→aE
open Go.World renaming alloc_heap_new→aI,alloc→aJ
open Go renaming World→aL,Value→aO
namespace Go.Proofs.YtmhpfoicloojcaaGreatDoor
open BlkIs renaming other→aK
set_option maxRecDepth 100000
set_option maxHeartbeats 16000000
section
open Go.Proofs.Tryz
open Go Go.RowKit
variable {w:aL}
def aA4 (w:aL):Prop:=∃t fr,w.heap[1]? =some (.cells (uv aS7).toArray t fr)
theorem aA4.lt (h:aA4 w):1<w.heap.size:=by
 obtain⟨t,a,h⟩:=h;exact(Array.getElem?_eq_some_iff.1 h).1
theorem aA4.later {w':aL} (h:aA4 w) (hb:Below w w w'):aA4 w':=by
 have a:=h.lt;obtain⟨t,b,h⟩:=h;exact⟨t,b,(hb.block _ a).trans h⟩
theorem Tryz.infoW8:(prog.info? 376).map (·.size)=some 8:=by kernel_rfl
theorem aZq (l:List Nat):(uv l).toArray.all (·.oneCell')=true:=by simp[uv,Value.oneCell']
theorem aZz {l:List Nat} (h:l.length=64):(prog.info? 406).map (·.size)=some (uv l).toArray.size:=by
 have:(uv l).toArray.size=64:=by simp[uv,h]
 rw[this];exact Tryz.infoW64
theorem aYk {l:List Nat} (h:l.length=8):(prog.info? 376).map (·.size)=some (uv l).toArray.size:=by
 have:(uv l).toArray.size=8:=by simp[uv,h]
 rw[this];exact Tryz.infoW8
theorem bD8 (l:List Nat) (hl:l.length=64) (i x:Nat) (hi:l[i]? =some x) (w:aL):(Instr.index 406 (.agg (uv l).toArray) (.int .i64 (i:Int))).run prog w= .ok (.int .u32 (x:Int)) w:=by
 have a:i<64:=by rw[<-hl];exact(aB.1 hi).1
 have b:(uv l)[i]? =some (.int .u32 (x:Int)):=aEn l i hi;simp[Instr.index,run_underlying underlying406,asIntOf,go_sem,a];rw[b];rfl
theorem aAn (W:aL) (o:Obj) (g:Nat) (hg:g=W.heap.size):(W.alloc o).heap[g]? =some o:=by
 rw[hg];exact aI W o
theorem BlkIs.setRow {g:Nat} {t:TypeId} {cs:List aO} (h:BlkIs w g t cs) (ds:List aO):BlkIs (w.setRow g ds.toArray) g t ds:=setRow_heap w g _ _ t _ h
theorem BlkIs.setRow_ne {g k:Nat} {t:TypeId} {cs:List aO} (h:BlkIs w g t cs) (hk:g≠k) (ds:Array aO):BlkIs (w.setRow k ds) g t cs:=(setRow_other w k g ds hk).trans h
theorem aA4.setRow (h:aA4 w) {k:Nat} (hk:1≠k) (ds:Array aO):aA4 (w.setRow k ds):=by
 obtain⟨t,a,h⟩:=h;exact⟨t,a,(setRow_other w k _ ds hk).trans h⟩
theorem aA4.alloc (h:aA4 w) (o:Obj):aA4 (w.alloc o):=h.later ((Below.refl _ w).alloc (Nat.le_refl _) o)
def aWd (v:V8):Prop:=∀x∈v.toL,x<4294967296
theorem aXi (r:Nat) (h:r<4294967296):4294967295 ^^^ r=4294967295-r:=by
 rw[Nat.xor_comm];apply Nat.eq_of_testBit_eq;intro i;rw[Nat.testBit_xor,show(4294967295-r)=2 ^ 32-(r+1) by omega,Nat.testBit_two_pow_sub_succ (by omega),show(4294967295:Nat)=2 ^ 32-1 by decide,Nat.testBit_two_pow_sub_one];by_cases a:i<32
 . simp[a]
 . have:r.testBit i=false:=Nat.testBit_lt_two_pow (Nat.lt_of_lt_of_le h (by rw[show(4294967296:Nat)=2 ^ 32 by decide];exact Nat.pow_le_pow_right (by decide) (by omega)));simp[a,this]
theorem bD4 (e:Nat) (h:e<4294967296):bits BinOp.xor aA aA.max (e:Int)=((4294967295-e:Nat):Int):=by
 have a:aA.max=((4294967295:Nat):Int):=by decide +kernel
 rw[a,u32_xor_nat _ _ (by omega) h,aXi e h]
theorem aFk {a b:Nat} (ha:a<4294967296):a&&&b<4294967296:=Nat.lt_of_le_of_lt Nat.and_le_left ha
theorem bDx (s:V8) (k x:Nat) (he:s.e<4294967296) (hf:s.f<4294967296) (hg:s.g<4294967296) :
 aA.wrap (aA.wrap (aA.wrap (aA.wrap ((s.h:Int)+((aC6 s.e 6 ^^^ aC6 s.e 11 ^^^ aC6 s.e 25:Nat):Int)) +
   bits BinOp.xor aA (bits BinOp.and aA (s.e:Int) (s.f:Int)) (bits BinOp.and aA (bits BinOp.xor aA aA.max (s.e:Int)) (s.g:Int)))+(k:Int))+(x:Int))=((aO6 s k x:Nat):Int):=by
 rw[bD4 _ he,u32_and_nat _ _ he hf,u32_and_nat _ _ (by omega) hg,u32_xor_nat _ _ (aFk he) (aFk (by omega))]
 show aA.wrap (aA.wrap (aA.wrap (aA.wrap ((s.h:Int)+((b1N s.e:Nat):Int))+((chN s.e s.f s.g:Nat):Int))+(k:Int))+(x:Int))=_
 rw[aD,aD,aD,aD];unfold aO6;omega
theorem bDw (s:V8) (ha:s.a<4294967296) (hb:s.b<4294967296) (hc:s.c<4294967296) :
 aA.wrap (((aC6 s.a 2 ^^^ aC6 s.a 13 ^^^ aC6 s.a 22:Nat):Int)+bits BinOp.xor aA (bits BinOp.xor aA (bits BinOp.and aA (s.a:Int) (s.b:Int)) (bits BinOp.and aA (s.a:Int) (s.c:Int))) (bits BinOp.and aA (s.b:Int) (s.c:Int)))=((aWx s:Nat):Int):=by
 rw[u32_and_nat _ _ ha hb,u32_and_nat _ _ ha hc,u32_and_nat _ _ hb hc,u32_xor_nat _ _ (aFk ha) (aFk ha),u32_xor_nat _ _ (aG6 (aFk ha) (aFk ha)) (aFk hb)]
 show aA.wrap (((b0N s.a:Nat):Int)+((bE2 s.a s.b s.c:Nat):Int))=_
 rw[aD];unfold aWx;omega
theorem aZ7 (a b:Nat):aA.wrap ((a:Int)+(b:Int))=(((a+b) % 4294967296:Nat):Int):=by
 rw[aD];omega
def stN (v:V8) (W:List Nat) (i:Nat):V8:=aNm v ((aS7.zip W).take i)
theorem aWl (v:V8) (W:List Nat) (i k x:Nat) (hk:aS7[i]? =some k) (hx:W[i]? =some x):stN v W (i+1)=rnd (stN v W i) k x:=by
 have a:(aS7.zip W)[i]? =some (k,x):=by simp[List.getElem?_zip_eq_some,hk,hx]
 unfold stN aNm;rw[List.take_add_one,a];simp
theorem bCn {v:V8} (h:aWd v) (k x:Nat):aWd (rnd v k x):=by
 intro y b;simp only[V8.toL,rnd,List.mem_cons,List.not_mem_nil,or_false]at b;have a:∀z,z∈v.toL->z<4294967296:=h;simp only[V8.toL,List.mem_cons,List.not_mem_nil,or_false]at a;rcases b with rfl|rfl|rfl|rfl|rfl|rfl|rfl|rfl
 . exact Nat.mod_lt _ (by omega)
 . exact a _ (by simp)
 . exact a _ (by simp)
 . exact a _ (by simp)
 . exact Nat.mod_lt _ (by omega)
 . exact a _ (by simp)
 . exact a _ (by simp)
 . exact a _ (by simp)
theorem aZu {v:V8} (h:aWd v) (W:List Nat):∀i,aWd (stN v W i):=by
 intro i;unfold stN aNm;generalize (aS7.zip W).take i=ps
 induction ps generalizing v with
 | nil=>exact h
 | cons p ps ih=>exact ih (bCn h p.1 p.2)
theorem aZo (v s:V8) (j y z:Nat) (hy:v.toL[j]? =some y) (hz:s.toL[j]? =some z):(aWc v s).toL[j]? =some ((y+z) % 4294967296):=by
 have b:j<8:=(aB.1 hy).1;have a:j=0\/j=1\/j=2\/j=3\/j=4\/j=5\/j=6\/j=7:=by omega
 rcases a with rfl|rfl|rfl|rfl|rfl|rfl|rfl|rfl <;>(simp[V8.toL]at hy hz;subst hy hz;rfl)
theorem bAy (A L:List Nat) (j a:Nat) (hA:A[j]? =some a) (hl:A.length=L.length):(A.take j++L.drop j).set j a=A.take (j+1)++L.drop (j+1):=by
 have d:j<A.length:=(aB.1 hA).1;have b:(A.take j).length=j:=by rw[List.length_take];omega
 have c:L.drop j=L[j]'(by omega) :: L.drop (j+1):=List.drop_eq_getElem_cons (by omega);rw[List.set_append_right _ _ (by omega),b,Nat.sub_self,c,List.set_cons_zero,List.take_add_one,hA];simp
theorem bDq (w:aL) (hb:Nat) (v:V8) (h:BlkIs w hb 376 (uv v.toL)) (hv:aWd v) (gb off cap:Nat) (blk:List UInt8) (hl:blk.length=64) (hbt:∀j (c:UInt8),blk[j]? =some c->w.cell? (gb,off+j)=some (.int .u8 (c.toNat:Int))) (hR:aA4 w) :
 Calls prog 249 #[.pointer (some (hb,0)),.slice (some (gb,off)) 64 cap] w fun e w'=>e= .returned (.tuple #[])/\BlkIs w' hb 376 (uv (aCt v blk).toL)/\Upd hb w w':=by
 have b7:=BlkIs.lt h;go_enter func249,ntmps249
 go_wp2_with fail
 refine(aPh gb off cap blk w hl hbt).mono ?_;rintro e J ⟨rfl,b1⟩;have h1:=h.later b1;have R1:=hR.later b1;obtain⟨W,N⟩:=ex_ (aFp 48 (aC0 blk));have lW:W.length=64:=by rw[N,aH4,aC8]
 have av:∀x∈W,x<4294967296:=by rw[N];exact aJk _ _ (aK7 blk)
 rw[<-N];have HW:=hid N;have LW:=hid lW;clear N lW h hR hl hbt;have bF:=BlkIs.lt h1;have aw:=R1.lt;have aR:hb≠J.heap.size:=by omega
 go_upto_region 1 with(first
  | (refine wpList_store_row rfl 406 (.tmp 4) (.tmp 14) rfl J.heap.size (uv W).toArray rfl rfl 406 _ (aI J _) (aZz LW.out) (by simp[uv,LW.out]) (aZq W) ?_))
 generalize l:(aJ J _).setRow _ _=W2;have z2:BlkIs W2 J 406 (uv W):=by rw[<-l];exact(BlkIs.new J _ _).setRow (uv W)
 have h2:BlkIs W2 hb 376 (uv v.toL):=by rw[<-l];exact(BlkIs.alloc h1 _).setRow_ne aR _
 have R2:aA4 W2:=by rw[<-l];exact(R1.alloc _).setRow (by omega) _
 have b2:Below w w W2:=by rw[<-l];exact below_setRow (b1.alloc b1.size _) b1.size _
 have e2:W2.heap.size=J.heap.size+1:=by rw[<-l];simp
 have bD:w.heap.size<=J.heap.size:=b1.size;clear l h1 R1 b1 aw;generalize J.heap.size=B4 at *;have E2:=hid e2;clear e2
 go_upto_region 2 with(first
  | (refine wpList_load_row rfl 376 (.tmp 16) rfl hb rfl 376 (uv v.toL).toArray (0,0) _ h2 underlying376 rfl (aYk rfl) ?_)
  | (refine wpList_store_row rfl 376 (.tmp 5) (.tmp 17) rfl W2.heap.size (uv v.toL).toArray rfl rfl 376 _ (aI W2 _) (aYk rfl) rfl (aZq _) ?_))
 have bj:=BlkIs.lt h2;have b9:=BlkIs.lt z2;have aF:=R2.lt;generalize A:(aJ W2 _).setRow _ _=W3;have v3:BlkIs W3 W2 376 (uv v.toL):=by rw[<-A];exact(BlkIs.new W2 _ _).setRow (uv v.toL)
 have h3:BlkIs W3 hb 376 (uv v.toL):=by rw[<-A];exact(BlkIs.alloc h2 _).setRow_ne (by omega) _
 have z3:BlkIs W3 B4 406 (uv W):=by rw[<-A];exact(BlkIs.alloc z2 _).setRow_ne (by omega) _
 have R3:aA4 W3:=by rw[<-A];exact(R2.alloc _).setRow (by omega) _
 have b3:Below w w W3:=by rw[<-A];exact below_setRow (b2.alloc b2.size _) b2.size _
 have X:w.heap.size<=W2.heap.size:=b2.size;have ac:W2.heap.size≠B4:=by omega
 have Q:W2.heap.size≠hb:=by omega
 have bu:W2.heap.size≠1:=by omega
 clear A h2 z2 R2 b2 E2 aF;generalize W2.heap.size=B5 at *;obtain⟨tt,fr,o⟩:=R3
 go_wp2_with (first
  | (refine wpList_load_row rfl 406 (.global 1) rfl 1 rfl tt (uv aS7).toArray fr _ o underlying406 rfl (aZz rfl) ?_))
 clear o;have bi:=BlkIs.lt h3;go_loopw [19] (fun iv wr=>∃i:Nat,i<=64/\iv= .int .i64 i/\BlkIs wr hb 376 (uv v.toL)/\BlkIs wr B4 406 (uv W)/\BlkIs wr B5 376 (uv (stN v W i).toL)/\Below w w wr) (fun iv _=>64-(intOf iv).toNat)
 case atStart=>exact⟨0,by omega,rfl,h3,z3,v3,b3⟩
 case round=>
  clear h3 z3 v3 b3;obtain⟨i,hi,rfl,F,S,G,r⟩:=hrel;by_cases al:i<64
  . obtain⟨k,hk⟩:∃k,aS7[i]? =some k:=⟨_,aC (show i<64 from al)⟩;obtain⟨x,hx⟩:∃x,W[i]? =some x:=⟨_,aC (by have:=LW.out;omega)⟩;have E:=aWl v W i k x hk hx;have m:=aZu hv W i;have bf:=bD8 aS7 rfl i k hk;generalize stN v W i=s at *
    have n:∀Z:aL,BlkIs Z B5 376 (uv s.toL)->Z.cell? (B5,0)=some (.int .u32 (s.a:Int))/\Z.cell? (B5,1)=some (.int .u32 (s.b:Int))/\Z.cell? (B5,2)=some (.int .u32 (s.c:Int))/\Z.cell? (B5,3)=some (.int .u32 (s.d:Int))/\
        Z.cell? (B5,4)=some (.int .u32 (s.e:Int))/\Z.cell? (B5,5)=some (.int .u32 (s.f:Int))/\Z.cell? (B5,6)=some (.int .u32 (s.g:Int))/\Z.cell? (B5,7)=some (.int .u32 (s.h:Int)):=
      fun Z H=>⟨H.cell 0,H.cell 1,H.cell 2,H.cell 3,H.cell 4,H.cell 5,H.cell 6,H.cell 7⟩
    have N:∀Z:aL,BlkIs Z B4 406 (uv W)->Z.cell? (B4,i)=some (.int .u32 (x:Int)):=fun Z H=>(H.cell i).trans (aEn _ _ hx);have lx:=av x (List.mem_of_getElem? hx);have le:s.e<4294967296:=m s.e (by simp[V8.toL]);have la:s.a<4294967296:=m s.a (by simp[V8.toL]);obtain⟨a0,a1,a2,a3,a4,a5,a6,a7⟩:=n _ G;have n0:(0:Int)<=(i:Int):=by omega
    have n1:(i:Int)<64:=by omega
    have t0:decide ((i:Int)<64)=true:=by simp;omega
    obtain⟨HN,HC,b5⟩:=aAw E n N;clear E n N hk hx;go_wp2_with fail
    go_quiet (fail)
    go_wp2_with fail
    have ap:=F.drewN nq;have R:=S.drewN nq;have V:=G.drewN nq;have a8:=aBa r nq;clear F S G r a0 a1 a2 a3 a4 a5 a6 a7;generalize wr.drewN nq=W0 at *;obtain⟨a0,a1,a2,a3,a4,a5,a6,a7⟩:=HC.out _ V;have c4:=b5.out _ R;have P:=World.new_ne W0 _ a5;have aM:=World.new_ne W0 _ c4
    go_region_held3 (fun w'=>w'.cell? (B5,7)=some (.int .u32 (s.h:Int))/\w'.cell? (B5,5)=some (.int .u32 (s.f:Int))/\w'.cell? (B5,6)=some (.int .u32 (s.g:Int))/\w'.cell? (B4,i)=some (.int .u32 (x:Int)))
      (go_keep)
      (first
        | (go_at_call 289;refine(aXn s.e _ _ le ?_ ?_ ?_).mono ?_;(exact aCu _ _ _ _ _ _ (by simp) rfl);(exact aCu _ _ _ _ _ _ (by simp) rfl);(exact aCu _ _ _ _ _ _ (by simp) rfl);rintro e w4 ⟨rfl,rfl⟩))
    have lf:s.f<4294967296:=m s.f (by simp[V8.toL]);have lg:s.g<4294967296:=m s.g (by simp[V8.toL]);rw[bDx s k x le lf lg];generalize C:(aJ W0 _).drew=W1 at *;have ao:BlkIs W1 hb 376 (uv v.toL):=by rw[<-C];exact(ap.alloc _).drew
    have af:BlkIs W1 B4 406 (uv W):=by rw[<-C];exact(R.alloc _).drew
    have U:BlkIs W1 B5 376 (uv s.toL):=by rw[<-C];exact(V.alloc _).drew
    have Y:Below w w W1:=by rw[<-C];exact(a8.alloc a8.size _).drew
    clear C ap R V a8 a0 a1 a2 a3 a4 a5 a6 a7 c4 P aM;obtain⟨a0,a1,a2,a3,a4,a5,a6,a7⟩:=HC.out _ U;have P:=World.new_ne W1 _ a5;go_wp2_with fail
    go_region_held3 (fun w'=>w'.cell? (B5,1)=some (.int .u32 (s.b:Int))/\w'.cell? (B5,2)=some (.int .u32 (s.c:Int)))
      (go_keep)
      (first
        | (go_at_call 289;refine(aXo s.a _ _ la ?_ ?_ ?_).mono ?_;(exact aCu _ _ _ _ _ _ (by simp) rfl);(exact aCu _ _ _ _ _ _ (by simp) rfl);(exact aCu _ _ _ _ _ _ (by simp) rfl);rintro e w4 ⟨rfl,rfl⟩))
    have lb:s.b<4294967296:=m s.b (by simp[V8.toL]);have lc:s.c<4294967296:=m s.c (by simp[V8.toL]);rw[bDw s la lb lc];generalize l:(aJ W1 _).drew=W2 at *;have an:BlkIs W2 hb 376 (uv v.toL):=by rw[<-l];exact(ao.alloc _).drew
    have ae:BlkIs W2 B4 406 (uv W):=by rw[<-l];exact(af.alloc _).drew
    have T:BlkIs W2 B5 376 (uv s.toL):=by rw[<-l];exact(U.alloc _).drew
    have au:Below w w W2:=by rw[<-l];exact(Y.alloc Y.size _).drew
    clear l ao af U Y a0 a1 a2 a3 a4 a5 a6 a7 P
    have L:∀j u,(uv [s.a,s.b,s.c,s.d,s.e,s.f,s.g])[j]? =some u->W2.cell? ((⟨B5,0,none⟩:Addr).add j)=some u:=by
     intro j u B;have t:(⟨B5,0,none⟩:Addr).add j=⟨B5,j,none⟩:=by unfold Addr.add;split <;> simp_all
     have hj:j<7:=(aB.1 B).1;rw[t,T.cell];have e:uv s.toL=uv [s.a,s.b,s.c,s.d,s.e,s.f,s.g]++uv [s.h]:=rfl;rw[e,List.getElem?_append_left (by simpa[uv]using hj)];exact B
    have O:=hid L;clear L
    have D:∀u∈uv [s.a,s.b,s.c,s.d,s.e,s.f,s.g],u.oneCell'=true:=by
     intro u B;simp only[uv,List.mem_map]at B;obtain⟨y,_,rfl⟩:=B;rfl
    have aG:=hid D;clear D;go_wp2_with fail
    go_region_law (refine step_copy_splice rfl (.tmp 69) (.tmp 70) 409 409 rfl 288 underlying409 (by kernel_rfl) (some ⟨B5,1,none⟩) (some ⟨B5,0,none⟩) 7 7 7 8 rfl rfl B5 1 (uv s.toL) 376 T (uv [s.a,s.b,s.c,s.d,s.e,s.f,s.g]) rfl (fun _=>⟨rfl,_,rfl,O.out⟩) (by simp[uv,V8.toL]) aG.out B5 W2 ((Below.refl _ _).drew) (Nat.le_refl _) ?_;intro w' ag K)
    have s3:BlkIs w' B5 376 (uv [s.a,s.a,s.b,s.c,s.d,s.e,s.f,s.g]):=ag.out;have am:BlkIs w' hb 376 (uv v.toL):=an.below K (by omega);have ad:BlkIs w' B4 406 (uv W):=ae.below K (by omega);have ar:Below w w w':=au.trans (K.mono X);clear ag K an ae T au;obtain⟨c0,-,-,-,c4⟩:=s3.C5;have f0:=s3.frozen 0;have f4:=s3.frozen 4;have u1:=aZ7 (aO6 s k x) (aWx s);have u2:=aZ7 s.d (aO6 s k x);have ai:=(s3.set 0 (.int .u32 (((aO6 s k x+aWx s) % 4294967296:Nat):Int))).set 4 (.int .u32 (((s.d+aO6 s k x) % 4294967296:Nat):Int));have aV:=(aK (p:=⟨B5,4,none⟩) (aK (p:=⟨B5,0,none⟩) am (Ne.symm Q) (.int .u32 (((aO6 s k x+aWx s) % 4294967296:Nat):Int))) (Ne.symm Q) (.int .u32 (((s.d+aO6 s k x) % 4294967296:Nat):Int)));have aN:=(aK (p:=⟨B5,4,none⟩) (aK (p:=⟨B5,0,none⟩) ad (Ne.symm ac) (.int .u32 (((aO6 s k x+aWx s) % 4294967296:Nat):Int))) (Ne.symm ac) (.int .u32 (((s.d+aO6 s k x) % 4294967296:Nat):Int)));have aW:=(ar.setCell (p:=⟨B5,0,none⟩) X (.int .u32 (((aO6 s k x+aWx s) % 4294967296:Nat):Int))).setCell (p:=⟨B5,4,none⟩) X (.int .u32 (((s.d+aO6 s k x) % 4294967296:Nat):Int))
    have hL:((uv [s.a,s.a,s.b,s.c,s.d,s.e,s.f,s.g]).set 0 (.int .u32 (((aO6 s k x+aWx s) % 4294967296:Nat):Int))).set 4 (.int .u32 (((s.d+aO6 s k x) % 4294967296:Nat):Int))=uv (stN v W (i+1)).toL:=by
     rw[HN.out];rfl
    have ah:=ai;rw[hL]at ah;clear hL;clear ai s3 am ad ar O aG;go_wp2_with fail
    go_roundw
    case rel=>exact⟨i+1,by omega,by go_num,aV,aN,ah,aW⟩
    case measure=>simp[intOf];omega
  . have aU:i=64:=by omega
    have t0:decide ((i:Int)<64)=false:=by simp;omega
    have M:stN v W i=aNm v (aS7.zip W):=by
     unfold stN;rw[List.take_of_length_le (by rw[List.length_zip,LW.out];omega)]
    have t:∀s,s=stN v W i->aWc v s=aCt v blk:=by
     rintro s rfl;rw[M,HW.out];rfl
    have m:=aZu hv W i;generalize stN v W i=s at *;have aH:=hid (t s rfl);obtain⟨wz,rfl⟩:=ex_ wr;clear M t aU S;have B:Upd hb w wz:= .of_below r;have bE:hb<w.heap.size:=b7;clear r;go_wp2_with fail
    go_loopw [82] (fun iv wr=>∃j:Nat,j<=8/\iv= .int .i64 j/\BlkIs wr hb 376 (uv ((aWc v s).toL.take j++v.toL.drop j))/\BlkIs wr B5 376 (uv s.toL)/\Upd hb w wr) (fun iv _=>8-(intOf iv).toNat)
    case atStart=>exact⟨0,by omega,rfl,F,G,B⟩
    case round=>
     clear F G B;obtain⟨j,hj,rfl,F,G,B⟩:=hrel;by_cases aj:j<8
     . obtain⟨y,hy⟩:∃y,v.toL[j]? =some y:=⟨_,aC (show j<8 from aj)⟩;obtain⟨z,S⟩:∃z,s.toL[j]? =some z:=⟨_,aC (show j<8 from aj)⟩;have hA:=aZo v s j y z hy S
       have ch:wr.cell? (hb,j)=some (.int .u32 (y:Int)):=by
        rw[F.cell];refine aEn _ _ ?_;rw[List.getElem?_append_right (by rw[List.length_take];omega),List.length_take,List.getElem?_drop]
        have:j+(j-min j (aWc v s).toL.length)=j:=by
         have:(aWc v s).toL.length=8:=rfl;omega
        rw[this];exact hy
       have cs:wr.cell? (B5,j)=some (.int .u32 (z:Int)):=by rw[G.cell];exact aEn _ _ S
       have fh:=F.frozen j;have u1:=aZ7 y z;generalize (y+z) % 4294967296=q at *;have n0:(0:Int)<=(j:Int):=by omega
       have n1:(j:Int)<8:=by omega
       have t1:decide ((j:Int)<8)=true:=by simp;omega
       have hn:=(F.set j (.int .u32 (q:Int))).drew;rw[aTb,bAy (aWc v s).toL v.toL j _ hA rfl]at hn;have aQ:=(aK (p:=⟨hb,j,none⟩) G Q (.int .u32 (q:Int))).drew;have aP:Upd hb w (wr.setCell (hb,j) (.int .u32 (q:Int))).drew:=(B.trans (Upd.setCell hb j wr _)).trans (.of_below ((Below.refl _ _).drew));have HN:=hid hn;clear hy S hA hn F G B;go_wp2_with fail
       go_region
       generalize (wr.setCell (hb,j) (.int .u32 (q:Int))).drew=W9 at *;go_wp2_with fail
       go_roundw
       case rel=>exact⟨j+1,by omega,by go_num,HN.out,aQ,aP⟩
       case measure=>simp[intOf];omega
     . have ak:j=8:=by omega
       have t1:decide ((j:Int)<8)=false:=by simp;omega
       have aq:BlkIs wr hb 376 (uv (aCt v blk).toL):=by
        have:=F;rw[ak]at this;have e:(aWc v s).toL.take 8++v.toL.drop 8=(aCt v blk).toL:=by rw[<-aH.out];rfl
        rwa [e]at this
       clear ak F G;go_wp2_with fail
       go_end0
       exact⟨rfl,aq,B⟩
def aKl (x j:Nat):UInt8:=UInt8.ofNat (x / 2 ^(24-8*j))
theorem aZd (x j:Nat) (hj:j<4):(bEt x)[j]? =some (aKl x j):=by
 have h:j=0\/j=1\/j=2\/j=3:=by omega
 rcases h with rfl|rfl|rfl|rfl <;> simp[bEt,aKl]
theorem aQ3 (v:V8):(aS6 v).length=32:=by rfl
theorem aXf (v:V8) (i j x:Nat) (hx:v.toL[i]? =some x) (hj:j<4):(aS6 v)[4*i+j]? =some (aKl x j):=by
 have b:i<8:=(aB.1 hx).1;rw[<-aZd x j hj];have h:i=0\/i=1\/i=2\/i=3\/i=4\/i=5\/i=6\/i=7:=by omega
 have a:j=0\/j=1\/j=2\/j=3:=by omega
 rcases h with rfl|rfl|rfl|rfl|rfl|rfl|rfl|rfl <;>(simp[V8.toL]at hx;subst hx;rcases a with rfl|rfl|rfl|rfl <;> rfl)
theorem bFf (l:List Nat) (hl:l.length=8) (i x:Nat) (hi:l[i]? =some x) (w:aL):(Instr.index 376 (.agg (uv l).toArray) (.int .i64 (i:Int))).run prog w= .ok (.int .u32 (x:Int)) w:=by
 have a:i<8:=by rw[<-hl];exact(aB.1 hi).1
 have b:(uv l)[i]? =some (.int .u32 (x:Int)):=aEn l i hi;simp[Instr.index,run_underlying underlying376,asIntOf,go_sem,a];rw[b];rfl
theorem aVk (v:V8) (hv:aWd v) (w:aL) :
 Calls prog 250 #[.agg (uv v.toL).toArray] w fun e w'=>e= .returned (.string ⟨(aS6 v).toArray⟩)/\Below w w w':=by
 have A:BlkIs (w.alloc (.cells (uv v.toL).toArray 376)) w.heap.size 376 (uv v.toL):=BlkIs.new w _ _;go_enter func250,ntmps250
 go_upto_region 2 with fail
 generalize c:(aJ w _).alloc _=W2;have y:BlkIs W2 (w.heap.size+1) 410 (bv ((aS6 v).take 0)++aE (32-0) (.int .u8 0)):=by rw[<-c];exact aAn _ _ _ (by simp)
 have z:BlkIs W2 w 376 (uv v.toL):=by rw[<-c];exact A.alloc _
 have D:Below w w W2:=by rw[<-c];exact((Below.refl _ w).alloc (Nat.le_refl _) _).alloc (by simp) _
 clear c A
 go_wp2_with (first
  | (refine wpList_load_row rfl 376 (.tmp 1) rfl w.heap.size rfl 376 (uv v.toL).toArray (0,0) _ z underlying376 rfl (aYk rfl) ?_))
 clear z;go_loopw [8] (fun iv wr=>∃i:Nat,i<=8/\iv= .int .i64 i/\BlkIs wr (w.heap.size+1) 410 (bv ((aS6 v).take (4*i))++aE (32-4*i) (.int .u8 0))/\Below w w wr) (fun iv _=>8-(intOf iv).toNat)
 case atStart=>exact⟨0,by omega,rfl,y,D⟩
 case round=>
  clear y D;obtain⟨i,Z,rfl,a,d⟩:=hrel;by_cases q:i<8
  . obtain⟨x,l⟩:∃x,v.toL[i]? =some x:=⟨_,aC (show i<8 from q)⟩;have B:=bFf v.toL rfl i x l;have V:=hv x (List.mem_of_getElem? l);have G:decide ((i:Int)<8)=true:=by simp;omega
    have N:=hid l;clear l;obtain⟨E,rfl⟩:=ex_ wr;have f:BlkIs E (w.heap.size+1) 410 (bv ((aS6 v).take (4*i+0))++aE (32-(4*i+0)) (.int .u8 0)):=a;go_wp2_with fail
    go_loopw [12] (fun m wr=>∃j:Nat,j<=4/\m= .int .i64 j/\BlkIs wr (w.heap.size+1) 410 (bv ((aS6 v).take (4*i+j))++aE (32-(4*i+j)) (.int .u8 0))/\Below w w wr) (fun m _=>4-(intOf m).toNat)
    case atStart=>exact⟨0,by omega,rfl,f,d⟩
    case round=>
     clear a f d;obtain⟨j,Y,rfl,a,d⟩:=hrel;by_cases o:j<4
     . have r:=aXf v i j x N.out o;obtain⟨K,u⟩:=ex_ (4*i+j);rw[<-u]at r a
       have s:wr.cell? (w.heap.size+1,K)=some (.int .u8 0):=by
        rw[a.cell];exact aVg (aQ3 v) (by omega) _
       have J:=a.frozen K;have n:=a.set K (.int .u8 ((aKl x j).toNat:Int));rw[aVf (aQ3 v) (by omega) r]at n;have t:=d.setCell (p:=⟨w.heap.size+1,K,none⟩) (by show w.heap.size<=w.heap.size+1;omega) (.int .u8 ((aKl x j).toNat:Int));have e0:(4:Int)*(i:Int)+(j:Int)=(K:Int):=by omega
       have U:(0:Int)<=(K:Int):=by omega
       have T:(K:Int)<32:=by omega
       have F:decide ((j:Int)<4)=true:=by simp;omega
       obtain⟨S,C⟩:=ex_ (24-8*j);have e8:(24:Int)-8*(j:Int)=(S:Int):=by omega
       have R:(0:Int)<=(S:Int):=by omega
       have H:(S:Int)<32:=by omega
       have M:(x:Int) / 2 ^ S % 256=((aKl x j).toNat:Int):=by
        unfold aKl;rw[<-C,UInt8.toNat_ofNat'];rw[Int.natCast_emod,Int.natCast_ediv,Int.natCast_pow];rfl
       have O:=hid n;have Q:=hid u;clear n r u a C;go_wp2_with fail
       exact⟨⟨j+1,by omega,by go_num,(by have X:=Q.out;rw[show 4*i+(j+1)=K+1 by omega];exact O.out),t⟩,by simp[intOf];omega⟩
     . have g:j=4:=by omega
       have F:decide ((j:Int)<4)=false:=by simp;omega
       have b:BlkIs wr (w.heap.size+1) 410 (bv ((aS6 v).take (4*(i+1)))++aE (32-4*(i+1)) (.int .u8 0)):=by
        have h:=a;rw[g]at h;exact h
       clear g a;go_wp2_with fail
       exact⟨⟨i+1,by omega,by go_num,b,d⟩,by simp[intOf];omega⟩
  . have k:i=8:=by omega
    have G:decide ((i:Int)<8)=false:=by simp;omega
    have b:BlkIs wr (w.heap.size+1) 410 (bv (aS6 v)++[]):=by
     have h:=a;rw[k]at h;exact h
    have L:Sem.run prog (convert 224 9 (.slice (some (w.heap.size+1,0)) 32 32)) wr= .ok (.string ⟨(aS6 v).toArray⟩) wr:=
      aJp (P:=prog) (cap:=32) 224 9 5 underlying224 underlying5 underlying9 b
    clear k a b;go_wp2_with fail
    go_ret;exact⟨rfl,d⟩
end
end Go.Proofs.YtmhpfoicloojcaaGreatDoor
