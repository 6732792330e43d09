/- The digest's block. -/
import Derived.Test.YtmhpfoicloojcaaGreatDoorZah
import Derived.Deep.QuietTactic
import Derived.BigQuiet
import Derived.Deep.RegionWith
import Derived.Deep.RegionHeld3
import Derived.Sort.AtCall
import Derived.Laws.CopyOwn
import Derived.Test.YtmhpfoicloojcaaGreatDoorZai
set_option linter.all false
open List renaming getD_eq_getElem?_getD→aA,getElem?_eq_getElem→aC,getElem?_append_left→aF,replicate→aH
open Go.IntKind renaming u32→aG,wrap_u32'→aI
namespace Go.Proofs.YtmhpfoicloojcaaGreatDoor
set_option maxRecDepth 100000
set_option maxHeartbeats 16000000
section
open Go.Proofs.Tryz
open Go Go.RowKit
def uv (l:List Nat):List Value:=l.map fun x:Nat=>Value.int .u32 (x:Int)
theorem aTb (l:List Nat) (i x:Nat):(uv l).set i (.int .u32 (x:Int))=uv (l.set i x):=by simp[uv,List.map_set]
theorem aEn (l:List Nat) (i:Nat) {x:Nat} (h:l[i]? =some x):(uv l)[i]? =some (.int .u32 (x:Int)):=by simp[uv,h]
theorem bC5 (l:List Nat) (i n:Nat) {x:Nat} (hl:l.length=i) (hi:i<n):(l++aH (n-i) 0).set i x=(l++[x])++aH (n-(i+1)) 0:=by
 rw[List.set_append_right _ _ (by omega),hl,Nat.sub_self,show n-i=(n-(i+1))+1 by omega,List.replicate_succ,List.set_cons_zero];simp
theorem aFu (a b k m:Nat) (hm:m=2 ^ k) (hb:b<m):a*m ||| b=a*m+b:=by
 subst hm;rw[Nat.mul_comm,Nat.two_pow_add_eq_or_of_lt hb]
theorem bDy:(16777216:Nat)=2 ^ 24:=by decide +kernel
theorem bDz:(65536:Nat)=2 ^ 16:=by decide +kernel
theorem bDk (a b c d:Nat) (ha:a<256) (hb:b<256) (hc:c<256) (hd:d<256) :
 bits BinOp.or aG (bits BinOp.or aG (bits BinOp.or aG ((a:Int) % 4294967296*16777216 % 4294967296) ((b:Int) % 4294967296*65536 % 4294967296)) ((c:Int) % 4294967296*256 % 4294967296)) ((d:Int) % 4294967296)
   =((a*16777216+b*65536+c*256+d:Nat):Int):=by
 have l:(a:Int) % 4294967296*16777216 % 4294967296=((a*16777216:Nat):Int):=by omega
 have k:(b:Int) % 4294967296*65536 % 4294967296=((b*65536:Nat):Int):=by omega
 have j:(c:Int) % 4294967296*256 % 4294967296=((c*256:Nat):Int):=by omega
 have i:(d:Int) % 4294967296=((d:Nat):Int):=by omega
 rw[l,k,j,i,u32_or_nat _ _ (by omega) (by omega)]
 have h:a*16777216 ||| b*65536=(a*256+b)*65536:=by
  rw[aFu a (b*65536) 24 16777216 bDy (by omega)];omega
 rw[h,u32_or_nat _ _ (by omega) (by omega)]
 have g:(a*256+b)*65536 ||| c*256=((a*256+b)*256+c)*256:=by
  have e:((a*256+b)*65536 ||| c*256)=(a*256+b)*65536+c*256:=aFu (a*256+b) (c*256) 16 65536 bDz (by omega);rw[e];omega
 rw[g,u32_or_nat _ _ (by omega) (by omega)];have f:=aFu ((a*256+b)*256+c) d 8 256 (by decide) hd;rw[f];omega
theorem aC8 (blk:List UInt8):(aC0 blk).length=16:=by simp[aC0]
theorem aPb (blk:List UInt8) {i:Nat} (hi:i<16):(aC0 blk)[i]? =some (be4 blk i):=by
 simp[aC0,hi]
theorem aTk (xa xb xc xd:Nat) (hb:xb<4294967296) (hd:xd<4294967296) :
 aG.wrap (aG.wrap (aG.wrap ((xa:Int)+bits BinOp.xor aG ((aC6 xb 7 ^^^ aC6 xb 18:Nat):Int) ((xb:Int) / 8))+(xc:Int))+bits BinOp.xor aG ((aC6 xd 17 ^^^ aC6 xd 19:Nat):Int) ((xd:Int) / 1024))
   =(((xa+s0N xb+xc+s1N xd) % 4294967296:Nat):Int):=by
 have b:(xb:Int) / 8=((xb / 2 ^ 3:Nat):Int):=by omega
 have a:(xd:Int) / 1024=((xd / 2 ^ 10:Nat):Int):=by omega
 rw[b,a,u32_xor_nat _ _ (aG6 (aBr _ _ hb) (aBr _ _ hb)) (by omega),u32_xor_nat _ _ (aG6 (aBr _ _ hd) (aBr _ _ hd)) (by omega)]
 show aG.wrap (aG.wrap (aG.wrap ((xa:Int)+((s0N xb:Nat):Int))+(xc:Int))+((s1N xd:Nat):Int))=_
 rw[aI,aI,aI];omega
theorem aJj:∀(n:Nat) (l:List Nat),aFp (n+1) l=aFp n l++[aJ5 (aFp n l)]
 | 0,_=>rfl
 | n+1,l=>aJj n (l++[aJ5 l])
theorem aH4:∀(n:Nat) (l:List Nat),(aFp n l).length=l.length+n
 | 0,_=>rfl
 | n+1,l=>by
   show(aFp n (l++[aJ5 l])).length=_
   rw[aH4 n];simp;omega
theorem aJk:∀(n:Nat) (l:List Nat),(∀x∈l,x<4294967296)->∀x∈aFp n l,x<4294967296
 | 0,_,h=>h
 | n+1,l,h=>aJk n (l++[aJ5 l]) fun x hx=>by
   rw[List.mem_append,List.mem_singleton]at hx;rcases hx with hx|rfl
   . exact h x hx
   . exact Nat.mod_lt _ (by omega)
theorem bDl (l:List UInt8) (i:Nat):be4 l i<4294967296:=by
 unfold be4 aS1;have d:=UInt8.toNat_lt (l.getD (4*i) 0);have c:=UInt8.toNat_lt (l.getD (4*i+1) 0);have b:=UInt8.toNat_lt (l.getD (4*i+2) 0);have a:=UInt8.toNat_lt (l.getD (4*i+3) 0);omega
theorem aK7 (blk:List UInt8):∀x∈aC0 blk,x<4294967296:=by
 intro x a;unfold aC0 at a;rw[List.mem_map]at a;obtain⟨i,_,rfl⟩:=a;exact bDl blk i
def swN (blk:List UInt8) (i:Nat):List Nat:=aFp (i-16) (aC0 blk)
theorem aTh (blk:List UInt8) {i:Nat} (h:16<=i):(swN blk i).length=i:=by
 unfold swN;rw[aH4,aC8];omega
theorem aWi (blk:List UInt8) {i:Nat} (h:16<=i):swN blk (i+1)=swN blk i++[aJ5 (swN blk i)]:=by
 unfold swN;rw[show i+1-16=(i-16)+1 by omega,aJj]
theorem bCi (blk:List UInt8) (i:Nat):∀x∈swN blk i,x<4294967296:=aJk _ _ (aK7 blk)
theorem aXj (l:List Nat) (i a b c d:Nat) (hl:l.length=i) (ha:l[i-16]? =some a) (hb:l[i-15]? =some b) (hc:l[i-7]? =some c) (hd:l[i-2]? =some d):aJ5 l=(a+s0N b+c+s1N d) % 4294967296:=by
 unfold aJ5;rw[hl,aA,aA,aA,aA,ha,hb,hc,hd];rfl
theorem Tryz.infoW64:(prog.info? 406).map (·.size)=some 64:=by kernel_rfl
theorem aPh (gb off cap:Nat) (blk:List UInt8) (w:World) (hl:blk.length=64) (hb:∀j (c:UInt8),blk[j]? =some c->w.cell? (gb,off+j)=some (.int .u8 (c.toNat:Int))) :
 Calls prog 288 #[.slice (some (gb,off)) 64 cap] w fun e w'=>e= .returned (.agg (uv (aFp 48 (aC0 blk))).toArray)/\Below w w w':=by
 have HL:=hid hl;have A:=hid hb;clear hl hb;go_enter func288,ntmps288
 go_wp2_with fail
 go_loopw [7] (fun iv wr=>∃i:Nat,i<=16/\iv= .int .i64 i/\BlkIs wr w 406 (uv ((aC0 blk).take i++aH (64-i) 0))/\Below w w wr) (fun iv _=>16-(intOf iv).toNat)
 case atStart=>exact⟨0,by omega,rfl,BlkIs.new _ _ _,(Below.refl _ w).alloc (Nat.le_refl _) _⟩
 case round=>
  obtain⟨i,hi,rfl,g,hb⟩:=hrel;by_cases y:i<16
  . obtain⟨m,O⟩:=ex_ (4*i);have hl:=HL.out;obtain⟨c0,d0⟩:∃c:UInt8,blk[m]? =some c:=⟨_,aC (by omega)⟩;obtain⟨c1,d1⟩:∃c:UInt8,blk[m+1]? =some c:=⟨_,aC (by omega)⟩;obtain⟨c2,Z⟩:∃c:UInt8,blk[m+2]? =some c:=⟨_,aC (by omega)⟩;obtain⟨c3,Y⟩:∃c:UInt8,blk[m+3]? =some c:=⟨_,aC (by omega)⟩;have k0:wr.cell? (gb,off+m)=some (.int .u8 (c0.toNat:Int)):=(hb.cell (aAl (A.out _ _ d0))).trans (A.out _ _ d0);have k1:wr.cell? (gb,off+(m+1))=some (.int .u8 (c1.toNat:Int)):=(hb.cell (aAl (A.out _ _ d1))).trans (A.out _ _ d1);have k2:wr.cell? (gb,off+(m+2))=some (.int .u8 (c2.toNat:Int)):=(hb.cell (aAl (A.out _ _ Z))).trans (A.out _ _ Z);have k3:wr.cell? (gb,off+(m+3))=some (.int .u8 (c3.toNat:Int)):=(hb.cell (aAl (A.out _ _ Y))).trans (A.out _ _ Y)
    have a6:wr.cell? (w,i)=some (.int .u32 0):=by
     rw[g.cell];exact aEn _ _ (by rw[List.getElem?_append_right (by rw[List.length_take,aC8];omega),List.getElem?_replicate,if_pos (by rw[List.length_take,aC8];omega)])
    have aB:wr.frozen? (w,i)=false:=g.frozen i;have e0:(4:Int)*(i:Int)=(m:Int):=by omega
    have n0:(0:Int)<=(i:Int):=by omega
    have n1:(i:Int)<64:=by omega
    have n2:(0:Int)<=(m:Int):=by omega
    have n3:(m:Int)+3<64:=by omega
    have N:be4 blk i=c0.toNat*16777216+c1.toNat*65536+c2.toNat*256+c3.toNat:=by
     unfold be4 aS1;rw[<-O,aA,aA,aA,aA,d0,d1,Z,Y];rfl
    have hv:=bDk c0.toNat c1.toNat c2.toNat c3.toNat (UInt8.toNat_lt _) (UInt8.toNat_lt _) (UInt8.toNat_lt _) (UInt8.toNat_lt _);rw[<-N]at hv;have u:=(g.set i (.int .u32 (be4 blk i:Nat))).drew;rw[aTb,bC5 _ i 64 (by rw[List.length_take,aC8];omega) (by omega)]at u;have K:(aC0 blk).take i++[be4 blk i]=(aC0 blk).take (i+1):=by rw[List.take_add_one,aPb blk y];rfl
    rw[K]at u;have l:Below w w (wr.setCell (w,i) (.int .u32 (be4 blk i:Nat))).drew:=(hb.setCell (p:=⟨w.heap.size,i,none⟩) (Nat.le_refl _) _).drew;have HV:=hid hv;have HN:=hid u;have t0:decide ((i:Int)<16)=true:=by simp;omega
    clear O hl d0 d1 Z Y N hv K u g;go_wp2_with fail
    go_region
    rw[HV.out];generalize (wr.setCell (w,i) (.int .u32 (be4 blk i:Nat))).drew=w2 at *;go_wp2_with fail
    go_roundw
    case rel=>exact⟨i+1,by omega,by go_num,HN.out,l⟩
    case measure=>simp[intOf];omega
  . have k:i=16:=by omega
    obtain⟨wz,rfl⟩:=ex_ wr
    have t:BlkIs wz w 406 (uv (swN blk 16++aH (64-16) 0)):=by
     rw[k]at g;have:(aC0 blk).take 16=swN blk 16:=by rw[List.take_of_length_le (by rw[aC8];omega)];rfl
     rw[<-this];exact g
    have t0:decide ((i:Int)<16)=false:=by simp;omega
    clear k;clear g hi y;go_wp2_with fail
    go_loopw [4] (fun iv wr=>∃i:Nat,16<=i/\i<=64/\iv= .int .i64 i/\BlkIs wr w 406 (uv (swN blk i++aH (64-i) 0))/\Below w w wr) (fun iv _=>64-(intOf iv).toNat)
    case atStart=>exact⟨16,by omega,by omega,rfl,t,hb⟩
    case round=>
     clear t hb;obtain⟨i,i1,i2,rfl,g,hb⟩:=hrel;by_cases al:i<64
     . have h:=aTh blk i1;have B:=bCi blk i;obtain⟨a,P⟩:=ex_ (i-16);obtain⟨q,Q⟩:=ex_ (i-15);obtain⟨o,h7⟩:=ex_ (i-7);obtain⟨I2,h2⟩:=ex_ (i-2);obtain⟨J,X⟩:∃x,(swN blk i)[a]? =some x:=⟨_,aC (by omega)⟩;obtain⟨F,n⟩:∃x,(swN blk i)[q]? =some x:=⟨_,aC (by omega)⟩;obtain⟨H,V⟩:∃x,(swN blk i)[o]? =some x:=⟨_,aC (by omega)⟩;obtain⟨E,U⟩:∃x,(swN blk i)[I2]? =some x:=⟨_,aC (by omega)⟩;have lb:=B F (List.mem_of_getElem? n);have ld:=B E (List.mem_of_getElem? U)
       have cd:wr.cell? (w,I2)=some (.int .u32 (E:Int)):=by
        rw[g.cell];exact aEn _ _ (by rw[aF (by omega)];exact U)
       have cb:wr.cell? (w,q)=some (.int .u32 (F:Int)):=by
        rw[g.cell];exact aEn _ _ (by rw[aF (by omega)];exact n)
       have M:∀W:World,BlkIs W w 406 (uv (swN blk i++aH (64-i) 0))->W.cell? (w,a)=some (.int .u32 (J:Int))/\W.cell? (w,o)=some (.int .u32 (H:Int))/\W.cell? (w,i)=some (.int .u32 0)/\W.frozen? (w,i)=false:=by
        intro W G;refine⟨?_,?_,?_,G.frozen i⟩
        . rw[G.cell];exact aEn _ _ (by rw[aF (by omega)];exact X)
        . rw[G.cell];exact aEn _ _ (by rw[aF (by omega)];exact V)
        . rw[G.cell];exact aEn _ _ (by rw[List.getElem?_append_right (by omega),List.getElem?_replicate,if_pos (by omega)])
       have T:=hid M;have aD:(i:Int)-16=(a:Int):=by omega
       have aE:(i:Int)-15=(q:Int):=by omega
       have e7:(i:Int)-7=(o:Int):=by omega
       have e2:(i:Int)-2=(I2:Int):=by omega
       have n0:(16:Int)<=(i:Int):=by omega
       have n1:(i:Int)<64:=by omega
       have n2:(a:Int)<64/\(q:Int)<64/\(o:Int)<64/\(I2:Int)<64:=by omega
       obtain⟨n3,n4,n5,n6⟩:=n2;have ar:IntKind.i64.wrap (a:Int)=(a:Int):=IntWalk.i64_in _ (by omega);have w7:IntKind.i64.wrap (o:Int)=(o:Int):=IntWalk.i64_in _ (by omega);have ao:(0:Int)<=(a:Int):=by omega
       have z7:(0:Int)<=(o:Int):=by omega
       have z0:(0:Int)<=(i:Int):=by omega
       have t0:decide ((i:Int)<64)=true:=by simp;omega
       have ae:=hid (aXj (swN blk i) i J F H E h (by rw[<-P];exact X) (by rw[<-Q];exact n) (by rw[<-h7];exact V) (by rw[<-h2];exact U));have S:=hid h
       have r:∀W:World,BlkIs W w 406 (uv (swN blk i++aH (64-i) 0))->∀v d b,(((W.setCell (w,i) v).alloc d).alloc b).cell? (w,a)=some (.int .u32 (J:Int))/\(((W.setCell (w,i) v).alloc d).alloc b).cell? (w,o)=some (.int .u32 (H:Int)):=by
        intro W G v d b;have hs:=((G.set i v).alloc d).alloc b;refine⟨?_,?_⟩
        . rw[hs.cell,List.getElem?_set_ne (by omega)];exact aEn _ _ (by rw[aF (by omega)];exact X)
        . rw[hs.cell,List.getElem?_set_ne (by omega)];exact aEn _ _ (by rw[aF (by omega)];exact V)
       have z:=hid r;clear h B X n V U P Q h7 h2 M r;go_wp2_with fail
       go_quiet (fail)
       go_wp2_with fail
       have f:=g.drewN nq;have a7:=aBa hb nq;clear cb cd g hb;generalize wr.drewN nq=W0 at *;obtain⟨ca,cc,ci,fi⟩:=T.out _ f;have a8:∀d b,((W0.alloc d).alloc b).frozen? (w,i)=false:=fun d b=>((f.alloc d).alloc b).frozen i;have a9:∀d b,((W0.alloc d).alloc b).cell? (w,i)=some (.int .u32 0):=fun d b=>(T.out _ ((f.alloc d).alloc b)).2.2.1;have sa:=fun v d b=>(z.out _ f v d b).1;have sc:=fun v d b=>(z.out _ f v d b).2;have az:w.heap.size<W0.heap.size:=BlkIs.lt f
       go_region_held3 (fun w'=>w'.cell? (w,a)=some (.int .u32 (J:Int))/\w'.cell? (w,o)=some (.int .u32 (H:Int)))
         (go_keep)
         (first
           | (go_at_call_has 289 (Value.int .u32 (F:Int));refine(aXm F _ _ lb ?_ ?_).mono ?_;(first|exact aCu _ _ _ _ _ _ (by simp) rfl|exact aEw _ _ _ _ _ _ _ (by simp) rfl|(simp;done));(first|exact aCu _ _ _ _ _ _ (by simp) rfl|exact aEw _ _ _ _ _ _ _ (by simp) rfl|(simp;done));rintro e w4 ⟨rfl,rfl⟩)
           | (go_at_call_has 289 (Value.int .u32 (E:Int));refine(aXl E _ _ ld ?_ ?_).mono ?_;(first|exact aCu _ _ _ _ _ _ (by simp) rfl|exact aEw _ _ _ _ _ _ _ (by simp) rfl|(simp;done));(first|exact aCu _ _ _ _ _ _ (by simp) rfl|exact aEw _ _ _ _ _ _ _ (by simp) rfl|(simp;done));rintro e w4 ⟨rfl,rfl⟩))
       all_goals
         rw[aTk J F H E lb ld,<-ae.out];have u:=f.set i (.int .u32 (aJ5 (swN blk i):Nat));rw[aTb,bC5 _ i 64 S.out (by omega),<-aWi blk i1]at u;have l:Below w w (W0.setCell (w,i) (.int .u32 (aJ5 (swN blk i):Nat))):=a7.setCell (p:=⟨w.heap.size,i,none⟩) (Nat.le_refl _) _;have HN:=hid u;clear sa sc a9 a8 ca cc ci fi u;generalize W0.setCell (w,i) (.int .u32 (aJ5 (swN blk i):Nat))=W1 at *;go_wp2_with fail
         go_roundw
         case rel=>exact⟨i+1,by omega,by omega,by go_num,((HN.alloc _).alloc _).drew,((l.alloc l.size _).alloc (by have:=l.size;simp;omega) _).drew⟩
         case measure=>simp[intOf];omega
     . have k:i=64:=by omega
       have t0:decide ((i:Int)<64)=false:=by simp;omega
       have s:wr.heap[w.heap.size]? =some (.cells (uv (swN blk 64)).toArray 406 (0,0)):=by
        have:=g;rw[k,Nat.sub_self,List.replicate_zero,List.append_nil]at this;exact this
       have L:((prog.info? 406).map (·.size))=some ((uv (swN blk 64)).toArray.size):=by
        have:((uv (swN blk 64)).toArray.size)=64:=by simp[uv,aTh blk (show 16<=64 by omega)]
        rw[this];exact Tryz.infoW64
       obtain⟨R,C,HQ⟩:=aAw (show(uv (swN blk 64)).toArray.all (·.oneCell')=true by simp[uv,Value.oneCell']) L s;clear L g s k;have D:=hid (setRow_self wr w.heap.size _ _ _ HQ.out)
       go_wp2_with (first
        | (with_reducible refine wpList_load_row rfl 406 (.tmp 2) rfl w.heap.size rfl 406 (uv (swN blk 64)).toArray (0,0) _ HQ.out underlying406 rfl C.out ?_)
        | (with_reducible refine wpList_store_row rfl 406 (.tmp 2) (.tmp 83) rfl w.heap.size (uv (swN blk 64)).toArray rfl rfl 406 (uv (swN blk 64)).toArray HQ.out C.out rfl R.out ?_))
       rw[D.out];exact bodyPost_ret (results_cell_row rfl _ wr w.heap.size 406 (uv (swN blk 64)).toArray (0,0) _ rfl HQ.out underlying406 rfl C.out) rfl ⟨rfl,hb⟩
end
end Go.Proofs.YtmhpfoicloojcaaGreatDoor
