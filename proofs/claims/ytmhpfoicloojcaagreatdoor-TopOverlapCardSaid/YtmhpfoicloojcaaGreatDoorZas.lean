/- wire.PutInt. -/
import Derived.Test.YtmhpfoicloojcaaGreatDoorZar
import Derived.Test.YtmhpfoicloojcaaGreatDoorZad
set_option linter.all false
open Go.World renaming putObj_heap_other→aA,size_alloc→aB
namespace Go.Proofs.YtmhpfoicloojcaaGreatDoor
set_option maxRecDepth 100000
set_option maxHeartbeats 16000000
section
open Go.Proofs.Tryz
open Go Go.RowKit Go.Shelf
attribute [local go_sem] Oper.semAt_some
theorem aWe (a:Nat) (h:a<18446744073709551616):a ^^^ 18446744073709551615=18446744073709551615-a:=by
 apply Nat.eq_of_testBit_eq;intro i;rw[Nat.testBit_xor,show(18446744073709551615-a)=2 ^ 64-(a+1) by omega,Nat.testBit_two_pow_sub_succ (by omega),show(18446744073709551615:Nat)=2 ^ 64-1 by decide,Nat.testBit_two_pow_sub_one];by_cases b:i<64
 . simp[b]
 . have:a.testBit i=false:=Nat.testBit_lt_two_pow (Nat.lt_of_lt_of_le h (by rw[show(18446744073709551616:Nat)=2 ^ 64 by decide];exact Nat.pow_le_pow_right (by decide) (by omega)));simp[b,this]
theorem bCg (n:Int) (h1: -4611686018427387903<=n) (h2:n<=4611686018427387903) :
 bits BinOp.xor IntKind.u64 (IntKind.u64.wrap (IntKind.u64.wrap n*2)) (IntKind.u64.wrap (n / 9223372036854775808))=(zz n:Int):=by
 simp only[IntKind.wrap_u64];unfold zz;by_cases h:n<0
 . rw[if_pos h];have b:n % 18446744073709551616*2 % 18446744073709551616=((2*n+18446744073709551616).toNat:Int):=by omega
   have a:n / 9223372036854775808 % 18446744073709551616=((18446744073709551615:Nat):Int):=by omega
   rw[b,a,u64_xor_nat _ _ (by omega) (by omega),aWe _ (by omega)];omega
 . rw[if_neg h];have b:n % 18446744073709551616*2 % 18446744073709551616=((2*n).toNat:Int):=by omega
   have a:n / 9223372036854775808 % 18446744073709551616=((0:Nat):Int):=by omega
   rw[b,a,u64_xor_nat _ _ (by omega) (by omega),Nat.xor_zero]
theorem aU6 (F:Fence) (n:Nat) (hf:F.fn 218) (hro:F.round=none) (z:Nat) (w:World) :
 CallsIn F n prog 218 #[.int .u64 z] w fun e w'=>e= .returned (.func (.func 246) #[] #[.pointer (some (w,0))])/\w'=w.alloc (.cells #[.int .u64 z] 290):=by
 refine callsIn_of_wp func218 rfl hf ?_ hro;simp only[ntmps218,List.size_toArray,List.length_cons,List.length_nil,Nat.reduceAdd,Nat.reduceSub,Array.replicate_succ,Array.replicate_zero,List.push_toArray,List.append_toArray,List.nil_append,List.cons_append]
 gi_wp2
 go_ret;exact⟨rfl,rfl⟩
theorem Tryz.infoU8:(prog.info? 5).map (fun i=>(i.zero,i.size,i.bytes))=some (some (.int .u8 0),1,1):=by kernel_rfl
structure PutJ (w:World) (rec:Loop) (ob D L:Nat) (pre:List (Nat×Bool)) (W:World):Prop where
 rl:W.heap[L]? =some (.loop rec)
 rk:W.heap[D]? =some (.deferred (some []))
 box:∃v,Boxed W ob 224 v/\W.ownsRow w.heap.size 5 1 v pre.length (bv (pre.map encB))
 below:Below w w W
theorem PutJ.set {w:World} {rec:Loop} {ob D L zb:Nat} {pre:List (Nat×Bool)} {W:World} {v v':Value} (h:PutJ w rec ob D L pre W) (hb:Boxed W zb 290 v) (hz:w.heap.size<=zb) (hzo:ob≠zb) :
 PutJ w rec ob D L pre (W.setCell (zb,0) v'):=by
 have b:=KeepsOthers.setCell W ⟨zb,0,none⟩ v';obtain⟨u,c,a⟩:=h.box;exact⟨b.same _ _ h.rl rfl,b.same _ _ h.rk rfl,⟨u,c.other hzo v',a.kept (grownBy_setCell' W zb v') (.inr (hb.not_row (by decide) a).symm)⟩,h.below.setCell hz v'⟩
theorem PutJ.close {w:World} {r0 r1:Loop} {ob D L:Nat} {pre:List (Nat×Bool)} {x:Nat×Bool} {W2 W3:World} {v':Value}
 (hl2:W2.heap[L]? =some (.loop r0)) (hk2:W2.heap[D]? =some (.deferred (some []))) (hk3:KeepsOthers W2 W3) (hv2:Boxed W3 ob 224 v')
 (hr3:W3.ownsRow w.heap.size 5 1 v' (pre.length+1) (bv (pre.map encB)++[.int .u8 ((encB x).toNat:Int)]))
 (hb:Below w w W3) (h1:D≠L) (h2:ob≠L) (h3:w.heap.size<=L):PutJ w r1 ob D L (pre++[x]) (W3.putObj L (.loop r1)):=by
  have a:=hk3.same _ _ hl2 rfl;refine⟨World.putObj_heap_same (aAc a),(aA h1).trans (hk3.same _ _ hk2 rfl),⟨v',hv2.kept (grownBy_putObj' _ _ _) (fun e=>h2 (by cases e;rfl)),?_⟩,aAm hb _ h3 hb.size⟩;have:=ownsRow_putObj hr3 (.loop r1) a rfl
  simpa[bv]using this
theorem aNt (n:Int) (h1: -4611686018427387903<=n) (h2:n<=4611686018427387903) (w:World) :
 Calls prog 164 #[n] w fun e w'=>e= .returned (.tuple #[.string ⟨(aPo n).toArray⟩,()])/\Below w w w':=by
 have G:=bCg n h1 h2;have hz:=bDt n h1 h2;obtain⟨z,E⟩:=ex_ (zz n);rw[<-E]at G hz;have HP:=hid (show aPo n=(grp 9 z).map encB by rw[E];rfl);clear E;have HX:=hid G;clear G;refine(callsIn_wide (n:=3)).1 ?_;refine callsIn_of_wp_marks func164 rfl trivial ?_ rfl;simp only[ntmps164,List.size_toArray,List.length_cons,List.length_nil,Nat.reduceAdd,Nat.reduceSub,Array.replicate_succ,Array.replicate_zero,List.push_toArray,List.append_toArray,List.nil_append,List.cons_append]
 gi_wp2
 rw[HX.out];refine⟨trivial,?_⟩;refine(aU6 _ _ trivial rfl z _).mono ?_;rintro e w3 ⟨rfl,X⟩;have aa:decide (n< -4611686018427387903)=false:=by simp;omega
 have a9:decide (4611686018427387903<n)=false:=by simp;omega
 gi_wp2
 refine aBe rfl (by omega) (gf:=246) (lb:=#[.pointer (some (w.heap.size+1,0))]) rfl trivial (enters_of func246 (by kernel_rfl) rfl) ?_;intro fn a7 g D L W1 d S hL j;have Z:W1.heap.size=w.heap.size+4:=by rw[j];simp
 simp only[aB]at S;have B:D=w.heap.size+2:=by omega
 refine(aSt Fence.wide _ trivial rfl (by omega) L (w.heap.size+1) (PutJ w (g .ready none) w.heap.size D L) ?hset ?hY z hz W1 ?h0 ?hb).mono ?hend
 case hset=>intro C W v v' f A;exact f.set A (by omega) (by omega)
 case h0=>
  clear d;have ao:(w.alloc (.cells #[.slice none 0 0] 224)).heap.size=w.heap.size+1:=by simp
  refine⟨?_,?_,⟨.slice none 0 0,?_,World.ownsRow_nil _ _ _ _⟩,?_⟩
  . rw[j,hL,S];have:=World.alloc_heap_new (((w.alloc (.cells #[.slice none 0 0] 224)).alloc (.cells #[.int .u64 z] 290)).alloc (.deferred (some []))) (.loop (g .ready none))
    simpa only[aB]using this
  . rw[j,S];have:=World.alloc_heap_new ((w.alloc (.cells #[.slice none 0 0] 224)).alloc (.cells #[.int .u64 z] 290)) (.deferred (some []));simp only[aB]at this;exact(Below.heap_alloc _ _ _ (by simp)).trans this
  . rw[j];exact(((Boxed.new w _ _).alloc _).alloc _).alloc _
  . rw[j];exact((((Below.refl _ w).alloc (Nat.le_refl _) _).alloc (by simp) _).alloc (by simp;omega) _).alloc (by simp;omega) _
 case hb=>
  clear d;have:=Boxed.new (w.alloc (.cells #[.slice none 0 0] 224)) 290 (.int .u64 z);rw[aB]at this;rw[j];exact(this.alloc _).alloc _
 case hY=>
  intro C x W v f A ag G;obtain⟨i0,hi,V,U,T⟩:=info_parts Tryz.infoU8;obtain⟨s,p,av⟩:=aAw S hL B;clear S hL B aa a9 X j Z;have HR:=hid d;refine aCr a7 d f.rl rfl ?_;clear d;simp only[aRk,List.zip_toArray,List.zip_cons_cons,List.zip_nil_right,List.foldl_toArray',List.foldl_cons,List.foldl_nil,List.setIfInBounds_toArray,List.set]
  gi_wp2
  refine⟨f.rl,?_⟩;obtain⟨u,Y,hr⟩:=f.box;obtain⟨m,l⟩:=ex_ (W.putObj L (.loop (g .busy none)));rw[<-l];have t:m.heap[L]? =some (.loop (g .busy none)):=by rw[l];exact World.putObj_heap_same (aAc f.rl)
  have a2:m.heap[D]? =some (.deferred (some [])):=by rw[l];exact(aA (by have:=p.out;omega)).trans f.rk
  have N:W.grownBy m (some L):=by rw[l];exact grownBy_putObj' _ _ _
  have k:Boxed m w.heap.size 224 u:=Y.kept N (by have:=p.out;have:=s.out;intro e;cases e;omega);have Q:Below w w m:=by rw[l];exact aAm f.below _ (by have:=p.out;have:=s.out;omega) f.below.size
  have i:m.ownsRow w.heap.size 5 1 u C.length (bv (C.map encB)):=by rw[l];exact ownsRow_putObj hr _ f.rl rfl
  have o:Boxed m (w.heap.size+1) 290 v:=A.kept N (by have:=p.out;have:=s.out;intro e;cases e;omega);clear l N Y hr f A;have hv:=k.cell;have hf:=k.frozen;have a1:w.heap.size<=m.heap.size:=Q.size;have al:=k.lt;obtain⟨y,b⟩:=x;cases b
  . have ho:bits BinOp.or IntKind.u8 (y:Int) 128=(y:Int)+128:=by have:=aXg y G;omega
    have he:((y:Int)+128)=((encB (y,false)).toNat:Int):=by rw[aLx _ G];rfl
    gi_wp2_with (first
     | (gi_at_builtin;refine wpListIn_append_own _ rfl _ _ 224 rfl w.heap.size 5 i0 (.int .u8 0) 1 1 underlying224 hi V U T rfl (by decide) u _ _ rfl (i.alloc _) ⟨m.heap.size,0,none⟩ 1 1 [.int .u8 ((encB (y,false)).toNat:Int)] rfl rfl (cell_one_new _ _ _) (by simp[Value.oneCell']) (by unfold maxLen;omega) (by omega) (by simp;omega) ?_;intro v' w1 a c _;obtain⟨g',a5,rfl⟩:=ownsRow_succ a;obtain⟨q,H,K,r,O⟩:=k.appended (by decide) i a1 (Nat.le_refl _) a c;have ab:=q.cell;have a8:=q.frozen;have F:=((o.alloc (.cells #[.int .u8 ((encB (y,false)).toNat:Int)] 5)).kept c (o.not_row (by decide) i));clear k i c a hv))
    exact aA2 HR.out (r.same _ _ t rfl) ⟨rfl,PutJ.close t a2 r H K (Q.trans O) (by have:=p.out;omega) (by have:=p.out;have:=s.out;omega) (by have:=p.out;have:=s.out;omega),(F.other (by omega) _).kept (grownBy_putObj' _ _ _) (by have:=p.out;have:=s.out;intro e;cases e;omega)⟩
  . have he:(y:Int)=((encB (y,true)).toNat:Int):=by rw[aLx _ G];rfl
    gi_wp2_with (first
     | (gi_at_builtin;refine wpListIn_append_own _ rfl _ _ 224 rfl w.heap.size 5 i0 (.int .u8 0) 1 1 underlying224 hi V U T rfl (by decide) u _ _ rfl (i.alloc _) ⟨m.heap.size,0,none⟩ 1 1 [.int .u8 ((encB (y,true)).toNat:Int)] rfl rfl (cell_one_new _ _ _) (by simp[Value.oneCell']) (by unfold maxLen;omega) (by omega) (by simp;omega) ?_;intro v' w1 a c _;obtain⟨g',a5,rfl⟩:=ownsRow_succ a;obtain⟨q,H,K,r,O⟩:=k.appended (by decide) i a1 (Nat.le_refl _) a c;have ab:=q.cell;have a8:=q.frozen;have F:=((o.alloc (.cells #[.int .u8 ((encB (y,true)).toNat:Int)] 5)).kept c (o.not_row (by decide) i));clear k i c a hv))
    exact aA2 HR.out (r.same _ _ t rfl) ⟨rfl,PutJ.close t a2 r H K (Q.trans O) (by have:=p.out;omega) (by have:=p.out;have:=s.out;omega) (by have:=p.out;have:=s.out;omega),(F.other (by omega) _).kept (grownBy_putObj' _ _ _) (by have:=p.out;have:=s.out;intro e;cases e;omega)⟩
 case hend=>
  rintro e m ⟨⟨v,rfl⟩,f⟩;refine⟨⟨v,rfl⟩,.ready,none,(fun h=>by cases h),f.rl,?_⟩;clear d;obtain⟨u,Y,hr⟩:=f.box;have ap:=aAc f.rl;have J:Boxed (m.putObj L (.loop (g .exhausted none))) w.heap.size 224 u:=Y.kept (grownBy_putObj' _ _ _) (by intro e;cases e;omega);have M:=ownsRow_putObj hr (.loop (g .exhausted none)) f.rl rfl;have a3:(m.putObj L (.loop (g .exhausted none))).heap[D]? =some (.deferred (some [])):=(aA (by omega)).trans f.rk;have R:Below w w (m.putObj L (.loop (g .exhausted none))):=aAm f.below _ (by omega) f.below.size;obtain⟨W4,a4⟩:=ex_ (m.putObj L (.loop (g .exhausted none)));rw[<-a4]at J M a3 R⊢;have s:=hid B;clear a4 j S hL X f Y hr Z B;have an:=aJo (P:=prog) 224 9 5 underlying224 underlying5 underlying9 M;have hc:=J.cell;clear M J;simp only[aH6]
  gi_wp2
  refine⟨by simp,.inl ⟨_,_,rfl,run_takeDeferred a3,?_⟩⟩;refine⟨_,results_tmp2 rfl _ _ _,?_⟩;refine⟨by rw[HP.out];rfl,aAm R _ (by have:=s.out;omega) R.size⟩
end
end Go.Proofs.YtmhpfoicloojcaaGreatDoor
