/- wire.groups. -/
import Derived.Test.YtmhpfoicloojcaaGreatDoorZac
import Derived.Test.YtmhpfoicloojcaaGreatDoorZaq
import Derived.Test.YtmhpfoicloojcaaGreatDoorProg
import Derived.Shelf.Abstract
import Derived.Shelf.RegionOpen
import Derived.WalkSpells
import Derived.Lib.Hide
import Derived.WalkLawsBesides
import Derived.Test.YtmhpfoicloojcaaGreatDoorZai
set_option linter.all false
namespace Go.Proofs.YtmhpfoicloojcaaGreatDoor
set_option maxRecDepth 100000
set_option maxHeartbeats 16000000
section
open Go.Proofs.Tryz
open Go Go.RowKit Go.Shelf
attribute [local go_sem] Oper.semAt_some
def aRk (x:Nat×Bool):Array Value:=#[.int .u8 x.1,.bool x.2]
def aVs (w:World) (a:Addr):Nat:=match w.cell? a with|some (.int _ q)=>q.toNat|_=>0
theorem aSt (F:Fence) (n:Nat) (hf:F.fn 246) (hro:F.round=none) (hn:1<=n) (l zb:Nat) (J:List (Nat×Bool)->World->Prop)
 (hset:∀pre W v v',J pre W->Boxed W zb 290 v->J pre (W.setCell (zb,0) v'))
 (hY:∀pre x W v,J pre W->Boxed W zb 290 v->pre.length<9->x.1<128->YieldAt F (n-1) prog l (aRk x) W fun e W'=>e= .returned (.bool true)/\J (pre++[x]) W'/\Boxed W' zb 290 v)
 (z:Nat) (hz:z<2 ^ 63) (W:World) (h0:J [] W) (hb:Boxed W zb 290 (.int .u64 z)) :
 CallsIn F n prog 246 #[.func (.yield l) #[] #[],.pointer (some (zb,0))] W fun e W'=>(∃v,e= .returned v)/\J (grp 9 z) W':=by
 refine callsIn_of_wp func246 rfl hf ?_ hro;simp only[ntmps246,List.size_toArray,List.length_cons,List.length_nil,Nat.reduceAdd,Nat.reduceSub,Array.replicate_succ,Array.replicate_zero,List.push_toArray,List.append_toArray,List.nil_append,List.cons_append]
 gi_wp2
 gi_loopw [3] (fun _ wr=>∃(pre:List (Nat×Bool)) (f y:Nat),grp 9 z=pre++grp f y/\pre.length+f=9/\y<2 ^(7*f)/\y<2 ^ 63/\1<=f/\Boxed wr zb 290 (.int .u64 y)/\J pre wr)
   (fun _ wr=>aVs wr ⟨zb,0,none⟩)
 case atStart=>exact⟨[],9,z,rfl,rfl,by omega,hz,by omega,hb,h0⟩
 case round=>
  obtain⟨pre,f,y,s,b,j,B,G,k,D⟩:=hrel;have K:=k.cell;by_cases r:y<128
  . obtain⟨fn,p,g,q,d,A⟩:=hY pre (y,true) wr _ D k (by omega) r;dsimp only[aRk]at d;have H:decide ((y:Int)<128)=true:=by simp;omega
    have L:bits BinOp.and IntKind.u64 (y:Int) 127=(y:Int):=by rw[aL2 y (by omega),Nat.mod_eq_of_lt r]
    have E:=hid b;clear j b
    gi_wp2
    refine A.mono ?_;rintro e W' ⟨rfl,m,a⟩
    gi_wp2
    refine bodyPost_ret (results_none rfl _ _ _) rfl ?_;refine⟨⟨_,rfl⟩,?_⟩;rw[s,show f=(f-1)+1 by omega,grp,if_pos r];exact m
  . obtain⟨fn,p,g,q,d,A⟩:=hY pre (y % 128,false) wr _ D k (by omega) (Nat.mod_lt _ (by omega));dsimp only[aRk]at d;have H:decide ((y:Int)<128)=false:=by simp;omega
    have c:((y % 128:Nat):Int)=(y:Int) % 128:=by omega
    have L:bits BinOp.and IntKind.u64 (y:Int) 127=(y:Int) % 128:=by rw[aL2 y (by omega),c]
    rw[c]at d;clear c;have N:Hid (y<2 ^(7*f)):=j;have M:=hid s;have E:=hid b;clear j s b
    gi_wp2
    refine A.mono ?_;rintro e W' ⟨rfl,m,a⟩;have u:=a.cell;have C:=a.frozen
    gi_wp2
    obtain⟨o,rfl⟩:∃o,f=o+1:=⟨f-1,by omega⟩;have b:=E.out;have i:y<2 ^(7*o+7):=by have:=N.out;rwa [Nat.mul_succ]at this
    rw[Nat.pow_add]at i
    have t:1<=o:=by
     rcases Nat.eq_zero_or_pos o with h|h
     . subst h;simp at i;omega
     . exact h
    refine⟨⟨pre++[(y % 128,false)],o,y / 128,?_,by simp;omega,Nat.div_lt_of_lt_mul (by omega),by omega,t,?_,hset _ _ _ _ m a⟩,?_⟩
    . rw[M.out,grp,if_neg r,List.append_assoc];rfl
    . have:=a.set (Value.int IntKind.u64 ((y:Int) / 128))
      rwa [show((y:Int) / 128)=((y / 128:Nat):Int) by omega]at this⊢
    . unfold aVs;rw[K,World.cell?_setCell_same' _ _ _ (by rw[u];rfl)];simp only[];omega
end
end Go.Proofs.YtmhpfoicloojcaaGreatDoor
