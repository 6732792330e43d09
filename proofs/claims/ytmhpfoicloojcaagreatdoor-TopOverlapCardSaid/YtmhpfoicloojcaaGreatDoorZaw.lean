/- Value and key of a row. -/
import Derived.Test.YtmhpfoicloojcaaGreatDoorZav
import Derived.Test.YtmhpfoicloojcaaGreatDoorZag
import Derived.Test.YtmhpfoicloojcaaGreatDoorProg
import Derived.Shelf.Abstract
import Derived.Shelf.RegionOpen
import Derived.WalkLawsBesides
set_option linter.all false
namespace Go.Proofs.YtmhpfoicloojcaaGreatDoor
set_option maxRecDepth 100000
set_option maxHeartbeats 16000000
section
open Go.Proofs.Tryz
open Go Go.RowKit
attribute [local go_sem] Oper.semAt_some
theorem aQu (r:Rw) (c:Int) (w:World) :
 Calls prog 91 #[rwV r,c] w fun e w'=>e= .returned (.int .i64 (r.val c))/\w'=w.alloc (.cells (rwC r).toArray 116):=by
 obtain⟨t,k,i,h,g⟩:=r;unfold rwV rwC;dsimp only;by_cases f:c=0
 . subst f;go_enter func91,ntmps91
   go_wp2_with fail
   go_ret;exact⟨rfl,rfl⟩
 by_cases d:c=1
 . subst d;go_enter func91,ntmps91
   go_wp2_with fail
   go_ret;exact⟨rfl,rfl⟩
 by_cases b:c=2
 . subst b;go_enter func91,ntmps91
   go_wp2_with fail
   go_ret;exact⟨rfl,rfl⟩
 by_cases a:c=3
 . subst a;go_enter func91,ntmps91
   go_wp2_with fail
   go_ret;exact⟨rfl,rfl⟩
 . have e:Rw.val ⟨t,k,i,h,g⟩ c=0:=by simp[Rw.val,f,d,b,a]
   have n:(c== 0)=false:=by simpa using f
   have m:(c== 1)=false:=by simpa using d
   have l:(c== 2)=false:=by simpa using b
   have j:(c== 3)=false:=by simpa using a
   rw[e];clear e;go_enter func91,ntmps91
   go_wp2_with fail
   go_ret;exact⟨rfl,rfl⟩
theorem aB5 (r:Rw) (c:Int) (w:World) :
 Calls prog 91 #[rwV r,c] w fun e w'=>e= .returned (.int .i64 (r.val c))/\Below w w w':=by
 refine(aQu r c w).mono ?_;rintro e w' ⟨rfl,rfl⟩;exact⟨rfl,Below.alloc (Below.refl _ _) (Nat.le_refl _) _⟩
end
section
open Go.Proofs.Tryz
open Go Go.RowKit
open Go.Maps (Keyed)
attribute [local go_sem] Oper.semAt_some
theorem aMu:laidOutB prog=true:=by kernel_rfl
theorem bD9:(207:TypeId)<prog.types.size:=of_decide_eq_true (by kernel_rfl)
theorem bC2:prog.keyTypeAt 3 207=true:=by kernel_rfl
theorem bEa:Keyed prog 207:=Keyed.of_law (Go.deep_law_laid aMu (m:=3) (by omega) bD9 bC2 (by rw[underlying207]))
theorem aZ0:prog.keyType 207=true:=by kernel_rfl
theorem aU0:prog.cellsOf 207=2:=by kernel_rfl
theorem aX9:prog.cellsOf 3=1:=by kernel_rfl
theorem aZr:∃n,prog.types.size=n+1:=⟨prog.types.size-1,by kernel_rfl⟩
theorem aRd {n:Int}:(Lit.int .i64 n).wf=true↔In64 n:=by
 have b:IntKind.i64.min= -9223372036854775808:=by rfl
 have a:IntKind.i64.max=9223372036854775807:=by rfl
 unfold In64;simp[Lit.wf,b,a]
theorem aI9 {d:Nat} (v:Value) (l:List Lit):prog.keyLits (d+1) 3 [v]=some l↔∃n,In64 n/\v= .int .i64 n/\l=[.int .i64 n]:=by
 unfold Program.keyLits;rw[underlying3]
 constructor
 . intro h;split at h
   case h_2 q q' n h1 h2=>
    obtain rfl:IntKind.i64=q:=by simpa using h1
    obtain rfl:v= .int q' n:=by simpa using h2
    split at h
    . rename_i b
      obtain⟨rfl,a⟩:=b;exact⟨n,aRd.1 a,rfl,(Option.some.inj h).symm⟩
    . cases h
   all_goals simp_all
 . rintro⟨n,h,rfl,rfl⟩;simp[aRd.2 h]
theorem aUz (d:Nat) (cs:List Value):prog.keyLits (d+1) 207 cs =
 if cs.length=2 then((prog.keyLits d 3 (cs.take 1)).bind fun a=>(prog.keyLits d 3 ((cs.drop 1).take 1)).map fun b=>a++b)else none:=by
 obtain⟨F,c⟩:=ex_ (prog.keyLits d);rw[<-c];unfold Program.keyLits;rw[underlying207,aU0,<-c];dsimp only;clear c
 match cs with
 | []=>simp
 | [a]=>simp
 | a :: b :: e :: cs=>simp
 | [a,b]=>
   simp[aX9];cases F 3 [a]with
   | none=>rfl
   | some x=>
     cases F 3 [b]with
     | none=>rfl
     | some y=>exact congrArg some (by show x++(y++[])=x++y;rw[List.append_nil])
theorem aSs:IdKey prog 207 where
 law:=bEa
 ofId t k ht hk:=by
  obtain⟨n,g⟩:=aZr;unfold keyOf;rw[underlying207];dsimp only;rw[aZ0]
  have c:(idV t k).formed prog 207=true:=by
   unfold idV Value.formed;rw[underlying207,aU0];rfl
  rw[c];have e:(idV t k).cells.toList=[.int .i64 t,.int .i64 k]:=rfl;rw[if_pos (by decide),e,aUz,g];have r:=(aI9 (d:=n) (.int .i64 t) _).2 ⟨t,ht,rfl,rfl⟩;have q:=(aI9 (d:=n) (.int .i64 k) _).2 ⟨k,hk,rfl,rfl⟩;simp only[List.length_cons,List.length_nil,List.take_succ_cons,List.take_zero,List.drop_succ_cons,List.drop_zero,r,q];rfl
 inv v l h:=by
  obtain⟨n,g⟩:=aZr;unfold keyOf at h;rw[underlying207]at h;dsimp only at h;split at h
  case isFalse=>cases h
  rename_i c
  rw[aZ0,Bool.true_and]at c;rw[aUz,g]at h;split at h
  case isFalse=>cases h
  rename_i i
  obtain⟨x,y,f⟩:∃x y,v.cells.toList=[x,y]:=by
   match v.cells.toList,i with
   | [x,y],_=>exact⟨x,y,rfl⟩
  rw[f]at h;simp only[List.take_succ_cons,List.take_zero,List.drop_succ_cons,List.drop_zero]at h;rw[Option.map_eq_some_iff]at h;obtain⟨s,h,rfl⟩:=h;rw[Option.bind_eq_some_iff]at h;obtain⟨z,p,h⟩:=h;rw[Option.map_eq_some_iff]at h;obtain⟨u,o,rfl⟩:=h;obtain⟨a,m,rfl,rfl⟩:=(aI9 _ _).1 p;obtain⟨b,j,rfl,rfl⟩:=(aI9 _ _).1 o;refine⟨a,b,m,j,?_⟩;unfold Value.formed at c;rw[underlying207]at c;cases v <;> simp at c
  rename_i A
  unfold idV
  congr 1
  exact Array.ext' f
end
end Go.Proofs.YtmhpfoicloojcaaGreatDoor
