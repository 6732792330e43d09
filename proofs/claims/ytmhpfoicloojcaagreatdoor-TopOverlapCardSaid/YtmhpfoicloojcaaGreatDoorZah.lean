/- Words of the digest's block. -/
import Derived.Test.YtmhpfoicloojcaaGreatDoorZag
import Derived.Laws.DeepNot64
import Derived.Test.YtmhpfoicloojcaaGreatDoorProg
import Derived.WalkLawsBesides
set_option linter.all false
open Go.IntKind renaming u64→aA,u32→aB
open Go renaming World→aC,Calls→aD
namespace Go.Proofs.YtmhpfoicloojcaaGreatDoor
set_option maxRecDepth 100000
set_option maxHeartbeats 16000000
section
open Go.Proofs.Tryz
open Go Go.RowKit
theorem aCw (x n p q:Nat) (hx:x<4294967296) (hp:p=2 ^(32-n)) (hq:q=2 ^ n) :
 bits BinOp.or aB ((x:Int)*p % 4294967296) ((x:Int) / q)=((aC6 x n:Nat):Int):=by
 have b:(x:Int)*p % 4294967296=((x*p % 4294967296:Nat):Int):=by rw[Int.natCast_emod,Int.natCast_mul];rfl
 have a:(x:Int) / q=((x / q:Nat):Int):=by rw[Int.natCast_ediv]
 rw[b,a,u32_or_nat _ _ (Nat.mod_lt _ (by omega)) (Nat.lt_of_le_of_lt (Nat.div_le_self _ _) hx),Nat.or_comm,hp,hq];rfl
theorem aBr (x n:Nat) (hx:x<4294967296):aC6 x n<4294967296:=
 Nat.or_lt_two_pow (n:=32) (Nat.lt_of_le_of_lt (Nat.div_le_self _ _) hx) (Nat.mod_lt _ (by omega))
theorem aG6 {a b:Nat} (ha:a<4294967296) (hb:b<4294967296):a ^^^ b<4294967296:=Nat.xor_lt_two_pow (n:=32) ha hb
theorem bFd (x:Nat) (w:aC) (hx:x<4294967296) :
 aD prog 307 #[.int .u32 (x:Int),.int .i64 (-2)] w fun e w'=>e= .returned (.int .u32 (aC6 x 2:Nat))/\w=w':=by
 have a:bits BinOp.and aA (aA.wrap (-2)) 31=30:=by decide +kernel
 go_enter func307,ntmps307
 go_wp2_with fail
 go_ret;exact⟨aC1 (aCw x 2 1073741824 4 hx rfl rfl),rfl⟩
theorem bFc (x:Nat) (w:aC) (hx:x<4294967296) :
 aD prog 307 #[.int .u32 (x:Int),.int .i64 (-6)] w fun e w'=>e= .returned (.int .u32 (aC6 x 6:Nat))/\w=w':=by
 have a:bits BinOp.and aA (aA.wrap (-6)) 31=26:=by decide +kernel
 go_enter func307,ntmps307
 go_wp2_with fail
 go_ret;exact⟨aC1 (aCw x 6 67108864 64 hx rfl rfl),rfl⟩
theorem bFb (x:Nat) (w:aC) (hx:x<4294967296) :
 aD prog 307 #[.int .u32 (x:Int),.int .i64 (-7)] w fun e w'=>e= .returned (.int .u32 (aC6 x 7:Nat))/\w=w':=by
 have a:bits BinOp.and aA (aA.wrap (-7)) 31=25:=by decide +kernel
 go_enter func307,ntmps307
 go_wp2_with fail
 go_ret;exact⟨aC1 (aCw x 7 33554432 128 hx rfl rfl),rfl⟩
theorem bE1 (x:Nat) (w:aC) (hx:x<4294967296) :
 aD prog 307 #[.int .u32 (x:Int),.int .i64 (-11)] w fun e w'=>e= .returned (.int .u32 (aC6 x 11:Nat))/\w=w':=by
 have a:bits BinOp.and aA (aA.wrap (-11)) 31=21:=by decide +kernel
 go_enter func307,ntmps307
 go_wp2_with fail
 go_ret;exact⟨aC1 (aCw x 11 2097152 2048 hx rfl rfl),rfl⟩
theorem bE0 (x:Nat) (w:aC) (hx:x<4294967296) :
 aD prog 307 #[.int .u32 (x:Int),.int .i64 (-13)] w fun e w'=>e= .returned (.int .u32 (aC6 x 13:Nat))/\w=w':=by
 have a:bits BinOp.and aA (aA.wrap (-13)) 31=19:=by decide +kernel
 go_enter func307,ntmps307
 go_wp2_with fail
 go_ret;exact⟨aC1 (aCw x 13 524288 8192 hx rfl rfl),rfl⟩
theorem bEz (x:Nat) (w:aC) (hx:x<4294967296) :
 aD prog 307 #[.int .u32 (x:Int),.int .i64 (-17)] w fun e w'=>e= .returned (.int .u32 (aC6 x 17:Nat))/\w=w':=by
 have a:bits BinOp.and aA (aA.wrap (-17)) 31=15:=by decide +kernel
 go_enter func307,ntmps307
 go_wp2_with fail
 go_ret;exact⟨aC1 (aCw x 17 32768 131072 hx rfl rfl),rfl⟩
theorem bEy (x:Nat) (w:aC) (hx:x<4294967296) :
 aD prog 307 #[.int .u32 (x:Int),.int .i64 (-18)] w fun e w'=>e= .returned (.int .u32 (aC6 x 18:Nat))/\w=w':=by
 have a:bits BinOp.and aA (aA.wrap (-18)) 31=14:=by decide +kernel
 go_enter func307,ntmps307
 go_wp2_with fail
 go_ret;exact⟨aC1 (aCw x 18 16384 262144 hx rfl rfl),rfl⟩
theorem bEx (x:Nat) (w:aC) (hx:x<4294967296) :
 aD prog 307 #[.int .u32 (x:Int),.int .i64 (-19)] w fun e w'=>e= .returned (.int .u32 (aC6 x 19:Nat))/\w=w':=by
 have a:bits BinOp.and aA (aA.wrap (-19)) 31=13:=by decide +kernel
 go_enter func307,ntmps307
 go_wp2_with fail
 go_ret;exact⟨aC1 (aCw x 19 8192 524288 hx rfl rfl),rfl⟩
theorem bEw (x:Nat) (w:aC) (hx:x<4294967296) :
 aD prog 307 #[.int .u32 (x:Int),.int .i64 (-22)] w fun e w'=>e= .returned (.int .u32 (aC6 x 22:Nat))/\w=w':=by
 have a:bits BinOp.and aA (aA.wrap (-22)) 31=10:=by decide +kernel
 go_enter func307,ntmps307
 go_wp2_with fail
 go_ret;exact⟨aC1 (aCw x 22 1024 4194304 hx rfl rfl),rfl⟩
theorem bEv (x:Nat) (w:aC) (hx:x<4294967296) :
 aD prog 307 #[.int .u32 (x:Int),.int .i64 (-25)] w fun e w'=>e= .returned (.int .u32 (aC6 x 25:Nat))/\w=w':=by
 have a:bits BinOp.and aA (aA.wrap (-25)) 31=7:=by decide +kernel
 go_enter func307,ntmps307
 go_wp2_with fail
 go_ret;exact⟨aC1 (aCw x 25 128 33554432 hx rfl rfl),rfl⟩
theorem aXm (x:Nat) (g:Nat) (w:aC) (hx:x<4294967296) (h0:w.cell? (g,0)=some (.int .i64 7)) (h1:w.cell? (g,1)=some (.int .i64 18)) :
 aD prog 289 #[.int .u32 (x:Int),.slice (some (g,0)) 2 2] w fun e w'=>e= .returned (.int .u32 ((aC6 x 7 ^^^ aC6 x 18:Nat):Int))/\w=w':=by
 have f:bits BinOp.and aA (aA.wrap (-7)) 31=25:=by decide +kernel
 have c:bits BinOp.and aA (aA.wrap (-18)) 31=14:=by decide +kernel
 go_enter func289,ntmps289
 go_wp2_with fail
 go_rounds 3
 go_ret;refine⟨aC1 ?_,rfl⟩;have b:=u32_xor_nat 0 (aC6 x 7) (by omega) (aBr _ _ hx);rw[Nat.zero_xor]at b;have d:bits BinOp.or aB ((x:Int)*33554432 % 4294967296) ((x:Int) / 128)=((aC6 x 7:Nat):Int):=aCw x 7 33554432 128 hx rfl rfl;have a:bits BinOp.or aB ((x:Int)*16384 % 4294967296) ((x:Int) / 262144)=((aC6 x 18:Nat):Int):=aCw x 18 16384 262144 hx rfl rfl;rw[d,a];rw[show(0:Int)=((0:Nat):Int)from rfl,b,u32_xor_nat _ _ (aBr _ _ hx) (aBr _ _ hx)]
theorem aXl (x:Nat) (g:Nat) (w:aC) (hx:x<4294967296) (h0:w.cell? (g,0)=some (.int .i64 17)) (h1:w.cell? (g,1)=some (.int .i64 19)) :
 aD prog 289 #[.int .u32 (x:Int),.slice (some (g,0)) 2 2] w fun e w'=>e= .returned (.int .u32 ((aC6 x 17 ^^^ aC6 x 19:Nat):Int))/\w=w':=by
 have f:bits BinOp.and aA (aA.wrap (-17)) 31=15:=by decide +kernel
 have d:bits BinOp.and aA (aA.wrap (-19)) 31=13:=by decide +kernel
 go_enter func289,ntmps289
 go_wp2_with fail
 go_rounds 3
 go_ret;refine⟨aC1 ?_,rfl⟩;have c:=u32_xor_nat 0 (aC6 x 17) (by omega) (aBr _ _ hx);rw[Nat.zero_xor]at c;have b:bits BinOp.or aB ((x:Int)*32768 % 4294967296) ((x:Int) / 131072)=((aC6 x 17:Nat):Int):=aCw x 17 32768 131072 hx rfl rfl;have a:bits BinOp.or aB ((x:Int)*8192 % 4294967296) ((x:Int) / 524288)=((aC6 x 19:Nat):Int):=aCw x 19 8192 524288 hx rfl rfl;rw[b,a];rw[show(0:Int)=((0:Nat):Int)from rfl,c,u32_xor_nat _ _ (aBr _ _ hx) (aBr _ _ hx)]
theorem aXo (x:Nat) (g:Nat) (w:aC) (hx:x<4294967296) (h0:w.cell? (g,0)=some (.int .i64 2)) (h1:w.cell? (g,1)=some (.int .i64 13)) (h2:w.cell? (g,2)=some (.int .i64 22)) :
 aD prog 289 #[.int .u32 (x:Int),.slice (some (g,0)) 3 3] w fun e w'=>e= .returned (.int .u32 ((aC6 x 2 ^^^ aC6 x 13 ^^^ aC6 x 22:Nat):Int))/\w=w':=by
 have i:bits BinOp.and aA (aA.wrap (-2)) 31=30:=by decide +kernel
 have f:bits BinOp.and aA (aA.wrap (-13)) 31=19:=by decide +kernel
 have d:bits BinOp.and aA (aA.wrap (-22)) 31=10:=by decide +kernel
 go_enter func289,ntmps289
 go_wp2_with fail
 go_rounds 4
 go_ret;refine⟨aC1 ?_,rfl⟩;have c:=u32_xor_nat 0 (aC6 x 2) (by omega) (aBr _ _ hx);rw[Nat.zero_xor]at c;have h:bits BinOp.or aB ((x:Int)*1073741824 % 4294967296) ((x:Int) / 4)=((aC6 x 2:Nat):Int):=aCw x 2 1073741824 4 hx rfl rfl;have b:bits BinOp.or aB ((x:Int)*524288 % 4294967296) ((x:Int) / 8192)=((aC6 x 13:Nat):Int):=aCw x 13 524288 8192 hx rfl rfl;have a:bits BinOp.or aB ((x:Int)*1024 % 4294967296) ((x:Int) / 4194304)=((aC6 x 22:Nat):Int):=aCw x 22 1024 4194304 hx rfl rfl;rw[h,b,a];rw[show(0:Int)=((0:Nat):Int)from rfl,c,u32_xor_nat _ _ (aBr _ _ hx) (aBr _ _ hx),u32_xor_nat _ _ (aG6 (aBr _ _ hx) (aBr _ _ hx)) (aBr _ _ hx)]
theorem aXn (x:Nat) (g:Nat) (w:aC) (hx:x<4294967296) (h0:w.cell? (g,0)=some (.int .i64 6)) (h1:w.cell? (g,1)=some (.int .i64 11)) (h2:w.cell? (g,2)=some (.int .i64 25)) :
 aD prog 289 #[.int .u32 (x:Int),.slice (some (g,0)) 3 3] w fun e w'=>e= .returned (.int .u32 ((aC6 x 6 ^^^ aC6 x 11 ^^^ aC6 x 25:Nat):Int))/\w=w':=by
 have i:bits BinOp.and aA (aA.wrap (-6)) 31=26:=by decide +kernel
 have f:bits BinOp.and aA (aA.wrap (-11)) 31=21:=by decide +kernel
 have d:bits BinOp.and aA (aA.wrap (-25)) 31=7:=by decide +kernel
 go_enter func289,ntmps289
 go_wp2_with fail
 go_rounds 4
 go_ret;refine⟨aC1 ?_,rfl⟩;have c:=u32_xor_nat 0 (aC6 x 6) (by omega) (aBr _ _ hx);rw[Nat.zero_xor]at c;have h:bits BinOp.or aB ((x:Int)*67108864 % 4294967296) ((x:Int) / 64)=((aC6 x 6:Nat):Int):=aCw x 6 67108864 64 hx rfl rfl;have b:bits BinOp.or aB ((x:Int)*2097152 % 4294967296) ((x:Int) / 2048)=((aC6 x 11:Nat):Int):=aCw x 11 2097152 2048 hx rfl rfl;have a:bits BinOp.or aB ((x:Int)*128 % 4294967296) ((x:Int) / 33554432)=((aC6 x 25:Nat):Int):=aCw x 25 128 33554432 hx rfl rfl;rw[h,b,a];rw[show(0:Int)=((0:Nat):Int)from rfl,c,u32_xor_nat _ _ (aBr _ _ hx) (aBr _ _ hx),u32_xor_nat _ _ (aG6 (aBr _ _ hx) (aBr _ _ hx)) (aBr _ _ hx)]
end
end Go.Proofs.YtmhpfoicloojcaaGreatDoor
