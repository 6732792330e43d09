/- The row's closed facts. -/
import Derived.Test.YtmhpfoicloojcaaGreatDoorZbh
import Derived.Stop.LaidErr
import Derived.Deep.DeepWitnessRowRef
import Derived.Lib.LaidIn
set_option linter.all false
open Go.Value renaming okWide→aA
open Go renaming Value→aB
namespace Go.Proofs.YtmhpfoicloojcaaGreatDoor
set_option maxRecDepth 100000
set_option maxHeartbeats 16000000
section
open Go.Proofs.Tryz
open Go Go.ChangeShapes Go.WideShapes Go.ChangeAt Go.RowKit Go.Deep
variable {b0:Nat} {t e:TypeId} {v:aB}
section
variable {H:Type} {enc:TypeId×aB->H} {P:Program} {w:World} {base:Nat} {sp:Nat->Bool} {held:Bool}
theorem aN7 {n:Nat} {r:Reach} {d:DataW H} {ps:List MemPlace} (ht:P.underlying t=some (.array n e)) (he:P.underlying e=some (.int .i64)) (hC:P.cellsOf t=n) (hc1:P.cellsOf e=1)
 (hv:aA P w r b0 t v) (h:DataW.Trod enc P w base sp held t v d ps):∃l:List aB,l.length=n/\v= .agg ⟨l⟩/\∀k,k<n->∃z:Int,l[k]? =some (.int .i64 z)/\ -9223372036854775808<=z/\z<=9223372036854775807:=by
  simp only[aA,ht]at hv;obtain⟨s,rfl,b,_⟩:=hv;rw[hC]at b;obtain⟨l⟩:=s;have j:l.length=n:=by simpa using b
  obtain⟨c,q⟩:=h;obtain⟨u,m,_,_,_,i,p⟩:=DataW.trod_array ht q;refine⟨l,j,rfl,fun k o=>?_⟩;have a:=p k o;simp only[Value.cells]at a;rw[hc1,Nat.mul_one,List.getElem?_eq_getElem (by omega),List.drop_eq_getElem_cons (by omega)]at a;obtain⟨z,f,_,g⟩:=DataW.trod_int he a;simp only[List.take_succ_cons,List.take_zero,List.cons.injEq,and_true]at f;exact⟨z,by rw[List.getElem?_eq_getElem (by omega),f],bounds_i64 g⟩
theorem aUb {r:Reach} {d:DataW H} {ps:List MemPlace} (ht:P.underlying t=some (.array 5 e)) (he:P.underlying e=some (.int .i64)) (hC:P.cellsOf t=5) (hc1:P.cellsOf e=1)
 (hv:aA P w r b0 t v) (h:DataW.Trod enc P w base sp held t v d ps):∃a b c d f:Int,v= .agg #[a,b,c,d,f]/\(-9223372036854775808<=a/\a<=9223372036854775807)/\(-9223372036854775808<=b/\b<=9223372036854775807)/\(-9223372036854775808<=c/\c<=9223372036854775807)/\(-9223372036854775808<=d/\d<=9223372036854775807)/\(-9223372036854775808<=f/\f<=9223372036854775807):=by
  obtain⟨l,i,rfl,g⟩:=aN7 ht he hC hc1 hv h
  match l,i with
  | [c0,c1,c2,c3,c4],_=>
    obtain⟨B,o,b0⟩:=g 0 (by omega);obtain⟨A,n,u⟩:=g 1 (by omega);obtain⟨z,m,s⟩:=g 2 (by omega);obtain⟨y,k,q⟩:=g 3 (by omega);obtain⟨x,j,p⟩:=g 4 (by omega);cases o;cases n;cases m;cases k;cases j
    exact⟨_,_,_,_,_,rfl,b0,u,s,q,p⟩
theorem aUa {r:Reach} {d:DataW H} {ps:List MemPlace} (ht:P.underlying t=some (.array 4 e)) (he:P.underlying e=some (.int .i64)) (hC:P.cellsOf t=4) (hc1:P.cellsOf e=1)
 (hv:aA P w r b0 t v) (h:DataW.Trod enc P w base sp held t v d ps):∃a b c d:Int,v= .agg #[a,b,c,d]/\(-9223372036854775808<=a/\a<=9223372036854775807)/\(-9223372036854775808<=b/\b<=9223372036854775807)/\(-9223372036854775808<=c/\c<=9223372036854775807)/\(-9223372036854775808<=d/\d<=9223372036854775807):=by
  obtain⟨l,g,rfl,f⟩:=aN7 ht he hC hc1 hv h
  match l,g with
  | [c0,c1,c2,c3],_=>
    obtain⟨x,m,b0⟩:=f 0 (by omega);obtain⟨u,k,p⟩:=f 1 (by omega);obtain⟨s,j,o⟩:=f 2 (by omega);obtain⟨q,i,n⟩:=f 3 (by omega);cases m;cases k;cases j;cases i
    exact⟨_,_,_,_,rfl,b0,p,o,n⟩
end
def bBy:Array aB:=(([0,1,28,2,29,14,24,3,30,22,20,15,25,17,4,8,31,27,13,23,21,19,16,7,26,12,18,6,11,5,10,9]:List Int).map (Value.int .u8)).toArray
def bBx:Array aB:=(([0,1,56,2,57,49,28,3,61,58,42,50,38,29,17,4,62,47,59,36,45,43,51,22,53,39,33,30,24,18,12,5,63,55,48,27,60,41,37,16,46,35,44,21,52,32,23,11,54,26,40,15,34,20,31,10,25,14,19,9,13,8,7,6]:List Int).map (Value.int .u8)).toArray
def bBz:Array aB:=(([1,10,100,1000,10000,100000,1000000,10000000,100000000,1000000000,10000000000,100000000000,1000000000000,10000000000000,100000000000000,1000000000000000,10000000000000000,100000000000000000,1000000000000000000,10000000000000000000]:List Int).map (Value.int .u64)).toArray
noncomputable def bE3:Nat:=(World.holding prog default ⟨#[],#[],[]⟩).heap.size
noncomputable def aHh (os:Os):World:=
 let w0:=World.holding prog os ⟨#[.cells #[.string ⟨#[109,105,115,102,105,116]⟩] 455],#[],[]⟩
 let put (h:Array Obj) (g:Nat) (cs:Array aB):Array Obj:=h.modify g fun
   | .cells _ t frozen=> .cells cs t frozen
   | o=>o
 let h1:=put w0.heap 0 #[.iface 432 (.pointer (some (bE3,0)))]
 let h2:=put h1 1 aWh
 let h3:=put h2 2 bBz
 let h4:=put h3 3 bBy
 {w0 with heap:=put h4 4 bBx}
theorem bCw (os : Os) (args : Array aB) : LaidIn prog ((aHh os).forCall (fun _ _ => 0) ⟨#[], args, []⟩).memory [("math/bits.deBruijn32tab", Rows.laid_math_bits_deBruijn32tab)] [ 3 ] :=
 LaidIn.of_run _ 8 (by kernel_rfl) (by kernel_rfl) (by kernel_rfl) (by kernel_rfl)
theorem bCv (os : Os) (args : Array aB) : LaidIn prog ((aHh os).forCall (fun _ _ => 0) ⟨#[], args, []⟩).memory [("math/bits.deBruijn64tab", Rows.laid_math_bits_deBruijn64tab)] [ 4 ] :=
 LaidIn.of_run _ 8 (by kernel_rfl) (by kernel_rfl) (by kernel_rfl) (by kernel_rfl)
theorem bCu (os : Os) (args : Array aB) : LaidIn prog ((aHh os).forCall (fun _ _ => 0) ⟨#[], args, []⟩).memory [("internal/strconv.uint64pow10", Rows.laid_internal_strconv_uint64pow10)] [ 2 ] :=
 LaidIn.of_run _ 8 (by kernel_rfl) (by kernel_rfl) (by kernel_rfl) (by kernel_rfl)
theorem bCt (os : Os) (args : Array aB) : LaidIn prog ((aHh os).forCall (fun _ _ => 0) ⟨#[], args, []⟩).memory [("cachetier/digest.round", Rows.laid_cachetier_digest_round)] [ 1 ] :=
 LaidIn.of_run _ 8 (by kernel_rfl) (by kernel_rfl) (by kernel_rfl) (by kernel_rfl)
theorem bCs (os : Os) (args : Array aB) : LaidIn prog ((aHh os).forCall (fun _ _ => 0) ⟨#[], args, []⟩).memory [("cachetier/proof.errMisfit", Rows.laid_cachetier_proof_errMisfit)] [ 0, bE3 ] :=
 LaidIn.of_run _ 8 (by kernel_rfl) (by kernel_rfl) (by kernel_rfl) (by kernel_rfl)
theorem aXz (os:Os) (args:Array aB):laidMet prog Rows.topOverlapRow.laid ((aHh os).forCall (fun _ _=>0) ⟨#[],args,[]⟩).memory:=
 (((((bCw os args).append (bCv os args) (by kernel_rfl)).append (bCu os args) (by kernel_rfl)).append (bCt os args) (by kernel_rfl)).append (bCs os args) (by kernel_rfl)).met
theorem aIt {W:World} (h:laidMetH prog Rows.topOverlapRow.laid W):aA4 W:=by
 have c:laidMet prog Rows.topOverlapRow.laid W:=h
 have a : Lib.TabIs prog W "cachetier/digest.round" .u32 bD5 :=
   Lib.tabIs_of_head (rest := [("cachetier/proof.errMisfit", Rows.laid_cachetier_proof_errMisfit)]) bE5 aYn underlying406 underlying288 bDj bDi c.tail.tail.tail
 unfold Lib.TabIs World.var? at a;rw[bE5]at a;simp only[Option.bind_some]at a;split at a
 . rename_i e t d b
   refine⟨t,d,?_⟩;rw[b];injection a with a
   rw[a]
   congr 2
 . cases a
end
section
open Go Go.ChangeShapes
theorem aG3 {a b:Bool} (h:a=true) (k:b=true):(a&&b)=true:=by rw[h,k];rfl
noncomputable abbrev topOvS:ChangeSpec:=(OpenSpec.ofChange Rows.topOverlapSpec).bare
theorem fa0:(Rows.topOverlapRow.wf (OpenSpec.ofChange topOvS))=true:=by kernel_rfl
theorem fa1:(laidOutB Tryz.pinned.checked.prog)=true:=by kernel_rfl
theorem fa2:(mapsRowed Tryz.pinned.checked.prog)=true:=by kernel_rfl
theorem fa3:(Tryz.f3.params.all (Tryz.pinned.checked.prog.readableRec ·))=true:=by kernel_rfl
theorem fa4:(namedTie Tryz.pinned.checked.prog Rows.topOverlapRow.named topOvS.vars)=true:=by kernel_rfl
theorem fa5:((Rows.topOverlapRow.stops==[]))=true:=by kernel_rfl
theorem fa6:((Tryz.pinned.checked.prog.stops==[]))=true:=by kernel_rfl
theorem fa7:((Rows.topOverlapRow.knobs==[]))=true:=by kernel_rfl
theorem fa8:((Tryz.pinned.checked.prog.stopKnobs==[]))=true:=by kernel_rfl
theorem fa9:((Rows.topOverlapRow.inPlace== Tryz.pinned.checked.prog.inPlace 3))=true:=by kernel_rfl
theorem bF1:((Rows.topOverlapRow.unfollowed== Tryz.pinned.checked.prog.unfollowed 3))=true:=by kernel_rfl
theorem bF0:((Rows.topOverlapRow.recurses== Tryz.pinned.checked.prog.recurses 3))=true:=by kernel_rfl
theorem bFz:((Rows.topOverlapRow.named== Tryz.pinned.checked.prog.varsNamed 3))=true:=by kernel_rfl
theorem bFy:((Rows.topOverlapRow.maps==(Tryz.f3.params.toList++topOvS.plain.varTypes Tryz.pinned.checked.prog).any (Tryz.pinned.checked.prog.mapsRec ·)))=true:=by kernel_rfl
theorem bFx:((Rows.topOverlapRow.ifaces==(Tryz.f3.params.toList++topOvS.plain.varTypes Tryz.pinned.checked.prog).any (Tryz.pinned.checked.prog.ifacesRec ·)))=true:=by kernel_rfl
theorem bFw:((Rows.topOverlapRow.mapsOut== Tryz.pinned.checked.prog.mapsAmong Tryz.f3.resultTypes.toList))=true:=by kernel_rfl
theorem bFv:((Rows.topOverlapRow.loops==(Tryz.f3.params.toList++topOvS.plain.varTypes Tryz.pinned.checked.prog).any (Tryz.pinned.checked.prog.loopsFrom ·)))=true:=by kernel_rfl
theorem bFu:((Rows.topOverlapRow.wideKeys==(Tryz.f3.params.toList++topOvS.plain.varTypes Tryz.pinned.checked.prog++Tryz.f3.resultTypes.toList).any (Tryz.pinned.checked.prog.wideKeysFrom ·)))=true:=by kernel_rfl
theorem bFt:(topOvS.vars.all (Tryz.pinned.checked.prog.varReadable ·))=true:=by kernel_rfl
theorem bFs:(Tryz.f3.resultTypes.all (fun t=>Tryz.pinned.checked.prog.readableRec t&&decide (t<Tryz.pinned.checked.prog.types.size)))=true:=by kernel_rfl
theorem bFr:((Rows.topOverlapRow.ifacesOut== Tryz.f3.resultTypes.toList.any (Tryz.pinned.checked.prog.ifacesRec ·)))=true:=by kernel_rfl
theorem bFq:((Rows.topOverlapRow.loopsOut== Tryz.f3.resultTypes.toList.any (Tryz.pinned.checked.prog.loopsFrom ·)))=true:=by kernel_rfl
theorem bFp:((Rows.topOverlapRow.plainKeys== Tryz.pinned.checked.prog.plainKeys))=true:=by kernel_rfl
theorem bFo:(Rows.topOverlapRow.shortTexts.isNone)=true:=by kernel_rfl
theorem bFn:(Tryz.pinned.checked.prog.stopsHeard)=true:=by kernel_rfl
theorem bFm:(Tryz.pinned.checked.prog.mayEnter)=true:=by kernel_rfl
theorem bFl:((Rows.topOverlapRow.lifted== Tryz.pinned.checked.prog.liftsFinal))=true:=by kernel_rfl
theorem bFk:((Tryz.pinned.checked.prog.make== some Rows.topOverlapRow.make))=true:=by kernel_rfl
theorem bFj:((Rows.topOverlapRow.kinds==(if Rows.topOverlapRow.domain.isEmpty then[]else Tryz.f3.params.toList.map fun t=>match Tryz.pinned.checked.prog.underlying t with|some (.int k)=>some k|_=>none)))=true:=by kernel_rfl
theorem bFi:((Rows.topOverlapRow.pinned== Rows.topOverlapRow.pinnedBy))=true:=by kernel_rfl
theorem bFh:((Rows.topOverlapRow.veiled==(Tryz.f3.params.toList++topOvS.plain.varTypes Tryz.pinned.checked.prog++Tryz.f3.resultTypes.toList).any (Tryz.pinned.checked.prog.veiledRec ·)))=true:=by kernel_rfl
theorem bFg:(Rows.topOverlapRow.veiledFits Tryz.pinned.checked.prog Tryz.f3.params.toList (Tryz.f3.params.toList++topOvS.plain.varTypes Tryz.pinned.checked.prog++Tryz.f3.resultTypes.toList))=true:=by kernel_rfl
theorem aR1:joinedFacts Tryz.pinned.checked.prog 3 Tryz.f3 topOvS Rows.topOverlapRow=true:=aG3 (aG3 (aG3 (aG3 (aG3 (aG3 (aG3 (aG3 (aG3 (aG3 (aG3 (aG3 (aG3 (aG3 (aG3 (aG3 (aG3 (aG3 (aG3 (aG3 (aG3 (aG3 (aG3 (aG3 (aG3 (aG3 (aG3 (aG3 (aG3 (aG3 (aG3 fa0 fa1) fa2) fa3) fa4) fa5) fa6) fa7) fa8) fa9) bF1) bF0) bFz) bFy) bFx) bFw) bFv) bFu) bFt) bFs) bFr) bFq) bFp) bFo) bFn) bFm) bFl) bFk) bFj) bFi) bFh) bFg
theorem aR0:Tryz.pinned.checked.prog.funcNamed Rows.topOverlapRow.func=some 3:=by kernel_rfl
theorem aTf:Tryz.f3.isInstance Tryz.pinned.checked.prog Rows.topOverlapRow.origin Rows.topOverlapRow.targs:=of_decide_eq_true (by kernel_rfl)
theorem aTe:Tryz.f3.isWrapper Tryz.pinned.checked.prog Rows.topOverlapRow.wrapper Rows.topOverlapRow.mainSum:=by unfold Func.isWrapper;first|(rw[if_pos (by decide +kernel)];kernel_rfl)|(rw[if_neg (by decide +kernel)];exact⟨rfl,rfl⟩)
end
end Go.Proofs.YtmhpfoicloojcaaGreatDoor
