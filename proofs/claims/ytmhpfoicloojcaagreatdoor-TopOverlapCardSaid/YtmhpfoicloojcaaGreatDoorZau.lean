/- What the cards of a log share. -/
import Derived.Test.YtmhpfoicloojcaaGreatDoorCards
import Derived.Test.YtmhpfoicloojcaaGreatDoorTie
import Derived.Test.YtmhpfoicloojcaaGreatDoorZap
import Derived.Test.YtmhpfoicloojcaaGreatDoorZas
import Derived.Test.YtmhpfoicloojcaaGreatDoorZat
import Derived.Deep.DeepHandedRow
set_option linter.all false
namespace Go.Proofs.YtmhpfoicloojcaaGreatDoor
set_option maxRecDepth 100000
set_option maxHeartbeats 16000000
section
open Go.Proofs.Tryz
open Go Go.ChangeShapes Go.WideShapes Go.ChangeAt Go.RowKit
theorem own:ownKnob prog.godebug=none:=by kernel_rfl
theorem aMu:laidOutB prog=true:=by kernel_rfl
theorem bE5 : prog.globalNamed "cachetier/digest.round" = some 1 := by kernel_rfl
theorem aYn:(prog.globals[1]?).map (·.type)=some 406:=by kernel_rfl
theorem bDi:prog.cellsOf 406=64:=by kernel_rfl
theorem bDj:prog.cellsOf 288=1:=by kernel_rfl
def bD5:List Int:=aS7.map fun(n:Nat)=>(n:Int)
theorem aG7 {H:Type} {enc:TypeId×Value->H} {W W':World} (hb:Below W W W') :
 ∀{ts:List TypeId} {vs:List Value} {ds:List (DataW H)} {ps:List MemPlace},(∀t∈ts,prog.readableRec t=true/\t<prog.types.size)->
   DataW.TrodAll enc prog W 0 (fun _=>true) true ts vs ds ps->(∀x∈ps,x.block<W.heap.size)->
   DataW.TrodAll enc prog W' 0 (fun b=>decide (b<W.heap.size)) true ts vs ds ps
  | [],_,_,_,_,h,_=>by
    obtain⟨rfl,rfl,rfl⟩:=trodAll_nil h;exact trodAll_mk0
  | t :: ts,_,_,_,ht,h,hp=>by
    obtain⟨v,vs',d,ds',p,q,rfl,rfl,rfl,h1,h2⟩:=trodAll_cons h;have h0:=ht t (by simp)
    exact trodAll_cons_mk (Below.trod aMu h0.1 h0.2 h1 hb (fun x hx => hp x (by simp [hx])))
      (aG7 hb (fun t' ht'=>ht t' (by simp[ht'])) h2 (fun x hx=>hp x (by simp[hx])))
theorem aXx {H:Type} {enc:TypeId×Value->H} {s:ChangeSpec} {f:Func} {W W':World} {args:Array Value} {ds gs:List (DataW H)} {before:List MemPlace}
 (hW:DataW.Whole enc prog f.params.toList s.vars false W args.toList ds gs before) (hvars:s.vars=[])
 (hfn:s.fn H (ds++gs)= {results:=[.lit (.bool true)],args:=ds}) (hres:f.resultTypes=#[4])
 (hpar:∀t∈f.params.toList,prog.readableRec t=true/\t<prog.types.size)
 (hb:Below W W W'):s.post enc prog f false true false false W args (.bool true) W':=by
  have c:∀p∈before,p.block<W.heap.size:=fun p a=>hW.lt p a;obtain⟨p,q,e,d,b,_⟩:=id hW;rw[hvars]at d;obtain⟨rfl,rfl⟩:=trodVars_none d;refine⟨ds,[],before,[],before,[],hW,?_,?_,?_,World.keptBut_mono (fun p a=>⟨a,.inr (.inl a)⟩) (hb.frame (·∈before)),fun h=>by cases h⟩
  . rw[hfn,hres];exact trodAll_mk1 (shut_bool underlying4 true)
  . rw[hfn];refine aG7 hb hpar ?_ c;rw[b,List.append_nil];exact e
  . rw[hvars,hfn];rfl
section
variable {H:Type} {enc:TypeId×Value->H} {P:Program} {w:World} {base:Nat} {sp:Nat->Bool} {held:Bool}
end
def aWh:Array Value:=#[.int .u32 1116352408,.int .u32 1899447441,.int .u32 3049323471,.int .u32 3921009573,.int .u32 961987163,.int .u32 1508970993,.int .u32 2453635748,.int .u32 2870763221,.int .u32 3624381080,.int .u32 310598401,.int .u32 607225278,.int .u32 1426881987,.int .u32 1925078388,.int .u32 2162078206,.int .u32 2614888103,.int .u32 3248222580,.int .u32 3835390401,.int .u32 4022224774,.int .u32 264347078,.int .u32 604807628,.int .u32 770255983,.int .u32 1249150122,.int .u32 1555081692,.int .u32 1996064986,.int .u32 2554220882,.int .u32 2821834349,.int .u32 2952996808,.int .u32 3210313671,.int .u32 3336571891,.int .u32 3584528711,.int .u32 113926993,.int .u32 338241895,.int .u32 666307205,.int .u32 773529912,.int .u32 1294757372,.int .u32 1396182291,.int .u32 1695183700,.int .u32 1986661051,.int .u32 2177026350,.int .u32 2456956037,.int .u32 2730485921,.int .u32 2820302411,.int .u32 3259730800,.int .u32 3345764771,.int .u32 3516065817,.int .u32 3600352804,.int .u32 4094571909,.int .u32 275423344,.int .u32 430227734,.int .u32 506948616,.int .u32 659060556,.int .u32 883997877,.int .u32 958139571,.int .u32 1322822218,.int .u32 1537002063,.int .u32 1747873779,.int .u32 1955562222,.int .u32 2024104815,.int .u32 2227730452,.int .u32 2361852424,.int .u32 2428436474,.int .u32 2756734187,.int .u32 3204031479,.int .u32 3329325298]
end
end Go.Proofs.YtmhpfoicloojcaaGreatDoor
