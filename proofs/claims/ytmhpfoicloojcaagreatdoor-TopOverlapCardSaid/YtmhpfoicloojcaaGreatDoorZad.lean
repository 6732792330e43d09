/- Rows that the walk owns; slices. -/
import Derived.Test.YtmhpfoicloojcaaGreatDoorZac
import Derived.Lib.BufferRead
set_option linter.all false
namespace Go.Proofs.YtmhpfoicloojcaaGreatDoor
set_option maxRecDepth 100000
set_option maxHeartbeats 16000000
section
open Go Go.RowKit
theorem aJ6 (l:List UInt8):(⟨l.toArray⟩:ByteArray).data.toList=l:=by simp
def bv (l:List UInt8):List Value:=l.map fun b=>Value.int .u8 (b.toNat:Int)
@[simp] theorem bv_length (l:List UInt8):(bv l).length=l.length:=by simp[bv]
theorem aKm (l m:List UInt8):bv (l++m)=bv l++bv m:=by simp[bv]
theorem aJo {P:Program} {w:World} {base:Nat} {v:Value} {k:Nat} {l:List UInt8} (src dst e:TypeId) (hs:P.underlying src=some (.slice e)) (he:P.underlying e=some (.int .u8)) (hd:P.underlying dst=some .string)
 (h:w.ownsRow base e 1 v k (bv l)):(convert src dst v).run P w= .ok (.string ⟨l.toArray⟩) w:=by
  obtain⟨a,h⟩:=h;simp only[bv_length,Nat.mul_one]at a;subst a;rcases h with⟨rfl,h0⟩|⟨g,cap,cur,rfl,_,hg,_,_,_,htk⟩
  . have:l=[]:=by simpa using h0
    subst this;exact Go.Lib.run_convert_nil_bytes w src dst e 0 hs he hd
  . refine run_convert_bytes_back w src dst e ⟨g,0,none⟩ cap l hs he hd ?_;refine Go.Lib.bytes_of_row hg ?_;rw[Nat.mul_one]at htk;rw[htk];rfl
theorem aAc {W:World} {j:Nat} {o:Obj} (h:W.heap[j]? =some o):j<W.heap.size:=(Array.getElem?_eq_some_iff.1 h).1
theorem aAm {n₀:Nat} {w W:World} (h:Below n₀ w W) {l:Nat} (o:Obj) (hl:n₀<=l) (hs:n₀<=W.heap.size):Below n₀ w (W.putObj l o):=
 h.grown (grownBy_putObj' W l o) hs (fun k e=>by cases e;exact hl)
def aKq (w:World) (v:Value) (xs:List Value):Prop:=
 ∃A c,v= .slice A xs.length c/\xs.length<=c/\(0<xs.length->∃ad,A=some ad/\ad.block<w.heap.size/\∀j u,xs[j]? =some u->w.cell? (ad.add j)=some u)
theorem aHt (a:Addr) (n:Nat):(a.add n).block=a.block:=by unfold Addr.add;split <;> rfl
theorem aKq.below {w w':World} {v:Value} {xs:List Value} (h:aKq w v xs) (hb:Below w w w'):aKq w' v xs:=by
 obtain⟨A,c,e,i,d⟩:=h;refine⟨A,c,e,i,fun l=>?_⟩;obtain⟨b,k,a,g⟩:=d l;exact⟨b,k,Nat.lt_of_lt_of_le a hb.size,fun j u f=>(hb.cell (p:=b.add j) (by rw[aHt];exact a)).trans (g j u f)⟩
theorem aAl {W:World} {a:Addr} {v:Value} (h:W.cell? a=some v):a.block<W.heap.size:=by
 obtain⟨o,b,_⟩:=cells_of_cell h;exact(Array.getElem?_eq_some_iff.1 b).1
end
end Go.Proofs.YtmhpfoicloojcaaGreatDoor
