/- The digest's base; changed blocks; exact maps. -/
import Derived.Test.YtmhpfoicloojcaaGreatDoorZad
import Derived.Test.YtmhpfoicloojcaaGreatDoorZae
import Derived.Test.YtmhpfoicloojcaaGreatDoorZaf
import Derived.Lib.Hide
import Derived.Handy
set_option linter.all false
open Nat renaming lt_of_lt_of_le→aA,le_refl→aB,le_trans→aC
open Go renaming World→aD,Value→aE,TypeId→aF
namespace Go.Proofs.YtmhpfoicloojcaaGreatDoor
set_option maxRecDepth 100000
set_option maxHeartbeats 16000000
section
open Go Go.RowKit
theorem aH3 (l:List UInt8):(⟨l.toArray⟩:ByteArray).size=l.length:=by simp[ByteArray.size]
theorem aXv (t:ByteArray):t.data.toList.length=t.size:=by simp
theorem aBa {B:Nat} {a w:aD} (h:Below B a w) (n:Nat):Below B a (w.drewN n):=⟨h.os,h.tape,h.output,h.size,h.block⟩
theorem Below.next {a c d:aD} (h:Below a a c) (k:Below c c d):Below a a d:=h.trans (k.mono h.size)
theorem aCu (W:aD) (t:aF) (cs:Array aE) (g i:Nat) (v:aE) (hg:g=W.heap.size) (hv:cs.toList[i]? =some v):(W.alloc (.cells cs t)).cell? (g,i)=some v:=by
 rw[hg];exact((BlkIs.new W t cs).cell i).trans hv
theorem aEw (W:aD) (t:aF) (cs:Array aE) (o:Obj) (g i:Nat) (v:aE) (hg:g=W.heap.size) (hv:cs.toList[i]? =some v):((W.alloc (.cells cs t)).alloc o).cell? (g,i)=some v:=by
 rw[hg];exact(((BlkIs.new W t cs).alloc o).cell i).trans hv
theorem aC1 {a b:Int} (h:a=b):Ending.returned (.int .u32 a)=Ending.returned (.int .u32 b):=by rw[h]
variable {S:List Nat} {a b w w':aD} {B N:Nat} {p:aD->Prop}
structure Ch (S:List Nat) (w w':aD):Prop where
 os:w'.os=w.os
 tape:w'.tape=w.tape
 output:w'.output=w.output
 size:w.heap.size<=w'.heap.size
 block:∀k,k<w.heap.size->k∉S->w'.heap[k]? =w.heap[k]?
theorem Ch.refl (S:List Nat) (w:aD):Ch S w w:=⟨rfl,rfl,rfl,aB _,fun _ _ _=>rfl⟩
theorem Ch.trans {c:aD} (h:Ch S a b) (k:Ch S b c):Ch S a c:=
 ⟨k.os.trans h.os,k.tape.trans h.tape,k.output.trans h.output,aC h.size k.size,fun j hj hn=>(k.block j (aA hj h.size) hn).trans (h.block j hj hn)⟩
theorem Ch.of_below (h:Below w w w'):Ch S w w':=⟨h.os,h.tape,h.output,h.size,fun k hk _=>h.block k hk⟩
theorem Ch.of_upd {b:Nat} (h:Upd b w w'):Ch [b] w w':=⟨h.os,h.tape,h.output,h.size,fun k hk hn=>h.block k hk (by simpa using hn)⟩
theorem Ch.drew (h:Ch S a b):Ch S a b.drew:=⟨h.os,h.tape,h.output,h.size,h.block⟩
theorem Ch.next {T:List Nat} {c:aD} (h:Ch S a b) (k:Ch T b c) (ht:∀j∈T,j∈S\/a.heap.size<=j):Ch S a c:=
 ⟨k.os.trans h.os,k.tape.trans h.tape,k.output.trans h.output,aC h.size k.size,fun j hj hn=>(k.block j (aA hj h.size) fun e=>by rcases ht j e with h|h;exact hn h;omega).trans (h.block j hj hn)⟩
theorem Ch.mono {T:List Nat} (h:Ch S w w') (hs:∀k∈S,k∈T):Ch T w w':=⟨h.os,h.tape,h.output,h.size,fun k hk hn=>h.block k hk fun e=>hn (hs k e)⟩
theorem Ch.setCell (h:Ch S a w) {p:Addr} (hp:p.block∈S\/a.heap.size<=p.block) (u:aE):Ch S a (w.setCell p u):=
 ⟨h.os,h.tape,h.output,by have:=h.size;simpa[World.setCell]using this,fun k hk hn=>(Below.heap_setCell w p u k fun e=>by rcases hp with hp|hp;exact hn (e▸hp);omega).trans (h.block k hk hn)⟩
theorem Ch.alloc (h:Ch S a w) (o:Obj):Ch S a (w.alloc o):=h.trans (.of_below (Below.alloc (Below.refl _ w) (aB _) o))
theorem Ch.grown {row:Option Nat} (h:Ch S a w) (hg:w.grownBy w' row) (hr:∀k,row=some k->k∈S\/a.heap.size<=k):Ch S a w':=
 ⟨hg.os.trans h.os,hg.tape.trans h.tape,hg.output.trans h.output,aC h.size hg.size,fun k hk hn=>(hg.block k (aA hk h.size) fun e=>by rcases hr k e.symm with h|h;exact hn h;omega).trans (h.block k hk hn)⟩
theorem Ch.below (h:Ch S w w') (hb:∀k∈S,B<=k) (hw:B<=w.heap.size):Below B w w':=
 ⟨h.os,h.tape,h.output,h.size,fun k hk=>h.block k (by omega) fun e=>by have:=hb k e;omega⟩
theorem Ch.below_nil (h:Ch [] w w'):Below w w w':=h.below (by simp) (aB _)
theorem BlkIs.ch {g:Nat} {t:aF} {cs:List aE} (h:BlkIs w g t cs) (hs:Ch S w w') (hn:g∉S):BlkIs w' g t cs:=(hs.block g h.lt hn).trans h
def Off (B N:Nat) (w:aD) (p:aD->Prop):Prop:=N<=w.heap.size/\∀W:aD,w.heap.size<=W.heap.size->(∀k,B<=k->k<N->W.heap[k]? =w.heap[k]?)->p W
theorem Off.here (h:Off B N w p):p w:=h.2 w (aB _) fun _ _ _=>rfl
theorem Off.ch (h:Off B N w p) (hs:Ch S w w') (hn:∀k∈S,k<B\/N<=k):Off B N w' p:=
 ⟨aC h.1 hs.size,fun W hW hk=>h.2 W (aC hs.size hW) fun k h1 h2=>(hk k h1 h2).trans (hs.block k (aA h2 h.1) fun e=>by rcases hn k e with h|h <;> omega)⟩
theorem Off.later (h:Off B N w p) (hb:Below w w w'):Off B N w' p:=h.ch (S:=[]) (.of_below hb) (by simp)
theorem Off.imp {q:aD->Prop} (h:Off B N w p) (hpq:∀W,p W->q W):Off B N w q:=⟨h.1,fun W h1 h2=>hpq W (h.2 W h1 h2)⟩
theorem Below.newb {W:aD} (_:Below B w W) (cs:Array aE) (T:aF):∃w' X,w'=W.alloc (.cells cs T)/\X=W.heap.size/\Below W W w'/\BlkIs w' X T cs.toList/\w'.heap.size=X+1:=
 ⟨_,_,rfl,rfl,Below.alloc (Below.refl _ W) (aB _) _,BlkIs.new W T cs,by rw[World.size_alloc]⟩
theorem aAo {g:Nat} (t:TypeId) (cs:Array Value) (l:List Value) (h:g=w.heap.size) (hl:l=cs.toList:=by rfl):BlkIs (w.alloc (.cells cs t)) g t l:=by
 rw[h,hl];exact BlkIs.new w t cs
end
section
open Go Go.MapKept Go.RowKit
open Go.ChangeMaps (setBlock)
variable {clock:Nat} {es:Array MapEntry} {w':aD}
def MapIs (w:aD) (b:Nat) (es:Array MapEntry) (clock:Nat):Prop:=w.heap[b]? =some (.map es clock)
theorem MapIs.lt {w:aD} {b:Nat} (h:MapIs w b es clock):b<w.heap.size:=(Array.getElem?_eq_some_iff.1 h).1
theorem MapIs.ch {S:List Nat} {w:aD} {b:Nat} (h:MapIs w b es clock) (hs:Ch S w w') (hn:b∉S):MapIs w' b es clock:=(hs.block b h.lt hn).trans h
theorem MapIs.later {w:aD} {b:Nat} (h:MapIs w b es clock) (hb:Below w w w'):MapIs w' b es clock:=(hb.block b h.lt).trans h
theorem MapIs.drew {w:aD} {b:Nat} (h:MapIs w b es clock):MapIs w.drew b es clock:=h
theorem MapIs.made (w:aD):MapIs (w.alloc (.map #[] 0)) w.heap.size #[] 0:=heap_alloc_new w _
theorem MapIs.alloc {w:aD} {b:Nat} (h:MapIs w b es clock) (o:Obj):MapIs (w.alloc o) b es clock:=(Below.heap_alloc w o b h.lt).trans h
theorem MapIs.setCell {w:aD} {b:Nat} (h:MapIs w b es clock) {p:Addr} (hp:p.block≠b) (u:aE):MapIs (w.setCell p u) b es clock:=(heap_setCell_other w p b u fun e=>hp e.symm).trans h
theorem MapIs.setBlock {w:aD} {b c clock:Nat} {es:Array MapEntry} (h:MapIs w b es clock) (hp:c≠b) (o:Obj):MapIs (setBlock w c o) b es clock:=by
 show(w.heap.setIfInBounds c o)[b]? =_
 rw[Array.getElem?_setIfInBounds,if_neg hp];exact h
theorem BlkIs.setBlock {w:aD} {g c:Nat} {t:aF} {cs:List aE} (h:BlkIs w g t cs) (hp:c≠g) (o:Obj):BlkIs (setBlock w c o) g t cs:=by
 show(w.heap.setIfInBounds c o)[g]? =_
 rw[Array.getElem?_setIfInBounds,if_neg hp];exact h
theorem MapIs.put {w:aD} {b clock':Nat} {es':Array MapEntry} (h:MapIs w b es clock):MapIs (Go.ChangeMaps.setBlock w b (.map es' clock')) b es' clock':=aDt h
theorem aMd (w:aD) (b:Nat) (o:Obj):(setBlock w b o).heap.size=w.heap.size:=by simp[ChangeMaps.setBlock]
theorem Ch.setBlock {S:List Nat} {a w:aD} (h:Ch S a w) {b:Nat} (hb:b∈S\/a.heap.size<=b) (o:Obj):Ch S a (setBlock w b o):=
 h.next (Ch.of_upd (Upd.setBlock w b o)) (by intro j hj;rw[List.mem_singleton]at hj;subst hj;exact hb)
theorem aKe {P:Program} {w:aD} {b:Nat} {t K e:aF} {d:TypeDesc} {k z:aE} (ht:P.underlying t=some (.map K e)) (hK:P.underlying K=some d) (hk:IsKey d k) (hb:MapIs w b #[] 0) (hz:(zeroValue e).run P w= .ok z w) :
 (Instr.mapEntry t (.map (some b)) k).run P w= .ok (.tuple #[z,()]) (setBlock w b (.map #[⟨k,z,0⟩] 1)):=by
  have f:=MapKept.run_checkKey (w:=w) (k:=k) hK hk false 9999;have c:Instr.findNow d k (#[]:Array MapEntry).toList 0=some none:=rfl;have a:w.heap[b]? =some (.map #[] 0):=hb;simp[Instr.mapEntry,run_underlying ht,MapKept.run_getObj_map a,f,MapKept.run_findKey hK c,hz,MapKept.run_setObj_map _ a,Result.andThen,ChangeMaps.setBlock,goInt]
theorem aHo {P:Program} {w:aD} {b:Nat} {t:aF} {k z v:aE} (hb:MapIs w b #[⟨k,z,0⟩] 1) :
 (Instr.entryStore t (.map (some b)) (.int .i64 0) v).run P w= .ok () (setBlock w b (.map #[⟨k,v,0⟩] 1)):=by
  have a:w.heap[b]? =some (.map #[⟨k,z,0⟩] 1):=hb;simp[Instr.entryStore,MapKept.run_getObj_map a,asInt,asIntOf,MapKept.run_setObj_map _ a,Result.andThen,ChangeMaps.setBlock]
theorem aUf {P:Program} {w:aD} {b:Nat} {t K e:aF} {d:TypeDesc} {k v:aE} (ht:P.underlying t=some (.map K e)) (hK:P.underlying K=some d) (hk:IsKey d k) (hb:MapIs w b #[] 0) :
 (Instr.mapUpdate t (.map (some b)) k v).run P w= .ok () (setBlock w b (.map #[⟨k,v,0⟩] 1)):=aPw ht hK hk hb rfl
section
variable {P:Program} {w:aD} {b:Nat} {t K e:aF} {d:TypeDesc} {k v z:aE}
theorem Below.newm {B:Nat} {w W:aD} (_:Below B w W):∃w' X,w'=W.alloc (.map #[] 0)/\X=W.heap.size/\Below W W w'/\MapIs w' X #[] 0/\w'.heap.size=X+1:=
 ⟨_,_,rfl,rfl,Below.alloc (Below.refl _ W) (aB _) _,MapIs.made W,by rw[World.size_alloc]⟩
theorem MapIs.none_at (h:MapIs w b #[] 0) (ht:P.underlying t=some (.map K e)) (hK:P.underlying K=some d) (hk:IsKey d k) (hz:(zeroValue e).run P w= .ok z w) :
 (Instr.lookup t (.map (some b)) k false).run P w= .ok z w/\(Instr.lookup t (.map (some b)) k true).run P w= .ok (.tuple #[z,false]) w:=aQ6 ht hK hk h rfl hz
theorem MapIs.len0 (h:MapIs w b #[] 0) (ht:P.underlying t=some (.map K e)) (ty:aF):(Builtin.len_ #[t] ty #[.map (some b)]).run P w= .ok (.int .i64 0) w:=bA3 ht h ty
end
def aB0 (w:aD) (r b:Nat) (done:Bool):Prop:=w.heap[r]? =some (.mapIter (some b) 1 (if done then#[0]else#[]) 1)
theorem aB0.lt {w:aD} {r b:Nat} {d:Bool} (h:aB0 w r b d):r<w.heap.size:=(Array.getElem?_eq_some_iff.1 h).1
theorem aB0.ch {S:List Nat} {w:aD} {r b:Nat} {d:Bool} (h:aB0 w r b d) (hs:Ch S w w') (hn:r∉S):aB0 w' r b d:=(hs.block r h.lt hn).trans h
theorem aB0.later {w:aD} {r b:Nat} {d:Bool} (h:aB0 w r b d) (hb:Below w w w'):aB0 w' r b d:=(hb.block r h.lt).trans h
section
variable {P:Program} {w:aD} {b r:Nat} {t K e:aF} {k v:aE}
theorem aHb (ht:P.underlying t=some (.map K e)) (h:MapIs w b #[⟨k,v,0⟩] 1) :
 (Instr.range t (.map (some b))).run P w= .ok (.pointer (some (w,0))) (w.alloc (.mapIter (some b) 1 #[] 1)):=run_range_map w t K e b _ 1 ht h
theorem aB0.made (w:aD) (b:Nat):aB0 (w.alloc (.mapIter (some b) 1 #[] 1)) w.heap.size b false:=heap_alloc_new w _
theorem aI5 (h:MapIs w b #[⟨k,v,0⟩] 1) (hr:aB0 w r b false) (ty:aF) :
 (Instr.next (.pointer (some (r,0))) false ty).run P w= .ok (.tuple #[true,k,v]) (Go.ChangeMaps.setBlock w r (.mapIter (some b) 1 #[0] 1)):=by
  have c:w.heap[b]? =some (.map #[⟨k,v,0⟩] 1):=h;have a:w.heap[r]? =some (.mapIter (some b) 1 #[] 1):=hr;simp[Instr.next,getObj,Sem.run,a,c,Result.andThen,choose,Question.forced,setObj,ChangeMaps.setBlock]
theorem aHj (hr:aB0 w r b false):aB0 (Go.ChangeMaps.setBlock w r (.mapIter (some b) 1 #[0] 1)) r b true:=aDt hr
theorem aHp (h:MapIs w b #[⟨k,v,0⟩] 1) (hr:aB0 w r b true):(Instr.entry (.pointer (some (r,0)))).run P w= .ok (.tuple #[k,v]) w:=
 run_entry_at w r b 1 #[] #[⟨k,v,0⟩] 1 ⟨k,v,0⟩ hr h (by simp) (by simp)
theorem aI6 (h:MapIs w b #[⟨k,v,0⟩] 1) (hr:aB0 w r b true) (ty:aF):(Instr.next (.pointer (some (r,0))) false ty).run P w= .ok (.tuple #[false]) w:=by
 have c:w.heap[b]? =some (.map #[⟨k,v,0⟩] 1):=h;have a:w.heap[r]? =some (.mapIter (some b) 1 #[0] 1):=hr;simp[Instr.next,getObj,Sem.run,a,c,Result.andThen,choose,Question.forced]
end
end
end Go.Proofs.YtmhpfoicloojcaaGreatDoor
