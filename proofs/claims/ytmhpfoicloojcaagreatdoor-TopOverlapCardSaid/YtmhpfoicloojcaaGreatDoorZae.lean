/- Made blocks; worlds that differ in a block; maps. -/
import Derived.Test.YtmhpfoicloojcaaGreatDoorZad
import Derived.Deep.OwnRows
import Derived.Deep.Draws
set_option linter.all false
open Go.Instr renaming lookup→aA,findNow→aC
open Array renaming getElem?_eq_some_iff→aB
open Go renaming World→aD,Value→aE,TypeId→aF
namespace Go.Proofs.YtmhpfoicloojcaaGreatDoor
set_option maxRecDepth 100000
set_option maxHeartbeats 16000000
section
open Go Go.RowKit
variable {w:aD} {g:Nat} {t:aF} {cs:List aE}
def BlkIs (w:aD) (g:Nat) (t:aF) (cs:List aE):Prop:=w.heap[g]? =some (.cells cs.toArray t (0,0))
theorem BlkIs.lt (h:BlkIs w g t cs):g<w.heap.size:=(aB.1 h).1
theorem BlkIs.cell (h:BlkIs w g t cs) (i:Nat):w.cell? (g,i)=cs[i]? :=by
 simp[World.cell?,show w.heap[g]? =_ from h]
theorem BlkIs.frozen (h:BlkIs w g t cs) (i:Nat):w.frozen? (g,i)=false:=by
 simp[World.frozen?,show w.heap[g]? =_ from h]
theorem BlkIs.new (w:aD) (t:aF) (cs:Array aE):BlkIs (w.alloc (.cells cs t)) w.heap.size t cs.toList:=World.alloc_heap_new w _
theorem BlkIs.alloc (h:BlkIs w g t cs) (o:Obj):BlkIs (w.alloc o) g t cs:=(Below.heap_alloc w o g h.lt).trans h
theorem BlkIs.drew (h:BlkIs w g t cs):BlkIs w.drew g t cs:=h
theorem BlkIs.drewN (h:BlkIs w g t cs) (n:Nat):BlkIs (w.drewN n) g t cs:=h
theorem BlkIs.below {w':aD} {B:Nat} (h:BlkIs w g t cs) (hb:Below B w w') (hg:g<B):BlkIs w' g t cs:=(hb.block g hg).trans h
theorem BlkIs.later {w':aD} (h:BlkIs w g t cs) (hb:Below w w w'):BlkIs w' g t cs:=h.below hb h.lt
theorem BlkIs.set (h:BlkIs w g t cs) (i:Nat) (u:aE):BlkIs (w.setCell (g,i) u) g t (cs.set i u):=by
 obtain⟨a,b⟩:=aB.1 h
 show(w.heap.modify g _)[g]? =_
 rw[Array.getElem?_eq_getElem (by rw[Array.size_modify];exact a),Array.getElem_modify_self,b];simp
theorem BlkIs.other (h:BlkIs w g t cs) {p:Addr} (hp:g≠p.block) (u:aE):BlkIs (w.setCell p u) g t cs:=
 (Below.heap_setCell w p u g hp).trans h
theorem aJp {P:Program} {cap:Nat} {l:List UInt8} {more:List aE} (src dst e:aF) (hs:P.underlying src=some (.slice e)) (he:P.underlying e=some (.int .u8)) (hd:P.underlying dst=some .string)
 (h:BlkIs w g t (bv l++more)):(convert src dst (.slice (some (g,0)) l.length cap)).run P w= .ok (.string ⟨l.toArray⟩) w:=by
  refine run_convert_bytes_back w src dst e ⟨g,0,none⟩ cap l hs he hd fun j a=>?_;have:(⟨g,0,none⟩:Addr).add j=⟨g,j,none⟩:=by unfold Addr.add;split <;> simp_all
  rw[this,h.cell,List.getElem?_append_left (by simpa using a)];simp[bv,a]
theorem aVf {xs:List UInt8} {n k:Nat} (lx:xs.length=n) (hk:k<n) {v:UInt8} (hv:xs[k]? =some v) (z:aE) :
 (bv (xs.take k)++List.replicate (n-k) z).set k (.int .u8 (v.toNat:Int))=bv (xs.take (k+1))++List.replicate (n-(k+1)) z:=by
  have e:(bv (xs.take k)).length=k:=by rw[bv_length,List.length_take];omega
  rw [List.set_append_right _ _ (by omega), e, Nat.sub_self, show n - k = (n - (k + 1)) + 1 by omega, List.replicate_succ, List.set_cons_zero,
    List.take_add_one,hv,aKm]
  simp[bv]
theorem aVg {xs:List UInt8} {n k:Nat} (lx:xs.length=n) (hk:k<n) (z:aE):(bv (xs.take k)++List.replicate (n-k) z)[k]? =some z:=by
 have e:(bv (xs.take k)).length=k:=by rw[bv_length,List.length_take];omega
 rw[List.getElem?_append_right (by omega),e,Nat.sub_self,List.getElem?_replicate,if_pos (by omega)]
variable {b:Nat} {w w':aD}
structure Upd (b:Nat) (w w':aD):Prop where
 os:w'.os=w.os
 tape:w'.tape=w.tape
 output:w'.output=w.output
 size:w.heap.size<=w'.heap.size
 block:∀k,k<w.heap.size->k≠b->w'.heap[k]? =w.heap[k]?
theorem Upd.refl (b:Nat) (w:aD):Upd b w w:=⟨rfl,rfl,rfl,Nat.le_refl _,fun _ _ _=>rfl⟩
theorem Upd.trans {a c d:aD} (h:Upd b a c) (k:Upd b c d):Upd b a d:=
 ⟨k.os.trans h.os,k.tape.trans h.tape,k.output.trans h.output,Nat.le_trans h.size k.size,fun j hj hn=>(k.block j (Nat.lt_of_lt_of_le hj h.size) hn).trans (h.block j hj hn)⟩
theorem Upd.of_below (h:Below w w w'):Upd b w w':=⟨h.os,h.tape,h.output,h.size,fun k hk _=>h.block k hk⟩
theorem Upd.setCell (b i:Nat) (w:aD) (u:aE):Upd b w (w.setCell (b,i) u):=
 ⟨rfl,rfl,rfl,by simp[World.setCell],fun k _ hn=>Below.heap_setCell w ⟨b,i,none⟩ u k hn⟩
theorem Upd.below {B:Nat} (h:Upd b w w') (hb:B<=b) (hw:B<=w.heap.size):Below B w w':=
 ⟨h.os,h.tape,h.output,h.size,fun k hk=>h.block k (by omega) (by omega)⟩
theorem BlkIs.upd {g:Nat} {t:aF} {cs:List aE} (h:BlkIs w g t cs) (hu:Upd b w w') (hn:g≠b):BlkIs w' g t cs:=(hu.block g h.lt hn).trans h
end
section
open Go Go.MapKept
open Go.ChangeMaps (setBlock)
variable {P:Program} {w:aD} {b clock:Nat} {es:Array MapEntry} {t K e:aF} {k:aE}
theorem aDu {d:TypeDesc} {v:aE} {i:Nat} (ht:P.underlying t=some (.map K e)) (hK:P.underlying K=some d) (hk:IsKey d k)
 (hb:w.heap[b]? =some (.map es clock)) (hf:aC d k es.toList 0=some (some (i,v))) :
 (aA t (.map (some b)) k false).run P w= .ok v w/\(aA t (.map (some b)) k true).run P w= .ok (.tuple #[v,true]) w:=by
  have a:=MapKept.run_checkKey (w:=w) (k:=k) hK hk es.isEmpty 9999;refine⟨?_,?_⟩ <;> simp[aA,run_underlying ht,MapKept.run_getObj_map hb,a,MapKept.run_findKey hK hf,Result.andThen]
theorem aQ6 {d:TypeDesc} {z:aE} (ht:P.underlying t=some (.map K e)) (hK:P.underlying K=some d) (hk:IsKey d k)
 (hb:w.heap[b]? =some (.map es clock)) (hf:aC d k es.toList 0=some none) (hz:(zeroValue e).run P w= .ok z w) :
 (aA t (.map (some b)) k false).run P w= .ok z w/\(aA t (.map (some b)) k true).run P w= .ok (.tuple #[z,false]) w:=by
  have a:=MapKept.run_checkKey (w:=w) (k:=k) hK hk es.isEmpty 9999;refine⟨?_,?_⟩ <;> simp[aA,run_underlying ht,MapKept.run_getObj_map hb,a,MapKept.run_findKey hK hf,hz,Result.andThen]
theorem aPw {d:TypeDesc} {v:aE} (ht:P.underlying t=some (.map K e)) (hK:P.underlying K=some d) (hk:IsKey d k)
 (hb:w.heap[b]? =some (.map es clock)) (hf:aC d k es.toList 0=some none) :
 (Instr.mapUpdate t (.map (some b)) k v).run P w= .ok () (setBlock w b (.map (es.push {key:=k,val:=v,born:=clock}) (clock+1))):=by
  have a:=MapKept.run_checkKey (w:=w) (k:=k) hK hk false 9999;simp[Instr.mapUpdate,run_underlying ht,MapKept.run_getObj_map hb,a,MapKept.run_findKey hK hf,MapKept.run_setObj_map _ hb,Result.andThen,setBlock]
theorem bA3 (ht:P.underlying t=some (.map K e)) (hb:w.heap[b]? =some (.map es clock)) (ty:aF) :
 (Builtin.len_ #[t] ty #[.map (some b)]).run P w= .ok (.int .i64 (es.size:Nat)) w:=by
  simp[Builtin.len_,run_underlying ht,MapKept.run_getObj_map hb,Result.andThen,goInt]
theorem aDt {o o':Obj} (hb:w.heap[b]? =some o):(setBlock w b o').heap[b]? =some o':=by
 have a:=(aB.1 hb).1;simp[setBlock,a]
theorem Upd.setBlock (w:aD) (b:Nat) (o:Obj):Upd b w (setBlock w b o):=
 ⟨rfl,rfl,rfl,by simp[ChangeMaps.setBlock],fun k _ hn=>by
  show(w.heap.setIfInBounds b o)[k]? =_
  rw[Array.getElem?_setIfInBounds,if_neg (Ne.symm hn)]⟩
theorem aBd {ops:Array Oper} {rest:List Oper} {o:Oper} {a:Act} {Q:Exit->Act->aD->Prop} (hg:o.guard=none) (m x v:Operand) (t:aF)
 (hop:o.op=Op.insert t m x v\/o.op=Op.mapUpdate t m x v) {K e:aF} {d:TypeDesc} (ht:P.underlying t=some (.map K e)) (hK:P.underlying K=some d) (b clock:Nat) (es:Array MapEntry)
 (hm:a.eval m= .map (some b)) (hb:w.heap[b]? =some (.map es clock)) (key val:aE) (hx:a.eval x=key) (hv:a.eval v=val) (hk:IsKey d key) (hf:aC d key es.toList 0=some none)
 (h:∀w',w'.heap[b]? =some (.map (es.push {key:=key,val:=val,born:=clock}) (clock+1))->Upd b w w'->w'.heap.size=w.heap.size->wpList P ops Q rest (a.put o.dst undef) w'):wpList P ops Q (o :: rest) a w:=by
  refine wpList_plain hg fun g f=>?_;have c:=aPw (v:=val) ht hK hk hb hf;unfold Oper.wp;rcases hop with hop|hop <;>
  . simp[execOp,hop,hm,hx,hv,c,Result.andThen];exact f _ _ (h _ (aDt hb) (Upd.setBlock w b _) (by simp[ChangeMaps.setBlock]))
end
section
open Go Go.MapKept Go.RowKit
open Go.ChangeMaps (setBlock)
def aD9 (w:aD) (b:Nat) (l:List (aE×aE)):Prop:=∃es clock,w.heap[b]? =some (.map es clock)/\es.toList.map (fun e=>(e.key,e.val))=l
theorem aD9.lt {w:aD} {b:Nat} {l:List (aE×aE)} (h:aD9 w b l):b<w.heap.size:=by
 obtain⟨d,a,c,-⟩:=h;exact(aB.1 c).1
theorem aD9.block {w w':aD} {b:Nat} {l:List (aE×aE)} (h:aD9 w b l) (e:w'.heap[b]? =w.heap[b]?):aD9 w' b l:=by
 obtain⟨f,a,d,c⟩:=h;exact⟨f,a,e.trans d,c⟩
theorem aD9.later {w w':aD} {b:Nat} {l:List (aE×aE)} (h:aD9 w b l) (hb:Below w w w'):aD9 w' b l:=h.block (hb.block b h.lt)
theorem aD9.made (w:aD):aD9 (w.alloc (.map #[] 0)) w.heap.size []:=⟨#[],0,heap_alloc_new w _,rfl⟩
theorem aSx {d:TypeDesc} {k v:aE} (hk:IsKey d k) {l:List MapEntry} (hl:∀x∈l,IsKey d x.key) (hnd:(l.map (·.key)).Nodup) (hin:(k,v)∈l.map fun e=>(e.key,e.val)):∃i,aC d k l 0=some (some (i,v)):=by
 obtain⟨e,b,n⟩:=List.mem_map.1 hin;obtain⟨f,m⟩:=Prod.mk.inj n;rcases findNow_spec hk l 0 hl with⟨_,h2⟩|⟨j,e',h1,h2,h3⟩
 . exact absurd f (h2 e b)
 . have g:=List.mem_of_getElem? h2;obtain⟨i,a⟩:=List.mem_iff_getElem?.1 b
   have:i=j:=by
    have c:(l.map (·.key))[i]? =some k:=by rw[List.getElem?_map,a];simp[f]
    have h:(l.map (·.key))[j]? =some k:=by rw[List.getElem?_map,h2];simp[h3]
    exact(List.getElem?_inj (List.getElem?_eq_some_iff.1 c).1 hnd).1 (c.trans h.symm)
   subst this;rw[a]at h2;obtain rfl:=Option.some.inj h2;exact⟨_,by rw[h1,m]⟩
theorem aLu {d:TypeDesc} {k:aE} (hk:IsKey d k) {l:List MapEntry} (hl:∀x∈l,IsKey d x.key) (hno:∀p∈l.map fun e=>(e.key,e.val),p.1≠k):aC d k l 0=some none:=by
 rcases findNow_spec hk l 0 hl with⟨h1,_⟩|⟨j,e',h1,h2,h3⟩
 . exact h1
 . exact absurd h3 (hno (e'.key,e'.val) (List.mem_map.2 ⟨e',List.mem_of_getElem? h2,rfl⟩))
theorem aP1 {l:List (aE×aE)} {es:List MapEntry} {d:TypeDesc} (h:es.map (fun e=>(e.key,e.val))=l) (hl:∀p∈l,IsKey d p.1):∀x∈es,IsKey d x.key:=fun x hx=>hl (x.key,x.val) (by rw[<-h];exact List.mem_map.2 ⟨x,hx,rfl⟩)
section
variable {P:Program} {w:aD} {b:Nat} {l:List (aE×aE)} {t K e:aF} {d:TypeDesc} {k v z:aE}
theorem aD9.look (h:aD9 w b l) (ht:P.underlying t=some (.map K e)) (hK:P.underlying K=some d) (hk:IsKey d k) (hl:∀p∈l,IsKey d p.1) (hnd:(l.map (·.1)).Nodup) (hin:(k,v)∈l) :
 (aA t (.map (some b)) k false).run P w= .ok v w/\(aA t (.map (some b)) k true).run P w= .ok (.tuple #[v,true]) w:=by
  obtain⟨m,f,j,c⟩:=h
  have a:(m.toList.map (·.key)).Nodup:=by
   rw[<-c,List.map_map]at hnd;exact hnd
  obtain⟨i,g⟩:=aSx hk (aP1 c hl) a (by rw[c];exact hin);exact aDu ht hK hk j g
theorem aD9.miss (h:aD9 w b l) (ht:P.underlying t=some (.map K e)) (hK:P.underlying K=some d) (hk:IsKey d k) (hl:∀p∈l,IsKey d p.1) (hno:∀p∈l,p.1≠k) (hz:(zeroValue e).run P w= .ok z w) :
 (aA t (.map (some b)) k false).run P w= .ok z w/\(aA t (.map (some b)) k true).run P w= .ok (.tuple #[z,false]) w:=by
  obtain⟨g,a,f,c⟩:=h;exact aQ6 ht hK hk f (aLu hk (aP1 c hl) (by rw[c];exact hno)) hz
theorem aD9.add (h:aD9 w b l) (ht:P.underlying t=some (.map K e)) (hK:P.underlying K=some d) (hk:IsKey d k) (hl:∀p∈l,IsKey d p.1) (hno:∀p∈l,p.1≠k) :
 ∃w',(Instr.mapUpdate t (.map (some b)) k v).run P w= .ok () w'/\aD9 w' b (l++[(k,v)])/\Upd b w w'/\w'.heap.size=w.heap.size:=by
 obtain⟨g,c,f,a⟩:=h;refine⟨_,aPw ht hK hk f (aLu hk (aP1 a hl) (by rw[a];exact hno)),⟨_,_,aDt f,?_⟩,Upd.setBlock w b _,by simp[ChangeMaps.setBlock]⟩;rw[Array.toList_push,List.map_append,a];rfl
end
theorem aRy {P:Program} {ops:Array Oper} {rest:List Oper} {o:Oper} {a:Act} {w:aD} {Q:Exit->Act->aD->Prop} (hg:o.guard=none) (m x v:Operand) (t:aF)
 (hop:o.op=Op.insert t m x v\/o.op=Op.mapUpdate t m x v) {K e:aF} {d:TypeDesc} (ht:P.underlying t=some (.map K e)) (hK:P.underlying K=some d) (b:Nat) (l:List (aE×aE))
 (hm:a.eval m= .map (some b)) (hb:aD9 w b l) (key val:aE) (hx:a.eval x=key) (hv:a.eval v=val) (hk:IsKey d key) (hl:∀p∈l,IsKey d p.1) (hno:∀p∈l,p.1≠key)
 (h:∀w',aD9 w' b (l++[(key,val)])->Upd b w w'->w'.heap.size=w.heap.size->wpList P ops Q rest (a.put o.dst undef) w'):wpList P ops Q (o :: rest) a w:=by
  refine wpList_plain hg fun k f=>?_;obtain⟨w',c,j,i,g⟩:=hb.add (v:=val) ht hK hk hl hno;unfold Oper.wp;rcases hop with hop|hop <;>
  . simp[execOp,hop,hm,hx,hv,c,Result.andThen];exact f _ _ (h _ j i g)
end
end Go.Proofs.YtmhpfoicloojcaaGreatDoor
