/- Appends of strings. -/
import Derived.Test.YtmhpfoicloojcaaGreatDoorZag
import Derived.WalkLawsBesides
set_option linter.all false
namespace Go.Proofs.YtmhpfoicloojcaaGreatDoor
set_option maxRecDepth 100000
set_option maxHeartbeats 16000000
section
open Go Go.RowKit
variable {w:World} {g base:Nat} {t e:TypeId} {cs:List Value} {fr:Nat×Nat} {v:Value} {l:List UInt8}
def aQt (w:World) (g:Nat) (t:TypeId) (cs:List Value) (fr:Nat×Nat):Prop:=w.heap[g]? =some (.cells cs.toArray t fr)
theorem aQt.cell (h:aQt w g t cs fr) (i:Nat):w.cell? (g,i)=cs[i]? :=by
 simp[World.cell?,show w.heap[g]? =_ from h]
theorem aQt.frozen (h:aQt w g t cs fr) (i:Nat) (hi:i<fr.1):w.frozen? (g,i)=false:=by
 obtain⟨a,b⟩:=fr;simp only at hi;have:decide (a<=i)=false:=by simp;omega
 simp[World.frozen?,show w.heap[g]? =_ from h,this]
theorem aQt.set (h:aQt w g t cs fr) (i:Nat) (u:Value):aQt (w.setCell (g,i) u) g t (cs.set i u) fr:=by
 obtain⟨a,b⟩:=Array.getElem?_eq_some_iff.1 h
 show(w.heap.modify g _)[g]? =_
 rw[Array.getElem?_eq_getElem (by rw[Array.size_modify];exact a),Array.getElem_modify_self,b];simp
theorem aKk (s:ByteArray) (cap:Nat):(bytesRow s cap).toList=bv s.data.toList++List.replicate (cap-s.size) (.int .u8 0):=by
 simp[bytesRow,bv]
theorem aQt.lt (h:aQt w g t cs fr):g<w.heap.size:=(Array.getElem?_eq_some_iff.1 h).1
theorem aQt.alloc (h:aQt w g t cs fr) (o:Obj):aQt (w.alloc o) g t cs fr:=(Below.heap_alloc w o g h.lt).trans h
def aNd (w:World) (base:Nat) (e:TypeId) (v:Value) (l:List UInt8):Prop:=
 ∃g cap cs fr,v= .slice (some (g,0)) l.length cap/\base<=g/\aQt w g e (bv l++cs) fr/\l.length<=cap/\cap<=l.length+cs.length/\cap<=maxLen/\(fr=(0,0)\/cap<=fr.1)
theorem aNd.alloc (h:aNd w base e v l) (o:Obj):aNd (w.alloc o) base e v l:=by
 obtain⟨g,a,j,i,f,d,c,b⟩:=h;exact⟨g,a,j,i,f,d,c.alloc o,b⟩
theorem aQt.free (h:aQt w g t cs fr) {cap i:Nat} (hf:fr=(0,0)\/cap<=fr.1) (hi:i<cap):w.frozen? (g,i)=false:=by
 rcases hf with rfl|hf
 . simp[World.frozen?,show w.heap[g]? =_ from h]
 . exact h.frozen i (by omega)
theorem aNd.slice (h:aNd w base e v l):∃g cap,v= .slice (some (g,0)) l.length cap/\base<=g/\g<w.heap.size/\l.length<=cap/\cap<=maxLen:=by
 obtain⟨g,cap,j,i,f,d,c,b,_,a,_⟩:=h;exact⟨g,cap,f,d,c.lt,b,a⟩
theorem aCz {P:Program} {ops:Array Oper} {rest:List Oper} {o:Oper} {a:Act} {Q:Exit->Act->World->Prop} (hgd:o.guard=none) (s x:Operand) (t:TypeId)
 (ho:o.op= .call {callee:= .builtin .append,args:=#[s,x],argTypes:=#[t,t]})
 (base:Nat) (e:TypeId) (i:TypeInfo) (ht:P.underlying t=some (.slice e)) (hi:P.info? e=some i) (hz:i.zero=some (.int .u8 0)) (hs1:i.size=1) (hb1:i.bytes=1)
 (v:Value) (l:List UInt8) (hs:a.eval s=v) (hown:aNd w base e v l)
 (ad:Addr) (c:UInt8) (hx:a.eval x= .slice (some ad) 1 1) (hc:w.cell? ad=some (.int .u8 (c.toNat:Int))) (hsp:ad.spot=none) (hlen:l.length+1<=140737488355328) (hbase:base<=w.heap.size)
 (h:∀v' w',aNd w' base e v' (l++[c])->w.grownBy w' v.ownBlock->wpList P ops Q rest (a.put o.dst v') w'):wpList P ops Q (o :: rest) a w:=by
  obtain⟨g,C,B,L,rfl,K,f,S,A,H,z⟩:=hown
  have q:∀j u,(bv l)[j]? =some u->w.cell? (g,0+j)=some u:=by
   intro j u r;rw[Nat.zero_add,f.cell,List.getElem?_append_left (List.getElem?_eq_some_iff.1 r).1];exact r
  have p:∀j u,([Value.int .u8 (c.toNat:Int)]:List Value)[j]? =some u->w.cell? (ad.add j)=some u:=by
   intro j u r;cases j with
   | zero=>
     simp only[List.getElem?_cons_zero,Option.some.injEq]at r;subst r
     have:ad.add 0=ad:=by
      obtain⟨b,off,R⟩:=ad;simp only at hsp;subst hsp;unfold Addr.add;split <;> simp_all
     rw[this];exact hc
   | succ j=>simp at r
  have n:l.length+1<=maxLen:=by unfold maxLen;omega
  refine wpList_append_arg w hgd s x t ho e i (.int .u8 0) 1 1 ht hi hz hs1 hb1 rfl (by omega) g 0 l.length C (bv l) hs (by simp) q ad 1 1 [.int .u8 (c.toNat:Int)] hx rfl p (by simp[Value.oneCell']) ?_ n (by omega) ?_ ?_
  . intro F j J;simp only[List.length_cons,List.length_nil]at J;obtain rfl:j=0:=by omega
    refine⟨?_,?_⟩
    . simp only[Nat.zero_add,Nat.mul_one,Nat.add_zero];rw[f.cell,List.getElem?_append_right (by simp)];rw[bv_length,Nat.sub_self,List.getElem?_eq_getElem (by omega)];rfl
    . simp only[Nat.zero_add,Nat.mul_one,Nat.add_zero];exact f.free z (by omega)
  . intro F;have m:(l++[c]).length=l.length+1:=by simp
    have O:w.setCells g (0+l.length*1) [.int .u8 (c.toNat:Int)]=w.setCell (g,l.length) (.int .u8 (c.toNat:Int)):=by
     rw[Nat.zero_add,Nat.mul_one];rfl
    rw[O];refine h _ _ ⟨g,C,B.tail,L,by rw[m],K,?_,by omega,by rw[List.length_tail];omega,H,z⟩ ?_
    . have G:=f.set l.length (.int .u8 (c.toNat:Int))
      have N:(bv l++B).set l.length (.int .u8 (c.toNat:Int))=bv (l++[c])++B.tail:=by
       rw[List.set_append_right _ _ (by simp),bv_length,Nat.sub_self];cases B with
       | nil=>simp at A;omega
       | cons u B=>rw[List.set_cons_zero,aKm];simp[bv]
      rwa [N]at G
    . have:=grownBy_setCell' w g (.int .u8 (c.toNat:Int));exact⟨rfl,rfl,rfl,by simp[World.setCell],fun k _ D=>Below.heap_setCell _ _ _ k (fun e=>D (by rw[e];rfl))⟩
  . intro F v' w' y d;have m:(l++[c]).length=l.length+1:=by simp
    rcases y.2 with⟨_,h0⟩|⟨g',cap',cur,rfl,hb',hg',hn',hm',hc',ht'⟩
    . omega
    . have E:(cur.toList.drop (l.length+1)).length=cur.size-(l.length+1):=by simp
      refine h _ _ ⟨g',cap',cur.toList.drop (l.length+1),(0,0),by rw[m],Nat.le_trans hbase hb',?_,by omega,by rw[m,E];omega,hm',.inl rfl⟩ ⟨d.os,d.tape,d.output,d.size,fun k D _=>d.block k D (by simp)⟩
      have M:bv (l++[c])++cur.toList.drop (l.length+1)=cur.toList:=by
       have:bv (l++[c])=cur.toList.take ((l.length+1)*1):=by rw[ht',aKm];rfl
       rw[this,Nat.mul_one,List.take_append_drop]
      show w'.heap[g']? =_
      rw[M]
      simpa using hg'
theorem aNd.below {B:Nat} {a w1:World} {tmp:Obj} (hb:Below B a w) (h:aNd w base e v l) (hB:B<=base) (hw:B<=w.heap.size) (hg:(w.alloc tmp).grownBy w1 v.ownBlock):Below B a w1:=by
 obtain⟨g,f,m,j,rfl,b,_⟩:=h;have c:=hb.alloc hw tmp;refine c.trans ⟨hg.os,hg.tape,hg.output,hg.size,fun k i=>hg.block k (by simp;omega) fun d=>?_⟩;simp[Value.ownBlock]at d;omega
end
end Go.Proofs.YtmhpfoicloojcaaGreatDoor
