/- SeqO: guards that hold or not. Over any program. -/
import Derived.Test.YtheebajklnljdaaDoorQSeqO
namespace Go.Proofs.YtheebajklnljdaaDoor
open Go
section
variable {P : Program} {Q : Exit → Act → World → Prop} {S : World → Prop}
theorem wanted_at {l : List Oper} {ts : List Value} {ds : List Deferred} {o oj : Oper} {j d : Nat} {bb : Bool} (hg : o.guard = some (j, bb)) (hj : l[j]? = some oj) (hd : oj.dst = some d) (ht : ts[d]? = some (.bool bb)) : Region.wanted o (yielded l.toArray (Act.mk ts.toArray ds).tmps) = true := by
  unfold Region.wanted yielded
  rw [hg]
  simp [hj, hd, ht]
theorem unwanted_at {l : List Oper} {ts : List Value} {ds : List Deferred} {o oj : Oper} {j d : Nat} {bb b' : Bool} (hg : o.guard = some (j, bb)) (hj : l[j]? = some oj) (hd : oj.dst = some d) (ht : ts[d]? = some (.bool b')) (hne : (b' == bb) = false) : Region.wanted o (yielded l.toArray (Act.mk ts.toArray ds).tmps) = false := by
  unfold Region.wanted yielded
  rw [hg]
  simp [hj, hd, ht]
  simpa using hne
theorem SeqO.takeG {l : List Oper} {i : Nat} {b : Bool} {rest : List (Nat × Bool)} {ts : List Value} {ds : List Deferred} {w : World} {o oj : Oper} {v : Value} {j d : Nat} {bb : Bool} (ho : l[i]? = some o) (hg : o.guard = some (j, bb)) (hj : l[j]? = some oj) (hd : oj.dst = some d) (ht : ts[d]? = some (.bool bb)) (hy : ∀ w, S w → (execOp (Act.mk ts.toArray ds).eval o).run P w = .ok (.value v) w)
    (h : SeqO P l.toArray Q S rest ((Act.mk ts.toArray ds).put o.dst v) w) : SeqO P l.toArray Q S ((i, b) :: rest) ⟨ts.toArray, ds⟩ w := SeqO.take (by simpa using ho) (wanted_at hg hj hd ht) hy h
theorem SeqO.skipG {l : List Oper} {i : Nat} {b : Bool} {rest : List (Nat × Bool)} {ts : List Value} {ds : List Deferred} {w : World} {o oj : Oper} {j d : Nat} {bb b' : Bool} (ho : l[i]? = some o) (hg : o.guard = some (j, bb)) (hj : l[j]? = some oj) (hd : oj.dst = some d) (ht : ts[d]? = some (.bool b')) (hne : (b' == bb) = false)
    (h : SeqO P l.toArray Q S rest ((Act.mk ts.toArray ds).put o.dst undef) w) : SeqO P l.toArray Q S ((i, b) :: rest) ⟨ts.toArray, ds⟩ w := SeqO.unwanted (by simpa using ho) (unwanted_at hg hj hd ht hne) h
theorem SeqO.stepG {l : List Oper} {i : Nat} {rest : List (Nat × Bool)} {ts : List Value} {ds : List Deferred} {w : World} {o oj : Oper} {j d : Nat} {bb : Bool} (ho : l[i]? = some o) (hg : o.guard = some (j, bb)) (hj : l[j]? = some oj) (hd : oj.dst = some d) (ht : ts[d]? = some (.bool bb))
    (h : ∀ K' : Act → World → Prop, Shut (∀ a w, S w → (S w → SeqO P l.toArray Q S rest a w) → K' a w) → Oper.wp P o ⟨ts.toArray, ds⟩ w K' Q) : SeqO P l.toArray Q S ((i, true) :: rest) ⟨ts.toArray, ds⟩ w :=
  SeqO.step (by simpa using ho) fun K' hK => by rw [if_pos (wanted_at hg hj hd ht)]; exact h K' hK
end
end Go.Proofs.YtheebajklnljdaaDoor
