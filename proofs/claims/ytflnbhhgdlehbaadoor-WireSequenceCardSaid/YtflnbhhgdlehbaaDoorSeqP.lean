/- The plain law of a concatenation of encodings. -/
import Derived.Test.YtflnbhhgdlehbaaDoorStrP
namespace Go.Proofs.YtflnbhhgdlehbaaDoor

/-- the encodings of integers and strings, one pair behind the other -/
def seqL : List (Int × List UInt8) → List UInt8
  | [] => []
  | (n, t) :: r => putL n ++ (putS t ++ seqL r)

theorem seqL_append (a b : List (Int × List UInt8)) : seqL (a ++ b) = seqL a ++ seqL b := by
  induction a with
  | nil => rfl
  | cons x a ih => obtain ⟨n, t⟩ := x; simp [seqL, ih]

theorem seqL_take (l : List (Int × List UInt8)) (k : Nat) (n : Int) (t : List UInt8) (h : l[k]? = some (n, t)) : seqL (l.take (k + 1)) = seqL (l.take k) ++ (putL n ++ putS t) := by
  rw [List.take_add_one, h, seqL_append]
  simp [seqL]

theorem seqL_drop (l : List (Int × List UInt8)) (k : Nat) : (seqL l).drop (seqL (l.take k)).length = seqL (l.drop k) := by
  have : seqL l = seqL (l.take k) ++ seqL (l.drop k) := by rw [← seqL_append, List.take_append_drop]
  rw [this, List.drop_left]

theorem seqL_drop_cons (l : List (Int × List UInt8)) (k : Nat) (n : Int) (t : List UInt8) (h : l[k]? = some (n, t)) : seqL (l.drop k) = putL n ++ (putS t ++ seqL (l.drop (k + 1))) := by
  have hk : k < l.length := (List.getElem?_eq_some_iff.1 h).1
  rw [List.drop_eq_getElem_cons hk]
  have : l[k] = (n, t) := by rw [List.getElem?_eq_getElem hk] at h; exact Option.some.inj h
  rw [this]; rfl

theorem seqL_int (l : List (Int × List UInt8)) (k : Nat) (n : Int) (t : List UInt8) (h : l[k]? = some (n, t)) (hn : IntOk n) :
    getInt (seqL l) (seqL (l.take k)).length = (n, ((seqL (l.take k)).length : Int) + ((putL n).length : Nat), 0) := by
  refine getInt_put _ _ _ hn (putS t ++ seqL (l.drop (k + 1))) ?_
  rw [seqL_drop, seqL_drop_cons _ _ _ _ h]

theorem seqL_str (l : List (Int × List UInt8)) (k : Nat) (n : Int) (t : List UInt8) (h : l[k]? = some (n, t)) (ht : t.length ≤ 65536) :
    getStr (seqL l) ((seqL (l.take k)).length + (putL n).length : Nat) = (t, ((seqL (l.take (k + 1))).length : Int), 0) := by
  have e := getStr_put (seqL l) ((seqL (l.take k)).length + (putL n).length) t ht (seqL (l.drop (k + 1))) (by
    rw [← List.drop_drop, seqL_drop, seqL_drop_cons _ _ _ _ h, List.drop_left])
  rw [e, seqL_take _ _ _ _ h]
  simp only [List.length_append]
  refine Prod.ext rfl (Prod.ext ?_ rfl)
  simp only []
  omega

theorem seqL_take_le (l : List (Int × List UInt8)) (k : Nat) : (seqL (l.take k)).length ≤ (seqL l).length := by
  have : seqL l = seqL (l.take k) ++ seqL (l.drop k) := by rw [← seqL_append, List.take_append_drop]
  rw [this, List.length_append]
  omega

theorem seqL_end (l : List UInt8) : getInt l (l.length : Nat) = (0, 0, 10) := by
  unfold getInt
  rw [if_neg (by omega), Int.toNat_natCast, List.drop_length]
  rfl

theorem seqL_len (l : List (Int × List UInt8)) (h : ∀ x ∈ l, x.2.length ≤ 100) : (seqL l).length ≤ 118 * l.length := by
  induction l with
  | nil => simp [seqL]
  | cons x l ih =>
    obtain ⟨n, t⟩ := x
    have h1 := ih (fun y hy => h y (by simp [hy]))
    have h2 := h (n, t) (by simp)
    have h3 := putL_len n
    have h4 := putL_len t.length
    simp only [seqL, putS, List.length_append, List.length_cons] at *
    omega

end Go.Proofs.YtflnbhhgdlehbaaDoor
