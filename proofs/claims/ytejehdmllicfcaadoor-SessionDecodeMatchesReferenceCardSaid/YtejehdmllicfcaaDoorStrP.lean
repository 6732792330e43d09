/- The plain law of strings in package wire. -/
import Derived.Test.YtejehdmllicfcaaDoorWireP
namespace Go.Proofs.YtejehdmllicfcaaDoor

/-- what PutString returns for a string of at most 65536 bytes -/
def putS (l : List UInt8) : List UInt8 := putL l.length ++ l

/-- what String returns -/
def getStr (l : List UInt8) (p : Int) : List UInt8 × Int × Int :=
  if (getInt l p).2.2 ≠ 0 then ([], 0, (getInt l p).2.2)
  else if (getInt l p).1 < 0 ∨ 65536 < (getInt l p).1 ∨ (l.length : Int) - (getInt l p).2.1 < (getInt l p).1 then ([], 0, 10)
  else ((l.drop (getInt l p).2.1.toNat).take (getInt l p).1.toNat, (getInt l p).2.1 + (getInt l p).1, 0)

theorem intOk_len (l : List UInt8) (h : l.length ≤ 65536) : IntOk l.length := ⟨by omega, by omega⟩

theorem getStr_put (l : List UInt8) (p : Nat) (t : List UInt8) (ht : t.length ≤ 65536) (rest : List UInt8) (h : l.drop p = putS t ++ rest) :
    getStr l p = (t, (p : Int) + ((putS t).length : Nat), 0) := by
  have h1 : l.drop p = putL t.length ++ (t ++ rest) := by rw [h, putS, List.append_assoc]
  have hg := getInt_put l p t.length (intOk_len t ht) (t ++ rest) h1
  have hd : l.drop (p + (putL t.length).length) = t ++ rest := by
    rw [← List.drop_drop, h1, List.drop_left]
  have hlen : p + (putL t.length).length + t.length ≤ l.length := by
    have := congrArg List.length h1
    simp only [List.length_drop, List.length_append] at this
    have hp := List.length_pos_iff.2 (putL_pos t.length)
    omega
  unfold getStr
  rw [hg]
  simp only [ne_eq, not_true_eq_false, if_false]
  rw [if_neg (by omega)]
  have e1 : ((p : Int) + ((putL t.length).length : Nat)).toNat = p + (putL t.length).length := by omega
  rw [e1, hd]
  simp only [Int.toNat_natCast, List.take_left, putS, List.length_append]
  refine Prod.ext rfl (Prod.ext ?_ rfl)
  simp only []
  omega

theorem getStr_ok (l : List UInt8) (p : Int) (t : List UInt8) (x : Int) (h : getStr l p = (t, x, 0)) :
    t.length ≤ 65536 ∧ 0 ≤ p ∧ p ≤ l.length ∧ x = p + (putS t).length ∧ ∃ rest, l.drop p.toNat = putS t ++ rest := by
  unfold getStr at h
  split at h
  · rename_i hne
    simp only [Prod.mk.injEq] at h
    exact (hne h.2.2).elim
  · rename_i heq
    split at h
    · simp at h
    · rename_i hr
      obtain ⟨n, y, e⟩ : ∃ n y, getInt l p = (n, y, 0) := ⟨_, _, Prod.ext rfl (Prod.ext rfl (by simpa using heq))⟩
      rw [e] at h hr
      obtain ⟨hn, hp0, hpl, hy, rest, hd⟩ := getInt_ok l p n y e
      simp only [Prod.mk.injEq, and_true] at h
      obtain ⟨rfl, rfl⟩ := h
      simp only [not_or] at hr
      obtain ⟨hr1, hr2, hr3⟩ := hr
      have hlen := congrArg List.length hd
      simp only [List.length_drop, List.length_append] at hlen
      have hrest : l.drop y.toNat = rest := by
        rw [show y.toNat = p.toNat + (putL n).length by omega, ← List.drop_drop, hd, List.drop_left]
      have hle : n.toNat ≤ rest.length := by omega
      have htl : (rest.take n.toNat).length = n.toNat := by rw [List.length_take]; omega
      rw [hrest]
      have hnn : ((n.toNat : Nat) : Int) = n := by omega
      refine ⟨by omega, hp0, hpl, ?_, rest.drop n.toNat, ?_⟩
      · rw [putS, List.length_append, htl, hnn]; omega
      · rw [putS, htl, hnn, List.append_assoc, List.take_append_drop]; exact hd

theorem getStr_err (l : List UInt8) (p : Int) : (getStr l p).2.2 = 0 ∨ ((getStr l p).1 = [] ∧ (getStr l p).2.1 = 0 ∧ ((getStr l p).2.2 = 10 ∧ 0 ≤ p ∧ p ≤ l.length ∨ (getStr l p).2.2 = 2 ∧ (p < 0 ∨ (l.length : Int) < p))) := by
  unfold getStr
  split
  · rename_i h
    rcases getInt_err l p with h' | ⟨_, _, h'⟩
    · exact (h h').elim
    · exact .inr ⟨rfl, rfl, h'⟩
  · rename_i h
    have h0 : (getInt l p).2.2 = 0 := by simpa using h
    split
    · obtain ⟨n, y, e⟩ : ∃ n y, getInt l p = (n, y, 0) := ⟨_, _, Prod.ext rfl (Prod.ext rfl h0)⟩
      obtain ⟨_, hp0, hpl, _⟩ := getInt_ok l p n y e
      exact .inr ⟨rfl, rfl, .inl ⟨rfl, hp0, hpl⟩⟩
    · exact .inl rfl

theorem getInt_cases (l : List UInt8) (z n x e : Int) (h : getInt l z = (n, x, e)) (h0 : 0 ≤ z) (h1 : z ≤ l.length) :
    (e = 0 ∧ IntOk n ∧ z ≤ x ∧ x ≤ l.length ∧ (l.drop z.toNat).take (x.toNat - z.toNat) = putL n) ∨ (e = 10 ∧ n = 0 ∧ x = 0) := by
  have he := getInt_err l z
  rw [h] at he
  simp only [] at he
  rcases he with rfl | ⟨hn, hx, ⟨he, _⟩ | ⟨_, hz⟩⟩
  · obtain ⟨hn, _, _, hx, rest, hd⟩ := getInt_ok l z n x h
    have hlen := congrArg List.length hd
    simp only [List.length_drop, List.length_append] at hlen
    have hp := List.length_pos_iff.2 (putL_pos n)
    refine .inl ⟨rfl, hn, by omega, by omega, ?_⟩
    rw [hd, show x.toNat - z.toNat = (putL n).length by omega, List.take_left]
  · exact .inr ⟨he, hn, hx⟩
  · omega

theorem getStr_cases (l : List UInt8) (z : Int) (v : List UInt8) (x e : Int) (h : getStr l z = (v, x, e)) (h0 : 0 ≤ z) (h1 : z ≤ l.length) :
    (e = 0 ∧ v.length ≤ 65536 ∧ z ≤ x ∧ x ≤ l.length ∧ (l.drop z.toNat).take (x.toNat - z.toNat) = putS v) ∨ (e = 10 ∧ v = [] ∧ x = 0) := by
  have he := getStr_err l z
  rw [h] at he
  simp only [] at he
  rcases he with rfl | ⟨hn, hx, ⟨he, _⟩ | ⟨_, hz⟩⟩
  · obtain ⟨hn, _, _, hx, rest, hd⟩ := getStr_ok l z v x h
    have hlen := congrArg List.length hd
    simp only [List.length_drop, List.length_append] at hlen
    have hp := List.length_pos_iff.2 (putL_pos v.length)
    have hp2 : (putL v.length).length ≤ (putS v).length := by rw [putS, List.length_append]; omega
    refine .inl ⟨rfl, hn, by omega, by omega, ?_⟩
    rw [hd, show x.toNat - z.toNat = (putS v).length by omega, List.take_left]
  · exact .inr ⟨he, hn, hx⟩
  · omega

end Go.Proofs.YtejehdmllicfcaaDoor
