/- The plain law of package wire: what the encodings of integers and strings are, and that they are read back. No program in sight. -/
namespace Go.Proofs.YtejehdmllicfcaaDoor

/-- the groups of z, of at most f groups -/
def grp : Nat → Nat → List (Nat × Bool)
  | 0, _ => []
  | f + 1, z => if z < 128 then [(z, true)] else (z % 128, false) :: grp f (z / 128)

/-- a group's byte -/
def encB (x : Nat × Bool) : UInt8 := UInt8.ofNat (if x.2 then x.1 else x.1 + 128)

/-- the number that is encoded for n -/
def zz (n : Int) : Nat := if n < 0 then (2 * (-n) - 1).toNat else (2 * n).toNat

/-- the integer of a number -/
def unzz (z : Nat) : Int := if z % 2 = 0 then (z / 2 : Nat) else -((z / 2 : Nat) : Int) - 1

/-- what PutInt returns for an integer with an encoding -/
def putL (n : Int) : List UInt8 := (grp 9 (zz n)).map encB

/-- the integers that have an encoding -/
def IntOk (n : Int) : Prop := -4611686018427387903 ≤ n ∧ n ≤ 4611686018427387903

theorem zz_lt (n : Int) (h1 : -4611686018427387903 ≤ n) (h2 : n ≤ 4611686018427387903) : zz n < 2 ^ 63 := by
  unfold zz; split <;> omega

theorem unzz_zz (n : Int) : unzz (zz n) = n := by
  unfold unzz zz; split <;> split <;> omega

theorem zz_unzz (z : Nat) : zz (unzz z) = z := by
  unfold unzz zz; split <;> split <;> omega

theorem encB_toNat (x : Nat × Bool) (h : x.1 < 128) : ((encB x).toNat : Int) = if x.2 then (x.1 : Int) else (x.1 : Int) + 128 := by
  unfold encB
  rw [UInt8.toNat_ofNat']
  split <;> omega

theorem encB_nat (x : Nat × Bool) (h : x.1 < 128) : (encB x).toNat = if x.2 then x.1 else x.1 + 128 := by
  unfold encB
  rw [UInt8.toNat_ofNat']
  split <;> omega

/-- reading an integer: f bytes at most, i bytes have been read and make acc; the value and how many bytes it has -/
def dec : Nat → Nat → Nat → List UInt8 → Option (Int × Nat)
  | 0, _, _, _ => none
  | _ + 1, _, _, [] => none
  | f + 1, i, acc, b :: r =>
    if 128 ≤ b.toNat then dec f (i + 1) (acc + b.toNat % 128 * 2 ^ (7 * i)) r
    else if (b.toNat = 0 ∧ 0 < i) ∨ unzz (acc + b.toNat % 128 * 2 ^ (7 * i)) < -4611686018427387903 then none
    else some (unzz (acc + b.toNat % 128 * 2 ^ (7 * i)), i + 1)

/-- what Int returns: the value, the offset behind it, the error -/
def getInt (l : List UInt8) (at' : Int) : Int × Int × Int :=
  if at' < 0 ∨ (l.length : Int) < at' then (0, 0, 2)
  else match dec 9 0 0 (l.drop at'.toNat) with
    | none => (0, 0, 10)
    | some (n, k) => (n, at' + k, 0)

theorem pow7 (i : Nat) : 2 ^ (7 * (i + 1)) = 128 * 2 ^ (7 * i) := by
  rw [Nat.mul_succ, Nat.pow_add, Nat.mul_comm]

theorem grp_pos (f y : Nat) (h : 1 ≤ f) : grp f y ≠ [] := by
  cases f with
  | zero => omega
  | succ f => unfold grp; split <;> simp

theorem grp_len (f y : Nat) : (grp f y).length ≤ f := by
  induction f generalizing y with
  | zero => simp [grp]
  | succ f ih => unfold grp; split <;> simp; exact ih _

theorem dec_grp : ∀ (f y i acc : Nat) (rest : List UInt8), y < 2 ^ (7 * f) → 1 ≤ f →
    dec f i acc ((grp f y).map encB ++ rest) =
      if (y = 0 ∧ 0 < i) ∨ unzz (acc + y * 2 ^ (7 * i)) < -4611686018427387903 then none else some (unzz (acc + y * 2 ^ (7 * i)), i + (grp f y).length)
  | 0, _, _, _, _, _, h => by omega
  | f + 1, y, i, acc, rest, hy, _ => by
    by_cases h : y < 128
    · have e := encB_nat (y, true) h
      simp only [if_true] at e
      have hm : y % 128 = y := Nat.mod_eq_of_lt h
      rw [grp, if_pos h]
      simp only [List.map_cons, List.map_nil, List.cons_append, List.nil_append, dec, e]
      rw [if_neg (by omega), hm]
      rfl
    · have hm : y % 128 < 128 := Nat.mod_lt _ (by omega)
      have e := encB_nat (y % 128, false) hm
      simp only [Bool.false_eq_true, if_false] at e
      have hf : 1 ≤ f := by
        rcases Nat.eq_zero_or_pos f with h' | h'
        · subst h'; simp at hy; omega
        · exact h'
      have hy' : y / 128 < 2 ^ (7 * f) := by rw [pow7] at hy; exact Nat.div_lt_of_lt_mul hy
      rw [grp, if_neg h]
      simp only [List.map_cons, List.cons_append, dec, e]
      rw [if_pos (by omega), dec_grp f (y / 128) (i + 1) _ rest hy' hf]
      have e1 : (y % 128 + 128) % 128 = y % 128 := by omega
      have e2 : acc + y % 128 * 2 ^ (7 * i) + y / 128 * 2 ^ (7 * (i + 1)) = acc + y * 2 ^ (7 * i) := by
        rw [pow7, ← Nat.mul_assoc, Nat.add_assoc, ← Nat.add_mul]
        congr 2; omega
      have e3 : y / 128 ≠ 0 := by omega
      have e4 : y ≠ 0 := by omega
      rw [e1, e2]
      simp only [e3, e4, false_and, false_or, List.length_cons]
      rw [show i + 1 + (grp f (y / 128)).length = i + ((grp f (y / 128)).length + 1) by omega]

theorem dec_some : ∀ (f i acc : Nat) (l : List UInt8) (n : Int) (k : Nat), dec f i acc l = some (n, k) →
    ∃ y, y < 2 ^ (7 * f) ∧ (y = 0 → i = 0) ∧ -4611686018427387903 ≤ n ∧ n = unzz (acc + y * 2 ^ (7 * i)) ∧ k = i + (grp f y).length ∧ ∃ rest, l = (grp f y).map encB ++ rest
  | 0, _, _, _, _, _, h => by simp [dec] at h
  | f + 1, _, _, [], _, _, h => by simp [dec] at h
  | f + 1, i, acc, b :: r, n, k, h => by
    simp only [dec] at h
    have hb : b.toNat < 256 := b.toNat_lt
    by_cases h1 : 128 ≤ b.toNat
    · rw [if_pos h1] at h
      obtain ⟨y, hy, h0, hn, en, ek, rest, er⟩ := dec_some f (i + 1) _ r n k h
      have hy0 : y ≠ 0 := fun e => by have := h0 e; omega
      have hlt : ¬ (b.toNat % 128 + 128 * y < 128) := by omega
      have hmod : (b.toNat % 128 + 128 * y) % 128 = b.toNat % 128 := by omega
      have hdiv : (b.toNat % 128 + 128 * y) / 128 = y := by omega
      refine ⟨b.toNat % 128 + 128 * y, ?_, fun e => by omega, hn, ?_, ?_, rest, ?_⟩
      · rw [pow7]; omega
      · rw [en, pow7, ← Nat.mul_assoc, Nat.add_assoc, ← Nat.add_mul, Nat.mul_comm y 128]
      · rw [grp, if_neg hlt, hdiv, ek]; simp; omega
      · rw [grp, if_neg hlt, hmod, hdiv, er]
        have : encB (b.toNat % 128, false) = b := by
          apply UInt8.toNat.inj
          rw [encB_nat _ (Nat.mod_lt _ (by omega))]
          simp; omega
        simp [this]
    · rw [if_neg h1] at h
      split at h
      · cases h
      · rename_i h2
        simp only [Option.some.injEq, Prod.mk.injEq] at h
        obtain ⟨rfl, rfl⟩ := h
        have hm : b.toNat % 128 = b.toNat := Nat.mod_eq_of_lt (by omega)
        rw [hm] at h2 ⊢
        refine ⟨b.toNat, ?_, fun e => ?_, ?_, rfl, ?_, r, ?_⟩
        · rw [pow7]; have : 0 < 2 ^ (7 * f) := Nat.two_pow_pos _; omega
        · rcases Nat.eq_zero_or_pos i with h' | h'
          · exact h'
          · exact (h2 (.inl ⟨e, h'⟩)).elim
        · have := not_or.1 h2; omega
        · rw [grp, if_pos (by omega)]; rfl
        · rw [grp, if_pos (by omega)]
          have : encB (b.toNat, true) = b := by
            apply UInt8.toNat.inj
            rw [encB_nat _ (by simp; omega)]
            simp
          simp [this]

/-- D1: an encoding is read back. -/
theorem getInt_put (l : List UInt8) (at' : Nat) (n : Int) (hn : IntOk n) (rest : List UInt8) (h : l.drop at' = putL n ++ rest) :
    getInt l (at' : Int) = (n, (at' : Int) + ((putL n).length : Nat), 0) := by
  have hz := zz_lt n hn.1 hn.2
  have hlen : at' ≤ l.length := by
    rcases Nat.lt_or_ge l.length at' with h' | h'
    · rw [List.drop_eq_nil_of_le (by omega)] at h
      have := grp_pos 9 (zz n) (by omega)
      simp [putL] at h
      exact absurd h.1 this
    · exact h'
  unfold getInt
  rw [if_neg (by omega), Int.toNat_natCast, h]
  unfold putL
  rw [dec_grp 9 (zz n) 0 0 rest hz (by omega)]
  simp only [Nat.lt_irrefl, and_false, false_or, Nat.mul_zero, Nat.pow_zero, Nat.mul_one, Nat.zero_add, unzz_zz, List.length_map]
  rw [if_neg (by have := hn.1; omega)]

/-- D2: what is read is an encoding. -/
theorem getInt_ok (l : List UInt8) (at' n x : Int) (h : getInt l at' = (n, x, 0)) :
    IntOk n ∧ 0 ≤ at' ∧ at' ≤ l.length ∧ x = at' + (putL n).length ∧ ∃ rest, l.drop at'.toNat = putL n ++ rest := by
  unfold getInt at h
  split at h
  · simp at h
  · rename_i h1
    split at h
    · simp at h
    · rename_i n' k hd
      simp only [Prod.mk.injEq, and_true] at h
      obtain ⟨rfl, rfl⟩ := h
      obtain ⟨y, hy, _, hn, en, ek, rest, er⟩ := dec_some _ _ _ _ _ _ hd
      simp only [Nat.mul_zero, Nat.pow_zero, Nat.mul_one, Nat.zero_add] at en ek
      have hzz : zz n' = y := by rw [en, zz_unzz]
      have hput : putL n' = (grp 9 y).map encB := by unfold putL; rw [hzz]
      refine ⟨⟨hn, ?_⟩, by omega, by omega, ?_, rest, ?_⟩
      · rw [en]; unfold unzz; split <;> omega
      · rw [hput, List.length_map, ek]
      · rw [hput]; exact er

theorem dec_put (n : Int) (hn : IntOk n) (rest : List UInt8) : dec 9 0 0 (putL n ++ rest) = some (n, (putL n).length) := by
  have hz := zz_lt n hn.1 hn.2
  unfold putL
  rw [dec_grp 9 (zz n) 0 0 rest hz (by omega)]
  simp only [Nat.lt_irrefl, and_false, false_or, Nat.mul_zero, Nat.pow_zero, Nat.mul_one, Nat.zero_add, unzz_zz, List.length_map]
  rw [if_neg (by have := hn.1; omega)]

theorem dec_none_ne {L : List UInt8} (h : dec 9 0 0 L = none) {m : Int} (hm : IntOk m) (j : Nat) : putL m ≠ L.take j := by
  intro e
  have := dec_put m hm (L.drop j)
  rw [e, List.take_append_drop, h] at this
  cases this

theorem dec_some_take {L : List UInt8} {m : Int} {k : Nat} (h : dec 9 0 0 L = some (m, k)) : putL m = L.take k ∧ k = (putL m).length ∧ IntOk m ∧ k ≤ L.length := by
  obtain ⟨y, hy, _, hn, en, ek, rest, er⟩ := dec_some _ _ _ _ _ _ h
  simp only [Nat.mul_zero, Nat.pow_zero, Nat.mul_one, Nat.zero_add] at en ek
  have hzz : zz m = y := by rw [en, zz_unzz]
  have hput : putL m = (grp 9 y).map encB := by unfold putL; rw [hzz]
  have hk : k = (putL m).length := by rw [hput, List.length_map, ek]
  rw [← hput] at er
  refine ⟨by rw [er, hk, List.take_left], hk, ⟨hn, ?_⟩, by rw [er, hk]; simp⟩
  rw [en]; unfold unzz; split <;> omega

theorem getInt_err (l : List UInt8) (at' : Int) : (getInt l at').2.2 = 0 ∨ ((getInt l at').1 = 0 ∧ (getInt l at').2.1 = 0 ∧ ((getInt l at').2.2 = 10 ∧ 0 ≤ at' ∧ at' ≤ l.length ∨ (getInt l at').2.2 = 2 ∧ (at' < 0 ∨ (l.length : Int) < at'))) := by
  unfold getInt
  split
  · rename_i h; exact .inr ⟨rfl, rfl, .inr ⟨rfl, h⟩⟩
  · rename_i h
    split
    · exact .inr ⟨rfl, rfl, .inl ⟨rfl, by omega, by omega⟩⟩
    · exact .inl rfl

theorem putL_pos (n : Int) : putL n ≠ [] := by
  unfold putL; have := grp_pos 9 (zz n) (by omega); simpa using this

theorem putL_len (n : Int) : (putL n).length ≤ 9 := by
  unfold putL; have := grp_len 9 (zz n); simpa using this

/-- Two encodings at the head of one list are of one integer. -/
theorem putL_prefix (n m : Int) (hn : IntOk n) (hm : IntOk m) (r s : List UInt8) (h : putL n ++ r = putL m ++ s) : n = m := by
  have h1 := getInt_put (putL n ++ r) 0 n hn r (by simp)
  have h2 := getInt_put (putL n ++ r) 0 m hm s (by simpa using h)
  rw [h1] at h2
  exact congrArg (fun t => t.1) h2

end Go.Proofs.YtejehdmllicfcaaDoor
