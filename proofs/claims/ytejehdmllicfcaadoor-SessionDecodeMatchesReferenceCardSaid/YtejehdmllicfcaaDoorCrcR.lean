/- The plain law of the checksum of a string with changed bits. -/
import Derived.Test.YtejehdmllicfcaaDoorCrcQ
namespace Go.Proofs.YtejehdmllicfcaaDoor

theorem crcByte_xor (x y c : Nat) : crcByte (x ^^^ y) c = crcByte x c ^^^ crcBits 8 y := by
  unfold crcByte
  rw [← crcBits_xor]
  congr 1
  ac_rfl

theorem crcReg_xor (l : List UInt8) : ∀ x y, crcReg (x ^^^ y) l = crcReg x l ^^^ crcBits (8 * l.length) y := by
  induction l with
  | nil => intro x y; rfl
  | cons c l ih =>
    intro x y
    show crcReg (crcByte (x ^^^ y) c.toNat) l = crcReg (crcByte x c.toNat) l ^^^ _
    rw [crcByte_xor, ih, show 8 * (c :: l).length = 8 + 8 * l.length by simp only [List.length_cons]; omega, crcBits_add]

/-- bit k of a string is changed -/
def flip (l : List UInt8) (k : Nat) (v : UInt8) : List UInt8 := l.set (k / 8) v

theorem crcBits_pow (m i : Nat) (h : i ≤ m) : crcBits m (2 ^ i) = crcBits (m - i) 1 := by
  have e : m = i + (m - i) := by omega
  conv => lhs; rw [e, crcBits_add]
  congr 1
  have := crcBits_shift i 1
  rwa [Nat.one_mul] at this

theorem crcReg_flip (l : List UInt8) (k : Nat) (hk : k < 8 * l.length) (v : UInt8) (c : UInt8) (hc : l[k / 8]? = some c) (hv : v.toNat = c.toNat ^^^ 2 ^ (k % 8)) (r : Nat) :
    crcReg r (flip l k v) = crcReg r l ^^^ crcBits (8 * l.length - k) 1 := by
  have hlt : k / 8 < l.length := by omega
  have hl : l = l.take (k / 8) ++ c :: l.drop (k / 8 + 1) := by
    have h1 : l[k / 8] = c := by
      rw [List.getElem?_eq_getElem hlt] at hc; exact Option.some.inj hc
    rw [← h1, List.getElem_cons_drop, List.take_append_drop]
  have hf : flip l k v = l.take (k / 8) ++ v :: l.drop (k / 8 + 1) := by
    unfold flip; rw [List.set_eq_take_append_cons_drop, if_pos hlt]
  have hb : crcByte (crcReg r (l.take (k / 8))) v.toNat = crcByte (crcReg r (l.take (k / 8))) c.toNat ^^^ crcBits 8 (2 ^ (k % 8)) := by
    unfold crcByte
    rw [hv, ← crcBits_xor]
    congr 1
    ac_rfl
  have e1 : crcReg r (flip l k v) = crcReg (crcByte (crcReg r (l.take (k / 8))) v.toNat) (l.drop (k / 8 + 1)) := by
    rw [hf, crcReg_append]; rfl
  have e2 : crcReg r l = crcReg (crcByte (crcReg r (l.take (k / 8))) c.toNat) (l.drop (k / 8 + 1)) := by
    conv => lhs; rw [hl]
    rw [crcReg_append]; rfl
  rw [e1, e2, hb, crcReg_xor, ← crcBits_add, List.length_drop]
  congr 1
  rw [crcBits_pow _ _ (by omega)]
  congr 1
  omega

theorem flip_length (l : List UInt8) (k : Nat) (v : UInt8) : (flip l k v).length = l.length := by simp [flip]

theorem mod_pow_succ (b i : Nat) : b % 2 ^ (i + 1) = if b / 2 ^ i % 2 = 1 then b % 2 ^ i ^^^ 2 ^ i else b % 2 ^ i := by
  apply Nat.eq_of_testBit_eq
  intro j
  rw [Nat.testBit_mod_two_pow]
  have hbit : (b / 2 ^ i % 2 = 1) ↔ b.testBit i = true := by
    rw [Nat.testBit_eq_decide_div_mod_eq, decide_eq_true_eq]
  split
  · rename_i h
    rw [Nat.testBit_xor, Nat.testBit_mod_two_pow, Nat.testBit_two_pow]
    rcases Nat.lt_trichotomy j i with hj | hj | hj
    · simp [hj, show j < i + 1 by omega, show ¬ i = j by omega]
    · subst hj; simp [hbit.1 h]
    · simp [show ¬ j < i + 1 by omega, show ¬ j < i by omega, show ¬ i = j by omega]
  · rename_i h
    rw [Nat.testBit_mod_two_pow]
    rcases Nat.lt_trichotomy j i with hj | hj | hj
    · simp [hj, show j < i + 1 by omega]
    · subst hj
      have : b.testBit j = false := by
        cases hb : b.testBit j
        · rfl
        · exact (h (hbit.2 hb)).elim
      simp [this]
    · simp [show ¬ j < i + 1 by omega, show ¬ j < i by omega]

/-- What a burst of changed bits does to the register: one step. -/
theorem burst_step (R : Nat) (l0 l : List UInt8) (b from' i : Nat) (hl : l.length = l0.length) (hi : from' + i < 8 * l0.length)
    (h : crcReg R l = crcReg R l0 ^^^ crcBits (8 * l0.length - from') (b % 2 ^ i)) (hb : b / 2 ^ i % 2 = 1)
    (v c : UInt8) (hc : l[(from' + i) / 8]? = some c) (hv : v.toNat = c.toNat ^^^ 2 ^ ((from' + i) % 8)) :
    crcReg R (flip l (from' + i) v) = crcReg R l0 ^^^ crcBits (8 * l0.length - from') (b % 2 ^ (i + 1)) := by
  rw [crcReg_flip l (from' + i) (by omega) v c hc hv R, h, mod_pow_succ, if_pos hb, crcBits_xor, Nat.xor_assoc, crcBits_pow _ _ (by omega), hl]
  congr 3
  omega

theorem burst_skip (b i : Nat) (hb : ¬ b / 2 ^ i % 2 = 1) : b % 2 ^ (i + 1) = b % 2 ^ i := by rw [mod_pow_succ, if_neg hb]

theorem sumL_burst (l0 l : List UInt8) (b m i : Nat) (hb : b < 4294967296)
    (h : crcReg 4294967295 l = crcReg 4294967295 l0 ^^^ crcBits m (b % 2 ^ i)) : (sumL l = sumL l0) ↔ b % 2 ^ i = 0 := by
  have hlt : b % 2 ^ i < 4294967296 := Nat.lt_of_le_of_lt (Nat.mod_le _ _) hb
  rw [sumL_eq, sumL_eq, h]
  generalize hM : (4294967295 : Nat) = M
  generalize crcReg M l0 = x
  constructor
  · intro e
    refine crcBits_inj0 m hlt ?_
    have := congrArg (fun t => x ^^^ (M ^^^ t)) e
    have e2 : ∀ y, x ^^^ (M ^^^ (M ^^^ y)) = x ^^^ y := by
      intro y; rw [← Nat.xor_assoc M, Nat.xor_self, Nat.zero_xor]
    simp only [e2, Nat.xor_self] at this
    rwa [← Nat.xor_assoc, Nat.xor_self, Nat.zero_xor] at this
  · intro e
    rw [e, crcBits_zero, Nat.xor_zero]

end Go.Proofs.YtejehdmllicfcaaDoor
