/- The plain law of the checksum: CRC-32C, bit by bit, on natural numbers. -/
namespace Go.Proofs.YtejehdmllicfcaaDoor

/-- the polynomial -/
def crcP : Nat := 2197175160

/-- one bit of the register is shifted out -/
def crcBit (r : Nat) : Nat := if r % 2 = 1 then r / 2 ^^^ crcP else r / 2

/-- k bits are shifted out -/
def crcBits : Nat → Nat → Nat
  | 0, r => r
  | k + 1, r => crcBits k (crcBit r)

/-- one byte is taken in -/
def crcByte (r : Nat) (c : Nat) : Nat := crcBits 8 (r ^^^ c)

/-- the register behind a string -/
def crcReg (r : Nat) (l : List UInt8) : Nat := l.foldl (fun r b => crcByte r b.toNat) r

/-- what Sum returns -/
def sumL (l : List UInt8) : Nat := 4294967295 - crcReg 4294967295 l

def nibT : List Nat := [0, 274646895, 549293790, 820201905, 1098587580, 1361435347, 1640403810, 1905808397, 2197175160, 2460548119, 2722870694, 2987750089, 3280807620, 3553878443, 3811616794, 4084100981]

def crcNib (r : Nat) : Nat := r / 16 ^^^ nibT.getD (r % 16) 0

theorem xor_lt32 {a b : Nat} (ha : a < 4294967296) (hb : b < 4294967296) : a ^^^ b < 4294967296 := Nat.xor_lt_two_pow (n := 32) ha hb

theorem crcBit_lt {r : Nat} (h : r < 4294967296) : crcBit r < 4294967296 := by
  unfold crcBit; split
  · exact xor_lt32 (by omega) (by decide)
  · omega

theorem crcBits_lt : ∀ (k : Nat) {r : Nat}, r < 4294967296 → crcBits k r < 4294967296
  | 0, _, h => h
  | k + 1, _, h => crcBits_lt k (crcBit_lt h)

theorem crcByte_lt {r c : Nat} (h : r < 4294967296) (hc : c < 256) : crcByte r c < 4294967296 := crcBits_lt 8 (xor_lt32 h (by omega))

theorem crcReg_lt (l : List UInt8) : ∀ {r : Nat}, r < 4294967296 → crcReg r l < 4294967296 := by
  induction l with
  | nil => intro r h; exact h
  | cons b l ih => intro r h; exact ih (crcByte_lt h b.toNat_lt)

theorem xor_mod2 (a b : Nat) : (a ^^^ b) % 2 = (a % 2 + b % 2) % 2 := by
  have h := Nat.xor_mod_two_pow (a := a) (b := b) (n := 1)
  simp only [Nat.pow_one] at h
  rw [h]
  rcases Nat.mod_two_eq_zero_or_one a with ha | ha <;> rcases Nat.mod_two_eq_zero_or_one b with hb | hb <;> rw [ha, hb] <;> rfl

theorem xor_div2 (a b : Nat) : (a ^^^ b) / 2 = a / 2 ^^^ b / 2 := by
  have := Nat.shiftRight_xor_distrib (a := a) (b := b) (i := 1)
  simpa [Nat.shiftRight_succ] using this

theorem crcBit_xor (a b : Nat) : crcBit (a ^^^ b) = crcBit a ^^^ crcBit b := by
  unfold crcBit
  rw [xor_mod2, xor_div2]
  generalize a / 2 = x, b / 2 = y, crcP = p
  rcases Nat.mod_two_eq_zero_or_one a with ha | ha <;> rcases Nat.mod_two_eq_zero_or_one b with hb | hb <;> rw [ha, hb]
  · rfl
  · exact Nat.xor_assoc x y p
  · show x ^^^ y ^^^ p = x ^^^ p ^^^ y
    ac_rfl
  · show x ^^^ y = (x ^^^ p) ^^^ (y ^^^ p)
    have : (x ^^^ p) ^^^ (y ^^^ p) = (x ^^^ y) ^^^ (p ^^^ p) := by ac_rfl
    rw [this, Nat.xor_self, Nat.xor_zero]

theorem crcBits_xor : ∀ (k a b : Nat), crcBits k (a ^^^ b) = crcBits k a ^^^ crcBits k b
  | 0, _, _ => rfl
  | k + 1, a, b => by simp only [crcBits]; rw [crcBit_xor, crcBits_xor k]

theorem crcBits_add : ∀ (j k r : Nat), crcBits (j + k) r = crcBits k (crcBits j r)
  | 0, k, r => by simp [crcBits]
  | j + 1, k, r => by rw [show j + 1 + k = (j + k) + 1 by omega]; simp only [crcBits]; rw [crcBits_add j k]

theorem crcBit_zero : crcBit 0 = 0 := by decide

theorem crcBits_zero : ∀ k, crcBits k 0 = 0
  | 0 => rfl
  | k + 1 => by simp only [crcBits]; rw [crcBit_zero, crcBits_zero k]

theorem crcBit_even (r : Nat) : crcBit (2 * r) = r := by unfold crcBit; rw [if_neg (by omega)]; omega

/-- a set bit above comes down -/
theorem crcBits_shift : ∀ (k r : Nat), crcBits k (r * 2 ^ k) = r
  | 0, r => by simp [crcBits]
  | k + 1, r => by
    simp only [crcBits]
    rw [show r * 2 ^ (k + 1) = 2 * (r * 2 ^ k) by rw [Nat.pow_succ]; rw [← Nat.mul_assoc]; omega, crcBit_even, crcBits_shift k]

theorem crcBit_inj0 {r : Nat} (h : r < 4294967296) (h0 : crcBit r = 0) : r = 0 := by
  unfold crcBit at h0
  split at h0
  · have : r / 2 = crcP := by
      have := congrArg (· ^^^ crcP) h0
      simpa [Nat.xor_assoc] using this
    unfold crcP at this; omega
  · omega

theorem crcBits_inj0 : ∀ (k : Nat) {r : Nat}, r < 4294967296 → crcBits k r = 0 → r = 0
  | 0, _, _, h0 => h0
  | k + 1, _, h, h0 => crcBit_inj0 h (crcBits_inj0 k (crcBit_lt h) h0)

theorem xor_low (h l : Nat) (hl : l < 16) : 16 * h + l = 16 * h ^^^ l := by
  apply Nat.eq_of_testBit_eq
  intro i
  rw [Nat.testBit_xor, show 16 * h + l = 2 ^ 4 * h + l by omega, show 16 * h = 2 ^ 4 * h by omega, Nat.testBit_two_pow_mul_add _ (by omega), Nat.testBit_two_pow_mul]
  by_cases hi : i < 4
  · simp [hi, Nat.not_le.2 hi]
  · have : l.testBit i = false := Nat.testBit_lt_two_pow (Nat.lt_of_lt_of_le hl (by rw [show (16 : Nat) = 2 ^ 4 by decide]; exact Nat.pow_le_pow_right (by decide) (by omega)))
    simp [hi, this, Nat.not_lt.1 hi]

theorem crcNib_eq (r : Nat) : crcNib r = crcBits 4 r := by
  have hr : r = 16 * (r / 16) ^^^ (r % 16) := by rw [← xor_low _ _ (Nat.mod_lt _ (by omega))]; omega
  have hh : crcBits 4 (16 * (r / 16)) = r / 16 := by
    have := crcBits_shift 4 (r / 16)
    rwa [Nat.mul_comm] at this
  have hl : ∀ l, l < 16 → crcBits 4 l = nibT.getD l 0 := by decide
  have key : crcBits 4 r = crcBits 4 (16 * (r / 16) ^^^ (r % 16)) := by rw [← hr]
  rw [key, crcBits_xor, hh, hl _ (Nat.mod_lt _ (by omega))]
  rfl

theorem crcByte_nib (r c : Nat) : crcByte r c = crcNib (crcNib (r ^^^ c)) := by
  rw [crcNib_eq, crcNib_eq, ← crcBits_add]; rfl

theorem nibT_lt (i : Nat) : nibT.getD i 0 < 4294967296 := by
  rcases Nat.lt_or_ge i 16 with h | h
  · have : ∀ i, i < 16 → nibT.getD i 0 < 4294967296 := by decide
    exact this i h
  · rw [List.getD_eq_getElem?_getD, List.getElem?_eq_none (by exact h)]; decide

theorem crcReg_append (l m : List UInt8) (r : Nat) : crcReg r (l ++ m) = crcReg (crcReg r l) m := List.foldl_append

theorem ones_sub (r : Nat) (h : r < 4294967296) : 4294967295 ^^^ r = 4294967295 - r := by
  rw [Nat.xor_comm]
  apply Nat.eq_of_testBit_eq
  intro i
  rw [Nat.testBit_xor, show (4294967295 - r) = 2 ^ 32 - (r + 1) by omega, Nat.testBit_two_pow_sub_succ (by omega), show (4294967295 : Nat) = 2 ^ 32 - 1 by decide, Nat.testBit_two_pow_sub_one]
  by_cases hi : i < 32
  · simp [hi]
  · have : r.testBit i = false := Nat.testBit_lt_two_pow (Nat.lt_of_lt_of_le h (by rw [show (4294967296 : Nat) = 2 ^ 32 by decide]; exact Nat.pow_le_pow_right (by decide) (by omega)))
    simp [hi, this]

theorem sumL_lt (l : List UInt8) : sumL l < 4294967296 := by unfold sumL; omega

end Go.Proofs.YtejehdmllicfcaaDoor
