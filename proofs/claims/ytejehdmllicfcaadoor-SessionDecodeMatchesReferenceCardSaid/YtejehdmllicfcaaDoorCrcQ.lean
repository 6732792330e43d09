/- The plain law of the checksum, further: it is affine, and a changed bit shifts it by a fixed number. -/
import Derived.Test.YtejehdmllicfcaaDoorCrcP
namespace Go.Proofs.YtejehdmllicfcaaDoor

/-- byte by byte -/
def xor3 : List UInt8 → List UInt8 → List UInt8 → List UInt8
  | a :: l, b :: m, c :: n => (a ^^^ b ^^^ c) :: xor3 l m n
  | _, _, _ => []

theorem crcReg_xor3 : ∀ (a b c : List UInt8), a.length = b.length → b.length = c.length → ∀ r1 r2 r3,
    crcReg (r1 ^^^ r2 ^^^ r3) (xor3 a b c) = crcReg r1 a ^^^ crcReg r2 b ^^^ crcReg r3 c
  | [], [], [], _, _, _, _, _ => rfl
  | a :: l, b :: m, c :: n, h1, h2, r1, r2, r3 => by
    have e : crcByte (r1 ^^^ r2 ^^^ r3) (a ^^^ b ^^^ c).toNat = crcByte r1 a.toNat ^^^ crcByte r2 b.toNat ^^^ crcByte r3 c.toNat := by
      unfold crcByte
      rw [← crcBits_xor, ← crcBits_xor, UInt8.toNat_xor, UInt8.toNat_xor]
      congr 1
      generalize a.toNat = x, b.toNat = y, c.toNat = z
      ac_rfl
    show crcReg (crcByte (r1 ^^^ r2 ^^^ r3) (a ^^^ b ^^^ c).toNat) (xor3 l m n) = _
    rw [e, crcReg_xor3 l m n (by simpa using h1) (by simpa using h2)]
    rfl
  | [], b :: m, _, h1, _, _, _, _ => by simp at h1
  | a :: l, [], _, h1, _, _, _, _ => by simp at h1
  | [], [], c :: n, _, h2, _, _, _ => by simp at h2
  | a :: l, b :: m, [], _, h2, _, _, _ => by simp at h2

theorem sumL_eq (l : List UInt8) : sumL l = 4294967295 ^^^ crcReg 4294967295 l := by
  rw [ones_sub _ (crcReg_lt l (by omega))]; rfl

theorem sumL_xor3 (a b c : List UInt8) (h1 : a.length = b.length) (h2 : b.length = c.length) : sumL (xor3 a b c) = sumL a ^^^ sumL b ^^^ sumL c := by
  simp only [sumL_eq]
  have e := crcReg_xor3 a b c h1 h2 4294967295 4294967295 4294967295
  rw [Nat.xor_self, Nat.zero_xor] at e
  rw [e]
  generalize crcReg 4294967295 a = x, crcReg 4294967295 b = y, crcReg 4294967295 c = z
  generalize hM : (4294967295 : Nat) = M
  have : (M ^^^ x) ^^^ (M ^^^ y) ^^^ (M ^^^ z) = (M ^^^ M) ^^^ (M ^^^ (x ^^^ y ^^^ z)) := by ac_rfl
  rw [this, Nat.xor_self, Nat.zero_xor]

theorem xor3_length : ∀ (a b c : List UInt8), a.length = b.length → b.length = c.length → (xor3 a b c).length = a.length
  | [], [], [], _, _ => rfl
  | _ :: l, _ :: m, _ :: n, h1, h2 => by
    simp only [xor3, List.length_cons]
    rw [xor3_length l m n (by simpa using h1) (by simpa using h2)]
  | [], b :: m, _, h1, _ => by simp at h1
  | a :: l, [], _, h1, _ => by simp at h1
  | [], [], c :: n, _, h2 => by simp at h2
  | a :: l, b :: m, [], _, h2 => by simp at h2

theorem xor3_get : ∀ (a b c : List UInt8) (k : Nat) (ha : k < a.length) (hb : k < b.length) (hc : k < c.length), (xor3 a b c)[k]? = some (a[k] ^^^ b[k] ^^^ c[k])
  | _ :: _, _ :: _, _ :: _, 0, _, _, _ => rfl
  | _ :: l, _ :: m, _ :: n, k + 1, ha, hb, hc => by
    simp only [xor3, List.getElem?_cons_succ, List.getElem_cons_succ]
    exact xor3_get l m n k (by simpa using ha) (by simpa using hb) (by simpa using hc)
  | [], _, _, _, ha, _, _ => by simp at ha
  | _ :: _, [], _, _, _, hb, _ => by simp at hb
  | _ :: _, _ :: _, [], _, _, _, hc => by simp at hc

end Go.Proofs.YtejehdmllicfcaaDoor
