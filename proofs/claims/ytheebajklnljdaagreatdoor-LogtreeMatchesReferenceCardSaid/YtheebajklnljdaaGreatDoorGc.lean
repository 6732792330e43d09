/- Joined: ShaP WireP StrP TreeP LogP TreeQ TreeV LogQ. -/

section
/- SHA-256, as plain Lean. -/
namespace Go.Proofs.YtheebajklnljdaaGreatDoor

def rotN (x n : Nat) : Nat := (x / 2 ^ n) ||| (x * 2 ^ (32 - n) % 4294967296)
def s0N (x : Nat) : Nat := rotN x 7 ^^^ rotN x 18 ^^^ (x / 2 ^ 3)
def s1N (x : Nat) : Nat := rotN x 17 ^^^ rotN x 19 ^^^ (x / 2 ^ 10)
def b0N (x : Nat) : Nat := rotN x 2 ^^^ rotN x 13 ^^^ rotN x 22
def b1N (x : Nat) : Nat := rotN x 6 ^^^ rotN x 11 ^^^ rotN x 25
def chN (e f g : Nat) : Nat := (e &&& f) ^^^ ((4294967295 - e) &&& g)
def majN (a b c : Nat) : Nat := (a &&& b) ^^^ (a &&& c) ^^^ (b &&& c)

def k256 : List Nat := [1116352408, 1899447441, 3049323471, 3921009573, 961987163, 1508970993, 2453635748, 2870763221, 3624381080, 310598401, 607225278, 1426881987, 1925078388, 2162078206, 2614888103, 3248222580, 3835390401, 4022224774, 264347078, 604807628, 770255983, 1249150122, 1555081692, 1996064986, 2554220882, 2821834349, 2952996808, 3210313671, 3336571891, 3584528711, 113926993, 338241895, 666307205, 773529912, 1294757372, 1396182291, 1695183700, 1986661051, 2177026350, 2456956037, 2730485921, 2820302411, 3259730800, 3345764771, 3516065817, 3600352804, 4094571909, 275423344, 430227734, 506948616, 659060556, 883997877, 958139571, 1322822218, 1537002063, 1747873779, 1955562222, 2024104815, 2227730452, 2361852424, 2428436474, 2756734187, 3204031479, 3329325298]

/-- the eight words -/
structure V8 where
  (a b c d e f g h : Nat)
deriving DecidableEq

def V8.toL (v : V8) : List Nat := [v.a, v.b, v.c, v.d, v.e, v.f, v.g, v.h]

def iv : V8 := ⟨1779033703, 3144134277, 1013904242, 2773480762, 1359893119, 2600822924, 528734635, 1541459225⟩

def rndT (v : V8) (k w : Nat) : Nat := (v.h + b1N v.e + chN v.e v.f v.g + k + w) % 4294967296
def rndU (v : V8) : Nat := (b0N v.a + majN v.a v.b v.c) % 4294967296
def rnd (v : V8) (k w : Nat) : V8 :=
  ⟨(rndT v k w + rndU v) % 4294967296, v.a, v.b, v.c, (v.d + rndT v k w) % 4294967296, v.e, v.f, v.g⟩

def nextW (l : List Nat) : Nat :=
  (l.getD (l.length - 16) 0 + s0N (l.getD (l.length - 15) 0) + l.getD (l.length - 7) 0 + s1N (l.getD (l.length - 2) 0)) % 4294967296

def schedN : Nat → List Nat → List Nat
  | 0, l => l
  | n + 1, l => schedN n (l ++ [nextW l])

def byteN (l : List UInt8) (i : Nat) : Nat := (l.getD i 0).toNat
def be4 (l : List UInt8) (i : Nat) : Nat := byteN l (4 * i) * 16777216 + byteN l (4 * i + 1) * 65536 + byteN l (4 * i + 2) * 256 + byteN l (4 * i + 3)
def words16 (l : List UInt8) : List Nat := (List.range 16).map (be4 l)
def add8 (h v : V8) : V8 :=
  ⟨(h.a + v.a) % 4294967296, (h.b + v.b) % 4294967296, (h.c + v.c) % 4294967296, (h.d + v.d) % 4294967296,
   (h.e + v.e) % 4294967296, (h.f + v.f) % 4294967296, (h.g + v.g) % 4294967296, (h.h + v.h) % 4294967296⟩
def rounds (h : V8) (ps : List (Nat × Nat)) : V8 := ps.foldl (fun v p => rnd v p.1 p.2) h
def compress (h : V8) (blk : List UInt8) : V8 := add8 h (rounds h (k256.zip (schedN 48 (words16 blk))))

/-- the blocks of 64 bytes, one after the other -/
def blocksN : Nat → V8 → List UInt8 → V8
  | 0, h, _ => h
  | n + 1, h, l => blocksN n (compress h (l.take 64)) (l.drop 64)

def be8 (n : Nat) : List UInt8 := [7, 6, 5, 4, 3, 2, 1, 0].map fun i => UInt8.ofNat (n / 2 ^ (8 * i))
def padL (s : List UInt8) : List UInt8 := s ++ (128 :: List.replicate ((119 - s.length % 64) % 64) 0) ++ be8 (8 * s.length)
def be4L (x : Nat) : List UInt8 := [UInt8.ofNat (x / 16777216), UInt8.ofNat (x / 65536), UInt8.ofNat (x / 256), UInt8.ofNat x]
def outL (v : V8) : List UInt8 := v.toL.flatMap be4L

/-- Sum -/
def shaL (s : List UInt8) : List UInt8 := outL (blocksN ((padL s).length / 64) iv (padL s))

theorem sha_empty : shaL [] = [227, 176, 196, 66, 152, 252, 28, 20, 154, 251, 244, 200, 153, 111, 185, 36, 39, 174, 65, 228, 100, 155, 147, 76, 164, 149, 153, 27, 120, 82, 184, 85] := by decide +kernel
theorem sha_abc : shaL [97, 98, 99] = [186, 120, 22, 191, 143, 1, 207, 234, 65, 65, 64, 222, 93, 174, 34, 35, 176, 3, 97, 163, 150, 23, 122, 156, 180, 16, 255, 97, 242, 0, 21, 173] := by decide +kernel

end Go.Proofs.YtheebajklnljdaaGreatDoor
end

section
/- The plain law of package wire: what the encodings of integers and strings are, and that they are read back. No program in sight. -/
namespace Go.Proofs.YtheebajklnljdaaGreatDoor

/-- the groups of z, of at most f groups -/
def grp : Nat → Nat → List (Nat × Bool)
  | 0, _ => []
  | f + 1, z => if z < 128 then [(z, true)] else (z % 128, false) :: grp f (z / 128)

/-- a group's byte -/
def encB (x : Nat × Bool) : UInt8 := UInt8.ofNat (if x.2 then x.1 else x.1 + 128)

/-- the number that is encoded for n -/
def zz (n : Int) : Nat := if n < 0 then (2 * (-n) - 1).toNat else (2 * n).toNat

/-- the integer of a number -/
def unzz (z : Nat) : Int := if z % 2 = 0 then (z / 2 : Nat) else -((z / 2 : Nat) : Int) - 1

/-- what PutInt returns for an integer with an encoding -/
def putL (n : Int) : List UInt8 := (grp 9 (zz n)).map encB

/-- the integers that have an encoding -/
def IntOk (n : Int) : Prop := -4611686018427387903 ≤ n ∧ n ≤ 4611686018427387903

theorem zz_lt (n : Int) (h1 : -4611686018427387903 ≤ n) (h2 : n ≤ 4611686018427387903) : zz n < 2 ^ 63 := by
  unfold zz; split <;> omega

theorem unzz_zz (n : Int) : unzz (zz n) = n := by
  unfold unzz zz; split <;> split <;> omega

theorem zz_unzz (z : Nat) : zz (unzz z) = z := by
  unfold unzz zz; split <;> split <;> omega

theorem encB_toNat (x : Nat × Bool) (h : x.1 < 128) : ((encB x).toNat : Int) = if x.2 then (x.1 : Int) else (x.1 : Int) + 128 := by
  unfold encB
  rw [UInt8.toNat_ofNat']
  split <;> omega

theorem encB_nat (x : Nat × Bool) (h : x.1 < 128) : (encB x).toNat = if x.2 then x.1 else x.1 + 128 := by
  unfold encB
  rw [UInt8.toNat_ofNat']
  split <;> omega

/-- reading an integer: f bytes at most, i bytes have been read and make acc; the value and how many bytes it has -/
def dec : Nat → Nat → Nat → List UInt8 → Option (Int × Nat)
  | 0, _, _, _ => none
  | _ + 1, _, _, [] => none
  | f + 1, i, acc, b :: r =>
    if 128 ≤ b.toNat then dec f (i + 1) (acc + b.toNat % 128 * 2 ^ (7 * i)) r
    else if (b.toNat = 0 ∧ 0 < i) ∨ unzz (acc + b.toNat % 128 * 2 ^ (7 * i)) < -4611686018427387903 then none
    else some (unzz (acc + b.toNat % 128 * 2 ^ (7 * i)), i + 1)

/-- what Int returns: the value, the offset behind it, the error -/
def getInt (l : List UInt8) (at' : Int) : Int × Int × Int :=
  if at' < 0 ∨ (l.length : Int) < at' then (0, 0, 2)
  else match dec 9 0 0 (l.drop at'.toNat) with
    | none => (0, 0, 10)
    | some (n, k) => (n, at' + k, 0)

theorem pow7 (i : Nat) : 2 ^ (7 * (i + 1)) = 128 * 2 ^ (7 * i) := by
  rw [Nat.mul_succ, Nat.pow_add, Nat.mul_comm]

theorem grp_pos (f y : Nat) (h : 1 ≤ f) : grp f y ≠ [] := by
  cases f with
  | zero => omega
  | succ f => unfold grp; split <;> simp

theorem grp_len (f y : Nat) : (grp f y).length ≤ f := by
  induction f generalizing y with
  | zero => simp [grp]
  | succ f ih => unfold grp; split <;> simp; exact ih _

theorem dec_grp : ∀ (f y i acc : Nat) (rest : List UInt8), y < 2 ^ (7 * f) → 1 ≤ f →
    dec f i acc ((grp f y).map encB ++ rest) =
      if (y = 0 ∧ 0 < i) ∨ unzz (acc + y * 2 ^ (7 * i)) < -4611686018427387903 then none else some (unzz (acc + y * 2 ^ (7 * i)), i + (grp f y).length)
  | 0, _, _, _, _, _, h => by omega
  | f + 1, y, i, acc, rest, hy, _ => by
    by_cases h : y < 128
    · have e := encB_nat (y, true) h
      simp only [if_true] at e
      have hm : y % 128 = y := Nat.mod_eq_of_lt h
      rw [grp, if_pos h]
      simp only [List.map_cons, List.map_nil, List.cons_append, List.nil_append, dec, e]
      rw [if_neg (by omega), hm]
      rfl
    · have hm : y % 128 < 128 := Nat.mod_lt _ (by omega)
      have e := encB_nat (y % 128, false) hm
      simp only [Bool.false_eq_true, if_false] at e
      have hf : 1 ≤ f := by
        rcases Nat.eq_zero_or_pos f with h' | h'
        · subst h'; simp at hy; omega
        · exact h'
      have hy' : y / 128 < 2 ^ (7 * f) := by rw [pow7] at hy; exact Nat.div_lt_of_lt_mul hy
      rw [grp, if_neg h]
      simp only [List.map_cons, List.cons_append, dec, e]
      rw [if_pos (by omega), dec_grp f (y / 128) (i + 1) _ rest hy' hf]
      have e1 : (y % 128 + 128) % 128 = y % 128 := by omega
      have e2 : acc + y % 128 * 2 ^ (7 * i) + y / 128 * 2 ^ (7 * (i + 1)) = acc + y * 2 ^ (7 * i) := by
        rw [pow7, ← Nat.mul_assoc, Nat.add_assoc, ← Nat.add_mul]
        congr 2; omega
      have e3 : y / 128 ≠ 0 := by omega
      have e4 : y ≠ 0 := by omega
      rw [e1, e2]
      simp only [e3, e4, false_and, false_or, List.length_cons]
      rw [show i + 1 + (grp f (y / 128)).length = i + ((grp f (y / 128)).length + 1) by omega]

theorem dec_some : ∀ (f i acc : Nat) (l : List UInt8) (n : Int) (k : Nat), dec f i acc l = some (n, k) →
    ∃ y, y < 2 ^ (7 * f) ∧ (y = 0 → i = 0) ∧ -4611686018427387903 ≤ n ∧ n = unzz (acc + y * 2 ^ (7 * i)) ∧ k = i + (grp f y).length ∧ ∃ rest, l = (grp f y).map encB ++ rest
  | 0, _, _, _, _, _, h => by simp [dec] at h
  | f + 1, _, _, [], _, _, h => by simp [dec] at h
  | f + 1, i, acc, b :: r, n, k, h => by
    simp only [dec] at h
    have hb : b.toNat < 256 := b.toNat_lt
    by_cases h1 : 128 ≤ b.toNat
    · rw [if_pos h1] at h
      obtain ⟨y, hy, h0, hn, en, ek, rest, er⟩ := dec_some f (i + 1) _ r n k h
      have hy0 : y ≠ 0 := fun e => by have := h0 e; omega
      have hlt : ¬ (b.toNat % 128 + 128 * y < 128) := by omega
      have hmod : (b.toNat % 128 + 128 * y) % 128 = b.toNat % 128 := by omega
      have hdiv : (b.toNat % 128 + 128 * y) / 128 = y := by omega
      refine ⟨b.toNat % 128 + 128 * y, ?_, fun e => by omega, hn, ?_, ?_, rest, ?_⟩
      · rw [pow7]; omega
      · rw [en, pow7, ← Nat.mul_assoc, Nat.add_assoc, ← Nat.add_mul, Nat.mul_comm y 128]
      · rw [grp, if_neg hlt, hdiv, ek]; simp; omega
      · rw [grp, if_neg hlt, hmod, hdiv, er]
        have : encB (b.toNat % 128, false) = b := by
          apply UInt8.toNat.inj
          rw [encB_nat _ (Nat.mod_lt _ (by omega))]
          simp; omega
        simp [this]
    · rw [if_neg h1] at h
      split at h
      · cases h
      · rename_i h2
        simp only [Option.some.injEq, Prod.mk.injEq] at h
        obtain ⟨rfl, rfl⟩ := h
        have hm : b.toNat % 128 = b.toNat := Nat.mod_eq_of_lt (by omega)
        rw [hm] at h2 ⊢
        refine ⟨b.toNat, ?_, fun e => ?_, ?_, rfl, ?_, r, ?_⟩
        · rw [pow7]; have : 0 < 2 ^ (7 * f) := Nat.two_pow_pos _; omega
        · rcases Nat.eq_zero_or_pos i with h' | h'
          · exact h'
          · exact (h2 (.inl ⟨e, h'⟩)).elim
        · have := not_or.1 h2; omega
        · rw [grp, if_pos (by omega)]; rfl
        · rw [grp, if_pos (by omega)]
          have : encB (b.toNat, true) = b := by
            apply UInt8.toNat.inj
            rw [encB_nat _ (by simp; omega)]
            simp
          simp [this]

/-- D1: an encoding is read back. -/
theorem getInt_put (l : List UInt8) (at' : Nat) (n : Int) (hn : IntOk n) (rest : List UInt8) (h : l.drop at' = putL n ++ rest) :
    getInt l (at' : Int) = (n, (at' : Int) + ((putL n).length : Nat), 0) := by
  have hz := zz_lt n hn.1 hn.2
  have hlen : at' ≤ l.length := by
    rcases Nat.lt_or_ge l.length at' with h' | h'
    · rw [List.drop_eq_nil_of_le (by omega)] at h
      have := grp_pos 9 (zz n) (by omega)
      simp [putL] at h
      exact absurd h.1 this
    · exact h'
  unfold getInt
  rw [if_neg (by omega), Int.toNat_natCast, h]
  unfold putL
  rw [dec_grp 9 (zz n) 0 0 rest hz (by omega)]
  simp only [Nat.lt_irrefl, and_false, false_or, Nat.mul_zero, Nat.pow_zero, Nat.mul_one, Nat.zero_add, unzz_zz, List.length_map]
  rw [if_neg (by have := hn.1; omega)]

/-- D2: what is read is an encoding. -/
theorem getInt_ok (l : List UInt8) (at' n x : Int) (h : getInt l at' = (n, x, 0)) :
    IntOk n ∧ 0 ≤ at' ∧ at' ≤ l.length ∧ x = at' + (putL n).length ∧ ∃ rest, l.drop at'.toNat = putL n ++ rest := by
  unfold getInt at h
  split at h
  · simp at h
  · rename_i h1
    split at h
    · simp at h
    · rename_i n' k hd
      simp only [Prod.mk.injEq, and_true] at h
      obtain ⟨rfl, rfl⟩ := h
      obtain ⟨y, hy, _, hn, en, ek, rest, er⟩ := dec_some _ _ _ _ _ _ hd
      simp only [Nat.mul_zero, Nat.pow_zero, Nat.mul_one, Nat.zero_add] at en ek
      have hzz : zz n' = y := by rw [en, zz_unzz]
      have hput : putL n' = (grp 9 y).map encB := by unfold putL; rw [hzz]
      refine ⟨⟨hn, ?_⟩, by omega, by omega, ?_, rest, ?_⟩
      · rw [en]; unfold unzz; split <;> omega
      · rw [hput, List.length_map, ek]
      · rw [hput]; exact er

theorem dec_put (n : Int) (hn : IntOk n) (rest : List UInt8) : dec 9 0 0 (putL n ++ rest) = some (n, (putL n).length) := by
  have hz := zz_lt n hn.1 hn.2
  unfold putL
  rw [dec_grp 9 (zz n) 0 0 rest hz (by omega)]
  simp only [Nat.lt_irrefl, and_false, false_or, Nat.mul_zero, Nat.pow_zero, Nat.mul_one, Nat.zero_add, unzz_zz, List.length_map]
  rw [if_neg (by have := hn.1; omega)]

theorem dec_none_ne {L : List UInt8} (h : dec 9 0 0 L = none) {m : Int} (hm : IntOk m) (j : Nat) : putL m ≠ L.take j := by
  intro e
  have := dec_put m hm (L.drop j)
  rw [e, List.take_append_drop, h] at this
  cases this

theorem dec_some_take {L : List UInt8} {m : Int} {k : Nat} (h : dec 9 0 0 L = some (m, k)) : putL m = L.take k ∧ k = (putL m).length ∧ IntOk m ∧ k ≤ L.length := by
  obtain ⟨y, hy, _, hn, en, ek, rest, er⟩ := dec_some _ _ _ _ _ _ h
  simp only [Nat.mul_zero, Nat.pow_zero, Nat.mul_one, Nat.zero_add] at en ek
  have hzz : zz m = y := by rw [en, zz_unzz]
  have hput : putL m = (grp 9 y).map encB := by unfold putL; rw [hzz]
  have hk : k = (putL m).length := by rw [hput, List.length_map, ek]
  rw [← hput] at er
  refine ⟨by rw [er, hk, List.take_left], hk, ⟨hn, ?_⟩, by rw [er, hk]; simp⟩
  rw [en]; unfold unzz; split <;> omega

theorem getInt_err (l : List UInt8) (at' : Int) : (getInt l at').2.2 = 0 ∨ ((getInt l at').1 = 0 ∧ (getInt l at').2.1 = 0 ∧ ((getInt l at').2.2 = 10 ∧ 0 ≤ at' ∧ at' ≤ l.length ∨ (getInt l at').2.2 = 2 ∧ (at' < 0 ∨ (l.length : Int) < at'))) := by
  unfold getInt
  split
  · rename_i h; exact .inr ⟨rfl, rfl, .inr ⟨rfl, h⟩⟩
  · rename_i h
    split
    · exact .inr ⟨rfl, rfl, .inl ⟨rfl, by omega, by omega⟩⟩
    · exact .inl rfl

theorem putL_pos (n : Int) : putL n ≠ [] := by
  unfold putL; have := grp_pos 9 (zz n) (by omega); simpa using this

theorem putL_len (n : Int) : (putL n).length ≤ 9 := by
  unfold putL; have := grp_len 9 (zz n); simpa using this

/-- Two encodings at the head of one list are of one integer. -/
theorem putL_prefix (n m : Int) (hn : IntOk n) (hm : IntOk m) (r s : List UInt8) (h : putL n ++ r = putL m ++ s) : n = m := by
  have h1 := getInt_put (putL n ++ r) 0 n hn r (by simp)
  have h2 := getInt_put (putL n ++ r) 0 m hm s (by simpa using h)
  rw [h1] at h2
  exact congrArg (fun t => t.1) h2

end Go.Proofs.YtheebajklnljdaaGreatDoor
end

section
/- The plain law of strings in package wire. -/
namespace Go.Proofs.YtheebajklnljdaaGreatDoor

/-- what PutString returns for a string of at most 65536 bytes -/
def putS (l : List UInt8) : List UInt8 := putL l.length ++ l

/-- what String returns -/
def getStr (l : List UInt8) (p : Int) : List UInt8 × Int × Int :=
  if (getInt l p).2.2 ≠ 0 then ([], 0, (getInt l p).2.2)
  else if (getInt l p).1 < 0 ∨ 65536 < (getInt l p).1 ∨ (l.length : Int) - (getInt l p).2.1 < (getInt l p).1 then ([], 0, 10)
  else ((l.drop (getInt l p).2.1.toNat).take (getInt l p).1.toNat, (getInt l p).2.1 + (getInt l p).1, 0)

theorem intOk_len (l : List UInt8) (h : l.length ≤ 65536) : IntOk l.length := ⟨by omega, by omega⟩

theorem getStr_put (l : List UInt8) (p : Nat) (t : List UInt8) (ht : t.length ≤ 65536) (rest : List UInt8) (h : l.drop p = putS t ++ rest) :
    getStr l p = (t, (p : Int) + ((putS t).length : Nat), 0) := by
  have h1 : l.drop p = putL t.length ++ (t ++ rest) := by rw [h, putS, List.append_assoc]
  have hg := getInt_put l p t.length (intOk_len t ht) (t ++ rest) h1
  have hd : l.drop (p + (putL t.length).length) = t ++ rest := by
    rw [← List.drop_drop, h1, List.drop_left]
  have hlen : p + (putL t.length).length + t.length ≤ l.length := by
    have := congrArg List.length h1
    simp only [List.length_drop, List.length_append] at this
    have hp := List.length_pos_iff.2 (putL_pos t.length)
    omega
  unfold getStr
  rw [hg]
  simp only [ne_eq, not_true_eq_false, if_false]
  rw [if_neg (by omega)]
  have e1 : ((p : Int) + ((putL t.length).length : Nat)).toNat = p + (putL t.length).length := by omega
  rw [e1, hd]
  simp only [Int.toNat_natCast, List.take_left, putS, List.length_append]
  refine Prod.ext rfl (Prod.ext ?_ rfl)
  simp only []
  omega

theorem getStr_ok (l : List UInt8) (p : Int) (t : List UInt8) (x : Int) (h : getStr l p = (t, x, 0)) :
    t.length ≤ 65536 ∧ 0 ≤ p ∧ p ≤ l.length ∧ x = p + (putS t).length ∧ ∃ rest, l.drop p.toNat = putS t ++ rest := by
  unfold getStr at h
  split at h
  · rename_i hne
    simp only [Prod.mk.injEq] at h
    exact (hne h.2.2).elim
  · rename_i heq
    split at h
    · simp at h
    · rename_i hr
      obtain ⟨n, y, e⟩ : ∃ n y, getInt l p = (n, y, 0) := ⟨_, _, Prod.ext rfl (Prod.ext rfl (by simpa using heq))⟩
      rw [e] at h hr
      obtain ⟨hn, hp0, hpl, hy, rest, hd⟩ := getInt_ok l p n y e
      simp only [Prod.mk.injEq, and_true] at h
      obtain ⟨rfl, rfl⟩ := h
      simp only [not_or] at hr
      obtain ⟨hr1, hr2, hr3⟩ := hr
      have hlen := congrArg List.length hd
      simp only [List.length_drop, List.length_append] at hlen
      have hrest : l.drop y.toNat = rest := by
        rw [show y.toNat = p.toNat + (putL n).length by omega, ← List.drop_drop, hd, List.drop_left]
      have hle : n.toNat ≤ rest.length := by omega
      have htl : (rest.take n.toNat).length = n.toNat := by rw [List.length_take]; omega
      rw [hrest]
      have hnn : ((n.toNat : Nat) : Int) = n := by omega
      refine ⟨by omega, hp0, hpl, ?_, rest.drop n.toNat, ?_⟩
      · rw [putS, List.length_append, htl, hnn]; omega
      · rw [putS, htl, hnn, List.append_assoc, List.take_append_drop]; exact hd

theorem getStr_err (l : List UInt8) (p : Int) : (getStr l p).2.2 = 0 ∨ ((getStr l p).1 = [] ∧ (getStr l p).2.1 = 0 ∧ ((getStr l p).2.2 = 10 ∧ 0 ≤ p ∧ p ≤ l.length ∨ (getStr l p).2.2 = 2 ∧ (p < 0 ∨ (l.length : Int) < p))) := by
  unfold getStr
  split
  · rename_i h
    rcases getInt_err l p with h' | ⟨_, _, h'⟩
    · exact (h h').elim
    · exact .inr ⟨rfl, rfl, h'⟩
  · rename_i h
    have h0 : (getInt l p).2.2 = 0 := by simpa using h
    split
    · obtain ⟨n, y, e⟩ : ∃ n y, getInt l p = (n, y, 0) := ⟨_, _, Prod.ext rfl (Prod.ext rfl h0)⟩
      obtain ⟨_, hp0, hpl, _⟩ := getInt_ok l p n y e
      exact .inr ⟨rfl, rfl, .inl ⟨rfl, hp0, hpl⟩⟩
    · exact .inl rfl

theorem getInt_cases (l : List UInt8) (z n x e : Int) (h : getInt l z = (n, x, e)) (h0 : 0 ≤ z) (h1 : z ≤ l.length) :
    (e = 0 ∧ IntOk n ∧ z ≤ x ∧ x ≤ l.length ∧ (l.drop z.toNat).take (x.toNat - z.toNat) = putL n) ∨ (e = 10 ∧ n = 0 ∧ x = 0) := by
  have he := getInt_err l z
  rw [h] at he
  simp only [] at he
  rcases he with rfl | ⟨hn, hx, ⟨he, _⟩ | ⟨_, hz⟩⟩
  · obtain ⟨hn, _, _, hx, rest, hd⟩ := getInt_ok l z n x h
    have hlen := congrArg List.length hd
    simp only [List.length_drop, List.length_append] at hlen
    have hp := List.length_pos_iff.2 (putL_pos n)
    refine .inl ⟨rfl, hn, by omega, by omega, ?_⟩
    rw [hd, show x.toNat - z.toNat = (putL n).length by omega, List.take_left]
  · exact .inr ⟨he, hn, hx⟩
  · omega

theorem getStr_cases (l : List UInt8) (z : Int) (v : List UInt8) (x e : Int) (h : getStr l z = (v, x, e)) (h0 : 0 ≤ z) (h1 : z ≤ l.length) :
    (e = 0 ∧ v.length ≤ 65536 ∧ z ≤ x ∧ x ≤ l.length ∧ (l.drop z.toNat).take (x.toNat - z.toNat) = putS v) ∨ (e = 10 ∧ v = [] ∧ x = 0) := by
  have he := getStr_err l z
  rw [h] at he
  simp only [] at he
  rcases he with rfl | ⟨hn, hx, ⟨he, _⟩ | ⟨_, hz⟩⟩
  · obtain ⟨hn, _, _, hx, rest, hd⟩ := getStr_ok l z v x h
    have hlen := congrArg List.length hd
    simp only [List.length_drop, List.length_append] at hlen
    have hp := List.length_pos_iff.2 (putL_pos v.length)
    have hp2 : (putL v.length).length ≤ (putS v).length := by rw [putS, List.length_append]; omega
    refine .inl ⟨rfl, hn, by omega, by omega, ?_⟩
    rw [hd, show x.toNat - z.toNat = (putS v).length by omega, List.take_left]
  · exact .inr ⟨he, hn, hx⟩
  · omega

end Go.Proofs.YtheebajklnljdaaGreatDoor
end

section
/- The tree over digests, plain. -/
namespace Go.Proofs.YtheebajklnljdaaGreatDoor

def leafL (s : List UInt8) : List UInt8 := shaL (0 :: s)
def nodeL (a b : List UInt8) : List UInt8 := shaL (1 :: (a ++ b))
def chainL (h r : List UInt8) : List UInt8 := shaL (2 :: (h ++ r))

/-- the greatest power of two that is less than n (n at least 2) -/
def leftN (n : Nat) : Nat := 2 ^ (n - 1).log2

theorem leftN_lt (n : Nat) (h : 2 ≤ n) : leftN n < n := by
  have := Nat.log2_self_le (n := n - 1) (by omega)
  unfold leftN; omega
theorem leftN_pos (n : Nat) : 1 ≤ leftN n := Nat.one_le_two_pow
theorem leftN_ge (n : Nat) (h : 2 ≤ n) : n ≤ 2 * leftN n := by
  have : n - 1 < 2 ^ ((n - 1).log2 + 1) := Nat.lt_log2_self
  unfold leftN
  rw [Nat.pow_succ] at this
  omega
theorem leftN_eq (n k : Nat) (h1 : 2 ^ k < n) (h2 : n ≤ 2 ^ (k + 1)) : leftN n = 2 ^ k := by
  unfold leftN
  have : (n - 1).log2 = k := (Nat.log2_eq_iff (by omega)).2 ⟨by omega, by omega⟩
  rw [this]

/-- the root, by fuel -/
def rootF : Nat → List (List UInt8) → List UInt8
  | _, [] => shaL []
  | _, [a] => leafL a
  | 0, _ => []
  | f + 1, l => nodeL (rootF f (l.take (leftN l.length))) (rootF f (l.drop (leftN l.length)))
def rootL (l : List (List UInt8)) : List UInt8 := rootF l.length l

theorem rootF_fuel : ∀ (f g : Nat) (l : List (List UInt8)), l.length ≤ f → l.length ≤ g → rootF f l = rootF g l
  | f, g, [], _, _ => by simp [rootF]
  | f, g, [a], _, _ => by simp [rootF]
  | 0, _, a :: b :: t, h, _ => by simp at h
  | _ + 1, 0, a :: b :: t, _, h => by simp at h
  | f + 1, g + 1, a :: b :: t, h1, h2 => by
    simp only [rootF]
    have hl := leftN_lt (a :: b :: t).length (by simp)
    have hp := leftN_pos (a :: b :: t).length
    generalize leftN (a :: b :: t).length = k at *
    rw [rootF_fuel f g _ (by rw [List.length_take]; omega) (by rw [List.length_take]; omega), rootF_fuel f g _ (by rw [List.length_drop]; omega) (by rw [List.length_drop]; omega)]

theorem rootL_nil : rootL [] = shaL [] := rfl
theorem rootL_one (a : List UInt8) : rootL [a] = leafL a := rfl
theorem rootL_node (l : List (List UInt8)) (h : 2 ≤ l.length) : rootL l = nodeL (rootL (l.take (leftN l.length))) (rootL (l.drop (leftN l.length))) := by
  have hl := leftN_lt l.length h
  have hp := leftN_pos l.length
  match l, h with
  | a :: b :: t, _ =>
    show rootF ((b :: t).length + 1) (a :: b :: t) = _
    simp only [rootF]
    generalize hk : leftN (a :: b :: t).length = k at *
    unfold rootL
    simp only [List.length_cons] at *
    congr 1
    · exact rootF_fuel _ _ _ (by simp only [List.length_take, List.length_cons]; omega) (Nat.le_refl _)
    · exact rootF_fuel _ _ _ (by simp only [List.length_drop, List.length_cons]; omega) (Nat.le_refl _)

theorem rootL_cat (a b : List (List UInt8)) (k : Nat) (ha : a.length = 2 ^ k) (hb1 : 1 ≤ b.length) (hb2 : b.length ≤ 2 ^ k) : nodeL (rootL a) (rootL b) = rootL (a ++ b) := by
  have hp : 1 ≤ 2 ^ k := Nat.one_le_two_pow
  have hl : (a ++ b).length = 2 ^ k + b.length := by rw [List.length_append, ha]
  have hk : leftN (a ++ b).length = 2 ^ k := leftN_eq _ k (by omega) (by rw [Nat.pow_succ]; omega)
  rw [rootL_node (a ++ b) (by omega), hk, ← ha, List.take_left, List.drop_left]

/-- complete parts, each longer than the next -/
def Parts : List (List (List UInt8)) → Prop
  | [] => True
  | [p] => ∃ k, p.length = 2 ^ k
  | p :: q :: t => (∃ k, p.length = 2 ^ k) ∧ q.length < p.length ∧ Parts (q :: t)

/-- the same, but the last two may be of one size -/
def PartsE (ps : List (List (List UInt8))) : Prop := ∃ qs b, ps = qs ++ [b] ∧ (∃ k, b.length = 2 ^ k) ∧ Parts qs ∧ ∀ a, qs.getLast? = some a → b.length ≤ a.length

theorem Parts.pow : ∀ {ps : List (List (List UInt8))}, Parts ps → ∀ p ∈ ps, ∃ k, p.length = 2 ^ k
  | [p], h, q, hq => by simp at hq; subst hq; exact h
  | p :: q :: t, h, r, hr => by
    rcases List.mem_cons.1 hr with rfl | hr
    · exact h.1
    · exact Parts.pow h.2.2 r hr
theorem Parts.tail {p : List (List UInt8)} {t : List (List (List UInt8))} (h : Parts (p :: t)) : Parts t := by
  cases t with
  | nil => trivial
  | cons q t => exact h.2.2
theorem Parts.init : ∀ {ps : List (List (List UInt8))} {b : List (List UInt8)}, Parts (ps ++ [b]) → Parts ps
  | [], _, _ => trivial
  | [_], _, h => h.1
  | _ :: q :: t, _, h => ⟨h.1, h.2.1, Parts.init (ps := q :: t) h.2.2⟩
theorem Parts.snoc : ∀ {ps : List (List (List UInt8))} {b : List (List UInt8)}, Parts ps → (∃ k, b.length = 2 ^ k) → (∀ a, ps.getLast? = some a → b.length < a.length) → Parts (ps ++ [b])
  | [], _, _, hb, _ => hb
  | [p], _, h, hb, hl => ⟨h, hl p rfl, hb⟩
  | p :: q :: t, b, h, hb, hl => ⟨h.1, h.2.1, Parts.snoc (ps := q :: t) h.2.2 hb (fun a ha => hl a (by rw [List.getLast?_cons_cons]; exact ha))⟩
theorem Parts.last_lt : ∀ {ps : List (List (List UInt8))} {b : List (List UInt8)}, Parts (ps ++ [b]) → ∀ a, ps.getLast? = some a → b.length < a.length
  | [], _, _, a, ha => by simp at ha
  | [p], _, h, a, ha => by simp at ha; subst ha; exact h.2.1
  | p :: q :: t, b, h, a, ha => Parts.last_lt (ps := q :: t) h.2.2 a (by rw [List.getLast?_cons_cons] at ha; exact ha)

/-- The rest of the parts is shorter than the first one. -/
theorem Parts.sum : ∀ {p : List (List UInt8)} {t : List (List (List UInt8))}, Parts (p :: t) → t.flatten.length < p.length
  | p, [], ⟨k, hk⟩ => by simp [hk]; exact Nat.pos_of_ne_zero (fun h => by rw [h] at hk; have := Nat.one_le_two_pow (n := k); omega)
  | p, q :: t, ⟨⟨k, hk⟩, hl, hq⟩ => by
    have h1 := Parts.sum hq
    obtain ⟨j, hj⟩ := hq.pow q (by simp)
    rw [List.flatten_cons, List.length_append]
    have hjk : j < k := by
      apply Nat.lt_of_not_le; intro hle
      have := Nat.pow_le_pow_right (n := 2) (by omega) hle
      omega
    have : 2 ^ (j + 1) ≤ 2 ^ k := Nat.pow_le_pow_right (by omega) hjk
    rw [Nat.pow_succ] at this
    omega

/-- The parts' roots joined from the last on. -/
def joinR : List (List UInt8) → List UInt8
  | [] => shaL []
  | [a] => a
  | a :: t => nodeL a (joinR t)

theorem Parts.root : ∀ {ps : List (List (List UInt8))}, Parts ps → joinR (ps.map rootL) = rootL ps.flatten
  | [], _ => rfl
  | [p], _ => by simp [joinR]
  | p :: q :: t, h => by
    have ih := Parts.root h.2.2
    have hs := Parts.sum h
    obtain ⟨k, hk⟩ := h.1
    obtain ⟨j, hj⟩ := h.2.2.pow q (by simp)
    have := Nat.one_le_two_pow (n := j)
    show nodeL (rootL p) (joinR ((q :: t).map rootL)) = _
    rw [ih, rootL_cat p _ k hk (by rw [List.flatten_cons, List.length_append]; omega) (by omega)]
    rfl

/-- the fold that Root's last loop makes -/
theorem joinR_fold : ∀ (l : List (List UInt8)) (x : List UInt8), joinR (l ++ [x]) = l.reverse.foldl (fun o r => nodeL r o) x
  | [], x => rfl
  | [a], x => rfl
  | a :: b :: t, x => by
    have ih := joinR_fold (b :: t) x
    show nodeL a (joinR (b :: t ++ [x])) = _
    rw [ih, List.reverse_cons (a := a), List.foldl_append]
    rfl

/-- one merge -/
theorem Parts.merge {qs : List (List (List UInt8))} {a b : List (List UInt8)} (h : Parts (qs ++ [a])) (hab : b.length = a.length) : PartsE (qs ++ [a ++ b]) := by
  obtain ⟨k, hk⟩ := h.pow a (by simp)
  refine ⟨qs, a ++ b, rfl, ⟨k + 1, by rw [List.length_append, hab, hk, Nat.pow_succ]; omega⟩, h.init, ?_⟩
  intro c hc
  have h1 := h.last_lt c hc
  obtain ⟨j, hj⟩ := h.pow c (by
    have := List.mem_of_getLast? hc
    simp [this])
  have hkj : k < j := by
    apply Nat.lt_of_not_le; intro hle
    have := Nat.pow_le_pow_right (n := 2) (by omega) hle
    omega
  have : 2 ^ (k + 1) ≤ 2 ^ j := Nat.pow_le_pow_right (by omega) hkj
  rw [Nat.pow_succ] at this
  rw [List.length_append]; omega
theorem merge_root {qs : List (List (List UInt8))} {a b : List (List UInt8)} (h : Parts (qs ++ [a])) (hab : b.length = a.length) : nodeL (rootL a) (rootL b) = rootL (a ++ b) := by
  obtain ⟨k, hk⟩ := h.pow a (by simp)
  exact rootL_cat a b k hk (by have := Nat.one_le_two_pow (n := k); omega) (by omega)
/-- a new entry -/
theorem Parts.push {ps : List (List (List UInt8))} (h : Parts ps) (s : List UInt8) : PartsE (ps ++ [[s]]) := by
  refine ⟨ps, [s], rfl, ⟨0, rfl⟩, h, fun a ha => ?_⟩
  obtain ⟨k, hk⟩ := h.pow a (List.mem_of_getLast? ha)
  have := Nat.one_le_two_pow (n := k)
  simp; omega
end Go.Proofs.YtheebajklnljdaaGreatDoor
end

section
/- Rows, changes, records and heads of the log, as plain Lean. -/
namespace Go.Proofs.YtheebajklnljdaaGreatDoor

structure Chg where
  table : Int
  key : Int
  had : Bool
  old : Int × Int × Int
  has : Bool
  new : Int × Int × Int
deriving DecidableEq

structure Rec where
  pos : Int
  chs : List Chg
deriving DecidableEq

structure Hd where
  pos : Int
  chain : List UInt8
  state : List UInt8
deriving DecidableEq

def hd0 : Hd := ⟨0, [], []⟩

/-- a value of a column -/
def valB (v : Int) : Bool := decide (-1000000000 ≤ v) && decide (v ≤ 1000000000)
/-- Valid -/
def rowB (t k : Int) (v : Int × Int × Int) : Bool := decide (0 ≤ t) && decide (t ≤ 3) && (decide (1 ≤ k) && decide (k ≤ 1000000)) && (valB v.1 && valB v.2.1 && valB v.2.2)
/-- sound -/
def soundB (c : Chg) (there : Bool) (v : Int × Int × Int) : Bool := there && rowB c.table c.key v || !there && decide (v = (0, 0, 0))
/-- ValidChange -/
def chgB (c : Chg) : Bool := ((c.had != c.has) || (c.had && !decide (c.old = c.new))) && soundB c c.had c.old && soundB c c.has c.new
/-- the changes come behind one of a table and a key, in order, and are valid -/
def ascB : Int → Int → List Chg → Bool
  | _, _, [] => true
  | t, k, c :: l => chgB c && !(decide (c.table < t) || decide (c.table = t) && decide (c.key ≤ k)) && ascB c.table c.key l
/-- ValidRecord -/
def recB (r : Rec) : Bool := decide (1 ≤ r.pos) && decide (r.pos ≤ 10000) && (decide (1 ≤ r.chs.length) && decide (r.chs.length ≤ 8)) && ascB (-1) 0 r.chs

def putsL (l : List Int) : List UInt8 := l.flatMap putL
def tri (v : Int × Int × Int) : List Int := [v.1, v.2.1, v.2.2]
def flagsC (c : Chg) : Int := (if c.had then 1 else 0) + (if c.has then 2 else 0)
def valsC (c : Chg) : List Int := (if c.had then tri c.old else []) ++ (if c.has then tri c.new else [])
def encChg (c : Chg) : List UInt8 := putsL [c.table, c.key, flagsC c] ++ putsL (valsC c)
/-- EncodeRecord of a valid record -/
def encRec (r : Rec) : List UInt8 := putsL [r.pos, (r.chs.length : Nat)] ++ r.chs.flatMap encChg

/-- valid -/
def hdB (h : Hd) : Bool := decide (0 ≤ h.pos) && decide (h.pos ≤ 10000) && decide (h.chain.length = 32) && decide (h.state.length = 32)
def encHd (h : Hd) : List UInt8 := putL h.pos ++ h.chain ++ h.state
/-- Encode -/
def encA (h : Hd) : List UInt8 × Int := if hdB h then (encHd h, 0) else ([], 90)
/-- Decode -/
def decA (s : List UInt8) : Hd × Int :=
  if (getInt s 0).2.2 ≠ 0 ∨ (s.length : Int) - (getInt s 0).2.1 ≠ 64 then (hd0, 10)
  else if hdB ⟨(getInt s 0).1, (s.drop (getInt s 0).2.1.toNat).take 32, s.drop ((getInt s 0).2.1.toNat + 32)⟩ then
    (⟨(getInt s 0).1, (s.drop (getInt s 0).2.1.toNat).take 32, s.drop ((getInt s 0).2.1.toNat + 32)⟩, 0)
  else (hd0, 90)
/-- Next -/
def nextA (h : Hd) (r : Rec) (st : List UInt8) : Hd × Int :=
  if recB r && hdB h && decide (st.length = 32) && decide (r.pos = h.pos + 1) then (⟨r.pos, chainL h.chain (encRec r), st⟩, 0) else (hd0, 90)
/-- Follows behind the first test -/
def walkA : Hd → List Rec → List UInt8 → Option Hd
  | h, [], _ => some h
  | h, r :: l, st => if (nextA h r st).2 = 0 then walkA (nextA h r st).1 l st else none
/-- Follows -/
def followsA (a : Hd) (l : List Rec) (b : Hd) : Bool := hdB a && hdB b && decide (walkA a l b.state = some b)

theorem hdB_parts {h : Hd} (e : hdB h = true) : 0 ≤ h.pos ∧ h.pos ≤ 10000 ∧ h.chain.length = 32 ∧ h.state.length = 32 := by
  unfold hdB at e
  simp only [Bool.and_eq_true, decide_eq_true_eq] at e
  exact ⟨e.1.1.1, e.1.1.2, e.1.2, e.2⟩

theorem encHd_len {h : Hd} (e : hdB h = true) : (encHd h).length ≤ 73 := by
  obtain ⟨_, _, h3, h4⟩ := hdB_parts e
  have := putL_len h.pos
  unfold encHd
  rw [List.length_append, List.length_append]
  omega

/-- a valid head is decoded from its encoding -/
theorem decA_enc {h : Hd} (e : hdB h = true) : decA (encHd h) = (h, 0) := by
  obtain ⟨h1, h2, h3, h4⟩ := hdB_parts e
  have hg := getInt_put (encHd h) 0 h.pos ⟨by omega, by omega⟩ (h.chain ++ h.state) (by unfold encHd; simp)
  have hg' : getInt (encHd h) 0 = (h.pos, (((putL h.pos).length : Nat) : Int), 0) := by simpa using hg
  have hlen : (encHd h).length = (putL h.pos).length + 64 := by unfold encHd; rw [List.length_append, List.length_append]; omega
  have hd : (encHd h).drop (putL h.pos).length = h.chain ++ h.state := by unfold encHd; rw [List.append_assoc, List.drop_left]
  have hd2 : (encHd h).drop ((putL h.pos).length + 32) = h.state := by rw [← List.drop_drop, hd, List.drop_left' h3]
  unfold decA
  rw [hg']
  dsimp only
  rw [if_neg (by rintro (h | h) <;> omega), Int.toNat_natCast, hd, hd2, List.take_left' h3, if_pos e]

/-- what is decoded is the encoding of the result -/
theorem decA_ok {s : List UInt8} {g : Hd} (h : decA s = (g, 0)) : hdB g = true ∧ encHd g = s := by
  obtain ⟨n, x, e, hx⟩ : ∃ n x e, getInt s 0 = (n, x, e) := ⟨_, _, _, rfl⟩
  unfold decA at h
  rw [hx] at h
  dsimp only at h
  split at h
  · simp at h
  · rename_i h1
    have he : e = 0 := by
      apply Decidable.byContradiction
      intro h2
      exact h1 (.inl h2)
    have hl : (s.length : Int) - x = 64 := by
      apply Decidable.byContradiction
      intro h2
      exact h1 (.inr h2)
    subst he
    obtain ⟨_, _, _, ex, rest, er⟩ := getInt_ok _ _ _ _ hx
    have ex' : x = (((putL n).length : Nat) : Int) := by omega
    have er' : s = putL n ++ rest := by simpa using er
    have hd : s.drop (putL n).length = rest := by rw [er', List.drop_left]
    rw [ex', Int.toNat_natCast, ← List.drop_drop, hd] at h
    split at h
    · rename_i h2
      have hg : (⟨n, rest.take 32, rest.drop 32⟩ : Hd) = g := (Prod.mk.inj h).1
      rw [← hg]
      refine ⟨h2, ?_⟩
      unfold encHd
      rw [List.append_assoc, List.take_append_drop, ← er']
    · simp at h
theorem decA_err (s : List UInt8) : (decA s).2 = 0 ∨ ((decA s).1 = hd0 ∧ ((decA s).2 = 10 ∨ (decA s).2 = 90)) := by
  unfold decA
  split
  · exact .inr ⟨rfl, .inl rfl⟩
  · split
    · exact .inl rfl
    · exact .inr ⟨rfl, .inr rfl⟩
end Go.Proofs.YtheebajklnljdaaGreatDoor
end

section
/- Proofs and extensions of the tree, plain. -/
namespace Go.Proofs.YtheebajklnljdaaGreatDoor

/-- the proof of entry i, by fuel: the deepest part first -/
def proofF : Nat → List (List UInt8) → Nat → List (List UInt8)
  | 0, _, _ => []
  | f + 1, l, i => if l.length ≤ 1 then [] else
    if i < leftN l.length then proofF f (l.take (leftN l.length)) i ++ [rootL (l.drop (leftN l.length))]
    else proofF f (l.drop (leftN l.length)) (i - leftN l.length) ++ [rootL (l.take (leftN l.length))]
def proofL (l : List (List UInt8)) (i : Nat) : List (List UInt8) := proofF l.length l i

theorem proofF_fuel : ∀ (f g : Nat) (l : List (List UInt8)) (i : Nat), l.length ≤ f → l.length ≤ g → proofF f l i = proofF g l i
  | 0, 0, _, _, _, _ => rfl
  | 0, g + 1, l, i, h, _ => by simp [proofF, show l.length ≤ 1 by omega]
  | f + 1, 0, l, i, _, h => by simp [proofF, show l.length ≤ 1 by omega]
  | f + 1, g + 1, l, i, h1, h2 => by
    simp only [proofF]
    by_cases h : l.length ≤ 1
    · rw [if_pos h, if_pos h]
    · have hl := leftN_lt l.length (by omega)
      have hp := leftN_pos l.length
      rw [if_neg h, if_neg h]
      generalize leftN l.length = k at *
      rw [proofF_fuel f g _ i (by rw [List.length_take]; omega) (by rw [List.length_take]; omega), proofF_fuel f g _ (i - k) (by rw [List.length_drop]; omega) (by rw [List.length_drop]; omega)]

theorem proofL_one (l : List (List UInt8)) (i : Nat) (h : l.length ≤ 1) : proofL l i = [] := by
  unfold proofL
  cases hl : l.length with
  | zero => rfl
  | succ n => simp [proofF, hl, show n = 0 by omega]
theorem proofL_left (l : List (List UInt8)) (i : Nat) (h : 2 ≤ l.length) (hi : i < leftN l.length) : proofL l i = proofL (l.take (leftN l.length)) i ++ [rootL (l.drop (leftN l.length))] := by
  have hl := leftN_lt l.length h
  unfold proofL
  obtain ⟨f, hf⟩ : ∃ f, l.length = f + 1 := ⟨l.length - 1, by omega⟩
  rw [show proofF l.length l i = proofF (f + 1) l i by rw [hf]]
  simp only [proofF]
  rw [if_neg (by omega), if_pos hi, proofF_fuel f _ _ i (by rw [List.length_take]; omega) (Nat.le_refl _)]
theorem proofL_right (l : List (List UInt8)) (i : Nat) (h : 2 ≤ l.length) (hi : leftN l.length ≤ i) : proofL l i = proofL (l.drop (leftN l.length)) (i - leftN l.length) ++ [rootL (l.take (leftN l.length))] := by
  have hp := leftN_pos l.length
  unfold proofL
  obtain ⟨f, hf⟩ : ∃ f, l.length = f + 1 := ⟨l.length - 1, by omega⟩
  rw [show proofF l.length l i = proofF (f + 1) l i by rw [hf]]
  simp only [proofF]
  rw [if_neg (by omega), if_neg (by omega), proofF_fuel f _ _ _ (by rw [List.length_drop]; omega) (Nat.le_refl _)]
end Go.Proofs.YtheebajklnljdaaGreatDoor
end

section
/- Verify and the extensions, plain. -/
namespace Go.Proofs.YtheebajklnljdaaGreatDoor

theorem shaL_len (l : List UInt8) : (shaL l).length = 32 := rfl
theorem rootL_len : ∀ l : List (List UInt8), (rootL l).length = 32
  | [] => rfl
  | [_] => rfl
  | _ :: _ :: _ => rfl

/-- the whole's value, of a step (the other part's root, is it first) and the part's value -/
def stepL (x : List UInt8 × Bool) (part : List UInt8) : List UInt8 := if x.2 then nodeL x.1 part else nodeL part x.1
theorem stepL_len (x : List UInt8 × Bool) (p : List UInt8) : (stepL x p).length = 32 := by unfold stepL; split <;> rfl

/-- the value of a proof, of which the last string comes first here; none: refused -/
def valR (s : List UInt8) : List (List UInt8) → Nat → Nat → Option (List UInt8)
  | [], n, _ => if n ≤ 1 then some (leafL s) else none
  | x :: r, n, i => if n ≤ 1 then none else
    (valR s r (if leftN n ≤ i then n - leftN n else leftN n) (if leftN n ≤ i then i - leftN n else i)).map (stepL (x, decide (leftN n ≤ i)))

theorem valR_len (s : List UInt8) : ∀ (r : List (List UInt8)) (n i : Nat) v, valR s r n i = some v → v.length = 32
  | [], n, i, v, h => by
    unfold valR at h
    split at h
    · cases h; rfl
    · cases h
  | x :: r, n, i, v, h => by
    unfold valR at h
    split at h
    · cases h
    · rw [Option.map_eq_some_iff] at h
      obtain ⟨u, _, rfl⟩ := h
      exact stepL_len _ _

/-- the two values of an extension's proof, of which the last string comes first here; none: refused -/
def bothR (old : List UInt8) : List (List UInt8) → Nat → Nat → Bool → Option (List UInt8 × List UInt8)
  | [], m, n, whole => if m < n then none else if whole then some (old, old) else none
  | x :: r, m, n, whole =>
    if m < n then
      (bothR old r (if leftN n < m then m - leftN n else m) (if leftN n < m then n - leftN n else leftN n) (whole && !decide (leftN n < m))).map
        fun ab => (if leftN n < m then stepL (x, true) ab.1 else ab.1, stepL (x, decide (leftN n < m)) ab.2)
    else if whole then none else if r = [] then some (x, x) else none

/-- the proof that a list begins with m entries, by fuel -/
def partF : Nat → List (List UInt8) → Nat → Bool → List (List UInt8)
  | 0, l, _, whole => if whole then [] else [rootL l]
  | f + 1, l, m, whole => if l.length ≤ m then (if whole then [] else [rootL l]) else
    if leftN l.length < m then partF f (l.drop (leftN l.length)) (m - leftN l.length) false ++ [rootL (l.take (leftN l.length))]
    else partF f (l.take (leftN l.length)) m whole ++ [rootL (l.drop (leftN l.length))]
def partL (l : List (List UInt8)) (m : Nat) (whole : Bool) : List (List UInt8) := partF l.length l m whole

theorem partF_fuel : ∀ (f g : Nat) (l : List (List UInt8)) (m : Nat) (b : Bool), 1 ≤ m → l.length ≤ f → l.length ≤ g → partF f l m b = partF g l m b
  | 0, 0, _, _, _, _, _, _ => rfl
  | 0, g + 1, l, m, b, hm, h, _ => by simp [partF, show l.length ≤ m by omega]
  | f + 1, 0, l, m, b, hm, _, h => by simp [partF, show l.length ≤ m by omega]
  | f + 1, g + 1, l, m, b, hm, h1, h2 => by
    simp only [partF]
    by_cases h : l.length ≤ m
    · rw [if_pos h, if_pos h]
    · have hl := leftN_lt l.length (by omega)
      have hp := leftN_pos l.length
      rw [if_neg h, if_neg h]
      generalize leftN l.length = k at *
      by_cases hk : k < m
      · rw [if_pos hk, if_pos hk, partF_fuel f g _ (m - k) false (by omega) (by rw [List.length_drop]; omega) (by rw [List.length_drop]; omega)]
      · rw [if_neg hk, if_neg hk, partF_fuel f g _ m b hm (by rw [List.length_take]; omega) (by rw [List.length_take]; omega)]

theorem partL_all (l : List (List UInt8)) (m : Nat) (b : Bool) (h : l.length ≤ m) : partL l m b = if b then [] else [rootL l] := by
  unfold partL
  cases hl : l.length with
  | zero => rfl
  | succ n => simp [partF, h]
theorem partL_right (l : List (List UInt8)) (m : Nat) (b : Bool) (h : m < l.length) (hm : leftN l.length < m) : partL l m b = partL (l.drop (leftN l.length)) (m - leftN l.length) false ++ [rootL (l.take (leftN l.length))] := by
  have hp := leftN_pos l.length
  unfold partL
  obtain ⟨f, hf⟩ : ∃ f, l.length = f + 1 := ⟨l.length - 1, by omega⟩
  rw [show partF l.length l m b = partF (f + 1) l m b by rw [hf]]
  simp only [partF]
  rw [if_neg (by omega), if_pos hm, partF_fuel f _ _ _ _ (by omega) (by rw [List.length_drop]; omega) (Nat.le_refl _)]
theorem partL_left (l : List (List UInt8)) (m : Nat) (b : Bool) (h : m < l.length) (h1 : 1 ≤ m) (hm : ¬ leftN l.length < m) : partL l m b = partL (l.take (leftN l.length)) m b ++ [rootL (l.drop (leftN l.length))] := by
  have hl := leftN_lt l.length (by omega)
  unfold partL
  obtain ⟨f, hf⟩ : ∃ f, l.length = f + 1 := ⟨l.length - 1, by omega⟩
  rw [show partF l.length l m b = partF (f + 1) l m b by rw [hf]]
  simp only [partF]
  rw [if_neg (by omega), if_neg hm, partF_fuel f _ _ _ _ h1 (by rw [List.length_take]; omega) (Nat.le_refl _)]

/-- the proof that a list begins with m entries -/
def extL (l : List (List UInt8)) (m : Nat) : List (List UInt8) := if m = 0 then [] else partL l m true

theorem take_take' (l : List (List UInt8)) (a b : Nat) (h : a ≤ b) : (l.take b).take a = l.take a := by rw [List.take_take, Nat.min_eq_left h]
theorem rootL_split (l : List (List UInt8)) (m k : Nat) (hk : k = leftN l.length) (h1 : k < m) (hm : m ≤ l.length) :
    nodeL (rootL (l.take k)) (rootL ((l.drop k).take (m - k))) = rootL (l.take m) := by
  have hp := leftN_pos l.length
  have hlen : (l.take m).length = m := by rw [List.length_take]; omega
  have h2 : 2 ≤ l.length := by omega
  have hge := leftN_ge l.length h2
  have hl : leftN (l.take m).length = k := by
    rw [hlen, hk]
    exact leftN_eq m _ (by unfold leftN at hk; rw [← hk]; exact h1) (by rw [Nat.pow_succ]; unfold leftN at hge; omega)
  rw [rootL_node (l.take m) (by omega), hl, take_take' _ _ _ (by omega), List.drop_take]

/-- The proof of an extension is accepted (the values). -/
theorem partL_ok : ∀ (f : Nat) (l : List (List UInt8)) (m : Nat) (b : Bool) (old : List UInt8), l.length ≤ f → 1 ≤ m → m ≤ l.length → (b = true → old = rootL (l.take m)) →
    bothR old (partL l m b).reverse m l.length b = some (rootL (l.take m), rootL l)
  | 0, l, m, b, old, hf, h1, hm, _ => absurd (Nat.le_trans h1 (Nat.le_trans hm hf)) (by omega)
  | f + 1, l, m, b, old, hf, h1, hm, ho => by
    by_cases hml : m < l.length
    · have h2 : 2 ≤ l.length := by omega
      have hlt := leftN_lt l.length h2
      have hpos := leftN_pos l.length
      obtain ⟨k, hk⟩ : ∃ k, k = leftN l.length := ⟨_, rfl⟩
      by_cases hr : leftN l.length < m
      · rw [partL_right l m b hml hr, List.reverse_append, List.reverse_singleton, List.singleton_append]
        simp only [bothR]
        rw [if_pos hml, if_pos hr, if_pos hr]
        simp only [decide_eq_true hr, Bool.not_true, Bool.and_false]
        rw [← hk]
        have hd : (l.drop k).length = l.length - k := List.length_drop
        have ih := partL_ok f (l.drop k) (m - k) false old (by rw [hd]; omega) (by omega) (by rw [hd]; omega) (fun h => by cases h)
        rw [hd] at ih
        rw [ih]
        simp only [Option.map_some, stepL, if_true]
        rw [if_pos (hk ▸ hr), rootL_split l m k hk (hk ▸ hr) hm]
        have hn := rootL_node l h2
        rw [← hk] at hn
        rw [hn]
      · rw [partL_left l m b hml h1 hr, List.reverse_append, List.reverse_singleton, List.singleton_append]
        simp only [bothR]
        rw [if_pos hml, if_neg hr, if_neg hr]
        simp only [decide_eq_false hr, Bool.not_false, Bool.and_true]
        rw [← hk]
        have hd : (l.take k).length = k := by rw [List.length_take]; omega
        have htt : (l.take k).take m = l.take m := take_take' _ _ _ (by omega)
        have ih := partL_ok f (l.take k) m b old (by rw [hd]; omega) h1 (by rw [hd]; omega) (fun h => by rw [htt]; exact ho h)
        rw [hd, htt] at ih
        rw [ih]
        have hn := rootL_node l h2
        rw [← hk] at hn
        simp only [Option.map_some, stepL]
        rw [if_neg (hk ▸ hr), hn]
        rfl
    · have he : m = l.length := by omega
      rw [partL_all l m b (by omega)]
      have ht : l.take m = l := by rw [he, List.take_length]
      rw [ht] at ho ⊢
      cases b with
      | true =>
        simp only [if_true, List.reverse_nil, bothR]
        rw [if_neg hml, ho rfl]
      | false =>
        simp only [Bool.false_eq_true, if_false, List.reverse_singleton, bothR]
        rw [if_neg hml]
        rfl

/-- the proof of an entry is accepted (the value) -/
theorem proofL_ok : ∀ (f : Nat) (l : List (List UInt8)) (i : Nat) (s : List UInt8), l.length ≤ f → l[i]? = some s → valR s (proofL l i).reverse l.length i = some (rootL l)
  | 0, l, i, s, hf, h => by have := (List.getElem?_eq_some_iff.1 h).1; omega
  | f + 1, l, i, s, hf, h => by
    have hi := (List.getElem?_eq_some_iff.1 h).1
    by_cases h1 : l.length ≤ 1
    · rw [proofL_one l i h1]
      obtain ⟨a, rfl⟩ := List.length_eq_one_iff.1 (show l.length = 1 by omega)
      have hi0 : i = 0 := by simp at hi; omega
      subst hi0
      simp at h
      subst h
      rfl
    · have h2 : 2 ≤ l.length := by omega
      have hlt := leftN_lt l.length h2
      have hpos := leftN_pos l.length
      have hn := rootL_node l h2
      obtain ⟨k, hk⟩ : ∃ k, k = leftN l.length := ⟨_, rfl⟩
      by_cases hr : leftN l.length ≤ i
      · rw [proofL_right l i h2 hr, List.reverse_append, List.reverse_singleton, List.singleton_append]
        simp only [valR]
        rw [if_neg h1, if_pos hr, if_pos hr, ← hk]
        have hd : (l.drop k).length = l.length - k := List.length_drop
        have ih := proofL_ok f (l.drop k) (i - k) s (by rw [hd]; omega) (by rw [List.getElem?_drop, ← h]; congr 1; omega)
        rw [hd] at ih
        rw [ih]
        simp only [Option.map_some, stepL]
        rw [decide_eq_true (hk ▸ hr), hn, ← hk]
        rfl
      · rw [proofL_left l i h2 (by omega), List.reverse_append, List.reverse_singleton, List.singleton_append]
        simp only [valR]
        rw [if_neg h1, if_neg hr, if_neg hr, ← hk]
        have hd : (l.take k).length = k := by rw [List.length_take]; omega
        have ih := proofL_ok f (l.take k) i s (by rw [hd]; omega) (by rw [List.getElem?_take, if_pos (by omega), h])
        rw [hd] at ih
        rw [ih]
        simp only [Option.map_some, stepL]
        rw [decide_eq_false (hk ▸ hr), hn, ← hk]
        rfl

theorem proofL_len32 : ∀ (f : Nat) (l : List (List UInt8)) (i : Nat), l.length ≤ f → ∀ x ∈ proofL l i, x.length = 32
  | 0, l, i, hf, x, hx => by rw [proofL_one l i (by omega)] at hx; cases hx
  | f + 1, l, i, hf, x, hx => by
    by_cases h1 : l.length ≤ 1
    · rw [proofL_one l i h1] at hx; cases hx
    · have h2 : 2 ≤ l.length := by omega
      have hlt := leftN_lt l.length h2
      have hpos := leftN_pos l.length
      by_cases hr : leftN l.length ≤ i
      · rw [proofL_right l i h2 hr, List.mem_append, List.mem_singleton] at hx
        rcases hx with hx | rfl
        · exact proofL_len32 f _ _ (by rw [List.length_drop]; omega) x hx
        · exact rootL_len _
      · rw [proofL_left l i h2 (by omega), List.mem_append, List.mem_singleton] at hx
        rcases hx with hx | rfl
        · exact proofL_len32 f _ _ (by rw [List.length_take]; omega) x hx
        · exact rootL_len _
theorem partL_len32 : ∀ (f : Nat) (l : List (List UInt8)) (m : Nat) (b : Bool), l.length ≤ f → 1 ≤ m → ∀ x ∈ partL l m b, x.length = 32
  | f, l, m, b, hf, h1, x, hx => by
    by_cases hml : m < l.length
    · match f, hf with
      | 0, hf => omega
      | f + 1, hf =>
        have h2 : 2 ≤ l.length := by omega
        have hlt := leftN_lt l.length h2
        have hpos := leftN_pos l.length
        by_cases hr : leftN l.length < m
        · rw [partL_right l m b hml hr, List.mem_append, List.mem_singleton] at hx
          rcases hx with hx | rfl
          · exact partL_len32 f _ _ _ (by rw [List.length_drop]; omega) (by omega) x hx
          · exact rootL_len _
        · rw [partL_left l m b hml h1 hr, List.mem_append, List.mem_singleton] at hx
          rcases hx with hx | rfl
          · exact partL_len32 f _ _ _ (by rw [List.length_take]; omega) h1 x hx
          · exact rootL_len _
    · rw [partL_all l m b (by omega)] at hx
      cases b with
      | true => cases hx
      | false => simp at hx; subst hx; exact rootL_len _
theorem extL_len32 (l : List (List UInt8)) (m : Nat) : ∀ x ∈ extL l m, x.length = 32 := by
  intro x hx
  unfold extL at hx
  split at hx
  · cases hx
  · exact partL_len32 l.length l m true (Nat.le_refl _) (by omega) x hx

/-- the number of binary digits -/
def binN (n : Nat) : Nat := if n = 0 then 0 else n.log2 + 1
/-- how deep the tree over n entries is at most -/
theorem partL_short : ∀ (f : Nat) (l : List (List UInt8)) (m : Nat) (b : Bool) (d : Nat), l.length ≤ f → 1 ≤ m → l.length ≤ 2 ^ d → (partL l m b).length ≤ d + 1
  | f, l, m, b, d, hf, h1, hd => by
    by_cases hml : m < l.length
    · match f, hf with
      | 0, hf => omega
      | f + 1, hf =>
        have h2 : 2 ≤ l.length := by omega
        have hlt := leftN_lt l.length h2
        have hpos := leftN_pos l.length
        have hge := leftN_ge l.length h2
        obtain ⟨e, rfl⟩ : ∃ e, d = e + 1 := ⟨d - 1, by
          cases d with
          | zero => simp at hd; omega
          | succ e => rfl⟩
        have hke : leftN l.length ≤ 2 ^ e := by
          unfold leftN at hlt ⊢
          apply Nat.pow_le_pow_right (by omega)
          apply Nat.le_of_not_lt; intro h
          have := Nat.pow_le_pow_right (n := 2) (by omega) (show e + 1 ≤ (l.length - 1).log2 by omega)
          omega
        by_cases hr : leftN l.length < m
        · rw [partL_right l m b hml hr, List.length_append, List.length_singleton]
          have := partL_short f (l.drop (leftN l.length)) (m - leftN l.length) false e (by rw [List.length_drop]; omega) (by omega) (by rw [List.length_drop]; omega)
          omega
        · rw [partL_left l m b hml h1 hr, List.length_append, List.length_singleton]
          have := partL_short f (l.take (leftN l.length)) m b e (by rw [List.length_take]; omega) h1 (by rw [List.length_take]; omega)
          omega
    · rw [partL_all l m b (by omega)]
      cases b <;> simp
theorem extL_short (l : List (List UInt8)) (m : Nat) (hm : m ≤ l.length) : (extL l m).length ≤ 2 * binN l.length := by
  unfold extL
  split
  · simp
  · have h0 : l.length ≠ 0 := by omega
    have hb : binN l.length = l.length.log2 + 1 := by unfold binN; rw [if_neg h0]
    have hlt : l.length < 2 ^ (l.length.log2 + 1) := Nat.lt_log2_self
    have := partL_short l.length l m true (l.length.log2 + 1) (Nat.le_refl _) (by omega) (by omega)
    omega
end Go.Proofs.YtheebajklnljdaaGreatDoor
end

section
/- The log, as plain Lean: its records and heads; Append. -/
namespace Go.Proofs.YtheebajklnljdaaGreatDoor

structure Lg where
  recs : List Rec
  heads : List Hd
deriving DecidableEq

def zero32 : List UInt8 := List.replicate 32 0
/-- New -/
def newLg (st : List UInt8) : Lg := ⟨[], [⟨0, zero32, st⟩]⟩
def lastH (x : Lg) : Hd := (x.heads.getLast?).getD hd0
/-- Append -/
def appA (x : Lg) (r : Rec) (st : List UInt8) : Lg × Int :=
  if (nextA (lastH x) r st).2 = 0 then (⟨x.recs ++ [r], x.heads ++ [(nextA (lastH x) r st).1]⟩, 0) else (x, 90)

structure Good (x : Lg) : Prop where
  len : x.heads.length = x.recs.length + 1
  head : ∀ (i : Nat) h, x.heads[i]? = some h → hdB h = true ∧ h.pos = i
  rec_ : ∀ (i : Nat) r, x.recs[i]? = some r → recB r = true ∧ r.pos = i + 1

theorem nextA_cases (h : Hd) (r : Rec) (st : List UInt8) :
    (recB r = true ∧ hdB h = true ∧ st.length = 32 ∧ r.pos = h.pos + 1 ∧ nextA h r st = (⟨r.pos, chainL h.chain (encRec r), st⟩, 0)) ∨
    (¬ (recB r = true ∧ hdB h = true ∧ st.length = 32 ∧ r.pos = h.pos + 1) ∧ nextA h r st = (hd0, 90)) := by
  unfold nextA
  by_cases c : (recB r && hdB h && decide (st.length = 32) && decide (r.pos = h.pos + 1)) = true
  · rw [if_pos c]
    simp only [Bool.and_eq_true, decide_eq_true_eq] at c
    exact .inl ⟨c.1.1.1, c.1.1.2, c.1.2, c.2, rfl⟩
  · rw [if_neg c]
    refine .inr ⟨fun k => c ?_, rfl⟩
    simp only [Bool.and_eq_true, decide_eq_true_eq]
    exact ⟨⟨⟨k.1, k.2.1⟩, k.2.2.1⟩, k.2.2.2⟩

theorem recB_pos {r : Rec} (h : recB r = true) : 1 ≤ r.pos ∧ r.pos ≤ 10000 ∧ 1 ≤ r.chs.length ∧ r.chs.length ≤ 8 := by
  unfold recB at h
  simp only [Bool.and_eq_true, decide_eq_true_eq] at h
  exact ⟨h.1.1.1, h.1.1.2, h.1.2.1, h.1.2.2⟩

theorem nextA_hdB {h : Hd} {r : Rec} {st : List UInt8} (e : (nextA h r st).2 = 0) : hdB (nextA h r st).1 = true ∧ (nextA h r st).1.pos = r.pos := by
  rcases nextA_cases h r st with ⟨h1, h2, h3, h4, h5⟩ | ⟨_, h5⟩
  · rw [h5]
    obtain ⟨p1, p2, _⟩ := recB_pos h1
    refine ⟨?_, rfl⟩
    unfold hdB
    have hl : (chainL h.chain (encRec r)).length = 32 := rfl
    simp only [Bool.and_eq_true, decide_eq_true_eq]
    exact ⟨⟨⟨by omega, p2⟩, hl⟩, h3⟩
  · rw [h5] at e; exact absurd e (by decide)

theorem newLg_good {st : List UInt8} (h : st.length = 32) : Good (newLg st) := by
  refine ⟨rfl, fun i g hg => ?_, fun i r hr => by simp [newLg] at hr⟩
  match i, hg with
  | 0, hg =>
    simp only [newLg, List.getElem?_cons_zero, Option.some.injEq] at hg
    subst hg
    refine ⟨?_, rfl⟩
    unfold hdB
    simp [h, zero32]
  | i + 1, hg => simp [newLg] at hg

theorem Good.last {x : Lg} (h : Good x) : x.heads[x.recs.length]? = some (lastH x) := by
  have hl := h.len
  unfold lastH
  rw [List.getLast?_eq_getElem?, hl, Nat.add_sub_cancel]
  have hlt : x.recs.length < x.heads.length := by omega
  rw [List.getElem?_eq_getElem hlt]
  rfl
theorem Good.lastB {x : Lg} (h : Good x) : hdB (lastH x) = true ∧ (lastH x).pos = x.recs.length := h.head _ _ h.last
theorem Good.small {x : Lg} (h : Good x) : x.recs.length ≤ 10000 := by
  have := h.lastB
  have h2 := (hdB_parts this.1).2.1
  omega

theorem appA_cases {x : Lg} (g : Good x) (r : Rec) (st : List UInt8) :
    (recB r = true ∧ st.length = 32 ∧ r.pos = (x.recs.length : Nat) + 1 ∧ (nextA (lastH x) r st).2 = 0 ∧ appA x r st = (⟨x.recs ++ [r], x.heads ++ [(nextA (lastH x) r st).1]⟩, 0)) ∨
    (¬ (recB r = true ∧ st.length = 32 ∧ r.pos = (x.recs.length : Nat) + 1) ∧ (nextA (lastH x) r st).2 = 90 ∧ appA x r st = (x, 90)) := by
  obtain ⟨hb, hp⟩ := g.lastB
  unfold appA
  rcases nextA_cases (lastH x) r st with ⟨h1, h2, h3, h4, h5⟩ | ⟨h1, h5⟩
  · left
    have e0 : (nextA (lastH x) r st).2 = 0 := by rw [h5]
    rw [if_pos e0]
    exact ⟨h1, h3, by omega, e0, rfl⟩
  · right
    have e0 : (nextA (lastH x) r st).2 = 90 := by rw [h5]
    rw [if_neg (by omega)]
    refine ⟨fun k => h1 ⟨k.1, hb, k.2.1, by omega⟩, e0, rfl⟩

theorem appA_good {x : Lg} (g : Good x) (r : Rec) (st : List UInt8) : Good (appA x r st).1 := by
  rcases appA_cases g r st with ⟨h1, h2, h3, h4, h5⟩ | ⟨_, _, h5⟩
  · rw [h5]
    obtain ⟨n1, n2⟩ := nextA_hdB h4
    have hl := g.len
    refine ⟨by simp [hl], fun i h hi => ?_, fun i q hi => ?_⟩
    · dsimp only at hi
      by_cases c : i < x.heads.length
      · rw [List.getElem?_append_left c] at hi
        exact g.head i h hi
      · rw [List.getElem?_append_right (by omega)] at hi
        have hlt := (List.getElem?_eq_some_iff.1 hi).1
        simp only [List.length_singleton] at hlt
        have ei : i = x.heads.length := by omega
        subst ei
        rw [Nat.sub_self] at hi
        simp only [List.getElem?_cons_zero, Option.some.injEq] at hi
        subst hi
        exact ⟨n1, by rw [n2]; omega⟩
    · dsimp only at hi
      by_cases c : i < x.recs.length
      · rw [List.getElem?_append_left c] at hi
        exact g.rec_ i q hi
      · rw [List.getElem?_append_right (by omega)] at hi
        have hlt := (List.getElem?_eq_some_iff.1 hi).1
        simp only [List.length_singleton] at hlt
        have ei : i = x.recs.length := by omega
        subst ei
        rw [Nat.sub_self] at hi
        simp only [List.getElem?_cons_zero, Option.some.injEq] at hi
        subst hi
        exact ⟨h1, h3⟩
  · rw [h5]; exact g

/-- the encodings of the heads -/
def leavesL (x : Lg) : List (List UInt8) := x.heads.map encHd
theorem leavesL_len (x : Lg) : (leavesL x).length = x.heads.length := by simp [leavesL]
theorem leavesL_short {x : Lg} (g : Good x) : ∀ l ∈ leavesL x, l.length ≤ 73 := by
  intro l hl
  unfold leavesL at hl
  obtain ⟨h, hh, rfl⟩ := List.mem_map.1 hl
  obtain ⟨i, hi⟩ := List.getElem?_of_mem hh
  exact encHd_len (g.head i h hi).1
/-- Root -/
def rootA (x : Lg) : List UInt8 := rootL (leavesL x)
end Go.Proofs.YtheebajklnljdaaGreatDoor
end

