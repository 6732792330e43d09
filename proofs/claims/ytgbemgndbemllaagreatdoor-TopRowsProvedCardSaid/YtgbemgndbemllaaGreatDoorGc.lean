/- Joined: ShaP WireP StrP TreeP LogP StoP TreeQ TreeV OrdP StoQ LogQ TopP. -/

section
/- SHA-256, as plain Lean. -/
namespace Go.Proofs.YtgbemgndbemllaaGreatDoor

def rotN (x n : Nat) : Nat := (x / 2 ^ n) ||| (x * 2 ^ (32 - n) % 4294967296)
def s0N (x : Nat) : Nat := rotN x 7 ^^^ rotN x 18 ^^^ (x / 2 ^ 3)
def s1N (x : Nat) : Nat := rotN x 17 ^^^ rotN x 19 ^^^ (x / 2 ^ 10)
def b0N (x : Nat) : Nat := rotN x 2 ^^^ rotN x 13 ^^^ rotN x 22
def b1N (x : Nat) : Nat := rotN x 6 ^^^ rotN x 11 ^^^ rotN x 25
def chN (e f g : Nat) : Nat := (e &&& f) ^^^ ((4294967295 - e) &&& g)
def majN (a b c : Nat) : Nat := (a &&& b) ^^^ (a &&& c) ^^^ (b &&& c)

def k256 : List Nat := [1116352408, 1899447441, 3049323471, 3921009573, 961987163, 1508970993, 2453635748, 2870763221, 3624381080, 310598401, 607225278, 1426881987, 1925078388, 2162078206, 2614888103, 3248222580, 3835390401, 4022224774, 264347078, 604807628, 770255983, 1249150122, 1555081692, 1996064986, 2554220882, 2821834349, 2952996808, 3210313671, 3336571891, 3584528711, 113926993, 338241895, 666307205, 773529912, 1294757372, 1396182291, 1695183700, 1986661051, 2177026350, 2456956037, 2730485921, 2820302411, 3259730800, 3345764771, 3516065817, 3600352804, 4094571909, 275423344, 430227734, 506948616, 659060556, 883997877, 958139571, 1322822218, 1537002063, 1747873779, 1955562222, 2024104815, 2227730452, 2361852424, 2428436474, 2756734187, 3204031479, 3329325298]

/-- the eight words -/
structure V8 where
  (a b c d e f g h : Nat)
deriving DecidableEq

def V8.toL (v : V8) : List Nat := [v.a, v.b, v.c, v.d, v.e, v.f, v.g, v.h]

def iv : V8 := ⟨1779033703, 3144134277, 1013904242, 2773480762, 1359893119, 2600822924, 528734635, 1541459225⟩

def rndT (v : V8) (k w : Nat) : Nat := (v.h + b1N v.e + chN v.e v.f v.g + k + w) % 4294967296
def rndU (v : V8) : Nat := (b0N v.a + majN v.a v.b v.c) % 4294967296
def rnd (v : V8) (k w : Nat) : V8 :=
  ⟨(rndT v k w + rndU v) % 4294967296, v.a, v.b, v.c, (v.d + rndT v k w) % 4294967296, v.e, v.f, v.g⟩

def nextW (l : List Nat) : Nat :=
  (l.getD (l.length - 16) 0 + s0N (l.getD (l.length - 15) 0) + l.getD (l.length - 7) 0 + s1N (l.getD (l.length - 2) 0)) % 4294967296

def schedN : Nat → List Nat → List Nat
  | 0, l => l
  | n + 1, l => schedN n (l ++ [nextW l])

def byteN (l : List UInt8) (i : Nat) : Nat := (l.getD i 0).toNat
def be4 (l : List UInt8) (i : Nat) : Nat := byteN l (4 * i) * 16777216 + byteN l (4 * i + 1) * 65536 + byteN l (4 * i + 2) * 256 + byteN l (4 * i + 3)
def words16 (l : List UInt8) : List Nat := (List.range 16).map (be4 l)
def add8 (h v : V8) : V8 :=
  ⟨(h.a + v.a) % 4294967296, (h.b + v.b) % 4294967296, (h.c + v.c) % 4294967296, (h.d + v.d) % 4294967296,
   (h.e + v.e) % 4294967296, (h.f + v.f) % 4294967296, (h.g + v.g) % 4294967296, (h.h + v.h) % 4294967296⟩
def rounds (h : V8) (ps : List (Nat × Nat)) : V8 := ps.foldl (fun v p => rnd v p.1 p.2) h
def compress (h : V8) (blk : List UInt8) : V8 := add8 h (rounds h (k256.zip (schedN 48 (words16 blk))))

/-- the blocks of 64 bytes, one after the other -/
def blocksN : Nat → V8 → List UInt8 → V8
  | 0, h, _ => h
  | n + 1, h, l => blocksN n (compress h (l.take 64)) (l.drop 64)

def be8 (n : Nat) : List UInt8 := [7, 6, 5, 4, 3, 2, 1, 0].map fun i => UInt8.ofNat (n / 2 ^ (8 * i))
def padL (s : List UInt8) : List UInt8 := s ++ (128 :: List.replicate ((119 - s.length % 64) % 64) 0) ++ be8 (8 * s.length)
def be4L (x : Nat) : List UInt8 := [UInt8.ofNat (x / 16777216), UInt8.ofNat (x / 65536), UInt8.ofNat (x / 256), UInt8.ofNat x]
def outL (v : V8) : List UInt8 := v.toL.flatMap be4L

/-- Sum -/
def shaL (s : List UInt8) : List UInt8 := outL (blocksN ((padL s).length / 64) iv (padL s))

theorem sha_empty : shaL [] = [227, 176, 196, 66, 152, 252, 28, 20, 154, 251, 244, 200, 153, 111, 185, 36, 39, 174, 65, 228, 100, 155, 147, 76, 164, 149, 153, 27, 120, 82, 184, 85] := by decide +kernel
theorem sha_abc : shaL [97, 98, 99] = [186, 120, 22, 191, 143, 1, 207, 234, 65, 65, 64, 222, 93, 174, 34, 35, 176, 3, 97, 163, 150, 23, 122, 156, 180, 16, 255, 97, 242, 0, 21, 173] := by decide +kernel

end Go.Proofs.YtgbemgndbemllaaGreatDoor
end

section
/- The plain law of package wire: what the encodings of integers and strings are, and that they are read back. No program in sight. -/
namespace Go.Proofs.YtgbemgndbemllaaGreatDoor

/-- the groups of z, of at most f groups -/
def grp : Nat → Nat → List (Nat × Bool)
  | 0, _ => []
  | f + 1, z => if z < 128 then [(z, true)] else (z % 128, false) :: grp f (z / 128)

/-- a group's byte -/
def encB (x : Nat × Bool) : UInt8 := UInt8.ofNat (if x.2 then x.1 else x.1 + 128)

/-- the number that is encoded for n -/
def zz (n : Int) : Nat := if n < 0 then (2 * (-n) - 1).toNat else (2 * n).toNat

/-- the integer of a number -/
def unzz (z : Nat) : Int := if z % 2 = 0 then (z / 2 : Nat) else -((z / 2 : Nat) : Int) - 1

/-- what PutInt returns for an integer with an encoding -/
def putL (n : Int) : List UInt8 := (grp 9 (zz n)).map encB

/-- the integers that have an encoding -/
def IntOk (n : Int) : Prop := -4611686018427387903 ≤ n ∧ n ≤ 4611686018427387903

theorem zz_lt (n : Int) (h1 : -4611686018427387903 ≤ n) (h2 : n ≤ 4611686018427387903) : zz n < 2 ^ 63 := by
  unfold zz; split <;> omega

theorem unzz_zz (n : Int) : unzz (zz n) = n := by
  unfold unzz zz; split <;> split <;> omega

theorem zz_unzz (z : Nat) : zz (unzz z) = z := by
  unfold unzz zz; split <;> split <;> omega

theorem encB_toNat (x : Nat × Bool) (h : x.1 < 128) : ((encB x).toNat : Int) = if x.2 then (x.1 : Int) else (x.1 : Int) + 128 := by
  unfold encB
  rw [UInt8.toNat_ofNat']
  split <;> omega

theorem encB_nat (x : Nat × Bool) (h : x.1 < 128) : (encB x).toNat = if x.2 then x.1 else x.1 + 128 := by
  unfold encB
  rw [UInt8.toNat_ofNat']
  split <;> omega

/-- reading an integer: f bytes at most, i bytes have been read and make acc; the value and how many bytes it has -/
def dec : Nat → Nat → Nat → List UInt8 → Option (Int × Nat)
  | 0, _, _, _ => none
  | _ + 1, _, _, [] => none
  | f + 1, i, acc, b :: r =>
    if 128 ≤ b.toNat then dec f (i + 1) (acc + b.toNat % 128 * 2 ^ (7 * i)) r
    else if (b.toNat = 0 ∧ 0 < i) ∨ unzz (acc + b.toNat % 128 * 2 ^ (7 * i)) < -4611686018427387903 then none
    else some (unzz (acc + b.toNat % 128 * 2 ^ (7 * i)), i + 1)

/-- what Int returns: the value, the offset behind it, the error -/
def getInt (l : List UInt8) (at' : Int) : Int × Int × Int :=
  if at' < 0 ∨ (l.length : Int) < at' then (0, 0, 2)
  else match dec 9 0 0 (l.drop at'.toNat) with
    | none => (0, 0, 10)
    | some (n, k) => (n, at' + k, 0)

theorem pow7 (i : Nat) : 2 ^ (7 * (i + 1)) = 128 * 2 ^ (7 * i) := by
  rw [Nat.mul_succ, Nat.pow_add, Nat.mul_comm]

theorem grp_pos (f y : Nat) (h : 1 ≤ f) : grp f y ≠ [] := by
  cases f with
  | zero => omega
  | succ f => unfold grp; split <;> simp

theorem grp_len (f y : Nat) : (grp f y).length ≤ f := by
  induction f generalizing y with
  | zero => simp [grp]
  | succ f ih => unfold grp; split <;> simp; exact ih _

theorem dec_grp : ∀ (f y i acc : Nat) (rest : List UInt8), y < 2 ^ (7 * f) → 1 ≤ f →
    dec f i acc ((grp f y).map encB ++ rest) =
      if (y = 0 ∧ 0 < i) ∨ unzz (acc + y * 2 ^ (7 * i)) < -4611686018427387903 then none else some (unzz (acc + y * 2 ^ (7 * i)), i + (grp f y).length)
  | 0, _, _, _, _, _, h => by omega
  | f + 1, y, i, acc, rest, hy, _ => by
    by_cases h : y < 128
    · have e := encB_nat (y, true) h
      simp only [if_true] at e
      have hm : y % 128 = y := Nat.mod_eq_of_lt h
      rw [grp, if_pos h]
      simp only [List.map_cons, List.map_nil, List.cons_append, List.nil_append, dec, e]
      rw [if_neg (by omega), hm]
      rfl
    · have hm : y % 128 < 128 := Nat.mod_lt _ (by omega)
      have e := encB_nat (y % 128, false) hm
      simp only [Bool.false_eq_true, if_false] at e
      have hf : 1 ≤ f := by
        rcases Nat.eq_zero_or_pos f with h' | h'
        · subst h'; simp at hy; omega
        · exact h'
      have hy' : y / 128 < 2 ^ (7 * f) := by rw [pow7] at hy; exact Nat.div_lt_of_lt_mul hy
      rw [grp, if_neg h]
      simp only [List.map_cons, List.cons_append, dec, e]
      rw [if_pos (by omega), dec_grp f (y / 128) (i + 1) _ rest hy' hf]
      have e1 : (y % 128 + 128) % 128 = y % 128 := by omega
      have e2 : acc + y % 128 * 2 ^ (7 * i) + y / 128 * 2 ^ (7 * (i + 1)) = acc + y * 2 ^ (7 * i) := by
        rw [pow7, ← Nat.mul_assoc, Nat.add_assoc, ← Nat.add_mul]
        congr 2; omega
      have e3 : y / 128 ≠ 0 := by omega
      have e4 : y ≠ 0 := by omega
      rw [e1, e2]
      simp only [e3, e4, false_and, false_or, List.length_cons]
      rw [show i + 1 + (grp f (y / 128)).length = i + ((grp f (y / 128)).length + 1) by omega]

theorem dec_some : ∀ (f i acc : Nat) (l : List UInt8) (n : Int) (k : Nat), dec f i acc l = some (n, k) →
    ∃ y, y < 2 ^ (7 * f) ∧ (y = 0 → i = 0) ∧ -4611686018427387903 ≤ n ∧ n = unzz (acc + y * 2 ^ (7 * i)) ∧ k = i + (grp f y).length ∧ ∃ rest, l = (grp f y).map encB ++ rest
  | 0, _, _, _, _, _, h => by simp [dec] at h
  | f + 1, _, _, [], _, _, h => by simp [dec] at h
  | f + 1, i, acc, b :: r, n, k, h => by
    simp only [dec] at h
    have hb : b.toNat < 256 := b.toNat_lt
    by_cases h1 : 128 ≤ b.toNat
    · rw [if_pos h1] at h
      obtain ⟨y, hy, h0, hn, en, ek, rest, er⟩ := dec_some f (i + 1) _ r n k h
      have hy0 : y ≠ 0 := fun e => by have := h0 e; omega
      have hlt : ¬ (b.toNat % 128 + 128 * y < 128) := by omega
      have hmod : (b.toNat % 128 + 128 * y) % 128 = b.toNat % 128 := by omega
      have hdiv : (b.toNat % 128 + 128 * y) / 128 = y := by omega
      refine ⟨b.toNat % 128 + 128 * y, ?_, fun e => by omega, hn, ?_, ?_, rest, ?_⟩
      · rw [pow7]; omega
      · rw [en, pow7, ← Nat.mul_assoc, Nat.add_assoc, ← Nat.add_mul, Nat.mul_comm y 128]
      · rw [grp, if_neg hlt, hdiv, ek]; simp; omega
      · rw [grp, if_neg hlt, hmod, hdiv, er]
        have : encB (b.toNat % 128, false) = b := by
          apply UInt8.toNat.inj
          rw [encB_nat _ (Nat.mod_lt _ (by omega))]
          simp; omega
        simp [this]
    · rw [if_neg h1] at h
      split at h
      · cases h
      · rename_i h2
        simp only [Option.some.injEq, Prod.mk.injEq] at h
        obtain ⟨rfl, rfl⟩ := h
        have hm : b.toNat % 128 = b.toNat := Nat.mod_eq_of_lt (by omega)
        rw [hm] at h2 ⊢
        refine ⟨b.toNat, ?_, fun e => ?_, ?_, rfl, ?_, r, ?_⟩
        · rw [pow7]; have : 0 < 2 ^ (7 * f) := Nat.two_pow_pos _; omega
        · rcases Nat.eq_zero_or_pos i with h' | h'
          · exact h'
          · exact (h2 (.inl ⟨e, h'⟩)).elim
        · have := not_or.1 h2; omega
        · rw [grp, if_pos (by omega)]; rfl
        · rw [grp, if_pos (by omega)]
          have : encB (b.toNat, true) = b := by
            apply UInt8.toNat.inj
            rw [encB_nat _ (by simp; omega)]
            simp
          simp [this]

/-- D1: an encoding is read back. -/
theorem getInt_put (l : List UInt8) (at' : Nat) (n : Int) (hn : IntOk n) (rest : List UInt8) (h : l.drop at' = putL n ++ rest) :
    getInt l (at' : Int) = (n, (at' : Int) + ((putL n).length : Nat), 0) := by
  have hz := zz_lt n hn.1 hn.2
  have hlen : at' ≤ l.length := by
    rcases Nat.lt_or_ge l.length at' with h' | h'
    · rw [List.drop_eq_nil_of_le (by omega)] at h
      have := grp_pos 9 (zz n) (by omega)
      simp [putL] at h
      exact absurd h.1 this
    · exact h'
  unfold getInt
  rw [if_neg (by omega), Int.toNat_natCast, h]
  unfold putL
  rw [dec_grp 9 (zz n) 0 0 rest hz (by omega)]
  simp only [Nat.lt_irrefl, and_false, false_or, Nat.mul_zero, Nat.pow_zero, Nat.mul_one, Nat.zero_add, unzz_zz, List.length_map]
  rw [if_neg (by have := hn.1; omega)]

/-- D2: what is read is an encoding. -/
theorem getInt_ok (l : List UInt8) (at' n x : Int) (h : getInt l at' = (n, x, 0)) :
    IntOk n ∧ 0 ≤ at' ∧ at' ≤ l.length ∧ x = at' + (putL n).length ∧ ∃ rest, l.drop at'.toNat = putL n ++ rest := by
  unfold getInt at h
  split at h
  · simp at h
  · rename_i h1
    split at h
    · simp at h
    · rename_i n' k hd
      simp only [Prod.mk.injEq, and_true] at h
      obtain ⟨rfl, rfl⟩ := h
      obtain ⟨y, hy, _, hn, en, ek, rest, er⟩ := dec_some _ _ _ _ _ _ hd
      simp only [Nat.mul_zero, Nat.pow_zero, Nat.mul_one, Nat.zero_add] at en ek
      have hzz : zz n' = y := by rw [en, zz_unzz]
      have hput : putL n' = (grp 9 y).map encB := by unfold putL; rw [hzz]
      refine ⟨⟨hn, ?_⟩, by omega, by omega, ?_, rest, ?_⟩
      · rw [en]; unfold unzz; split <;> omega
      · rw [hput, List.length_map, ek]
      · rw [hput]; exact er

theorem dec_put (n : Int) (hn : IntOk n) (rest : List UInt8) : dec 9 0 0 (putL n ++ rest) = some (n, (putL n).length) := by
  have hz := zz_lt n hn.1 hn.2
  unfold putL
  rw [dec_grp 9 (zz n) 0 0 rest hz (by omega)]
  simp only [Nat.lt_irrefl, and_false, false_or, Nat.mul_zero, Nat.pow_zero, Nat.mul_one, Nat.zero_add, unzz_zz, List.length_map]
  rw [if_neg (by have := hn.1; omega)]

theorem dec_none_ne {L : List UInt8} (h : dec 9 0 0 L = none) {m : Int} (hm : IntOk m) (j : Nat) : putL m ≠ L.take j := by
  intro e
  have := dec_put m hm (L.drop j)
  rw [e, List.take_append_drop, h] at this
  cases this

theorem dec_some_take {L : List UInt8} {m : Int} {k : Nat} (h : dec 9 0 0 L = some (m, k)) : putL m = L.take k ∧ k = (putL m).length ∧ IntOk m ∧ k ≤ L.length := by
  obtain ⟨y, hy, _, hn, en, ek, rest, er⟩ := dec_some _ _ _ _ _ _ h
  simp only [Nat.mul_zero, Nat.pow_zero, Nat.mul_one, Nat.zero_add] at en ek
  have hzz : zz m = y := by rw [en, zz_unzz]
  have hput : putL m = (grp 9 y).map encB := by unfold putL; rw [hzz]
  have hk : k = (putL m).length := by rw [hput, List.length_map, ek]
  rw [← hput] at er
  refine ⟨by rw [er, hk, List.take_left], hk, ⟨hn, ?_⟩, by rw [er, hk]; simp⟩
  rw [en]; unfold unzz; split <;> omega

theorem getInt_err (l : List UInt8) (at' : Int) : (getInt l at').2.2 = 0 ∨ ((getInt l at').1 = 0 ∧ (getInt l at').2.1 = 0 ∧ ((getInt l at').2.2 = 10 ∧ 0 ≤ at' ∧ at' ≤ l.length ∨ (getInt l at').2.2 = 2 ∧ (at' < 0 ∨ (l.length : Int) < at'))) := by
  unfold getInt
  split
  · rename_i h; exact .inr ⟨rfl, rfl, .inr ⟨rfl, h⟩⟩
  · rename_i h
    split
    · exact .inr ⟨rfl, rfl, .inl ⟨rfl, by omega, by omega⟩⟩
    · exact .inl rfl

theorem putL_pos (n : Int) : putL n ≠ [] := by
  unfold putL; have := grp_pos 9 (zz n) (by omega); simpa using this

theorem putL_len (n : Int) : (putL n).length ≤ 9 := by
  unfold putL; have := grp_len 9 (zz n); simpa using this

/-- Two encodings at the head of one list are of one integer. -/
theorem putL_prefix (n m : Int) (hn : IntOk n) (hm : IntOk m) (r s : List UInt8) (h : putL n ++ r = putL m ++ s) : n = m := by
  have h1 := getInt_put (putL n ++ r) 0 n hn r (by simp)
  have h2 := getInt_put (putL n ++ r) 0 m hm s (by simpa using h)
  rw [h1] at h2
  exact congrArg (fun t => t.1) h2

end Go.Proofs.YtgbemgndbemllaaGreatDoor
end

section
/- The plain law of strings in package wire. -/
namespace Go.Proofs.YtgbemgndbemllaaGreatDoor

/-- what PutString returns for a string of at most 65536 bytes -/
def putS (l : List UInt8) : List UInt8 := putL l.length ++ l

/-- what String returns -/
def getStr (l : List UInt8) (p : Int) : List UInt8 × Int × Int :=
  if (getInt l p).2.2 ≠ 0 then ([], 0, (getInt l p).2.2)
  else if (getInt l p).1 < 0 ∨ 65536 < (getInt l p).1 ∨ (l.length : Int) - (getInt l p).2.1 < (getInt l p).1 then ([], 0, 10)
  else ((l.drop (getInt l p).2.1.toNat).take (getInt l p).1.toNat, (getInt l p).2.1 + (getInt l p).1, 0)

theorem intOk_len (l : List UInt8) (h : l.length ≤ 65536) : IntOk l.length := ⟨by omega, by omega⟩

theorem getStr_put (l : List UInt8) (p : Nat) (t : List UInt8) (ht : t.length ≤ 65536) (rest : List UInt8) (h : l.drop p = putS t ++ rest) :
    getStr l p = (t, (p : Int) + ((putS t).length : Nat), 0) := by
  have h1 : l.drop p = putL t.length ++ (t ++ rest) := by rw [h, putS, List.append_assoc]
  have hg := getInt_put l p t.length (intOk_len t ht) (t ++ rest) h1
  have hd : l.drop (p + (putL t.length).length) = t ++ rest := by
    rw [← List.drop_drop, h1, List.drop_left]
  have hlen : p + (putL t.length).length + t.length ≤ l.length := by
    have := congrArg List.length h1
    simp only [List.length_drop, List.length_append] at this
    have hp := List.length_pos_iff.2 (putL_pos t.length)
    omega
  unfold getStr
  rw [hg]
  simp only [ne_eq, not_true_eq_false, if_false]
  rw [if_neg (by omega)]
  have e1 : ((p : Int) + ((putL t.length).length : Nat)).toNat = p + (putL t.length).length := by omega
  rw [e1, hd]
  simp only [Int.toNat_natCast, List.take_left, putS, List.length_append]
  refine Prod.ext rfl (Prod.ext ?_ rfl)
  simp only []
  omega

theorem getStr_ok (l : List UInt8) (p : Int) (t : List UInt8) (x : Int) (h : getStr l p = (t, x, 0)) :
    t.length ≤ 65536 ∧ 0 ≤ p ∧ p ≤ l.length ∧ x = p + (putS t).length ∧ ∃ rest, l.drop p.toNat = putS t ++ rest := by
  unfold getStr at h
  split at h
  · rename_i hne
    simp only [Prod.mk.injEq] at h
    exact (hne h.2.2).elim
  · rename_i heq
    split at h
    · simp at h
    · rename_i hr
      obtain ⟨n, y, e⟩ : ∃ n y, getInt l p = (n, y, 0) := ⟨_, _, Prod.ext rfl (Prod.ext rfl (by simpa using heq))⟩
      rw [e] at h hr
      obtain ⟨hn, hp0, hpl, hy, rest, hd⟩ := getInt_ok l p n y e
      simp only [Prod.mk.injEq, and_true] at h
      obtain ⟨rfl, rfl⟩ := h
      simp only [not_or] at hr
      obtain ⟨hr1, hr2, hr3⟩ := hr
      have hlen := congrArg List.length hd
      simp only [List.length_drop, List.length_append] at hlen
      have hrest : l.drop y.toNat = rest := by
        rw [show y.toNat = p.toNat + (putL n).length by omega, ← List.drop_drop, hd, List.drop_left]
      have hle : n.toNat ≤ rest.length := by omega
      have htl : (rest.take n.toNat).length = n.toNat := by rw [List.length_take]; omega
      rw [hrest]
      have hnn : ((n.toNat : Nat) : Int) = n := by omega
      refine ⟨by omega, hp0, hpl, ?_, rest.drop n.toNat, ?_⟩
      · rw [putS, List.length_append, htl, hnn]; omega
      · rw [putS, htl, hnn, List.append_assoc, List.take_append_drop]; exact hd

theorem getStr_err (l : List UInt8) (p : Int) : (getStr l p).2.2 = 0 ∨ ((getStr l p).1 = [] ∧ (getStr l p).2.1 = 0 ∧ ((getStr l p).2.2 = 10 ∧ 0 ≤ p ∧ p ≤ l.length ∨ (getStr l p).2.2 = 2 ∧ (p < 0 ∨ (l.length : Int) < p))) := by
  unfold getStr
  split
  · rename_i h
    rcases getInt_err l p with h' | ⟨_, _, h'⟩
    · exact (h h').elim
    · exact .inr ⟨rfl, rfl, h'⟩
  · rename_i h
    have h0 : (getInt l p).2.2 = 0 := by simpa using h
    split
    · obtain ⟨n, y, e⟩ : ∃ n y, getInt l p = (n, y, 0) := ⟨_, _, Prod.ext rfl (Prod.ext rfl h0)⟩
      obtain ⟨_, hp0, hpl, _⟩ := getInt_ok l p n y e
      exact .inr ⟨rfl, rfl, .inl ⟨rfl, hp0, hpl⟩⟩
    · exact .inl rfl

theorem getInt_cases (l : List UInt8) (z n x e : Int) (h : getInt l z = (n, x, e)) (h0 : 0 ≤ z) (h1 : z ≤ l.length) :
    (e = 0 ∧ IntOk n ∧ z ≤ x ∧ x ≤ l.length ∧ (l.drop z.toNat).take (x.toNat - z.toNat) = putL n) ∨ (e = 10 ∧ n = 0 ∧ x = 0) := by
  have he := getInt_err l z
  rw [h] at he
  simp only [] at he
  rcases he with rfl | ⟨hn, hx, ⟨he, _⟩ | ⟨_, hz⟩⟩
  · obtain ⟨hn, _, _, hx, rest, hd⟩ := getInt_ok l z n x h
    have hlen := congrArg List.length hd
    simp only [List.length_drop, List.length_append] at hlen
    have hp := List.length_pos_iff.2 (putL_pos n)
    refine .inl ⟨rfl, hn, by omega, by omega, ?_⟩
    rw [hd, show x.toNat - z.toNat = (putL n).length by omega, List.take_left]
  · exact .inr ⟨he, hn, hx⟩
  · omega

theorem getStr_cases (l : List UInt8) (z : Int) (v : List UInt8) (x e : Int) (h : getStr l z = (v, x, e)) (h0 : 0 ≤ z) (h1 : z ≤ l.length) :
    (e = 0 ∧ v.length ≤ 65536 ∧ z ≤ x ∧ x ≤ l.length ∧ (l.drop z.toNat).take (x.toNat - z.toNat) = putS v) ∨ (e = 10 ∧ v = [] ∧ x = 0) := by
  have he := getStr_err l z
  rw [h] at he
  simp only [] at he
  rcases he with rfl | ⟨hn, hx, ⟨he, _⟩ | ⟨_, hz⟩⟩
  · obtain ⟨hn, _, _, hx, rest, hd⟩ := getStr_ok l z v x h
    have hlen := congrArg List.length hd
    simp only [List.length_drop, List.length_append] at hlen
    have hp := List.length_pos_iff.2 (putL_pos v.length)
    have hp2 : (putL v.length).length ≤ (putS v).length := by rw [putS, List.length_append]; omega
    refine .inl ⟨rfl, hn, by omega, by omega, ?_⟩
    rw [hd, show x.toNat - z.toNat = (putS v).length by omega, List.take_left]
  · exact .inr ⟨he, hn, hx⟩
  · omega

end Go.Proofs.YtgbemgndbemllaaGreatDoor
end

section
/- The tree over digests, plain. -/
namespace Go.Proofs.YtgbemgndbemllaaGreatDoor

def leafL (s : List UInt8) : List UInt8 := shaL (0 :: s)
def nodeL (a b : List UInt8) : List UInt8 := shaL (1 :: (a ++ b))
def chainL (h r : List UInt8) : List UInt8 := shaL (2 :: (h ++ r))

/-- the greatest power of two that is less than n (n at least 2) -/
def leftN (n : Nat) : Nat := 2 ^ (n - 1).log2

theorem leftN_lt (n : Nat) (h : 2 ≤ n) : leftN n < n := by
  have := Nat.log2_self_le (n := n - 1) (by omega)
  unfold leftN; omega
theorem leftN_pos (n : Nat) : 1 ≤ leftN n := Nat.one_le_two_pow
theorem leftN_ge (n : Nat) (h : 2 ≤ n) : n ≤ 2 * leftN n := by
  have : n - 1 < 2 ^ ((n - 1).log2 + 1) := Nat.lt_log2_self
  unfold leftN
  rw [Nat.pow_succ] at this
  omega
theorem leftN_eq (n k : Nat) (h1 : 2 ^ k < n) (h2 : n ≤ 2 ^ (k + 1)) : leftN n = 2 ^ k := by
  unfold leftN
  have : (n - 1).log2 = k := (Nat.log2_eq_iff (by omega)).2 ⟨by omega, by omega⟩
  rw [this]

/-- the root, by fuel -/
def rootF : Nat → List (List UInt8) → List UInt8
  | _, [] => shaL []
  | _, [a] => leafL a
  | 0, _ => []
  | f + 1, l => nodeL (rootF f (l.take (leftN l.length))) (rootF f (l.drop (leftN l.length)))
def rootL (l : List (List UInt8)) : List UInt8 := rootF l.length l

theorem rootF_fuel : ∀ (f g : Nat) (l : List (List UInt8)), l.length ≤ f → l.length ≤ g → rootF f l = rootF g l
  | f, g, [], _, _ => by simp [rootF]
  | f, g, [a], _, _ => by simp [rootF]
  | 0, _, a :: b :: t, h, _ => by simp at h
  | _ + 1, 0, a :: b :: t, _, h => by simp at h
  | f + 1, g + 1, a :: b :: t, h1, h2 => by
    simp only [rootF]
    have hl := leftN_lt (a :: b :: t).length (by simp)
    have hp := leftN_pos (a :: b :: t).length
    generalize leftN (a :: b :: t).length = k at *
    rw [rootF_fuel f g _ (by rw [List.length_take]; omega) (by rw [List.length_take]; omega), rootF_fuel f g _ (by rw [List.length_drop]; omega) (by rw [List.length_drop]; omega)]

theorem rootL_nil : rootL [] = shaL [] := rfl
theorem rootL_one (a : List UInt8) : rootL [a] = leafL a := rfl
theorem rootL_node (l : List (List UInt8)) (h : 2 ≤ l.length) : rootL l = nodeL (rootL (l.take (leftN l.length))) (rootL (l.drop (leftN l.length))) := by
  have hl := leftN_lt l.length h
  have hp := leftN_pos l.length
  match l, h with
  | a :: b :: t, _ =>
    show rootF ((b :: t).length + 1) (a :: b :: t) = _
    simp only [rootF]
    generalize hk : leftN (a :: b :: t).length = k at *
    unfold rootL
    simp only [List.length_cons] at *
    congr 1
    · exact rootF_fuel _ _ _ (by simp only [List.length_take, List.length_cons]; omega) (Nat.le_refl _)
    · exact rootF_fuel _ _ _ (by simp only [List.length_drop, List.length_cons]; omega) (Nat.le_refl _)

theorem rootL_cat (a b : List (List UInt8)) (k : Nat) (ha : a.length = 2 ^ k) (hb1 : 1 ≤ b.length) (hb2 : b.length ≤ 2 ^ k) : nodeL (rootL a) (rootL b) = rootL (a ++ b) := by
  have hp : 1 ≤ 2 ^ k := Nat.one_le_two_pow
  have hl : (a ++ b).length = 2 ^ k + b.length := by rw [List.length_append, ha]
  have hk : leftN (a ++ b).length = 2 ^ k := leftN_eq _ k (by omega) (by rw [Nat.pow_succ]; omega)
  rw [rootL_node (a ++ b) (by omega), hk, ← ha, List.take_left, List.drop_left]

/-- complete parts, each longer than the next -/
def Parts : List (List (List UInt8)) → Prop
  | [] => True
  | [p] => ∃ k, p.length = 2 ^ k
  | p :: q :: t => (∃ k, p.length = 2 ^ k) ∧ q.length < p.length ∧ Parts (q :: t)

/-- the same, but the last two may be of one size -/
def PartsE (ps : List (List (List UInt8))) : Prop := ∃ qs b, ps = qs ++ [b] ∧ (∃ k, b.length = 2 ^ k) ∧ Parts qs ∧ ∀ a, qs.getLast? = some a → b.length ≤ a.length

theorem Parts.pow : ∀ {ps : List (List (List UInt8))}, Parts ps → ∀ p ∈ ps, ∃ k, p.length = 2 ^ k
  | [p], h, q, hq => by simp at hq; subst hq; exact h
  | p :: q :: t, h, r, hr => by
    rcases List.mem_cons.1 hr with rfl | hr
    · exact h.1
    · exact Parts.pow h.2.2 r hr
theorem Parts.tail {p : List (List UInt8)} {t : List (List (List UInt8))} (h : Parts (p :: t)) : Parts t := by
  cases t with
  | nil => trivial
  | cons q t => exact h.2.2
theorem Parts.init : ∀ {ps : List (List (List UInt8))} {b : List (List UInt8)}, Parts (ps ++ [b]) → Parts ps
  | [], _, _ => trivial
  | [_], _, h => h.1
  | _ :: q :: t, _, h => ⟨h.1, h.2.1, Parts.init (ps := q :: t) h.2.2⟩
theorem Parts.snoc : ∀ {ps : List (List (List UInt8))} {b : List (List UInt8)}, Parts ps → (∃ k, b.length = 2 ^ k) → (∀ a, ps.getLast? = some a → b.length < a.length) → Parts (ps ++ [b])
  | [], _, _, hb, _ => hb
  | [p], _, h, hb, hl => ⟨h, hl p rfl, hb⟩
  | p :: q :: t, b, h, hb, hl => ⟨h.1, h.2.1, Parts.snoc (ps := q :: t) h.2.2 hb (fun a ha => hl a (by rw [List.getLast?_cons_cons]; exact ha))⟩
theorem Parts.last_lt : ∀ {ps : List (List (List UInt8))} {b : List (List UInt8)}, Parts (ps ++ [b]) → ∀ a, ps.getLast? = some a → b.length < a.length
  | [], _, _, a, ha => by simp at ha
  | [p], _, h, a, ha => by simp at ha; subst ha; exact h.2.1
  | p :: q :: t, b, h, a, ha => Parts.last_lt (ps := q :: t) h.2.2 a (by rw [List.getLast?_cons_cons] at ha; exact ha)

/-- The rest of the parts is shorter than the first one. -/
theorem Parts.sum : ∀ {p : List (List UInt8)} {t : List (List (List UInt8))}, Parts (p :: t) → t.flatten.length < p.length
  | p, [], ⟨k, hk⟩ => by simp [hk]; exact Nat.pos_of_ne_zero (fun h => by rw [h] at hk; have := Nat.one_le_two_pow (n := k); omega)
  | p, q :: t, ⟨⟨k, hk⟩, hl, hq⟩ => by
    have h1 := Parts.sum hq
    obtain ⟨j, hj⟩ := hq.pow q (by simp)
    rw [List.flatten_cons, List.length_append]
    have hjk : j < k := by
      apply Nat.lt_of_not_le; intro hle
      have := Nat.pow_le_pow_right (n := 2) (by omega) hle
      omega
    have : 2 ^ (j + 1) ≤ 2 ^ k := Nat.pow_le_pow_right (by omega) hjk
    rw [Nat.pow_succ] at this
    omega

/-- The parts' roots joined from the last on. -/
def joinR : List (List UInt8) → List UInt8
  | [] => shaL []
  | [a] => a
  | a :: t => nodeL a (joinR t)

theorem Parts.root : ∀ {ps : List (List (List UInt8))}, Parts ps → joinR (ps.map rootL) = rootL ps.flatten
  | [], _ => rfl
  | [p], _ => by simp [joinR]
  | p :: q :: t, h => by
    have ih := Parts.root h.2.2
    have hs := Parts.sum h
    obtain ⟨k, hk⟩ := h.1
    obtain ⟨j, hj⟩ := h.2.2.pow q (by simp)
    have := Nat.one_le_two_pow (n := j)
    show nodeL (rootL p) (joinR ((q :: t).map rootL)) = _
    rw [ih, rootL_cat p _ k hk (by rw [List.flatten_cons, List.length_append]; omega) (by omega)]
    rfl

/-- the fold that Root's last loop makes -/
theorem joinR_fold : ∀ (l : List (List UInt8)) (x : List UInt8), joinR (l ++ [x]) = l.reverse.foldl (fun o r => nodeL r o) x
  | [], x => rfl
  | [a], x => rfl
  | a :: b :: t, x => by
    have ih := joinR_fold (b :: t) x
    show nodeL a (joinR (b :: t ++ [x])) = _
    rw [ih, List.reverse_cons (a := a), List.foldl_append]
    rfl

/-- one merge -/
theorem Parts.merge {qs : List (List (List UInt8))} {a b : List (List UInt8)} (h : Parts (qs ++ [a])) (hab : b.length = a.length) : PartsE (qs ++ [a ++ b]) := by
  obtain ⟨k, hk⟩ := h.pow a (by simp)
  refine ⟨qs, a ++ b, rfl, ⟨k + 1, by rw [List.length_append, hab, hk, Nat.pow_succ]; omega⟩, h.init, ?_⟩
  intro c hc
  have h1 := h.last_lt c hc
  obtain ⟨j, hj⟩ := h.pow c (by
    have := List.mem_of_getLast? hc
    simp [this])
  have hkj : k < j := by
    apply Nat.lt_of_not_le; intro hle
    have := Nat.pow_le_pow_right (n := 2) (by omega) hle
    omega
  have : 2 ^ (k + 1) ≤ 2 ^ j := Nat.pow_le_pow_right (by omega) hkj
  rw [Nat.pow_succ] at this
  rw [List.length_append]; omega
theorem merge_root {qs : List (List (List UInt8))} {a b : List (List UInt8)} (h : Parts (qs ++ [a])) (hab : b.length = a.length) : nodeL (rootL a) (rootL b) = rootL (a ++ b) := by
  obtain ⟨k, hk⟩ := h.pow a (by simp)
  exact rootL_cat a b k hk (by have := Nat.one_le_two_pow (n := k); omega) (by omega)
/-- a new entry -/
theorem Parts.push {ps : List (List (List UInt8))} (h : Parts ps) (s : List UInt8) : PartsE (ps ++ [[s]]) := by
  refine ⟨ps, [s], rfl, ⟨0, rfl⟩, h, fun a ha => ?_⟩
  obtain ⟨k, hk⟩ := h.pow a (List.mem_of_getLast? ha)
  have := Nat.one_le_two_pow (n := k)
  simp; omega
end Go.Proofs.YtgbemgndbemllaaGreatDoor
end

section
/- Rows, changes, records and heads of the log, as plain Lean. -/
namespace Go.Proofs.YtgbemgndbemllaaGreatDoor

structure Chg where
  table : Int
  key : Int
  had : Bool
  old : Int × Int × Int
  has : Bool
  new : Int × Int × Int
deriving DecidableEq

structure Rec where
  pos : Int
  chs : List Chg
deriving DecidableEq

structure Hd where
  pos : Int
  chain : List UInt8
  state : List UInt8
deriving DecidableEq

def hd0 : Hd := ⟨0, [], []⟩

/-- a value of a column -/
def valB (v : Int) : Bool := decide (-1000000000 ≤ v) && decide (v ≤ 1000000000)
/-- Valid -/
def rowB (t k : Int) (v : Int × Int × Int) : Bool := decide (0 ≤ t) && decide (t ≤ 3) && (decide (1 ≤ k) && decide (k ≤ 1000000)) && (valB v.1 && valB v.2.1 && valB v.2.2)
/-- sound -/
def soundB (c : Chg) (there : Bool) (v : Int × Int × Int) : Bool := there && rowB c.table c.key v || !there && decide (v = (0, 0, 0))
/-- ValidChange -/
def chgB (c : Chg) : Bool := ((c.had != c.has) || (c.had && !decide (c.old = c.new))) && soundB c c.had c.old && soundB c c.has c.new
/-- the changes come behind one of a table and a key, in order, and are valid -/
def ascB : Int → Int → List Chg → Bool
  | _, _, [] => true
  | t, k, c :: l => chgB c && !(decide (c.table < t) || decide (c.table = t) && decide (c.key ≤ k)) && ascB c.table c.key l
/-- ValidRecord -/
def recB (r : Rec) : Bool := decide (1 ≤ r.pos) && decide (r.pos ≤ 10000) && (decide (1 ≤ r.chs.length) && decide (r.chs.length ≤ 8)) && ascB (-1) 0 r.chs

def putsL (l : List Int) : List UInt8 := l.flatMap putL
def tri (v : Int × Int × Int) : List Int := [v.1, v.2.1, v.2.2]
def flagsC (c : Chg) : Int := (if c.had then 1 else 0) + (if c.has then 2 else 0)
def valsC (c : Chg) : List Int := (if c.had then tri c.old else []) ++ (if c.has then tri c.new else [])
def encChg (c : Chg) : List UInt8 := putsL [c.table, c.key, flagsC c] ++ putsL (valsC c)
/-- EncodeRecord of a valid record -/
def encRec (r : Rec) : List UInt8 := putsL [r.pos, (r.chs.length : Nat)] ++ r.chs.flatMap encChg

/-- valid -/
def hdB (h : Hd) : Bool := decide (0 ≤ h.pos) && decide (h.pos ≤ 10000) && decide (h.chain.length = 32) && decide (h.state.length = 32)
def encHd (h : Hd) : List UInt8 := putL h.pos ++ h.chain ++ h.state
/-- Encode -/
def encA (h : Hd) : List UInt8 × Int := if hdB h then (encHd h, 0) else ([], 90)
/-- Decode -/
def decA (s : List UInt8) : Hd × Int :=
  if (getInt s 0).2.2 ≠ 0 ∨ (s.length : Int) - (getInt s 0).2.1 ≠ 64 then (hd0, 10)
  else if hdB ⟨(getInt s 0).1, (s.drop (getInt s 0).2.1.toNat).take 32, s.drop ((getInt s 0).2.1.toNat + 32)⟩ then
    (⟨(getInt s 0).1, (s.drop (getInt s 0).2.1.toNat).take 32, s.drop ((getInt s 0).2.1.toNat + 32)⟩, 0)
  else (hd0, 90)
/-- Next -/
def nextA (h : Hd) (r : Rec) (st : List UInt8) : Hd × Int :=
  if recB r && hdB h && decide (st.length = 32) && decide (r.pos = h.pos + 1) then (⟨r.pos, chainL h.chain (encRec r), st⟩, 0) else (hd0, 90)
/-- Follows behind the first test -/
def walkA : Hd → List Rec → List UInt8 → Option Hd
  | h, [], _ => some h
  | h, r :: l, st => if (nextA h r st).2 = 0 then walkA (nextA h r st).1 l st else none
/-- Follows -/
def followsA (a : Hd) (l : List Rec) (b : Hd) : Bool := hdB a && hdB b && decide (walkA a l b.state = some b)

theorem hdB_parts {h : Hd} (e : hdB h = true) : 0 ≤ h.pos ∧ h.pos ≤ 10000 ∧ h.chain.length = 32 ∧ h.state.length = 32 := by
  unfold hdB at e
  simp only [Bool.and_eq_true, decide_eq_true_eq] at e
  exact ⟨e.1.1.1, e.1.1.2, e.1.2, e.2⟩

theorem encHd_len {h : Hd} (e : hdB h = true) : (encHd h).length ≤ 73 := by
  obtain ⟨_, _, h3, h4⟩ := hdB_parts e
  have := putL_len h.pos
  unfold encHd
  rw [List.length_append, List.length_append]
  omega

/-- a valid head is decoded from its encoding -/
theorem decA_enc {h : Hd} (e : hdB h = true) : decA (encHd h) = (h, 0) := by
  obtain ⟨h1, h2, h3, h4⟩ := hdB_parts e
  have hg := getInt_put (encHd h) 0 h.pos ⟨by omega, by omega⟩ (h.chain ++ h.state) (by unfold encHd; simp)
  have hg' : getInt (encHd h) 0 = (h.pos, (((putL h.pos).length : Nat) : Int), 0) := by simpa using hg
  have hlen : (encHd h).length = (putL h.pos).length + 64 := by unfold encHd; rw [List.length_append, List.length_append]; omega
  have hd : (encHd h).drop (putL h.pos).length = h.chain ++ h.state := by unfold encHd; rw [List.append_assoc, List.drop_left]
  have hd2 : (encHd h).drop ((putL h.pos).length + 32) = h.state := by rw [← List.drop_drop, hd, List.drop_left' h3]
  unfold decA
  rw [hg']
  dsimp only
  rw [if_neg (by rintro (h | h) <;> omega), Int.toNat_natCast, hd, hd2, List.take_left' h3, if_pos e]

/-- what is decoded is the encoding of the result -/
theorem decA_ok {s : List UInt8} {g : Hd} (h : decA s = (g, 0)) : hdB g = true ∧ encHd g = s := by
  obtain ⟨n, x, e, hx⟩ : ∃ n x e, getInt s 0 = (n, x, e) := ⟨_, _, _, rfl⟩
  unfold decA at h
  rw [hx] at h
  dsimp only at h
  split at h
  · simp at h
  · rename_i h1
    have he : e = 0 := by
      apply Decidable.byContradiction
      intro h2
      exact h1 (.inl h2)
    have hl : (s.length : Int) - x = 64 := by
      apply Decidable.byContradiction
      intro h2
      exact h1 (.inr h2)
    subst he
    obtain ⟨_, _, _, ex, rest, er⟩ := getInt_ok _ _ _ _ hx
    have ex' : x = (((putL n).length : Nat) : Int) := by omega
    have er' : s = putL n ++ rest := by simpa using er
    have hd : s.drop (putL n).length = rest := by rw [er', List.drop_left]
    rw [ex', Int.toNat_natCast, ← List.drop_drop, hd] at h
    split at h
    · rename_i h2
      have hg : (⟨n, rest.take 32, rest.drop 32⟩ : Hd) = g := (Prod.mk.inj h).1
      rw [← hg]
      refine ⟨h2, ?_⟩
      unfold encHd
      rw [List.append_assoc, List.take_append_drop, ← er']
    · simp at h
theorem decA_err (s : List UInt8) : (decA s).2 = 0 ∨ ((decA s).1 = hd0 ∧ ((decA s).2 = 10 ∨ (decA s).2 = 90)) := by
  unfold decA
  split
  · exact .inr ⟨rfl, .inl rfl⟩
  · split
    · exact .inl rfl
    · exact .inr ⟨rfl, .inr rfl⟩
end Go.Proofs.YtgbemgndbemllaaGreatDoor
end

section
/- The store, as plain Lean: its rows by ascending tables and keys; records that are applied. -/
namespace Go.Proofs.YtgbemgndbemllaaGreatDoor

structure Rw where
  table : Int
  key : Int
  v : Int × Int × Int
deriving DecidableEq

def Rw.before (a b : Rw) : Prop := a.table < b.table ∨ a.table = b.table ∧ a.key < b.key
def SortS (l : List Rw) : Prop := l.Pairwise Rw.before

/-- before a table and a key; behind them; at them -/
def ltK (t k : Int) (r : Rw) : Bool := decide (r.table < t) || (decide (r.table = t) && decide (r.key < k))
def gtK (t k : Int) (r : Rw) : Bool := decide (t < r.table) || (decide (t = r.table) && decide (k < r.key))
def eqK (t k : Int) (r : Rw) : Bool := decide (r.table = t) && decide (r.key = k)

def getS (l : List Rw) (t k : Int) : Option Rw := l.find? (eqK t k)
def insS (l : List Rw) (x : Rw) : List Rw := l.filter (ltK x.table x.key) ++ x :: l.filter (gtK x.table x.key)
def delS (l : List Rw) (t k : Int) : List Rw := l.filter (ltK t k) ++ l.filter (gtK t k)
def rowNew (c : Chg) : Rw := ⟨c.table, c.key, c.new⟩
/-- one change -/
def appC (l : List Rw) (c : Chg) : List Rw := if c.has then insS l (rowNew c) else delS l c.table c.key

structure StT where
  rows : List Rw
  pos : Int
deriving DecidableEq

/-- a change fits -/
def hitB (l : List Rw) (c : Chg) : Bool :=
  match getS l c.table c.key with
  | some x => c.had && decide (x.v = c.old)
  | none => !c.had
def dif (c : Chg) : Int := (if c.has then 1 else 0) - (if c.had then 1 else 0)
def difs (l : List Chg) : Int := (l.map dif).sum
/-- fits -/
def fitsB (s : StT) (r : Rec) : Bool := recB r && decide (r.pos = s.pos + 1) && (r.chs.all (hitB s.rows) && decide ((s.rows.length : Int) + difs r.chs ≤ 2000))
/-- Apply -/
def stepS (s : StT) (r : Rec) : Option StT := if fitsB s r then some ⟨r.chs.foldl appC s.rows, r.pos⟩ else none
def st0 : StT := ⟨[], 0⟩
/-- the state behind records -/
def runS : StT → List Rec → Option StT
  | s, [] => some s
  | s, r :: l => (stepS s r).bind fun s' => runS s' l

theorem ltK_iff {t k : Int} {r : Rw} : ltK t k r = true ↔ r.table < t ∨ r.table = t ∧ r.key < k := by simp [ltK]
theorem gtK_iff {t k : Int} {r : Rw} : gtK t k r = true ↔ t < r.table ∨ t = r.table ∧ k < r.key := by simp [gtK]
theorem eqK_iff {t k : Int} {r : Rw} : eqK t k r = true ↔ r.table = t ∧ r.key = k := by simp [eqK]
theorem three (t k : Int) (r : Rw) : (ltK t k r = true ∧ eqK t k r = false ∧ gtK t k r = false) ∨ (ltK t k r = false ∧ eqK t k r = true ∧ gtK t k r = false) ∨ (ltK t k r = false ∧ eqK t k r = false ∧ gtK t k r = true) := by
  simp only [← Bool.not_eq_true, ltK_iff, gtK_iff, eqK_iff]
  omega
theorem ltK_before {t k : Int} {a b : Rw} (h : a.before b) (hb : ltK t k b = true) : ltK t k a = true := by
  rw [ltK_iff] at *
  unfold Rw.before at h
  omega
theorem gtK_before {t k : Int} {a b : Rw} (h : a.before b) (ha : gtK t k a = true) : gtK t k b = true := by
  rw [gtK_iff] at *
  unfold Rw.before at h
  omega
theorem Rw.before_trans {a b c : Rw} (h : a.before b) (k : b.before c) : a.before c := by unfold Rw.before at *; omega

/-- a sorted list falls into three parts -/
theorem SortS.parts {l : List Rw} (h : SortS l) (t k : Int) : l = l.filter (ltK t k) ++ (l.filter (eqK t k) ++ l.filter (gtK t k)) := by
  induction l with
  | nil => rfl
  | cons a l ih =>
    obtain ⟨h1, h2⟩ := List.pairwise_cons.1 h
    have ih := ih h2
    rcases three t k a with ⟨e1, e2, e3⟩ | ⟨e1, e2, e3⟩ | ⟨e1, e2, e3⟩
    · simp only [List.filter_cons, e1, e2, e3]
      simpa using ih
    · have n1 : l.filter (ltK t k) = [] := by
        rw [List.filter_eq_nil_iff]
        intro b hb e
        rw [eqK_iff] at e2
        have := h1 b hb
        rw [ltK_iff] at e
        unfold Rw.before at this
        omega
      simp only [List.filter_cons, e1, e2, e3]
      rw [n1] at ih ⊢
      simpa using ih
    · have n1 : l.filter (ltK t k) = [] := by
        rw [List.filter_eq_nil_iff]
        intro b hb e
        rw [gtK_iff] at e3
        have := h1 b hb
        rw [ltK_iff] at e
        unfold Rw.before at this
        omega
      have n2 : l.filter (eqK t k) = [] := by
        rw [List.filter_eq_nil_iff]
        intro b hb e
        rw [gtK_iff] at e3
        have := h1 b hb
        rw [eqK_iff] at e
        unfold Rw.before at this
        omega
      simp only [List.filter_cons, e1, e2, e3]
      rw [n1, n2] at ih ⊢
      simpa using ih

theorem SortS.eq_part {l : List Rw} (h : SortS l) (t k : Int) : l.filter (eqK t k) = (getS l t k).toList := by
  induction l with
  | nil => rfl
  | cons a l ih =>
    obtain ⟨h1, h2⟩ := List.pairwise_cons.1 h
    unfold getS at *
    rw [List.find?_cons, List.filter_cons]
    cases e : eqK t k a
    · simpa using ih h2
    · have : l.filter (eqK t k) = [] := by
        rw [List.filter_eq_nil_iff]
        intro b hb e'
        rw [eqK_iff] at e e'
        have := h1 b hb
        unfold Rw.before at this
        omega
      simp [this]

theorem getS_some {l : List Rw} {t k : Int} {x : Rw} (h : getS l t k = some x) : x ∈ l ∧ x.table = t ∧ x.key = k :=
  ⟨List.mem_of_find?_eq_some h, eqK_iff.1 (List.find?_some h)⟩
theorem getS_none {l : List Rw} {t k : Int} (h : getS l t k = none) : ∀ x ∈ l, ¬ (x.table = t ∧ x.key = k) := fun x hx e => by
  have := List.find?_eq_none.1 h x hx
  exact this (eqK_iff.2 e)
theorem SortS.get {l : List Rw} (h : SortS l) {x : Rw} (hx : x ∈ l) : getS l x.table x.key = some x := by
  cases e : getS l x.table x.key with
  | none => exact absurd ⟨rfl, rfl⟩ (getS_none e x hx)
  | some y =>
    obtain ⟨hy, e1, e2⟩ := getS_some e
    have h1 : x ∈ l.filter (eqK x.table x.key) := List.mem_filter.2 ⟨hx, eqK_iff.2 ⟨rfl, rfl⟩⟩
    rw [h.eq_part, e] at h1
    simp at h1
    rw [h1]

theorem SortS.lt {l : List Rw} (h : SortS l) (t k : Int) : SortS (l.filter (ltK t k)) := List.Pairwise.filter _ h
theorem SortS.gt {l : List Rw} (h : SortS l) (t k : Int) : SortS (l.filter (gtK t k)) := List.Pairwise.filter _ h
theorem SortS.del {l : List Rw} (h : SortS l) (t k : Int) : SortS (delS l t k) := by
  refine List.pairwise_append.2 ⟨h.lt t k, h.gt t k, fun a ha b hb => ?_⟩
  have h1 := ltK_iff.1 (List.mem_filter.1 ha).2
  have h2 := gtK_iff.1 (List.mem_filter.1 hb).2
  unfold Rw.before
  omega
theorem SortS.put {l : List Rw} (h : SortS l) (x : Rw) : SortS (insS l x) := by
  refine List.pairwise_append.2 ⟨h.lt _ _, List.pairwise_cons.2 ⟨fun b hb => ?_, h.gt _ _⟩, fun a ha b hb => ?_⟩
  · have h2 := gtK_iff.1 (List.mem_filter.1 hb).2
    unfold Rw.before
    omega
  · have h1 := ltK_iff.1 (List.mem_filter.1 ha).2
    rcases List.mem_cons.1 hb with rfl | hb
    · exact h1
    · have h2 := gtK_iff.1 (List.mem_filter.1 hb).2
      unfold Rw.before
      omega
theorem SortS.app {l : List Rw} (h : SortS l) (c : Chg) : SortS (appC l c) := by
  unfold appC
  split
  · exact h.put _
  · exact h.del _ _
theorem SortS.apps : ∀ (chs : List Chg) {l : List Rw}, SortS l → SortS (chs.foldl appC l)
  | [], _, h => h
  | c :: chs, _, h => SortS.apps chs (h.app c)

theorem mem_delS {l : List Rw} {t k : Int} {x : Rw} : x ∈ delS l t k ↔ x ∈ l ∧ ¬ (x.table = t ∧ x.key = k) := by
  unfold delS
  rw [List.mem_append, List.mem_filter, List.mem_filter, ltK_iff, gtK_iff]
  constructor
  · rintro (⟨h, e⟩ | ⟨h, e⟩)
    · exact ⟨h, by omega⟩
    · exact ⟨h, by omega⟩
  · rintro ⟨h, e⟩
    by_cases c : x.table < t ∨ x.table = t ∧ x.key < k
    · exact .inl ⟨h, c⟩
    · exact .inr ⟨h, by omega⟩
theorem mem_insS {l : List Rw} {y x : Rw} : x ∈ insS l y ↔ x = y ∨ x ∈ l ∧ ¬ (x.table = y.table ∧ x.key = y.key) := by
  have := @mem_delS l y.table y.key x
  unfold delS at this
  unfold insS
  rw [List.mem_append] at *
  rw [List.mem_cons]
  constructor
  · rintro (h | rfl | h)
    · exact .inr (this.1 (.inl h))
    · exact .inl rfl
    · exact .inr (this.1 (.inr h))
  · rintro (rfl | h)
    · exact .inr (.inl rfl)
    · rcases this.2 h with h | h
      · exact .inl h
      · exact .inr (.inr h)
theorem mem_appC {l : List Rw} {c : Chg} {x : Rw} : x ∈ appC l c ↔ (c.has = true ∧ x = rowNew c) ∨ x ∈ l ∧ ¬ (x.table = c.table ∧ x.key = c.key) := by
  unfold appC
  split
  · rename_i h
    rw [mem_insS]
    simp [h, rowNew]
  · rename_i h
    rw [mem_delS]
    simp [h]

/-- what a change leaves at other keys -/
theorem SortS.get_other {l : List Rw} (h : SortS l) (c : Chg) {t k : Int} (hne : ¬ (c.table = t ∧ c.key = k)) : getS (appC l c) t k = getS l t k := by
  cases e : getS l t k with
  | none =>
    cases e' : getS (appC l c) t k with
    | none => rfl
    | some y =>
      obtain ⟨hy, e1, e2⟩ := getS_some e'
      rcases mem_appC.1 hy with ⟨_, rfl⟩ | ⟨hy, _⟩
      · exact absurd ⟨e1, e2⟩ hne
      · exact absurd ⟨e1, e2⟩ (getS_none e y hy)
  | some x =>
    obtain ⟨hx, rfl, rfl⟩ := getS_some e
    exact (h.app c).get (mem_appC.2 (.inr ⟨hx, fun e => hne ⟨e.1.symm, e.2.symm⟩⟩))
theorem SortS.get_same {l : List Rw} (h : SortS l) (c : Chg) : getS (appC l c) c.table c.key = if c.has then some (rowNew c) else none := by
  cases e : c.has with
  | true => exact (h.app c).get (x := rowNew c) (mem_appC.2 (.inl ⟨e, rfl⟩))
  | false =>
    cases e' : getS (appC l c) c.table c.key with
    | none => rfl
    | some y =>
      obtain ⟨hy, e1, e2⟩ := getS_some e'
      rcases mem_appC.1 hy with ⟨h1, _⟩ | ⟨_, h1⟩
      · rw [e] at h1; cases h1
      · exact absurd ⟨e1, e2⟩ h1

theorem hitB_other {l : List Rw} (h : SortS l) (c d : Chg) (hne : ¬ (c.table = d.table ∧ c.key = d.key)) : hitB (appC l c) d = hitB l d := by
  unfold hitB
  rw [h.get_other c hne]

/-- behind a table and a key -/
def Behind (t k : Int) (c : Chg) : Prop := t < c.table ∨ t = c.table ∧ k < c.key
theorem ascB_cons {t k : Int} {c : Chg} {l : List Chg} (h : ascB t k (c :: l) = true) : chgB c = true ∧ Behind t k c ∧ ascB c.table c.key l = true := by
  unfold ascB at h
  simp only [Bool.and_eq_true, Bool.not_eq_true', Bool.or_eq_false_iff, Bool.and_eq_false_iff, decide_eq_false_iff_not] at h
  obtain ⟨⟨h1, h2, h3⟩, h4⟩ := h
  refine ⟨h1, ?_, h4⟩
  unfold Behind
  omega
theorem ascB_behind : ∀ {t k : Int} {l : List Chg}, ascB t k l = true → ∀ c ∈ l, Behind t k c
  | _, _, [], _, _, h => by simp at h
  | t, k, c :: l, h, d, hd => by
    obtain ⟨_, h2, h3⟩ := ascB_cons h
    rcases List.mem_cons.1 hd with rfl | hd
    · exact h2
    · have := ascB_behind h3 d hd
      unfold Behind at *
      omega
theorem Behind.ne {c d : Chg} (h : Behind c.table c.key d) : ¬ (c.table = d.table ∧ c.key = d.key) := by unfold Behind at h; omega
theorem ascB_chg : ∀ {t k : Int} {l : List Chg}, ascB t k l = true → ∀ c ∈ l, chgB c = true
  | _, _, [], _, _, h => by simp at h
  | t, k, c :: l, h, d, hd => by
    obtain ⟨h1, _, h3⟩ := ascB_cons h
    rcases List.mem_cons.1 hd with rfl | hd
    · exact h1
    · exact ascB_chg h3 d hd

/-- the changes of a record that fits still fit when those ahead have been applied -/
theorem hits_on : ∀ {l : List Rw} {t k : Int} {chs : List Chg}, SortS l → ascB t k chs = true → chs.all (hitB l) = true → ∀ (i : Nat) c, chs[i]? = some c → hitB ((chs.take i).foldl appC l) c = true
  | l, t, k, [], _, _, _, i, c, hc => by simp at hc
  | l, t, k, d :: chs, h, ha, hh, 0, c, hc => by
    simp at hc
    subst hc
    simp only [List.all_cons, Bool.and_eq_true] at hh
    exact hh.1
  | l, t, k, d :: chs, h, ha, hh, i + 1, c, hc => by
    obtain ⟨_, _, h3⟩ := ascB_cons ha
    simp only [List.all_cons, Bool.and_eq_true] at hh
    have hall : chs.all (hitB (appC l d)) = true := by
      rw [List.all_eq_true] at *
      intro x hx
      rw [hitB_other h d x (ascB_behind h3 x hx).ne]
      exact hh.2 x hx
    have := hits_on (h.app d) h3 hall i c (by simpa using hc)
    simpa using this

theorem filter_len {l : List Rw} (h : SortS l) (t k : Int) : (l.filter (ltK t k)).length + (l.filter (gtK t k)).length + (if (getS l t k).isSome then 1 else 0) = l.length := by
  have e := congrArg List.length (h.parts t k)
  rw [List.length_append, List.length_append, h.eq_part] at e
  cases e' : getS l t k <;> simp [e'] at e ⊢ <;> omega

theorem hitB_had {l : List Rw} {c : Chg} (h : hitB l c = true) : (getS l c.table c.key).isSome = c.had := by
  unfold hitB at h
  cases e : getS l c.table c.key <;> simp [e] at h ⊢
  · exact h.symm ▸ rfl
  · exact h.1 ▸ rfl

theorem appC_len {l : List Rw} (h : SortS l) {c : Chg} (hc : hitB l c = true) : ((appC l c).length : Int) = l.length + dif c := by
  have e := filter_len h c.table c.key
  rw [hitB_had hc] at e
  unfold appC dif insS delS rowNew
  cases c.has <;> cases hh : c.had <;> simp [hh] at e ⊢ <;> omega

theorem apps_len : ∀ {chs : List Chg} {l : List Rw} {t k : Int}, SortS l → ascB t k chs = true → chs.all (hitB l) = true → ((chs.foldl appC l).length : Int) = l.length + difs chs
  | [], l, t, k, h, _, _ => by simp [difs]
  | d :: chs, l, t, k, h, ha, hh => by
    obtain ⟨_, _, h3⟩ := ascB_cons ha
    simp only [List.all_cons, Bool.and_eq_true] at hh
    have hall : chs.all (hitB (appC l d)) = true := by
      rw [List.all_eq_true] at *
      intro x hx
      rw [hitB_other h d x (ascB_behind h3 x hx).ne]
      exact hh.2 x hx
    have := apps_len (h.app d) h3 hall
    have e := appC_len h hh.1
    simp only [List.foldl_cons]
    rw [this, e]
    simp [difs]
    omega

/-- a good state: sorted, small, each row valid -/
structure GoodS (s : StT) : Prop where
  sort : SortS s.rows
  small : s.rows.length ≤ 2000
  rows : ∀ r ∈ s.rows, rowB r.table r.key r.v = true

theorem st0_good : GoodS st0 := ⟨List.Pairwise.nil, by simp [st0], fun r h => by simp [st0] at h⟩

theorem chgB_new {c : Chg} (h : chgB c = true) (hh : c.has = true) : rowB c.table c.key c.new = true := by
  unfold chgB soundB at h
  simp only [Bool.and_eq_true, Bool.or_eq_true, hh] at h
  rcases h.2 with ⟨_, h⟩ | ⟨h, _⟩
  · exact h
  · simp at h

theorem apps_rows : ∀ {chs : List Chg} {l : List Rw} {t k : Int}, ascB t k chs = true → (∀ r ∈ l, rowB r.table r.key r.v = true) → ∀ r ∈ chs.foldl appC l, rowB r.table r.key r.v = true
  | [], l, t, k, _, hr => hr
  | d :: chs, l, t, k, ha, hr => by
    obtain ⟨h1, _, h3⟩ := ascB_cons ha
    show ∀ r ∈ chs.foldl appC (appC l d), rowB r.table r.key r.v = true
    refine apps_rows h3 fun r hr' => ?_
    rcases mem_appC.1 hr' with ⟨hh, rfl⟩ | ⟨hx, _⟩
    · exact chgB_new h1 hh
    · exact hr r hx

theorem fitsB_parts {s : StT} {r : Rec} (h : fitsB s r = true) : recB r = true ∧ r.pos = s.pos + 1 ∧ r.chs.all (hitB s.rows) = true ∧ (s.rows.length : Int) + difs r.chs ≤ 2000 := by
  unfold fitsB at h
  simp only [Bool.and_eq_true, decide_eq_true_eq] at h
  exact ⟨h.1.1, h.1.2, h.2.1, h.2.2⟩
theorem recB_asc {r : Rec} (h : recB r = true) : ascB (-1) 0 r.chs = true := by
  unfold recB at h
  simp only [Bool.and_eq_true] at h
  exact h.2

theorem GoodS.step {s s' : StT} {r : Rec} (g : GoodS s) (h : stepS s r = some s') : GoodS s' ∧ s'.pos = s.pos + 1 ∧ recB r = true ∧ r.pos = s.pos + 1 := by
  unfold stepS at h
  split at h
  · rename_i hf
    obtain ⟨h1, h2, h3, h4⟩ := fitsB_parts hf
    obtain rfl := Option.some.inj h
    have ha := recB_asc h1
    refine ⟨⟨g.sort.apps r.chs, ?_, apps_rows ha g.rows⟩, h2, h1, h2⟩
    have := apps_len g.sort ha h3
    show (r.chs.foldl appC s.rows).length ≤ 2000
    omega
  · cases h

theorem runS_append : ∀ (l m : List Rec) (s : StT), runS s (l ++ m) = (runS s l).bind fun s' => runS s' m
  | [], m, s => rfl
  | r :: l, m, s => by
    simp only [List.cons_append, runS]
    cases stepS s r with
    | none => rfl
    | some s' => simpa using runS_append l m s'
theorem runS_take {l : List Rec} {s s' : StT} (h : runS s l = some s') (n : Nat) : ∃ x, runS s (l.take n) = some x := by
  rw [← List.take_append_drop n l, runS_append] at h
  cases e : runS s (l.take n) with
  | none => rw [e] at h; cases h
  | some x => exact ⟨x, rfl⟩
theorem runS_good : ∀ {l : List Rec} {s s' : StT}, GoodS s → runS s l = some s' → GoodS s' ∧ s'.pos = s.pos + l.length
  | [], s, s', g, h => by
    obtain rfl := Option.some.inj h
    exact ⟨g, by simp⟩
  | r :: l, s, s', g, h => by
    simp only [runS] at h
    cases e : stepS s r with
    | none => rw [e] at h; cases h
    | some x =>
      rw [e] at h
      obtain ⟨g1, p1, _⟩ := g.step e
      obtain ⟨g2, p2⟩ := runS_good g1 h
      exact ⟨g2, by rw [p2, p1]; simp; omega⟩
theorem runS_rec {l : List Rec} {s s' : StT} (g : GoodS s) (h : runS s l = some s') (i : Nat) (r : Rec) (hr : l[i]? = some r) : recB r = true ∧ r.pos = s.pos + i + 1 := by
  have hlt := (List.getElem?_eq_some_iff.1 hr).1
  obtain ⟨x, hx⟩ := runS_take h (i + 1)
  obtain ⟨y, hy⟩ := runS_take h i
  rw [List.take_add_one, hr, runS_append, hy] at hx
  obtain ⟨g1, p1⟩ := runS_good g hy
  rw [List.length_take, Nat.min_eq_left (by omega)] at p1
  simp only [Option.bind_some, Option.toList_some, runS] at hx
  cases e : stepS y r with
  | none => rw [e] at hx; cases hx
  | some z =>
    obtain ⟨_, _, h3, h4⟩ := g1.step e
    exact ⟨h3, by omega⟩
end Go.Proofs.YtgbemgndbemllaaGreatDoor
end

section
/- Proofs and extensions of the tree, plain. -/
namespace Go.Proofs.YtgbemgndbemllaaGreatDoor

/-- the proof of entry i, by fuel: the deepest part first -/
def proofF : Nat → List (List UInt8) → Nat → List (List UInt8)
  | 0, _, _ => []
  | f + 1, l, i => if l.length ≤ 1 then [] else
    if i < leftN l.length then proofF f (l.take (leftN l.length)) i ++ [rootL (l.drop (leftN l.length))]
    else proofF f (l.drop (leftN l.length)) (i - leftN l.length) ++ [rootL (l.take (leftN l.length))]
def proofL (l : List (List UInt8)) (i : Nat) : List (List UInt8) := proofF l.length l i

theorem proofF_fuel : ∀ (f g : Nat) (l : List (List UInt8)) (i : Nat), l.length ≤ f → l.length ≤ g → proofF f l i = proofF g l i
  | 0, 0, _, _, _, _ => rfl
  | 0, g + 1, l, i, h, _ => by simp [proofF, show l.length ≤ 1 by omega]
  | f + 1, 0, l, i, _, h => by simp [proofF, show l.length ≤ 1 by omega]
  | f + 1, g + 1, l, i, h1, h2 => by
    simp only [proofF]
    by_cases h : l.length ≤ 1
    · rw [if_pos h, if_pos h]
    · have hl := leftN_lt l.length (by omega)
      have hp := leftN_pos l.length
      rw [if_neg h, if_neg h]
      generalize leftN l.length = k at *
      rw [proofF_fuel f g _ i (by rw [List.length_take]; omega) (by rw [List.length_take]; omega), proofF_fuel f g _ (i - k) (by rw [List.length_drop]; omega) (by rw [List.length_drop]; omega)]

theorem proofL_one (l : List (List UInt8)) (i : Nat) (h : l.length ≤ 1) : proofL l i = [] := by
  unfold proofL
  cases hl : l.length with
  | zero => rfl
  | succ n => simp [proofF, hl, show n = 0 by omega]
theorem proofL_left (l : List (List UInt8)) (i : Nat) (h : 2 ≤ l.length) (hi : i < leftN l.length) : proofL l i = proofL (l.take (leftN l.length)) i ++ [rootL (l.drop (leftN l.length))] := by
  have hl := leftN_lt l.length h
  unfold proofL
  obtain ⟨f, hf⟩ : ∃ f, l.length = f + 1 := ⟨l.length - 1, by omega⟩
  rw [show proofF l.length l i = proofF (f + 1) l i by rw [hf]]
  simp only [proofF]
  rw [if_neg (by omega), if_pos hi, proofF_fuel f _ _ i (by rw [List.length_take]; omega) (Nat.le_refl _)]
theorem proofL_right (l : List (List UInt8)) (i : Nat) (h : 2 ≤ l.length) (hi : leftN l.length ≤ i) : proofL l i = proofL (l.drop (leftN l.length)) (i - leftN l.length) ++ [rootL (l.take (leftN l.length))] := by
  have hp := leftN_pos l.length
  unfold proofL
  obtain ⟨f, hf⟩ : ∃ f, l.length = f + 1 := ⟨l.length - 1, by omega⟩
  rw [show proofF l.length l i = proofF (f + 1) l i by rw [hf]]
  simp only [proofF]
  rw [if_neg (by omega), if_neg (by omega), proofF_fuel f _ _ _ (by rw [List.length_drop]; omega) (Nat.le_refl _)]
end Go.Proofs.YtgbemgndbemllaaGreatDoor
end

section
/- Verify and the extensions, plain. -/
namespace Go.Proofs.YtgbemgndbemllaaGreatDoor

theorem shaL_len (l : List UInt8) : (shaL l).length = 32 := rfl
theorem rootL_len : ∀ l : List (List UInt8), (rootL l).length = 32
  | [] => rfl
  | [_] => rfl
  | _ :: _ :: _ => rfl

/-- the whole's value, of a step (the other part's root, is it first) and the part's value -/
def stepL (x : List UInt8 × Bool) (part : List UInt8) : List UInt8 := if x.2 then nodeL x.1 part else nodeL part x.1
theorem stepL_len (x : List UInt8 × Bool) (p : List UInt8) : (stepL x p).length = 32 := by unfold stepL; split <;> rfl

/-- the value of a proof, of which the last string comes first here; none: refused -/
def valR (s : List UInt8) : List (List UInt8) → Nat → Nat → Option (List UInt8)
  | [], n, _ => if n ≤ 1 then some (leafL s) else none
  | x :: r, n, i => if n ≤ 1 then none else
    (valR s r (if leftN n ≤ i then n - leftN n else leftN n) (if leftN n ≤ i then i - leftN n else i)).map (stepL (x, decide (leftN n ≤ i)))

theorem valR_len (s : List UInt8) : ∀ (r : List (List UInt8)) (n i : Nat) v, valR s r n i = some v → v.length = 32
  | [], n, i, v, h => by
    unfold valR at h
    split at h
    · cases h; rfl
    · cases h
  | x :: r, n, i, v, h => by
    unfold valR at h
    split at h
    · cases h
    · rw [Option.map_eq_some_iff] at h
      obtain ⟨u, _, rfl⟩ := h
      exact stepL_len _ _

/-- the two values of an extension's proof, of which the last string comes first here; none: refused -/
def bothR (old : List UInt8) : List (List UInt8) → Nat → Nat → Bool → Option (List UInt8 × List UInt8)
  | [], m, n, whole => if m < n then none else if whole then some (old, old) else none
  | x :: r, m, n, whole =>
    if m < n then
      (bothR old r (if leftN n < m then m - leftN n else m) (if leftN n < m then n - leftN n else leftN n) (whole && !decide (leftN n < m))).map
        fun ab => (if leftN n < m then stepL (x, true) ab.1 else ab.1, stepL (x, decide (leftN n < m)) ab.2)
    else if whole then none else if r = [] then some (x, x) else none

/-- the proof that a list begins with m entries, by fuel -/
def partF : Nat → List (List UInt8) → Nat → Bool → List (List UInt8)
  | 0, l, _, whole => if whole then [] else [rootL l]
  | f + 1, l, m, whole => if l.length ≤ m then (if whole then [] else [rootL l]) else
    if leftN l.length < m then partF f (l.drop (leftN l.length)) (m - leftN l.length) false ++ [rootL (l.take (leftN l.length))]
    else partF f (l.take (leftN l.length)) m whole ++ [rootL (l.drop (leftN l.length))]
def partL (l : List (List UInt8)) (m : Nat) (whole : Bool) : List (List UInt8) := partF l.length l m whole

theorem partF_fuel : ∀ (f g : Nat) (l : List (List UInt8)) (m : Nat) (b : Bool), 1 ≤ m → l.length ≤ f → l.length ≤ g → partF f l m b = partF g l m b
  | 0, 0, _, _, _, _, _, _ => rfl
  | 0, g + 1, l, m, b, hm, h, _ => by simp [partF, show l.length ≤ m by omega]
  | f + 1, 0, l, m, b, hm, _, h => by simp [partF, show l.length ≤ m by omega]
  | f + 1, g + 1, l, m, b, hm, h1, h2 => by
    simp only [partF]
    by_cases h : l.length ≤ m
    · rw [if_pos h, if_pos h]
    · have hl := leftN_lt l.length (by omega)
      have hp := leftN_pos l.length
      rw [if_neg h, if_neg h]
      generalize leftN l.length = k at *
      by_cases hk : k < m
      · rw [if_pos hk, if_pos hk, partF_fuel f g _ (m - k) false (by omega) (by rw [List.length_drop]; omega) (by rw [List.length_drop]; omega)]
      · rw [if_neg hk, if_neg hk, partF_fuel f g _ m b hm (by rw [List.length_take]; omega) (by rw [List.length_take]; omega)]

theorem partL_all (l : List (List UInt8)) (m : Nat) (b : Bool) (h : l.length ≤ m) : partL l m b = if b then [] else [rootL l] := by
  unfold partL
  cases hl : l.length with
  | zero => rfl
  | succ n => simp [partF, h]
theorem partL_right (l : List (List UInt8)) (m : Nat) (b : Bool) (h : m < l.length) (hm : leftN l.length < m) : partL l m b = partL (l.drop (leftN l.length)) (m - leftN l.length) false ++ [rootL (l.take (leftN l.length))] := by
  have hp := leftN_pos l.length
  unfold partL
  obtain ⟨f, hf⟩ : ∃ f, l.length = f + 1 := ⟨l.length - 1, by omega⟩
  rw [show partF l.length l m b = partF (f + 1) l m b by rw [hf]]
  simp only [partF]
  rw [if_neg (by omega), if_pos hm, partF_fuel f _ _ _ _ (by omega) (by rw [List.length_drop]; omega) (Nat.le_refl _)]
theorem partL_left (l : List (List UInt8)) (m : Nat) (b : Bool) (h : m < l.length) (h1 : 1 ≤ m) (hm : ¬ leftN l.length < m) : partL l m b = partL (l.take (leftN l.length)) m b ++ [rootL (l.drop (leftN l.length))] := by
  have hl := leftN_lt l.length (by omega)
  unfold partL
  obtain ⟨f, hf⟩ : ∃ f, l.length = f + 1 := ⟨l.length - 1, by omega⟩
  rw [show partF l.length l m b = partF (f + 1) l m b by rw [hf]]
  simp only [partF]
  rw [if_neg (by omega), if_neg hm, partF_fuel f _ _ _ _ h1 (by rw [List.length_take]; omega) (Nat.le_refl _)]

/-- the proof that a list begins with m entries -/
def extL (l : List (List UInt8)) (m : Nat) : List (List UInt8) := if m = 0 then [] else partL l m true

theorem take_take' (l : List (List UInt8)) (a b : Nat) (h : a ≤ b) : (l.take b).take a = l.take a := by rw [List.take_take, Nat.min_eq_left h]
theorem rootL_split (l : List (List UInt8)) (m k : Nat) (hk : k = leftN l.length) (h1 : k < m) (hm : m ≤ l.length) :
    nodeL (rootL (l.take k)) (rootL ((l.drop k).take (m - k))) = rootL (l.take m) := by
  have hp := leftN_pos l.length
  have hlen : (l.take m).length = m := by rw [List.length_take]; omega
  have h2 : 2 ≤ l.length := by omega
  have hge := leftN_ge l.length h2
  have hl : leftN (l.take m).length = k := by
    rw [hlen, hk]
    exact leftN_eq m _ (by unfold leftN at hk; rw [← hk]; exact h1) (by rw [Nat.pow_succ]; unfold leftN at hge; omega)
  rw [rootL_node (l.take m) (by omega), hl, take_take' _ _ _ (by omega), List.drop_take]

/-- The proof of an extension is accepted (the values). -/
theorem partL_ok : ∀ (f : Nat) (l : List (List UInt8)) (m : Nat) (b : Bool) (old : List UInt8), l.length ≤ f → 1 ≤ m → m ≤ l.length → (b = true → old = rootL (l.take m)) →
    bothR old (partL l m b).reverse m l.length b = some (rootL (l.take m), rootL l)
  | 0, l, m, b, old, hf, h1, hm, _ => absurd (Nat.le_trans h1 (Nat.le_trans hm hf)) (by omega)
  | f + 1, l, m, b, old, hf, h1, hm, ho => by
    by_cases hml : m < l.length
    · have h2 : 2 ≤ l.length := by omega
      have hlt := leftN_lt l.length h2
      have hpos := leftN_pos l.length
      obtain ⟨k, hk⟩ : ∃ k, k = leftN l.length := ⟨_, rfl⟩
      by_cases hr : leftN l.length < m
      · rw [partL_right l m b hml hr, List.reverse_append, List.reverse_singleton, List.singleton_append]
        simp only [bothR]
        rw [if_pos hml, if_pos hr, if_pos hr]
        simp only [decide_eq_true hr, Bool.not_true, Bool.and_false]
        rw [← hk]
        have hd : (l.drop k).length = l.length - k := List.length_drop
        have ih := partL_ok f (l.drop k) (m - k) false old (by rw [hd]; omega) (by omega) (by rw [hd]; omega) (fun h => by cases h)
        rw [hd] at ih
        rw [ih]
        simp only [Option.map_some, stepL, if_true]
        rw [if_pos (hk ▸ hr), rootL_split l m k hk (hk ▸ hr) hm]
        have hn := rootL_node l h2
        rw [← hk] at hn
        rw [hn]
      · rw [partL_left l m b hml h1 hr, List.reverse_append, List.reverse_singleton, List.singleton_append]
        simp only [bothR]
        rw [if_pos hml, if_neg hr, if_neg hr]
        simp only [decide_eq_false hr, Bool.not_false, Bool.and_true]
        rw [← hk]
        have hd : (l.take k).length = k := by rw [List.length_take]; omega
        have htt : (l.take k).take m = l.take m := take_take' _ _ _ (by omega)
        have ih := partL_ok f (l.take k) m b old (by rw [hd]; omega) h1 (by rw [hd]; omega) (fun h => by rw [htt]; exact ho h)
        rw [hd, htt] at ih
        rw [ih]
        have hn := rootL_node l h2
        rw [← hk] at hn
        simp only [Option.map_some, stepL]
        rw [if_neg (hk ▸ hr), hn]
        rfl
    · have he : m = l.length := by omega
      rw [partL_all l m b (by omega)]
      have ht : l.take m = l := by rw [he, List.take_length]
      rw [ht] at ho ⊢
      cases b with
      | true =>
        simp only [if_true, List.reverse_nil, bothR]
        rw [if_neg hml, ho rfl]
      | false =>
        simp only [Bool.false_eq_true, if_false, List.reverse_singleton, bothR]
        rw [if_neg hml]
        rfl

/-- the proof of an entry is accepted (the value) -/
theorem proofL_ok : ∀ (f : Nat) (l : List (List UInt8)) (i : Nat) (s : List UInt8), l.length ≤ f → l[i]? = some s → valR s (proofL l i).reverse l.length i = some (rootL l)
  | 0, l, i, s, hf, h => by have := (List.getElem?_eq_some_iff.1 h).1; omega
  | f + 1, l, i, s, hf, h => by
    have hi := (List.getElem?_eq_some_iff.1 h).1
    by_cases h1 : l.length ≤ 1
    · rw [proofL_one l i h1]
      obtain ⟨a, rfl⟩ := List.length_eq_one_iff.1 (show l.length = 1 by omega)
      have hi0 : i = 0 := by simp at hi; omega
      subst hi0
      simp at h
      subst h
      rfl
    · have h2 : 2 ≤ l.length := by omega
      have hlt := leftN_lt l.length h2
      have hpos := leftN_pos l.length
      have hn := rootL_node l h2
      obtain ⟨k, hk⟩ : ∃ k, k = leftN l.length := ⟨_, rfl⟩
      by_cases hr : leftN l.length ≤ i
      · rw [proofL_right l i h2 hr, List.reverse_append, List.reverse_singleton, List.singleton_append]
        simp only [valR]
        rw [if_neg h1, if_pos hr, if_pos hr, ← hk]
        have hd : (l.drop k).length = l.length - k := List.length_drop
        have ih := proofL_ok f (l.drop k) (i - k) s (by rw [hd]; omega) (by rw [List.getElem?_drop, ← h]; congr 1; omega)
        rw [hd] at ih
        rw [ih]
        simp only [Option.map_some, stepL]
        rw [decide_eq_true (hk ▸ hr), hn, ← hk]
        rfl
      · rw [proofL_left l i h2 (by omega), List.reverse_append, List.reverse_singleton, List.singleton_append]
        simp only [valR]
        rw [if_neg h1, if_neg hr, if_neg hr, ← hk]
        have hd : (l.take k).length = k := by rw [List.length_take]; omega
        have ih := proofL_ok f (l.take k) i s (by rw [hd]; omega) (by rw [List.getElem?_take, if_pos (by omega), h])
        rw [hd] at ih
        rw [ih]
        simp only [Option.map_some, stepL]
        rw [decide_eq_false (hk ▸ hr), hn, ← hk]
        rfl

theorem proofL_len32 : ∀ (f : Nat) (l : List (List UInt8)) (i : Nat), l.length ≤ f → ∀ x ∈ proofL l i, x.length = 32
  | 0, l, i, hf, x, hx => by rw [proofL_one l i (by omega)] at hx; cases hx
  | f + 1, l, i, hf, x, hx => by
    by_cases h1 : l.length ≤ 1
    · rw [proofL_one l i h1] at hx; cases hx
    · have h2 : 2 ≤ l.length := by omega
      have hlt := leftN_lt l.length h2
      have hpos := leftN_pos l.length
      by_cases hr : leftN l.length ≤ i
      · rw [proofL_right l i h2 hr, List.mem_append, List.mem_singleton] at hx
        rcases hx with hx | rfl
        · exact proofL_len32 f _ _ (by rw [List.length_drop]; omega) x hx
        · exact rootL_len _
      · rw [proofL_left l i h2 (by omega), List.mem_append, List.mem_singleton] at hx
        rcases hx with hx | rfl
        · exact proofL_len32 f _ _ (by rw [List.length_take]; omega) x hx
        · exact rootL_len _
theorem partL_len32 : ∀ (f : Nat) (l : List (List UInt8)) (m : Nat) (b : Bool), l.length ≤ f → 1 ≤ m → ∀ x ∈ partL l m b, x.length = 32
  | f, l, m, b, hf, h1, x, hx => by
    by_cases hml : m < l.length
    · match f, hf with
      | 0, hf => omega
      | f + 1, hf =>
        have h2 : 2 ≤ l.length := by omega
        have hlt := leftN_lt l.length h2
        have hpos := leftN_pos l.length
        by_cases hr : leftN l.length < m
        · rw [partL_right l m b hml hr, List.mem_append, List.mem_singleton] at hx
          rcases hx with hx | rfl
          · exact partL_len32 f _ _ _ (by rw [List.length_drop]; omega) (by omega) x hx
          · exact rootL_len _
        · rw [partL_left l m b hml h1 hr, List.mem_append, List.mem_singleton] at hx
          rcases hx with hx | rfl
          · exact partL_len32 f _ _ _ (by rw [List.length_take]; omega) h1 x hx
          · exact rootL_len _
    · rw [partL_all l m b (by omega)] at hx
      cases b with
      | true => cases hx
      | false => simp at hx; subst hx; exact rootL_len _
theorem extL_len32 (l : List (List UInt8)) (m : Nat) : ∀ x ∈ extL l m, x.length = 32 := by
  intro x hx
  unfold extL at hx
  split at hx
  · cases hx
  · exact partL_len32 l.length l m true (Nat.le_refl _) (by omega) x hx

/-- the number of binary digits -/
def binN (n : Nat) : Nat := if n = 0 then 0 else n.log2 + 1
/-- how deep the tree over n entries is at most -/
theorem partL_short : ∀ (f : Nat) (l : List (List UInt8)) (m : Nat) (b : Bool) (d : Nat), l.length ≤ f → 1 ≤ m → l.length ≤ 2 ^ d → (partL l m b).length ≤ d + 1
  | f, l, m, b, d, hf, h1, hd => by
    by_cases hml : m < l.length
    · match f, hf with
      | 0, hf => omega
      | f + 1, hf =>
        have h2 : 2 ≤ l.length := by omega
        have hlt := leftN_lt l.length h2
        have hpos := leftN_pos l.length
        have hge := leftN_ge l.length h2
        obtain ⟨e, rfl⟩ : ∃ e, d = e + 1 := ⟨d - 1, by
          cases d with
          | zero => simp at hd; omega
          | succ e => rfl⟩
        have hke : leftN l.length ≤ 2 ^ e := by
          unfold leftN at hlt ⊢
          apply Nat.pow_le_pow_right (by omega)
          apply Nat.le_of_not_lt; intro h
          have := Nat.pow_le_pow_right (n := 2) (by omega) (show e + 1 ≤ (l.length - 1).log2 by omega)
          omega
        by_cases hr : leftN l.length < m
        · rw [partL_right l m b hml hr, List.length_append, List.length_singleton]
          have := partL_short f (l.drop (leftN l.length)) (m - leftN l.length) false e (by rw [List.length_drop]; omega) (by omega) (by rw [List.length_drop]; omega)
          omega
        · rw [partL_left l m b hml h1 hr, List.length_append, List.length_singleton]
          have := partL_short f (l.take (leftN l.length)) m b e (by rw [List.length_take]; omega) h1 (by rw [List.length_take]; omega)
          omega
    · rw [partL_all l m b (by omega)]
      cases b <;> simp
theorem extL_short (l : List (List UInt8)) (m : Nat) (hm : m ≤ l.length) : (extL l m).length ≤ 2 * binN l.length := by
  unfold extL
  split
  · simp
  · have h0 : l.length ≠ 0 := by omega
    have hb : binN l.length = l.length.log2 + 1 := by unfold binN; rw [if_neg h0]
    have hlt : l.length < 2 ^ (l.length.log2 + 1) := Nat.lt_log2_self
    have := partL_short l.length l m true (l.length.log2 + 1) (Nat.le_refl _) (by omega) (by omega)
    omega
end Go.Proofs.YtgbemgndbemllaaGreatDoor
end

section
/- The orders of the rows, as plain Lean; what proves the rows of a range. -/
namespace Go.Proofs.YtgbemgndbemllaaGreatDoor

/-- Value -/
def Rw.val (r : Rw) (c : Int) : Int := if c = 0 then r.key else if c = 1 then r.v.1 else if c = 2 then r.v.2.1 else if c = 3 then r.v.2.2 else 0
/-- the order of a column -/
def ltO (c : Int) (a b : Rw) : Bool := decide (a.val c < b.val c) || (decide (a.val c = b.val c) && decide (a.key < b.key))
theorem ltO_iff {c : Int} {a b : Rw} : ltO c a b = true ↔ a.val c < b.val c ∨ a.val c = b.val c ∧ a.key < b.key := by simp [ltO]
theorem ltO_no {c : Int} {a b : Rw} : ltO c a b = false ↔ ¬ (a.val c < b.val c ∨ a.val c = b.val c ∧ a.key < b.key) := by rw [← Bool.not_eq_true, ltO_iff]
def leO (c : Int) (a b : Rw) : Bool := !ltO c b a
theorem leO_iff {c : Int} {a b : Rw} : leO c a b = true ↔ ¬ (b.val c < a.val c ∨ b.val c = a.val c ∧ b.key < a.key) := by unfold leO; rw [Bool.not_eq_true', ltO_no]
/-- the rows that are chosen, by a column and their keys -/
def ordS (l : List Rw) (p : Rw → Bool) (c : Int) : List Rw := (l.filter p).mergeSort (leO c)

theorem ordS_perm (l : List Rw) (p : Rw → Bool) (c : Int) : (ordS l p c).Perm (l.filter p) := List.mergeSort_perm _ _
theorem ordS_sorted (l : List Rw) (p : Rw → Bool) (c : Int) : (ordS l p c).Pairwise fun a b => leO c a b = true :=
  List.pairwise_mergeSort (fun a b d h k => by rw [leO_iff] at *; omega) (fun a b => by rw [Bool.or_eq_true, leO_iff, leO_iff]; omega) _

/-- two sorted lists with the same elements are one, if no two elements stand for each other -/
theorem sorted_one {le : Rw → Rw → Bool} : ∀ {a b : List Rw}, a.Perm b → a.Pairwise (fun x y => le x y = true) → b.Pairwise (fun x y => le x y = true) → (∀ x ∈ a, ∀ y ∈ a, le x y = true → le y x = true → x = y) → a = b
  | [], b, hp, _, _, _ => by simpa using hp.symm.eq_nil.symm
  | x :: a, [], hp, _, _, _ => by simp at hp
  | x :: a, y :: b, hp, ha, hb, hx => by
    obtain ⟨a1, a2⟩ := List.pairwise_cons.1 ha
    obtain ⟨b1, b2⟩ := List.pairwise_cons.1 hb
    have e : x = y := by
      by_cases h : x = y
      · exact h
      · have hx1 : x ∈ b := by
          rcases List.mem_cons.1 (hp.mem_iff.1 (List.mem_cons_self ..)) with e | h1
          · exact absurd e h
          · exact h1
        have hy1 : y ∈ a := by
          rcases List.mem_cons.1 (hp.mem_iff.2 (List.mem_cons_self ..)) with e | h1
          · exact absurd e.symm h
          · exact h1
        exact hx x (by simp) y (by simp [hy1]) (a1 y hy1) (b1 x hx1)
    subst e
    rw [sorted_one (List.Perm.cons_inv hp) a2 b2 fun u hu v hv => hx u (by simp [hu]) v (by simp [hv])]

theorem SortS.key_eq {l : List Rw} (h : SortS l) {x y : Rw} (hx : x ∈ l) (hy : y ∈ l) (ht : x.table = y.table) (hk : x.key = y.key) : x = y := by
  have e1 := h.get hx
  have e2 := h.get hy
  rw [ht, hk] at e1
  rw [e1] at e2
  exact Option.some.inj e2
theorem le_both {l : List Rw} (h : SortS l) {p : Rw → Bool} {t : Int} (hp : ∀ r, p r = true → r.table = t) (c : Int) : ∀ x ∈ l.filter p, ∀ y ∈ l.filter p, leO c x y = true → leO c y x = true → x = y := by
  intro x hx y hy h1 h2
  rw [leO_iff] at h1 h2
  obtain ⟨hx, px⟩ := List.mem_filter.1 hx
  obtain ⟨hy, py⟩ := List.mem_filter.1 hy
  exact h.key_eq hx hy ((hp x px).trans (hp y py).symm) (by omega)

/-- whatever has the same elements and is sorted is the order -/
theorem ord_one {l : List Rw} (h : SortS l) {p : Rw → Bool} {t : Int} (hp : ∀ r, p r = true → r.table = t) (c : Int) {d : List Rw} (hd : d.Perm (l.filter p)) (hs : d.Pairwise fun a b => leO c a b = true) : d = ordS l p c :=
  sorted_one (hd.trans (ordS_perm l p c).symm) hs (ordS_sorted l p c) fun x hx y hy => le_both h hp c x (hd.mem_iff.1 hx) y (hd.mem_iff.1 hy)

theorem ord_filter {l : List Rw} (h : SortS l) {p : Rw → Bool} {t : Int} (hp : ∀ r, p r = true → r.table = t) (c : Int) (q : Rw → Bool) : (ordS l p c).filter q = ordS l (fun r => p r && q r) c := by
  refine ord_one h (p := fun r => p r && q r) (t := t) (fun r hr => hp r (by simp at hr; exact hr.1)) c ?_ ((ordS_sorted l p c).filter _)
  have := (ordS_perm l p c).filter q
  rw [List.filter_filter] at this
  refine this.trans ?_
  have e : (fun r => q r && p r) = fun r => p r && q r := by funext r; exact Bool.and_comm _ _
  rw [e]

/-- strictly sorted -/
theorem ord_strict {l : List Rw} (h : SortS l) {p : Rw → Bool} {t : Int} (hp : ∀ r, p r = true → r.table = t) (c : Int) : (ordS l p c).Pairwise fun a b => ltO c a b = true := by
  have hn : (l.filter p).Nodup := List.Pairwise.imp (fun hb e => by subst e; unfold Rw.before at hb; omega) (List.Pairwise.filter p h)
  have hn2 : (ordS l p c).Nodup := (ordS_perm l p c).nodup_iff.2 hn
  have h2 := List.Pairwise.and_mem.1 (List.Pairwise.and hn2 (ordS_sorted l p c))
  refine h2.imp fun {a b} ⟨ha, hb, hne, hle⟩ => ?_
  rw [leO_iff] at hle
  rw [ltO_iff]
  apply Decidable.byContradiction
  intro hc
  refine hne (le_both h hp c a ((ordS_perm l p c).mem_iff.1 ha) b ((ordS_perm l p c).mem_iff.1 hb) ?_ ?_)
  · rw [leO_iff]; omega
  · rw [leO_iff]; omega

def inT (t : Int) (r : Rw) : Bool := decide (r.table = t)
def inR (t c lo hi : Int) (r : Rw) : Bool := decide (r.table = t) && (decide (lo ≤ r.val c) && decide (r.val c ≤ hi))
theorem inT_table {t : Int} (r : Rw) (h : inT t r = true) : r.table = t := by simpa [inT] using h
theorem inR_table {t c lo hi : Int} (r : Rw) (h : inR t c lo hi r = true) : r.table = t := by simp [inR] at h; exact h.1
/-- the order of a table and a column -/
def tabS (l : List Rw) (t c : Int) : List Rw := ordS l (inT t) c
/-- Range -/
def rangeS (l : List Rw) (t c lo hi : Int) : List Rw := ordS l (inR t c lo hi) c

theorem rowB_bnd {t k : Int} {v : Int × Int × Int} (h : rowB t k v = true) : 0 ≤ t ∧ t ≤ 3 ∧ 1 ≤ k ∧ k ≤ 1000000 ∧ (-1000000000 ≤ v.1 ∧ v.1 ≤ 1000000000) ∧ (-1000000000 ≤ v.2.1 ∧ v.2.1 ≤ 1000000000) ∧ (-1000000000 ≤ v.2.2 ∧ v.2.2 ≤ 1000000000) := by
  unfold rowB valB at h
  simp only [Bool.and_eq_true, decide_eq_true_eq] at h
  omega
theorem val_bounds {r : Rw} (h : rowB r.table r.key r.v = true) (c : Int) : -1000000000 ≤ r.val c ∧ r.val c ≤ 1000000000 := by
  have := rowB_bnd h
  unfold Rw.val
  repeat' split
  all_goals omega

/-- all the rows of a table are in the greatest range -/
theorem range_all {s : StT} (g : GoodS s) (t c : Int) : rangeS s.rows t c (-1000000000) 1000000000 = tabS s.rows t c := by
  unfold rangeS tabS ordS
  rw [List.filter_congr (q := inT t)]
  intro r hr
  have := val_bounds (g.rows r hr) c
  unfold inR inT
  simp [this.1, this.2]
theorem range_filter {l : List Rw} (h : SortS l) (t c lo hi : Int) : (tabS l t c).filter (fun r => decide (lo ≤ r.val c) && decide (r.val c ≤ hi)) = rangeS l t c lo hi :=
  ord_filter h inT_table c _

/-- what is proved: from one row before the range to one behind it -/
def fromO (O : List Rw) (c lo : Int) : Nat := O.findIdx (fun r => decide (lo ≤ r.val c)) - 1
def toO (O : List Rw) (c hi : Int) : Nat := min (O.findIdx (fun r => decide (hi < r.val c)) + 1) O.length
def cutO (O : List Rw) (c lo hi : Int) : List Rw := (O.take (toO O c hi)).drop (fromO O c lo)

structure CompleteO (n first : Nat) (l : List Rw) (t c lo hi : Int) : Prop where
  small : n ≤ 2000
  fits : first + l.length ≤ n
  none_ : l.length = 0 → n = 0
  rows : ∀ (k : Nat) x, l[k]? = some x → rowB x.table x.key x.v = true ∧ x.table = t ∧ (0 < k → lo ≤ x.val c) ∧ (k + 1 < l.length → x.val c ≤ hi)
  asc : ∀ (k : Nat) x y, l[k]? = some x → l[k + 1]? = some y → ltO c x y = true
  left : ∀ x, l[0]? = some x → first = 0 ∨ x.val c < lo
  right : ∀ x, l[l.length - 1]? = some x → first + l.length = n ∨ hi < x.val c

theorem findIdx_lt_not {O : List Rw} {f : Rw → Bool} {k : Nat} {x : Rw} (h : k < O.findIdx f) (hx : O[k]? = some x) : f x = false := by
  have hl := (List.getElem?_eq_some_iff.1 hx).1
  have := List.not_of_lt_findIdx h
  rw [← (List.getElem?_eq_some_iff.1 hx).2]
  simpa using this
theorem findIdx_at {O : List Rw} {f : Rw → Bool} {x : Rw} (hx : O[O.findIdx f]? = some x) : f x = true := by
  have hl := (List.getElem?_eq_some_iff.1 hx).1
  have := List.findIdx_getElem (w := hl)
  rw [← (List.getElem?_eq_some_iff.1 hx).2]
  exact this
/-- in a strictly sorted list the values rise -/
theorem strict_val {O : List Rw} {c : Int} (hO : O.Pairwise fun a b => ltO c a b = true) {i j : Nat} {x y : Rw} (hij : i ≤ j) (hx : O[i]? = some x) (hy : O[j]? = some y) : x.val c ≤ y.val c := by
  by_cases e : i = j
  · subst e
    rw [hx] at hy
    obtain rfl := Option.some.inj hy
    exact Int.le_refl _
  · obtain ⟨hi, rfl⟩ := List.getElem?_eq_some_iff.1 hx
    obtain ⟨hj, rfl⟩ := List.getElem?_eq_some_iff.1 hy
    have := ltO_iff.1 (List.pairwise_iff_getElem.1 hO i j hi hj (by omega))
    omega

theorem cutO_get (O : List Rw) (c lo hi : Int) {k : Nat} {x : Rw} (h : (cutO O c lo hi)[k]? = some x) : O[fromO O c lo + k]? = some x ∧ fromO O c lo + k < toO O c hi := by
  unfold cutO at h
  rw [List.getElem?_drop, List.getElem?_take] at h
  split at h
  · exact ⟨h, by assumption⟩
  · cases h
theorem cutO_len (O : List Rw) (c lo hi : Int) : (cutO O c lo hi).length = toO O c hi - fromO O c lo := by
  unfold cutO
  have : toO O c hi ≤ O.length := Nat.min_le_right _ _
  rw [List.length_drop, List.length_take, Nat.min_eq_left this]

theorem cut_order {O : List Rw} {c lo hi : Int} (hlh : lo ≤ hi) : O.findIdx (fun r => decide (lo ≤ r.val c)) ≤ O.findIdx (fun r => decide (hi < r.val c)) := by
  apply Decidable.byContradiction
  intro h
  have hl := List.findIdx_le_length (xs := O) (p := fun r => decide (lo ≤ r.val c))
  obtain ⟨x, hx⟩ : ∃ x, O[O.findIdx (fun r => decide (hi < r.val c))]? = some x := ⟨_, List.getElem?_eq_getElem (by omega)⟩
  have h1 := findIdx_at hx
  have h2 := findIdx_lt_not (f := fun r => decide (lo ≤ r.val c)) (by omega) hx
  simp only [decide_eq_true_eq, decide_eq_false_iff_not] at h1 h2
  omega

theorem cut_complete {s : StT} (g : GoodS s) (t c lo hi : Int) (hlh : lo ≤ hi) :
    CompleteO (tabS s.rows t c).length (fromO (tabS s.rows t c) c lo) (cutO (tabS s.rows t c) c lo hi) t c lo hi := by
  have hst := ord_strict g.sort (p := inT t) (t := t) inT_table c
  have hmem : ∀ x ∈ tabS s.rows t c, x ∈ s.rows ∧ x.table = t := fun x hx => by
    have := List.mem_filter.1 ((ordS_perm _ _ _).mem_iff.1 hx)
    exact ⟨this.1, inT_table x this.2⟩
  have hlen : (tabS s.rows t c).length ≤ 2000 := by
    have := (ordS_perm s.rows (inT t) c).length_eq
    have h2 := List.length_filter_le (inT t) s.rows
    have h3 := g.small
    unfold tabS
    omega
  change (tabS s.rows t c).Pairwise _ at hst
  generalize tabS s.rows t c = O at *
  have ho := cut_order (O := O) (c := c) hlh
  have hl1 := List.findIdx_le_length (xs := O) (p := fun r => decide (lo ≤ r.val c))
  have hl2 := List.findIdx_le_length (xs := O) (p := fun r => decide (hi < r.val c))
  have hcl := cutO_len O c lo hi
  obtain ⟨F, hF⟩ : ∃ F, F = O.findIdx (fun r => decide (lo ≤ r.val c)) := ⟨_, rfl⟩
  obtain ⟨T, hT⟩ : ∃ T, T = O.findIdx (fun r => decide (hi < r.val c)) := ⟨_, rfl⟩
  have e1 : fromO O c lo = F - 1 := by unfold fromO; rw [hF]
  have e2 : toO O c hi = min (T + 1) O.length := by unfold toO; rw [hT]
  rw [← hF, ← hT] at ho
  rw [← hF] at hl1
  rw [← hT] at hl2
  refine ⟨hlen, by omega, fun h => by omega, fun k x hx => ?_, fun k x y hx hy => ?_, fun x hx => ?_, fun x hx => ?_⟩
  · obtain ⟨hx, hk⟩ := cutO_get O c lo hi hx
    obtain ⟨m1, m2⟩ := hmem x (List.mem_of_getElem? hx)
    refine ⟨g.rows x m1, m2, fun h0 => ?_, fun h1 => ?_⟩
    · by_cases hf : F < O.length
      · obtain ⟨y, hy⟩ : ∃ y, O[F]? = some y := ⟨_, List.getElem?_eq_getElem hf⟩
        have h2 := findIdx_at (f := fun r => decide (lo ≤ r.val c)) (hF ▸ hy)
        have h3 := strict_val hst (i := F) (j := fromO O c lo + k) (by omega) hy hx
        simp only [decide_eq_true_eq] at h2
        omega
      · omega
    · have h2 := findIdx_lt_not (f := fun r => decide (hi < r.val c)) (k := fromO O c lo + k) (by omega) hx
      simp only [decide_eq_false_iff_not] at h2
      omega
  · obtain ⟨hx, hk⟩ := cutO_get O c lo hi hx
    obtain ⟨hy, hk⟩ := cutO_get O c lo hi hy
    obtain ⟨hi', rfl⟩ := List.getElem?_eq_some_iff.1 hx
    obtain ⟨hj', rfl⟩ := List.getElem?_eq_some_iff.1 hy
    exact List.pairwise_iff_getElem.1 hst _ _ hi' hj' (by omega)
  · obtain ⟨hx, hk⟩ := cutO_get O c lo hi hx
    rw [Nat.add_zero] at hx
    by_cases h0 : fromO O c lo = 0
    · exact .inl h0
    · have h2 := findIdx_lt_not (f := fun r => decide (lo ≤ r.val c)) (k := fromO O c lo) (by omega) hx
      simp only [decide_eq_false_iff_not] at h2
      exact .inr (by omega)
  · obtain ⟨hx, hk⟩ := cutO_get O c lo hi hx
    by_cases h0 : fromO O c lo + (cutO O c lo hi).length = O.length
    · exact .inl h0
    · have e : fromO O c lo + ((cutO O c lo hi).length - 1) = T := by omega
      rw [e] at hx
      have h2 := findIdx_at (f := fun r => decide (hi < r.val c)) (hT ▸ hx)
      simp only [decide_eq_true_eq] at h2
      exact .inr h2

/-- the rows of the range are just those proved ones that lie in it -/
theorem cut_rows {l : List Rw} (h : SortS l) (t c lo hi : Int) (hlh : lo ≤ hi) : (cutO (tabS l t c) c lo hi).filter (fun r => decide (lo ≤ r.val c) && decide (r.val c ≤ hi)) = rangeS l t c lo hi := by
  rw [← range_filter h]
  have hst := ord_strict h (p := inT t) (t := t) inT_table c
  change (tabS l t c).Pairwise _ at hst
  generalize tabS l t c = O at *
  have ho := cut_order (O := O) (c := c) hlh
  conv => rhs; rw [← List.take_append_drop (toO O c hi) O, ← List.take_append_drop (fromO O c lo) (O.take (toO O c hi))]
  rw [List.filter_append, List.filter_append]
  have n1 : ((O.take (toO O c hi)).take (fromO O c lo)).filter (fun r => decide (lo ≤ r.val c) && decide (r.val c ≤ hi)) = [] := by
    rw [List.filter_eq_nil_iff]
    intro x hx
    obtain ⟨k, hk⟩ := List.getElem?_of_mem hx
    rw [List.getElem?_take] at hk
    split at hk
    · rename_i hlt
      rw [List.getElem?_take] at hk
      split at hk
      · have h2 := findIdx_lt_not (f := fun r => decide (lo ≤ r.val c)) (k := k) (by unfold fromO at hlt; omega) hk
        simp [h2]
      · cases hk
    · cases hk
  have n2 : (O.drop (toO O c hi)).filter (fun r => decide (lo ≤ r.val c) && decide (r.val c ≤ hi)) = [] := by
    rw [List.filter_eq_nil_iff]
    intro x hx
    obtain ⟨k, hk⟩ := List.getElem?_of_mem hx
    rw [List.getElem?_drop] at hk
    have hlt := (List.getElem?_eq_some_iff.1 hk).1
    have hT : O.findIdx (fun r => decide (hi < r.val c)) ≤ toO O c hi + k := by unfold toO at *; omega
    obtain ⟨y, hy⟩ : ∃ y, O[O.findIdx (fun r => decide (hi < r.val c))]? = some y := ⟨_, List.getElem?_eq_getElem (by omega)⟩
    have h2 := findIdx_at hy
    have h3 := strict_val hst hT hy hk
    simp only [decide_eq_true_eq] at h2
    simp
    intro _
    omega
  rw [n1, n2, List.append_nil, List.nil_append]
  rfl
end Go.Proofs.YtgbemgndbemllaaGreatDoor
end

section
/- The reference's state: where a row stands in its list. Plain. -/
namespace Go.Proofs.YtgbemgndbemllaaGreatDoor

/-- place -/
def lowN (l : List Rw) (t k : Int) : Nat := (l.filter (ltK t k)).length
theorem lowN_le (l : List Rw) (t k : Int) : lowN l t k ≤ l.length := List.length_filter_le _ _
theorem SortS.low_take {l : List Rw} (h : SortS l) (t k : Int) : l.take (lowN l t k) = l.filter (ltK t k) := by
  have e := congrArg (List.take (lowN l t k)) (h.parts t k)
  rw [List.take_left' (show (l.filter (ltK t k)).length = lowN l t k from rfl)] at e
  exact e
theorem SortS.low_drop {l : List Rw} (h : SortS l) (t k : Int) : l.drop (lowN l t k) = (getS l t k).toList ++ l.filter (gtK t k) := by
  have e := congrArg (List.drop (lowN l t k)) (h.parts t k)
  rw [List.drop_left' (show (l.filter (ltK t k)).length = lowN l t k from rfl), h.eq_part] at e
  exact e
theorem SortS.low_iff {l : List Rw} (h : SortS l) (t k : Int) {i : Nat} {x : Rw} (hx : l[i]? = some x) : (ltK t k x = true) ↔ i < lowN l t k := by
  constructor
  · intro e
    apply Decidable.byContradiction
    intro hc
    have h1 : (l.drop (lowN l t k))[i - lowN l t k]? = some x := by rw [List.getElem?_drop, Nat.add_sub_cancel' (by omega)]; exact hx
    rw [h.low_drop] at h1
    have h2 := List.mem_of_getElem? h1
    rw [List.mem_append] at h2
    rw [ltK_iff] at e
    rcases h2 with h2 | h2
    · rw [Option.mem_toList] at h2
      have := (getS_some h2).2
      omega
    · have := gtK_iff.1 (List.mem_filter.1 h2).2
      omega
  · intro hlt
    have h1 : (l.take (lowN l t k))[i]? = some x := by rw [List.getElem?_take, if_pos hlt]; exact hx
    rw [h.low_take] at h1
    exact (List.mem_filter.1 (List.mem_of_getElem? h1)).2
/-- Get -/
theorem SortS.low_get {l : List Rw} (h : SortS l) (t k : Int) :
    (∃ x, l[lowN l t k]? = some x ∧ x.table = t ∧ x.key = k ∧ getS l t k = some x) ∨ (getS l t k = none ∧ (l.length ≤ lowN l t k ∨ ∃ x, l[lowN l t k]? = some x ∧ ¬ (x.table = t ∧ x.key = k))) := by
  have e : l[lowN l t k]? = ((getS l t k).toList ++ l.filter (gtK t k))[0]? := by rw [← h.low_drop, List.getElem?_drop, Nat.add_zero]
  cases hg : getS l t k with
  | some x =>
    rw [hg] at e
    exact .inl ⟨x, by simpa using e, (getS_some hg).2.1, (getS_some hg).2.2, rfl⟩
  | none =>
    refine .inr ⟨rfl, ?_⟩
    cases hx : l[lowN l t k]? with
    | none => exact .inl (List.getElem?_eq_none_iff.1 hx)
    | some x => exact .inr ⟨x, rfl, getS_none hg x (List.mem_of_getElem? hx)⟩
def midC (c : Chg) : List Rw := if c.has then [rowNew c] else []
def skipC (c : Chg) : Nat := if c.had then 1 else 0
/-- one change, as the reference carries it out -/
theorem SortS.app_place {l : List Rw} (h : SortS l) {c : Chg} (hc : hitB l c = true) :
    appC l c = l.take (lowN l c.table c.key) ++ midC c ++ (l.drop (lowN l c.table c.key)).drop (skipC c) ∧ lowN l c.table c.key + skipC c ≤ l.length := by
  have hh := hitB_had hc
  have hl := congrArg List.length (h.low_drop c.table c.key)
  rw [List.length_drop, List.length_append] at hl
  have hle := lowN_le l c.table c.key
  have hd : (l.drop (lowN l c.table c.key)).drop (skipC c) = l.filter (gtK c.table c.key) := by
    rw [h.low_drop]
    unfold skipC
    cases e : getS l c.table c.key <;> simp [e] at hh <;> simp [hh]
  rw [hd, h.low_take]
  refine ⟨?_, ?_⟩
  · unfold appC insS delS midC
    split <;> simp [rowNew]
  · unfold skipC
    cases e : getS l c.table c.key <;> simp [e] at hh hl <;> simp [hh] <;> omega
end Go.Proofs.YtgbemgndbemllaaGreatDoor
end

section
/- The log, as plain Lean: its records and heads; Append. -/
namespace Go.Proofs.YtgbemgndbemllaaGreatDoor

structure Lg where
  recs : List Rec
  heads : List Hd
deriving DecidableEq

def zero32 : List UInt8 := List.replicate 32 0
/-- New -/
def newLg (st : List UInt8) : Lg := ⟨[], [⟨0, zero32, st⟩]⟩
def lastH (x : Lg) : Hd := (x.heads.getLast?).getD hd0
/-- Append -/
def appA (x : Lg) (r : Rec) (st : List UInt8) : Lg × Int :=
  if (nextA (lastH x) r st).2 = 0 then (⟨x.recs ++ [r], x.heads ++ [(nextA (lastH x) r st).1]⟩, 0) else (x, 90)

structure Good (x : Lg) : Prop where
  len : x.heads.length = x.recs.length + 1
  head : ∀ (i : Nat) h, x.heads[i]? = some h → hdB h = true ∧ h.pos = i
  rec_ : ∀ (i : Nat) r, x.recs[i]? = some r → recB r = true ∧ r.pos = i + 1

theorem nextA_cases (h : Hd) (r : Rec) (st : List UInt8) :
    (recB r = true ∧ hdB h = true ∧ st.length = 32 ∧ r.pos = h.pos + 1 ∧ nextA h r st = (⟨r.pos, chainL h.chain (encRec r), st⟩, 0)) ∨
    (¬ (recB r = true ∧ hdB h = true ∧ st.length = 32 ∧ r.pos = h.pos + 1) ∧ nextA h r st = (hd0, 90)) := by
  unfold nextA
  by_cases c : (recB r && hdB h && decide (st.length = 32) && decide (r.pos = h.pos + 1)) = true
  · rw [if_pos c]
    simp only [Bool.and_eq_true, decide_eq_true_eq] at c
    exact .inl ⟨c.1.1.1, c.1.1.2, c.1.2, c.2, rfl⟩
  · rw [if_neg c]
    refine .inr ⟨fun k => c ?_, rfl⟩
    simp only [Bool.and_eq_true, decide_eq_true_eq]
    exact ⟨⟨⟨k.1, k.2.1⟩, k.2.2.1⟩, k.2.2.2⟩

theorem recB_pos {r : Rec} (h : recB r = true) : 1 ≤ r.pos ∧ r.pos ≤ 10000 ∧ 1 ≤ r.chs.length ∧ r.chs.length ≤ 8 := by
  unfold recB at h
  simp only [Bool.and_eq_true, decide_eq_true_eq] at h
  exact ⟨h.1.1.1, h.1.1.2, h.1.2.1, h.1.2.2⟩

theorem nextA_hdB {h : Hd} {r : Rec} {st : List UInt8} (e : (nextA h r st).2 = 0) : hdB (nextA h r st).1 = true ∧ (nextA h r st).1.pos = r.pos := by
  rcases nextA_cases h r st with ⟨h1, h2, h3, h4, h5⟩ | ⟨_, h5⟩
  · rw [h5]
    obtain ⟨p1, p2, _⟩ := recB_pos h1
    refine ⟨?_, rfl⟩
    unfold hdB
    have hl : (chainL h.chain (encRec r)).length = 32 := rfl
    simp only [Bool.and_eq_true, decide_eq_true_eq]
    exact ⟨⟨⟨by omega, p2⟩, hl⟩, h3⟩
  · rw [h5] at e; exact absurd e (by decide)

theorem newLg_good {st : List UInt8} (h : st.length = 32) : Good (newLg st) := by
  refine ⟨rfl, fun i g hg => ?_, fun i r hr => by simp [newLg] at hr⟩
  match i, hg with
  | 0, hg =>
    simp only [newLg, List.getElem?_cons_zero, Option.some.injEq] at hg
    subst hg
    refine ⟨?_, rfl⟩
    unfold hdB
    simp [h, zero32]
  | i + 1, hg => simp [newLg] at hg

theorem Good.last {x : Lg} (h : Good x) : x.heads[x.recs.length]? = some (lastH x) := by
  have hl := h.len
  unfold lastH
  rw [List.getLast?_eq_getElem?, hl, Nat.add_sub_cancel]
  have hlt : x.recs.length < x.heads.length := by omega
  rw [List.getElem?_eq_getElem hlt]
  rfl
theorem Good.lastB {x : Lg} (h : Good x) : hdB (lastH x) = true ∧ (lastH x).pos = x.recs.length := h.head _ _ h.last
theorem Good.small {x : Lg} (h : Good x) : x.recs.length ≤ 10000 := by
  have := h.lastB
  have h2 := (hdB_parts this.1).2.1
  omega

theorem appA_cases {x : Lg} (g : Good x) (r : Rec) (st : List UInt8) :
    (recB r = true ∧ st.length = 32 ∧ r.pos = (x.recs.length : Nat) + 1 ∧ (nextA (lastH x) r st).2 = 0 ∧ appA x r st = (⟨x.recs ++ [r], x.heads ++ [(nextA (lastH x) r st).1]⟩, 0)) ∨
    (¬ (recB r = true ∧ st.length = 32 ∧ r.pos = (x.recs.length : Nat) + 1) ∧ (nextA (lastH x) r st).2 = 90 ∧ appA x r st = (x, 90)) := by
  obtain ⟨hb, hp⟩ := g.lastB
  unfold appA
  rcases nextA_cases (lastH x) r st with ⟨h1, h2, h3, h4, h5⟩ | ⟨h1, h5⟩
  · left
    have e0 : (nextA (lastH x) r st).2 = 0 := by rw [h5]
    rw [if_pos e0]
    exact ⟨h1, h3, by omega, e0, rfl⟩
  · right
    have e0 : (nextA (lastH x) r st).2 = 90 := by rw [h5]
    rw [if_neg (by omega)]
    refine ⟨fun k => h1 ⟨k.1, hb, k.2.1, by omega⟩, e0, rfl⟩

theorem appA_good {x : Lg} (g : Good x) (r : Rec) (st : List UInt8) : Good (appA x r st).1 := by
  rcases appA_cases g r st with ⟨h1, h2, h3, h4, h5⟩ | ⟨_, _, h5⟩
  · rw [h5]
    obtain ⟨n1, n2⟩ := nextA_hdB h4
    have hl := g.len
    refine ⟨by simp [hl], fun i h hi => ?_, fun i q hi => ?_⟩
    · dsimp only at hi
      by_cases c : i < x.heads.length
      · rw [List.getElem?_append_left c] at hi
        exact g.head i h hi
      · rw [List.getElem?_append_right (by omega)] at hi
        have hlt := (List.getElem?_eq_some_iff.1 hi).1
        simp only [List.length_singleton] at hlt
        have ei : i = x.heads.length := by omega
        subst ei
        rw [Nat.sub_self] at hi
        simp only [List.getElem?_cons_zero, Option.some.injEq] at hi
        subst hi
        exact ⟨n1, by rw [n2]; omega⟩
    · dsimp only at hi
      by_cases c : i < x.recs.length
      · rw [List.getElem?_append_left c] at hi
        exact g.rec_ i q hi
      · rw [List.getElem?_append_right (by omega)] at hi
        have hlt := (List.getElem?_eq_some_iff.1 hi).1
        simp only [List.length_singleton] at hlt
        have ei : i = x.recs.length := by omega
        subst ei
        rw [Nat.sub_self] at hi
        simp only [List.getElem?_cons_zero, Option.some.injEq] at hi
        subst hi
        exact ⟨h1, h3⟩
  · rw [h5]; exact g

/-- the encodings of the heads -/
def leavesL (x : Lg) : List (List UInt8) := x.heads.map encHd
theorem leavesL_len (x : Lg) : (leavesL x).length = x.heads.length := by simp [leavesL]
theorem leavesL_short {x : Lg} (g : Good x) : ∀ l ∈ leavesL x, l.length ≤ 73 := by
  intro l hl
  unfold leavesL at hl
  obtain ⟨h, hh, rfl⟩ := List.mem_map.1 hl
  obtain ⟨i, hi⟩ := List.getElem?_of_mem hh
  exact encHd_len (g.head i h hi).1
/-- Root -/
def rootA (x : Lg) : List UInt8 := rootL (leavesL x)
end Go.Proofs.YtgbemgndbemllaaGreatDoor
end

section
/- The tree over the orders of a state, as plain Lean; the proof of a range is accepted. -/
namespace Go.Proofs.YtgbemgndbemllaaGreatDoor

/-- Encode of a valid row -/
def encRow (r : Rw) : List UInt8 := putsL [r.table, r.key] ++ putsL (tri r.v)
def entsS (l : List Rw) (t c : Int) : List (List UInt8) := (tabS l t c).map encRow
/-- the summary of an order -/
def sumS (l : List Rw) (t c : Int) : List UInt8 := putL (((tabS l t c).length : Nat) : Int) ++ rootL (entsS l t c)
def pairs16 : List (Int × Int) := [(0, 0), (0, 1), (0, 2), (0, 3), (1, 0), (1, 1), (1, 2), (1, 3), (2, 0), (2, 1), (2, 2), (2, 3), (3, 0), (3, 1), (3, 2), (3, 3)]
def sumsS (l : List Rw) : List (List UInt8) := pairs16.map fun p => sumS l p.1 p.2
/-- Root -/
def rootS (l : List Rw) : List UInt8 := rootL (sumsS l)

theorem sumsS_len (l : List Rw) : (sumsS l).length = 16 := by simp [sumsS, pairs16]
theorem sumsS_get (l : List Rw) {t c : Int} (h1 : 0 ≤ t) (h2 : t ≤ 3) (h3 : 0 ≤ c) (h4 : c ≤ 3) : (sumsS l)[(4 * t + c).toNat]? = some (sumS l t c) := by
  have ht : t = 0 ∨ t = 1 ∨ t = 2 ∨ t = 3 := by omega
  have hc : c = 0 ∨ c = 1 ∨ c = 2 ∨ c = 3 := by omega
  rcases ht with rfl | rfl | rfl | rfl <;> rcases hc with rfl | rfl | rfl | rfl <;> rfl
theorem entsS_len (l : List Rw) (t c : Int) : (entsS l t c).length = (tabS l t c).length := by simp [entsS]
theorem rootS_len (l : List Rw) : (rootS l).length = 32 := rootL_len _
theorem sumS_len (l : List Rw) (t c : Int) : (sumS l t c).length = (putL (((tabS l t c).length : Nat) : Int)).length + 32 := by
  unfold sumS
  rw [List.length_append, rootL_len]
/-- the path of a proved row is accepted -/
theorem path_ok {l : List Rw} {t c : Int} {i : Nat} {x : Rw} (hx : (tabS l t c)[i]? = some x) : valR (encRow x) (proofL (entsS l t c) i).reverse (entsS l t c).length i = some (rootL (entsS l t c)) :=
  proofL_ok _ _ _ _ (Nat.le_refl _) (by unfold entsS; rw [List.getElem?_map, hx]; rfl)

/-- the log of records whose states are the store's -/
structure TopLog (l : List Rec) (i : Nat) (x : Lg) : Prop where
  good : Good x
  recs : x.recs = l.take i
  states : ∀ j, j ≤ i → ∃ h s, x.heads[j]? = some h ∧ runS st0 (l.take j) = some s ∧ h.state = rootS s.rows

theorem topLog0 (l : List Rec) : TopLog l 0 (newLg (rootS st0.rows)) := by
  refine ⟨newLg_good (rootS_len _), rfl, fun j hj => ?_⟩
  obtain rfl : j = 0 := by omega
  exact ⟨_, st0, rfl, rfl, rfl⟩
theorem topLog_step {l : List Rec} {i : Nat} {x : Lg} {r : Rec} {s : StT} (h : TopLog l i x) (hr : l[i]? = some r) (hs : runS st0 (l.take (i + 1)) = some s) :
    (appA x r (rootS s.rows)).2 = 0 ∧ TopLog l (i + 1) (appA x r (rootS s.rows)).1 := by
  have hlt := (List.getElem?_eq_some_iff.1 hr).1
  have hrl : x.recs.length = i := by rw [h.recs, List.length_take]; omega
  obtain ⟨k1, k2⟩ := runS_rec st0_good hs i r (by rw [List.getElem?_take, if_pos (by omega)]; exact hr)
  have kp : r.pos = (x.recs.length : Nat) + 1 := by rw [k2, hrl]; simp [st0]
  rcases appA_cases h.good r (rootS s.rows) with ⟨a1, a2, a3, a4, a5⟩ | ⟨a1, _⟩
  · obtain ⟨n1, n2⟩ := nextA_hdB a4
    refine ⟨by rw [a5], by rw [← show (appA x r (rootS s.rows)).1 = _ from rfl]; exact appA_good h.good _ _, ?_, fun j hj => ?_⟩
    · rw [a5]
      show x.recs ++ [r] = l.take (i + 1)
      rw [h.recs, List.take_add_one, hr]
      rfl
    · rw [a5]
      have hl := h.good.len
      by_cases e : j = i + 1
      · subst e
        refine ⟨_, s, by show (x.heads ++ [_])[i + 1]? = _; rw [List.getElem?_append_right (by omega), hl, hrl, Nat.sub_self]; rfl, hs, ?_⟩
        rcases nextA_cases (lastH x) r (rootS s.rows) with ⟨_, _, _, _, h5⟩ | ⟨_, h5⟩
        · rw [h5]
        · rw [h5] at a4; exact absurd a4 (by decide)
      · obtain ⟨hh, s', e1, e2, e3⟩ := h.states j (by omega)
        refine ⟨hh, s', ?_, e2, e3⟩
        show (x.heads ++ [_])[j]? = _
        rw [List.getElem?_append_left (List.getElem?_eq_some_iff.1 e1).1, e1]
  · exact absurd ⟨k1, rootS_len _, kp⟩ a1
end Go.Proofs.YtgbemgndbemllaaGreatDoor
end

