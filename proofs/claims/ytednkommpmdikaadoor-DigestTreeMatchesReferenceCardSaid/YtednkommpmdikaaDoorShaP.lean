/- SHA-256, as plain Lean. -/
namespace Go.Proofs.YtednkommpmdikaaDoor

def rotN (x n : Nat) : Nat := (x / 2 ^ n) ||| (x * 2 ^ (32 - n) % 4294967296)
def s0N (x : Nat) : Nat := rotN x 7 ^^^ rotN x 18 ^^^ (x / 2 ^ 3)
def s1N (x : Nat) : Nat := rotN x 17 ^^^ rotN x 19 ^^^ (x / 2 ^ 10)
def b0N (x : Nat) : Nat := rotN x 2 ^^^ rotN x 13 ^^^ rotN x 22
def b1N (x : Nat) : Nat := rotN x 6 ^^^ rotN x 11 ^^^ rotN x 25
def chN (e f g : Nat) : Nat := (e &&& f) ^^^ ((4294967295 - e) &&& g)
def majN (a b c : Nat) : Nat := (a &&& b) ^^^ (a &&& c) ^^^ (b &&& c)

def k256 : List Nat := [1116352408, 1899447441, 3049323471, 3921009573, 961987163, 1508970993, 2453635748, 2870763221, 3624381080, 310598401, 607225278, 1426881987, 1925078388, 2162078206, 2614888103, 3248222580, 3835390401, 4022224774, 264347078, 604807628, 770255983, 1249150122, 1555081692, 1996064986, 2554220882, 2821834349, 2952996808, 3210313671, 3336571891, 3584528711, 113926993, 338241895, 666307205, 773529912, 1294757372, 1396182291, 1695183700, 1986661051, 2177026350, 2456956037, 2730485921, 2820302411, 3259730800, 3345764771, 3516065817, 3600352804, 4094571909, 275423344, 430227734, 506948616, 659060556, 883997877, 958139571, 1322822218, 1537002063, 1747873779, 1955562222, 2024104815, 2227730452, 2361852424, 2428436474, 2756734187, 3204031479, 3329325298]

/-- the eight words -/
structure V8 where
  (a b c d e f g h : Nat)
deriving DecidableEq

def V8.toL (v : V8) : List Nat := [v.a, v.b, v.c, v.d, v.e, v.f, v.g, v.h]

def iv : V8 := ⟨1779033703, 3144134277, 1013904242, 2773480762, 1359893119, 2600822924, 528734635, 1541459225⟩

def rndT (v : V8) (k w : Nat) : Nat := (v.h + b1N v.e + chN v.e v.f v.g + k + w) % 4294967296
def rndU (v : V8) : Nat := (b0N v.a + majN v.a v.b v.c) % 4294967296
def rnd (v : V8) (k w : Nat) : V8 :=
  ⟨(rndT v k w + rndU v) % 4294967296, v.a, v.b, v.c, (v.d + rndT v k w) % 4294967296, v.e, v.f, v.g⟩

def nextW (l : List Nat) : Nat :=
  (l.getD (l.length - 16) 0 + s0N (l.getD (l.length - 15) 0) + l.getD (l.length - 7) 0 + s1N (l.getD (l.length - 2) 0)) % 4294967296

def schedN : Nat → List Nat → List Nat
  | 0, l => l
  | n + 1, l => schedN n (l ++ [nextW l])

def byteN (l : List UInt8) (i : Nat) : Nat := (l.getD i 0).toNat
def be4 (l : List UInt8) (i : Nat) : Nat := byteN l (4 * i) * 16777216 + byteN l (4 * i + 1) * 65536 + byteN l (4 * i + 2) * 256 + byteN l (4 * i + 3)
def words16 (l : List UInt8) : List Nat := (List.range 16).map (be4 l)
def add8 (h v : V8) : V8 :=
  ⟨(h.a + v.a) % 4294967296, (h.b + v.b) % 4294967296, (h.c + v.c) % 4294967296, (h.d + v.d) % 4294967296,
   (h.e + v.e) % 4294967296, (h.f + v.f) % 4294967296, (h.g + v.g) % 4294967296, (h.h + v.h) % 4294967296⟩
def rounds (h : V8) (ps : List (Nat × Nat)) : V8 := ps.foldl (fun v p => rnd v p.1 p.2) h
def compress (h : V8) (blk : List UInt8) : V8 := add8 h (rounds h (k256.zip (schedN 48 (words16 blk))))

/-- the blocks of 64 bytes, one after the other -/
def blocksN : Nat → V8 → List UInt8 → V8
  | 0, h, _ => h
  | n + 1, h, l => blocksN n (compress h (l.take 64)) (l.drop 64)

def be8 (n : Nat) : List UInt8 := [7, 6, 5, 4, 3, 2, 1, 0].map fun i => UInt8.ofNat (n / 2 ^ (8 * i))
def padL (s : List UInt8) : List UInt8 := s ++ (128 :: List.replicate ((119 - s.length % 64) % 64) 0) ++ be8 (8 * s.length)
def be4L (x : Nat) : List UInt8 := [UInt8.ofNat (x / 16777216), UInt8.ofNat (x / 65536), UInt8.ofNat (x / 256), UInt8.ofNat x]
def outL (v : V8) : List UInt8 := v.toL.flatMap be4L

/-- Sum -/
def shaL (s : List UInt8) : List UInt8 := outL (blocksN ((padL s).length / 64) iv (padL s))

theorem sha_empty : shaL [] = [227, 176, 196, 66, 152, 252, 28, 20, 154, 251, 244, 200, 153, 111, 185, 36, 39, 174, 65, 228, 100, 155, 147, 76, 164, 149, 153, 27, 120, 82, 184, 85] := by decide +kernel
theorem sha_abc : shaL [97, 98, 99] = [186, 120, 22, 191, 143, 1, 207, 234, 65, 65, 64, 222, 93, 174, 34, 35, 176, 3, 97, 163, 150, 23, 122, 156, 180, 16, 255, 97, 242, 0, 21, 173] := by decide +kernel

end Go.Proofs.YtednkommpmdikaaDoor
