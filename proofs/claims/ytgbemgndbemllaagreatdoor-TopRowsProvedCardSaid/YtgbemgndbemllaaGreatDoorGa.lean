/- Joined: Own Sl. -/
import Derived.Test.YtgbemgndbemllaaGreatDoorQRf
import Derived.Laws.IdiomStrings
import Derived.Lib.BufferRead
import Derived.Lib.Strings
import Derived.WideShapes

section
/- Small facts on rows of bytes that a call owns, over any program. -/
namespace Go.Proofs.YtgbemgndbemllaaGreatDoor
open Go Go.RowKit

theorem extract_eq (s : ByteArray) (a b : Nat) : s.extract a b = ⟨((s.data.toList.drop a).take (b - a)).toArray⟩ := by
  apply Go.WideShapes.bytes_inj
  rw [Go.Lib.extract_data]

theorem append_eq (a b : ByteArray) : a ++ b = ⟨(a.data.toList ++ b.data.toList).toArray⟩ := by
  apply Go.WideShapes.bytes_inj
  simp [ByteArray.data_append]

theorem mk_toList (l : List UInt8) : (⟨l.toArray⟩ : ByteArray).data.toList = l := by simp

/-- bytes as cells -/
def bv (l : List UInt8) : List Value := l.map fun b => Value.int .u8 (b.toNat : Int)

@[simp] theorem bv_length (l : List UInt8) : (bv l).length = l.length := by simp [bv]
theorem bv_append (l m : List UInt8) : bv (l ++ m) = bv l ++ bv m := by simp [bv]

/-- string(b) of a slice that owns the bytes l. -/
theorem run_convert_own {P : Program} {w : World} {base : Nat} {v : Value} {k : Nat} {l : List UInt8} (src dst e : TypeId) (hs : P.underlying src = some (.slice e)) (he : P.underlying e = some (.int .u8)) (hd : P.underlying dst = some .string)
    (h : w.ownsRow base e 1 v k (bv l)) : (convert src dst v).run P w = .ok (.string ⟨l.toArray⟩) w := by
  obtain ⟨hk, h⟩ := h
  simp only [bv_length, Nat.mul_one] at hk
  subst hk
  rcases h with ⟨rfl, h0⟩ | ⟨g, cap, cur, rfl, _, hg, _, _, _, htk⟩
  · have : l = [] := by simpa using h0
    subst this
    exact Go.Lib.run_convert_nil_bytes w src dst e 0 hs he hd
  · refine run_convert_bytes_back w src dst e ⟨g, 0, none⟩ cap l hs he hd ?_
    refine Go.Lib.bytes_of_row hg ?_
    rw [Nat.mul_one] at htk
    rw [htk]; rfl

theorem cellsBlock_size {W : World} {j : Nat} {o : Obj} (h : W.heap[j]? = some o) : j < W.heap.size := (Array.getElem?_eq_some_iff.1 h).1

theorem below_putObj {n₀ : Nat} {w W : World} (h : Below n₀ w W) {l : Nat} (o : Obj) (hl : n₀ ≤ l) (hs : n₀ ≤ W.heap.size) : Below n₀ w (W.putObj l o) :=
  h.grown (grownBy_putObj' W l o) hs (fun k e => by cases e; exact hl)

/-- The block of an owned row lies from the base on. -/
theorem World.ownsRow_base {W : World} {base : Nat} {e : TypeId} {size k : Nat} {v : Value} {xs : List Value} (h : W.ownsRow base e size v k xs) {j : Nat} (hj : v.ownBlock = some j) : base ≤ j := by
  rcases h.2 with ⟨rfl, _⟩ | ⟨g, cap, cur, rfl, hb, _⟩
  · simp [Value.ownBlock] at hj
  · obtain rfl : g = j := by simpa [Value.ownBlock] using hj
    exact hb

end Go.Proofs.YtgbemgndbemllaaGreatDoor
end

section
/- Slices that came in, as lists of cells. -/
namespace Go.Proofs.YtgbemgndbemllaaGreatDoor
open Go Go.RowKit

/-- A slice value that holds just these cells, one a place, all below the heap's end. -/
def SliceAt (w : World) (v : Value) (xs : List Value) : Prop :=
  ∃ A c, v = .slice A xs.length c ∧ xs.length ≤ c ∧ (0 < xs.length → ∃ ad, A = some ad ∧ ad.block < w.heap.size ∧ ∀ j u, xs[j]? = some u → w.cell? (ad.add j) = some u)

theorem block_add (a : Addr) (n : Nat) : (a.add n).block = a.block := by unfold Addr.add; split <;> rfl

theorem SliceAt.below {w w' : World} {v : Value} {xs : List Value} (h : SliceAt w v xs) (hb : Below w.heap.size w w') : SliceAt w' v xs := by
  obtain ⟨A, c, hv, hc, hx⟩ := h
  refine ⟨A, c, hv, hc, fun h0 => ?_⟩
  obtain ⟨ad, hA, hlt, hj⟩ := hx h0
  exact ⟨ad, hA, Nat.lt_of_lt_of_le hlt hb.size, fun j u hu => (hb.cell (p := ad.add j) (by rw [block_add]; exact hlt)).trans (hj j u hu)⟩

theorem block_of_cell {W : World} {a : Addr} {v : Value} (h : W.cell? a = some v) : a.block < W.heap.size := by
  obtain ⟨o, ho, _⟩ := cells_of_cell h
  exact (Array.getElem?_eq_some_iff.1 ho).1

theorem SliceAt.at_ {w : World} {A : Option Addr} {c n : Nat} {xs : List Value} (h : SliceAt w (.slice A n c) xs) {k : Nat} (hk : k < xs.length) :
    ∃ ad, A = some ad ∧ n = xs.length ∧ n ≤ c ∧ ∀ j u, xs[j]? = some u → w.cell? (ad.add j) = some u := by
  obtain ⟨A', c', hv, hc, hx⟩ := h
  injection hv with h1 h2 h3
  subst h1 h2 h3
  obtain ⟨ad, rfl, _, hj⟩ := hx (by omega)
  exact ⟨ad, rfl, rfl, hc, hj⟩

end Go.Proofs.YtgbemgndbemllaaGreatDoor
end

