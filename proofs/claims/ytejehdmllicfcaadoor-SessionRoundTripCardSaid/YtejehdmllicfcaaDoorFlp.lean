/- A string's bytes in a block of their own, one of which is changed. -/
import Derived.Test.YtejehdmllicfcaaDoorBlk
import Derived.Test.YtejehdmllicfcaaDoorCut
import Derived.Test.YtejehdmllicfcaaDoorSumW
namespace Go.Proofs.YtejehdmllicfcaaDoor
open Go Go.RowKit

/-- Block g is just the cells cs of type t, frozen where fr says. -/
def BlkF (w : World) (g : Nat) (t : TypeId) (cs : List Value) (fr : Nat × Nat) : Prop := w.heap[g]? = some (.cells cs.toArray t fr)
theorem BlkF.cell {w : World} {g : Nat} {t : TypeId} {cs : List Value} {fr : Nat × Nat} (h : BlkF w g t cs fr) (i : Nat) : w.cell? ⟨g, i, none⟩ = cs[i]? := by
  simp [World.cell?, show w.heap[g]? = _ from h]
theorem BlkF.frozen {w : World} {g : Nat} {t : TypeId} {cs : List Value} {fr : Nat × Nat} (h : BlkF w g t cs fr) (i : Nat) (hi : i < fr.1) : w.frozen? ⟨g, i, none⟩ = false := by
  obtain ⟨lo, hi'⟩ := fr
  simp only at hi
  have : decide (lo ≤ i) = false := by simp; omega
  simp [World.frozen?, show w.heap[g]? = _ from h, this]
theorem BlkF.set {w : World} {g : Nat} {t : TypeId} {cs : List Value} {fr : Nat × Nat} (h : BlkF w g t cs fr) (i : Nat) (u : Value) : BlkF (w.setCell ⟨g, i, none⟩ u) g t (cs.set i u) fr := by
  obtain ⟨hlt, hk⟩ := Array.getElem?_eq_some_iff.1 h
  show (w.heap.modify g _)[g]? = _
  rw [Array.getElem?_eq_getElem (by rw [Array.size_modify]; exact hlt), Array.getElem_modify_self, hk]
  simp
theorem BlkF.drew {w : World} {g : Nat} {t : TypeId} {cs : List Value} {fr : Nat × Nat} (h : BlkF w g t cs fr) : BlkF w.drew g t cs fr := h
theorem BlkF.drewN {w : World} {g : Nat} {t : TypeId} {cs : List Value} {fr : Nat × Nat} (h : BlkF w g t cs fr) (n : Nat) : BlkF (w.drewN n) g t cs fr := h

theorem run_convert_blkF {P : Program} {w : World} {g cap : Nat} {t : TypeId} {l : List UInt8} {more : List Value} {fr : Nat × Nat} (src dst e : TypeId) (hs : P.underlying src = some (.slice e)) (he : P.underlying e = some (.int .u8)) (hd : P.underlying dst = some .string)
    (h : BlkF w g t (bv l ++ more) fr) : (convert src dst (.slice (some ⟨g, 0, none⟩) l.length cap)).run P w = .ok (.string ⟨l.toArray⟩) w := by
  refine run_convert_bytes_back w src dst e ⟨g, 0, none⟩ cap l hs he hd fun j hj => ?_
  have : (⟨g, 0, none⟩ : Addr).add j = ⟨g, j, none⟩ := by unfold Addr.add; split <;> simp_all
  rw [this, h.cell, List.getElem?_append_left (by simpa using hj)]
  simp [bv, hj]

theorem xor_bit (c : UInt8) (J : Nat) (hJ : J < 8) : bits BinOp.xor IntKind.u8 (c.toNat : Int) ((2 : Int) ^ J % 256) = ((UInt8.ofNat (c.toNat ^^^ 2 ^ J)).toNat : Int) := by
  have h2 : 2 ^ J ≤ 2 ^ 7 := Nat.pow_le_pow_right (by omega) (by omega)
  have e : (2 : Int) ^ J % 256 = ((2 ^ J : Nat) : Int) := by
    have : (2 : Int) ^ J = ((2 ^ J : Nat) : Int) := by rw [Int.natCast_pow]; rfl
    rw [this]
    generalize 2 ^ J = x at *
    omega
  have hlt : c.toNat ^^^ 2 ^ J < 2 ^ 8 := Nat.xor_lt_two_pow c.toNat_lt (by omega)
  rw [e, u8_xor_nat _ _ c.toNat_lt (by omega), UInt8.toNat_ofNat', Nat.mod_eq_of_lt hlt]

theorem xor_bit_nat (c : UInt8) (J : Nat) (hJ : J < 8) : (UInt8.ofNat (c.toNat ^^^ 2 ^ J)).toNat = c.toNat ^^^ 2 ^ J := by
  have h2 : 2 ^ J ≤ 2 ^ 7 := Nat.pow_le_pow_right (by omega) (by omega)
  have hlt : c.toNat ^^^ 2 ^ J < 2 ^ 8 := Nat.xor_lt_two_pow c.toNat_lt (by omega)
  rw [UInt8.toNat_ofNat', Nat.mod_eq_of_lt hlt]

theorem bytesRow_eq (s : ByteArray) (cap : Nat) : (bytesRow s cap).toList = bv s.data.toList ++ List.replicate (cap - s.size) (.int .u8 0) := by
  simp [bytesRow, bv]

theorem bv_set (l : List UInt8) (more : List Value) (k : Nat) (hk : k < l.length) (v : UInt8) : (bv l ++ more).set k (.int .u8 (v.toNat : Int)) = bv (l.set k v) ++ more := by
  rw [List.set_append_left _ _ (by simpa using hk)]
  simp [bv, List.map_set]

end Go.Proofs.YtejehdmllicfcaaDoor
