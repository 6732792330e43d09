/- Joined: Blk Upd. -/
import Derived.Test.YtgbemgndbemllaaGreatDoorGa
import Derived.Deep.OwnRows
import Derived.Deep.Draws

section
/- A block that is known whole. -/
namespace Go.Proofs.YtgbemgndbemllaaGreatDoor
open Go Go.RowKit

/-- Block g is just the cells cs of type t, none of them frozen. -/
def BlkIs (w : World) (g : Nat) (t : TypeId) (cs : List Value) : Prop := w.heap[g]? = some (.cells cs.toArray t (0, 0))

theorem BlkIs.lt {w : World} {g : Nat} {t : TypeId} {cs : List Value} (h : BlkIs w g t cs) : g < w.heap.size := (Array.getElem?_eq_some_iff.1 h).1
theorem BlkIs.cell {w : World} {g : Nat} {t : TypeId} {cs : List Value} (h : BlkIs w g t cs) (i : Nat) : w.cell? ⟨g, i, none⟩ = cs[i]? := by
  simp [World.cell?, show w.heap[g]? = _ from h]
theorem BlkIs.frozen {w : World} {g : Nat} {t : TypeId} {cs : List Value} (h : BlkIs w g t cs) (i : Nat) : w.frozen? ⟨g, i, none⟩ = false := by
  simp [World.frozen?, show w.heap[g]? = _ from h]
theorem BlkIs.new (w : World) (t : TypeId) (cs : Array Value) : BlkIs (w.alloc (.cells cs t)) w.heap.size t cs.toList := World.alloc_heap_new w _
theorem BlkIs.alloc {w : World} {g : Nat} {t : TypeId} {cs : List Value} (h : BlkIs w g t cs) (o : Obj) : BlkIs (w.alloc o) g t cs := (Below.heap_alloc w o g h.lt).trans h
theorem BlkIs.drew {w : World} {g : Nat} {t : TypeId} {cs : List Value} (h : BlkIs w g t cs) : BlkIs w.drew g t cs := h
theorem BlkIs.drewN {w : World} {g : Nat} {t : TypeId} {cs : List Value} (h : BlkIs w g t cs) (n : Nat) : BlkIs (w.drewN n) g t cs := h
theorem BlkIs.below {w w' : World} {B g : Nat} {t : TypeId} {cs : List Value} (h : BlkIs w g t cs) (hb : Below B w w') (hg : g < B) : BlkIs w' g t cs := (hb.block g hg).trans h
theorem BlkIs.later {w w' : World} {g : Nat} {t : TypeId} {cs : List Value} (h : BlkIs w g t cs) (hb : Below w.heap.size w w') : BlkIs w' g t cs := h.below hb h.lt
theorem BlkIs.set {w : World} {g : Nat} {t : TypeId} {cs : List Value} (h : BlkIs w g t cs) (i : Nat) (u : Value) : BlkIs (w.setCell ⟨g, i, none⟩ u) g t (cs.set i u) := by
  obtain ⟨hlt, hk⟩ := Array.getElem?_eq_some_iff.1 h
  show (w.heap.modify g _)[g]? = _
  rw [Array.getElem?_eq_getElem (by rw [Array.size_modify]; exact hlt), Array.getElem_modify_self, hk]
  simp
theorem BlkIs.other {w : World} {g : Nat} {t : TypeId} {cs : List Value} (h : BlkIs w g t cs) {p : Addr} (hp : g ≠ p.block) (u : Value) : BlkIs (w.setCell p u) g t cs :=
  (Below.heap_setCell w p u g hp).trans h

theorem madeCells_one (z : Value) (n : Nat) : madeCells #[z] n = (List.replicate n z).toArray := by
  apply Array.toList_inj.1
  apply List.ext_getElem
  · simp [madeCells]
  · intro i h1 h2
    simp [madeCells, Nat.mod_one]

/-- string(b) of a slice over a block that holds the bytes l. -/
theorem run_convert_blk {P : Program} {w : World} {g cap : Nat} {t : TypeId} {l : List UInt8} {more : List Value} (src dst e : TypeId) (hs : P.underlying src = some (.slice e)) (he : P.underlying e = some (.int .u8)) (hd : P.underlying dst = some .string)
    (h : BlkIs w g t (bv l ++ more)) : (convert src dst (.slice (some ⟨g, 0, none⟩) l.length cap)).run P w = .ok (.string ⟨l.toArray⟩) w := by
  refine run_convert_bytes_back w src dst e ⟨g, 0, none⟩ cap l hs he hd fun j hj => ?_
  have : (⟨g, 0, none⟩ : Addr).add j = ⟨g, j, none⟩ := by unfold Addr.add; split <;> simp_all
  rw [this, h.cell, List.getElem?_append_left (by simpa using hj)]
  simp [bv, hj]

/-- the next cell of a row that is filled from the front -/
theorem fill_next {xs : List UInt8} {n k : Nat} (lx : xs.length = n) (hk : k < n) {v : UInt8} (hv : xs[k]? = some v) (z : Value) :
    (bv (xs.take k) ++ List.replicate (n - k) z).set k (.int .u8 (v.toNat : Int)) = bv (xs.take (k + 1)) ++ List.replicate (n - (k + 1)) z := by
  have e : (bv (xs.take k)).length = k := by rw [bv_length, List.length_take]; omega
  rw [List.set_append_right _ _ (by omega), e, Nat.sub_self, show n - k = (n - (k + 1)) + 1 by omega, List.replicate_succ, List.set_cons_zero,
    List.take_add_one, hv, bv_append]
  simp [bv]

theorem fill_here {xs : List UInt8} {n k : Nat} (lx : xs.length = n) (hk : k < n) (z : Value) : (bv (xs.take k) ++ List.replicate (n - k) z)[k]? = some z := by
  have e : (bv (xs.take k)).length = k := by rw [bv_length, List.length_take]; omega
  rw [List.getElem?_append_right (by omega), e, Nat.sub_self, List.getElem?_replicate, if_pos (by omega)]

end Go.Proofs.YtgbemgndbemllaaGreatDoor
end

section
/- Worlds that differ in one old block at most. -/
namespace Go.Proofs.YtgbemgndbemllaaGreatDoor
open Go Go.RowKit

/-- All that was there is as it was, but for block b. -/
structure Upd (b : Nat) (w w' : World) : Prop where
  os : w'.os = w.os
  tape : w'.tape = w.tape
  output : w'.output = w.output
  size : w.heap.size ≤ w'.heap.size
  block : ∀ k, k < w.heap.size → k ≠ b → w'.heap[k]? = w.heap[k]?

theorem Upd.refl (b : Nat) (w : World) : Upd b w w := ⟨rfl, rfl, rfl, Nat.le_refl _, fun _ _ _ => rfl⟩
theorem Upd.trans {b : Nat} {a c d : World} (h : Upd b a c) (k : Upd b c d) : Upd b a d :=
  ⟨k.os.trans h.os, k.tape.trans h.tape, k.output.trans h.output, Nat.le_trans h.size k.size, fun j hj hn => (k.block j (Nat.lt_of_lt_of_le hj h.size) hn).trans (h.block j hj hn)⟩
theorem Upd.of_below {b : Nat} {w w' : World} (h : Below w.heap.size w w') : Upd b w w' := ⟨h.os, h.tape, h.output, h.size, fun k hk _ => h.block k hk⟩
theorem Upd.setCell (b i : Nat) (w : World) (u : Value) : Upd b w (w.setCell ⟨b, i, none⟩ u) :=
  ⟨rfl, rfl, rfl, by simp [World.setCell], fun k _ hn => Below.heap_setCell w ⟨b, i, none⟩ u k hn⟩
theorem Upd.below {b B : Nat} {w w' : World} (h : Upd b w w') (hb : B ≤ b) (hw : B ≤ w.heap.size) : Below B w w' :=
  ⟨h.os, h.tape, h.output, h.size, fun k hk => h.block k (by omega) (by omega)⟩
theorem BlkIs.upd {w w' : World} {b g : Nat} {t : TypeId} {cs : List Value} (h : BlkIs w g t cs) (hu : Upd b w w') (hn : g ≠ b) : BlkIs w' g t cs := (hu.block g h.lt hn).trans h

end Go.Proofs.YtgbemgndbemllaaGreatDoor
end

