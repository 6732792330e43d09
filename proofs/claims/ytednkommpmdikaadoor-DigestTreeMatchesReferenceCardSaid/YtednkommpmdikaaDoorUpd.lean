/- Worlds that differ in one old block at most. -/
import Derived.Test.YtednkommpmdikaaDoorBlk
namespace Go.Proofs.YtednkommpmdikaaDoor
open Go Go.RowKit

/-- All that was there is as it was, but for block b. -/
structure Upd (b : Nat) (w w' : World) : Prop where
  os : w'.os = w.os
  tape : w'.tape = w.tape
  output : w'.output = w.output
  size : w.heap.size ≤ w'.heap.size
  block : ∀ k, k < w.heap.size → k ≠ b → w'.heap[k]? = w.heap[k]?

theorem Upd.refl (b : Nat) (w : World) : Upd b w w := ⟨rfl, rfl, rfl, Nat.le_refl _, fun _ _ _ => rfl⟩
theorem Upd.trans {b : Nat} {a c d : World} (h : Upd b a c) (k : Upd b c d) : Upd b a d :=
  ⟨k.os.trans h.os, k.tape.trans h.tape, k.output.trans h.output, Nat.le_trans h.size k.size, fun j hj hn => (k.block j (Nat.lt_of_lt_of_le hj h.size) hn).trans (h.block j hj hn)⟩
theorem Upd.of_below {b : Nat} {w w' : World} (h : Below w.heap.size w w') : Upd b w w' := ⟨h.os, h.tape, h.output, h.size, fun k hk _ => h.block k hk⟩
theorem Upd.setCell (b i : Nat) (w : World) (u : Value) : Upd b w (w.setCell ⟨b, i, none⟩ u) :=
  ⟨rfl, rfl, rfl, by simp [World.setCell], fun k _ hn => Below.heap_setCell w ⟨b, i, none⟩ u k hn⟩
theorem Upd.below {b B : Nat} {w w' : World} (h : Upd b w w') (hb : B ≤ b) (hw : B ≤ w.heap.size) : Below B w w' :=
  ⟨h.os, h.tape, h.output, h.size, fun k hk => h.block k (by omega) (by omega)⟩
theorem BlkIs.upd {w w' : World} {b g : Nat} {t : TypeId} {cs : List Value} (h : BlkIs w g t cs) (hu : Upd b w w') (hn : g ≠ b) : BlkIs w' g t cs := (hu.block g h.lt hn).trans h

end Go.Proofs.YtednkommpmdikaaDoor
