/- Slices that came in, as lists of cells. -/
import Derived.Test.YtednkommpmdikaaDoorOwn
namespace Go.Proofs.YtednkommpmdikaaDoor
open Go Go.RowKit

/-- A slice value that holds just these cells, one a place, all below the heap's end. -/
def SliceAt (w : World) (v : Value) (xs : List Value) : Prop :=
  ∃ A c, v = .slice A xs.length c ∧ xs.length ≤ c ∧ (0 < xs.length → ∃ ad, A = some ad ∧ ad.block < w.heap.size ∧ ∀ j u, xs[j]? = some u → w.cell? (ad.add j) = some u)

theorem block_add (a : Addr) (n : Nat) : (a.add n).block = a.block := by unfold Addr.add; split <;> rfl

theorem SliceAt.below {w w' : World} {v : Value} {xs : List Value} (h : SliceAt w v xs) (hb : Below w.heap.size w w') : SliceAt w' v xs := by
  obtain ⟨A, c, hv, hc, hx⟩ := h
  refine ⟨A, c, hv, hc, fun h0 => ?_⟩
  obtain ⟨ad, hA, hlt, hj⟩ := hx h0
  exact ⟨ad, hA, Nat.lt_of_lt_of_le hlt hb.size, fun j u hu => (hb.cell (p := ad.add j) (by rw [block_add]; exact hlt)).trans (hj j u hu)⟩

theorem block_of_cell {W : World} {a : Addr} {v : Value} (h : W.cell? a = some v) : a.block < W.heap.size := by
  obtain ⟨o, ho, _⟩ := cells_of_cell h
  exact (Array.getElem?_eq_some_iff.1 ho).1

theorem SliceAt.at_ {w : World} {A : Option Addr} {c n : Nat} {xs : List Value} (h : SliceAt w (.slice A n c) xs) {k : Nat} (hk : k < xs.length) :
    ∃ ad, A = some ad ∧ n = xs.length ∧ n ≤ c ∧ ∀ j u, xs[j]? = some u → w.cell? (ad.add j) = some u := by
  obtain ⟨A', c', hv, hc, hx⟩ := h
  injection hv with h1 h2 h3
  subst h1 h2 h3
  obtain ⟨ad, rfl, _, hj⟩ := hx (by omega)
  exact ⟨ad, rfl, rfl, hc, hj⟩

end Go.Proofs.YtednkommpmdikaaDoor
