/- Slices of steps (three cells an element). -/
import Derived.Test.YtejehdmllicfcaaDoorSesD
namespace Go.Proofs.YtejehdmllicfcaaDoor
open Go Go.RowKit

/-- one step -/
structure Step where
  w : Bool
  a : Int
  b : Int

/-- v is a slice of these steps, all below the heap's end -/
def StepsAt (w : World) (v : Value) (xs : List Step) : Prop :=
  ∃ A c, v = .slice A xs.length c ∧ xs.length ≤ c ∧ (0 < xs.length → ∃ ad, A = some ad ∧ ad.block < w.heap.size ∧ ∀ j x, xs[j]? = some x →
    w.cell? (ad.add (j * 3)) = some (.bool x.w) ∧ w.cell? (ad.add (j * 3 + 1)) = some (.int .i64 x.a) ∧ w.cell? (ad.add (j * 3 + 2)) = some (.int .i64 x.b))

theorem StepsAt.below {w w' : World} {v : Value} {xs : List Step} (h : StepsAt w v xs) (hb : Below w.heap.size w w') : StepsAt w' v xs := by
  obtain ⟨A, c, hv, hc, hx⟩ := h
  refine ⟨A, c, hv, hc, fun h0 => ?_⟩
  obtain ⟨ad, hA, hlt, hj⟩ := hx h0
  have hf : ∀ m, w'.cell? (ad.add m) = w.cell? (ad.add m) := fun m => hb.cell (p := ad.add m) (by rw [block_add]; exact hlt)
  refine ⟨ad, hA, Nat.lt_of_lt_of_le hlt hb.size, fun j u hu => ?_⟩
  rw [hf, hf, hf]
  exact hj j u hu

theorem add_field (ad : Addr) (m j : Nat) : ad.add (m + (j + 1)) = ⟨(ad.add m).block, (ad.add m).off + (j + 1), none⟩ := by
  unfold Addr.add
  rw [if_neg (by omega)]
  split
  · simp
  · simp only [Addr.mk.injEq, and_true, true_and]; omega

theorem StepsAt.at_ {w : World} {A : Option Addr} {c n : Nat} {xs : List Step} (h : StepsAt w (.slice A n c) xs) {k : Nat} {x : Step} (hx : xs[k]? = some x) :
    ∃ ad, A = some ad ∧ ad.block < w.heap.size ∧ w.cell? (ad.add (k * 3)) = some (.bool x.w) ∧ w.cell? ⟨(ad.add (k * 3)).block, (ad.add (k * 3)).off + 1, none⟩ = some (.int .i64 x.a) ∧
      w.cell? ⟨(ad.add (k * 3)).block, (ad.add (k * 3)).off + 2, none⟩ = some (.int .i64 x.b) := by
  obtain ⟨A', c', hv, hc, hj⟩ := h
  injection hv with h1 h2 h3
  subst h1 h2 h3
  have hk : k < xs.length := (List.getElem?_eq_some_iff.1 hx).1
  obtain ⟨ad, rfl, hl, hj⟩ := hj (by omega)
  have e1 := add_field ad (k * 3) 0
  have e2 := add_field ad (k * 3) 1
  have hj' := hj k x hx
  rw [e1, e2] at hj'
  exact ⟨ad, rfl, hl, hj'⟩

end Go.Proofs.YtejehdmllicfcaaDoor
