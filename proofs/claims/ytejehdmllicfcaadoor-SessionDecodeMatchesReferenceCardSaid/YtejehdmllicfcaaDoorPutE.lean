/- PutInt at every integer, and the reference's. -/
import Derived.Test.YtejehdmllicfcaaDoorRIntW
namespace Go.Proofs.YtejehdmllicfcaaDoor
open Go Go.RowKit

/-- what PutInt returns -/
def putA (n : Int) : List UInt8 := if n < -4611686018427387903 ∨ 4611686018427387903 < n then [] else putL n
def putE (n : Int) : Int := if n < -4611686018427387903 ∨ 4611686018427387903 < n then 10 else 0

theorem putInt_all (n : Int) (w : World) :
    Calls Tryd.prog 22 #[.int .i64 n] w fun e w' => e = .returned (.tuple #[.string ⟨(putA n).toArray⟩, .int .i64 (putE n)]) ∧ Below w.heap.size w w' := by
  unfold putA putE
  by_cases h : n < -4611686018427387903 ∨ 4611686018427387903 < n
  · rw [if_pos h, if_pos h]
    exact (putInt_bad n h w).mono fun e w' ⟨he, hw⟩ => ⟨he, hw ▸ Below.refl _ _⟩
  · rw [if_neg h, if_neg h]
    exact putInt_ok n (by omega) (by omega) w

theorem rPutInt_all (n : Int) (w : World) :
    Calls Tryd.prog 33 #[.int .i64 n] w fun e w' => e = .returned (.tuple #[.string ⟨(putA n).toArray⟩, .int .i64 (putE n)]) ∧ Below w.heap.size w w' := by
  unfold putA putE
  by_cases h : n < -4611686018427387903 ∨ 4611686018427387903 < n
  · rw [if_pos h, if_pos h]
    exact (rPutInt_bad n h w).mono fun e w' ⟨he, hw⟩ => ⟨he, hw ▸ Below.refl _ _⟩
  · rw [if_neg h, if_neg h]
    exact rPutInt_ok n (by omega) (by omega) w

end Go.Proofs.YtejehdmllicfcaaDoor
