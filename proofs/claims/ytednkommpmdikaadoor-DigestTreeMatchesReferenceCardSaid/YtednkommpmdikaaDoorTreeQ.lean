/- Proofs and extensions of the tree, plain. -/
import Derived.Test.YtednkommpmdikaaDoorTreeP
namespace Go.Proofs.YtednkommpmdikaaDoor

/-- the proof of entry i, by fuel: the deepest part first -/
def proofF : Nat → List (List UInt8) → Nat → List (List UInt8)
  | 0, _, _ => []
  | f + 1, l, i => if l.length ≤ 1 then [] else
    if i < leftN l.length then proofF f (l.take (leftN l.length)) i ++ [rootL (l.drop (leftN l.length))]
    else proofF f (l.drop (leftN l.length)) (i - leftN l.length) ++ [rootL (l.take (leftN l.length))]
def proofL (l : List (List UInt8)) (i : Nat) : List (List UInt8) := proofF l.length l i

theorem proofF_fuel : ∀ (f g : Nat) (l : List (List UInt8)) (i : Nat), l.length ≤ f → l.length ≤ g → proofF f l i = proofF g l i
  | 0, 0, _, _, _, _ => rfl
  | 0, g + 1, l, i, h, _ => by simp [proofF, show l.length ≤ 1 by omega]
  | f + 1, 0, l, i, _, h => by simp [proofF, show l.length ≤ 1 by omega]
  | f + 1, g + 1, l, i, h1, h2 => by
    simp only [proofF]
    by_cases h : l.length ≤ 1
    · rw [if_pos h, if_pos h]
    · have hl := leftN_lt l.length (by omega)
      have hp := leftN_pos l.length
      rw [if_neg h, if_neg h]
      generalize leftN l.length = k at *
      rw [proofF_fuel f g _ i (by rw [List.length_take]; omega) (by rw [List.length_take]; omega), proofF_fuel f g _ (i - k) (by rw [List.length_drop]; omega) (by rw [List.length_drop]; omega)]

theorem proofL_one (l : List (List UInt8)) (i : Nat) (h : l.length ≤ 1) : proofL l i = [] := by
  unfold proofL
  cases hl : l.length with
  | zero => rfl
  | succ n => simp [proofF, hl, show n = 0 by omega]
theorem proofL_left (l : List (List UInt8)) (i : Nat) (h : 2 ≤ l.length) (hi : i < leftN l.length) : proofL l i = proofL (l.take (leftN l.length)) i ++ [rootL (l.drop (leftN l.length))] := by
  have hl := leftN_lt l.length h
  unfold proofL
  obtain ⟨f, hf⟩ : ∃ f, l.length = f + 1 := ⟨l.length - 1, by omega⟩
  rw [show proofF l.length l i = proofF (f + 1) l i by rw [hf]]
  simp only [proofF]
  rw [if_neg (by omega), if_pos hi, proofF_fuel f _ _ i (by rw [List.length_take]; omega) (Nat.le_refl _)]
theorem proofL_right (l : List (List UInt8)) (i : Nat) (h : 2 ≤ l.length) (hi : leftN l.length ≤ i) : proofL l i = proofL (l.drop (leftN l.length)) (i - leftN l.length) ++ [rootL (l.take (leftN l.length))] := by
  have hp := leftN_pos l.length
  unfold proofL
  obtain ⟨f, hf⟩ : ∃ f, l.length = f + 1 := ⟨l.length - 1, by omega⟩
  rw [show proofF l.length l i = proofF (f + 1) l i by rw [hf]]
  simp only [proofF]
  rw [if_neg (by omega), if_neg (by omega), proofF_fuel f _ _ _ (by rw [List.length_drop]; omega) (Nat.le_refl _)]
end Go.Proofs.YtednkommpmdikaaDoor
