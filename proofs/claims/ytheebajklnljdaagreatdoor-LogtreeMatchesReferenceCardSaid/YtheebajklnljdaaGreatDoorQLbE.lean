/- What binds a log's heads, plain. -/
import Derived.Test.YtheebajklnljdaaGreatDoorGs
import Derived.Test.YtheebajklnljdaaGreatDoorGl
namespace Go.Proofs.YtheebajklnljdaaGreatDoor

theorem proofL_le' : ∀ (f : Nat) (l : List (List UInt8)) (i : Nat), l.length ≤ f → (proofL l i).length ≤ l.length
  | 0, l, i, h => by rw [proofL_one l i (by omega)]; simp
  | f + 1, l, i, h => by
    by_cases h1 : l.length ≤ 1
    · rw [proofL_one l i h1]; simp
    · have hl := leftN_lt l.length (by omega)
      have hp := leftN_pos l.length
      by_cases hi : i < leftN l.length
      · have ih := proofL_le' f (l.take (leftN l.length)) i (by rw [List.length_take]; omega)
        rw [proofL_left l i (by omega) hi, List.length_append, List.length_singleton]
        rw [List.length_take] at ih
        omega
      · have ih := proofL_le' f (l.drop (leftN l.length)) (i - leftN l.length) (by rw [List.length_drop]; omega)
        rw [proofL_right l i (by omega) (by omega), List.length_append, List.length_singleton]
        rw [List.length_drop] at ih
        omega

theorem encHd_inj {g h : Hd} (hg : hdB g = true) (hh : hdB h = true) (e : encHd g = encHd h) : g = h := by
  have h1 := decA_enc hg
  have h2 := decA_enc hh
  rw [e, h2] at h1
  exact (Prod.mk.inj h1).1.symm

theorem verA_parts {root : List UInt8} {n : Nat} {g : Hd} {O : List (List UInt8)} (h : verA root n g O = true) : (∀ x ∈ O, x.length = 32) ∧ valR (encHd g) O.reverse (n + 1) g.pos.toNat = some root := by
  unfold verA verB at h
  simp only [Bool.and_eq_true, decide_eq_true_eq, List.all_eq_true, beq_iff_eq] at h
  obtain ⟨_, ⟨_, h3⟩, h4⟩ := h
  refine ⟨h3, ?_⟩
  rw [← h4]
  congr 1

theorem bind_law {x : Lg} (good : Good x) {n p : Nat} (hn : x.recs.length = n) {h : Hd} (hh : x.heads[p]? = some h) (g : Hd) (hg : hdB g = true) (hgp : g.pos = h.pos) (O : List (List UInt8)) :
    (verA (rootA x) n g O = false → g = h → O ≠ proofL (leavesL x) p) ∧
    (verA (rootA x) n g O = true → g ≠ h → collA (preL (encHd h) (proofL (leavesL x) p).reverse (n + 1) p) (preL (encHd g) O.reverse (n + 1) p) = true) := by
  obtain ⟨hb, hp⟩ := good.head p h hh
  have hlt := (List.getElem?_eq_some_iff.1 hh).1
  have hlen := good.len
  have hsm := good.small
  have hll := leavesL_len x
  have hleaf : (leavesL x)[p]? = some (encHd h) := by unfold leavesL; rw [List.getElem?_map, hh]; rfl
  have hl1 : (leavesL x).length = n + 1 := by omega
  have hval := proofL_ok (leavesL x).length (leavesL x) p (encHd h) (Nat.le_refl _) hleaf
  have h32 := proofL_len32 (leavesL x).length (leavesL x) p (Nat.le_refl _)
  rw [hl1] at hval
  have hpt : h.pos.toNat = p := by omega
  constructor
  · rintro hf rfl rfl
    have : verA (rootA x) n g (proofL (leavesL x) p) = true := by
      unfold verA verB
      rw [hb, decide_eq_true (show g.pos ≤ (n : Int) by omega), decide_eq_true (show (n : Int) ≤ 10000 by omega), decide_eq_true (show 0 ≤ g.pos ∧ g.pos < (n : Int) + 1 by omega), hpt, show ((n : Int) + 1).toNat = n + 1 by omega, hval]
      simp only [Bool.true_and, Bool.and_eq_true, List.all_eq_true, decide_eq_true_eq]
      exact ⟨h32, by simp [rootA]⟩
    rw [this] at hf; cases hf
  · intro ht hne
    obtain ⟨o32, ov⟩ := verA_parts ht
    rw [hgp, hpt] at ov
    have hne2 : encHd h ≠ encHd g := fun e => hne (encHd_inj hg hb e.symm)
    exact collA_of (way_binding (encHd h) (encHd g) hne2 (proofL (leavesL x) p).reverse O.reverse (n + 1) p (rootA x) (fun y hy => h32 y (List.mem_reverse.1 hy)) (fun y hy => o32 y (List.mem_reverse.1 hy)) hval ov)
end Go.Proofs.YtheebajklnljdaaGreatDoor
