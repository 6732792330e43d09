/- The tree over digests, plain. -/
import Derived.Test.YtednkommpmdikaaDoorShaP
namespace Go.Proofs.YtednkommpmdikaaDoor

def leafL (s : List UInt8) : List UInt8 := shaL (0 :: s)
def nodeL (a b : List UInt8) : List UInt8 := shaL (1 :: (a ++ b))
def chainL (h r : List UInt8) : List UInt8 := shaL (2 :: (h ++ r))

/-- the greatest power of two that is less than n (n at least 2) -/
def leftN (n : Nat) : Nat := 2 ^ (n - 1).log2

theorem leftN_lt (n : Nat) (h : 2 ≤ n) : leftN n < n := by
  have := Nat.log2_self_le (n := n - 1) (by omega)
  unfold leftN; omega
theorem leftN_pos (n : Nat) : 1 ≤ leftN n := Nat.one_le_two_pow
theorem leftN_ge (n : Nat) (h : 2 ≤ n) : n ≤ 2 * leftN n := by
  have : n - 1 < 2 ^ ((n - 1).log2 + 1) := Nat.lt_log2_self
  unfold leftN
  rw [Nat.pow_succ] at this
  omega
theorem leftN_eq (n k : Nat) (h1 : 2 ^ k < n) (h2 : n ≤ 2 ^ (k + 1)) : leftN n = 2 ^ k := by
  unfold leftN
  have : (n - 1).log2 = k := (Nat.log2_eq_iff (by omega)).2 ⟨by omega, by omega⟩
  rw [this]

/-- the root, by fuel -/
def rootF : Nat → List (List UInt8) → List UInt8
  | _, [] => shaL []
  | _, [a] => leafL a
  | 0, _ => []
  | f + 1, l => nodeL (rootF f (l.take (leftN l.length))) (rootF f (l.drop (leftN l.length)))
def rootL (l : List (List UInt8)) : List UInt8 := rootF l.length l

theorem rootF_fuel : ∀ (f g : Nat) (l : List (List UInt8)), l.length ≤ f → l.length ≤ g → rootF f l = rootF g l
  | f, g, [], _, _ => by simp [rootF]
  | f, g, [a], _, _ => by simp [rootF]
  | 0, _, a :: b :: t, h, _ => by simp at h
  | _ + 1, 0, a :: b :: t, _, h => by simp at h
  | f + 1, g + 1, a :: b :: t, h1, h2 => by
    simp only [rootF]
    have hl := leftN_lt (a :: b :: t).length (by simp)
    have hp := leftN_pos (a :: b :: t).length
    generalize leftN (a :: b :: t).length = k at *
    rw [rootF_fuel f g _ (by rw [List.length_take]; omega) (by rw [List.length_take]; omega), rootF_fuel f g _ (by rw [List.length_drop]; omega) (by rw [List.length_drop]; omega)]

theorem rootL_nil : rootL [] = shaL [] := rfl
theorem rootL_one (a : List UInt8) : rootL [a] = leafL a := rfl
theorem rootL_node (l : List (List UInt8)) (h : 2 ≤ l.length) : rootL l = nodeL (rootL (l.take (leftN l.length))) (rootL (l.drop (leftN l.length))) := by
  have hl := leftN_lt l.length h
  have hp := leftN_pos l.length
  match l, h with
  | a :: b :: t, _ =>
    show rootF ((b :: t).length + 1) (a :: b :: t) = _
    simp only [rootF]
    generalize hk : leftN (a :: b :: t).length = k at *
    unfold rootL
    simp only [List.length_cons] at *
    congr 1
    · exact rootF_fuel _ _ _ (by simp only [List.length_take, List.length_cons]; omega) (Nat.le_refl _)
    · exact rootF_fuel _ _ _ (by simp only [List.length_drop, List.length_cons]; omega) (Nat.le_refl _)

theorem rootL_cat (a b : List (List UInt8)) (k : Nat) (ha : a.length = 2 ^ k) (hb1 : 1 ≤ b.length) (hb2 : b.length ≤ 2 ^ k) : nodeL (rootL a) (rootL b) = rootL (a ++ b) := by
  have hp : 1 ≤ 2 ^ k := Nat.one_le_two_pow
  have hl : (a ++ b).length = 2 ^ k + b.length := by rw [List.length_append, ha]
  have hk : leftN (a ++ b).length = 2 ^ k := leftN_eq _ k (by omega) (by rw [Nat.pow_succ]; omega)
  rw [rootL_node (a ++ b) (by omega), hk, ← ha, List.take_left, List.drop_left]

/-- complete parts, each longer than the next -/
def Parts : List (List (List UInt8)) → Prop
  | [] => True
  | [p] => ∃ k, p.length = 2 ^ k
  | p :: q :: t => (∃ k, p.length = 2 ^ k) ∧ q.length < p.length ∧ Parts (q :: t)

/-- the same, but the last two may be of one size -/
def PartsE (ps : List (List (List UInt8))) : Prop := ∃ qs b, ps = qs ++ [b] ∧ (∃ k, b.length = 2 ^ k) ∧ Parts qs ∧ ∀ a, qs.getLast? = some a → b.length ≤ a.length

theorem Parts.pow : ∀ {ps : List (List (List UInt8))}, Parts ps → ∀ p ∈ ps, ∃ k, p.length = 2 ^ k
  | [p], h, q, hq => by simp at hq; subst hq; exact h
  | p :: q :: t, h, r, hr => by
    rcases List.mem_cons.1 hr with rfl | hr
    · exact h.1
    · exact Parts.pow h.2.2 r hr
theorem Parts.tail {p : List (List UInt8)} {t : List (List (List UInt8))} (h : Parts (p :: t)) : Parts t := by
  cases t with
  | nil => trivial
  | cons q t => exact h.2.2
theorem Parts.init : ∀ {ps : List (List (List UInt8))} {b : List (List UInt8)}, Parts (ps ++ [b]) → Parts ps
  | [], _, _ => trivial
  | [_], _, h => h.1
  | _ :: q :: t, _, h => ⟨h.1, h.2.1, Parts.init (ps := q :: t) h.2.2⟩
theorem Parts.snoc : ∀ {ps : List (List (List UInt8))} {b : List (List UInt8)}, Parts ps → (∃ k, b.length = 2 ^ k) → (∀ a, ps.getLast? = some a → b.length < a.length) → Parts (ps ++ [b])
  | [], _, _, hb, _ => hb
  | [p], _, h, hb, hl => ⟨h, hl p rfl, hb⟩
  | p :: q :: t, b, h, hb, hl => ⟨h.1, h.2.1, Parts.snoc (ps := q :: t) h.2.2 hb (fun a ha => hl a (by rw [List.getLast?_cons_cons]; exact ha))⟩
theorem Parts.last_lt : ∀ {ps : List (List (List UInt8))} {b : List (List UInt8)}, Parts (ps ++ [b]) → ∀ a, ps.getLast? = some a → b.length < a.length
  | [], _, _, a, ha => by simp at ha
  | [p], _, h, a, ha => by simp at ha; subst ha; exact h.2.1
  | p :: q :: t, b, h, a, ha => Parts.last_lt (ps := q :: t) h.2.2 a (by rw [List.getLast?_cons_cons] at ha; exact ha)

/-- The rest of the parts is shorter than the first one. -/
theorem Parts.sum : ∀ {p : List (List UInt8)} {t : List (List (List UInt8))}, Parts (p :: t) → t.flatten.length < p.length
  | p, [], ⟨k, hk⟩ => by simp [hk]; exact Nat.pos_of_ne_zero (fun h => by rw [h] at hk; have := Nat.one_le_two_pow (n := k); omega)
  | p, q :: t, ⟨⟨k, hk⟩, hl, hq⟩ => by
    have h1 := Parts.sum hq
    obtain ⟨j, hj⟩ := hq.pow q (by simp)
    rw [List.flatten_cons, List.length_append]
    have hjk : j < k := by
      apply Nat.lt_of_not_le; intro hle
      have := Nat.pow_le_pow_right (n := 2) (by omega) hle
      omega
    have : 2 ^ (j + 1) ≤ 2 ^ k := Nat.pow_le_pow_right (by omega) hjk
    rw [Nat.pow_succ] at this
    omega

/-- The parts' roots joined from the last on. -/
def joinR : List (List UInt8) → List UInt8
  | [] => shaL []
  | [a] => a
  | a :: t => nodeL a (joinR t)

theorem Parts.root : ∀ {ps : List (List (List UInt8))}, Parts ps → joinR (ps.map rootL) = rootL ps.flatten
  | [], _ => rfl
  | [p], _ => by simp [joinR]
  | p :: q :: t, h => by
    have ih := Parts.root h.2.2
    have hs := Parts.sum h
    obtain ⟨k, hk⟩ := h.1
    obtain ⟨j, hj⟩ := h.2.2.pow q (by simp)
    have := Nat.one_le_two_pow (n := j)
    show nodeL (rootL p) (joinR ((q :: t).map rootL)) = _
    rw [ih, rootL_cat p _ k hk (by rw [List.flatten_cons, List.length_append]; omega) (by omega)]
    rfl

/-- the fold that Root's last loop makes -/
theorem joinR_fold : ∀ (l : List (List UInt8)) (x : List UInt8), joinR (l ++ [x]) = l.reverse.foldl (fun o r => nodeL r o) x
  | [], x => rfl
  | [a], x => rfl
  | a :: b :: t, x => by
    have ih := joinR_fold (b :: t) x
    show nodeL a (joinR (b :: t ++ [x])) = _
    rw [ih, List.reverse_cons (a := a), List.foldl_append]
    rfl

/-- one merge -/
theorem Parts.merge {qs : List (List (List UInt8))} {a b : List (List UInt8)} (h : Parts (qs ++ [a])) (hab : b.length = a.length) : PartsE (qs ++ [a ++ b]) := by
  obtain ⟨k, hk⟩ := h.pow a (by simp)
  refine ⟨qs, a ++ b, rfl, ⟨k + 1, by rw [List.length_append, hab, hk, Nat.pow_succ]; omega⟩, h.init, ?_⟩
  intro c hc
  have h1 := h.last_lt c hc
  obtain ⟨j, hj⟩ := h.pow c (by
    have := List.mem_of_getLast? hc
    simp [this])
  have hkj : k < j := by
    apply Nat.lt_of_not_le; intro hle
    have := Nat.pow_le_pow_right (n := 2) (by omega) hle
    omega
  have : 2 ^ (k + 1) ≤ 2 ^ j := Nat.pow_le_pow_right (by omega) hkj
  rw [Nat.pow_succ] at this
  rw [List.length_append]; omega
theorem merge_root {qs : List (List (List UInt8))} {a b : List (List UInt8)} (h : Parts (qs ++ [a])) (hab : b.length = a.length) : nodeL (rootL a) (rootL b) = rootL (a ++ b) := by
  obtain ⟨k, hk⟩ := h.pow a (by simp)
  exact rootL_cat a b k hk (by have := Nat.one_le_two_pow (n := k); omega) (by omega)
/-- a new entry -/
theorem Parts.push {ps : List (List (List UInt8))} (h : Parts ps) (s : List UInt8) : PartsE (ps ++ [[s]]) := by
  refine ⟨ps, [s], rfl, ⟨0, rfl⟩, h, fun a ha => ?_⟩
  obtain ⟨k, hk⟩ := h.pow a (List.mem_of_getLast? ha)
  have := Nat.one_le_two_pow (n := k)
  simp; omega
end Go.Proofs.YtednkommpmdikaaDoor
