/- Verify and the extensions, plain. -/
import Derived.Test.YtednkommpmdikaaDoorTreeQ
namespace Go.Proofs.YtednkommpmdikaaDoor

theorem shaL_len (l : List UInt8) : (shaL l).length = 32 := rfl
theorem rootL_len : ∀ l : List (List UInt8), (rootL l).length = 32
  | [] => rfl
  | [_] => rfl
  | _ :: _ :: _ => rfl

/-- the whole's value, of a step (the other part's root, is it first) and the part's value -/
def stepL (x : List UInt8 × Bool) (part : List UInt8) : List UInt8 := if x.2 then nodeL x.1 part else nodeL part x.1
theorem stepL_len (x : List UInt8 × Bool) (p : List UInt8) : (stepL x p).length = 32 := by unfold stepL; split <;> rfl

/-- the value of a proof, of which the last string comes first here; none: refused -/
def valR (s : List UInt8) : List (List UInt8) → Nat → Nat → Option (List UInt8)
  | [], n, _ => if n ≤ 1 then some (leafL s) else none
  | x :: r, n, i => if n ≤ 1 then none else
    (valR s r (if leftN n ≤ i then n - leftN n else leftN n) (if leftN n ≤ i then i - leftN n else i)).map (stepL (x, decide (leftN n ≤ i)))

theorem valR_len (s : List UInt8) : ∀ (r : List (List UInt8)) (n i : Nat) v, valR s r n i = some v → v.length = 32
  | [], n, i, v, h => by
    unfold valR at h
    split at h
    · cases h; rfl
    · cases h
  | x :: r, n, i, v, h => by
    unfold valR at h
    split at h
    · cases h
    · rw [Option.map_eq_some_iff] at h
      obtain ⟨u, _, rfl⟩ := h
      exact stepL_len _ _

/-- the two values of an extension's proof, of which the last string comes first here; none: refused -/
def bothR (old : List UInt8) : List (List UInt8) → Nat → Nat → Bool → Option (List UInt8 × List UInt8)
  | [], m, n, whole => if m < n then none else if whole then some (old, old) else none
  | x :: r, m, n, whole =>
    if m < n then
      (bothR old r (if leftN n < m then m - leftN n else m) (if leftN n < m then n - leftN n else leftN n) (whole && !decide (leftN n < m))).map
        fun ab => (if leftN n < m then stepL (x, true) ab.1 else ab.1, stepL (x, decide (leftN n < m)) ab.2)
    else if whole then none else if r = [] then some (x, x) else none

/-- the proof that a list begins with m entries, by fuel -/
def partF : Nat → List (List UInt8) → Nat → Bool → List (List UInt8)
  | 0, l, _, whole => if whole then [] else [rootL l]
  | f + 1, l, m, whole => if l.length ≤ m then (if whole then [] else [rootL l]) else
    if leftN l.length < m then partF f (l.drop (leftN l.length)) (m - leftN l.length) false ++ [rootL (l.take (leftN l.length))]
    else partF f (l.take (leftN l.length)) m whole ++ [rootL (l.drop (leftN l.length))]
def partL (l : List (List UInt8)) (m : Nat) (whole : Bool) : List (List UInt8) := partF l.length l m whole

theorem partF_fuel : ∀ (f g : Nat) (l : List (List UInt8)) (m : Nat) (b : Bool), 1 ≤ m → l.length ≤ f → l.length ≤ g → partF f l m b = partF g l m b
  | 0, 0, _, _, _, _, _, _ => rfl
  | 0, g + 1, l, m, b, hm, h, _ => by simp [partF, show l.length ≤ m by omega]
  | f + 1, 0, l, m, b, hm, _, h => by simp [partF, show l.length ≤ m by omega]
  | f + 1, g + 1, l, m, b, hm, h1, h2 => by
    simp only [partF]
    by_cases h : l.length ≤ m
    · rw [if_pos h, if_pos h]
    · have hl := leftN_lt l.length (by omega)
      have hp := leftN_pos l.length
      rw [if_neg h, if_neg h]
      generalize leftN l.length = k at *
      by_cases hk : k < m
      · rw [if_pos hk, if_pos hk, partF_fuel f g _ (m - k) false (by omega) (by rw [List.length_drop]; omega) (by rw [List.length_drop]; omega)]
      · rw [if_neg hk, if_neg hk, partF_fuel f g _ m b hm (by rw [List.length_take]; omega) (by rw [List.length_take]; omega)]

theorem partL_all (l : List (List UInt8)) (m : Nat) (b : Bool) (h : l.length ≤ m) : partL l m b = if b then [] else [rootL l] := by
  unfold partL
  cases hl : l.length with
  | zero => rfl
  | succ n => simp [partF, h]
theorem partL_right (l : List (List UInt8)) (m : Nat) (b : Bool) (h : m < l.length) (hm : leftN l.length < m) : partL l m b = partL (l.drop (leftN l.length)) (m - leftN l.length) false ++ [rootL (l.take (leftN l.length))] := by
  have hp := leftN_pos l.length
  unfold partL
  obtain ⟨f, hf⟩ : ∃ f, l.length = f + 1 := ⟨l.length - 1, by omega⟩
  rw [show partF l.length l m b = partF (f + 1) l m b by rw [hf]]
  simp only [partF]
  rw [if_neg (by omega), if_pos hm, partF_fuel f _ _ _ _ (by omega) (by rw [List.length_drop]; omega) (Nat.le_refl _)]
theorem partL_left (l : List (List UInt8)) (m : Nat) (b : Bool) (h : m < l.length) (h1 : 1 ≤ m) (hm : ¬ leftN l.length < m) : partL l m b = partL (l.take (leftN l.length)) m b ++ [rootL (l.drop (leftN l.length))] := by
  have hl := leftN_lt l.length (by omega)
  unfold partL
  obtain ⟨f, hf⟩ : ∃ f, l.length = f + 1 := ⟨l.length - 1, by omega⟩
  rw [show partF l.length l m b = partF (f + 1) l m b by rw [hf]]
  simp only [partF]
  rw [if_neg (by omega), if_neg hm, partF_fuel f _ _ _ _ h1 (by rw [List.length_take]; omega) (Nat.le_refl _)]

/-- the proof that a list begins with m entries -/
def extL (l : List (List UInt8)) (m : Nat) : List (List UInt8) := if m = 0 then [] else partL l m true

theorem take_take' (l : List (List UInt8)) (a b : Nat) (h : a ≤ b) : (l.take b).take a = l.take a := by rw [List.take_take, Nat.min_eq_left h]
theorem rootL_split (l : List (List UInt8)) (m k : Nat) (hk : k = leftN l.length) (h1 : k < m) (hm : m ≤ l.length) :
    nodeL (rootL (l.take k)) (rootL ((l.drop k).take (m - k))) = rootL (l.take m) := by
  have hp := leftN_pos l.length
  have hlen : (l.take m).length = m := by rw [List.length_take]; omega
  have h2 : 2 ≤ l.length := by omega
  have hge := leftN_ge l.length h2
  have hl : leftN (l.take m).length = k := by
    rw [hlen, hk]
    exact leftN_eq m _ (by unfold leftN at hk; rw [← hk]; exact h1) (by rw [Nat.pow_succ]; unfold leftN at hge; omega)
  rw [rootL_node (l.take m) (by omega), hl, take_take' _ _ _ (by omega), List.drop_take]

/-- The proof of an extension is accepted (the values). -/
theorem partL_ok : ∀ (f : Nat) (l : List (List UInt8)) (m : Nat) (b : Bool) (old : List UInt8), l.length ≤ f → 1 ≤ m → m ≤ l.length → (b = true → old = rootL (l.take m)) →
    bothR old (partL l m b).reverse m l.length b = some (rootL (l.take m), rootL l)
  | 0, l, m, b, old, hf, h1, hm, _ => absurd (Nat.le_trans h1 (Nat.le_trans hm hf)) (by omega)
  | f + 1, l, m, b, old, hf, h1, hm, ho => by
    by_cases hml : m < l.length
    · have h2 : 2 ≤ l.length := by omega
      have hlt := leftN_lt l.length h2
      have hpos := leftN_pos l.length
      obtain ⟨k, hk⟩ : ∃ k, k = leftN l.length := ⟨_, rfl⟩
      by_cases hr : leftN l.length < m
      · rw [partL_right l m b hml hr, List.reverse_append, List.reverse_singleton, List.singleton_append]
        simp only [bothR]
        rw [if_pos hml, if_pos hr, if_pos hr]
        simp only [decide_eq_true hr, Bool.not_true, Bool.and_false]
        rw [← hk]
        have hd : (l.drop k).length = l.length - k := List.length_drop
        have ih := partL_ok f (l.drop k) (m - k) false old (by rw [hd]; omega) (by omega) (by rw [hd]; omega) (fun h => by cases h)
        rw [hd] at ih
        rw [ih]
        simp only [Option.map_some, stepL, if_true]
        rw [if_pos (hk ▸ hr), rootL_split l m k hk (hk ▸ hr) hm]
        have hn := rootL_node l h2
        rw [← hk] at hn
        rw [hn]
      · rw [partL_left l m b hml h1 hr, List.reverse_append, List.reverse_singleton, List.singleton_append]
        simp only [bothR]
        rw [if_pos hml, if_neg hr, if_neg hr]
        simp only [decide_eq_false hr, Bool.not_false, Bool.and_true]
        rw [← hk]
        have hd : (l.take k).length = k := by rw [List.length_take]; omega
        have htt : (l.take k).take m = l.take m := take_take' _ _ _ (by omega)
        have ih := partL_ok f (l.take k) m b old (by rw [hd]; omega) h1 (by rw [hd]; omega) (fun h => by rw [htt]; exact ho h)
        rw [hd, htt] at ih
        rw [ih]
        have hn := rootL_node l h2
        rw [← hk] at hn
        simp only [Option.map_some, stepL]
        rw [if_neg (hk ▸ hr), hn]
        rfl
    · have he : m = l.length := by omega
      rw [partL_all l m b (by omega)]
      have ht : l.take m = l := by rw [he, List.take_length]
      rw [ht] at ho ⊢
      cases b with
      | true =>
        simp only [if_true, List.reverse_nil, bothR]
        rw [if_neg hml, ho rfl]
      | false =>
        simp only [Bool.false_eq_true, if_false, List.reverse_singleton, bothR]
        rw [if_neg hml]
        rfl

/-- the proof of an entry is accepted (the value) -/
theorem proofL_ok : ∀ (f : Nat) (l : List (List UInt8)) (i : Nat) (s : List UInt8), l.length ≤ f → l[i]? = some s → valR s (proofL l i).reverse l.length i = some (rootL l)
  | 0, l, i, s, hf, h => by have := (List.getElem?_eq_some_iff.1 h).1; omega
  | f + 1, l, i, s, hf, h => by
    have hi := (List.getElem?_eq_some_iff.1 h).1
    by_cases h1 : l.length ≤ 1
    · rw [proofL_one l i h1]
      obtain ⟨a, rfl⟩ := List.length_eq_one_iff.1 (show l.length = 1 by omega)
      have hi0 : i = 0 := by simp at hi; omega
      subst hi0
      simp at h
      subst h
      rfl
    · have h2 : 2 ≤ l.length := by omega
      have hlt := leftN_lt l.length h2
      have hpos := leftN_pos l.length
      have hn := rootL_node l h2
      obtain ⟨k, hk⟩ : ∃ k, k = leftN l.length := ⟨_, rfl⟩
      by_cases hr : leftN l.length ≤ i
      · rw [proofL_right l i h2 hr, List.reverse_append, List.reverse_singleton, List.singleton_append]
        simp only [valR]
        rw [if_neg h1, if_pos hr, if_pos hr, ← hk]
        have hd : (l.drop k).length = l.length - k := List.length_drop
        have ih := proofL_ok f (l.drop k) (i - k) s (by rw [hd]; omega) (by rw [List.getElem?_drop, ← h]; congr 1; omega)
        rw [hd] at ih
        rw [ih]
        simp only [Option.map_some, stepL]
        rw [decide_eq_true (hk ▸ hr), hn, ← hk]
        rfl
      · rw [proofL_left l i h2 (by omega), List.reverse_append, List.reverse_singleton, List.singleton_append]
        simp only [valR]
        rw [if_neg h1, if_neg hr, if_neg hr, ← hk]
        have hd : (l.take k).length = k := by rw [List.length_take]; omega
        have ih := proofL_ok f (l.take k) i s (by rw [hd]; omega) (by rw [List.getElem?_take, if_pos (by omega), h])
        rw [hd] at ih
        rw [ih]
        simp only [Option.map_some, stepL]
        rw [decide_eq_false (hk ▸ hr), hn, ← hk]
        rfl

theorem proofL_len32 : ∀ (f : Nat) (l : List (List UInt8)) (i : Nat), l.length ≤ f → ∀ x ∈ proofL l i, x.length = 32
  | 0, l, i, hf, x, hx => by rw [proofL_one l i (by omega)] at hx; cases hx
  | f + 1, l, i, hf, x, hx => by
    by_cases h1 : l.length ≤ 1
    · rw [proofL_one l i h1] at hx; cases hx
    · have h2 : 2 ≤ l.length := by omega
      have hlt := leftN_lt l.length h2
      have hpos := leftN_pos l.length
      by_cases hr : leftN l.length ≤ i
      · rw [proofL_right l i h2 hr, List.mem_append, List.mem_singleton] at hx
        rcases hx with hx | rfl
        · exact proofL_len32 f _ _ (by rw [List.length_drop]; omega) x hx
        · exact rootL_len _
      · rw [proofL_left l i h2 (by omega), List.mem_append, List.mem_singleton] at hx
        rcases hx with hx | rfl
        · exact proofL_len32 f _ _ (by rw [List.length_take]; omega) x hx
        · exact rootL_len _
theorem partL_len32 : ∀ (f : Nat) (l : List (List UInt8)) (m : Nat) (b : Bool), l.length ≤ f → 1 ≤ m → ∀ x ∈ partL l m b, x.length = 32
  | f, l, m, b, hf, h1, x, hx => by
    by_cases hml : m < l.length
    · match f, hf with
      | 0, hf => omega
      | f + 1, hf =>
        have h2 : 2 ≤ l.length := by omega
        have hlt := leftN_lt l.length h2
        have hpos := leftN_pos l.length
        by_cases hr : leftN l.length < m
        · rw [partL_right l m b hml hr, List.mem_append, List.mem_singleton] at hx
          rcases hx with hx | rfl
          · exact partL_len32 f _ _ _ (by rw [List.length_drop]; omega) (by omega) x hx
          · exact rootL_len _
        · rw [partL_left l m b hml h1 hr, List.mem_append, List.mem_singleton] at hx
          rcases hx with hx | rfl
          · exact partL_len32 f _ _ _ (by rw [List.length_take]; omega) h1 x hx
          · exact rootL_len _
    · rw [partL_all l m b (by omega)] at hx
      cases b with
      | true => cases hx
      | false => simp at hx; subst hx; exact rootL_len _
theorem extL_len32 (l : List (List UInt8)) (m : Nat) : ∀ x ∈ extL l m, x.length = 32 := by
  intro x hx
  unfold extL at hx
  split at hx
  · cases hx
  · exact partL_len32 l.length l m true (Nat.le_refl _) (by omega) x hx

/-- the number of binary digits -/
def binN (n : Nat) : Nat := if n = 0 then 0 else n.log2 + 1
/-- how deep the tree over n entries is at most -/
theorem partL_short : ∀ (f : Nat) (l : List (List UInt8)) (m : Nat) (b : Bool) (d : Nat), l.length ≤ f → 1 ≤ m → l.length ≤ 2 ^ d → (partL l m b).length ≤ d + 1
  | f, l, m, b, d, hf, h1, hd => by
    by_cases hml : m < l.length
    · match f, hf with
      | 0, hf => omega
      | f + 1, hf =>
        have h2 : 2 ≤ l.length := by omega
        have hlt := leftN_lt l.length h2
        have hpos := leftN_pos l.length
        have hge := leftN_ge l.length h2
        obtain ⟨e, rfl⟩ : ∃ e, d = e + 1 := ⟨d - 1, by
          cases d with
          | zero => simp at hd; omega
          | succ e => rfl⟩
        have hke : leftN l.length ≤ 2 ^ e := by
          unfold leftN at hlt ⊢
          apply Nat.pow_le_pow_right (by omega)
          apply Nat.le_of_not_lt; intro h
          have := Nat.pow_le_pow_right (n := 2) (by omega) (show e + 1 ≤ (l.length - 1).log2 by omega)
          omega
        by_cases hr : leftN l.length < m
        · rw [partL_right l m b hml hr, List.length_append, List.length_singleton]
          have := partL_short f (l.drop (leftN l.length)) (m - leftN l.length) false e (by rw [List.length_drop]; omega) (by omega) (by rw [List.length_drop]; omega)
          omega
        · rw [partL_left l m b hml h1 hr, List.length_append, List.length_singleton]
          have := partL_short f (l.take (leftN l.length)) m b e (by rw [List.length_take]; omega) h1 (by rw [List.length_take]; omega)
          omega
    · rw [partL_all l m b (by omega)]
      cases b <;> simp
theorem extL_short (l : List (List UInt8)) (m : Nat) (hm : m ≤ l.length) : (extL l m).length ≤ 2 * binN l.length := by
  unfold extL
  split
  · simp
  · have h0 : l.length ≠ 0 := by omega
    have hb : binN l.length = l.length.log2 + 1 := by unfold binN; rw [if_neg h0]
    have hlt : l.length < 2 ^ (l.length.log2 + 1) := Nat.lt_log2_self
    have := partL_short l.length l m true (l.length.log2 + 1) (Nat.le_refl _) (by omega) (by omega)
    omega
end Go.Proofs.YtednkommpmdikaaDoor
