/- What binds: proofs and heads, plain. -/
import Derived.Test.YtheebajklnljdaaGreatDoorGc
namespace Go.Proofs.YtheebajklnljdaaGreatDoor

/-- two different strings at one place of two lists have one digest -/
def CollL (a b : List (List UInt8)) : Prop := ∃ (j : Nat) (x y : List UInt8), a[j]? = some x ∧ b[j]? = some y ∧ x ≠ y ∧ shaL x = shaL y
theorem CollL.cons {a b : List (List UInt8)} (x y : List UInt8) (h : CollL a b) : CollL (x :: a) (y :: b) := by
  obtain ⟨j, u, v, h1, h2, h3, h4⟩ := h
  exact ⟨j + 1, u, v, h1, h2, h3, h4⟩
theorem CollL.here {a b : List (List UInt8)} {x y : List UInt8} (h : x ≠ y) (e : shaL x = shaL y) : CollL (x :: a) (y :: b) := ⟨0, x, y, rfl, rfl, h, e⟩

/-- the law's way: the strings of which a digest is computed, and the value -/
def wayR (s : List UInt8) : List (List UInt8) → Nat → Nat → List (List UInt8) × List UInt8
  | [], _, _ => ([0 :: s], leafL s)
  | x :: r, n, i => if n ≤ 1 then ([0 :: s], leafL s) else
    if i < leftN n then ((1 :: ((wayR s r (leftN n) i).2 ++ x)) :: (wayR s r (leftN n) i).1, nodeL (wayR s r (leftN n) i).2 x)
    else ((1 :: (x ++ (wayR s r (n - leftN n) (i - leftN n)).2)) :: (wayR s r (n - leftN n) (i - leftN n)).1, nodeL x (wayR s r (n - leftN n) (i - leftN n)).2)

theorem wayR_val (s : List UInt8) : ∀ (r : List (List UInt8)) (n i : Nat) v, valR s r n i = some v → (wayR s r n i).2 = v
  | [], n, i, v, h => by
    unfold valR at h
    split at h
    · cases h; rfl
    · cases h
  | x :: r, n, i, v, h => by
    unfold valR at h
    split at h
    · cases h
    · rename_i hn
      rw [Option.map_eq_some_iff] at h
      obtain ⟨u, hu, rfl⟩ := h
      unfold wayR
      rw [if_neg hn]
      by_cases hk : leftN n ≤ i
      · rw [if_pos hk, if_pos hk] at hu
        rw [if_neg (by omega), decide_eq_true hk]
        show nodeL x _ = _
        rw [wayR_val s r _ _ u hu]
        rfl
      · rw [if_neg hk, if_neg hk] at hu
        rw [if_pos (by omega), decide_eq_false hk]
        show nodeL _ x = _
        rw [wayR_val s r _ _ u hu]
        rfl

theorem way_binding (s t : List UInt8) (hst : s ≠ t) : ∀ (p q : List (List UInt8)) (n i : Nat) v, (∀ x ∈ p, x.length = 32) → (∀ x ∈ q, x.length = 32) → valR s p n i = some v → valR t q n i = some v → CollL (wayR s p n i).1 (wayR t q n i).1
  | [], [], n, i, v, _, _, h1, h2 => by
    unfold valR at h1 h2
    split at h1
    · rw [if_pos ‹_›] at h2
      cases h1
      injection h2 with h2
      exact CollL.here (by intro h; injection h with _ h; exact hst h) h2.symm
    · cases h1
  | [], y :: q, n, i, v, _, _, h1, h2 => by
    unfold valR at h1 h2
    split at h1
    · rw [if_pos ‹_›] at h2; cases h2
    · cases h1
  | x :: p, [], n, i, v, _, _, h1, h2 => by
    unfold valR at h1 h2
    split at h1
    · cases h1
    · rw [if_neg ‹_›] at h2; cases h2
  | x :: p, y :: q, n, i, v, hp, hq, h1, h2 => by
    unfold valR at h1 h2
    by_cases hn : n ≤ 1
    · rw [if_pos hn] at h1; cases h1
    · rw [if_neg hn, Option.map_eq_some_iff] at h1 h2
      obtain ⟨u, hu, e1⟩ := h1
      obtain ⟨u', hu', e2⟩ := h2
      have l1 := valR_len _ _ _ _ _ hu
      have l2 := valR_len _ _ _ _ _ hu'
      have lx := hp x (by simp)
      have ly := hq y (by simp)
      rw [← e2] at e1
      unfold wayR
      rw [if_neg hn, if_neg hn]
      by_cases hk : leftN n ≤ i
      · rw [if_pos hk, if_pos hk] at hu hu'
        rw [if_neg (by omega), if_neg (by omega)]
        rw [decide_eq_true hk] at e1
        rw [wayR_val s p _ _ u hu, wayR_val t q _ _ u' hu']
        by_cases hd : x ++ u = y ++ u'
        · have hxy := List.append_inj hd (by omega)
          rw [← hxy.2] at hu'
          exact (way_binding s t hst p q _ _ u (fun z hz => hp z (by simp [hz])) (fun z hz => hq z (by simp [hz])) hu hu').cons _ _
        · exact CollL.here (by intro h; injection h with _ h; exact hd h) e1
      · rw [if_neg hk, if_neg hk] at hu hu'
        rw [if_pos (by omega), if_pos (by omega)]
        rw [decide_eq_false hk] at e1
        rw [wayR_val s p _ _ u hu, wayR_val t q _ _ u' hu']
        by_cases hd : u ++ x = u' ++ y
        · have hxy := List.append_inj hd (by omega)
          rw [← hxy.1] at hu'
          exact (way_binding s t hst p q _ _ u (fun z hz => hp z (by simp [hz])) (fun z hz => hq z (by simp [hz])) hu hu').cons _ _
        · exact CollL.here (by intro h; injection h with _ h; exact hd h) e1

/-- the law's sides -/
def sidesR (old : List UInt8) : List (List UInt8) → Nat → Nat → Bool → List (List UInt8) × List UInt8
  | [], _, _, _ => ([], old)
  | x :: r, m, n, whole => if n ≤ m then (if whole then ([], old) else ([], (x :: r).getLastD [])) else
    if m ≤ leftN n then ((1 :: ((sidesR old r m (leftN n) whole).2 ++ x)) :: (sidesR old r m (leftN n) whole).1, nodeL (sidesR old r m (leftN n) whole).2 x)
    else ((1 :: (x ++ (sidesR old r (m - leftN n) (n - leftN n) false).2)) :: (sidesR old r (m - leftN n) (n - leftN n) false).1, nodeL x (sidesR old r (m - leftN n) (n - leftN n) false).2)

theorem sidesR_val (old : List UInt8) : ∀ (r : List (List UInt8)) (m n : Nat) (b : Bool) v, bothR old r m n b = some v → (sidesR old r m n b).2 = v.2
  | [], m, n, b, v, h => by
    unfold bothR at h
    split at h
    · cases h
    · split at h
      · cases h; rfl
      · cases h
  | x :: r, m, n, b, v, h => by
    unfold bothR at h
    unfold sidesR
    by_cases hmn : m < n
    · rw [if_pos hmn, Option.map_eq_some_iff] at h
      obtain ⟨u, hu, rfl⟩ := h
      rw [if_neg (by omega)]
      by_cases hk : leftN n < m
      · rw [if_pos hk, if_pos hk, decide_eq_true hk, Bool.not_true, Bool.and_false] at hu
        rw [if_neg (by omega)]
        simp only [decide_eq_true hk]
        rw [sidesR_val old r _ _ _ u hu]
        rfl
      · rw [if_neg hk, if_neg hk, decide_eq_false hk, Bool.not_false, Bool.and_true] at hu
        rw [if_pos (by omega)]
        simp only [decide_eq_false hk]
        rw [sidesR_val old r _ _ _ u hu]
        rfl
    · rw [if_neg hmn] at h
      rw [if_pos (by omega)]
      cases b with
      | true => cases h
      | false =>
        simp only [Bool.false_eq_true, if_false] at h ⊢
        split at h
        · rename_i hr
          cases h
          subst hr
          rfl
        · cases h

theorem bothR_len (old : List UInt8) (ho : old.length = 32) : ∀ (r : List (List UInt8)) (m n : Nat) (b : Bool) v, (∀ x ∈ r, x.length = 32) → bothR old r m n b = some v → v.1.length = 32 ∧ v.2.length = 32
  | [], m, n, b, v, _, h => by
    unfold bothR at h
    split at h
    · cases h
    · split at h
      · cases h; exact ⟨ho, ho⟩
      · cases h
  | x :: r, m, n, b, v, hr, h => by
    unfold bothR at h
    by_cases hmn : m < n
    · rw [if_pos hmn, Option.map_eq_some_iff] at h
      obtain ⟨u, hu, rfl⟩ := h
      have := bothR_len old ho r _ _ _ u (fun z hz => hr z (by simp [hz])) hu
      refine ⟨?_, stepL_len _ _⟩
      dsimp only
      split
      · exact stepL_len _ _
      · exact this.1
    · rw [if_neg hmn] at h
      split at h
      · cases h
      · split at h
        · cases h; exact ⟨hr x (by simp), hr x (by simp)⟩
        · cases h

theorem side_binding (a b : List UInt8) (ha : a.length = 32) (hb : b.length = 32) : ∀ (p q : List (List UInt8)) (m n : Nat) (w : Bool) (u v : List UInt8 × List UInt8), (∀ x ∈ p, x.length = 32) → (∀ x ∈ q, x.length = 32) →
    bothR a p m n w = some u → bothR b q m n w = some v → u.2 = v.2 → CollL (sidesR a p m n w).1 (sidesR b q m n w).1 ∨ u.1 = v.1
  | p, q, m, n, w, u, v, hp, hq, h1, h2, he => by
    by_cases hmn : m < n
    · match p, q with
      | [], _ => unfold bothR at h1; rw [if_pos hmn] at h1; cases h1
      | _ :: _, [] => unfold bothR at h2; rw [if_pos hmn] at h2; cases h2
      | x :: p, y :: q =>
        unfold bothR at h1 h2
        rw [if_pos hmn, Option.map_eq_some_iff] at h1 h2
        obtain ⟨u1, hu, rfl⟩ := h1
        obtain ⟨v1, hv, rfl⟩ := h2
        have lx := hp x (by simp)
        have ly := hq y (by simp)
        have hp' : ∀ z ∈ p, z.length = 32 := fun z hz => hp z (by simp [hz])
        have hq' : ∀ z ∈ q, z.length = 32 := fun z hz => hq z (by simp [hz])
        have l1 := (bothR_len a ha p _ _ _ u1 hp' hu).2
        have l2 := (bothR_len b hb q _ _ _ v1 hq' hv).2
        have hnm : ¬ n ≤ m := by omega
        unfold sidesR
        rw [if_neg hnm, if_neg hnm]
        by_cases hk : leftN n < m
        · rw [if_pos hk, if_pos hk, decide_eq_true hk, Bool.not_true, Bool.and_false] at hu hv
          have hk2 : ¬ m ≤ leftN n := by omega
          rw [if_neg hk2, if_neg hk2]
          simp only [decide_eq_true hk, if_pos hk] at he ⊢
          rw [sidesR_val a p _ _ _ u1 hu, sidesR_val b q _ _ _ v1 hv]
          by_cases hd : x ++ u1.2 = y ++ v1.2
          · have hxy := List.append_inj hd (by omega)
            rcases side_binding a b ha hb p q _ _ _ u1 v1 hp' hq' hu hv hxy.2 with h | h
            · exact .inl (h.cons _ _)
            · right; rw [h, hxy.1]
          · exact .inl (CollL.here (by intro h; injection h with _ h; exact hd h) he)
        · rw [if_neg hk, if_neg hk, decide_eq_false hk, Bool.not_false, Bool.and_true] at hu hv
          have hk2 : m ≤ leftN n := by omega
          rw [if_pos hk2, if_pos hk2]
          simp only [decide_eq_false hk, if_neg hk] at he ⊢
          rw [sidesR_val a p _ _ _ u1 hu, sidesR_val b q _ _ _ v1 hv]
          by_cases hd : u1.2 ++ x = v1.2 ++ y
          · have hxy := List.append_inj hd (by omega)
            rcases side_binding a b ha hb p q _ _ _ u1 v1 hp' hq' hu hv hxy.1 with h | h
            · exact .inl (h.cons _ _)
            · exact .inr h
          · exact .inl (CollL.here (by intro h; injection h with _ h; exact hd h) he)
    · right
      have e1 : u.1 = u.2 := by
        cases p with
        | nil =>
          unfold bothR at h1
          rw [if_neg hmn] at h1
          split at h1
          · cases h1; rfl
          · cases h1
        | cons x p =>
          unfold bothR at h1
          rw [if_neg hmn] at h1
          split at h1
          · cases h1
          · split at h1
            · cases h1; rfl
            · cases h1
      have e2 : v.1 = v.2 := by
        cases q with
        | nil =>
          unfold bothR at h2
          rw [if_neg hmn] at h2
          split at h2
          · cases h2; rfl
          · cases h2
        | cons x p =>
          unfold bothR at h2
          rw [if_neg hmn] at h2
          split at h2
          · cases h2
          · split at h2
            · cases h2; rfl
            · cases h2
      rw [e1, e2, he]
  termination_by p => p.length

/-- the head of a list of records, and the strings of which its digests are computed, the last one first -/
def headL : List (List UInt8) → List UInt8 → List UInt8
  | [], h => h
  | x :: l, h => headL l (chainL h x)
def headsL (h0 : List UInt8) : List (List UInt8) → List (List UInt8) × List UInt8
  | [] => ([], h0)
  | x :: r => ((2 :: ((headsL h0 r).2 ++ x)) :: (headsL h0 r).1, chainL (headsL h0 r).2 x)
theorem headsL_len (h0 : List UInt8) (h : h0.length = 32) : ∀ r, (headsL h0 r).2.length = 32
  | [] => h
  | _ :: _ => rfl
theorem headsL_count (h0 : List UInt8) : ∀ r, (headsL h0 r).1.length = r.length
  | [] => rfl
  | _ :: r => congrArg (· + 1) (headsL_count h0 r)

/-- a and b (the last record first): the same list, or two strings collide, or the longer one's string behind the shorter has h0 as its digest -/
theorem head_binding (h0 : List UInt8) (hl : h0.length = 32) : ∀ (a b : List (List UInt8)), (headsL h0 a).2 = (headsL h0 b).2 →
    a = b ∨ CollL (headsL h0 a).1 (headsL h0 b).1 ∨ (b.length < a.length ∧ ∃ z, (headsL h0 a).1[b.length]? = some z ∧ shaL z = h0) ∨ (a.length < b.length ∧ ∃ z, (headsL h0 b).1[a.length]? = some z ∧ shaL z = h0)
  | [], [], _ => .inl rfl
  | x :: a, [], h => .inr (.inr (.inl ⟨by simp, _, rfl, h⟩))
  | [], y :: b, h => .inr (.inr (.inr ⟨by simp, _, rfl, h.symm⟩))
  | x :: a, y :: b, h => by
    by_cases hd : (headsL h0 a).2 ++ x = (headsL h0 b).2 ++ y
    · have l1 := headsL_len h0 hl a
      have l2 := headsL_len h0 hl b
      have hxy := List.append_inj hd (by omega)
      rcases head_binding h0 hl a b hxy.1 with h | h | ⟨h1, z, h2, h3⟩ | ⟨h1, z, h2, h3⟩
      · left; rw [h, hxy.2]
      · right; left; exact h.cons _ _
      · right; right; left; exact ⟨by simpa using h1, z, by simpa [headsL] using h2, h3⟩
      · right; right; right; exact ⟨by simpa using h1, z, by simpa [headsL] using h2, h3⟩
    · right; left
      exact CollL.here (by intro h; injection h with _ h; exact hd h) h
end Go.Proofs.YtheebajklnljdaaGreatDoor
