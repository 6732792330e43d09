/- Plain laws of a session's encoding: it is read back, what is read is an encoding, and one changed bit is noticed. -/
import Derived.Test.YtejehdmllicfcaaDoorSesP
import Derived.Test.YtejehdmllicfcaaDoorCrcR
namespace Go.Proofs.YtejehdmllicfcaaDoor

theorem tok_ok {t : Int} (h : TokS t) : IntOk t := by have h1 := h.1; have h2 := h.2; unfold IntOk; omega
theorem sum_ok (l : List UInt8) : IntOk (sumL l) := by have := sumL_lt l; unfold IntOk; omega

theorem decS_encS {t : Int} (h : TokS t) : decS (encS t) = (t, 0) := by
  have h1 : getInt (encS t) 0 = (t, (((putL t).length : Nat) : Int), 0) := by
    have := getInt_put (encS t) 0 t (tok_ok h) (putL (sumL (putL t))) rfl
    simpa using this
  have h2 := getInt_put (encS t) (putL t).length (sumL (putL t)) (sum_ok _) [] (by rw [encS, List.drop_left, List.append_nil])
  have hl : ((encS t).length : Int) = ((putL t).length : Nat) + ((putL (sumL (putL t))).length : Nat) := by rw [encS, List.length_append]; omega
  have ht : (encS t).take (putL t).length = putL t := by rw [encS, List.take_left]
  unfold decS
  rw [h1]
  simp only []
  rw [h2]
  simp only [Int.toNat_natCast, ht]
  rw [if_neg (by simp), if_neg (by omega), if_neg (by have := h.1; have := h.2; omega)]

theorem decS_ok {l : List UInt8} {t : Int} (h : decS l = (t, 0)) : TokS t ∧ encS t = l := by
  obtain ⟨n, x, e1, h1⟩ : ∃ n x e1, getInt l (0 : Int) = (n, x, e1) := ⟨_, _, _, rfl⟩
  obtain ⟨m, y, e2, h2⟩ : ∃ m y e2, getInt l x = (m, y, e2) := ⟨_, _, _, rfl⟩
  unfold decS at h
  rw [h1] at h
  simp only [] at h
  rw [h2] at h
  simp only [] at h
  by_cases k1 : e1 = 0
  · subst k1
    rw [if_neg (by simp)] at h
    by_cases k2 : e2 ≠ 0 ∨ y < l.length
    · rw [if_pos k2] at h; simp at h
    · rw [if_neg k2] at h
      by_cases k3 : m ≠ (sumL (l.take x.toNat) : Nat) ∨ ¬ (0 ≤ n ∧ n ≤ 10000)
      · rw [if_pos k3] at h; simp at h
      · rw [if_neg k3] at h
        simp only [Prod.mk.injEq, and_true] at h
        subst h
        have k2' : e2 = 0 := by omega
        subst k2'
        obtain ⟨o1, a1, a2, a3, r1, d1⟩ := getInt_ok _ _ _ _ h1
        obtain ⟨o2, b1, b2, b3, r2, d2⟩ := getInt_ok _ _ _ _ h2
        simp only [Int.toNat_zero, List.drop_zero] at d1
        have hx : x.toNat = (putL n).length := by omega
        have ht : l.take x.toNat = putL n := by rw [hx, d1, List.take_left]
        rw [ht] at k3
        have hm : m = (sumL (putL n) : Nat) := by omega
        rw [hx, d1, List.drop_left] at d2
        have hl := congrArg List.length d1
        have hr := congrArg List.length d2
        rw [List.length_append] at hl hr
        have hr2 : r2 = [] := List.eq_nil_of_length_eq_zero (by omega)
        subst hr2
        refine ⟨⟨by omega, by omega⟩, ?_⟩
        rw [encS, d1, d2, hm, List.append_nil]
  · rw [if_pos k1] at h
    simp at h

/-- where the first number of a string ends -/
def hd1 : List UInt8 → Nat
  | [] => 1
  | c :: l => if c.toNat < 128 then 1 else hd1 l + 1

theorem hd1_grp : ∀ (f y : Nat) (r : List UInt8), y < 2 ^ (7 * f) → 1 ≤ f → hd1 ((grp f y).map encB ++ r) = (grp f y).length
  | 0, _, _, _, h => absurd h (by omega)
  | f + 1, y, r, hy, _ => by
    unfold grp
    split
    · rename_i k
      have e := encB_nat (y, true) k
      simp only [if_true] at e
      simp only [List.map_cons, List.map_nil, List.cons_append, List.nil_append, hd1, e, if_pos k, List.length_cons, List.length_nil]
    · rename_i k
      have hf : 1 ≤ f := by
        rcases f with _ | f
        · simp at hy; omega
        · omega
      have e := encB_nat (y % 128, false) (by show y % 128 < 128; omega)
      simp only [Bool.false_eq_true, if_false] at e
      have ih := hd1_grp f (y / 128) r (by rw [pow7] at hy; omega) hf
      simp only [List.map_cons, List.cons_append, hd1, e, ih, List.length_cons]
      rw [if_neg (by omega)]

theorem hd1_put (n : Int) (h : IntOk n) (r : List UInt8) : hd1 (putL n ++ r) = (putL n).length := by
  have := hd1_grp 9 (zz n) r (by have := zz_lt n h.1 h.2; exact this) (by omega)
  unfold putL
  rw [this, List.length_map]

theorem hd1_set : ∀ (l : List UInt8) (j : Nat) (c v : UInt8), l[j]? = some c → (c.toNat < 128 ↔ v.toNat < 128) → hd1 (l.set j v) = hd1 l
  | [], _, _, _, h, _ => by simp at h
  | a :: l, 0, c, v, h, hv => by
    simp only [List.getElem?_cons_zero, Option.some.injEq] at h
    subst h
    simp only [List.set_cons_zero, hd1]
    by_cases k : a.toNat < 128
    · rw [if_pos k, if_pos (hv.1 k)]
    · rw [if_neg k, if_neg (fun x => k (hv.2 x))]
  | a :: l, j + 1, c, v, h, hv => by
    rw [List.getElem?_cons_succ] at h
    simp only [List.set_cons_succ, hd1, hd1_set l j c v h hv]

theorem hd1_clear : ∀ (l : List UInt8) (j : Nat) (v : UInt8), j < hd1 l → j < l.length → v.toNat < 128 → hd1 (l.set j v) = j + 1
  | [], _, _, _, h, _ => by simp at h
  | a :: l, 0, v, _, _, hv => by simp only [List.set_cons_zero, hd1, if_pos hv]
  | a :: l, j + 1, v, h, hl, hv => by
    simp only [hd1] at h
    split at h
    · omega
    · rename_i k
      simp only [List.set_cons_succ, hd1, if_neg k]
      rw [hd1_clear l j v (by omega) (by simpa using hl) hv]

theorem hd1_more : ∀ (l : List UInt8) (j : Nat) (c : UInt8), j < hd1 l → l[j]? = some c → 128 ≤ c.toNat → j + 1 < hd1 l
  | [], _, _, _, h, _ => by simp at h
  | a :: l, 0, c, _, h, hc => by
    simp only [List.getElem?_cons_zero, Option.some.injEq] at h
    subst h
    have : 0 < hd1 l := by cases l <;> simp only [hd1] <;> (try split) <;> omega
    simp only [hd1]
    rw [if_neg (by omega)]; omega
  | a :: l, j + 1, c, hj, h, hc => by
    rw [List.getElem?_cons_succ] at h
    simp only [hd1] at hj ⊢
    split at hj
    · omega
    · rename_i k
      have := hd1_more l j c (by omega) h hc
      rw [if_neg k]; omega

theorem hd1_up : ∀ (l : List UInt8) (j : Nat) (v : UInt8), j < hd1 l → 128 ≤ v.toNat → j < hd1 (l.set j v)
  | [], _, _, h, _ => h
  | a :: l, 0, v, _, hv => by
    simp only [List.set_cons_zero, hd1]
    split <;> omega
  | a :: l, j + 1, v, h, hv => by
    simp only [hd1] at h
    split at h
    · omega
    · rename_i k
      have := hd1_up l j v (by omega) hv
      simp only [List.set_cons_succ, hd1, if_neg k]
      omega

theorem grp_le : ∀ (k f z : Nat), z < 2 ^ (7 * k) → 1 ≤ k → (grp f z).length ≤ k
  | 0, _, _, _, h => absurd h (by omega)
  | _ + 1, 0, _, _, _ => by simp [grp]
  | k + 1, f + 1, z, hz, _ => by
    unfold grp
    split
    · simp
    · rename_i h
      have hk : 1 ≤ k := by
        rcases k with _ | k
        · simp at hz; omega
        · omega
      have := grp_le k f (z / 128) (by rw [pow7] at hz; omega) hk
      simp only [List.length_cons]; omega

theorem grp_ge : ∀ (k f z : Nat), k < f → 2 ^ (7 * k) ≤ z → k < (grp f z).length
  | _, 0, _, h, _ => absurd h (by omega)
  | 0, f + 1, z, _, _ => by
    have := List.length_pos_iff.2 (grp_pos (f + 1) z (by omega))
    exact this
  | k + 1, f + 1, z, h, hz => by
    rw [pow7] at hz
    have h1 : 0 < 2 ^ (7 * k) := Nat.pow_pos (by omega)
    unfold grp
    rw [if_neg (by omega)]
    have := grp_ge k f (z / 128) (by omega) (by omega)
    simp only [List.length_cons]; omega

theorem sum_len (l : List UInt8) : (putL (sumL l)).length ≤ 5 := by
  have := sumL_lt l
  unfold putL zz
  rw [if_neg (by omega), List.length_map]
  exact grp_le 5 9 _ (by omega) (by omega)

theorem sum_small {l : List UInt8} (h : (putL (sumL l)).length ≤ 4) : sumL l < 134217728 := by
  unfold putL zz at h
  rw [if_neg (by omega), List.length_map] at h
  rcases Nat.lt_or_ge (sumL l) 134217728 with h1 | h1
  · exact h1
  · have := grp_ge 4 9 (2 * (sumL l : Int)).toNat (by omega) (by omega)
    omega

theorem tok_len {t : Int} (h : TokS t) : (putL t).length ≤ 3 := by
  have := h.1
  have := h.2
  unfold putL zz
  rw [if_neg (by omega), List.length_map]
  exact grp_le 3 9 _ (by omega) (by omega)

/-- no token's encoding, of which the top bit of a byte of the first number is cleared, is one -/
def chk (t : Nat) : Bool :=
  decide (134217728 ≤ sumL (putL t)) || (decide ((putL t).length ≤ 1) || decide ((decS ((encS t).set 0 (UInt8.ofNat (((encS t).getD 0 0).toNat - 128)))).2 ≠ 0)) && (decide ((putL t).length ≤ 2) || decide ((decS ((encS t).set 1 (UInt8.ofNat (((encS t).getD 1 0).toNat - 128)))).2 ≠ 0))

theorem chk_all : ∀ a, a < 101 → ∀ b, b < 100 → chk (100 * a + b) = true := by decide +kernel

theorem flip_top {t u : Int} (ht : TokS t) (hu : TokS u) (j : Nat) (c v : UInt8) (hj : j < (putL t).length) (hc : (encS t)[j]? = some c) (hv : v.toNat + 128 = c.toNat) (e : encS u = (encS t).set j v) : False := by
  have hv8 : c.toNat < 256 := UInt8.toNat_lt c
  have h1 : hd1 (encS t) = (putL t).length := hd1_put t (tok_ok ht) _
  have h2 : hd1 (encS u) = (putL u).length := hd1_put u (tok_ok hu) _
  have hjl : j < (encS t).length := (List.getElem?_eq_some_iff.1 hc).1
  have h3 := hd1_clear (encS t) j v (by omega) hjl (by omega)
  rw [← e, h2] at h3
  have h4 := hd1_more (encS t) j c (by omega) hc (by omega)
  have h5 := congrArg List.length e
  rw [List.length_set, encS, encS, List.length_append, List.length_append] at h5
  have h6 := sum_len (putL u)
  have h7 := sum_small (l := putL t) (by omega)
  have h8 := tok_len ht
  obtain ⟨n, rfl⟩ := Int.eq_ofNat_of_zero_le ht.1
  have h9 := chk_all (n / 100) (by have := ht.2; omega) (n % 100) (by omega)
  rw [show 100 * (n / 100) + n % 100 = n by omega] at h9
  have hd := decS_encS hu
  rw [e] at hd
  have hvv : v = UInt8.ofNat (((encS (n : Int)).getD j 0).toNat - 128) := by
    rw [List.getD_eq_getElem?_getD, hc]
    apply UInt8.toNat_inj.1
    rw [UInt8.toNat_ofNat']
    simp only [Option.getD_some]
    omega
  rw [hvv] at hd
  unfold chk at h9
  rw [decide_eq_false (by omega), Bool.false_or, Bool.and_eq_true] at h9
  obtain ⟨g0, g1⟩ := h9
  have hj2 : j = 0 ∨ j = 1 := by omega
  rcases hj2 with rfl | rfl
  · rw [hd, decide_eq_false (by omega)] at g0
    simp at g0
  · rw [hd, decide_eq_false (by omega)] at g1
    simp at g1

theorem xor_top : ∀ c, c < 256 → ∀ m, m < 8 → (c ^^^ 2 ^ m ≠ c) ∧ ((c < 128 ↔ c ^^^ 2 ^ m < 128) ∨ (c ^^^ 2 ^ m) + 128 = c ∨ c + 128 = c ^^^ 2 ^ m) := by decide +kernel

/-- One changed bit is noticed. -/
theorem flip_bad {t : Int} (ht : TokS t) (k : Nat) (c v : UInt8) (hc : (encS t)[k / 8]? = some c) (hv : v.toNat = c.toNat ^^^ 2 ^ (k % 8)) : (decS ((encS t).set (k / 8) v)).2 ≠ 0 := by
  intro h0
  have hd : decS ((encS t).set (k / 8) v) = ((decS ((encS t).set (k / 8) v)).1, 0) := Prod.ext rfl h0
  obtain ⟨hu, e⟩ := decS_ok hd
  generalize (decS ((encS t).set (k / 8) v)).1 = u at hu e
  clear hd h0
  have hx := xor_top c.toNat (UInt8.toNat_lt c) (k % 8) (by omega)
  rw [← hv] at hx
  obtain ⟨hne, hx⟩ := hx
  have hkl : k / 8 < (encS t).length := (List.getElem?_eq_some_iff.1 hc).1
  have hcv : (encS u)[k / 8]? = some v := by rw [e, List.getElem?_set_self hkl]
  have hut : u ≠ t := by
    rintro rfl
    rw [hcv] at hc
    exact hne (by rw [Option.some.inj hc])
  rcases Nat.lt_or_ge (k / 8) (putL t).length with hk | hk
  · rcases hx with hx | hx | hx
    · have h1 : hd1 (encS t) = (putL t).length := hd1_put t (tok_ok ht) _
      have h2 : hd1 (encS u) = (putL u).length := hd1_put u (tok_ok hu) _
      have h3 := hd1_set (encS t) (k / 8) c v hc hx
      rw [← e, h1, h2] at h3
      have e2 := e
      rw [encS, encS, List.set_append_left _ _ hk] at e2
      obtain ⟨e3, e4⟩ := List.append_inj e2 (by rw [h3, List.length_set])
      have e5 : (sumL (putL u) : Int) = sumL (putL t) := putL_prefix _ _ (sum_ok _) (sum_ok _) [] [] (by rw [e4])
      have hc' : (putL t)[k / 8]? = some c := by
        rw [encS, List.getElem?_append_left hk] at hc; exact hc
      have h6 := crcReg_flip (putL t) k (by omega) v c hc' hv 4294967295
      have h7 := (sumL_burst (putL t) (flip (putL t) k v) 1 (8 * (putL t).length - k) 1 (by omega) h6).1 (by
        unfold flip; rw [← e3]; omega)
      exact absurd h7 (by decide)
    · exact flip_top ht hu (k / 8) c v hk hc hx e
    · have h1 : hd1 (encS t) = (putL t).length := hd1_put t (tok_ok ht) _
      have h2 : hd1 (encS u) = (putL u).length := hd1_put u (tok_ok hu) _
      have h3 := hd1_up (encS t) (k / 8) v (by omega) (by omega)
      rw [← e, h2] at h3
      refine flip_top hu ht (k / 8) v c h3 hcv hx ?_
      rw [e, List.set_set]
      apply List.ext_getElem?
      intro i
      rw [List.getElem?_set]
      split
      · rename_i hi; subst hi; exact hc
      · rfl
  · have e2 := e
    rw [encS, encS, List.set_append_right _ _ hk] at e2
    exact hut (putL_prefix u t (tok_ok hu) (tok_ok ht) _ _ e2)

/-! ### the laws on tokens -/
/-- what a call does to the token -/
def stepT (w : Bool) (t a b : Int) : Int := if w then wroteS t a else acceptT t a b

theorem raiseS_ge (t n : Int) : t ≤ raiseS t n ∧ n ≤ raiseS t n := by unfold raiseS; split <;> omega
theorem wroteS_ge (t n : Int) : t ≤ wroteS t n := by
  unfold wroteS; split
  · exact (raiseS_ge t n).1
  · omega
theorem acceptT_ge (t a b : Int) : t ≤ acceptT t a b := by
  unfold acceptT; split
  · exact (raiseS_ge t a).1
  · omega
theorem accept_yes {t a b : Int} (h : allowsS t a b = true) : acceptV t a b = raiseS t a ∧ acceptT t a b = raiseS t a ∧ t ≤ raiseS t a ∧ a ≤ raiseS t a ∧ raiseS t a ≤ b := by
  refine ⟨by rw [acceptV, if_pos h], by rw [acceptT, if_pos h], (raiseS_ge t a).1, (raiseS_ge t a).2, ?_⟩
  simp only [allowsS, decide_eq_true_eq] at h
  unfold raiseS; split <;> omega
theorem accept_no {t a b : Int} (h : allowsS t a b = false) : acceptV t a b = 0 ∧ acceptT t a b = t := by
  have h' : ¬ allowsS t a b = true := by rw [h]; simp
  exact ⟨by rw [acceptV, if_neg h'], by rw [acceptT, if_neg h']⟩

end Go.Proofs.YtejehdmllicfcaaDoor
