/- Joined: LbA RfT. -/
import Derived.Test.YtheebajklnljdaaGreatDoorGk
import Derived.Test.YtheebajklnljdaaGreatDoorQTreeW
import Derived.Test.YtheebajklnljdaaGreatDoorGr
import Derived.Laws.AppendOwnNone

section
/- The law's same (two lists of strings); the reference's Left; the strings on a path. -/
namespace Go.Proofs.YtheebajklnljdaaGreatDoor
open Go Go.RowKit
attribute [local go_sem] Oper.semAt_some

theorem ListAt.at_ {w : World} {A : Option Addr} {n c : Nat} {l : List (List UInt8)} (h : ListAt w (.slice A n c) l) {k : Nat} (hk : k < l.length) :
    ∃ g o x, A = some ⟨g, o, none⟩ ∧ l[k]? = some x ∧ g < w.heap.size ∧ w.cell? ⟨g, o + k, none⟩ = some (.string (str x)) := by
  obtain ⟨g, o, c', e, hr⟩ := h.rows (by rintro rfl; simp at hk)
  injection e with e1 e2 e3
  exact ⟨g, o, l[k], e1, List.getElem?_eq_getElem hk, hr.2.2.2.1, hr.2.2.2.2 k _ (List.getElem?_eq_getElem hk)⟩

theorem own_new (w : World) (t : TypeId) (x : Value) (base : Nat) (hb : base ≤ w.heap.size) : (w.alloc (.cells #[x] t)).ownsRow base t 1 (.slice (some ⟨w.heap.size, 0, none⟩) 1 1) 1 [x] :=
  ⟨rfl, .inr ⟨w.heap.size, 1, #[x], rfl, hb, heap_alloc_new w _, Nat.le_refl _, by unfold maxLen; omega, rfl, rfl⟩⟩

theorem sameS_ok (A B : Option Addr) (c d : Nat) (a b : List (List UInt8)) (w : World) (ha : ListAt w (.slice A a.length c) a) (hb : ListAt w (.slice B b.length d) b) (la : a.length ≤ 1000) :
    Calls Tryz.prog 27 #[.slice A a.length c, .slice B b.length d] w fun e w' => e = .returned (.bool (decide (a = b))) ∧ Below w.heap.size w w' := by
  obtain ⟨R, hRR⟩ : ∃ R, R = decide (a = b) := ⟨_, rfl⟩
  rw [← hRR]
  by_cases hlen : a.length = b.length
  · have t1 : ((a.length : Int) != (b.length : Int)) = false := by simp; omega
    have t2 : (a.length != b.length) = false := by simp; omega
    have HRR := Lib.hid hRR
    have HLEN := Lib.hid hlen
    clear hRR hlen
    go_enter Tryz.func27, Tryz.ntmps27
    go_wp2_with fail
    go_loopw [5] (fun kv wr => ∃ k : Nat, k ≤ a.length ∧ kv = .int .i64 k ∧ Hid (a.take k = b.take k) ∧ Below w.heap.size w wr) (fun kv _ => a.length - (intOf kv).toNat)
    case atStart => exact ⟨0, by omega, rfl, Lib.hid rfl, Below.refl _ _⟩
    case round =>
      obtain ⟨k, hk, rfl, HK, hbl⟩ := hrel
      clear t1 t2
      by_cases h1 : k < a.length
      · have t1 : decide (k < a.length) = true := by simpa using h1
        obtain ⟨ga, oa, x, rfl, hx, hga, cx0⟩ := ha.at_ h1
        obtain ⟨gb, ob, y, rfl, hy, hgb, cy0⟩ := hb.at_ (show k < b.length by rw [← HLEN.out]; exact h1)
        have cx := (hbl.cell (p := ⟨ga, oa + k, none⟩) hga).trans cx0
        have cy := (hbl.cell (p := ⟨gb, ob + k, none⟩) hgb).trans cy0
        have q0 : (0 : Int) ≤ (k : Int) := by omega
        have q1 : (k : Int) < (a.length : Int) := by omega
        have q2 : (k : Int) < (b.length : Int) := by have := HLEN.out; omega
        by_cases hxy : x = y
        · have HN : Hid (a.take (k + 1) = b.take (k + 1)) := Lib.hid (by rw [List.take_add_one, List.take_add_one, hx, hy, HK.out, hxy])
          subst hxy
          clear hx hy cx0 cy0
          go_wp2_with fail
          go_quiet (fail)
          have hb2 : Below w.heap.size w (wr.drewN nq) := below_drewN' hbl nq
          go_wp2_with fail
          exact ⟨⟨k + 1, by omega, by go_num, HN, hb2⟩, by simp [intOf]; omega⟩
        · have t3 : (x == y) = false := by simpa using hxy
          have HF : Hid (R = false) := Lib.hid (by
            rw [HRR.out]
            refine decide_eq_false fun e => hxy ?_
            rw [e, hy] at hx
            exact (Option.some.inj hx).symm)
          clear hx hy cx0 cy0 hxy
          go_wp2_with fail
          go_quiet (fail)
          have hb2 : Below w.heap.size w (wr.drewN nq) := below_drewN' hbl nq
          go_wp2_with fail
          go_ret
          exact ⟨(congrArg (fun b => Ending.returned (Value.bool b)) HF.out).symm, hb2⟩
      · have t1 : decide (k < a.length) = false := by simpa using h1
        have HF : Hid (R = true) := Lib.hid (by
          rw [HRR.out]
          refine decide_eq_true ?_
          have h := HK.out
          rw [List.take_of_length_le (by omega), List.take_of_length_le (by have := HLEN.out; omega)] at h
          exact h)
        go_wp2_with fail
        go_ret
        exact ⟨(congrArg (fun b => Ending.returned (Value.bool b)) HF.out).symm, hbl⟩
  · have t1 : ((a.length : Int) != (b.length : Int)) = true := by simp; omega
    have t2 : (a.length != b.length) = true := by simpa using hlen
    have HF : Hid (R = false) := Lib.hid (by rw [hRR]; exact decide_eq_false fun e => hlen (by rw [e]))
    clear hRR hlen
    go_enter Tryz.func27, Tryz.ntmps27
    go_wp2_with fail
    go_ret
    exact ⟨(congrArg (fun b => Ending.returned (Value.bool b)) HF.out).symm, Below.refl _ _⟩

theorem leftR_ok (n : Nat) (w : World) (h2 : 2 ≤ n) (hn : n ≤ 9223372036854775807) : Calls Tryz.prog 68 #[.int .i64 n] w fun e w' => e = .returned (.int .i64 (leftN n)) ∧ w' = w := by
  go_enter Tryz.func68, Tryz.ntmps68
  go_wp2_with fail
  go_loop [3] (fun kv => ∃ (k j : Nat), kv = .int .i64 k ∧ Hid (k = 2 ^ j) ∧ k < n ∧ 1 ≤ k) (fun kv => n - (intOf kv).toNat)
  case atStart => exact ⟨1, 0, rfl, rfl, by omega, by omega⟩
  case round =>
    obtain ⟨k, j, rfl, HK, hk, hk1⟩ := hrel
    obtain ⟨d, hd⟩ : ∃ d, d = n - k := ⟨_, rfl⟩
    have e1 : (n : Int) - (k : Int) = (d : Int) := by omega
    by_cases h : k < d
    · have t1 : decide (k < d) = true := by simpa using h
      have hlt : 2 * k < n := by omega
      obtain ⟨b, hb⟩ : ∃ b, b = 2 * k := ⟨_, rfl⟩
      have e2 : (2 : Int) * (k : Int) = (b : Int) := by omega
      have HB : Hid (b = 2 ^ (j + 1)) := Lib.hid (by rw [hb, HK.out, Nat.pow_succ]; omega)
      have hbn : b < n := by omega
      have hb1 : 1 ≤ b := by omega
      have hbk : k < b := by omega
      clear hd hb hlt
      go_wp2_with fail
      go_round
      case rel => exact ⟨b, j + 1, rfl, HB, hbn, hb1⟩
      case measure => simp [intOf]; omega
    · have t1 : decide (k < d) = false := by simpa using h
      have hb : leftN n = k := by
        rw [HK.out]
        exact leftN_eq n j (by rw [← HK.out]; exact hk) (by rw [Nat.pow_succ, ← HK.out]; omega)
      have HB2 := Lib.hid hb
      clear hb hd
      go_wp2_with fail
      go_ret
      exact ⟨ret_i64 (congrArg (fun x : Nat => (x : Int)) HB2.out.symm), rfl⟩

theorem svs_one (l : List (List UInt8)) : ∀ u ∈ svs l, u.oneCell' = true := by
  intro u hu
  unfold svs at hu
  obtain ⟨x, _, rfl⟩ := List.mem_map.1 hu
  rfl
theorem cat3 (c : UInt8) (a b : List UInt8) : (⟨#[c]⟩ : ByteArray) ++ str a ++ str b = str (c :: (a ++ b)) := by
  have : (⟨#[c]⟩ : ByteArray) = str [c] := rfl
  rw [this, cat_str, cat_str]
  rfl
theorem cat2 (c : UInt8) (a : List UInt8) : (⟨#[c]⟩ : ByteArray) ++ str a = str (c :: a) := by
  have : (⟨#[c]⟩ : ByteArray) = str [c] := rfl
  rw [this, cat_str]
  rfl

/-- the reference's Preimages: from the leaf upwards -/
def preL (s : List UInt8) (r : List (List UInt8)) (n i : Nat) : List (List UInt8) := (wayR s r n i).1.reverse
theorem wayR_top (s : List UInt8) : ∀ (r : List (List UInt8)) (n i : Nat), ∃ t l, (wayR s r n i).1 = t :: l ∧ shaL t = (wayR s r n i).2
  | [], n, i => ⟨_, [], rfl, rfl⟩
  | x :: r, n, i => by
    unfold wayR
    split
    · exact ⟨_, [], rfl, rfl⟩
    · split
      · exact ⟨_, _, rfl, rfl⟩
      · exact ⟨_, _, rfl, rfl⟩
theorem preL_top (s : List UInt8) (r : List (List UInt8)) (n i : Nat) : ∃ t l, preL s r n i = l ++ [t] ∧ shaL t = (wayR s r n i).2 := by
  obtain ⟨t, l, h1, h2⟩ := wayR_top s r n i
  exact ⟨t, l.reverse, by unfold preL; rw [h1, List.reverse_cons], h2⟩
theorem preL_small (s : List UInt8) (r : List (List UInt8)) (n i : Nat) (h : n ≤ 1 ∨ r = []) : preL s r n i = [0 :: s] := by
  unfold preL
  cases r with
  | nil => rfl
  | cons x r =>
    unfold wayR
    rw [if_pos (by rcases h with h | h; exact h; cases h)]
    rfl
theorem preL_left (s x : List UInt8) (r : List (List UInt8)) (n i : Nat) (h : 1 < n) (hi : i < leftN n) : preL s (x :: r) n i = preL s r (leftN n) i ++ [1 :: ((wayR s r (leftN n) i).2 ++ x)] := by
  unfold preL
  rw [wayR, if_neg (by omega), if_pos hi, List.reverse_cons]
theorem preL_right (s x : List UInt8) (r : List (List UInt8)) (n i : Nat) (h : 1 < n) (hi : ¬ i < leftN n) : preL s (x :: r) n i = preL s r (n - leftN n) (i - leftN n) ++ [1 :: (x ++ (wayR s r (n - leftN n) (i - leftN n)).2)] := by
  unfold preL
  rw [wayR, if_neg (by omega), if_neg hi, List.reverse_cons]
theorem wayR_count (s : List UInt8) : ∀ (r : List (List UInt8)) (n i : Nat), (wayR s r n i).1.length ≤ r.length + 1
  | [], _, _ => by simp [wayR]
  | x :: r, n, i => by
    unfold wayR
    have h1 := wayR_count s r (leftN n) i
    have h2 := wayR_count s r (n - leftN n) (i - leftN n)
    split
    · simp
    · split
      · simp; omega
      · simp; omega
theorem preL_count (s : List UInt8) (r : List (List UInt8)) (n i : Nat) : (preL s r n i).length ≤ r.length + 1 := by
  unfold preL; rw [List.length_reverse]; exact wayR_count s r n i
theorem wayR_val32 (s : List UInt8) : ∀ (r : List (List UInt8)) (n i : Nat), (wayR s r n i).2.length = 32
  | [], _, _ => rfl
  | x :: r, n, i => by
    unfold wayR
    split
    · rfl
    · split <;> rfl
theorem wayR_brief (s : List UInt8) (hs : s.length ≤ 100) : ∀ (r : List (List UInt8)) (n i : Nat), (∀ x ∈ r, x.length ≤ 100) → ∀ z ∈ (wayR s r n i).1, z.length ≤ 200
  | [], _, _, _, z, hz => by
    simp [wayR] at hz
    subst hz
    simp; omega
  | x :: r, n, i, hr, z, hz => by
    have hx := hr x (by simp)
    have hr' : ∀ y ∈ r, y.length ≤ 100 := fun y hy => hr y (by simp [hy])
    unfold wayR at hz
    split at hz
    · simp at hz
      subst hz
      simp; omega
    · split at hz
      · rcases List.mem_cons.1 hz with rfl | hz
        · rw [List.length_cons, List.length_append, wayR_val32]; omega
        · exact wayR_brief s hs r _ _ hr' z hz
      · rcases List.mem_cons.1 hz with rfl | hz
        · rw [List.length_cons, List.length_append, wayR_val32]; omega
        · exact wayR_brief s hs r _ _ hr' z hz
theorem preL_brief (s : List UInt8) (hs : s.length ≤ 100) (r : List (List UInt8)) (n i : Nat) (hr : ∀ x ∈ r, x.length ≤ 100) : ∀ z ∈ preL s r n i, z.length ≤ 200 := fun z hz => wayR_brief s hs r n i hr z (List.mem_reverse.1 hz)

/-- two different strings of two lists have one digest -/
def collA (a b : List (List UInt8)) : Bool := a.any fun x => b.any fun y => !decide (x = y) && (shaL x == shaL y)
theorem collA_of {a b : List (List UInt8)} (h : CollL a b) : collA a.reverse b.reverse = true := by
  obtain ⟨j, x, y, h1, h2, h3, h4⟩ := h
  unfold collA
  refine List.any_eq_true.2 ⟨x, List.mem_reverse.2 (List.mem_of_getElem? h1), List.any_eq_true.2 ⟨y, List.mem_reverse.2 (List.mem_of_getElem? h2), ?_⟩⟩
  rw [decide_eq_false h3, h4]
  simp
end Go.Proofs.YtheebajklnljdaaGreatDoor
end

section
/- The reference's Root, Proof, part and Extension, on this seat (out of RefT). -/
namespace Go.Proofs.YtheebajklnljdaaGreatDoor
open Go Go.RowKit
attribute [local go_sem] Oper.semAt_some


set_option maxRecDepth 100000 in
set_option maxHeartbeats 4000000 in
theorem rootR_rows : ∀ (f : Nat) (g o n c : Nat) (l : List (List UInt8)) (w : World), RowsAt w g o n c l → l.length ≤ f → 1 ≤ l.length → (∀ x ∈ l, x.length ≤ 900000) →
    Calls Tryz.prog 49 #[.slice (some ⟨g, o, none⟩) n c] w fun e w' => e = .returned (.string (str (rootL l))) ∧ Below w.heap.size w w'
  | 0, _, _, _, _, _, _, _, h0, h1, _ => by omega
  | f + 1, g, o, n, c, l, w, hv, hf, h1, hs => by
    have hln := hv.1
    have hnc := hv.2.1
    have hcm := hv.2.2.1
    by_cases hone : n = 1
    · obtain ⟨a, rfl⟩ : ∃ a, l = [a] := by
        match l, (show l.length = 1 by omega) with
        | [a], _ => exact ⟨a, rfl⟩
      have c0 : w.cell? ⟨g, o, none⟩ = some (.string (str a)) := hv.2.2.2.2 0 a rfl
      have hl := leafR_ok (str a) w (by rw [size_mk]; exact hs a (by simp))
      rw [mk_toList] at hl
      rw [rootL_one]
      have HL := Lib.hid hl
      subst hone
      clear hl hln hs hv
      go_enter Tryz.func49, Tryz.ntmps49
      go_wp2_with fail
      refine HL.out.mono ?_
      rintro e w1 ⟨rfl, b1⟩
      go_wp2_with fail
      go_ret
      exact ⟨rfl, b1⟩
    · have h2 : 2 ≤ n := by omega
      obtain ⟨k, hk⟩ : ∃ k, k = leftN n := ⟨_, rfl⟩
      have hkl := leftN_lt n h2
      have hkp := leftN_pos n
      have hleft := leftR_ok n w h2 (by omega)
      rw [← hk] at hkl hkp hleft
      have hroot : rootL l = nodeL (rootL (l.take k)) (rootL (l.drop k)) := by rw [hk, hln]; exact rootL_node l (by omega)
      have hT : ∀ W, Below w.heap.size w W → Calls Tryz.prog 49 #[.slice (some ⟨g, o, none⟩) k c] W fun e w' => e = .returned (.string (str (rootL (l.take k)))) ∧ Below w.heap.size w w' := fun W hW =>
        (rootR_rows f g o k c (l.take k) W ((hv.take k (by omega)).below hW) (by rw [List.length_take]; omega) (by rw [List.length_take]; omega) (fun x hx => hs x (List.mem_of_mem_take hx))).mono fun e w' ⟨he, hb⟩ => ⟨he, Below.next hW hb⟩
      have hD : ∀ W, Below w.heap.size w W → Calls Tryz.prog 49 #[.slice (some ⟨g, o + k, none⟩) (n - k) (c - k)] W fun e w' => e = .returned (.string (str (rootL (l.drop k)))) ∧ Below w.heap.size w w' := fun W hW =>
        (rootR_rows f g (o + k) (n - k) (c - k) (l.drop k) W ((hv.drop k (by omega)).below hW) (by rw [List.length_drop]; omega) (by rw [List.length_drop]; omega) (fun x hx => hs x (List.mem_of_mem_drop hx))).mono fun e w' ⟨he, hb⟩ => ⟨he, Below.next hW hb⟩
      have l1 := rootL_len (l.take k)
      have l2 := rootL_len (l.drop k)
      rw [hroot]
      obtain ⟨A, hA⟩ : ∃ A, A = rootL (l.take k) := ⟨_, rfl⟩
      obtain ⟨B, hB⟩ : ∃ B, B = rootL (l.drop k) := ⟨_, rfl⟩
      rw [← hA] at hT l1 ⊢
      rw [← hB] at hD l2 ⊢
      have hN : ∀ W, Below w.heap.size w W → Calls Tryz.prog 83 #[.string (str A), .string (str B)] W fun e w' => e = .returned (.string (str (nodeL A B))) ∧ Below w.heap.size w w' := fun W hW => by
        have h := nodeR_ok (str A) (str B) W (by rw [size_mk, size_mk]; omega)
        rw [mk_toList, mk_toList] at h
        exact h.mono fun e w' ⟨he, hb⟩ => ⟨he, Below.next hW hb⟩
      obtain ⟨d, hd⟩ : ∃ d, d = n - k := ⟨_, rfl⟩
      obtain ⟨q, hq⟩ : ∃ q, q = c - k := ⟨_, rfl⟩
      have HD := Lib.hid hd
      have HQ := Lib.hid hq
      have t0 : ((n : Int) == 0) = false := by simp; omega
      have t1 : ((n : Int) == 1) = false := by simp; omega
      have t2 : (n == 0) = false := by simp; omega
      have t3 : (n == 1) = false := by simp; omega
      have q0 : (0 : Int) ≤ (k : Int) := by omega
      have q1 : (k : Int) ≤ (n : Int) := by omega
      have q2 : (k : Int) ≤ (c : Int) := by omega
      have q3 : (n : Int) ≤ (c : Int) := by omega
      have hb0 := Below.refl w.heap.size w
      clear hroot hA hB l1 l2 hk hs hf h1 hln hone hd hq hv
      go_enter Tryz.func49, Tryz.ntmps49
      go_wp2_with fail
      refine hleft.mono ?_
      rintro e w1 ⟨rfl, rfl⟩
      go_wp2_with fail
      go_region_held3 (fun W => Below w1.heap.size w1 W) (first | assumption | exact Below.drew (by assumption))
        (first
          | (go_at_call_has 49 (Value.slice (some ⟨g, o, none⟩) k c); refine (hT _ ?_).mono ?_; (first | assumption | exact Below.drew (by assumption)); rintro e w2 ⟨rfl, b2⟩)
          | (go_at_call 49; refine (hD _ ?_).mono ?_; (first | assumption | exact Below.drew (by assumption)); rintro e w2 ⟨rfl, b2⟩)
          | (go_at_call 83; refine (hN _ ?_).mono ?_; (first | assumption | exact Below.drew (by assumption)); rintro e w2 ⟨rfl, b2⟩))
      all_goals
        go_wp2_with fail
        go_ret
        exact ⟨rfl, by assumption⟩

theorem Below.allocW {w W : World} (h : Below w.heap.size w W) {o : Obj} : Below w.heap.size w (W.alloc o) := h.alloc h.size o

theorem proofL_le : ∀ (f : Nat) (l : List (List UInt8)) (i : Nat), l.length ≤ f → (proofL l i).length ≤ l.length
  | 0, l, i, h => by rw [proofL_one l i (by omega)]; simp
  | f + 1, l, i, h => by
    by_cases h1 : l.length ≤ 1
    · rw [proofL_one l i h1]; simp
    · have hl := leftN_lt l.length (by omega)
      have hp := leftN_pos l.length
      by_cases hi : i < leftN l.length
      · have ih := proofL_le f (l.take (leftN l.length)) i (by rw [List.length_take]; omega)
        rw [proofL_left l i (by omega) hi, List.length_append, List.length_singleton]
        rw [List.length_take] at ih
        omega
      · have ih := proofL_le f (l.drop (leftN l.length)) (i - leftN l.length) (by rw [List.length_drop]; omega)
        rw [proofL_right l i (by omega) (by omega), List.length_append, List.length_singleton]
        rw [List.length_drop] at ih
        omega

theorem proofR_no (a : Option Addr) (n c : Nat) (i : Int) (w : World) (hi : i < 0 ∨ (n : Int) ≤ i) :
    Calls Tryz.prog 52 #[.slice a n c, .int .i64 i] w fun e w' => e = .returned (.tuple #[.slice none 0 0, .int .i64 2]) ∧ w = w' := by
  by_cases h : i < 0
  · have t0 : decide (i < 0) = true := by simp; omega
    go_enter Tryz.func52, Tryz.ntmps52
    go_wp2_with fail
    go_ret2
    exact ⟨rfl, rfl⟩
  · have t0 : decide (i < 0) = false := by simp; omega
    have t1 : decide ((n : Int) ≤ i) = true := by simp; omega
    go_enter Tryz.func52, Tryz.ntmps52
    go_wp2_with fail
    go_ret2
    exact ⟨rfl, rfl⟩

theorem extR_no (a : Option Addr) (n c : Nat) (i : Int) (w : World) (hi : i < 0 ∨ (n : Int) < i) :
    Calls Tryz.prog 54 #[.slice a n c, .int .i64 i] w fun e w' => e = .returned (.tuple #[.slice none 0 0, .int .i64 2]) ∧ w = w' := by
  by_cases h : i < 0
  · have t0 : decide (i < 0) = true := by simp; omega
    go_enter Tryz.func54, Tryz.ntmps54
    go_wp2_with fail
    go_ret2
    exact ⟨rfl, rfl⟩
  · have t0 : decide (i < 0) = false := by simp; omega
    have t1 : decide ((n : Int) < i) = true := by simp; omega
    go_enter Tryz.func54, Tryz.ntmps54
    go_wp2_with fail
    go_ret2
    exact ⟨rfl, rfl⟩

theorem extR_zero (a : Option Addr) (n c : Nat) (w : World) :
    Calls Tryz.prog 54 #[.slice a n c, .int .i64 0] w fun e w' => e = .returned (.tuple #[.slice none 0 0, .int .i64 0]) ∧ w = w' := by
  go_enter Tryz.func54, Tryz.ntmps54
  go_wp2_with fail
  go_ret2
  exact ⟨rfl, rfl⟩

set_option maxRecDepth 100000 in
set_option maxHeartbeats 4000000 in
theorem proofR_rows : ∀ (f : Nat) (g o n c : Nat) (l : List (List UInt8)) (i : Nat) (w : World), RowsAt w g o n c l → l.length ≤ f → n ≤ 1000 → i < n → (∀ x ∈ l, x.length ≤ 900000) →
    Calls Tryz.prog 52 #[.slice (some ⟨g, o, none⟩) n c, .int .i64 i] w fun e w' => ∃ v, e = .returned (.tuple #[v, .int .i64 0]) ∧ w'.ownsRow w.heap.size 9 1 v (proofL l i).length (svs (proofL l i)) ∧ Below w.heap.size w w'
  | 0, _, _, _, _, _, _, _, hv, h0, _, h1, _ => by have := hv.1; omega
  | f + 1, g, o, n, c, l, i, w, hv, hf, hn, hi, hs => by
    have hln := hv.1
    have hnc := hv.2.1
    have hcm := hv.2.2.1
    have t0 : decide ((i : Int) < 0) = false := by simp
    have t1 : decide (n ≤ i) = false := by simp; omega
    by_cases hone : n = 1
    · have hpl := proofL_one l i (by omega)
      rw [hpl]
      subst hone
      clear hpl hln hs hv
      go_enter Tryz.func52, Tryz.ntmps52
      go_wp2_with fail
      go_ret2
      exact ⟨_, rfl, World.ownsRow_nil _ _ _ 1, Below.refl _ _⟩
    · obtain ⟨i0, hi0, hz0, hz1, hz2⟩ := info_str
      have h2 : 2 ≤ n := by omega
      obtain ⟨k, hk⟩ : ∃ k, k = leftN n := ⟨_, rfl⟩
      have hkl := leftN_lt n h2
      have hkp := leftN_pos n
      have hleft := leftR_ok n w h2 (by omega)
      rw [← hk] at hkl hkp hleft
      have t2 : ((n : Int) == 1) = false := by simp; omega
      have t3 : (n == 1) = false := by simp; omega
      have q0 : (0 : Int) ≤ (k : Int) := by omega
      have q1 : (k : Int) ≤ (n : Int) := by omega
      have q2 : (k : Int) ≤ (c : Int) := by omega
      have q3 : (n : Int) ≤ (c : Int) := by omega
      by_cases hki : i < k
      · have t4 : decide (i < k) = true := by simpa using hki
        have hpr := proofL_left l i (by omega) (by rw [← hln, ← hk]; exact hki)
        rw [← hln, ← hk] at hpr
        have ih := proofR_rows f g o k c (l.take k) i w (hv.take k (by omega)) (by rw [List.length_take]; omega) (by omega) (by omega) (fun x hx => hs x (List.mem_of_mem_take hx))
        have hroot : ∀ W, Below w.heap.size w W → Calls Tryz.prog 49 #[.slice (some ⟨g, o + k, none⟩) (n - k) (c - k)] W fun e w' => e = .returned (.string (str (rootL (l.drop k)))) ∧ Below W.heap.size W w' := fun W hW =>
          rootR_rows l.length g (o + k) (n - k) (c - k) (l.drop k) W ((hv.drop k (by omega)).below hW) (by rw [List.length_drop]; omega) (by rw [List.length_drop]; omega) (fun x hx => hs x (List.mem_of_mem_drop hx))
        have hpl := proofL_le l.length (l.take k) i (by rw [List.length_take]; omega)
        rw [List.length_take] at hpl
        rw [hpr]
        obtain ⟨P, hP⟩ : ∃ P, P = proofL (l.take k) i := ⟨_, rfl⟩
        obtain ⟨R, hR⟩ : ∃ R, R = rootL (l.drop k) := ⟨_, rfl⟩
        rw [← hP] at ih hpl ⊢
        rw [← hR] at hroot ⊢
        rw [List.length_append, List.length_singleton, svs_snoc]
        have hpl2 : P.length ≤ 1000 := by omega
        have HROOT := Lib.hid hroot
        clear hpr hP hR hroot hk hs hf hln hone hv hpl hki
        go_enter Tryz.func52, Tryz.ntmps52
        go_wp2_with fail
        refine hleft.mono ?_
        rintro e w1 ⟨rfl, rfl⟩
        go_wp2_with fail
        refine ih.mono ?_
        rintro e w2 ⟨v2, rfl, own2, b2⟩
        clear ih hleft
        go_wp2_with fail
        refine (HROOT.out w2 b2).mono ?_
        rintro e w3 ⟨rfl, b3⟩
        have hb3 := Below.next b2 b3
        have own3 := ownsRow_below b3 own2
        have hle3 := hb3.size
        clear own2
        go_wp2_with (at_builtin; refine wpList_append_own _ rfl _ _ 52 rfl w1.heap.size 9 i0 (.string ⟨#[]⟩) 1 16 Tryz.underlying52 hi0 hz0 hz1 hz2 rfl (by decide) v2 _ _ rfl (own3.alloc _) ⟨w3.heap.size, 0, none⟩ 1 1 [.string (str R)] rfl rfl (cell_one_new _ _ _) (by simp [Value.oneCell']) (by unfold maxLen; omega) (by omega) (by simp; omega) ?_; intro v5 w5 own5 g5 _)
        have hb5 := Below.appended hb3 hle3 own3 g5
        go_wp2_with fail
        go_ret2
        exact ⟨_, rfl, own5, hb5⟩
      · have t4 : decide (i < k) = false := by simpa using hki
        have hpr := proofL_right l i (by omega) (by rw [← hln, ← hk]; omega)
        obtain ⟨j, hj⟩ : ∃ j, j = i - k := ⟨_, rfl⟩
        have ej : (i : Int) - (k : Int) = (j : Int) := by omega
        rw [← hln, ← hk, ← hj] at hpr
        have ih := proofR_rows f g (o + k) (n - k) (c - k) (l.drop k) j w (hv.drop k (by omega)) (by rw [List.length_drop]; omega) (by omega) (by omega) (fun x hx => hs x (List.mem_of_mem_drop hx))
        have hroot : ∀ W, Below w.heap.size w W → Calls Tryz.prog 49 #[.slice (some ⟨g, o, none⟩) k c] W fun e w' => e = .returned (.string (str (rootL (l.take k)))) ∧ Below W.heap.size W w' := fun W hW =>
          rootR_rows l.length g o k c (l.take k) W ((hv.take k (by omega)).below hW) (by rw [List.length_take]; omega) (by rw [List.length_take]; omega) (fun x hx => hs x (List.mem_of_mem_take hx))
        have hpl := proofL_le l.length (l.drop k) j (by rw [List.length_drop]; omega)
        rw [List.length_drop] at hpl
        rw [hpr]
        obtain ⟨P, hP⟩ : ∃ P, P = proofL (l.drop k) j := ⟨_, rfl⟩
        obtain ⟨R, hR⟩ : ∃ R, R = rootL (l.take k) := ⟨_, rfl⟩
        rw [← hP] at ih hpl ⊢
        rw [← hR] at hroot ⊢
        rw [List.length_append, List.length_singleton, svs_snoc]
        have hpl2 : P.length ≤ 1000 := by omega
        have HROOT := Lib.hid hroot
        clear hj
        clear hpr hP hR hroot hk hs hf hln hone hv hpl hki
        go_enter Tryz.func52, Tryz.ntmps52
        go_wp2_with fail
        refine hleft.mono ?_
        rintro e w1 ⟨rfl, rfl⟩
        go_wp2_with fail
        refine ih.mono ?_
        rintro e w2 ⟨v2, rfl, own2, b2⟩
        clear ih hleft
        go_wp2_with fail
        refine (HROOT.out w2 b2).mono ?_
        rintro e w3 ⟨rfl, b3⟩
        have hb3 := Below.next b2 b3
        have own3 := ownsRow_below b3 own2
        have hle3 := hb3.size
        clear own2
        go_wp2_with (at_builtin; refine wpList_append_own _ rfl _ _ 52 rfl w1.heap.size 9 i0 (.string ⟨#[]⟩) 1 16 Tryz.underlying52 hi0 hz0 hz1 hz2 rfl (by decide) v2 _ _ rfl (own3.alloc _) ⟨w3.heap.size, 0, none⟩ 1 1 [.string (str R)] rfl rfl (cell_one_new _ _ _) (by simp [Value.oneCell']) (by unfold maxLen; omega) (by omega) (by simp; omega) ?_; intro v5 w5 own5 g5 _)
        have hb5 := Below.appended hb3 hle3 own3 g5
        go_wp2_with fail
        go_ret2
        exact ⟨_, rfl, own5, hb5⟩

set_option maxRecDepth 100000 in
set_option maxHeartbeats 4000000 in
theorem partR_rows : ∀ (f : Nat) (g o n c : Nat) (l : List (List UInt8)) (m : Nat) (b : Bool) (w : World), RowsAt w g o n c l → l.length ≤ f → n ≤ 1000 → 1 ≤ m → m ≤ n → (∀ x ∈ l, x.length ≤ 900000) →
    Calls Tryz.prog 86 #[.slice (some ⟨g, o, none⟩) n c, .int .i64 m, .bool b] w fun e w' => ∃ v, e = .returned v ∧ w'.ownsRow w.heap.size 9 1 v (partL l m b).length (svs (partL l m b)) ∧ Below w.heap.size w w'
  | 0, _, _, _, _, _, _, _, _, hv, h0, _, h1, h2, _ => by have := hv.1; omega
  | f + 1, g, o, n, c, l, m, b, w, hv, hf, hn, hm1, hmn, hs => by
    have hln := hv.1
    have hnc := hv.2.1
    have hcm := hv.2.2.1
    by_cases hall : m = n
    · have hpl := partL_all l m b (by omega)
      rw [hpl]
      have t0 : ((m : Int) == (n : Int)) = true := by simp; omega
      have t1 : (m == n) = true := by simp; omega
      have hroot := rootR_rows (f + 1) g o n c l w hv hf (by omega) hs
      obtain ⟨R, hR⟩ : ∃ R, R = rootL l := ⟨_, rfl⟩
      rw [← hR] at hroot ⊢
      have HROOT := Lib.hid hroot
      clear hpl hln hs hv hR hall hroot
      cases b with
      | true =>
        go_enter Tryz.func86, Tryz.ntmps86
        go_wp2_with fail
        go_ret
        exact ⟨_, rfl, World.ownsRow_nil _ _ _ 1, Below.refl _ _⟩
      | false =>
        go_enter Tryz.func86, Tryz.ntmps86
        go_wp2_with fail
        refine HROOT.out.mono ?_
        rintro e w1 ⟨rfl, b1⟩
        have hle := b1.size
        have hso := own_new w1 9 (.string (str R)) w.heap.size hle
        go_wp2_with fail
        go_ret
        exact ⟨_, rfl, hso, Below.allocW b1⟩
    · obtain ⟨i0, hi0, hz0, hz1, hz2⟩ := info_str
      have h2 : 2 ≤ n := by omega
      obtain ⟨k, hk⟩ : ∃ k, k = leftN n := ⟨_, rfl⟩
      have hkl := leftN_lt n h2
      have hkp := leftN_pos n
      have hleft := leftR_ok n w h2 (by omega)
      rw [← hk] at hkl hkp hleft
      have t0 : ((m : Int) == (n : Int)) = false := by simp; omega
      have t2 : (m == n) = false := by simp; omega
      have k3 : ¬ c = k := by omega
      have q0 : (0 : Int) ≤ (k : Int) := by omega
      have q1 : (k : Int) ≤ (n : Int) := by omega
      have q2 : (k : Int) ≤ (c : Int) := by omega
      have q3 : (n : Int) ≤ (c : Int) := by omega
      by_cases hki : m ≤ k
      · have t4 : decide (m ≤ k) = true := by simpa using hki
        have hpr := partL_left l m b (by omega) hm1 (by rw [← hln, ← hk]; omega)
        rw [← hln, ← hk] at hpr
        have ih : ∀ W, Below w.heap.size w W → Calls Tryz.prog 86 #[.slice (some ⟨g, o, none⟩) k c, .int .i64 m, .bool b] W fun e w' => ∃ v, e = .returned v ∧ w'.ownsRow W.heap.size 9 1 v (partL (l.take k) m b).length (svs (partL (l.take k) m b)) ∧ Below W.heap.size W w' := fun W hW =>
          partR_rows f g o k c (l.take k) m b W ((hv.take k (by omega)).below hW) (by rw [List.length_take]; omega) (by omega) (by omega) (by omega) (fun x hx => hs x (List.mem_of_mem_take hx))
        have hroot : ∀ W, Below w.heap.size w W → Calls Tryz.prog 49 #[.slice (some ⟨g, o + k, none⟩) (n - k) (c - k)] W fun e w' => e = .returned (.string (str (rootL (l.drop k)))) ∧ Below W.heap.size W w' := fun W hW =>
          rootR_rows l.length g (o + k) (n - k) (c - k) (l.drop k) W ((hv.drop k (by omega)).below hW) (by rw [List.length_drop]; omega) (by rw [List.length_drop]; omega) (fun x hx => hs x (List.mem_of_mem_drop hx))
        have hpl := partL_short l.length (l.take k) m b 10 (by rw [List.length_take]; omega) (by omega) (by rw [List.length_take]; omega)
        rw [hpr]
        obtain ⟨P, hP⟩ : ∃ P, P = partL (l.take k) m b := ⟨_, rfl⟩
        obtain ⟨R, hR⟩ : ∃ R, R = rootL (l.drop k) := ⟨_, rfl⟩
        rw [← hP] at ih hpl ⊢
        rw [← hR] at hroot ⊢
        rw [List.length_append, List.length_singleton, svs_snoc]
        have hpl2 : P.length ≤ 1000 := by omega
        have HROOT := Lib.hid hroot
        have HIH := Lib.hid ih
        have hbw := Below.refl w.heap.size w
        clear hpr hP hR hroot ih hk hs hf hln hall hv hpl hki
        go_enter Tryz.func86, Tryz.ntmps86
        go_wp2_with fail
        refine hleft.mono ?_
        rintro e w1 ⟨rfl, rfl⟩
        clear hleft
        go_wp2_with fail
        go_region_held3 (fun W => Below w1.heap.size w1 W) (first | assumption | exact Below.drew (by assumption) | exact Below.allocW (by assumption))
          (first
            | (go_at_call 86; (with_reducible refine (HIH.out _ ?_).mono ?_); (first | assumption | exact Below.drew (by assumption)); rintro e w2 ⟨v2, rfl, own2, b2⟩; (have hb2 := Below.next (Below.drew hbw) b2))
            | (go_at_call 49; (with_reducible refine (HROOT.out _ ?_).mono ?_); (first | assumption | exact Below.drew (by assumption)); rintro e w3 ⟨rfl, b3⟩; (have hb3 := Below.next hb2 b3); (have own3 : w3.ownsRow w1.heap.size 9 1 v2 P.length (svs P) := ownsRow_below b3 own2); (have hle3 := hb3.size))
            | (refine step_append_lies _ (by rfl) _ _ 52 (by rfl) w1.heap.size 9 i0 (.string ⟨#[]⟩) 1 16 Tryz.underlying52 hi0 hz0 hz1 hz2 rfl (by decide) v2 P.length _ (by rfl) (own3.alloc _) ⟨w3.heap.size, 0, none⟩ 1 1 [.string (str R)] (by rfl) (by rfl) (cell_one_new _ _ _) (by simp [Value.oneCell']) (by decide) (by unfold maxLen; omega) (by omega) (by simp; omega) _ rfl ?_; intro gg cp w5 own5 g5 _ _; (have hb5 := Below.appended hb3 hle3 own3 g5))
            | fail)
        go_wp2_with fail
        go_ret
        exact ⟨_, rfl, own5, hb5⟩
      · have t4 : decide (m ≤ k) = false := by simpa using hki
        have hpr := partL_right l m b (by omega) (by rw [← hln, ← hk]; omega)
        obtain ⟨j, hj⟩ : ∃ j, j = m - k := ⟨_, rfl⟩
        have ej : (m : Int) - (k : Int) = (j : Int) := by omega
        have uj : IntKind.i64.wrap (j : Int) = (j : Int) := IntWalk.i64_in _ (by omega)
        rw [← hln, ← hk, ← hj] at hpr
        have ih : ∀ W, Below w.heap.size w W → Calls Tryz.prog 86 #[.slice (some ⟨g, o + k, none⟩) (n - k) (c - k), .int .i64 j, .bool false] W fun e w' => ∃ v, e = .returned v ∧ w'.ownsRow W.heap.size 9 1 v (partL (l.drop k) j false).length (svs (partL (l.drop k) j false)) ∧ Below W.heap.size W w' := fun W hW =>
          partR_rows f g (o + k) (n - k) (c - k) (l.drop k) j false W ((hv.drop k (by omega)).below hW) (by rw [List.length_drop]; omega) (by omega) (by omega) (by omega) (fun x hx => hs x (List.mem_of_mem_drop hx))
        have hroot : ∀ W, Below w.heap.size w W → Calls Tryz.prog 49 #[.slice (some ⟨g, o, none⟩) k c] W fun e w' => e = .returned (.string (str (rootL (l.take k)))) ∧ Below W.heap.size W w' := fun W hW =>
          rootR_rows l.length g o k c (l.take k) W ((hv.take k (by omega)).below hW) (by rw [List.length_take]; omega) (by rw [List.length_take]; omega) (fun x hx => hs x (List.mem_of_mem_take hx))
        have hpl := partL_short l.length (l.drop k) j false 10 (by rw [List.length_drop]; omega) (by omega) (by rw [List.length_drop]; omega)
        rw [hpr]
        obtain ⟨P, hP⟩ : ∃ P, P = partL (l.drop k) j false := ⟨_, rfl⟩
        obtain ⟨R, hR⟩ : ∃ R, R = rootL (l.take k) := ⟨_, rfl⟩
        rw [← hP] at ih hpl ⊢
        rw [← hR] at hroot ⊢
        rw [List.length_append, List.length_singleton, svs_snoc]
        have hpl2 : P.length ≤ 1000 := by omega
        have HROOT := Lib.hid hroot
        have HIH := Lib.hid ih
        have hbw := Below.refl w.heap.size w
        clear hj
        clear hpr hP hR hroot ih hk hs hf hln hall hv hpl hki
        go_enter Tryz.func86, Tryz.ntmps86
        go_wp2_with fail
        refine hleft.mono ?_
        rintro e w1 ⟨rfl, rfl⟩
        clear hleft
        go_wp2_with fail
        go_region_held3 (fun W => Below w1.heap.size w1 W) (first | assumption | exact Below.drew (by assumption) | exact Below.allocW (by assumption))
          (first
            | (go_at_call 86; (with_reducible refine (HIH.out _ ?_).mono ?_); (first | assumption | exact Below.drew (by assumption)); rintro e w2 ⟨v2, rfl, own2, b2⟩; (have hb2 := Below.next (Below.drew hbw) b2))
            | (go_at_call 49; (with_reducible refine (HROOT.out _ ?_).mono ?_); (first | assumption | exact Below.drew (by assumption)); rintro e w3 ⟨rfl, b3⟩; (have hb3 := Below.next hb2 b3); (have own3 : w3.ownsRow w1.heap.size 9 1 v2 P.length (svs P) := ownsRow_below b3 own2); (have hle3 := hb3.size))
            | (refine step_append_lies _ (by rfl) _ _ 52 (by rfl) w1.heap.size 9 i0 (.string ⟨#[]⟩) 1 16 Tryz.underlying52 hi0 hz0 hz1 hz2 rfl (by decide) v2 P.length _ (by rfl) (own3.alloc _) ⟨w3.heap.size, 0, none⟩ 1 1 [.string (str R)] (by rfl) (by rfl) (cell_one_new _ _ _) (by simp [Value.oneCell']) (by decide) (by unfold maxLen; omega) (by omega) (by simp; omega) _ rfl ?_; intro gg cp w5 own5 g5 _ _; (have hb5 := Below.appended hb3 hle3 own3 g5))
            | fail)
        go_wp2_with fail
        go_ret
        exact ⟨_, rfl, own5, hb5⟩

set_option maxRecDepth 100000 in
set_option maxHeartbeats 4000000 in
theorem extR_rows (g o n c : Nat) (l : List (List UInt8)) (m : Nat) (w : World) (hv : RowsAt w g o n c l) (hn : n ≤ 1000) (hm1 : 1 ≤ m) (hmn : m ≤ n) (hs : ∀ x ∈ l, x.length ≤ 900000) :
    Calls Tryz.prog 54 #[.slice (some ⟨g, o, none⟩) n c, .int .i64 m] w fun e w' => ∃ v, e = .returned (.tuple #[v, .int .i64 0]) ∧ w'.ownsRow w.heap.size 9 1 v (extL l m).length (svs (extL l m)) ∧ Below w.heap.size w w' := by
  have t0 : decide ((m : Int) < 0) = false := by simp
  have t1 : decide (n < m) = false := by simp; omega
  have t2 : ((m : Int) == 0) = false := by simp; omega
  have t3 : (m == 0) = false := by simp; omega
  have hel : extL l m = partL l m true := by unfold extL; rw [if_neg (by omega)]
  have hp := partR_rows l.length g o n c l m true w hv (Nat.le_refl _) hn hm1 hmn hs
  rw [hel]
  have HP := Lib.hid hp
  clear hp hel hs hv
  go_enter Tryz.func54, Tryz.ntmps54
  go_wp2_with fail
  refine HP.out.mono ?_
  rintro e w1 ⟨v1, rfl, own1, b1⟩
  go_wp2_with fail
  go_ret2
  exact ⟨_, rfl, own1, b1⟩
end Go.Proofs.YtheebajklnljdaaGreatDoor
end

