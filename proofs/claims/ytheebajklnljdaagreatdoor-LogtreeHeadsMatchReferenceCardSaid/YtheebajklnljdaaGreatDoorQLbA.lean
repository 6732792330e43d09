/- The law's same (two lists of strings); the reference's Left; the strings on a path. -/
import Derived.Test.YtheebajklnljdaaGreatDoorGk
import Derived.Test.YtheebajklnljdaaGreatDoorQTreeW
import Derived.Test.YtheebajklnljdaaGreatDoorGs
import Derived.Laws.AppendOwnNone
namespace Go.Proofs.YtheebajklnljdaaGreatDoor
open Go Go.RowKit
attribute [local go_sem] Oper.semAt_some

theorem ListAt.at_ {w : World} {A : Option Addr} {n c : Nat} {l : List (List UInt8)} (h : ListAt w (.slice A n c) l) {k : Nat} (hk : k < l.length) :
    ∃ g o x, A = some ⟨g, o, none⟩ ∧ l[k]? = some x ∧ g < w.heap.size ∧ w.cell? ⟨g, o + k, none⟩ = some (.string (str x)) := by
  obtain ⟨g, o, c', e, hr⟩ := h.rows (by rintro rfl; simp at hk)
  injection e with e1 e2 e3
  exact ⟨g, o, l[k], e1, List.getElem?_eq_getElem hk, hr.2.2.2.1, hr.2.2.2.2 k _ (List.getElem?_eq_getElem hk)⟩

theorem own_new (w : World) (t : TypeId) (x : Value) (base : Nat) (hb : base ≤ w.heap.size) : (w.alloc (.cells #[x] t)).ownsRow base t 1 (.slice (some ⟨w.heap.size, 0, none⟩) 1 1) 1 [x] :=
  ⟨rfl, .inr ⟨w.heap.size, 1, #[x], rfl, hb, heap_alloc_new w _, Nat.le_refl _, by unfold maxLen; omega, rfl, rfl⟩⟩

theorem sameS_ok (A B : Option Addr) (c d : Nat) (a b : List (List UInt8)) (w : World) (ha : ListAt w (.slice A a.length c) a) (hb : ListAt w (.slice B b.length d) b) (la : a.length ≤ 1000) :
    Calls Tryz.prog 27 #[.slice A a.length c, .slice B b.length d] w fun e w' => e = .returned (.bool (decide (a = b))) ∧ Below w.heap.size w w' := by
  obtain ⟨R, hRR⟩ : ∃ R, R = decide (a = b) := ⟨_, rfl⟩
  rw [← hRR]
  by_cases hlen : a.length = b.length
  · have t1 : ((a.length : Int) != (b.length : Int)) = false := by simp; omega
    have t2 : (a.length != b.length) = false := by simp; omega
    have HRR := Lib.hid hRR
    have HLEN := Lib.hid hlen
    clear hRR hlen
    go_enter Tryz.func27, Tryz.ntmps27
    go_wp2_with fail
    go_loopw [5] (fun kv wr => ∃ k : Nat, k ≤ a.length ∧ kv = .int .i64 k ∧ Hid (a.take k = b.take k) ∧ Below w.heap.size w wr) (fun kv _ => a.length - (intOf kv).toNat)
    case atStart => exact ⟨0, by omega, rfl, Lib.hid rfl, Below.refl _ _⟩
    case round =>
      obtain ⟨k, hk, rfl, HK, hbl⟩ := hrel
      clear t1 t2
      by_cases h1 : k < a.length
      · have t1 : decide (k < a.length) = true := by simpa using h1
        obtain ⟨ga, oa, x, rfl, hx, hga, cx0⟩ := ha.at_ h1
        obtain ⟨gb, ob, y, rfl, hy, hgb, cy0⟩ := hb.at_ (show k < b.length by rw [← HLEN.out]; exact h1)
        have cx := (hbl.cell (p := ⟨ga, oa + k, none⟩) hga).trans cx0
        have cy := (hbl.cell (p := ⟨gb, ob + k, none⟩) hgb).trans cy0
        have q0 : (0 : Int) ≤ (k : Int) := by omega
        have q1 : (k : Int) < (a.length : Int) := by omega
        have q2 : (k : Int) < (b.length : Int) := by have := HLEN.out; omega
        by_cases hxy : x = y
        · have HN : Hid (a.take (k + 1) = b.take (k + 1)) := Lib.hid (by rw [List.take_add_one, List.take_add_one, hx, hy, HK.out, hxy])
          subst hxy
          clear hx hy cx0 cy0
          go_wp2_with fail
          go_quiet (fail)
          have hb2 : Below w.heap.size w (wr.drewN nq) := below_drewN' hbl nq
          go_wp2_with fail
          exact ⟨⟨k + 1, by omega, by go_num, HN, hb2⟩, by simp [intOf]; omega⟩
        · have t3 : (x == y) = false := by simpa using hxy
          have HF : Hid (R = false) := Lib.hid (by
            rw [HRR.out]
            refine decide_eq_false fun e => hxy ?_
            rw [e, hy] at hx
            exact (Option.some.inj hx).symm)
          clear hx hy cx0 cy0 hxy
          go_wp2_with fail
          go_quiet (fail)
          have hb2 : Below w.heap.size w (wr.drewN nq) := below_drewN' hbl nq
          go_wp2_with fail
          go_ret
          exact ⟨(congrArg (fun b => Ending.returned (Value.bool b)) HF.out).symm, hb2⟩
      · have t1 : decide (k < a.length) = false := by simpa using h1
        have HF : Hid (R = true) := Lib.hid (by
          rw [HRR.out]
          refine decide_eq_true ?_
          have h := HK.out
          rw [List.take_of_length_le (by omega), List.take_of_length_le (by have := HLEN.out; omega)] at h
          exact h)
        go_wp2_with fail
        go_ret
        exact ⟨(congrArg (fun b => Ending.returned (Value.bool b)) HF.out).symm, hbl⟩
  · have t1 : ((a.length : Int) != (b.length : Int)) = true := by simp; omega
    have t2 : (a.length != b.length) = true := by simpa using hlen
    have HF : Hid (R = false) := Lib.hid (by rw [hRR]; exact decide_eq_false fun e => hlen (by rw [e]))
    clear hRR hlen
    go_enter Tryz.func27, Tryz.ntmps27
    go_wp2_with fail
    go_ret
    exact ⟨(congrArg (fun b => Ending.returned (Value.bool b)) HF.out).symm, Below.refl _ _⟩

theorem leftR_ok (n : Nat) (w : World) (h2 : 2 ≤ n) (hn : n ≤ 9223372036854775807) : Calls Tryz.prog 68 #[.int .i64 n] w fun e w' => e = .returned (.int .i64 (leftN n)) ∧ w' = w := by
  go_enter Tryz.func68, Tryz.ntmps68
  go_wp2_with fail
  go_loop [3] (fun kv => ∃ (k j : Nat), kv = .int .i64 k ∧ Hid (k = 2 ^ j) ∧ k < n ∧ 1 ≤ k) (fun kv => n - (intOf kv).toNat)
  case atStart => exact ⟨1, 0, rfl, rfl, by omega, by omega⟩
  case round =>
    obtain ⟨k, j, rfl, HK, hk, hk1⟩ := hrel
    obtain ⟨d, hd⟩ : ∃ d, d = n - k := ⟨_, rfl⟩
    have e1 : (n : Int) - (k : Int) = (d : Int) := by omega
    by_cases h : k < d
    · have t1 : decide (k < d) = true := by simpa using h
      have hlt : 2 * k < n := by omega
      obtain ⟨b, hb⟩ : ∃ b, b = 2 * k := ⟨_, rfl⟩
      have e2 : (2 : Int) * (k : Int) = (b : Int) := by omega
      have HB : Hid (b = 2 ^ (j + 1)) := Lib.hid (by rw [hb, HK.out, Nat.pow_succ]; omega)
      have hbn : b < n := by omega
      have hb1 : 1 ≤ b := by omega
      have hbk : k < b := by omega
      clear hd hb hlt
      go_wp2_with fail
      go_round
      case rel => exact ⟨b, j + 1, rfl, HB, hbn, hb1⟩
      case measure => simp [intOf]; omega
    · have t1 : decide (k < d) = false := by simpa using h
      have hb : leftN n = k := by
        rw [HK.out]
        exact leftN_eq n j (by rw [← HK.out]; exact hk) (by rw [Nat.pow_succ, ← HK.out]; omega)
      have HB2 := Lib.hid hb
      clear hb hd
      go_wp2_with fail
      go_ret
      exact ⟨ret_i64 (congrArg (fun x : Nat => (x : Int)) HB2.out.symm), rfl⟩

theorem svs_one (l : List (List UInt8)) : ∀ u ∈ svs l, u.oneCell' = true := by
  intro u hu
  unfold svs at hu
  obtain ⟨x, _, rfl⟩ := List.mem_map.1 hu
  rfl
theorem cat3 (c : UInt8) (a b : List UInt8) : (⟨#[c]⟩ : ByteArray) ++ str a ++ str b = str (c :: (a ++ b)) := by
  have : (⟨#[c]⟩ : ByteArray) = str [c] := rfl
  rw [this, cat_str, cat_str]
  rfl
theorem cat2 (c : UInt8) (a : List UInt8) : (⟨#[c]⟩ : ByteArray) ++ str a = str (c :: a) := by
  have : (⟨#[c]⟩ : ByteArray) = str [c] := rfl
  rw [this, cat_str]
  rfl

/-- the reference's Preimages: from the leaf upwards -/
def preL (s : List UInt8) (r : List (List UInt8)) (n i : Nat) : List (List UInt8) := (wayR s r n i).1.reverse
theorem wayR_top (s : List UInt8) : ∀ (r : List (List UInt8)) (n i : Nat), ∃ t l, (wayR s r n i).1 = t :: l ∧ shaL t = (wayR s r n i).2
  | [], n, i => ⟨_, [], rfl, rfl⟩
  | x :: r, n, i => by
    unfold wayR
    split
    · exact ⟨_, [], rfl, rfl⟩
    · split
      · exact ⟨_, _, rfl, rfl⟩
      · exact ⟨_, _, rfl, rfl⟩
theorem preL_top (s : List UInt8) (r : List (List UInt8)) (n i : Nat) : ∃ t l, preL s r n i = l ++ [t] ∧ shaL t = (wayR s r n i).2 := by
  obtain ⟨t, l, h1, h2⟩ := wayR_top s r n i
  exact ⟨t, l.reverse, by unfold preL; rw [h1, List.reverse_cons], h2⟩
theorem preL_small (s : List UInt8) (r : List (List UInt8)) (n i : Nat) (h : n ≤ 1 ∨ r = []) : preL s r n i = [0 :: s] := by
  unfold preL
  cases r with
  | nil => rfl
  | cons x r =>
    unfold wayR
    rw [if_pos (by rcases h with h | h; exact h; cases h)]
    rfl
theorem preL_left (s x : List UInt8) (r : List (List UInt8)) (n i : Nat) (h : 1 < n) (hi : i < leftN n) : preL s (x :: r) n i = preL s r (leftN n) i ++ [1 :: ((wayR s r (leftN n) i).2 ++ x)] := by
  unfold preL
  rw [wayR, if_neg (by omega), if_pos hi, List.reverse_cons]
theorem preL_right (s x : List UInt8) (r : List (List UInt8)) (n i : Nat) (h : 1 < n) (hi : ¬ i < leftN n) : preL s (x :: r) n i = preL s r (n - leftN n) (i - leftN n) ++ [1 :: (x ++ (wayR s r (n - leftN n) (i - leftN n)).2)] := by
  unfold preL
  rw [wayR, if_neg (by omega), if_neg hi, List.reverse_cons]
theorem wayR_count (s : List UInt8) : ∀ (r : List (List UInt8)) (n i : Nat), (wayR s r n i).1.length ≤ r.length + 1
  | [], _, _ => by simp [wayR]
  | x :: r, n, i => by
    unfold wayR
    have h1 := wayR_count s r (leftN n) i
    have h2 := wayR_count s r (n - leftN n) (i - leftN n)
    split
    · simp
    · split
      · simp; omega
      · simp; omega
theorem preL_count (s : List UInt8) (r : List (List UInt8)) (n i : Nat) : (preL s r n i).length ≤ r.length + 1 := by
  unfold preL; rw [List.length_reverse]; exact wayR_count s r n i
theorem wayR_val32 (s : List UInt8) : ∀ (r : List (List UInt8)) (n i : Nat), (wayR s r n i).2.length = 32
  | [], _, _ => rfl
  | x :: r, n, i => by
    unfold wayR
    split
    · rfl
    · split <;> rfl
theorem wayR_brief (s : List UInt8) (hs : s.length ≤ 100) : ∀ (r : List (List UInt8)) (n i : Nat), (∀ x ∈ r, x.length ≤ 100) → ∀ z ∈ (wayR s r n i).1, z.length ≤ 200
  | [], _, _, _, z, hz => by
    simp [wayR] at hz
    subst hz
    simp; omega
  | x :: r, n, i, hr, z, hz => by
    have hx := hr x (by simp)
    have hr' : ∀ y ∈ r, y.length ≤ 100 := fun y hy => hr y (by simp [hy])
    unfold wayR at hz
    split at hz
    · simp at hz
      subst hz
      simp; omega
    · split at hz
      · rcases List.mem_cons.1 hz with rfl | hz
        · rw [List.length_cons, List.length_append, wayR_val32]; omega
        · exact wayR_brief s hs r _ _ hr' z hz
      · rcases List.mem_cons.1 hz with rfl | hz
        · rw [List.length_cons, List.length_append, wayR_val32]; omega
        · exact wayR_brief s hs r _ _ hr' z hz
theorem preL_brief (s : List UInt8) (hs : s.length ≤ 100) (r : List (List UInt8)) (n i : Nat) (hr : ∀ x ∈ r, x.length ≤ 100) : ∀ z ∈ preL s r n i, z.length ≤ 200 := fun z hz => wayR_brief s hs r n i hr z (List.mem_reverse.1 hz)

/-- two different strings of two lists have one digest -/
def collA (a b : List (List UInt8)) : Bool := a.any fun x => b.any fun y => !decide (x = y) && (shaL x == shaL y)
theorem collA_of {a b : List (List UInt8)} (h : CollL a b) : collA a.reverse b.reverse = true := by
  obtain ⟨j, x, y, h1, h2, h3, h4⟩ := h
  unfold collA
  refine List.any_eq_true.2 ⟨x, List.mem_reverse.2 (List.mem_of_getElem? h1), List.any_eq_true.2 ⟨y, List.mem_reverse.2 (List.mem_of_getElem? h2), ?_⟩⟩
  rw [decide_eq_false h3, h4]
  simp
end Go.Proofs.YtheebajklnljdaaGreatDoor
