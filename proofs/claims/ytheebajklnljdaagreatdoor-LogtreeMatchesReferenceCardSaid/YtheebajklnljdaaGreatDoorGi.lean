/- Joined: RowE RowB RowC RowD RowF RowG LogH. -/
import Derived.Test.YtheebajklnljdaaGreatDoorQRowA
import Derived.ChangeKeysEq
import Derived.Test.YtheebajklnljdaaGreatDoorGc
import Derived.Maps.AppendAt

section
/- Two arrays of three numbers are compared. -/
namespace Go.Proofs.YtheebajklnljdaaGreatDoor
open Go Go.RowKit

theorem run_eq3 (W : World) (a b c x y z : Int) :
    (Op.equalIn 10000 70 (.agg #[.int .i64 a, .int .i64 b, .int .i64 c]) (.agg #[.int .i64 x, .int .i64 y, .int .i64 z])).run Tryz.prog W = .ok (a == x && (b == y && c == z)) W := by
  obtain ⟨i0, hi⟩ : ∃ i, Tryz.prog.info? 3 = some i := Option.isSome_iff_exists.1 (by kernel_rfl)
  have hc : Tryz.prog.cellsOf 3 = 1 := by kernel_rfl
  have hr : List.range 3 = [0, 1, 2] := rfl
  rw [run_equalIn_array (w := W) 9999 _ _ Tryz.underlying70 hi, hc, hr]
  simp [Op.eqItems, part, run_sizeOf, hi, run_equalIn_int, Tryz.underlying3, go_sem]
  by_cases h1 : a = x <;> by_cases h2 : b = y <;> by_cases h3 : c = z <;> simp [h1, h2, h3]

theorem run_eqT (W : World) (v u : Int × Int × Int) :
    (Op.equalIn 10000 70 (.agg #[.int .i64 v.1, .int .i64 v.2.1, .int .i64 v.2.2]) (.agg #[.int .i64 u.1, .int .i64 u.2.1, .int .i64 u.2.2])).run Tryz.prog W = .ok (decide (v = u)) W := by
  obtain ⟨a, b, c⟩ := v
  obtain ⟨x, y, z⟩ := u
  rw [run_eq3]
  by_cases h1 : a = x <;> by_cases h2 : b = y <;> by_cases h3 : c = z <;> simp [h1, h2, h3]
theorem guard3 : Tryz.prog.eqGuardType Tryz.prog.depth 70 = false := by kernel_rfl
end Go.Proofs.YtheebajklnljdaaGreatDoor
end

section
/- Changes: half, sound, ValidChange. -/
namespace Go.Proofs.YtheebajklnljdaaGreatDoor
open Go Go.RowKit
attribute [local go_sem] Oper.semAt_some

/-- a change as a value: ten cells -/
def chgV (c : Chg) : Value := .agg #[.int .i64 c.table, .int .i64 c.key, .bool c.had, .int .i64 c.old.1, .int .i64 c.old.2.1, .int .i64 c.old.2.2, .bool c.has, .int .i64 c.new.1, .int .i64 c.new.2.1, .int .i64 c.new.2.2]
def arrV (v : Int × Int × Int) : Value := .agg #[.int .i64 v.1, .int .i64 v.2.1, .int .i64 v.2.2]
/-- half -/
def halfV (c : Chg) (there : Bool) (v : Int × Int × Int) : Value := if there then rowV c.table c.key v else rowV 0 0 (0, 0, 0)

set_option maxRecDepth 100000 in
set_option maxHeartbeats 4000000 in
theorem half_ok (c : Chg) (there : Bool) (v : Int × Int × Int) (w : World) :
    Calls Tryz.prog 140 #[chgV c, .bool there, arrV v] w fun e w' => e = .returned (.tuple #[halfV c there v, .bool there]) ∧ Below w.heap.size w w' := by
  obtain ⟨t, k, had, ⟨o0, o1, o2⟩, has, ⟨n0, n1, n2⟩⟩ := c
  obtain ⟨a, b, d⟩ := v
  have hb3 := fun o1 o2 o3 => Below.alloc (Below.alloc (Below.alloc (Below.refl w.heap.size w) (Nat.le_refl _) o1) (by rw [World.size_alloc]; omega) o2) (by rw [World.size_alloc, World.size_alloc]; omega) o3
  have HB := Lib.hid hb3
  clear hb3
  unfold chgV arrV halfV rowV
  dsimp only
  cases there
  · rw [if_neg (by decide)]
    go_enter Tryz.func140, Tryz.ntmps140
    go_wp2_with fail
    go_returns
    exact ⟨rfl, HB.out _ _ _⟩
  · rw [if_pos rfl]
    go_enter Tryz.func140, Tryz.ntmps140
    go_wp2_with fail
    go_returns
    exact ⟨rfl, HB.out _ _ _⟩

theorem tri_eq (v : Int × Int × Int) : decide (v = (0, 0, 0)) = (decide (v.1 = 0) && decide (v.2.1 = 0) && decide (v.2.2 = 0)) := by
  obtain ⟨a, b, c⟩ := v
  simp [Bool.and_assoc]

set_option maxRecDepth 100000 in
set_option maxHeartbeats 4000000 in
theorem sound_ok (c : Chg) (there : Bool) (v : Int × Int × Int) (w : World) :
    Calls Tryz.prog 136 #[chgV c, .bool there, arrV v] w fun e w' => e = .returned (.bool (soundB c there v)) ∧ Below w.heap.size w w' := by
  have hh := fun W => half_ok c there v W
  have hv := fun W => rowValid_ok c.table c.key v W
  obtain ⟨R, hR⟩ : ∃ R, R = rowB c.table c.key v := ⟨_, rfl⟩
  rw [← hR] at hv
  have HH := Lib.hid hh
  have HV := Lib.hid hv
  have hb2 := fun o1 o2 => Below.alloc (Below.alloc (Below.refl w.heap.size w) (Nat.le_refl _) o1) (by rw [World.size_alloc]; omega) o2
  have HB := Lib.hid hb2
  cases there
  · have hs : soundB c false v = decide (v = (0, 0, 0)) := by simp [soundB]
    rw [hs]
    clear hh hv hb2 hs HV hR
    have hq := fun W => run_eqT W v (0, 0, 0)
    obtain ⟨y, hy⟩ : ∃ y, y = decide (v = (0, 0, 0)) := ⟨_, rfl⟩
    rw [← hy] at hq ⊢
    have hgd := guard3
    clear hy
    obtain ⟨t, k, had, ⟨o0, o1, o2⟩, has, ⟨n0, n1, n2⟩⟩ := c
    obtain ⟨a, b, d⟩ := v
    unfold chgV arrV at HH ⊢
    unfold halfV rowV at HH
    dsimp only at HH hq ⊢
    go_enter Tryz.func136, Tryz.ntmps136
    go_wp2_with fail
    refine (HH.out _).mono ?_
    rintro e w1 ⟨rfl, b1⟩
    have h1 : BlkIs w1 (w.heap.size + 1) 70 [.int .i64 a, .int .i64 b, .int .i64 d] := (b1.block (w.heap.size + 1) (by simp [World.size_alloc])).trans (alloc_new_at _ _ _ (by rw [World.size_alloc]))
    have c0 : w1.cell? ⟨w.heap.size + 1, 0, none⟩ = some (.int .i64 a) := h1.cell 0
    have c1 : w1.cell? ⟨w.heap.size + 1, 1, none⟩ = some (.int .i64 b) := h1.cell 1
    have c2 : w1.cell? ⟨w.heap.size + 1, 2, none⟩ = some (.int .i64 d) := h1.cell 2
    have hlt := BlkIs.lt h1
    have hb := Below.next (HB.out _ _) b1
    clear b1 h1
    cases y
    · go_wp2_with fail
      go_ret
      exact ⟨rfl, Below.alloc hb hb.size _⟩
    · go_wp2_with fail
      go_ret
      exact ⟨rfl, Below.alloc hb hb.size _⟩
  · have hs : soundB c true v = R := by simp [soundB, hR]
    rw [hs]
    clear hh hv hb2 hs hR
    obtain ⟨t, k, had, ⟨o0, o1, o2⟩, has, ⟨n0, n1, n2⟩⟩ := c
    obtain ⟨a, b, d⟩ := v
    unfold chgV arrV at HH ⊢
    unfold halfV rowV at HH
    unfold rowV at HV
    dsimp only at HH HV ⊢
    go_enter Tryz.func136, Tryz.ntmps136
    go_wp2_with fail
    refine (HH.out _).mono ?_
    rintro e w1 ⟨rfl, b1⟩
    have hb := Below.next (HB.out _ _) b1
    have hle := hb.size
    clear b1
    go_wp2_with fail
    refine (HV.out _).mono ?_
    rintro e w2 ⟨rfl, b2⟩
    have hb2 := Below.next (Below.alloc hb hle _) b2
    cases R
    · go_wp2_with fail
      go_ret
      exact ⟨rfl, hb2⟩
    · go_wp2_with fail
      go_ret
      exact ⟨rfl, hb2⟩
end Go.Proofs.YtheebajklnljdaaGreatDoor
end

section
/- ValidChange. -/
namespace Go.Proofs.YtheebajklnljdaaGreatDoor
open Go Go.RowKit
attribute [local go_sem] Oper.semAt_some

set_option maxRecDepth 100000 in
set_option maxHeartbeats 8000000 in
theorem chgValid_ok (c : Chg) (w : World) :
    Calls Tryz.prog 114 #[chgV c] w fun e w' => e = .returned (.bool (chgB c)) ∧ Below w.heap.size w w' := by
  have hs1 := fun W => sound_ok c c.had c.old W
  have hs2 := fun W => sound_ok c c.has c.new W
  have hq := fun W => run_eqT W c.old c.new
  obtain ⟨y, hy⟩ : ∃ y, decide (c.old = c.new) = y := ⟨_, rfl⟩
  obtain ⟨r1, h1⟩ : ∃ y, soundB c c.had c.old = y := ⟨_, rfl⟩
  obtain ⟨r2, h2⟩ : ∃ y, soundB c c.has c.new = y := ⟨_, rfl⟩
  have hR : chgB c = (((c.had != c.has) || (c.had && !y)) && r1 && r2) := by unfold chgB; rw [hy, h1, h2]
  rw [hR]
  rw [hy] at hq
  rw [h1] at hs1
  rw [h2] at hs2
  have hgd := guard3
  have HS1 := Lib.hid hs1
  have HS2 := Lib.hid hs2
  have hb1 := fun o => Below.alloc (Below.refl w.heap.size w) (Nat.le_refl _) o
  have HB := Lib.hid hb1
  clear hR hy h1 h2 hs1 hs2 hb1
  obtain ⟨t, k, had, ⟨o0, o1, o2⟩, has, ⟨n0, n1, n2⟩⟩ := c
  unfold chgV arrV at HS1 HS2
  unfold chgV
  dsimp only at HS1 HS2 hq ⊢
  have cells : ∀ W : World, Below (w.alloc (.cells #[.int .i64 t, .int .i64 k, .bool had, .int .i64 o0, .int .i64 o1, .int .i64 o2, .bool has, .int .i64 n0, .int .i64 n1, .int .i64 n2] 72)).heap.size (w.alloc (.cells #[.int .i64 t, .int .i64 k, .bool had, .int .i64 o0, .int .i64 o1, .int .i64 o2, .bool has, .int .i64 n0, .int .i64 n1, .int .i64 n2] 72)) W →
      BlkIs W w.heap.size 72 [.int .i64 t, .int .i64 k, .bool had, .int .i64 o0, .int .i64 o1, .int .i64 o2, .bool has, .int .i64 n0, .int .i64 n1, .int .i64 n2] := fun W hW =>
    (hW.block w.heap.size (by rw [World.size_alloc]; omega)).trans (World.alloc_heap_new w _)
  have HC := Lib.hid cells
  clear cells
  cases had <;> cases has
  · go_enter Tryz.func114, Tryz.ntmps114
    go_wp2_with fail
    go_ret
    exact ⟨rfl, HB.out _⟩
  · go_enter Tryz.func114, Tryz.ntmps114
    go_wp2_with fail
    refine (HS1.out _).mono ?_
    rintro e w1 ⟨rfl, b1⟩
    have hk := HC.out w1 b1
    have hb := Below.next (HB.out _) b1
    have c0 := hk.cell 0
    have c1 := hk.cell 1
    have c2 := hk.cell 2
    have c3 := hk.cell 3
    have c4 := hk.cell 4
    have c5 := hk.cell 5
    have c6 := hk.cell 6
    have c7 := hk.cell 7
    have c8 := hk.cell 8
    have c9 := hk.cell 9
    simp only [List.getElem?_cons_zero, List.getElem?_cons_succ] at c0 c1 c2 c3 c4 c5 c6 c7 c8 c9
    have hlt := BlkIs.lt hk
    clear b1 hk
    cases r1
    · go_wp2_with fail
      go_ret
      exact ⟨rfl, hb⟩
    go_wp2_with fail
    refine (HS2.out _).mono ?_
    rintro e w2 ⟨rfl, b2⟩
    have hb2 := Below.next hb b2
    go_wp2_with fail
    go_ret
    exact ⟨rfl, hb2⟩
  · go_enter Tryz.func114, Tryz.ntmps114
    go_wp2_with fail
    refine (HS1.out _).mono ?_
    rintro e w1 ⟨rfl, b1⟩
    have hk := HC.out w1 b1
    have hb := Below.next (HB.out _) b1
    have c0 := hk.cell 0
    have c1 := hk.cell 1
    have c2 := hk.cell 2
    have c3 := hk.cell 3
    have c4 := hk.cell 4
    have c5 := hk.cell 5
    have c6 := hk.cell 6
    have c7 := hk.cell 7
    have c8 := hk.cell 8
    have c9 := hk.cell 9
    simp only [List.getElem?_cons_zero, List.getElem?_cons_succ] at c0 c1 c2 c3 c4 c5 c6 c7 c8 c9
    have hlt := BlkIs.lt hk
    clear b1 hk
    cases r1
    · go_wp2_with fail
      go_ret
      exact ⟨rfl, hb⟩
    go_wp2_with fail
    refine (HS2.out _).mono ?_
    rintro e w2 ⟨rfl, b2⟩
    have hb2 := Below.next hb b2
    go_wp2_with fail
    go_ret
    exact ⟨rfl, hb2⟩
  · cases y
    · go_enter Tryz.func114, Tryz.ntmps114
      go_wp2_with fail
      refine (HS1.out _).mono ?_
      rintro e w1 ⟨rfl, b1⟩
      have hk := HC.out w1 b1
      have hb := Below.next (HB.out _) b1
      have c0 := hk.cell 0
      have c1 := hk.cell 1
      have c2 := hk.cell 2
      have c3 := hk.cell 3
      have c4 := hk.cell 4
      have c5 := hk.cell 5
      have c6 := hk.cell 6
      have c7 := hk.cell 7
      have c8 := hk.cell 8
      have c9 := hk.cell 9
      simp only [List.getElem?_cons_zero, List.getElem?_cons_succ] at c0 c1 c2 c3 c4 c5 c6 c7 c8 c9
      have hlt := BlkIs.lt hk
      clear b1 hk
      cases r1
      · go_wp2_with fail
        go_ret
        exact ⟨rfl, hb⟩
      go_wp2_with fail
      refine (HS2.out _).mono ?_
      rintro e w2 ⟨rfl, b2⟩
      have hb2 := Below.next hb b2
      go_wp2_with fail
      go_ret
      exact ⟨rfl, hb2⟩
    · go_enter Tryz.func114, Tryz.ntmps114
      go_wp2_with fail
      go_ret
      exact ⟨rfl, HB.out _⟩
end Go.Proofs.YtheebajklnljdaaGreatDoor
end

section
/- put. -/
namespace Go.Proofs.YtheebajklnljdaaGreatDoor
open Go Go.RowKit
attribute [local go_sem] Oper.semAt_some

theorem putsL_len (l : List Int) : (putsL l).length ≤ 9 * l.length := by
  induction l with
  | nil => simp [putsL]
  | cons x l ih =>
    have := putL_len x
    have e : putsL (x :: l) = putL x ++ putsL l := by simp [putsL]
    rw [e, List.length_append, List.length_cons]
    omega
theorem putsL_snoc (l : List Int) (x : Int) : putsL (l ++ [x]) = putsL l ++ putL x := by simp [putsL]

set_option maxRecDepth 100000 in
set_option maxHeartbeats 4000000 in
theorem put_ok (g o c : Nat) (l : List Int) (w : World) (hg : g < w.heap.size) (hl : l.length ≤ 1000) (hok : ∀ n ∈ l, IntOk n) (hc : ∀ (j : Nat) x, l[j]? = some x → w.cell? ⟨g, o + j, none⟩ = some (.int .i64 x)) :
    Calls Tryz.prog 88 #[.slice (some ⟨g, o, none⟩) l.length c] w fun e w' => e = .returned (.string (str (putsL l))) ∧ Below w.heap.size w w' := by
  have HC := Lib.hid hc
  have HOK := Lib.hid hok
  clear hc hok
  go_enter Tryz.func88, Tryz.ntmps88
  go_wp2_with fail
  go_loopw [3, 10] (fun sv iv wr => ∃ k : Nat, k ≤ l.length ∧ iv = .int .i64 k ∧ sv = .string (str (putsL (l.take k))) ∧ Below w.heap.size w wr) (fun _ iv _ => l.length - (intOf iv).toNat)
  case atStart => exact ⟨0, by omega, rfl, rfl, Below.refl _ _⟩
  case round =>
    obtain ⟨k, hk, rfl, rfl, hb⟩ := hrel
    by_cases h1 : k < l.length
    · have t1 : decide (k < l.length) = true := by simpa using h1
      obtain ⟨x, hx⟩ : ∃ x, l[k]? = some x := ⟨_, List.getElem?_eq_getElem h1⟩
      have cx : wr.cell? ⟨g, o + k, none⟩ = some (.int .i64 x) := (hb.cell (p := ⟨g, o + k, none⟩) hg).trans (HC.out k x hx)
      obtain ⟨x1, x2⟩ := HOK.out x (List.mem_of_getElem? hx)
      obtain ⟨P, hP⟩ : ∃ P, P = putsL (l.take k) := ⟨_, rfl⟩
      have hPl : P.length ≤ 9 * k := by
        rw [hP]
        refine Nat.le_trans (putsL_len _) ?_
        rw [List.length_take]; omega
      have hn : putsL (l.take (k + 1)) = P ++ putL x := by
        rw [List.take_add_one, hx, hP]
        exact putsL_snoc _ _
      have hxl := putL_len x
      have s1 : ¬ 9223372036854775807 < P.length + (putL x).length := by omega
      have hcat : str P ++ (⟨(putL x).toArray⟩ : ByteArray) = str (P ++ putL x) := cat_str P (putL x)
      have q0 : (0 : Int) ≤ (k : Int) := by omega
      have q1 : (k : Int) < (l.length : Int) := by omega
      rw [← hP]
      have HN := Lib.hid hn
      have HCAT := Lib.hid hcat
      clear hx hP hn hPl hxl hcat
      go_wp2_with fail
      refine (putInt_ok x x1 x2 wr).mono ?_
      rintro e w2 ⟨rfl, b2⟩
      have hb2 := Below.next hb b2
      go_wp2_with fail
      exact ⟨⟨k + 1, by omega, by go_num, by rw [HN.out, ← HCAT.out], hb2⟩, by simp [intOf]; omega⟩
    · have t1 : decide (k < l.length) = false := by simpa using h1
      have ht : l.take k = l := List.take_of_length_le (by omega)
      rw [ht]
      clear ht
      go_wp2_with fail
      go_ret
      exact ⟨rfl, hb⟩
end Go.Proofs.YtheebajklnljdaaGreatDoor
end

section
/- Slices of changes (ten cells an element); ValidRecord. -/
namespace Go.Proofs.YtheebajklnljdaaGreatDoor
open Go Go.RowKit
attribute [local go_sem] Oper.semAt_some

/-- the ten cells of a change -/
def chgCells (c : Chg) : List Value := [.int .i64 c.table, .int .i64 c.key, .bool c.had, .int .i64 c.old.1, .int .i64 c.old.2.1, .int .i64 c.old.2.2, .bool c.has, .int .i64 c.new.1, .int .i64 c.new.2.1, .int .i64 c.new.2.2]

/-- v is a slice of these changes, all below the heap's end -/
def ChgsAt (w : World) (v : Value) (xs : List Chg) : Prop :=
  ∃ A c, v = .slice A xs.length c ∧ xs.length ≤ c ∧ (0 < xs.length → ∃ g o, A = some ⟨g, o, none⟩ ∧ g < w.heap.size ∧ ∀ (j : Nat) x, xs[j]? = some x → ∀ (i : Nat) u, (chgCells x)[i]? = some u → w.cell? ⟨g, o + j * 10 + i, none⟩ = some u)

theorem ChgsAt.below {w w' : World} {v : Value} {xs : List Chg} (h : ChgsAt w v xs) (hb : Below w.heap.size w w') : ChgsAt w' v xs := by
  obtain ⟨A, c, hv, hc, hx⟩ := h
  refine ⟨A, c, hv, hc, fun h0 => ?_⟩
  obtain ⟨g, o, hA, hlt, hj⟩ := hx h0
  exact ⟨g, o, hA, Nat.lt_of_lt_of_le hlt hb.size, fun j x hx i u hu => (hb.cell (p := ⟨g, o + j * 10 + i, none⟩) hlt).trans (hj j x hx i u hu)⟩

/-- a record as a value -/
def recV (p : Int) (v : Value) : Value := .agg #[.int .i64 p, v]

theorem ascB_step (t k : Int) (c : Chg) (l : List Chg) : ascB t k (c :: l) = (chgB c && !(decide (c.table < t) || decide (c.table = t) && decide (c.key ≤ k)) && ascB c.table c.key l) := rfl

/-- the table and the key behind some changes -/
def lastC (l : List Chg) : Int × Int := match l.getLast? with | none => (-1, 0) | some c => (c.table, c.key)
/-- ascB, from the first changes on -/
theorem ascB_append (t k : Int) (a : List Chg) (c : Chg) (b : List Chg) : ascB t k (a ++ c :: b) = (ascB t k (a ++ [c]) && ascB c.table c.key b) := by
  induction a generalizing t k with
  | nil => simp [ascB, Bool.and_assoc]
  | cons x a ih => simp only [List.cons_append, ascB, ih, Bool.and_assoc]
end Go.Proofs.YtheebajklnljdaaGreatDoor
end

section
/- ValidRecord. -/
namespace Go.Proofs.YtheebajklnljdaaGreatDoor
open Go Go.RowKit
attribute [local go_sem] Oper.semAt_some

theorem recB_split (p : Int) (l : List Chg) : recB ⟨p, l⟩ = (withinB 1 10000 [p] && withinB 1 8 [(l.length : Nat)] && ascB (-1) 0 l) := by
  have e1 : decide (1 ≤ l.length) = decide ((1 : Int) ≤ (l.length : Nat)) := by congr 1; simp; omega
  have e2 : decide (l.length ≤ 8) = decide (((l.length : Nat) : Int) ≤ 8) := by congr 1; simp; omega
  unfold recB withinB
  dsimp only
  rw [e1, e2]
  simp [Bool.and_assoc]

set_option maxRecDepth 100000 in
set_option maxHeartbeats 8000000 in
theorem recValid_ok (p : Int) (A : Option Addr) (c : Nat) (l : List Chg) (w : World) (hv : ChgsAt w (.slice A l.length c) l) :
    Calls Tryz.prog 87 #[recV p (.slice A l.length c)] w fun e w' => e = .returned (.bool (recB ⟨p, l⟩)) ∧ Below w.heap.size w w' := by
  obtain ⟨y1, t1⟩ : ∃ y, withinB 1 10000 [p] = y := ⟨_, rfl⟩
  obtain ⟨y2, t2⟩ : ∃ y, withinB 1 8 [((l.length : Nat) : Int)] = y := ⟨_, rfl⟩
  have hb1 := fun o => Below.alloc (Below.refl w.heap.size w) (Nat.le_refl _) o
  obtain ⟨R, hR⟩ : ∃ R, R = ascB (-1) 0 l := ⟨_, rfl⟩
  rw [recB_split, t1, t2, ← hR]
  unfold recV
  have T1 := Lib.hid t1
  have T2 := Lib.hid t2
  have HB := Lib.hid hb1
  have HR := Lib.hid hR
  have HV := Lib.hid hv
  clear t1 t2 hb1 hR hv
  go_enter Tryz.func87, Tryz.ntmps87
  go_wp2_with fail
  refine (within_ok 1 10000 (w.heap.size + 1) 0 1 [p] _ (by simp [World.size_alloc]) (by simp) ?_).mono ?_
  · intro j x hj
    match j, hj with
    | 0, hj => cases hj; rw [cell_of_row _ _ 0 _ _ _ (alloc_new_at _ _ _ (by rw [World.size_alloc]))]; rfl
  rintro e w1 ⟨rfl, b1⟩
  have h0 : BlkIs w1 w.heap.size 35 [.int .i64 p, .slice A l.length c] := (b1.block w.heap.size (by simp [World.size_alloc]; omega)).trans ((Below.heap_alloc _ _ w.heap.size (by rw [World.size_alloc]; omega)).trans (World.alloc_heap_new w _))
  have hbw := Below.next (Below.alloc (HB.out _) (by rw [World.size_alloc]; omega) _) b1
  have c1 : w1.cell? ⟨w.heap.size, 1, none⟩ = some (.slice A l.length c) := h0.cell 1
  clear b1
  rw [T1.out]
  cases y1
  · go_wp2_with fail
    go_ret
    exact ⟨rfl, hbw⟩
  go_wp2_with fail
  refine (within_ok 1 8 w1.heap.size 0 1 [((l.length : Nat) : Int)] _ (by simp [World.size_alloc]) (by simp) ?_).mono ?_
  · intro j x hj
    match j, hj with
    | 0, hj => cases hj; rw [cell_of_row _ _ 0 _ _ _ (World.alloc_heap_new w1 _)]; rfl
  rintro e w3 ⟨rfl, b3⟩
  have hlt := BlkIs.lt h0
  have h3 : BlkIs w3 w.heap.size 35 [.int .i64 p, .slice A l.length c] := (b3.block w.heap.size (by rw [World.size_alloc]; omega)).trans ((Below.heap_alloc _ _ w.heap.size hlt).trans h0)
  have hb3 := Below.next (Below.alloc hbw hbw.size _) b3
  have hlt3 := BlkIs.lt h3
  have c13 : w3.cell? ⟨w.heap.size, 1, none⟩ = some (.slice A l.length c) := h3.cell 1
  clear b3 h0 c1 hbw h3
  have t2 := T2.out
  rw [t2]
  cases y2
  · go_wp2_with fail
    go_ret
    exact ⟨rfl, hb3⟩
  have hlen : 1 ≤ l.length ∧ l.length ≤ 8 := by
    simp [withinB] at t2
    omega
  obtain ⟨l1, l8⟩ := hlen
  clear t2
  go_wp2_with fail
  obtain ⟨Lb, hLb⟩ : ∃ n, n = w3.heap.size := ⟨_, rfl⟩
  have hLw : w.heap.size ≤ w3.heap.size := hb3.size
  have hl0 : BlkIs (w3.alloc (.cells #[.int .i64 (-1), .int .i64 0, .bool false, .int .i64 0, .int .i64 0, .int .i64 0, .bool false, .int .i64 0, .int .i64 0, .int .i64 0] 72)) w3.heap.size 72 (chgCells ⟨-1, 0, false, (0, 0, 0), false, (0, 0, 0)⟩) := World.alloc_heap_new w3 _
  have hbl := Below.alloc hb3 hLw (.cells #[.int .i64 (-1), .int .i64 0, .bool false, .int .i64 0, .int .i64 0, .int .i64 0, .bool false, .int .i64 0, .int .i64 0, .int .i64 0] 72)
  clear hLb c13
  go_loopw [23] (fun iv wr => ∃ (k : Nat) (lc : Chg), k ≤ l.length ∧ iv = .int .i64 k ∧ BlkIs wr w3.heap.size 72 (chgCells lc) ∧ Hid (R = ascB lc.table lc.key (l.drop k)) ∧ Below w.heap.size w wr) (fun iv _ => l.length - (intOf iv).toNat)
  case atStart => exact ⟨0, ⟨-1, 0, false, (0, 0, 0), false, (0, 0, 0)⟩, by omega, rfl, hl0, Lib.hid HR.out, hbl⟩
  case round =>
    clear hl0 hbl
    obtain ⟨k, lc, hk, rfl, hL, HA, hb⟩ := hrel
    by_cases h1 : k < l.length
    · have t1 : decide (k < l.length) = true := by simpa using h1
      obtain ⟨x, hx⟩ : ∃ x, l[k]? = some x := ⟨_, List.getElem?_eq_getElem h1⟩
      obtain ⟨A', c', hv, hc, hj⟩ := HV.out
      injection hv with e1 e2 e3
      subst e1 e3
      obtain ⟨g, o, rfl, hg, hj⟩ := hj (by omega)
      have hcell : ∀ (i : Nat) u, (chgCells x)[i]? = some u → wr.cell? ⟨g, o + k * 10 + i, none⟩ = some u := fun i u hu => (hb.cell (p := ⟨g, o + k * 10 + i, none⟩) hg).trans (hj k x hx i u hu)
      have c0 : wr.cell? ⟨g, o + k * 10, none⟩ = some (.int .i64 x.table) := hcell 0 _ rfl
      have c1 : wr.cell? ⟨g, o + k * 10 + 1, none⟩ = some (.int .i64 x.key) := hcell 1 _ rfl
      have c2 : wr.cell? ⟨g, o + k * 10 + 2, none⟩ = some (.bool x.had) := hcell 2 _ rfl
      have c3 : wr.cell? ⟨g, o + k * 10 + 3, none⟩ = some (.int .i64 x.old.1) := hcell 3 _ rfl
      have c4 : wr.cell? ⟨g, o + k * 10 + 4, none⟩ = some (.int .i64 x.old.2.1) := hcell 4 _ rfl
      have c5 : wr.cell? ⟨g, o + k * 10 + 5, none⟩ = some (.int .i64 x.old.2.2) := hcell 5 _ rfl
      have c6 : wr.cell? ⟨g, o + k * 10 + 6, none⟩ = some (.bool x.has) := hcell 6 _ rfl
      have c7 : wr.cell? ⟨g, o + k * 10 + 7, none⟩ = some (.int .i64 x.new.1) := hcell 7 _ rfl
      have c8 : wr.cell? ⟨g, o + k * 10 + 8, none⟩ = some (.int .i64 x.new.2.1) := hcell 8 _ rfl
      have c9 : wr.cell? ⟨g, o + k * 10 + 9, none⟩ = some (.int .i64 x.new.2.2) := hcell 9 _ rfl
      have q0 : (0 : Int) ≤ (k : Int) := by omega
      have q1 : (k : Int) < (l.length : Int) := by omega
      clear hcell hj
      go_wp2_with fail
      refine (chgValid_ok x _).mono ?_
      rintro e w4 ⟨rfl, b4⟩
      have hltL := BlkIs.lt hL
      have hx4 : BlkIs w4 wr.heap.size 72 (chgCells x) := (b4.block wr.heap.size (by rw [World.size_alloc]; omega)).trans (World.alloc_heap_new wr _)
      have hL4 : BlkIs w4 w3.heap.size 72 (chgCells lc) := (b4.block w3.heap.size (by rw [World.size_alloc]; omega)).trans ((Below.heap_alloc _ _ w3.heap.size hltL).trans hL)
      have hb4 := Below.next (Below.alloc hb hb.size _) b4
      have hdr : l.drop k = x :: l.drop (k + 1) := by
        obtain ⟨h2, h3⟩ := List.getElem?_eq_some_iff.1 hx
        rw [List.drop_eq_getElem_cons h2, h3]
      obtain ⟨r1, hr1⟩ : ∃ y, chgB x = y := ⟨_, rfl⟩
      obtain ⟨y3, t3⟩ : ∃ y, decide (x.table < lc.table) = y := ⟨_, rfl⟩
      obtain ⟨y4, t4⟩ : ∃ y, decide (x.table = lc.table) = y := ⟨_, rfl⟩
      obtain ⟨y5, t5⟩ : ∃ y, decide (x.key ≤ lc.key) = y := ⟨_, rfl⟩
      have t6 : (x.table == lc.table) = y4 := t4
      have ha := HA.out
      rw [hdr, ascB_step, hr1, t3, t4, t5] at ha
      have HA2 := Lib.hid ha
      rw [hr1]
      have d0 : w4.cell? ⟨wr.heap.size, 0, none⟩ = some (.int .i64 x.table) := hx4.cell 0
      have d1 : w4.cell? ⟨wr.heap.size, 1, none⟩ = some (.int .i64 x.key) := hx4.cell 1
      have d2 : w4.cell? ⟨wr.heap.size, 2, none⟩ = some (.bool x.had) := hx4.cell 2
      have d3 : w4.cell? ⟨wr.heap.size, 3, none⟩ = some (.int .i64 x.old.1) := hx4.cell 3
      have d4 : w4.cell? ⟨wr.heap.size, 4, none⟩ = some (.int .i64 x.old.2.1) := hx4.cell 4
      have d5 : w4.cell? ⟨wr.heap.size, 5, none⟩ = some (.int .i64 x.old.2.2) := hx4.cell 5
      have d6 : w4.cell? ⟨wr.heap.size, 6, none⟩ = some (.bool x.has) := hx4.cell 6
      have d7 : w4.cell? ⟨wr.heap.size, 7, none⟩ = some (.int .i64 x.new.1) := hx4.cell 7
      have d8 : w4.cell? ⟨wr.heap.size, 8, none⟩ = some (.int .i64 x.new.2.1) := hx4.cell 8
      have d9 : w4.cell? ⟨wr.heap.size, 9, none⟩ = some (.int .i64 x.new.2.2) := hx4.cell 9
      have m0 : w4.cell? ⟨w3.heap.size, 0, none⟩ = some (.int .i64 lc.table) := hL4.cell 0
      have f0 := hL4.frozen 0
      have m1 : w4.cell? ⟨w3.heap.size, 1, none⟩ = some (.int .i64 lc.key) := hL4.cell 1
      have f1 := hL4.frozen 1
      have m2 : w4.cell? ⟨w3.heap.size, 2, none⟩ = some (.bool lc.had) := hL4.cell 2
      have f2 := hL4.frozen 2
      have m3 : w4.cell? ⟨w3.heap.size, 3, none⟩ = some (.int .i64 lc.old.1) := hL4.cell 3
      have f3 := hL4.frozen 3
      have m4 : w4.cell? ⟨w3.heap.size, 4, none⟩ = some (.int .i64 lc.old.2.1) := hL4.cell 4
      have f4 := hL4.frozen 4
      have m5 : w4.cell? ⟨w3.heap.size, 5, none⟩ = some (.int .i64 lc.old.2.2) := hL4.cell 5
      have f5 := hL4.frozen 5
      have m6 : w4.cell? ⟨w3.heap.size, 6, none⟩ = some (.bool lc.has) := hL4.cell 6
      have f6 := hL4.frozen 6
      have m7 : w4.cell? ⟨w3.heap.size, 7, none⟩ = some (.int .i64 lc.new.1) := hL4.cell 7
      have f7 := hL4.frozen 7
      have m8 : w4.cell? ⟨w3.heap.size, 8, none⟩ = some (.int .i64 lc.new.2.1) := hL4.cell 8
      have f8 := hL4.frozen 8
      have m9 : w4.cell? ⟨w3.heap.size, 9, none⟩ = some (.int .i64 lc.new.2.2) := hL4.cell 9
      have f9 := hL4.frozen 9
      clear c0 c1 c2 c3 c4 c5 c6 c7 c8 c9 b4 ha hr1 t4 hb hL hx hdr
      cases r1
      · have hRf : R = false := by rw [HA2.out]; rfl
        subst hRf
        go_wp2_with fail
        go_ret
        exact ⟨rfl, hb4⟩
      cases y3
      case true =>
        have hRf : R = false := by rw [HA2.out]; rfl
        subst hRf
        go_wp2_with fail
        go_ret
        exact ⟨rfl, hb4⟩
      by_cases hyy : (y4 && y5) = true
      · obtain ⟨rfl, rfl⟩ : y4 = true ∧ y5 = true := by simpa using hyy
        have hRf : R = false := by rw [HA2.out]; rfl
        subst hRf
        go_wp2_with fail
        go_ret
        exact ⟨rfl, hb4⟩
      have hA3 : R = ascB x.table x.key (l.drop (k + 1)) := by rw [HA2.out]; cases y4 <;> cases y5 <;> simp at hyy ⊢
      have HA3 := Lib.hid hA3
      have hs5 : BlkIs ((((((((((w4.setCell ⟨w3.heap.size, 0, none⟩ (.int .i64 x.table)).setCell ⟨w3.heap.size, 1, none⟩ (.int .i64 x.key)).setCell ⟨w3.heap.size, 2, none⟩ (.bool x.had)).setCell ⟨w3.heap.size, 3, none⟩ (.int .i64 x.old.1)).setCell ⟨w3.heap.size, 4, none⟩ (.int .i64 x.old.2.1)).setCell ⟨w3.heap.size, 5, none⟩ (.int .i64 x.old.2.2)).setCell ⟨w3.heap.size, 6, none⟩ (.bool x.has)).setCell ⟨w3.heap.size, 7, none⟩ (.int .i64 x.new.1)).setCell ⟨w3.heap.size, 8, none⟩ (.int .i64 x.new.2.1)).setCell ⟨w3.heap.size, 9, none⟩ (.int .i64 x.new.2.2)) w3.heap.size 72 (chgCells x) := ((((((((((hL4.set 0 (.int .i64 x.table)).set 1 (.int .i64 x.key)).set 2 (.bool x.had)).set 3 (.int .i64 x.old.1)).set 4 (.int .i64 x.old.2.1)).set 5 (.int .i64 x.old.2.2)).set 6 (.bool x.has)).set 7 (.int .i64 x.new.1)).set 8 (.int .i64 x.new.2.1)).set 9 (.int .i64 x.new.2.2))
      have hb5 := ((((((((((hb4.setCell (p := ⟨w3.heap.size, 0, none⟩) hLw (.int .i64 x.table)).setCell (p := ⟨w3.heap.size, 1, none⟩) hLw (.int .i64 x.key)).setCell (p := ⟨w3.heap.size, 2, none⟩) hLw (.bool x.had)).setCell (p := ⟨w3.heap.size, 3, none⟩) hLw (.int .i64 x.old.1)).setCell (p := ⟨w3.heap.size, 4, none⟩) hLw (.int .i64 x.old.2.1)).setCell (p := ⟨w3.heap.size, 5, none⟩) hLw (.int .i64 x.old.2.2)).setCell (p := ⟨w3.heap.size, 6, none⟩) hLw (.bool x.has)).setCell (p := ⟨w3.heap.size, 7, none⟩) hLw (.int .i64 x.new.1)).setCell (p := ⟨w3.heap.size, 8, none⟩) hLw (.int .i64 x.new.2.1)).setCell (p := ⟨w3.heap.size, 9, none⟩) hLw (.int .i64 x.new.2.2))
      clear hA3 hL4 hb4
      cases y4
      · go_wp2_with fail
        exact ⟨⟨k + 1, x, by omega, by go_num, hs5, HA3, hb5⟩, by simp [intOf]; omega⟩
      cases y5
      · go_wp2_with fail
        exact ⟨⟨k + 1, x, by omega, by go_num, hs5, HA3, hb5⟩, by simp [intOf]; omega⟩
      · simp at hyy
    · have t1 : decide (k < l.length) = false := by simpa using h1
      have hr : R = true := by
        rw [HA.out, List.drop_eq_nil_of_le (by omega)]; rfl
      subst hr
      go_wp2_with fail
      go_ret
      exact ⟨rfl, hb⟩
end Go.Proofs.YtheebajklnljdaaGreatDoor
end

section
/- Records, heads and logs in memory; what a call may turn. -/
namespace Go.Proofs.YtheebajklnljdaaGreatDoor
open Go Go.RowKit

/-- All that was there is as it was, but for the blocks of S. -/
structure Only (S : Nat → Prop) (w w' : World) : Prop where
  os : w'.os = w.os
  tape : w'.tape = w.tape
  output : w'.output = w.output
  size : w.heap.size ≤ w'.heap.size
  block : ∀ k, k < w.heap.size → ¬ S k → w'.heap[k]? = w.heap[k]?

theorem Only.refl (S : Nat → Prop) (w : World) : Only S w w := ⟨rfl, rfl, rfl, Nat.le_refl _, fun _ _ _ => rfl⟩
theorem Only.trans {S : Nat → Prop} {a b c : World} (h : Only S a b) (k : Only S b c) : Only S a c :=
  ⟨k.os.trans h.os, k.tape.trans h.tape, k.output.trans h.output, Nat.le_trans h.size k.size, fun j hj hn => (k.block j (Nat.lt_of_lt_of_le hj h.size) hn).trans (h.block j hj hn)⟩
theorem Only.of_below {S : Nat → Prop} {w w' : World} (h : Below w.heap.size w w') : Only S w w' := ⟨h.os, h.tape, h.output, h.size, fun k hk _ => h.block k hk⟩
theorem Only.below {S : Nat → Prop} {B : Nat} {w w' : World} (h : Only S w w') (hb : ∀ k, S k → B ≤ k) (hw : B ≤ w.heap.size) : Below B w w' :=
  ⟨h.os, h.tape, h.output, h.size, fun k hk => h.block k (by omega) fun e => by have := hb k e; omega⟩
theorem Only.mono {S T : Nat → Prop} {w w' : World} (h : Only S w w') (hs : ∀ k, S k → T k) : Only T w w' := ⟨h.os, h.tape, h.output, h.size, fun k hk hn => h.block k hk fun e => hn (hs k e)⟩
theorem Only.setCell {S : Nat → Prop} (w : World) (p : Addr) (u : Value) (h : S p.block) : Only S w (w.setCell p u) :=
  ⟨rfl, rfl, rfl, by simp [World.setCell], fun k _ hn => Below.heap_setCell w p u k fun e => hn (e ▸ h)⟩
theorem Only.grown {S : Nat → Prop} {w w' : World} {row : Option Nat} (h : w.grownBy w' row) (hr : ∀ k, row = some k → S k) : Only S w w' :=
  ⟨h.os, h.tape, h.output, h.size, fun k hk hn => h.block k hk fun e => hn (hr k e.symm)⟩
/-- what is new may turn as well -/
theorem Only.behind {S T : Nat → Prop} {a b c : World} (h : Only S a b) (k : Only T b c) (ht : ∀ j, T j → S j ∨ a.heap.size ≤ j) : Only S a c :=
  ⟨k.os.trans h.os, k.tape.trans h.tape, k.output.trans h.output, Nat.le_trans h.size k.size, fun j hj hn => (k.block j (Nat.lt_of_lt_of_le hj h.size) fun e => by rcases ht j e with h | h; exact hn h; omega).trans (h.block j hj hn)⟩

/-- w' agrees with w on the blocks of S -/
def SameOn (S : Nat → Prop) (w w' : World) : Prop := w.heap.size ≤ w'.heap.size ∧ ∀ k, S k → k < w.heap.size → w'.heap[k]? = w.heap[k]?
theorem SameOn.of_below {S : Nat → Prop} {w w' : World} (h : Below w.heap.size w w') : SameOn S w w' := ⟨h.size, fun k _ hk => h.block k hk⟩
theorem SameOn.of_only {S T : Nat → Prop} {w w' : World} (h : Only T w w') (hn : ∀ k, S k → ¬ T k) : SameOn S w w' := ⟨h.size, fun k hs hk => h.block k hk (hn k hs)⟩
theorem SameOn.trans {S : Nat → Prop} {a b c : World} (h : SameOn S a b) (k : SameOn S b c) : SameOn S a c := ⟨Nat.le_trans h.1 k.1, fun j hs hj => (k.2 j hs (Nat.lt_of_lt_of_le hj h.1)).trans (h.2 j hs hj)⟩

theorem BlkIs.same {S : Nat → Prop} {w w' : World} {g : Nat} {t : TypeId} {cs : List Value} (h : BlkIs w g t cs) (hs : SameOn S w w') (hg : S g) : BlkIs w' g t cs := (hs.2 g hg h.lt).trans h

theorem ownsRow_same {S : Nat → Prop} {w w' : World} {base : Nat} {e : TypeId} {size : Nat} {v : Value} {n : Nat} {xs : List Value} (h : w.ownsRow base e size v n xs) (hs : SameOn S w w') (hg : ∀ b, v.ownBlock = some b → S b) :
    w'.ownsRow base e size v n xs := by
  refine ⟨h.1, ?_⟩
  rcases h.2 with h0 | ⟨g, cap, cur, rfl, hb, hgg, rest⟩
  · exact .inl h0
  · exact .inr ⟨g, cap, cur, rfl, hb, (hs.2 g (hg g rfl) (Array.getElem?_eq_some_iff.1 hgg).1).trans hgg, rest⟩

theorem ownsRow_base0 {w : World} {base : Nat} {e : TypeId} {size : Nat} {v : Value} {n : Nat} {xs : List Value} (h : w.ownsRow base e size v n xs) : w.ownsRow 0 e size v n xs := by
  refine ⟨h.1, ?_⟩
  rcases h.2 with h0 | ⟨g, cap, cur, hv, _, rest⟩
  · exact .inl h0
  · exact .inr ⟨g, cap, cur, hv, Nat.zero_le _, rest⟩

/-- rows whose elements have n cells -/
theorem flat_len {α : Type} (f : α → List Value) (n : Nat) (hf : ∀ a, (f a).length = n) : ∀ l : List α, (l.flatMap f).length = l.length * n
  | [] => by simp
  | a :: l => by rw [List.flatMap_cons, List.length_append, hf, flat_len f n hf l, List.length_cons, Nat.add_mul]; omega
theorem flat_get {α : Type} (f : α → List Value) (n : Nat) (hf : ∀ a, (f a).length = n) : ∀ (l : List α) (j i : Nat) (a : α) (u : Value), l[j]? = some a → (f a)[i]? = some u → (l.flatMap f)[j * n + i]? = some u
  | [], j, _, _, _, h, _ => by simp at h
  | b :: l, 0, i, a, u, h, hu => by
    simp at h; subst h
    rw [List.flatMap_cons, Nat.zero_mul, Nat.zero_add, List.getElem?_append_left (List.getElem?_eq_some_iff.1 hu).1]
    exact hu
  | b :: l, j + 1, i, a, u, h, hu => by
    rw [List.flatMap_cons, List.getElem?_append_right (by rw [hf, Nat.add_mul]; omega), hf, show (j + 1) * n + i - n = j * n + i by rw [Nat.add_mul]; omega]
    exact flat_get f n hf l j i a u (by simpa using h) hu

theorem chgCells_len (c : Chg) : (chgCells c).length = 10 := rfl
def hdCells (h : Hd) : List Value := [.int .i64 h.pos, .string (str h.chain), .string (str h.state)]
theorem hdCells_len (h : Hd) : (hdCells h).length = 3 := rfl
def recCells (p : Rec × Value) : List Value := [.int .i64 p.1.pos, p.2]
theorem recCells_len (p : Rec × Value) : (recCells p).length = 2 := rfl

/-- v is a row of its own with just these changes; its block is of S -/
def ChgsOwn (w : World) (S : Nat → Prop) (v : Value) (l : List Chg) : Prop := w.ownsRow 0 72 10 v l.length (l.flatMap chgCells) ∧ ∀ b, v.ownBlock = some b → S b
def HdRow (w : World) (S : Nat → Prop) (v : Value) (l : List Hd) : Prop := w.ownsRow 0 46 3 v l.length (l.flatMap hdCells) ∧ ∀ b, v.ownBlock = some b → S b
def RecRow (w : World) (S : Nat → Prop) (v : Value) (l : List Rec) : Prop :=
  ∃ ps : List (Rec × Value), ps.map (·.1) = l ∧ w.ownsRow 0 35 2 v ps.length (ps.flatMap recCells) ∧ (∀ b, v.ownBlock = some b → S b) ∧ ∀ p ∈ ps, ChgsOwn w S p.2 p.1.chs
/-- block b is a log; all of its memory is of S -/
def LogAt (w : World) (S : Nat → Prop) (b : Nat) (x : Lg) : Prop := ∃ rv hv, BlkIs w b 81 [rv, hv] ∧ S b ∧ RecRow w S rv x.recs ∧ HdRow w S hv x.heads

theorem ChgsOwn.same {S : Nat → Prop} {w w' : World} {v : Value} {l : List Chg} (h : ChgsOwn w S v l) (hs : SameOn S w w') : ChgsOwn w' S v l := ⟨ownsRow_same h.1 hs h.2, h.2⟩
theorem HdRow.same {S : Nat → Prop} {w w' : World} {v : Value} {l : List Hd} (h : HdRow w S v l) (hs : SameOn S w w') : HdRow w' S v l := ⟨ownsRow_same h.1 hs h.2, h.2⟩
theorem RecRow.same {S : Nat → Prop} {w w' : World} {v : Value} {l : List Rec} (h : RecRow w S v l) (hs : SameOn S w w') : RecRow w' S v l := by
  obtain ⟨ps, h1, h2, h3, h4⟩ := h
  exact ⟨ps, h1, ownsRow_same h2 hs h3, h3, fun p hp => (h4 p hp).same hs⟩
theorem LogAt.same {S : Nat → Prop} {w w' : World} {b : Nat} {x : Lg} (h : LogAt w S b x) (hs : SameOn S w w') : LogAt w' S b x := by
  obtain ⟨rv, hv, h1, h2, h3, h4⟩ := h
  exact ⟨rv, hv, h1.same hs h2, h2, h3.same hs, h4.same hs⟩
theorem LogAt.below {S : Nat → Prop} {w w' : World} {b : Nat} {x : Lg} (h : LogAt w S b x) (hb : Below w.heap.size w w') : LogAt w' S b x := h.same (.of_below hb)
theorem ChgsOwn.mono {S T : Nat → Prop} {w : World} {v : Value} {l : List Chg} (h : ChgsOwn w S v l) (hs : ∀ k, S k → T k) : ChgsOwn w T v l := ⟨h.1, fun b hb => hs b (h.2 b hb)⟩
theorem HdRow.mono {S T : Nat → Prop} {w : World} {v : Value} {l : List Hd} (h : HdRow w S v l) (hs : ∀ k, S k → T k) : HdRow w T v l := ⟨h.1, fun b hb => hs b (h.2 b hb)⟩
theorem RecRow.mono {S T : Nat → Prop} {w : World} {v : Value} {l : List Rec} (h : RecRow w S v l) (hs : ∀ k, S k → T k) : RecRow w T v l := by
  obtain ⟨ps, h1, h2, h3, h4⟩ := h
  exact ⟨ps, h1, h2, fun b hb => hs b (h3 b hb), fun p hp => (h4 p hp).mono hs⟩
theorem LogAt.mono {S T : Nat → Prop} {w : World} {b : Nat} {x : Lg} (h : LogAt w S b x) (hs : ∀ k, S k → T k) : LogAt w T b x := by
  obtain ⟨rv, hv, h1, h2, h3, h4⟩ := h
  exact ⟨rv, hv, h1, hs b h2, h3.mono hs, h4.mono hs⟩

theorem ChgsOwn.nil (w : World) (S : Nat → Prop) : ChgsOwn w S (.slice none 0 0) [] := ⟨World.ownsRow_nil w _ _ _, by simp [Value.ownBlock]⟩
theorem HdRow.nil (w : World) (S : Nat → Prop) : HdRow w S (.slice none 0 0) [] := ⟨World.ownsRow_nil w _ _ _, by simp [Value.ownBlock]⟩
theorem RecRow.nil (w : World) (S : Nat → Prop) : RecRow w S (.slice none 0 0) [] := ⟨[], rfl, World.ownsRow_nil w _ _ _, by simp [Value.ownBlock], by simp⟩

/-- an owned row is read as a slice -/
theorem ownsRow_form {w : World} {base : Nat} {e : TypeId} {size : Nat} {v : Value} {n : Nat} {xs : List Value} (h : w.ownsRow base e size v n xs) :
    ∃ A c, v = .slice A n c ∧ n ≤ c ∧ c ≤ maxLen ∧ (0 < n → ∃ g, A = some ⟨g, 0, none⟩ ∧ g < w.heap.size ∧ v.ownBlock = some g ∧ ∀ (j : Nat) u, xs[j]? = some u → w.cell? ⟨g, j, none⟩ = some u) := by
  have hcells := @World.ownsRow.cells w base e size v n xs h
  rcases h.2 with ⟨rfl, h0⟩ | ⟨g, cap, cur, rfl, hb, hg, hn, hm, _, _⟩
  · exact ⟨none, 0, by rw [h0], by omega, by unfold maxLen; omega, fun h => by omega⟩
  · refine ⟨_, cap, rfl, hn, hm, fun _ => ⟨g, rfl, (Array.getElem?_eq_some_iff.1 hg).1, rfl, fun j u hu => ?_⟩⟩
    have := hcells (g := g) rfl j u hu
    rwa [add_zero_off] at this

theorem ChgsOwn.chgs {S : Nat → Prop} {w : World} {v : Value} {l : List Chg} (h : ChgsOwn w S v l) : ChgsAt w v l := by
  obtain ⟨A, c, rfl, hc, _, hx⟩ := ownsRow_form h.1
  refine ⟨A, c, rfl, hc, fun h0 => ?_⟩
  obtain ⟨g, rfl, hg, _, hj⟩ := hx h0
  refine ⟨g, 0, rfl, hg, fun j x hx i u hu => ?_⟩
  rw [Nat.zero_add]
  exact hj _ _ (flat_get chgCells 10 chgCells_len l j i x u hx hu)
theorem ChgsOwn.lt {S : Nat → Prop} {w : World} {v : Value} {l : List Chg} (h : ChgsOwn w S v l) {b : Nat} (hb : v.ownBlock = some b) : b < w.heap.size := (h.1.lt b hb).2

/-- v is a slice of these records, all below the heap's end -/
def RecsAt (w : World) (v : Value) (l : List Rec) : Prop :=
  ∃ A c, v = .slice A l.length c ∧ l.length ≤ c ∧ (0 < l.length → ∃ g o, A = some ⟨g, o, none⟩ ∧ g < w.heap.size ∧ ∀ (j : Nat) r, l[j]? = some r → w.cell? ⟨g, o + j * 2, none⟩ = some (.int .i64 r.pos) ∧
    ∃ cv, w.cell? ⟨g, o + j * 2 + 1, none⟩ = some cv ∧ ChgsAt w cv r.chs)
theorem RecsAt.below {w w' : World} {v : Value} {l : List Rec} (h : RecsAt w v l) (hb : Below w.heap.size w w') : RecsAt w' v l := by
  obtain ⟨A, c, hv, hc, hx⟩ := h
  refine ⟨A, c, hv, hc, fun h0 => ?_⟩
  obtain ⟨g, o, hA, hlt, hj⟩ := hx h0
  refine ⟨g, o, hA, Nat.lt_of_lt_of_le hlt hb.size, fun j r hr => ?_⟩
  obtain ⟨h1, cv, h2, h3⟩ := hj j r hr
  exact ⟨(hb.cell (p := ⟨g, o + j * 2, none⟩) hlt).trans h1, cv, (hb.cell (p := ⟨g, o + j * 2 + 1, none⟩) hlt).trans h2, h3.below hb⟩
theorem RecRow.recs {S : Nat → Prop} {w : World} {v : Value} {l : List Rec} (h : RecRow w S v l) : RecsAt w v l := by
  obtain ⟨ps, rfl, h2, h3, h4⟩ := h
  obtain ⟨A, c, rfl, hc, _, hx⟩ := ownsRow_form h2
  refine ⟨A, c, by rw [List.length_map], by rw [List.length_map]; exact hc, fun h0 => ?_⟩
  rw [List.length_map] at h0
  obtain ⟨g, rfl, hg, _, hj⟩ := hx h0
  refine ⟨g, 0, rfl, hg, fun j r hr => ?_⟩
  rw [List.getElem?_map, Option.map_eq_some_iff] at hr
  obtain ⟨p, hp, rfl⟩ := hr
  rw [Nat.zero_add]
  exact ⟨hj _ _ (flat_get recCells 2 recCells_len ps j 0 p _ hp rfl), p.2, hj _ _ (flat_get recCells 2 recCells_len ps j 1 p _ hp rfl), (h4 p (List.mem_of_getElem? hp)).chgs⟩
/-- one record of a row -/
theorem RecRow.at_ {S : Nat → Prop} {w : World} {v : Value} {l : List Rec} (h : RecRow w S v l) {j : Nat} {r : Rec} (hr : l[j]? = some r) :
    ∃ g c cv, v = .slice (some ⟨g, 0, none⟩) l.length c ∧ l.length ≤ c ∧ g < w.heap.size ∧ S g ∧ w.cell? ⟨g, j * 2, none⟩ = some (.int .i64 r.pos) ∧ w.cell? ⟨g, j * 2 + 1, none⟩ = some cv ∧ ChgsOwn w S cv r.chs := by
  obtain ⟨ps, rfl, h2, h3, h4⟩ := h
  obtain ⟨A, c, rfl, hc, _, hx⟩ := ownsRow_form h2
  rw [List.getElem?_map, Option.map_eq_some_iff] at hr
  obtain ⟨p, hp, rfl⟩ := hr
  have hlt := (List.getElem?_eq_some_iff.1 hp).1
  obtain ⟨g, rfl, hg, hbg, hj⟩ := hx (by omega)
  exact ⟨g, c, p.2, by rw [List.length_map], by rw [List.length_map]; exact hc, hg, h3 g hbg, hj _ _ (flat_get recCells 2 recCells_len ps j 0 p _ hp rfl), hj _ _ (flat_get recCells 2 recCells_len ps j 1 p _ hp rfl), h4 p (List.mem_of_getElem? hp)⟩
theorem RecRow.len {S : Nat → Prop} {w : World} {v : Value} {l : List Rec} (h : RecRow w S v l) : ∃ A c, v = .slice A l.length c ∧ l.length ≤ c := by
  obtain ⟨ps, rfl, h2, h3, h4⟩ := h
  obtain ⟨A, c, rfl, hc, _, hx⟩ := ownsRow_form h2
  exact ⟨A, c, by rw [List.length_map], by rw [List.length_map]; exact hc⟩
/-- one head of a row -/
theorem HdRow.at_ {S : Nat → Prop} {w : World} {v : Value} {l : List Hd} (h : HdRow w S v l) {j : Nat} {x : Hd} (hx : l[j]? = some x) :
    ∃ g c, v = .slice (some ⟨g, 0, none⟩) l.length c ∧ l.length ≤ c ∧ g < w.heap.size ∧ S g ∧ w.cell? ⟨g, j * 3, none⟩ = some (.int .i64 x.pos) ∧ w.cell? ⟨g, j * 3 + 1, none⟩ = some (.string (str x.chain)) ∧ w.cell? ⟨g, j * 3 + 2, none⟩ = some (.string (str x.state)) := by
  obtain ⟨A, c, rfl, hc, _, hj⟩ := ownsRow_form h.1
  have hlt := (List.getElem?_eq_some_iff.1 hx).1
  obtain ⟨g, rfl, hg, hbg, hj⟩ := hj (by omega)
  exact ⟨g, c, rfl, hc, hg, h.2 g hbg, hj _ _ (flat_get hdCells 3 hdCells_len l j 0 x _ hx rfl), hj _ _ (flat_get hdCells 3 hdCells_len l j 1 x _ hx rfl), hj _ _ (flat_get hdCells 3 hdCells_len l j 2 x _ hx rfl)⟩
theorem HdRow.len {S : Nat → Prop} {w : World} {v : Value} {l : List Hd} (h : HdRow w S v l) : ∃ A c, v = .slice A l.length c ∧ l.length ≤ c := by
  obtain ⟨A, c, hv, hc, _⟩ := ownsRow_form h.1
  exact ⟨A, c, hv, hc⟩
end Go.Proofs.YtheebajklnljdaaGreatDoor
end

