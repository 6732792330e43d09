/- Joined: RowE RowB RowC RowD RowF RowG LogH RowH RowI LogB LogC LogD. -/
import Derived.Test.YtgbemgndbemllaaGreatDoorQRowA
import Derived.ChangeKeysEq
import Derived.Test.YtgbemgndbemllaaGreatDoorGc
import Derived.Maps.AppendAt
import Derived.Test.YtgbemgndbemllaaGreatDoorGf
import Derived.Test.YtgbemgndbemllaaGreatDoorQLogA
import Derived.Test.YtgbemgndbemllaaGreatDoorQLeaf
import Derived.Deep.RegionHeld3

section
/- Two arrays of three numbers are compared. -/
namespace Go.Proofs.YtgbemgndbemllaaGreatDoor
open Go Go.RowKit

theorem run_eq3 (W : World) (a b c x y z : Int) :
    (Op.equalIn 10000 63 (.agg #[.int .i64 a, .int .i64 b, .int .i64 c]) (.agg #[.int .i64 x, .int .i64 y, .int .i64 z])).run Tryz.prog W = .ok (a == x && (b == y && c == z)) W := by
  obtain ⟨i0, hi⟩ : ∃ i, Tryz.prog.info? 3 = some i := Option.isSome_iff_exists.1 (by kernel_rfl)
  have hc : Tryz.prog.cellsOf 3 = 1 := by kernel_rfl
  have hr : List.range 3 = [0, 1, 2] := rfl
  rw [run_equalIn_array (w := W) 9999 _ _ Tryz.underlying63 hi, hc, hr]
  simp [Op.eqItems, part, run_sizeOf, hi, run_equalIn_int, Tryz.underlying3, go_sem]
  by_cases h1 : a = x <;> by_cases h2 : b = y <;> by_cases h3 : c = z <;> simp [h1, h2, h3]

theorem run_eqT (W : World) (v u : Int × Int × Int) :
    (Op.equalIn 10000 63 (.agg #[.int .i64 v.1, .int .i64 v.2.1, .int .i64 v.2.2]) (.agg #[.int .i64 u.1, .int .i64 u.2.1, .int .i64 u.2.2])).run Tryz.prog W = .ok (decide (v = u)) W := by
  obtain ⟨a, b, c⟩ := v
  obtain ⟨x, y, z⟩ := u
  rw [run_eq3]
  by_cases h1 : a = x <;> by_cases h2 : b = y <;> by_cases h3 : c = z <;> simp [h1, h2, h3]
theorem guard3 : Tryz.prog.eqGuardType Tryz.prog.depth 63 = false := by kernel_rfl
end Go.Proofs.YtgbemgndbemllaaGreatDoor
end

section
/- Changes: half, sound, ValidChange. -/
namespace Go.Proofs.YtgbemgndbemllaaGreatDoor
open Go Go.RowKit
attribute [local go_sem] Oper.semAt_some

/-- a change as a value: ten cells -/
def chgV (c : Chg) : Value := .agg #[.int .i64 c.table, .int .i64 c.key, .bool c.had, .int .i64 c.old.1, .int .i64 c.old.2.1, .int .i64 c.old.2.2, .bool c.has, .int .i64 c.new.1, .int .i64 c.new.2.1, .int .i64 c.new.2.2]
def arrV (v : Int × Int × Int) : Value := .agg #[.int .i64 v.1, .int .i64 v.2.1, .int .i64 v.2.2]
/-- half -/
def halfV (c : Chg) (there : Bool) (v : Int × Int × Int) : Value := if there then rowV c.table c.key v else rowV 0 0 (0, 0, 0)

set_option maxRecDepth 100000 in
set_option maxHeartbeats 4000000 in
theorem half_ok (c : Chg) (there : Bool) (v : Int × Int × Int) (w : World) :
    Calls Tryz.prog 96 #[chgV c, .bool there, arrV v] w fun e w' => e = .returned (.tuple #[halfV c there v, .bool there]) ∧ Below w.heap.size w w' := by
  obtain ⟨t, k, had, ⟨o0, o1, o2⟩, has, ⟨n0, n1, n2⟩⟩ := c
  obtain ⟨a, b, d⟩ := v
  have hb3 := fun o1 o2 o3 => Below.alloc (Below.alloc (Below.alloc (Below.refl w.heap.size w) (Nat.le_refl _) o1) (by rw [World.size_alloc]; omega) o2) (by rw [World.size_alloc, World.size_alloc]; omega) o3
  have HB := Lib.hid hb3
  clear hb3
  unfold chgV arrV halfV rowV
  dsimp only
  cases there
  · rw [if_neg (by decide)]
    go_enter Tryz.func96, Tryz.ntmps96
    go_wp2_with fail
    go_returns
    exact ⟨rfl, HB.out _ _ _⟩
  · rw [if_pos rfl]
    go_enter Tryz.func96, Tryz.ntmps96
    go_wp2_with fail
    go_returns
    exact ⟨rfl, HB.out _ _ _⟩

theorem tri_eq (v : Int × Int × Int) : decide (v = (0, 0, 0)) = (decide (v.1 = 0) && decide (v.2.1 = 0) && decide (v.2.2 = 0)) := by
  obtain ⟨a, b, c⟩ := v
  simp [Bool.and_assoc]

set_option maxRecDepth 100000 in
set_option maxHeartbeats 4000000 in
theorem sound_ok (c : Chg) (there : Bool) (v : Int × Int × Int) (w : World) :
    Calls Tryz.prog 131 #[chgV c, .bool there, arrV v] w fun e w' => e = .returned (.bool (soundB c there v)) ∧ Below w.heap.size w w' := by
  have hh := fun W => half_ok c there v W
  have hv := fun W => rowValid_ok c.table c.key v W
  obtain ⟨R, hR⟩ : ∃ R, R = rowB c.table c.key v := ⟨_, rfl⟩
  rw [← hR] at hv
  have HH := Lib.hid hh
  have HV := Lib.hid hv
  have hb2 := fun o1 o2 => Below.alloc (Below.alloc (Below.refl w.heap.size w) (Nat.le_refl _) o1) (by rw [World.size_alloc]; omega) o2
  have HB := Lib.hid hb2
  cases there
  · have hs : soundB c false v = decide (v = (0, 0, 0)) := by simp [soundB]
    rw [hs]
    clear hh hv hb2 hs HV hR
    have hq := fun W => run_eqT W v (0, 0, 0)
    obtain ⟨y, hy⟩ : ∃ y, y = decide (v = (0, 0, 0)) := ⟨_, rfl⟩
    rw [← hy] at hq ⊢
    have hgd := guard3
    clear hy
    obtain ⟨t, k, had, ⟨o0, o1, o2⟩, has, ⟨n0, n1, n2⟩⟩ := c
    obtain ⟨a, b, d⟩ := v
    unfold chgV arrV at HH ⊢
    unfold halfV rowV at HH
    dsimp only at HH hq ⊢
    go_enter Tryz.func131, Tryz.ntmps131
    go_wp2_with fail
    refine (HH.out _).mono ?_
    rintro e w1 ⟨rfl, b1⟩
    have h1 : BlkIs w1 (w.heap.size + 1) 63 [.int .i64 a, .int .i64 b, .int .i64 d] := (b1.block (w.heap.size + 1) (by simp [World.size_alloc])).trans (alloc_new_at _ _ _ (by rw [World.size_alloc]))
    have c0 : w1.cell? ⟨w.heap.size + 1, 0, none⟩ = some (.int .i64 a) := h1.cell 0
    have c1 : w1.cell? ⟨w.heap.size + 1, 1, none⟩ = some (.int .i64 b) := h1.cell 1
    have c2 : w1.cell? ⟨w.heap.size + 1, 2, none⟩ = some (.int .i64 d) := h1.cell 2
    have hlt := BlkIs.lt h1
    have hb := Below.next (HB.out _ _) b1
    clear b1 h1
    cases y
    · go_wp2_with fail
      go_ret
      exact ⟨rfl, Below.alloc hb hb.size _⟩
    · go_wp2_with fail
      go_ret
      exact ⟨rfl, Below.alloc hb hb.size _⟩
  · have hs : soundB c true v = R := by simp [soundB, hR]
    rw [hs]
    clear hh hv hb2 hs hR
    obtain ⟨t, k, had, ⟨o0, o1, o2⟩, has, ⟨n0, n1, n2⟩⟩ := c
    obtain ⟨a, b, d⟩ := v
    unfold chgV arrV at HH ⊢
    unfold halfV rowV at HH
    unfold rowV at HV
    dsimp only at HH HV ⊢
    go_enter Tryz.func131, Tryz.ntmps131
    go_wp2_with fail
    refine (HH.out _).mono ?_
    rintro e w1 ⟨rfl, b1⟩
    have hb := Below.next (HB.out _ _) b1
    have hle := hb.size
    clear b1
    go_wp2_with fail
    refine (HV.out _).mono ?_
    rintro e w2 ⟨rfl, b2⟩
    have hb2 := Below.next (Below.alloc hb hle _) b2
    cases R
    · go_wp2_with fail
      go_ret
      exact ⟨rfl, hb2⟩
    · go_wp2_with fail
      go_ret
      exact ⟨rfl, hb2⟩
end Go.Proofs.YtgbemgndbemllaaGreatDoor
end

section
/- ValidChange. -/
namespace Go.Proofs.YtgbemgndbemllaaGreatDoor
open Go Go.RowKit
attribute [local go_sem] Oper.semAt_some

set_option maxRecDepth 100000 in
set_option maxHeartbeats 8000000 in
theorem chgValid_ok (c : Chg) (w : World) :
    Calls Tryz.prog 116 #[chgV c] w fun e w' => e = .returned (.bool (chgB c)) ∧ Below w.heap.size w w' := by
  have hs1 := fun W => sound_ok c c.had c.old W
  have hs2 := fun W => sound_ok c c.has c.new W
  have hq := fun W => run_eqT W c.old c.new
  obtain ⟨y, hy⟩ : ∃ y, decide (c.old = c.new) = y := ⟨_, rfl⟩
  obtain ⟨r1, h1⟩ : ∃ y, soundB c c.had c.old = y := ⟨_, rfl⟩
  obtain ⟨r2, h2⟩ : ∃ y, soundB c c.has c.new = y := ⟨_, rfl⟩
  have hR : chgB c = (((c.had != c.has) || (c.had && !y)) && r1 && r2) := by unfold chgB; rw [hy, h1, h2]
  rw [hR]
  rw [hy] at hq
  rw [h1] at hs1
  rw [h2] at hs2
  have hgd := guard3
  have HS1 := Lib.hid hs1
  have HS2 := Lib.hid hs2
  have hb1 := fun o => Below.alloc (Below.refl w.heap.size w) (Nat.le_refl _) o
  have HB := Lib.hid hb1
  clear hR hy h1 h2 hs1 hs2 hb1
  obtain ⟨t, k, had, ⟨o0, o1, o2⟩, has, ⟨n0, n1, n2⟩⟩ := c
  unfold chgV arrV at HS1 HS2
  unfold chgV
  dsimp only at HS1 HS2 hq ⊢
  have cells : ∀ W : World, Below (w.alloc (.cells #[.int .i64 t, .int .i64 k, .bool had, .int .i64 o0, .int .i64 o1, .int .i64 o2, .bool has, .int .i64 n0, .int .i64 n1, .int .i64 n2] 65)).heap.size (w.alloc (.cells #[.int .i64 t, .int .i64 k, .bool had, .int .i64 o0, .int .i64 o1, .int .i64 o2, .bool has, .int .i64 n0, .int .i64 n1, .int .i64 n2] 65)) W →
      BlkIs W w.heap.size 65 [.int .i64 t, .int .i64 k, .bool had, .int .i64 o0, .int .i64 o1, .int .i64 o2, .bool has, .int .i64 n0, .int .i64 n1, .int .i64 n2] := fun W hW =>
    (hW.block w.heap.size (by rw [World.size_alloc]; omega)).trans (World.alloc_heap_new w _)
  have HC := Lib.hid cells
  clear cells
  cases had <;> cases has
  · go_enter Tryz.func116, Tryz.ntmps116
    go_wp2_with fail
    go_ret
    exact ⟨rfl, HB.out _⟩
  · go_enter Tryz.func116, Tryz.ntmps116
    go_wp2_with fail
    refine (HS1.out _).mono ?_
    rintro e w1 ⟨rfl, b1⟩
    have hk := HC.out w1 b1
    have hb := Below.next (HB.out _) b1
    have c0 := hk.cell 0
    have c1 := hk.cell 1
    have c2 := hk.cell 2
    have c3 := hk.cell 3
    have c4 := hk.cell 4
    have c5 := hk.cell 5
    have c6 := hk.cell 6
    have c7 := hk.cell 7
    have c8 := hk.cell 8
    have c9 := hk.cell 9
    simp only [List.getElem?_cons_zero, List.getElem?_cons_succ] at c0 c1 c2 c3 c4 c5 c6 c7 c8 c9
    have hlt := BlkIs.lt hk
    clear b1 hk
    cases r1
    · go_wp2_with fail
      go_ret
      exact ⟨rfl, hb⟩
    go_wp2_with fail
    refine (HS2.out _).mono ?_
    rintro e w2 ⟨rfl, b2⟩
    have hb2 := Below.next hb b2
    go_wp2_with fail
    go_ret
    exact ⟨rfl, hb2⟩
  · go_enter Tryz.func116, Tryz.ntmps116
    go_wp2_with fail
    refine (HS1.out _).mono ?_
    rintro e w1 ⟨rfl, b1⟩
    have hk := HC.out w1 b1
    have hb := Below.next (HB.out _) b1
    have c0 := hk.cell 0
    have c1 := hk.cell 1
    have c2 := hk.cell 2
    have c3 := hk.cell 3
    have c4 := hk.cell 4
    have c5 := hk.cell 5
    have c6 := hk.cell 6
    have c7 := hk.cell 7
    have c8 := hk.cell 8
    have c9 := hk.cell 9
    simp only [List.getElem?_cons_zero, List.getElem?_cons_succ] at c0 c1 c2 c3 c4 c5 c6 c7 c8 c9
    have hlt := BlkIs.lt hk
    clear b1 hk
    cases r1
    · go_wp2_with fail
      go_ret
      exact ⟨rfl, hb⟩
    go_wp2_with fail
    refine (HS2.out _).mono ?_
    rintro e w2 ⟨rfl, b2⟩
    have hb2 := Below.next hb b2
    go_wp2_with fail
    go_ret
    exact ⟨rfl, hb2⟩
  · cases y
    · go_enter Tryz.func116, Tryz.ntmps116
      go_wp2_with fail
      refine (HS1.out _).mono ?_
      rintro e w1 ⟨rfl, b1⟩
      have hk := HC.out w1 b1
      have hb := Below.next (HB.out _) b1
      have c0 := hk.cell 0
      have c1 := hk.cell 1
      have c2 := hk.cell 2
      have c3 := hk.cell 3
      have c4 := hk.cell 4
      have c5 := hk.cell 5
      have c6 := hk.cell 6
      have c7 := hk.cell 7
      have c8 := hk.cell 8
      have c9 := hk.cell 9
      simp only [List.getElem?_cons_zero, List.getElem?_cons_succ] at c0 c1 c2 c3 c4 c5 c6 c7 c8 c9
      have hlt := BlkIs.lt hk
      clear b1 hk
      cases r1
      · go_wp2_with fail
        go_ret
        exact ⟨rfl, hb⟩
      go_wp2_with fail
      refine (HS2.out _).mono ?_
      rintro e w2 ⟨rfl, b2⟩
      have hb2 := Below.next hb b2
      go_wp2_with fail
      go_ret
      exact ⟨rfl, hb2⟩
    · go_enter Tryz.func116, Tryz.ntmps116
      go_wp2_with fail
      go_ret
      exact ⟨rfl, HB.out _⟩
end Go.Proofs.YtgbemgndbemllaaGreatDoor
end

section
/- put. -/
namespace Go.Proofs.YtgbemgndbemllaaGreatDoor
open Go Go.RowKit
attribute [local go_sem] Oper.semAt_some

theorem putsL_len (l : List Int) : (putsL l).length ≤ 9 * l.length := by
  induction l with
  | nil => simp [putsL]
  | cons x l ih =>
    have := putL_len x
    have e : putsL (x :: l) = putL x ++ putsL l := by simp [putsL]
    rw [e, List.length_append, List.length_cons]
    omega
theorem putsL_snoc (l : List Int) (x : Int) : putsL (l ++ [x]) = putsL l ++ putL x := by simp [putsL]

set_option maxRecDepth 100000 in
set_option maxHeartbeats 4000000 in
theorem put_ok (g o c : Nat) (l : List Int) (w : World) (hg : g < w.heap.size) (hl : l.length ≤ 1000) (hok : ∀ n ∈ l, IntOk n) (hc : ∀ (j : Nat) x, l[j]? = some x → w.cell? ⟨g, o + j, none⟩ = some (.int .i64 x)) :
    Calls Tryz.prog 77 #[.slice (some ⟨g, o, none⟩) l.length c] w fun e w' => e = .returned (.string (str (putsL l))) ∧ Below w.heap.size w w' := by
  have HC := Lib.hid hc
  have HOK := Lib.hid hok
  clear hc hok
  go_enter Tryz.func77, Tryz.ntmps77
  go_wp2_with fail
  go_loopw [3, 10] (fun sv iv wr => ∃ k : Nat, k ≤ l.length ∧ iv = .int .i64 k ∧ sv = .string (str (putsL (l.take k))) ∧ Below w.heap.size w wr) (fun _ iv _ => l.length - (intOf iv).toNat)
  case atStart => exact ⟨0, by omega, rfl, rfl, Below.refl _ _⟩
  case round =>
    obtain ⟨k, hk, rfl, rfl, hb⟩ := hrel
    by_cases h1 : k < l.length
    · have t1 : decide (k < l.length) = true := by simpa using h1
      obtain ⟨x, hx⟩ : ∃ x, l[k]? = some x := ⟨_, List.getElem?_eq_getElem h1⟩
      have cx : wr.cell? ⟨g, o + k, none⟩ = some (.int .i64 x) := (hb.cell (p := ⟨g, o + k, none⟩) hg).trans (HC.out k x hx)
      obtain ⟨x1, x2⟩ := HOK.out x (List.mem_of_getElem? hx)
      obtain ⟨P, hP⟩ : ∃ P, P = putsL (l.take k) := ⟨_, rfl⟩
      have hPl : P.length ≤ 9 * k := by
        rw [hP]
        refine Nat.le_trans (putsL_len _) ?_
        rw [List.length_take]; omega
      have hn : putsL (l.take (k + 1)) = P ++ putL x := by
        rw [List.take_add_one, hx, hP]
        exact putsL_snoc _ _
      have hxl := putL_len x
      have s1 : ¬ 9223372036854775807 < P.length + (putL x).length := by omega
      have hcat : str P ++ (⟨(putL x).toArray⟩ : ByteArray) = str (P ++ putL x) := cat_str P (putL x)
      have q0 : (0 : Int) ≤ (k : Int) := by omega
      have q1 : (k : Int) < (l.length : Int) := by omega
      rw [← hP]
      have HN := Lib.hid hn
      have HCAT := Lib.hid hcat
      clear hx hP hn hPl hxl hcat
      go_wp2_with fail
      refine (putInt_ok x x1 x2 wr).mono ?_
      rintro e w2 ⟨rfl, b2⟩
      have hb2 := Below.next hb b2
      go_wp2_with fail
      exact ⟨⟨k + 1, by omega, by go_num, by rw [HN.out, ← HCAT.out], hb2⟩, by simp [intOf]; omega⟩
    · have t1 : decide (k < l.length) = false := by simpa using h1
      have ht : l.take k = l := List.take_of_length_le (by omega)
      rw [ht]
      clear ht
      go_wp2_with fail
      go_ret
      exact ⟨rfl, hb⟩
end Go.Proofs.YtgbemgndbemllaaGreatDoor
end

section
/- Slices of changes (ten cells an element); ValidRecord. -/
namespace Go.Proofs.YtgbemgndbemllaaGreatDoor
open Go Go.RowKit
attribute [local go_sem] Oper.semAt_some

/-- the ten cells of a change -/
def chgCells (c : Chg) : List Value := [.int .i64 c.table, .int .i64 c.key, .bool c.had, .int .i64 c.old.1, .int .i64 c.old.2.1, .int .i64 c.old.2.2, .bool c.has, .int .i64 c.new.1, .int .i64 c.new.2.1, .int .i64 c.new.2.2]

/-- v is a slice of these changes, all below the heap's end -/
def ChgsAt (w : World) (v : Value) (xs : List Chg) : Prop :=
  ∃ A c, v = .slice A xs.length c ∧ xs.length ≤ c ∧ (0 < xs.length → ∃ g o, A = some ⟨g, o, none⟩ ∧ g < w.heap.size ∧ ∀ (j : Nat) x, xs[j]? = some x → ∀ (i : Nat) u, (chgCells x)[i]? = some u → w.cell? ⟨g, o + j * 10 + i, none⟩ = some u)

theorem ChgsAt.below {w w' : World} {v : Value} {xs : List Chg} (h : ChgsAt w v xs) (hb : Below w.heap.size w w') : ChgsAt w' v xs := by
  obtain ⟨A, c, hv, hc, hx⟩ := h
  refine ⟨A, c, hv, hc, fun h0 => ?_⟩
  obtain ⟨g, o, hA, hlt, hj⟩ := hx h0
  exact ⟨g, o, hA, Nat.lt_of_lt_of_le hlt hb.size, fun j x hx i u hu => (hb.cell (p := ⟨g, o + j * 10 + i, none⟩) hlt).trans (hj j x hx i u hu)⟩

/-- a record as a value -/
def recV (p : Int) (v : Value) : Value := .agg #[.int .i64 p, v]

theorem ascB_step (t k : Int) (c : Chg) (l : List Chg) : ascB t k (c :: l) = (chgB c && !(decide (c.table < t) || decide (c.table = t) && decide (c.key ≤ k)) && ascB c.table c.key l) := rfl

/-- the table and the key behind some changes -/
def lastC (l : List Chg) : Int × Int := match l.getLast? with | none => (-1, 0) | some c => (c.table, c.key)
/-- ascB, from the first changes on -/
theorem ascB_append (t k : Int) (a : List Chg) (c : Chg) (b : List Chg) : ascB t k (a ++ c :: b) = (ascB t k (a ++ [c]) && ascB c.table c.key b) := by
  induction a generalizing t k with
  | nil => simp [ascB, Bool.and_assoc]
  | cons x a ih => simp only [List.cons_append, ascB, ih, Bool.and_assoc]
end Go.Proofs.YtgbemgndbemllaaGreatDoor
end

section
/- ValidRecord. -/
namespace Go.Proofs.YtgbemgndbemllaaGreatDoor
open Go Go.RowKit
attribute [local go_sem] Oper.semAt_some

theorem recB_split (p : Int) (l : List Chg) : recB ⟨p, l⟩ = (withinB 1 10000 [p] && withinB 1 8 [(l.length : Nat)] && ascB (-1) 0 l) := by
  have e1 : decide (1 ≤ l.length) = decide ((1 : Int) ≤ (l.length : Nat)) := by congr 1; simp; omega
  have e2 : decide (l.length ≤ 8) = decide (((l.length : Nat) : Int) ≤ 8) := by congr 1; simp; omega
  unfold recB withinB
  dsimp only
  rw [e1, e2]
  simp [Bool.and_assoc]

set_option maxRecDepth 100000 in
set_option maxHeartbeats 8000000 in
theorem recValid_ok (p : Int) (A : Option Addr) (c : Nat) (l : List Chg) (w : World) (hv : ChgsAt w (.slice A l.length c) l) :
    Calls Tryz.prog 95 #[recV p (.slice A l.length c)] w fun e w' => e = .returned (.bool (recB ⟨p, l⟩)) ∧ Below w.heap.size w w' := by
  obtain ⟨y1, t1⟩ : ∃ y, withinB 1 10000 [p] = y := ⟨_, rfl⟩
  obtain ⟨y2, t2⟩ : ∃ y, withinB 1 8 [((l.length : Nat) : Int)] = y := ⟨_, rfl⟩
  have hb1 := fun o => Below.alloc (Below.refl w.heap.size w) (Nat.le_refl _) o
  obtain ⟨R, hR⟩ : ∃ R, R = ascB (-1) 0 l := ⟨_, rfl⟩
  rw [recB_split, t1, t2, ← hR]
  unfold recV
  have T1 := Lib.hid t1
  have T2 := Lib.hid t2
  have HB := Lib.hid hb1
  have HR := Lib.hid hR
  have HV := Lib.hid hv
  clear t1 t2 hb1 hR hv
  go_enter Tryz.func95, Tryz.ntmps95
  go_wp2_with fail
  refine (within_ok 1 10000 (w.heap.size + 1) 0 1 [p] _ (by simp [World.size_alloc]) (by simp) ?_).mono ?_
  · intro j x hj
    match j, hj with
    | 0, hj => cases hj; rw [cell_of_row _ _ 0 _ _ _ (alloc_new_at _ _ _ (by rw [World.size_alloc]))]; rfl
  rintro e w1 ⟨rfl, b1⟩
  have h0 : BlkIs w1 w.heap.size 37 [.int .i64 p, .slice A l.length c] := (b1.block w.heap.size (by simp [World.size_alloc]; omega)).trans ((Below.heap_alloc _ _ w.heap.size (by rw [World.size_alloc]; omega)).trans (World.alloc_heap_new w _))
  have hbw := Below.next (Below.alloc (HB.out _) (by rw [World.size_alloc]; omega) _) b1
  have c1 : w1.cell? ⟨w.heap.size, 1, none⟩ = some (.slice A l.length c) := h0.cell 1
  clear b1
  rw [T1.out]
  cases y1
  · go_wp2_with fail
    go_ret
    exact ⟨rfl, hbw⟩
  go_wp2_with fail
  refine (within_ok 1 8 w1.heap.size 0 1 [((l.length : Nat) : Int)] _ (by simp [World.size_alloc]) (by simp) ?_).mono ?_
  · intro j x hj
    match j, hj with
    | 0, hj => cases hj; rw [cell_of_row _ _ 0 _ _ _ (World.alloc_heap_new w1 _)]; rfl
  rintro e w3 ⟨rfl, b3⟩
  have hlt := BlkIs.lt h0
  have h3 : BlkIs w3 w.heap.size 37 [.int .i64 p, .slice A l.length c] := (b3.block w.heap.size (by rw [World.size_alloc]; omega)).trans ((Below.heap_alloc _ _ w.heap.size hlt).trans h0)
  have hb3 := Below.next (Below.alloc hbw hbw.size _) b3
  have hlt3 := BlkIs.lt h3
  have c13 : w3.cell? ⟨w.heap.size, 1, none⟩ = some (.slice A l.length c) := h3.cell 1
  clear b3 h0 c1 hbw h3
  have t2 := T2.out
  rw [t2]
  cases y2
  · go_wp2_with fail
    go_ret
    exact ⟨rfl, hb3⟩
  have hlen : 1 ≤ l.length ∧ l.length ≤ 8 := by
    simp [withinB] at t2
    omega
  obtain ⟨l1, l8⟩ := hlen
  clear t2
  go_wp2_with fail
  obtain ⟨Lb, hLb⟩ : ∃ n, n = w3.heap.size := ⟨_, rfl⟩
  have hLw : w.heap.size ≤ w3.heap.size := hb3.size
  have hl0 : BlkIs (w3.alloc (.cells #[.int .i64 (-1), .int .i64 0, .bool false, .int .i64 0, .int .i64 0, .int .i64 0, .bool false, .int .i64 0, .int .i64 0, .int .i64 0] 65)) w3.heap.size 65 (chgCells ⟨-1, 0, false, (0, 0, 0), false, (0, 0, 0)⟩) := World.alloc_heap_new w3 _
  have hbl := Below.alloc hb3 hLw (.cells #[.int .i64 (-1), .int .i64 0, .bool false, .int .i64 0, .int .i64 0, .int .i64 0, .bool false, .int .i64 0, .int .i64 0, .int .i64 0] 65)
  clear hLb c13
  go_loopw [23] (fun iv wr => ∃ (k : Nat) (lc : Chg), k ≤ l.length ∧ iv = .int .i64 k ∧ BlkIs wr w3.heap.size 65 (chgCells lc) ∧ Hid (R = ascB lc.table lc.key (l.drop k)) ∧ Below w.heap.size w wr) (fun iv _ => l.length - (intOf iv).toNat)
  case atStart => exact ⟨0, ⟨-1, 0, false, (0, 0, 0), false, (0, 0, 0)⟩, by omega, rfl, hl0, Lib.hid HR.out, hbl⟩
  case round =>
    clear hl0 hbl
    obtain ⟨k, lc, hk, rfl, hL, HA, hb⟩ := hrel
    by_cases h1 : k < l.length
    · have t1 : decide (k < l.length) = true := by simpa using h1
      obtain ⟨x, hx⟩ : ∃ x, l[k]? = some x := ⟨_, List.getElem?_eq_getElem h1⟩
      obtain ⟨A', c', hv, hc, hj⟩ := HV.out
      injection hv with e1 e2 e3
      subst e1 e3
      obtain ⟨g, o, rfl, hg, hj⟩ := hj (by omega)
      have hcell : ∀ (i : Nat) u, (chgCells x)[i]? = some u → wr.cell? ⟨g, o + k * 10 + i, none⟩ = some u := fun i u hu => (hb.cell (p := ⟨g, o + k * 10 + i, none⟩) hg).trans (hj k x hx i u hu)
      have c0 : wr.cell? ⟨g, o + k * 10, none⟩ = some (.int .i64 x.table) := hcell 0 _ rfl
      have c1 : wr.cell? ⟨g, o + k * 10 + 1, none⟩ = some (.int .i64 x.key) := hcell 1 _ rfl
      have c2 : wr.cell? ⟨g, o + k * 10 + 2, none⟩ = some (.bool x.had) := hcell 2 _ rfl
      have c3 : wr.cell? ⟨g, o + k * 10 + 3, none⟩ = some (.int .i64 x.old.1) := hcell 3 _ rfl
      have c4 : wr.cell? ⟨g, o + k * 10 + 4, none⟩ = some (.int .i64 x.old.2.1) := hcell 4 _ rfl
      have c5 : wr.cell? ⟨g, o + k * 10 + 5, none⟩ = some (.int .i64 x.old.2.2) := hcell 5 _ rfl
      have c6 : wr.cell? ⟨g, o + k * 10 + 6, none⟩ = some (.bool x.has) := hcell 6 _ rfl
      have c7 : wr.cell? ⟨g, o + k * 10 + 7, none⟩ = some (.int .i64 x.new.1) := hcell 7 _ rfl
      have c8 : wr.cell? ⟨g, o + k * 10 + 8, none⟩ = some (.int .i64 x.new.2.1) := hcell 8 _ rfl
      have c9 : wr.cell? ⟨g, o + k * 10 + 9, none⟩ = some (.int .i64 x.new.2.2) := hcell 9 _ rfl
      have q0 : (0 : Int) ≤ (k : Int) := by omega
      have q1 : (k : Int) < (l.length : Int) := by omega
      clear hcell hj
      go_wp2_with fail
      refine (chgValid_ok x _).mono ?_
      rintro e w4 ⟨rfl, b4⟩
      have hltL := BlkIs.lt hL
      have hx4 : BlkIs w4 wr.heap.size 65 (chgCells x) := (b4.block wr.heap.size (by rw [World.size_alloc]; omega)).trans (World.alloc_heap_new wr _)
      have hL4 : BlkIs w4 w3.heap.size 65 (chgCells lc) := (b4.block w3.heap.size (by rw [World.size_alloc]; omega)).trans ((Below.heap_alloc _ _ w3.heap.size hltL).trans hL)
      have hb4 := Below.next (Below.alloc hb hb.size _) b4
      have hdr : l.drop k = x :: l.drop (k + 1) := by
        obtain ⟨h2, h3⟩ := List.getElem?_eq_some_iff.1 hx
        rw [List.drop_eq_getElem_cons h2, h3]
      obtain ⟨r1, hr1⟩ : ∃ y, chgB x = y := ⟨_, rfl⟩
      obtain ⟨y3, t3⟩ : ∃ y, decide (x.table < lc.table) = y := ⟨_, rfl⟩
      obtain ⟨y4, t4⟩ : ∃ y, decide (x.table = lc.table) = y := ⟨_, rfl⟩
      obtain ⟨y5, t5⟩ : ∃ y, decide (x.key ≤ lc.key) = y := ⟨_, rfl⟩
      have t6 : (x.table == lc.table) = y4 := t4
      have ha := HA.out
      rw [hdr, ascB_step, hr1, t3, t4, t5] at ha
      have HA2 := Lib.hid ha
      rw [hr1]
      have d0 : w4.cell? ⟨wr.heap.size, 0, none⟩ = some (.int .i64 x.table) := hx4.cell 0
      have d1 : w4.cell? ⟨wr.heap.size, 1, none⟩ = some (.int .i64 x.key) := hx4.cell 1
      have d2 : w4.cell? ⟨wr.heap.size, 2, none⟩ = some (.bool x.had) := hx4.cell 2
      have d3 : w4.cell? ⟨wr.heap.size, 3, none⟩ = some (.int .i64 x.old.1) := hx4.cell 3
      have d4 : w4.cell? ⟨wr.heap.size, 4, none⟩ = some (.int .i64 x.old.2.1) := hx4.cell 4
      have d5 : w4.cell? ⟨wr.heap.size, 5, none⟩ = some (.int .i64 x.old.2.2) := hx4.cell 5
      have d6 : w4.cell? ⟨wr.heap.size, 6, none⟩ = some (.bool x.has) := hx4.cell 6
      have d7 : w4.cell? ⟨wr.heap.size, 7, none⟩ = some (.int .i64 x.new.1) := hx4.cell 7
      have d8 : w4.cell? ⟨wr.heap.size, 8, none⟩ = some (.int .i64 x.new.2.1) := hx4.cell 8
      have d9 : w4.cell? ⟨wr.heap.size, 9, none⟩ = some (.int .i64 x.new.2.2) := hx4.cell 9
      have m0 : w4.cell? ⟨w3.heap.size, 0, none⟩ = some (.int .i64 lc.table) := hL4.cell 0
      have f0 := hL4.frozen 0
      have m1 : w4.cell? ⟨w3.heap.size, 1, none⟩ = some (.int .i64 lc.key) := hL4.cell 1
      have f1 := hL4.frozen 1
      have m2 : w4.cell? ⟨w3.heap.size, 2, none⟩ = some (.bool lc.had) := hL4.cell 2
      have f2 := hL4.frozen 2
      have m3 : w4.cell? ⟨w3.heap.size, 3, none⟩ = some (.int .i64 lc.old.1) := hL4.cell 3
      have f3 := hL4.frozen 3
      have m4 : w4.cell? ⟨w3.heap.size, 4, none⟩ = some (.int .i64 lc.old.2.1) := hL4.cell 4
      have f4 := hL4.frozen 4
      have m5 : w4.cell? ⟨w3.heap.size, 5, none⟩ = some (.int .i64 lc.old.2.2) := hL4.cell 5
      have f5 := hL4.frozen 5
      have m6 : w4.cell? ⟨w3.heap.size, 6, none⟩ = some (.bool lc.has) := hL4.cell 6
      have f6 := hL4.frozen 6
      have m7 : w4.cell? ⟨w3.heap.size, 7, none⟩ = some (.int .i64 lc.new.1) := hL4.cell 7
      have f7 := hL4.frozen 7
      have m8 : w4.cell? ⟨w3.heap.size, 8, none⟩ = some (.int .i64 lc.new.2.1) := hL4.cell 8
      have f8 := hL4.frozen 8
      have m9 : w4.cell? ⟨w3.heap.size, 9, none⟩ = some (.int .i64 lc.new.2.2) := hL4.cell 9
      have f9 := hL4.frozen 9
      clear c0 c1 c2 c3 c4 c5 c6 c7 c8 c9 b4 ha hr1 t4 hb hL hx hdr
      cases r1
      · have hRf : R = false := by rw [HA2.out]; rfl
        subst hRf
        go_wp2_with fail
        go_ret
        exact ⟨rfl, hb4⟩
      cases y3
      case true =>
        have hRf : R = false := by rw [HA2.out]; rfl
        subst hRf
        go_wp2_with fail
        go_ret
        exact ⟨rfl, hb4⟩
      by_cases hyy : (y4 && y5) = true
      · obtain ⟨rfl, rfl⟩ : y4 = true ∧ y5 = true := by simpa using hyy
        have hRf : R = false := by rw [HA2.out]; rfl
        subst hRf
        go_wp2_with fail
        go_ret
        exact ⟨rfl, hb4⟩
      have hA3 : R = ascB x.table x.key (l.drop (k + 1)) := by rw [HA2.out]; cases y4 <;> cases y5 <;> simp at hyy ⊢
      have HA3 := Lib.hid hA3
      have hs5 : BlkIs ((((((((((w4.setCell ⟨w3.heap.size, 0, none⟩ (.int .i64 x.table)).setCell ⟨w3.heap.size, 1, none⟩ (.int .i64 x.key)).setCell ⟨w3.heap.size, 2, none⟩ (.bool x.had)).setCell ⟨w3.heap.size, 3, none⟩ (.int .i64 x.old.1)).setCell ⟨w3.heap.size, 4, none⟩ (.int .i64 x.old.2.1)).setCell ⟨w3.heap.size, 5, none⟩ (.int .i64 x.old.2.2)).setCell ⟨w3.heap.size, 6, none⟩ (.bool x.has)).setCell ⟨w3.heap.size, 7, none⟩ (.int .i64 x.new.1)).setCell ⟨w3.heap.size, 8, none⟩ (.int .i64 x.new.2.1)).setCell ⟨w3.heap.size, 9, none⟩ (.int .i64 x.new.2.2)) w3.heap.size 65 (chgCells x) := ((((((((((hL4.set 0 (.int .i64 x.table)).set 1 (.int .i64 x.key)).set 2 (.bool x.had)).set 3 (.int .i64 x.old.1)).set 4 (.int .i64 x.old.2.1)).set 5 (.int .i64 x.old.2.2)).set 6 (.bool x.has)).set 7 (.int .i64 x.new.1)).set 8 (.int .i64 x.new.2.1)).set 9 (.int .i64 x.new.2.2))
      have hb5 := ((((((((((hb4.setCell (p := ⟨w3.heap.size, 0, none⟩) hLw (.int .i64 x.table)).setCell (p := ⟨w3.heap.size, 1, none⟩) hLw (.int .i64 x.key)).setCell (p := ⟨w3.heap.size, 2, none⟩) hLw (.bool x.had)).setCell (p := ⟨w3.heap.size, 3, none⟩) hLw (.int .i64 x.old.1)).setCell (p := ⟨w3.heap.size, 4, none⟩) hLw (.int .i64 x.old.2.1)).setCell (p := ⟨w3.heap.size, 5, none⟩) hLw (.int .i64 x.old.2.2)).setCell (p := ⟨w3.heap.size, 6, none⟩) hLw (.bool x.has)).setCell (p := ⟨w3.heap.size, 7, none⟩) hLw (.int .i64 x.new.1)).setCell (p := ⟨w3.heap.size, 8, none⟩) hLw (.int .i64 x.new.2.1)).setCell (p := ⟨w3.heap.size, 9, none⟩) hLw (.int .i64 x.new.2.2))
      clear hA3 hL4 hb4
      cases y4
      · go_wp2_with fail
        exact ⟨⟨k + 1, x, by omega, by go_num, hs5, HA3, hb5⟩, by simp [intOf]; omega⟩
      cases y5
      · go_wp2_with fail
        exact ⟨⟨k + 1, x, by omega, by go_num, hs5, HA3, hb5⟩, by simp [intOf]; omega⟩
      · simp at hyy
    · have t1 : decide (k < l.length) = false := by simpa using h1
      have hr : R = true := by
        rw [HA.out, List.drop_eq_nil_of_le (by omega)]; rfl
      subst hr
      go_wp2_with fail
      go_ret
      exact ⟨rfl, hb⟩
end Go.Proofs.YtgbemgndbemllaaGreatDoor
end

section
/- Records, heads and logs in memory; what a call may turn. -/
namespace Go.Proofs.YtgbemgndbemllaaGreatDoor
open Go Go.RowKit

/-- All that was there is as it was, but for the blocks of S. -/
structure Only (S : Nat → Prop) (w w' : World) : Prop where
  os : w'.os = w.os
  tape : w'.tape = w.tape
  output : w'.output = w.output
  size : w.heap.size ≤ w'.heap.size
  block : ∀ k, k < w.heap.size → ¬ S k → w'.heap[k]? = w.heap[k]?

theorem Only.refl (S : Nat → Prop) (w : World) : Only S w w := ⟨rfl, rfl, rfl, Nat.le_refl _, fun _ _ _ => rfl⟩
theorem Only.trans {S : Nat → Prop} {a b c : World} (h : Only S a b) (k : Only S b c) : Only S a c :=
  ⟨k.os.trans h.os, k.tape.trans h.tape, k.output.trans h.output, Nat.le_trans h.size k.size, fun j hj hn => (k.block j (Nat.lt_of_lt_of_le hj h.size) hn).trans (h.block j hj hn)⟩
theorem Only.of_below {S : Nat → Prop} {w w' : World} (h : Below w.heap.size w w') : Only S w w' := ⟨h.os, h.tape, h.output, h.size, fun k hk _ => h.block k hk⟩
theorem Only.below {S : Nat → Prop} {B : Nat} {w w' : World} (h : Only S w w') (hb : ∀ k, S k → B ≤ k) (hw : B ≤ w.heap.size) : Below B w w' :=
  ⟨h.os, h.tape, h.output, h.size, fun k hk => h.block k (by omega) fun e => by have := hb k e; omega⟩
theorem Only.mono {S T : Nat → Prop} {w w' : World} (h : Only S w w') (hs : ∀ k, S k → T k) : Only T w w' := ⟨h.os, h.tape, h.output, h.size, fun k hk hn => h.block k hk fun e => hn (hs k e)⟩
theorem Only.setCell {S : Nat → Prop} (w : World) (p : Addr) (u : Value) (h : S p.block) : Only S w (w.setCell p u) :=
  ⟨rfl, rfl, rfl, by simp [World.setCell], fun k _ hn => Below.heap_setCell w p u k fun e => hn (e ▸ h)⟩
theorem Only.grown {S : Nat → Prop} {w w' : World} {row : Option Nat} (h : w.grownBy w' row) (hr : ∀ k, row = some k → S k) : Only S w w' :=
  ⟨h.os, h.tape, h.output, h.size, fun k hk hn => h.block k hk fun e => hn (hr k e.symm)⟩
/-- what is new may turn as well -/
theorem Only.behind {S T : Nat → Prop} {a b c : World} (h : Only S a b) (k : Only T b c) (ht : ∀ j, T j → S j ∨ a.heap.size ≤ j) : Only S a c :=
  ⟨k.os.trans h.os, k.tape.trans h.tape, k.output.trans h.output, Nat.le_trans h.size k.size, fun j hj hn => (k.block j (Nat.lt_of_lt_of_le hj h.size) fun e => by rcases ht j e with h | h; exact hn h; omega).trans (h.block j hj hn)⟩

/-- w' agrees with w on the blocks of S -/
def SameOn (S : Nat → Prop) (w w' : World) : Prop := w.heap.size ≤ w'.heap.size ∧ ∀ k, S k → k < w.heap.size → w'.heap[k]? = w.heap[k]?
theorem SameOn.of_below {S : Nat → Prop} {w w' : World} (h : Below w.heap.size w w') : SameOn S w w' := ⟨h.size, fun k _ hk => h.block k hk⟩
theorem SameOn.of_only {S T : Nat → Prop} {w w' : World} (h : Only T w w') (hn : ∀ k, S k → ¬ T k) : SameOn S w w' := ⟨h.size, fun k hs hk => h.block k hk (hn k hs)⟩
theorem SameOn.trans {S : Nat → Prop} {a b c : World} (h : SameOn S a b) (k : SameOn S b c) : SameOn S a c := ⟨Nat.le_trans h.1 k.1, fun j hs hj => (k.2 j hs (Nat.lt_of_lt_of_le hj h.1)).trans (h.2 j hs hj)⟩

theorem BlkIs.same {S : Nat → Prop} {w w' : World} {g : Nat} {t : TypeId} {cs : List Value} (h : BlkIs w g t cs) (hs : SameOn S w w') (hg : S g) : BlkIs w' g t cs := (hs.2 g hg h.lt).trans h

theorem ownsRow_same {S : Nat → Prop} {w w' : World} {base : Nat} {e : TypeId} {size : Nat} {v : Value} {n : Nat} {xs : List Value} (h : w.ownsRow base e size v n xs) (hs : SameOn S w w') (hg : ∀ b, v.ownBlock = some b → S b) :
    w'.ownsRow base e size v n xs := by
  refine ⟨h.1, ?_⟩
  rcases h.2 with h0 | ⟨g, cap, cur, rfl, hb, hgg, rest⟩
  · exact .inl h0
  · exact .inr ⟨g, cap, cur, rfl, hb, (hs.2 g (hg g rfl) (Array.getElem?_eq_some_iff.1 hgg).1).trans hgg, rest⟩

theorem ownsRow_base0 {w : World} {base : Nat} {e : TypeId} {size : Nat} {v : Value} {n : Nat} {xs : List Value} (h : w.ownsRow base e size v n xs) : w.ownsRow 0 e size v n xs := by
  refine ⟨h.1, ?_⟩
  rcases h.2 with h0 | ⟨g, cap, cur, hv, _, rest⟩
  · exact .inl h0
  · exact .inr ⟨g, cap, cur, hv, Nat.zero_le _, rest⟩

/-- rows whose elements have n cells -/
theorem flat_len {α : Type} (f : α → List Value) (n : Nat) (hf : ∀ a, (f a).length = n) : ∀ l : List α, (l.flatMap f).length = l.length * n
  | [] => by simp
  | a :: l => by rw [List.flatMap_cons, List.length_append, hf, flat_len f n hf l, List.length_cons, Nat.add_mul]; omega
theorem flat_get {α : Type} (f : α → List Value) (n : Nat) (hf : ∀ a, (f a).length = n) : ∀ (l : List α) (j i : Nat) (a : α) (u : Value), l[j]? = some a → (f a)[i]? = some u → (l.flatMap f)[j * n + i]? = some u
  | [], j, _, _, _, h, _ => by simp at h
  | b :: l, 0, i, a, u, h, hu => by
    simp at h; subst h
    rw [List.flatMap_cons, Nat.zero_mul, Nat.zero_add, List.getElem?_append_left (List.getElem?_eq_some_iff.1 hu).1]
    exact hu
  | b :: l, j + 1, i, a, u, h, hu => by
    rw [List.flatMap_cons, List.getElem?_append_right (by rw [hf, Nat.add_mul]; omega), hf, show (j + 1) * n + i - n = j * n + i by rw [Nat.add_mul]; omega]
    exact flat_get f n hf l j i a u (by simpa using h) hu

theorem chgCells_len (c : Chg) : (chgCells c).length = 10 := rfl
def hdCells (h : Hd) : List Value := [.int .i64 h.pos, .string (str h.chain), .string (str h.state)]
theorem hdCells_len (h : Hd) : (hdCells h).length = 3 := rfl
def recCells (p : Rec × Value) : List Value := [.int .i64 p.1.pos, p.2]
theorem recCells_len (p : Rec × Value) : (recCells p).length = 2 := rfl

/-- v is a row of its own with just these changes; its block is of S -/
def ChgsOwn (w : World) (S : Nat → Prop) (v : Value) (l : List Chg) : Prop := w.ownsRow 0 65 10 v l.length (l.flatMap chgCells) ∧ ∀ b, v.ownBlock = some b → S b
def HdRow (w : World) (S : Nat → Prop) (v : Value) (l : List Hd) : Prop := w.ownsRow 0 40 3 v l.length (l.flatMap hdCells) ∧ ∀ b, v.ownBlock = some b → S b
def RecRow (w : World) (S : Nat → Prop) (v : Value) (l : List Rec) : Prop :=
  ∃ ps : List (Rec × Value), ps.map (·.1) = l ∧ w.ownsRow 0 37 2 v ps.length (ps.flatMap recCells) ∧ (∀ b, v.ownBlock = some b → S b) ∧ ∀ p ∈ ps, ChgsOwn w S p.2 p.1.chs
/-- block b is a log; all of its memory is of S -/
def LogAt (w : World) (S : Nat → Prop) (b : Nat) (x : Lg) : Prop := ∃ rv hv, BlkIs w b 77 [rv, hv] ∧ S b ∧ RecRow w S rv x.recs ∧ HdRow w S hv x.heads

theorem ChgsOwn.same {S : Nat → Prop} {w w' : World} {v : Value} {l : List Chg} (h : ChgsOwn w S v l) (hs : SameOn S w w') : ChgsOwn w' S v l := ⟨ownsRow_same h.1 hs h.2, h.2⟩
theorem HdRow.same {S : Nat → Prop} {w w' : World} {v : Value} {l : List Hd} (h : HdRow w S v l) (hs : SameOn S w w') : HdRow w' S v l := ⟨ownsRow_same h.1 hs h.2, h.2⟩
theorem RecRow.same {S : Nat → Prop} {w w' : World} {v : Value} {l : List Rec} (h : RecRow w S v l) (hs : SameOn S w w') : RecRow w' S v l := by
  obtain ⟨ps, h1, h2, h3, h4⟩ := h
  exact ⟨ps, h1, ownsRow_same h2 hs h3, h3, fun p hp => (h4 p hp).same hs⟩
theorem LogAt.same {S : Nat → Prop} {w w' : World} {b : Nat} {x : Lg} (h : LogAt w S b x) (hs : SameOn S w w') : LogAt w' S b x := by
  obtain ⟨rv, hv, h1, h2, h3, h4⟩ := h
  exact ⟨rv, hv, h1.same hs h2, h2, h3.same hs, h4.same hs⟩
theorem LogAt.below {S : Nat → Prop} {w w' : World} {b : Nat} {x : Lg} (h : LogAt w S b x) (hb : Below w.heap.size w w') : LogAt w' S b x := h.same (.of_below hb)
theorem ChgsOwn.mono {S T : Nat → Prop} {w : World} {v : Value} {l : List Chg} (h : ChgsOwn w S v l) (hs : ∀ k, S k → T k) : ChgsOwn w T v l := ⟨h.1, fun b hb => hs b (h.2 b hb)⟩
theorem HdRow.mono {S T : Nat → Prop} {w : World} {v : Value} {l : List Hd} (h : HdRow w S v l) (hs : ∀ k, S k → T k) : HdRow w T v l := ⟨h.1, fun b hb => hs b (h.2 b hb)⟩
theorem RecRow.mono {S T : Nat → Prop} {w : World} {v : Value} {l : List Rec} (h : RecRow w S v l) (hs : ∀ k, S k → T k) : RecRow w T v l := by
  obtain ⟨ps, h1, h2, h3, h4⟩ := h
  exact ⟨ps, h1, h2, fun b hb => hs b (h3 b hb), fun p hp => (h4 p hp).mono hs⟩
theorem LogAt.mono {S T : Nat → Prop} {w : World} {b : Nat} {x : Lg} (h : LogAt w S b x) (hs : ∀ k, S k → T k) : LogAt w T b x := by
  obtain ⟨rv, hv, h1, h2, h3, h4⟩ := h
  exact ⟨rv, hv, h1, hs b h2, h3.mono hs, h4.mono hs⟩

theorem ChgsOwn.nil (w : World) (S : Nat → Prop) : ChgsOwn w S (.slice none 0 0) [] := ⟨World.ownsRow_nil w _ _ _, by simp [Value.ownBlock]⟩
theorem HdRow.nil (w : World) (S : Nat → Prop) : HdRow w S (.slice none 0 0) [] := ⟨World.ownsRow_nil w _ _ _, by simp [Value.ownBlock]⟩
theorem RecRow.nil (w : World) (S : Nat → Prop) : RecRow w S (.slice none 0 0) [] := ⟨[], rfl, World.ownsRow_nil w _ _ _, by simp [Value.ownBlock], by simp⟩

/-- an owned row is read as a slice -/
theorem ownsRow_form {w : World} {base : Nat} {e : TypeId} {size : Nat} {v : Value} {n : Nat} {xs : List Value} (h : w.ownsRow base e size v n xs) :
    ∃ A c, v = .slice A n c ∧ n ≤ c ∧ c ≤ maxLen ∧ (0 < n → ∃ g, A = some ⟨g, 0, none⟩ ∧ g < w.heap.size ∧ v.ownBlock = some g ∧ ∀ (j : Nat) u, xs[j]? = some u → w.cell? ⟨g, j, none⟩ = some u) := by
  have hcells := @World.ownsRow.cells w base e size v n xs h
  rcases h.2 with ⟨rfl, h0⟩ | ⟨g, cap, cur, rfl, hb, hg, hn, hm, _, _⟩
  · exact ⟨none, 0, by rw [h0], by omega, by unfold maxLen; omega, fun h => by omega⟩
  · refine ⟨_, cap, rfl, hn, hm, fun _ => ⟨g, rfl, (Array.getElem?_eq_some_iff.1 hg).1, rfl, fun j u hu => ?_⟩⟩
    have := hcells (g := g) rfl j u hu
    rwa [add_zero_off] at this

theorem ChgsOwn.chgs {S : Nat → Prop} {w : World} {v : Value} {l : List Chg} (h : ChgsOwn w S v l) : ChgsAt w v l := by
  obtain ⟨A, c, rfl, hc, _, hx⟩ := ownsRow_form h.1
  refine ⟨A, c, rfl, hc, fun h0 => ?_⟩
  obtain ⟨g, rfl, hg, _, hj⟩ := hx h0
  refine ⟨g, 0, rfl, hg, fun j x hx i u hu => ?_⟩
  rw [Nat.zero_add]
  exact hj _ _ (flat_get chgCells 10 chgCells_len l j i x u hx hu)
theorem ChgsOwn.lt {S : Nat → Prop} {w : World} {v : Value} {l : List Chg} (h : ChgsOwn w S v l) {b : Nat} (hb : v.ownBlock = some b) : b < w.heap.size := (h.1.lt b hb).2

/-- v is a slice of these records, all below the heap's end -/
def RecsAt (w : World) (v : Value) (l : List Rec) : Prop :=
  ∃ A c, v = .slice A l.length c ∧ l.length ≤ c ∧ (0 < l.length → ∃ g o, A = some ⟨g, o, none⟩ ∧ g < w.heap.size ∧ ∀ (j : Nat) r, l[j]? = some r → w.cell? ⟨g, o + j * 2, none⟩ = some (.int .i64 r.pos) ∧
    ∃ cv, w.cell? ⟨g, o + j * 2 + 1, none⟩ = some cv ∧ ChgsAt w cv r.chs)
theorem RecsAt.below {w w' : World} {v : Value} {l : List Rec} (h : RecsAt w v l) (hb : Below w.heap.size w w') : RecsAt w' v l := by
  obtain ⟨A, c, hv, hc, hx⟩ := h
  refine ⟨A, c, hv, hc, fun h0 => ?_⟩
  obtain ⟨g, o, hA, hlt, hj⟩ := hx h0
  refine ⟨g, o, hA, Nat.lt_of_lt_of_le hlt hb.size, fun j r hr => ?_⟩
  obtain ⟨h1, cv, h2, h3⟩ := hj j r hr
  exact ⟨(hb.cell (p := ⟨g, o + j * 2, none⟩) hlt).trans h1, cv, (hb.cell (p := ⟨g, o + j * 2 + 1, none⟩) hlt).trans h2, h3.below hb⟩
theorem RecRow.recs {S : Nat → Prop} {w : World} {v : Value} {l : List Rec} (h : RecRow w S v l) : RecsAt w v l := by
  obtain ⟨ps, rfl, h2, h3, h4⟩ := h
  obtain ⟨A, c, rfl, hc, _, hx⟩ := ownsRow_form h2
  refine ⟨A, c, by rw [List.length_map], by rw [List.length_map]; exact hc, fun h0 => ?_⟩
  rw [List.length_map] at h0
  obtain ⟨g, rfl, hg, _, hj⟩ := hx h0
  refine ⟨g, 0, rfl, hg, fun j r hr => ?_⟩
  rw [List.getElem?_map, Option.map_eq_some_iff] at hr
  obtain ⟨p, hp, rfl⟩ := hr
  rw [Nat.zero_add]
  exact ⟨hj _ _ (flat_get recCells 2 recCells_len ps j 0 p _ hp rfl), p.2, hj _ _ (flat_get recCells 2 recCells_len ps j 1 p _ hp rfl), (h4 p (List.mem_of_getElem? hp)).chgs⟩
/-- one record of a row -/
theorem RecRow.at_ {S : Nat → Prop} {w : World} {v : Value} {l : List Rec} (h : RecRow w S v l) {j : Nat} {r : Rec} (hr : l[j]? = some r) :
    ∃ g c cv, v = .slice (some ⟨g, 0, none⟩) l.length c ∧ l.length ≤ c ∧ g < w.heap.size ∧ S g ∧ w.cell? ⟨g, j * 2, none⟩ = some (.int .i64 r.pos) ∧ w.cell? ⟨g, j * 2 + 1, none⟩ = some cv ∧ ChgsOwn w S cv r.chs := by
  obtain ⟨ps, rfl, h2, h3, h4⟩ := h
  obtain ⟨A, c, rfl, hc, _, hx⟩ := ownsRow_form h2
  rw [List.getElem?_map, Option.map_eq_some_iff] at hr
  obtain ⟨p, hp, rfl⟩ := hr
  have hlt := (List.getElem?_eq_some_iff.1 hp).1
  obtain ⟨g, rfl, hg, hbg, hj⟩ := hx (by omega)
  exact ⟨g, c, p.2, by rw [List.length_map], by rw [List.length_map]; exact hc, hg, h3 g hbg, hj _ _ (flat_get recCells 2 recCells_len ps j 0 p _ hp rfl), hj _ _ (flat_get recCells 2 recCells_len ps j 1 p _ hp rfl), h4 p (List.mem_of_getElem? hp)⟩
theorem RecRow.len {S : Nat → Prop} {w : World} {v : Value} {l : List Rec} (h : RecRow w S v l) : ∃ A c, v = .slice A l.length c ∧ l.length ≤ c := by
  obtain ⟨ps, rfl, h2, h3, h4⟩ := h
  obtain ⟨A, c, rfl, hc, _, hx⟩ := ownsRow_form h2
  exact ⟨A, c, by rw [List.length_map], by rw [List.length_map]; exact hc⟩
/-- one head of a row -/
theorem HdRow.at_ {S : Nat → Prop} {w : World} {v : Value} {l : List Hd} (h : HdRow w S v l) {j : Nat} {x : Hd} (hx : l[j]? = some x) :
    ∃ g c, v = .slice (some ⟨g, 0, none⟩) l.length c ∧ l.length ≤ c ∧ g < w.heap.size ∧ S g ∧ w.cell? ⟨g, j * 3, none⟩ = some (.int .i64 x.pos) ∧ w.cell? ⟨g, j * 3 + 1, none⟩ = some (.string (str x.chain)) ∧ w.cell? ⟨g, j * 3 + 2, none⟩ = some (.string (str x.state)) := by
  obtain ⟨A, c, rfl, hc, _, hj⟩ := ownsRow_form h.1
  have hlt := (List.getElem?_eq_some_iff.1 hx).1
  obtain ⟨g, rfl, hg, hbg, hj⟩ := hj (by omega)
  exact ⟨g, c, rfl, hc, hg, h.2 g hbg, hj _ _ (flat_get hdCells 3 hdCells_len l j 0 x _ hx rfl), hj _ _ (flat_get hdCells 3 hdCells_len l j 1 x _ hx rfl), hj _ _ (flat_get hdCells 3 hdCells_len l j 2 x _ hx rfl)⟩
theorem HdRow.len {S : Nat → Prop} {w : World} {v : Value} {l : List Hd} (h : HdRow w S v l) : ∃ A c, v = .slice A l.length c ∧ l.length ≤ c := by
  obtain ⟨A, c, hv, hc, _⟩ := ownsRow_form h.1
  exact ⟨A, c, hv, hc⟩
end Go.Proofs.YtgbemgndbemllaaGreatDoor
end

section
/- EncodeRecord: its plain laws. -/
namespace Go.Proofs.YtgbemgndbemllaaGreatDoor
open Go Go.RowKit

/-- EncodeRecord -/
def encRecE (r : Rec) : List UInt8 × Int := if recB r then (encRec r, 0) else ([], 30)

theorem ascB_mem : ∀ {l : List Chg} {t k : Int}, ascB t k l = true → ∀ c ∈ l, chgB c = true
  | [], _, _, _, c, hc => by simp at hc
  | x :: l, t, k, h, c, hc => by
    rw [ascB_step] at h
    simp only [Bool.and_eq_true] at h
    rcases List.mem_cons.1 hc with rfl | hc
    · exact h.1.1
    · exact ascB_mem h.2 c hc
theorem recB_mem {r : Rec} (h : recB r = true) : ∀ c ∈ r.chs, chgB c = true := by
  unfold recB at h
  simp only [Bool.and_eq_true] at h
  exact ascB_mem h.2

theorem rowB_parts {t k : Int} {v : Int × Int × Int} (h : rowB t k v = true) : 0 ≤ t ∧ t ≤ 3 ∧ 1 ≤ k ∧ k ≤ 1000000 ∧ (∀ n ∈ tri v, -1000000000 ≤ n ∧ n ≤ 1000000000) := by
  unfold rowB valB at h
  simp only [Bool.and_eq_true, decide_eq_true_eq] at h
  obtain ⟨⟨⟨h1, h2⟩, h3, h4⟩, ⟨h5, h6⟩, h7⟩ := h
  refine ⟨h1, h2, h3, h4, fun n hn => ?_⟩
  unfold tri at hn
  simp only [List.mem_cons, List.not_mem_nil, or_false] at hn
  rcases hn with rfl | rfl | rfl
  · exact h5
  · exact h6
  · exact h7
theorem soundB_row {c : Chg} {v : Int × Int × Int} (h : soundB c true v = true) : rowB c.table c.key v = true := by
  unfold soundB at h
  simpa using h
theorem chgB_parts {c : Chg} (h : chgB c = true) : (c.had = true ∨ c.has = true) ∧ 0 ≤ c.table ∧ c.table ≤ 3 ∧ 1 ≤ c.key ∧ c.key ≤ 1000000 ∧ (∀ n ∈ valsC c, -1000000000 ≤ n ∧ n ≤ 1000000000) := by
  unfold chgB at h
  simp only [Bool.and_eq_true] at h
  obtain ⟨⟨h1, h2⟩, h3⟩ := h
  have hh : c.had = true ∨ c.has = true := by
    cases h4 : c.had <;> cases h5 : c.has
    · rw [h4, h5] at h1; simp at h1
    · exact .inr rfl
    · exact .inl rfl
    · exact .inl rfl
  have hr : (c.had = true → rowB c.table c.key c.old = true) ∧ (c.has = true → rowB c.table c.key c.new = true) :=
    ⟨fun e => by rw [e] at h2; exact soundB_row h2, fun e => by rw [e] at h3; exact soundB_row h3⟩
  have ht : 0 ≤ c.table ∧ c.table ≤ 3 ∧ 1 ≤ c.key ∧ c.key ≤ 1000000 := by
    rcases hh with e | e
    · obtain ⟨a, b, d, f, _⟩ := rowB_parts (hr.1 e); exact ⟨a, b, d, f⟩
    · obtain ⟨a, b, d, f, _⟩ := rowB_parts (hr.2 e); exact ⟨a, b, d, f⟩
  refine ⟨hh, ht.1, ht.2.1, ht.2.2.1, ht.2.2.2, fun n hn => ?_⟩
  unfold valsC at hn
  rcases List.mem_append.1 hn with hn | hn
  · split at hn
    · rename_i e
      exact (rowB_parts (hr.1 e)).2.2.2.2 n hn
    · simp at hn
  · split at hn
    · rename_i e
      exact (rowB_parts (hr.2 e)).2.2.2.2 n hn
    · simp at hn

theorem encChg_len (c : Chg) : (encChg c).length ≤ 81 := by
  unfold encChg
  rw [List.length_append]
  have h1 := putsL_len [c.table, c.key, flagsC c]
  have h2 := putsL_len (valsC c)
  have h3 : (valsC c).length ≤ 6 := by
    unfold valsC tri
    rw [List.length_append]
    split <;> split <;> simp
  simp only [List.length_cons, List.length_nil] at h1
  omega
theorem encs_len (l : List Chg) : (l.flatMap encChg).length ≤ 81 * l.length := by
  induction l with
  | nil => simp
  | cons c l ih =>
    rw [List.flatMap_cons, List.length_append, List.length_cons]
    have := encChg_len c
    omega
theorem encRec_len {r : Rec} (h : recB r = true) : (encRec r).length ≤ 1000 := by
  obtain ⟨_, _, _, h8⟩ := recB_pos h
  unfold encRec
  rw [List.length_append]
  have h1 := putsL_len [r.pos, (r.chs.length : Nat)]
  have h2 := encs_len r.chs
  simp only [List.length_cons, List.length_nil] at h1
  omega

/-- behind k changes -/
def encP (p : Int) (l : List Chg) (k : Nat) : List UInt8 := putsL [p, (l.length : Nat)] ++ (l.take k).flatMap encChg
theorem encP_len (p : Int) (l : List Chg) (k : Nat) (h : l.length ≤ 8) : (encP p l k).length ≤ 1000 := by
  unfold encP
  rw [List.length_append]
  have h1 := putsL_len [p, (l.length : Nat)]
  have h2 := encs_len (l.take k)
  rw [List.length_take] at h2
  simp only [List.length_cons, List.length_nil] at h1
  omega
theorem encP_zero (p : Int) (l : List Chg) : encP p l 0 = putsL [p, (l.length : Nat)] := by simp [encP]
theorem encP_succ (p : Int) (l : List Chg) (k : Nat) (x : Chg) (h : l[k]? = some x) : encP p l (k + 1) = encP p l k ++ encChg x := by
  unfold encP
  rw [List.take_add_one, h, List.flatMap_append, List.append_assoc]
  simp
theorem encP_all (p : Int) (l : List Chg) (k : Nat) (h : l.length ≤ k) : encP p l k = encRec ⟨p, l⟩ := by
  unfold encP encRec
  rw [List.take_of_length_le h]

/-- cells to be appended, in a block that is known whole -/
theorem blk_news {w : World} {g : Nat} {t : TypeId} {cs : List Value} (h : BlkIs w g t cs) (o : Nat) (news : List Value) (hn : (cs.drop o).take news.length = news) : ∀ (j : Nat) u, news[j]? = some u → w.cell? ((⟨g, o, none⟩ : Addr).add j) = some u := by
  intro j u hu
  rw [add_off, h.cell]
  rw [← hn, List.getElem?_take, List.getElem?_drop] at hu
  split at hu
  · exact hu
  · cases hu
/-- a row of numbers is read -/
theorem row_ints {w : World} {base gv n cap : Nat} (l : List Int) (own : w.ownsRow base 3 1 (.slice (some ⟨gv, 0, none⟩) n cap) n (l.map iv64)) : ∀ (j : Nat) y, l[j]? = some y → w.cell? ⟨gv, 0 + j, none⟩ = some (.int .i64 y) := by
  intro j y hy
  rw [Nat.zero_add]
  exact ownsRow_cell own j _ (by rw [List.getElem?_map, hy]; rfl)
theorem below_fresh {B : Nat} {a w w' : World} (h : Below B a w) (hB : B ≤ w.heap.size) {v : Value} (g : w.grownBy w' v.ownBlock) (hv : ∀ k, v.ownBlock = some k → B ≤ k) : Below B a w' :=
  h.trans ⟨g.os, g.tape, g.output, g.size, fun j hj => g.block j (by omega) fun e => by have := hv j e.symm; omega⟩
end Go.Proofs.YtgbemgndbemllaaGreatDoor
end

section
/- EncodeRecord. -/
namespace Go.Proofs.YtgbemgndbemllaaGreatDoor
open Go Go.RowKit
attribute [local go_sem] Oper.semAt_some

set_option maxRecDepth 100000 in
set_option maxHeartbeats 8000000 in
theorem enc_ok (p : Int) (A : Option Addr) (c : Nat) (l : List Chg) (w : World) (hv : ChgsAt w (.slice A l.length c) l) :
    Calls Tryz.prog 63 #[recV p (.slice A l.length c)] w fun e w' => e = .returned (.tuple #[.string (str (encRecE ⟨p, l⟩).1), .int .i64 (encRecE ⟨p, l⟩).2]) ∧ Below w.heap.size w w' := by
  obtain ⟨i0, hi0, hz0, hz1, hz2⟩ := info_int
  have hb1 := Below.alloc (Below.refl w.heap.size w) (Nat.le_refl _) (.cells #[.int .i64 p, .slice A l.length c] 37)
  have hval := recValid_ok p A c l _ (hv.below hb1)
  obtain ⟨R, hR⟩ : ∃ R, recB ⟨p, l⟩ = R := ⟨_, rfl⟩
  rw [hR] at hval
  have HVAL := Lib.hid hval
  have HV := Lib.hid hv
  have HB := Lib.hid hb1
  cases R
  · have he : encRecE ⟨p, l⟩ = ([], 30) := by unfold encRecE; rw [hR]; rfl
    rw [he]
    unfold recV
    unfold recV at HVAL
    clear hval hv hb1 hR he
    go_enter Tryz.func63, Tryz.ntmps63
    go_wp2_with fail
    refine (HVAL.out).mono ?_
    rintro e w1 ⟨rfl, b1⟩
    have hb2 := Below.next HB.out b1
    go_wp2_with fail
    go_ret2
    exact ⟨rfl, hb2⟩
  have he : encRecE ⟨p, l⟩ = (encRec ⟨p, l⟩, 0) := by unfold encRecE; rw [hR]; rfl
  obtain ⟨p1, p2, l1, l8⟩ := recB_pos hR
  dsimp only at p1 p2 l1 l8
  have hmem := recB_mem hR
  dsimp only at hmem
  have HMEM := Lib.hid hmem
  rw [he]
  unfold recV
  unfold recV at HVAL
  clear hval hv hb1 hR he hmem
  go_enter Tryz.func63, Tryz.ntmps63
  go_wp2_with fail
  refine (HVAL.out).mono ?_
  rintro e w1 ⟨rfl, b1⟩
  have h1 : BlkIs w1 w.heap.size 37 [.int .i64 p, .slice A l.length c] := (b1.block w.heap.size (by simp [World.size_alloc])).trans (World.alloc_heap_new w _)
  have c0 : w1.cell? ⟨w.heap.size, 0, none⟩ = some (.int .i64 p) := h1.cell 0
  have c1 : w1.cell? ⟨w.heap.size, 1, none⟩ = some (.slice A l.length c) := h1.cell 1
  have hb1 := Below.next HB.out b1
  have hle1 := hb1.size
  clear b1
  go_wp2_with fail
  refine (put_ok w1.heap.size 0 2 [p, ((l.length : Nat) : Int)] _ (by simp [World.size_alloc]) (by simp) ?_ ?_).mono ?_
  · intro n hn
    simp only [List.mem_cons, List.not_mem_nil, or_false] at hn
    rcases hn with rfl | rfl
    · exact ⟨by omega, by omega⟩
    · exact ⟨by omega, by omega⟩
  · intro j x hj
    match j, hj with
    | 0, hj => cases hj; rw [cell_of_row _ _ 0 _ _ _ (World.alloc_heap_new w1 _)]; rfl
    | 1, hj => cases hj; rw [cell_of_row _ _ 1 _ _ _ (World.alloc_heap_new w1 _)]; rfl
  rintro e w2 ⟨rfl, b2⟩
  have hlt1 := h1.lt
  have h2 : BlkIs w2 w.heap.size 37 [.int .i64 p, .slice A l.length c] := (b2.block w.heap.size (by rw [World.size_alloc]; omega)).trans ((Below.heap_alloc _ _ w.heap.size hlt1).trans h1)
  have d1 : w2.cell? ⟨w.heap.size, 1, none⟩ = some (.slice A l.length c) := h2.cell 1
  have hb2 := Below.next (Below.alloc hb1 hle1 _) b2
  clear b2 h1 c0 c1 hb1 h2
  rw [← encP_zero]
  go_wp2_with fail
  clear d1
  go_loopw [4, 22] (fun ov iv wr => ∃ k : Nat, k ≤ l.length ∧ iv = .int .i64 k ∧ ov = .string (str (encP p l k)) ∧ Below w.heap.size w wr) (fun _ iv _ => l.length - (intOf iv).toNat)
  case atStart => exact ⟨0, by omega, rfl, rfl, hb2⟩
  case round =>
    clear hb2
    obtain ⟨k, hk, rfl, rfl, hb⟩ := hrel
    by_cases h1 : k < l.length
    · have t1 : decide (k < l.length) = true := by simpa using h1
      obtain ⟨x, hx⟩ : ∃ x, l[k]? = some x := ⟨_, List.getElem?_eq_getElem h1⟩
      obtain ⟨A', c', hv, hc, hj⟩ := HV.out
      injection hv with e1 e2 e3
      subst e1 e3
      obtain ⟨g, o, rfl, hg, hj⟩ := hj (by omega)
      have hcell : ∀ (i : Nat) u, (chgCells x)[i]? = some u → wr.cell? ⟨g, o + k * 10 + i, none⟩ = some u := fun i u hu => (hb.cell (p := ⟨g, o + k * 10 + i, none⟩) hg).trans (hj k x hx i u hu)
      have hchg := HMEM.out x (List.mem_of_getElem? hx)
      obtain ⟨hh, v1, v2, v3, v4, v5⟩ := chgB_parts hchg
      have hP := encP_len p l k l8
      have hN := encP_succ p l k x hx
      have hxl := encChg_len x
      obtain ⟨P, hPe⟩ : ∃ P, P = encP p l k := ⟨_, rfl⟩
      rw [← hPe] at hP hN ⊢
      clear hPe hchg hj hx
      obtain ⟨t, ky, had, ⟨o0, o1, o2⟩, has, ⟨n0, n1, n2⟩⟩ := x
      dsimp only at hh v1 v2 v3 v4
      have hxe : encChg ⟨t, ky, had, (o0, o1, o2), has, (n0, n1, n2)⟩ = putsL [t, ky, flagsC ⟨t, ky, had, (o0, o1, o2), has, (n0, n1, n2)⟩] ++ putsL (valsC ⟨t, ky, had, (o0, o1, o2), has, (n0, n1, n2)⟩) := rfl
      have c0 : wr.cell? ⟨g, o + k * 10, none⟩ = some (.int .i64 t) := hcell 0 _ rfl
      have c1 : wr.cell? ⟨g, o + k * 10 + 1, none⟩ = some (.int .i64 ky) := hcell 1 _ rfl
      have c2 : wr.cell? ⟨g, o + k * 10 + 2, none⟩ = some (.bool had) := hcell 2 _ rfl
      have c3 : wr.cell? ⟨g, o + k * 10 + 3, none⟩ = some (.int .i64 o0) := hcell 3 _ rfl
      have c4 : wr.cell? ⟨g, o + k * 10 + 4, none⟩ = some (.int .i64 o1) := hcell 4 _ rfl
      have c5 : wr.cell? ⟨g, o + k * 10 + 5, none⟩ = some (.int .i64 o2) := hcell 5 _ rfl
      have c6 : wr.cell? ⟨g, o + k * 10 + 6, none⟩ = some (.bool has) := hcell 6 _ rfl
      have c7 : wr.cell? ⟨g, o + k * 10 + 7, none⟩ = some (.int .i64 n0) := hcell 7 _ rfl
      have c8 : wr.cell? ⟨g, o + k * 10 + 8, none⟩ = some (.int .i64 n1) := hcell 8 _ rfl
      have c9 : wr.cell? ⟨g, o + k * 10 + 9, none⟩ = some (.int .i64 n2) := hcell 9 _ rfl
      have q0 : (0 : Int) ≤ (k : Int) := by omega
      have q1 : (k : Int) < (l.length : Int) := by omega
      have hle := hb.size
      have hx0 := BlkIs.new wr 65 #[.int .i64 t, .int .i64 ky, .bool had, .int .i64 o0, .int .i64 o1, .int .i64 o2, .bool has, .int .i64 n0, .int .i64 n1, .int .i64 n2]
      dsimp only at hx0
      have hb0 := Below.alloc hb hle (.cells #[.int .i64 t, .int .i64 ky, .bool had, .int .i64 o0, .int .i64 o1, .int .i64 o2, .bool has, .int .i64 n0, .int .i64 n1, .int .i64 n2] 65)
      have hle0 := hb0.size
      have HN := Lib.hid hN
      have HXE := Lib.hid hxe
      have HV5 := Lib.hid v5
      clear hcell hN hxe v5
      cases had <;> cases has
      · simp at hh
      · go_wp2_with (at_builtin; refine wpList_append_own _ rfl _ _ 122 rfl w.heap.size 3 i0 (.int .i64 0) 1 8 Tryz.underlying122 hi0 hz0 hz1 hz2 rfl (by decide) (.slice none 0 0) 0 [] rfl (World.ownsRow_nil _ _ _ 1) ⟨wr.heap.size, 7, none⟩ 3 3 [.int .i64 n0, .int .i64 n1, .int .i64 n2] rfl rfl (blk_news hx0 7 [.int .i64 n0, .int .i64 n1, .int .i64 n2] rfl) (by simp [Value.oneCell']) (by unfold maxLen; omega) (by omega) (by first | omega | (simp; omega)) ?_; intro v5 w5 own5 g5 _; have hx5 := BlkIs.kept hx0 g5 (by simp [Value.ownBlock]); have hb5 := below_fresh hb0 hle0 g5 (fun k hk => by simp [Value.ownBlock] at hk); clear hx0 hb0 g5; have d0 : w5.cell? ⟨wr.heap.size, 0, none⟩ = some (.int .i64 t) := hx5.cell 0; have d1 : w5.cell? ⟨wr.heap.size, 1, none⟩ = some (.int .i64 ky) := hx5.cell 1; obtain ⟨gv, capv, csv, hve, hgb, hbv, hcn, hcm, _⟩ := ownsRow_blk own5 (by decide); subst hve; have HCV := Lib.hid (row_ints ([n0, n1, n2] : List Int) own5); have hltv := hbv.lt; clear own5 hbv hx5)
        have hok : ∀ y ∈ ([n0, n1, n2] : List Int), IntOk y := fun y hy => by
          have := HV5.out y hy
          exact ⟨by omega, by omega⟩
        have HOK := Lib.hid hok
        clear hok
        refine (put_ok w5.heap.size 0 3 [t, ky, 2] _ (by simp [World.size_alloc]) (by simp) ?_ ?_).mono ?_
        · intro y hy
          simp only [List.mem_cons, List.not_mem_nil, or_false] at hy
          rcases hy with rfl | rfl | rfl <;> exact ⟨by omega, by omega⟩
        · intro j y hj
          match j, hj with
          | 0, hj => cases hj; rw [cell_of_row _ _ 0 _ _ _ (World.alloc_heap_new w5 _)]; rfl
          | 1, hj => cases hj; rw [cell_of_row _ _ 1 _ _ _ (World.alloc_heap_new w5 _)]; rfl
          | 2, hj => cases hj; rw [cell_of_row _ _ 2 _ _ _ (World.alloc_heap_new w5 _)]; rfl
        rintro e w7 ⟨rfl, b7⟩
        have hle7 := hb5.size
        have hb7 := Below.next (Below.alloc hb5 hle7 _) b7
        have hlt7 : gv < w7.heap.size := by have := b7.size; rw [World.size_alloc] at this; omega
        have hcv7 : ∀ (j : Nat) y, ([n0, n1, n2] : List Int)[j]? = some y → w7.cell? ⟨gv, 0 + j, none⟩ = some (.int .i64 y) := fun j y hy =>
          (b7.cell (p := ⟨gv, 0 + j, none⟩) (Nat.lt_of_lt_of_le hltv (by rw [World.size_alloc]; omega))).trans ((World.cell?_of_block (Below.heap_alloc w5 _ gv hltv)).trans (HCV.out j y hy))
        have HCV7 := Lib.hid hcv7
        clear hcv7 d0 d1
        go_wp2_with fail
        refine (put_ok gv 0 capv [n0, n1, n2] _ hlt7 (by simp) HOK.out HCV7.out).mono ?_
        rintro e w8 ⟨rfl, b8⟩
        have hb8 := Below.next hb7 b8
        have hl3 := putsL_len [t, ky, 2]
        have hl4 := putsL_len [n0, n1, n2]
        simp only [List.length_cons, List.length_nil] at hl3 hl4
        have hcat1 : str (putsL [t, ky, 2]) ++ str (putsL [n0, n1, n2]) = str (encChg ⟨t, ky, false, (o0, o1, o2), true, (n0, n1, n2)⟩) := by rw [cat_str, HXE.out]; rfl
        have hcat2 : str P ++ (str (putsL [t, ky, 2]) ++ str (putsL [n0, n1, n2])) = str (encP p l (k + 1)) := by rw [hcat1, cat_str, HN.out]
        have s1 : ¬ 9223372036854775807 < (putsL [t, ky, 2]).length + (putsL [n0, n1, n2]).length := by omega
        have s2 : ¬ 9223372036854775807 < P.length + ((putsL [t, ky, 2]).length + (putsL [n0, n1, n2]).length) := by omega
        have HC2 := Lib.hid hcat2
        clear hcat1 hcat2
        go_wp2_with fail
        exact ⟨⟨k + 1, by omega, by go_num, by rw [← HC2.out], hb8⟩, by simp [intOf]; omega⟩
      · go_wp2_with (at_builtin; refine wpList_append_own _ rfl _ _ 122 rfl w.heap.size 3 i0 (.int .i64 0) 1 8 Tryz.underlying122 hi0 hz0 hz1 hz2 rfl (by decide) (.slice none 0 0) 0 [] rfl (World.ownsRow_nil _ _ _ 1) ⟨wr.heap.size, 3, none⟩ 3 3 [.int .i64 o0, .int .i64 o1, .int .i64 o2] rfl rfl (blk_news hx0 3 [.int .i64 o0, .int .i64 o1, .int .i64 o2] rfl) (by simp [Value.oneCell']) (by unfold maxLen; omega) (by omega) (by first | omega | (simp; omega)) ?_; intro v5 w5 own5 g5 _; have hx5 := BlkIs.kept hx0 g5 (by simp [Value.ownBlock]); have hb5 := below_fresh hb0 hle0 g5 (fun k hk => by simp [Value.ownBlock] at hk); have e6 : w5.cell? ⟨wr.heap.size, 6, none⟩ = some (.bool false) := hx5.cell 6; clear hx0 hb0 g5; have d0 : w5.cell? ⟨wr.heap.size, 0, none⟩ = some (.int .i64 t) := hx5.cell 0; have d1 : w5.cell? ⟨wr.heap.size, 1, none⟩ = some (.int .i64 ky) := hx5.cell 1; obtain ⟨gv, capv, csv, hve, hgb, hbv, hcn, hcm, _⟩ := ownsRow_blk own5 (by decide); subst hve; have HCV := Lib.hid (row_ints ([o0, o1, o2] : List Int) own5); have hltv := hbv.lt; clear own5 hbv hx5)
        have hok : ∀ y ∈ ([o0, o1, o2] : List Int), IntOk y := fun y hy => by
          have := HV5.out y hy
          exact ⟨by omega, by omega⟩
        have HOK := Lib.hid hok
        clear hok
        refine (put_ok w5.heap.size 0 3 [t, ky, 1] _ (by simp [World.size_alloc]) (by simp) ?_ ?_).mono ?_
        · intro y hy
          simp only [List.mem_cons, List.not_mem_nil, or_false] at hy
          rcases hy with rfl | rfl | rfl <;> exact ⟨by omega, by omega⟩
        · intro j y hj
          match j, hj with
          | 0, hj => cases hj; rw [cell_of_row _ _ 0 _ _ _ (World.alloc_heap_new w5 _)]; rfl
          | 1, hj => cases hj; rw [cell_of_row _ _ 1 _ _ _ (World.alloc_heap_new w5 _)]; rfl
          | 2, hj => cases hj; rw [cell_of_row _ _ 2 _ _ _ (World.alloc_heap_new w5 _)]; rfl
        rintro e w7 ⟨rfl, b7⟩
        have hle7 := hb5.size
        have hb7 := Below.next (Below.alloc hb5 hle7 _) b7
        have hlt7 : gv < w7.heap.size := by have := b7.size; rw [World.size_alloc] at this; omega
        have hcv7 : ∀ (j : Nat) y, ([o0, o1, o2] : List Int)[j]? = some y → w7.cell? ⟨gv, 0 + j, none⟩ = some (.int .i64 y) := fun j y hy =>
          (b7.cell (p := ⟨gv, 0 + j, none⟩) (Nat.lt_of_lt_of_le hltv (by rw [World.size_alloc]; omega))).trans ((World.cell?_of_block (Below.heap_alloc w5 _ gv hltv)).trans (HCV.out j y hy))
        have HCV7 := Lib.hid hcv7
        clear hcv7 d0 d1
        go_wp2_with fail
        refine (put_ok gv 0 capv [o0, o1, o2] _ hlt7 (by simp) HOK.out HCV7.out).mono ?_
        rintro e w8 ⟨rfl, b8⟩
        have hb8 := Below.next hb7 b8
        have hl3 := putsL_len [t, ky, 1]
        have hl4 := putsL_len [o0, o1, o2]
        simp only [List.length_cons, List.length_nil] at hl3 hl4
        have hcat1 : str (putsL [t, ky, 1]) ++ str (putsL [o0, o1, o2]) = str (encChg ⟨t, ky, true, (o0, o1, o2), false, (n0, n1, n2)⟩) := by rw [cat_str, HXE.out]; rfl
        have hcat2 : str P ++ (str (putsL [t, ky, 1]) ++ str (putsL [o0, o1, o2])) = str (encP p l (k + 1)) := by rw [hcat1, cat_str, HN.out]
        have s1 : ¬ 9223372036854775807 < (putsL [t, ky, 1]).length + (putsL [o0, o1, o2]).length := by omega
        have s2 : ¬ 9223372036854775807 < P.length + ((putsL [t, ky, 1]).length + (putsL [o0, o1, o2]).length) := by omega
        have HC2 := Lib.hid hcat2
        clear hcat1 hcat2
        go_wp2_with fail
        exact ⟨⟨k + 1, by omega, by go_num, by rw [← HC2.out], hb8⟩, by simp [intOf]; omega⟩
      · go_wp2_with (first | (at_builtin; refine wpList_append_own _ rfl _ _ 122 rfl w.heap.size 3 i0 (.int .i64 0) 1 8 Tryz.underlying122 hi0 hz0 hz1 hz2 rfl (by decide) (.slice none 0 0) 0 [] rfl (World.ownsRow_nil _ _ _ 1) ⟨wr.heap.size, 3, none⟩ 3 3 [.int .i64 o0, .int .i64 o1, .int .i64 o2] rfl rfl (blk_news hx0 3 [.int .i64 o0, .int .i64 o1, .int .i64 o2] rfl) (by simp [Value.oneCell']) (by unfold maxLen; omega) (by omega) (by first | omega | (simp; omega)) ?_; intro v5 w5 own5 g5 _; have hx5 := BlkIs.kept hx0 g5 (by simp [Value.ownBlock]); have hb5 := below_fresh hb0 hle0 g5 (fun k hk => by simp [Value.ownBlock] at hk); have hle5 := hb5.size; have e6 : w5.cell? ⟨wr.heap.size, 6, none⟩ = some (.bool true) := hx5.cell 6; clear hx0 hb0 g5) | (at_builtin; refine wpList_append_own _ rfl _ _ 122 rfl w.heap.size 3 i0 (.int .i64 0) 1 8 Tryz.underlying122 hi0 hz0 hz1 hz2 rfl (by decide) v5 3 [.int .i64 o0, .int .i64 o1, .int .i64 o2] rfl own5 ⟨wr.heap.size, 7, none⟩ 3 3 [.int .i64 n0, .int .i64 n1, .int .i64 n2] rfl rfl (blk_news hx5 7 [.int .i64 n0, .int .i64 n1, .int .i64 n2] rfl) (by simp [Value.oneCell']) (by unfold maxLen; omega) (by omega) (by first | omega | (simp; omega)) ?_; intro v6 w6 own6 g6 _; have hx6 := BlkIs.kept hx5 g6 (hx5.not_row (by decide) own5); have hb6 := below_fresh hb5 hle5 g6 (fun k hk => (own5.lt k hk).1); clear hx5 hb5 g6 own5 e6; have d0 : w6.cell? ⟨wr.heap.size, 0, none⟩ = some (.int .i64 t) := hx6.cell 0; have d1 : w6.cell? ⟨wr.heap.size, 1, none⟩ = some (.int .i64 ky) := hx6.cell 1; obtain ⟨gv, capv, csv, hve, hgb, hbv, hcn, hcm, _⟩ := ownsRow_blk own6 (by decide); subst hve; have HCV := Lib.hid (row_ints ([o0, o1, o2, n0, n1, n2] : List Int) own6); have hltv := hbv.lt; clear own6 hbv hx6))
        have hok : ∀ y ∈ ([o0, o1, o2, n0, n1, n2] : List Int), IntOk y := fun y hy => by
          have := HV5.out y hy
          exact ⟨by omega, by omega⟩
        have HOK := Lib.hid hok
        clear hok
        refine (put_ok w6.heap.size 0 3 [t, ky, 3] _ (by simp [World.size_alloc]) (by simp) ?_ ?_).mono ?_
        · intro y hy
          simp only [List.mem_cons, List.not_mem_nil, or_false] at hy
          rcases hy with rfl | rfl | rfl <;> exact ⟨by omega, by omega⟩
        · intro j y hj
          match j, hj with
          | 0, hj => cases hj; rw [cell_of_row _ _ 0 _ _ _ (World.alloc_heap_new w6 _)]; rfl
          | 1, hj => cases hj; rw [cell_of_row _ _ 1 _ _ _ (World.alloc_heap_new w6 _)]; rfl
          | 2, hj => cases hj; rw [cell_of_row _ _ 2 _ _ _ (World.alloc_heap_new w6 _)]; rfl
        rintro e w7 ⟨rfl, b7⟩
        have hle7 := hb6.size
        have hb7 := Below.next (Below.alloc hb6 hle7 _) b7
        have hlt7 : gv < w7.heap.size := by have := b7.size; rw [World.size_alloc] at this; omega
        have hcv7 : ∀ (j : Nat) y, ([o0, o1, o2, n0, n1, n2] : List Int)[j]? = some y → w7.cell? ⟨gv, 0 + j, none⟩ = some (.int .i64 y) := fun j y hy =>
          (b7.cell (p := ⟨gv, 0 + j, none⟩) (Nat.lt_of_lt_of_le hltv (by rw [World.size_alloc]; omega))).trans ((World.cell?_of_block (Below.heap_alloc w6 _ gv hltv)).trans (HCV.out j y hy))
        have HCV7 := Lib.hid hcv7
        clear hcv7 d0 d1
        go_wp2_with fail
        refine (put_ok gv 0 capv [o0, o1, o2, n0, n1, n2] _ hlt7 (by simp) HOK.out HCV7.out).mono ?_
        rintro e w8 ⟨rfl, b8⟩
        have hb8 := Below.next hb7 b8
        have hl3 := putsL_len [t, ky, 3]
        have hl4 := putsL_len [o0, o1, o2, n0, n1, n2]
        simp only [List.length_cons, List.length_nil] at hl3 hl4
        have hcat1 : str (putsL [t, ky, 3]) ++ str (putsL [o0, o1, o2, n0, n1, n2]) = str (encChg ⟨t, ky, true, (o0, o1, o2), true, (n0, n1, n2)⟩) := by rw [cat_str, HXE.out]; rfl
        have hcat2 : str P ++ (str (putsL [t, ky, 3]) ++ str (putsL [o0, o1, o2, n0, n1, n2])) = str (encP p l (k + 1)) := by rw [hcat1, cat_str, HN.out]
        have s1 : ¬ 9223372036854775807 < (putsL [t, ky, 3]).length + (putsL [o0, o1, o2, n0, n1, n2]).length := by omega
        have s2 : ¬ 9223372036854775807 < P.length + ((putsL [t, ky, 3]).length + (putsL [o0, o1, o2, n0, n1, n2]).length) := by omega
        have HC2 := Lib.hid hcat2
        clear hcat1 hcat2
        go_wp2_with fail
        exact ⟨⟨k + 1, by omega, by go_num, by rw [← HC2.out], hb8⟩, by simp [intOf]; omega⟩
    · have t1 : decide (k < l.length) = false := by simpa using h1
      have hr := encP_all p l k (by omega)
      have HR := Lib.hid hr
      clear hr
      go_wp2_with fail
      go_ret2
      exact ⟨by rw [← HR.out]; rfl, hb⟩
end Go.Proofs.YtgbemgndbemllaaGreatDoor
end

section
/- Next. -/
namespace Go.Proofs.YtgbemgndbemllaaGreatDoor
open Go Go.RowKit
attribute [local go_sem] Oper.semAt_some

theorem chain_str (s t : List UInt8) (w : World) (hs : s.length + t.length ≤ 900000) (hR : RoundOk w) :
    Calls Tryz.prog 65 #[.string (str s), .string (str t)] w fun e w' => e = .returned (.string (str (chainL s t))) ∧ Below w.heap.size w w' := by
  have h := chain_ok (str s) (str t) w (by rw [size_mk, size_mk]; exact hs) hR
  rw [mk_toList, mk_toList] at h
  exact h

def hd3 (x y z : Value) : Array Value := #[x, y, z]

set_option maxRecDepth 100000 in
set_option maxHeartbeats 8000000 in
theorem next_ok (h : Hd) (p : Int) (A : Option Addr) (c : Nat) (l : List Chg) (st : List UInt8) (w : World) (hv : ChgsAt w (.slice A l.length c) l) (hR : RoundOk w) :
    Calls Tryz.prog 28 #[hdV h, recV p (.slice A l.length c), .string (str st)] w fun e w' => e = .returned (.tuple #[hdV (nextA h ⟨p, l⟩ st).1, .int .i64 (nextA h ⟨p, l⟩ st).2]) ∧ Below w.heap.size w w' := by
  obtain ⟨hp, hc, hs⟩ := h
  obtain ⟨W0, hW0⟩ : ∃ W, W = (((w.alloc (.cells #[.int .i64 hp, .string (str hc), .string (str hs)] 40)).alloc (.cells #[.int .i64 p, .slice A l.length c] 37)).alloc (.cells #[.int .i64 0, .string ⟨#[]⟩, .string ⟨#[]⟩] 40)) := ⟨_, rfl⟩
  have hb0 : Below w.heap.size w W0 := by
    rw [hW0]
    exact Below.alloc (Below.alloc (Below.alloc (Below.refl w.heap.size w) (Nat.le_refl _) _) (by rw [World.size_alloc]; omega) _) (by rw [World.size_alloc, World.size_alloc]; omega) _
  have sz0 : W0.heap.size = w.heap.size + 3 := by rw [hW0]; simp [World.size_alloc]
  have k0 : BlkIs W0 w.heap.size 40 [.int .i64 hp, .string (str hc), .string (str hs)] := by
    rw [hW0]; exact ((BlkIs.new w _ _).alloc _).alloc _
  have k1 : BlkIs W0 (w.heap.size + 1) 37 [.int .i64 p, .slice A l.length c] := by
    rw [hW0]; exact BlkIs.alloc (alloc_new_at _ _ _ (by rw [World.size_alloc])) _
  have k2 : BlkIs W0 (w.heap.size + 2) 40 [.int .i64 0, .string ⟨#[]⟩, .string ⟨#[]⟩] := by
    rw [hW0]; exact alloc_new_at _ _ _ (by rw [World.size_alloc, World.size_alloc])
  have henc := enc_ok p A c l W0 (hv.below hb0)
  have KEEP : ∀ W : World, Below W0.heap.size W0 W → BlkIs W w.heap.size 40 [.int .i64 hp, .string (str hc), .string (str hs)] ∧ BlkIs W (w.heap.size + 1) 37 [.int .i64 p, .slice A l.length c] ∧ BlkIs W (w.heap.size + 2) 40 [.int .i64 0, .string ⟨#[]⟩, .string ⟨#[]⟩] ∧ Below w.heap.size w W := fun W hW =>
    ⟨k0.later hW, k1.later hW, k2.later hW, Below.next hb0 hW⟩
  have hval := fun W => hvalid_ok ⟨hp, hc, hs⟩ W
  have hdig := fun W => hdig_ok st W
  have ROUND := Lib.hid (fun (W : World) (hW : Below w.heap.size w W) => hR.later hW)
  have HVAL := Lib.hid hval
  have HDIG := Lib.hid hdig
  have HENC := Lib.hid henc
  have HK := Lib.hid KEEP
  have HW0 := Lib.hid hW0
  clear hval hdig henc KEEP k0 k1 k2 hb0 hv hR
  unfold hdV at HVAL ⊢
  unfold recV at HENC ⊢
  dsimp only at HVAL ⊢
  by_cases B1 : recB ⟨p, l⟩ = true
  case neg =>
    have he : encRecE ⟨p, l⟩ = ([], 30) := if_neg B1
    have hn : nextA ⟨hp, hc, hs⟩ ⟨p, l⟩ st = (hd0, 90) := by
      unfold nextA; rw [Bool.not_eq_true] at B1; rw [B1]; rfl
    rw [he] at HENC
    rw [hn]
    clear B1 he hn
    go_enter Tryz.func28, Tryz.ntmps28
    go_wp2_with fail
    rw [← HW0.out]
    refine (HENC.out).mono ?_
    rintro e w1 ⟨rfl, b1⟩
    obtain ⟨q0, q1, q2, hb1⟩ := HK.out w1 b1
    have a0 : w1.cell? ⟨w.heap.size, 0, none⟩ = some (.int .i64 hp) := q0.cell 0
    have a1 : w1.cell? ⟨w.heap.size, 1, none⟩ = some (.string (str hc)) := q0.cell 1
    have a2 : w1.cell? ⟨w.heap.size, 2, none⟩ = some (.string (str hs)) := q0.cell 2
    have r0 : w1.cell? ⟨w.heap.size + 1, 0, none⟩ = some (.int .i64 p) := q1.cell 0
    have z0 : w1.cell? ⟨w.heap.size + 2, 0, none⟩ = some (.int .i64 0) := q2.cell 0
    have z1 : w1.cell? ⟨w.heap.size + 2, 1, none⟩ = some (.string ⟨#[]⟩) := q2.cell 1
    have z2 : w1.cell? ⟨w.heap.size + 2, 2, none⟩ = some (.string ⟨#[]⟩) := q2.cell 2
    have f0 := q2.frozen 0
    have f1 := q2.frozen 1
    have f2 := q2.frozen 2
    have hz3 := ((q2.set 0 (.int .i64 0)).set 1 (.string ⟨#[]⟩)).set 2 (.string ⟨#[]⟩)
    have hbF := ((hb1.setCell (p := ⟨w.heap.size + 2, 0, none⟩) (by simp) (.int .i64 0)).setCell (p := ⟨w.heap.size + 2, 1, none⟩) (by simp) (.string ⟨#[]⟩)).setCell (p := ⟨w.heap.size + 2, 2, none⟩) (by simp) (.string ⟨#[]⟩)
    go_wp2_with fail
    generalize ((w1.setCell ⟨w.heap.size + 2, 0, none⟩ (.int .i64 0)).setCell ⟨w.heap.size + 2, 1, none⟩ (.string ⟨#[]⟩)).setCell ⟨w.heap.size + 2, 2, none⟩ (.string ⟨#[]⟩) = wF at *
    have y0 : wF.cell? ⟨w.heap.size + 2, 0, none⟩ = some (.int .i64 0) := hz3.cell 0
    have y1 : wF.cell? ⟨w.heap.size + 2, 1, none⟩ = some (.string ⟨#[]⟩) := hz3.cell 1
    have y2 : wF.cell? ⟨w.heap.size + 2, 2, none⟩ = some (.string ⟨#[]⟩) := hz3.cell 2
    refine bodyPost_ret (by simp [results, Tryz.results28, go_sem, y0, y1, y2]; try rfl) rfl ?_
    exact ⟨rfl, hbF⟩
  have he : encRecE ⟨p, l⟩ = (encRec ⟨p, l⟩, 0) := if_pos B1
  have hel := encRec_len B1
  obtain ⟨p1, p2, -, -⟩ := recB_pos B1
  dsimp only at p1 p2
  rw [he] at HENC
  clear he
  by_cases B2 : hdB ⟨hp, hc, hs⟩ = true
  case neg =>
    rw [Bool.not_eq_true] at B2
    have hn : nextA ⟨hp, hc, hs⟩ ⟨p, l⟩ st = (hd0, 90) := by
      unfold nextA; rw [B1, B2]; rfl
    rw [B2] at HVAL
    rw [hn]
    clear B1 B2 hn hel
    go_enter Tryz.func28, Tryz.ntmps28
    go_wp2_with fail
    rw [← HW0.out]
    refine (HENC.out).mono ?_
    rintro e w1 ⟨rfl, b1⟩
    obtain ⟨q0, q1, q2, hb1⟩ := HK.out w1 b1
    have a0 : w1.cell? ⟨w.heap.size, 0, none⟩ = some (.int .i64 hp) := q0.cell 0
    have a1 : w1.cell? ⟨w.heap.size, 1, none⟩ = some (.string (str hc)) := q0.cell 1
    have a2 : w1.cell? ⟨w.heap.size, 2, none⟩ = some (.string (str hs)) := q0.cell 2
    have r0 : w1.cell? ⟨w.heap.size + 1, 0, none⟩ = some (.int .i64 p) := q1.cell 0
    have z0 : w1.cell? ⟨w.heap.size + 2, 0, none⟩ = some (.int .i64 0) := q2.cell 0
    have z1 : w1.cell? ⟨w.heap.size + 2, 1, none⟩ = some (.string ⟨#[]⟩) := q2.cell 1
    have z2 : w1.cell? ⟨w.heap.size + 2, 2, none⟩ = some (.string ⟨#[]⟩) := q2.cell 2
    have f0 := q2.frozen 0
    have f1 := q2.frozen 1
    have f2 := q2.frozen 2
    go_wp2_with fail
    refine (HVAL.out _).mono ?_
    rintro e w2 ⟨rfl, b2⟩
    have b12 := Below.next b1 b2
    clear hb1 b1 b2
    clear a0 a1 a2 r0 z0 z1 z2 f0 f1 f2 q0 q1 q2
    obtain ⟨q0, q1, q2, hb2⟩ := HK.out w2 b12
    have a0 : w2.cell? ⟨w.heap.size, 0, none⟩ = some (.int .i64 hp) := q0.cell 0
    have a1 : w2.cell? ⟨w.heap.size, 1, none⟩ = some (.string (str hc)) := q0.cell 1
    have a2 : w2.cell? ⟨w.heap.size, 2, none⟩ = some (.string (str hs)) := q0.cell 2
    have r0 : w2.cell? ⟨w.heap.size + 1, 0, none⟩ = some (.int .i64 p) := q1.cell 0
    have z0 : w2.cell? ⟨w.heap.size + 2, 0, none⟩ = some (.int .i64 0) := q2.cell 0
    have z1 : w2.cell? ⟨w.heap.size + 2, 1, none⟩ = some (.string ⟨#[]⟩) := q2.cell 1
    have z2 : w2.cell? ⟨w.heap.size + 2, 2, none⟩ = some (.string ⟨#[]⟩) := q2.cell 2
    have f0 := q2.frozen 0
    have f1 := q2.frozen 1
    have f2 := q2.frozen 2
    have hz3 := ((q2.set 0 (.int .i64 0)).set 1 (.string ⟨#[]⟩)).set 2 (.string ⟨#[]⟩)
    have hbF := ((hb2.setCell (p := ⟨w.heap.size + 2, 0, none⟩) (by simp) (.int .i64 0)).setCell (p := ⟨w.heap.size + 2, 1, none⟩) (by simp) (.string ⟨#[]⟩)).setCell (p := ⟨w.heap.size + 2, 2, none⟩) (by simp) (.string ⟨#[]⟩)
    go_wp2_with fail
    generalize ((w2.setCell ⟨w.heap.size + 2, 0, none⟩ (.int .i64 0)).setCell ⟨w.heap.size + 2, 1, none⟩ (.string ⟨#[]⟩)).setCell ⟨w.heap.size + 2, 2, none⟩ (.string ⟨#[]⟩) = wF at *
    have y0 : wF.cell? ⟨w.heap.size + 2, 0, none⟩ = some (.int .i64 0) := hz3.cell 0
    have y1 : wF.cell? ⟨w.heap.size + 2, 1, none⟩ = some (.string ⟨#[]⟩) := hz3.cell 1
    have y2 : wF.cell? ⟨w.heap.size + 2, 2, none⟩ = some (.string ⟨#[]⟩) := hz3.cell 2
    refine bodyPost_ret (by simp [results, Tryz.results28, go_sem, y0, y1, y2]; try rfl) rfl ?_
    exact ⟨rfl, hbF⟩
  obtain ⟨h1, h2, h3, -⟩ := hdB_parts B2
  dsimp only at h1 h2 h3
  rw [B2] at HVAL
  by_cases B3 : st.length = 32
  case neg =>
    have hn : nextA ⟨hp, hc, hs⟩ ⟨p, l⟩ st = (hd0, 90) := by
      unfold nextA; rw [B1, B2, decide_eq_false B3]; rfl
    rw [decide_eq_false B3] at HDIG
    rw [hn]
    clear B1 B2 B3 hn hel h3
    go_enter Tryz.func28, Tryz.ntmps28
    go_wp2_with fail
    rw [← HW0.out]
    refine (HENC.out).mono ?_
    rintro e w1 ⟨rfl, b1⟩
    obtain ⟨q0, q1, q2, hb1⟩ := HK.out w1 b1
    have a0 : w1.cell? ⟨w.heap.size, 0, none⟩ = some (.int .i64 hp) := q0.cell 0
    have a1 : w1.cell? ⟨w.heap.size, 1, none⟩ = some (.string (str hc)) := q0.cell 1
    have a2 : w1.cell? ⟨w.heap.size, 2, none⟩ = some (.string (str hs)) := q0.cell 2
    have r0 : w1.cell? ⟨w.heap.size + 1, 0, none⟩ = some (.int .i64 p) := q1.cell 0
    have z0 : w1.cell? ⟨w.heap.size + 2, 0, none⟩ = some (.int .i64 0) := q2.cell 0
    have z1 : w1.cell? ⟨w.heap.size + 2, 1, none⟩ = some (.string ⟨#[]⟩) := q2.cell 1
    have z2 : w1.cell? ⟨w.heap.size + 2, 2, none⟩ = some (.string ⟨#[]⟩) := q2.cell 2
    have f0 := q2.frozen 0
    have f1 := q2.frozen 1
    have f2 := q2.frozen 2
    go_wp2_with fail
    refine (HVAL.out _).mono ?_
    rintro e w2 ⟨rfl, b2⟩
    have b12 := Below.next b1 b2
    clear hb1 b1 b2
    clear a0 a1 a2 r0 z0 z1 z2 f0 f1 f2 q0 q1 q2
    go_wp2_with fail
    refine (HDIG.out _).mono ?_
    rintro e w3 ⟨rfl, rfl⟩
    obtain ⟨q0, q1, q2, hb3⟩ := HK.out w3 b12
    have a0 : w3.cell? ⟨w.heap.size, 0, none⟩ = some (.int .i64 hp) := q0.cell 0
    have a1 : w3.cell? ⟨w.heap.size, 1, none⟩ = some (.string (str hc)) := q0.cell 1
    have a2 : w3.cell? ⟨w.heap.size, 2, none⟩ = some (.string (str hs)) := q0.cell 2
    have r0 : w3.cell? ⟨w.heap.size + 1, 0, none⟩ = some (.int .i64 p) := q1.cell 0
    have z0 : w3.cell? ⟨w.heap.size + 2, 0, none⟩ = some (.int .i64 0) := q2.cell 0
    have z1 : w3.cell? ⟨w.heap.size + 2, 1, none⟩ = some (.string ⟨#[]⟩) := q2.cell 1
    have z2 : w3.cell? ⟨w.heap.size + 2, 2, none⟩ = some (.string ⟨#[]⟩) := q2.cell 2
    have f0 := q2.frozen 0
    have f1 := q2.frozen 1
    have f2 := q2.frozen 2
    have hz3 := ((q2.set 0 (.int .i64 0)).set 1 (.string ⟨#[]⟩)).set 2 (.string ⟨#[]⟩)
    have hbF := ((hb3.setCell (p := ⟨w.heap.size + 2, 0, none⟩) (by simp) (.int .i64 0)).setCell (p := ⟨w.heap.size + 2, 1, none⟩) (by simp) (.string ⟨#[]⟩)).setCell (p := ⟨w.heap.size + 2, 2, none⟩) (by simp) (.string ⟨#[]⟩)
    go_wp2_with fail
    generalize ((w3.setCell ⟨w.heap.size + 2, 0, none⟩ (.int .i64 0)).setCell ⟨w.heap.size + 2, 1, none⟩ (.string ⟨#[]⟩)).setCell ⟨w.heap.size + 2, 2, none⟩ (.string ⟨#[]⟩) = wF at *
    have y0 : wF.cell? ⟨w.heap.size + 2, 0, none⟩ = some (.int .i64 0) := hz3.cell 0
    have y1 : wF.cell? ⟨w.heap.size + 2, 1, none⟩ = some (.string ⟨#[]⟩) := hz3.cell 1
    have y2 : wF.cell? ⟨w.heap.size + 2, 2, none⟩ = some (.string ⟨#[]⟩) := hz3.cell 2
    refine bodyPost_ret (by simp [results, Tryz.results28, go_sem, y0, y1, y2]; try rfl) rfl ?_
    exact ⟨rfl, hbF⟩
  rw [decide_eq_true B3] at HDIG
  by_cases B4 : p = hp + 1
  case neg =>
    have hn : nextA ⟨hp, hc, hs⟩ ⟨p, l⟩ st = (hd0, 90) := by
      unfold nextA; rw [B1, B2, decide_eq_true B3, decide_eq_false B4]; rfl
    have t4 : (p != hp + 1) = true := by simpa using B4
    rw [hn]
    clear B1 B2 B3 B4 hn hel h3
    go_enter Tryz.func28, Tryz.ntmps28
    go_wp2_with fail
    rw [← HW0.out]
    refine (HENC.out).mono ?_
    rintro e w1 ⟨rfl, b1⟩
    obtain ⟨q0, q1, q2, hb1⟩ := HK.out w1 b1
    have a0 : w1.cell? ⟨w.heap.size, 0, none⟩ = some (.int .i64 hp) := q0.cell 0
    have a1 : w1.cell? ⟨w.heap.size, 1, none⟩ = some (.string (str hc)) := q0.cell 1
    have a2 : w1.cell? ⟨w.heap.size, 2, none⟩ = some (.string (str hs)) := q0.cell 2
    have r0 : w1.cell? ⟨w.heap.size + 1, 0, none⟩ = some (.int .i64 p) := q1.cell 0
    have z0 : w1.cell? ⟨w.heap.size + 2, 0, none⟩ = some (.int .i64 0) := q2.cell 0
    have z1 : w1.cell? ⟨w.heap.size + 2, 1, none⟩ = some (.string ⟨#[]⟩) := q2.cell 1
    have z2 : w1.cell? ⟨w.heap.size + 2, 2, none⟩ = some (.string ⟨#[]⟩) := q2.cell 2
    have f0 := q2.frozen 0
    have f1 := q2.frozen 1
    have f2 := q2.frozen 2
    go_wp2_with fail
    refine (HVAL.out _).mono ?_
    rintro e w2 ⟨rfl, b2⟩
    have b12 := Below.next b1 b2
    clear hb1 b1 b2
    clear a0 a1 a2 r0 z0 z1 z2 f0 f1 f2 q0 q1 q2
    go_wp2_with fail
    refine (HDIG.out _).mono ?_
    rintro e w3 ⟨rfl, rfl⟩
    obtain ⟨q0, q1, q2, hb3⟩ := HK.out w3 b12
    have a0 : w3.cell? ⟨w.heap.size, 0, none⟩ = some (.int .i64 hp) := q0.cell 0
    have a1 : w3.cell? ⟨w.heap.size, 1, none⟩ = some (.string (str hc)) := q0.cell 1
    have a2 : w3.cell? ⟨w.heap.size, 2, none⟩ = some (.string (str hs)) := q0.cell 2
    have r0 : w3.cell? ⟨w.heap.size + 1, 0, none⟩ = some (.int .i64 p) := q1.cell 0
    have z0 : w3.cell? ⟨w.heap.size + 2, 0, none⟩ = some (.int .i64 0) := q2.cell 0
    have z1 : w3.cell? ⟨w.heap.size + 2, 1, none⟩ = some (.string ⟨#[]⟩) := q2.cell 1
    have z2 : w3.cell? ⟨w.heap.size + 2, 2, none⟩ = some (.string ⟨#[]⟩) := q2.cell 2
    have f0 := q2.frozen 0
    have f1 := q2.frozen 1
    have f2 := q2.frozen 2
    have hz3 := ((q2.set 0 (.int .i64 0)).set 1 (.string ⟨#[]⟩)).set 2 (.string ⟨#[]⟩)
    have hbF := ((hb3.setCell (p := ⟨w.heap.size + 2, 0, none⟩) (by simp) (.int .i64 0)).setCell (p := ⟨w.heap.size + 2, 1, none⟩) (by simp) (.string ⟨#[]⟩)).setCell (p := ⟨w.heap.size + 2, 2, none⟩) (by simp) (.string ⟨#[]⟩)
    go_wp2_with fail
    generalize ((w3.setCell ⟨w.heap.size + 2, 0, none⟩ (.int .i64 0)).setCell ⟨w.heap.size + 2, 1, none⟩ (.string ⟨#[]⟩)).setCell ⟨w.heap.size + 2, 2, none⟩ (.string ⟨#[]⟩) = wF at *
    have y0 : wF.cell? ⟨w.heap.size + 2, 0, none⟩ = some (.int .i64 0) := hz3.cell 0
    have y1 : wF.cell? ⟨w.heap.size + 2, 1, none⟩ = some (.string ⟨#[]⟩) := hz3.cell 1
    have y2 : wF.cell? ⟨w.heap.size + 2, 2, none⟩ = some (.string ⟨#[]⟩) := hz3.cell 2
    refine bodyPost_ret (by simp [results, Tryz.results28, go_sem, y0, y1, y2]; try rfl) rfl ?_
    exact ⟨rfl, hbF⟩
  · have hn : nextA ⟨hp, hc, hs⟩ ⟨p, l⟩ st = (⟨p, chainL hc (encRec ⟨p, l⟩), st⟩, 0) := by
      unfold nextA; rw [B1, B2, decide_eq_true B3, decide_eq_true B4]; rfl
    have t4 : (p != hp + 1) = false := by simpa using B4
    rw [hn]
    obtain ⟨E, hE⟩ : ∃ E, E = encRec ⟨p, l⟩ := ⟨_, rfl⟩
    rw [← hE] at hel HENC ⊢
    have hch : ∀ W : World, W.cell? ⟨w.heap.size + 1, 0, none⟩ = some (.int .i64 p) → W.cell? ⟨w.heap.size, 1, none⟩ = some (.string (str hc)) → Below W0.heap.size W0 W → Calls Tryz.prog 65 #[.string (str hc), .string (str E)] W fun e w' => e = .returned (.string (str (chainL hc E))) ∧ w'.cell? ⟨w.heap.size + 1, 0, none⟩ = some (.int .i64 p) ∧ w'.cell? ⟨w.heap.size, 1, none⟩ = some (.string (str hc)) ∧ Below W0.heap.size W0 w' := by
      intro W g1 g2 g3
      refine (chain_str hc E W (by omega) (ROUND.out W (HK.out W g3).2.2.2)).mono fun e w' ⟨he, hb⟩ => ⟨he, (hb.cell (block_of_cell g1)).trans g1, (hb.cell (block_of_cell g2)).trans g2, Below.next g3 hb⟩
    have HCH := Lib.hid hch
    clear B1 B2 B3 B4 hn hE hch hel h3
    go_enter Tryz.func28, Tryz.ntmps28
    go_wp2_with fail
    rw [← HW0.out]
    refine (HENC.out).mono ?_
    rintro e w1 ⟨rfl, b1⟩
    obtain ⟨q0, q1, q2, hb1⟩ := HK.out w1 b1
    have a0 : w1.cell? ⟨w.heap.size, 0, none⟩ = some (.int .i64 hp) := q0.cell 0
    have a1 : w1.cell? ⟨w.heap.size, 1, none⟩ = some (.string (str hc)) := q0.cell 1
    have a2 : w1.cell? ⟨w.heap.size, 2, none⟩ = some (.string (str hs)) := q0.cell 2
    have r0 : w1.cell? ⟨w.heap.size + 1, 0, none⟩ = some (.int .i64 p) := q1.cell 0
    have z0 : w1.cell? ⟨w.heap.size + 2, 0, none⟩ = some (.int .i64 0) := q2.cell 0
    have z1 : w1.cell? ⟨w.heap.size + 2, 1, none⟩ = some (.string ⟨#[]⟩) := q2.cell 1
    have z2 : w1.cell? ⟨w.heap.size + 2, 2, none⟩ = some (.string ⟨#[]⟩) := q2.cell 2
    have f0 := q2.frozen 0
    have f1 := q2.frozen 1
    have f2 := q2.frozen 2
    go_wp2_with fail
    refine (HVAL.out _).mono ?_
    rintro e w2 ⟨rfl, b2⟩
    have b12 := Below.next b1 b2
    clear hb1 b1 b2
    clear a0 a1 a2 r0 z0 z1 z2 f0 f1 f2 q0 q1 q2
    go_wp2_with fail
    refine (HDIG.out _).mono ?_
    rintro e w3 ⟨rfl, rfl⟩
    obtain ⟨q0, q1, q2, hb3⟩ := HK.out w3 b12
    have a0 : w3.cell? ⟨w.heap.size, 0, none⟩ = some (.int .i64 hp) := q0.cell 0
    have a1 : w3.cell? ⟨w.heap.size, 1, none⟩ = some (.string (str hc)) := q0.cell 1
    have a2 : w3.cell? ⟨w.heap.size, 2, none⟩ = some (.string (str hs)) := q0.cell 2
    have r0 : w3.cell? ⟨w.heap.size + 1, 0, none⟩ = some (.int .i64 p) := q1.cell 0
    have z0 : w3.cell? ⟨w.heap.size + 2, 0, none⟩ = some (.int .i64 0) := q2.cell 0
    have z1 : w3.cell? ⟨w.heap.size + 2, 1, none⟩ = some (.string ⟨#[]⟩) := q2.cell 1
    have z2 : w3.cell? ⟨w.heap.size + 2, 2, none⟩ = some (.string ⟨#[]⟩) := q2.cell 2
    have f0 := q2.frozen 0
    have f1 := q2.frozen 1
    have f2 := q2.frozen 2
    go_wp2_with fail
    clear z0 z1 z2 f0 f1 f2 q0 q1 q2 hb3
    go_region_law (go_simp; go_at_call 65; refine (HCH.out _ ?_ ?_ ?_).mono ?_; (first | assumption | (simp [*]; done)); (first | assumption | (simp [*]; done)); (first | assumption | exact Below.drew (by assumption)); rintro e w4 ⟨rfl, g1, g2, g3⟩; obtain ⟨q0, q1, q2, hb4⟩ := HK.out w4 g3; have z0 : w4.cell? ⟨w.heap.size + 2, 0, none⟩ = some (.int .i64 0) := q2.cell 0; have z1 : w4.cell? ⟨w.heap.size + 2, 1, none⟩ = some (.string ⟨#[]⟩) := q2.cell 1; have z2 : w4.cell? ⟨w.heap.size + 2, 2, none⟩ = some (.string ⟨#[]⟩) := q2.cell 2; have f0 := q2.frozen 0; have f1 := q2.frozen 1; have f2 := q2.frozen 2)
    all_goals
      have hz3 := ((q2.set 0 (.int .i64 p)).set 1 (.string (str (chainL hc E)))).set 2 (.string (str st))
      have hbF := ((hb4.setCell (p := ⟨w.heap.size + 2, 0, none⟩) (by simp) (.int .i64 p)).setCell (p := ⟨w.heap.size + 2, 1, none⟩) (by simp) (.string (str (chainL hc E)))).setCell (p := ⟨w.heap.size + 2, 2, none⟩) (by simp) (.string (str st))
      go_wp2_with fail
      generalize ((w4.setCell ⟨w.heap.size + 2, 0, none⟩ (.int .i64 p)).setCell ⟨w.heap.size + 2, 1, none⟩ (.string (str (chainL hc E)))).setCell ⟨w.heap.size + 2, 2, none⟩ (.string (str st)) = wF at *
      have y0 : wF.cell? ⟨w.heap.size + 2, 0, none⟩ = some (.int .i64 p) := hz3.cell 0
      have y1 : wF.cell? ⟨w.heap.size + 2, 1, none⟩ = some (.string (str (chainL hc E))) := hz3.cell 1
      have y2 : wF.cell? ⟨w.heap.size + 2, 2, none⟩ = some (.string (str st)) := hz3.cell 2
      refine bodyPost_ret (by simp [results, Tryz.results28, go_sem, y0, y1, y2]; try rfl) rfl ?_
      exact ⟨rfl, hbF⟩
end Go.Proofs.YtgbemgndbemllaaGreatDoor
end

section
/- Verify and New of the log; slices.Clone of changes; own. -/
namespace Go.Proofs.YtgbemgndbemllaaGreatDoor
open Go Go.RowKit
attribute [local go_sem] Oper.semAt_some

/-- Verify -/
def verA (root : List UInt8) (n : Int) (h : Hd) (p : List (List UInt8)) : Bool := hdB h && (decide (h.pos ≤ n) && decide (n ≤ 10000)) && verB root (n + 1) h.pos (encHd h) p

set_option maxRecDepth 100000 in
set_option maxHeartbeats 4000000 in
theorem lverify_ok (root : ByteArray) (n : Int) (h : Hd) (v : Value) (p : List (List UInt8)) (w : World) (hv : ListAt w v p) (hpl : p.length ≤ 100) (hR : RoundOk w) :
    Calls Tryz.prog 13 #[.string root, .int .i64 n, hdV h, v] w fun e w' => e = .returned (.bool (verA root.data.toList n h p)) ∧ Below w.heap.size w w' := by
  have henc := fun W => hencode_ok h W
  have hb1 := fun o => Below.alloc (Below.refl w.heap.size w) (Nat.le_refl _) o
  by_cases B1 : hdB h = true
  case neg =>
    have hE : encA h = ([], 90) := if_neg B1
    have hr : verA root.data.toList n h p = false := by unfold verA; rw [Bool.not_eq_true] at B1; rw [B1]; rfl
    rw [hr]
    rw [hE] at henc
    have HE := Lib.hid henc
    have HB := Lib.hid hb1
    clear henc hb1 hE hr B1 hv hR
    unfold hdV
    unfold hdV at HE
    go_enter Tryz.func13, Tryz.ntmps13
    go_wp2_with fail
    refine (HE.out _).mono ?_
    rintro e w1 ⟨rfl, b1⟩
    have hb2 := Below.next (HB.out _) b1
    go_wp2_with fail
    go_ret
    exact ⟨rfl, hb2⟩
  obtain ⟨h1, h2, -, -⟩ := hdB_parts B1
  have hl := encHd_len B1
  have hE : encA h = (encHd h, 0) := if_pos B1
  rw [hE] at henc
  have hr : verA root.data.toList n h p = ((decide (h.pos ≤ n) && decide (n ≤ 10000)) && verB root.data.toList (n + 1) h.pos (encHd h) p) := by unfold verA; rw [B1, Bool.true_and]
  rw [hr]
  obtain ⟨E, hEE⟩ : ∃ E, E = encHd h := ⟨_, rfl⟩
  rw [← hEE] at hl henc ⊢
  obtain ⟨hp, hc, hs⟩ := h
  dsimp only at h1 h2 ⊢
  clear hE hr hEE B1
  by_cases k1 : hp ≤ n
  case neg =>
    have t1 : decide (hp ≤ n) = false := by simpa using k1
    rw [t1, Bool.false_and, Bool.false_and]
    have HE := Lib.hid henc
    have HB := Lib.hid hb1
    clear henc hb1 hv hR k1
    unfold hdV
    unfold hdV at HE
    dsimp only at HE ⊢
    go_enter Tryz.func13, Tryz.ntmps13
    go_wp2_with fail
    refine (HE.out _).mono ?_
    rintro e w1 ⟨rfl, b1⟩
    have c0 : w1.cell? ⟨w.heap.size, 0, none⟩ = some (.int .i64 hp) := by rw [b1.cell (by simp), cell_of_row _ _ 0 _ _ _ (World.alloc_heap_new w _)]; rfl
    have hb2 := Below.next (HB.out _) b1
    go_wp2_with fail
    go_ret
    exact ⟨rfl, hb2⟩
  by_cases k2 : n ≤ 10000
  case neg =>
    have t1 : decide (hp ≤ n) = true := by simpa using k1
    have t2 : decide (n ≤ 10000) = false := by simpa using k2
    rw [t1, t2, Bool.and_false, Bool.false_and]
    have HE := Lib.hid henc
    have HB := Lib.hid hb1
    clear henc hb1 hv hR k1 k2
    unfold hdV
    unfold hdV at HE
    dsimp only at HE ⊢
    go_enter Tryz.func13, Tryz.ntmps13
    go_wp2_with fail
    refine (HE.out _).mono ?_
    rintro e w1 ⟨rfl, b1⟩
    have c0 : w1.cell? ⟨w.heap.size, 0, none⟩ = some (.int .i64 hp) := by rw [b1.cell (by simp), cell_of_row _ _ 0 _ _ _ (World.alloc_heap_new w _)]; rfl
    have hb2 := Below.next (HB.out _) b1
    go_wp2_with fail
    go_ret
    exact ⟨rfl, hb2⟩
  have t1 : decide (hp ≤ n) = true := by simpa using k1
  have t2 : decide (n ≤ 10000) = true := by simpa using k2
  rw [t1, t2, Bool.and_self, Bool.true_and]
  have hver : ∀ W, Below w.heap.size w W → Calls Tryz.prog 33 #[.string root, .int .i64 (n + 1), .int .i64 hp, .string (str E), v] W fun e w' => e = .returned (.bool (verB root.data.toList (n + 1) hp E p)) ∧ Below W.heap.size W w' := by
    intro W hW
    have := ver_any root (str E) (n + 1) hp v p W (hv.below hW) (by omega) hpl (by rw [size_mk]; omega) (hR.later hW)
    rwa [mk_toList] at this
  have HE := Lib.hid henc
  have HB := Lib.hid hb1
  have HV := Lib.hid hver
  clear henc hb1 hv hR hver hl
  unfold hdV
  unfold hdV at HE
  dsimp only at HE ⊢
  go_enter Tryz.func13, Tryz.ntmps13
  go_wp2_with fail
  refine (HE.out _).mono ?_
  rintro e w1 ⟨rfl, b1⟩
  have c0 : w1.cell? ⟨w.heap.size, 0, none⟩ = some (.int .i64 hp) := by rw [b1.cell (by simp), cell_of_row _ _ 0 _ _ _ (World.alloc_heap_new w _)]; rfl
  have hb2 := Below.next (HB.out _) b1
  go_wp2_with fail
  refine (HV.out _ hb2).mono ?_
  rintro e w2 ⟨rfl, b2⟩
  have hb3 := Below.next hb2 b2
  go_wp2_with fail
  go_ret
  exact ⟨rfl, hb3⟩

theorem Tryz.infoChg : (Tryz.prog.info? 65).map (fun i => (i.zero, i.size, i.bytes)) = some (some (.agg #[.int .i64 0, .int .i64 0, .bool false, .int .i64 0, .int .i64 0, .int .i64 0, .bool false, .int .i64 0, .int .i64 0, .int .i64 0]), 10, 80) := by kernel_rfl
theorem info_chg : ∃ i, Tryz.prog.info? 65 = some i ∧ i.zero = some (.agg #[.int .i64 0, .int .i64 0, .bool false, .int .i64 0, .int .i64 0, .int .i64 0, .bool false, .int .i64 0, .int .i64 0, .int .i64 0]) ∧ i.size = 10 ∧ i.bytes = 80 := by
  obtain ⟨i0, hi, hz0, hz1, hz2⟩ := info_parts Tryz.infoChg
  exact ⟨i0, hi, hz0, hz1, hz2⟩
theorem Tryz.infoRec : (Tryz.prog.info? 37).map (fun i => (i.zero, i.size, i.bytes)) = some (some (.agg #[.int .i64 0, .slice none 0 0]), 2, 32) := by kernel_rfl
theorem info_rec : ∃ i, Tryz.prog.info? 37 = some i ∧ i.zero = some (.agg #[.int .i64 0, .slice none 0 0]) ∧ i.size = 2 ∧ i.bytes = 32 := by
  obtain ⟨i0, hi, hz0, hz1, hz2⟩ := info_parts Tryz.infoRec
  exact ⟨i0, hi, hz0, hz1, hz2⟩
theorem Tryz.infoHd : (Tryz.prog.info? 40).map (fun i => (i.zero, i.size, i.bytes)) = some (some (.agg #[.int .i64 0, .string ⟨#[]⟩, .string ⟨#[]⟩]), 3, 40) := by kernel_rfl
theorem info_hd : ∃ i, Tryz.prog.info? 40 = some i ∧ i.zero = some (.agg #[.int .i64 0, .string ⟨#[]⟩, .string ⟨#[]⟩]) ∧ i.size = 3 ∧ i.bytes = 40 := by
  obtain ⟨i0, hi, hz0, hz1, hz2⟩ := info_parts Tryz.infoHd
  exact ⟨i0, hi, hz0, hz1, hz2⟩

theorem chgs_one (l : List Chg) : ∀ u ∈ l.flatMap chgCells, u.oneCell' = true := by
  intro u hu
  obtain ⟨c, _, h⟩ := List.mem_flatMap.1 hu
  unfold chgCells at h
  simp only [List.mem_cons, List.not_mem_nil, or_false] at h
  rcases h with rfl | rfl | rfl | rfl | rfl | rfl | rfl | rfl | rfl | rfl <;> rfl

/-- the cells of a list of changes -/
theorem chgs_cells {w : World} {g o : Nat} {l : List Chg} (h : ∀ (j : Nat) x, l[j]? = some x → ∀ (i : Nat) u, (chgCells x)[i]? = some u → w.cell? ⟨g, o + j * 10 + i, none⟩ = some u) :
    ∀ (j : Nat) u, (l.flatMap chgCells)[j]? = some u → w.cell? ((⟨g, o, none⟩ : Addr).add j) = some u := by
  intro j u hu
  rw [add_off]
  have hlt := (List.getElem?_eq_some_iff.1 hu).1
  rw [flat_len chgCells 10 chgCells_len] at hlt
  have h10 : j / 10 < l.length := by omega
  obtain ⟨x, hx⟩ : ∃ x, l[j / 10]? = some x := ⟨_, List.getElem?_eq_getElem h10⟩
  have hi : j % 10 < (chgCells x).length := by rw [chgCells_len]; omega
  have hu2 := flat_get chgCells 10 chgCells_len l (j / 10) (j % 10) x _ hx (List.getElem?_eq_getElem hi)
  rw [show j / 10 * 10 + j % 10 = j by omega] at hu2
  rw [hu2] at hu
  cases hu
  have := h (j / 10) x hx (j % 10) _ (List.getElem?_eq_getElem hi)
  rw [show o + j / 10 * 10 + j % 10 = o + j by omega] at this
  exact this

set_option maxRecDepth 100000 in
set_option maxHeartbeats 4000000 in
theorem clone_ok (A : Option Addr) (c : Nat) (l : List Chg) (w : World) (hv : ChgsAt w (.slice A l.length c) l) (h1 : 1 ≤ l.length) (h8 : l.length ≤ 1000) :
    Calls Tryz.prog 66 #[.slice A l.length c] w fun e w' => ∃ v', e = .returned v' ∧ w'.ownsRow w.heap.size 65 10 v' l.length (l.flatMap chgCells) ∧ Below w.heap.size w w' := by
  obtain ⟨i0, hi, hz0, hz1, hz2⟩ := info_chg
  obtain ⟨A', c', e0, hc, hj⟩ := hv
  injection e0 with e1 e2 e3
  subst e1 e3
  obtain ⟨g, o, rfl, hg, hj⟩ := hj (by omega)
  have q := fun (w : World) (a : Option Addr) (n c n' c' : Nat) => Lib.run_eql_slice_nil w 35 65 a n c n' c' Tryz.underlying35
  have hcells : ∀ o, ∀ (j : Nat) u, (l.flatMap chgCells)[j]? = some u → (w.alloc o).cell? ((⟨g, _, none⟩ : Addr).add j) = some u := fun ob j u hu => (World.cell?_of_block (by rw [block_add]; exact Below.heap_alloc w ob g hg)).trans (chgs_cells hj j u hu)
  have HC := Lib.hid hcells
  clear hj hcells
  go_enter Tryz.func66, Tryz.ntmps66
  go_wp2_with (at_builtin; refine wpList_append_own _ rfl _ _ 35 rfl w.heap.size 65 i0 (.agg #[.int .i64 0, .int .i64 0, .bool false, .int .i64 0, .int .i64 0, .int .i64 0, .bool false, .int .i64 0, .int .i64 0, .int .i64 0]) 10 80 Tryz.underlying35 hi hz0 hz1 hz2 rfl (by decide) _ _ _ rfl (World.ownsRow_made w #[] 0 (Nat.le_refl _) (Nat.zero_le _) rfl) ⟨g, o, none⟩ l.length c (l.flatMap chgCells) rfl (flat_len chgCells 10 chgCells_len l) (HC.out _) (chgs_one l) (by unfold maxLen; omega) (by omega) (by simp) ?_; intro v' w1 hown hgrow hnil)
  go_ret
  refine ⟨v', rfl, by simpa using hown, ?_⟩
  have hg2 : (w.alloc (.cells #[] 65)).grownBy w1 (some w.heap.size) := hgrow
  exact ((Below.refl _ w).alloc (Nat.le_refl _) _).grown hg2 (by simp) (by intro k hk; cases hk; exact Nat.le_refl _)
end Go.Proofs.YtgbemgndbemllaaGreatDoor
end

section
/- own; New; Len, Head, Record of a log. -/
namespace Go.Proofs.YtgbemgndbemllaaGreatDoor
open Go Go.RowKit
attribute [local go_sem] Oper.semAt_some

theorem ownsRow_lower {w : World} {base base' : Nat} {e : TypeId} {size : Nat} {v : Value} {n : Nat} {xs : List Value} (h : w.ownsRow base e size v n xs) (hb : base' ≤ base) : w.ownsRow base' e size v n xs := by
  refine ⟨h.1, ?_⟩
  rcases h.2 with h0 | ⟨g, cap, cur, hv, h1, rest⟩
  · exact .inl h0
  · exact .inr ⟨g, cap, cur, hv, Nat.le_trans hb h1, rest⟩

set_option maxRecDepth 100000 in
set_option maxHeartbeats 4000000 in
theorem own_ok (p : Int) (A : Option Addr) (c : Nat) (l : List Chg) (w : World) (hv : ChgsAt w (.slice A l.length c) l) (h1 : 1 ≤ l.length) (h8 : l.length ≤ 1000) :
    Calls Tryz.prog 29 #[recV p (.slice A l.length c)] w fun e w' => ∃ g' c', e = .returned (recV p (.slice (some ⟨g', 0, none⟩) l.length c')) ∧ w'.ownsRow w.heap.size 65 10 (.slice (some ⟨g', 0, none⟩) l.length c') l.length (l.flatMap chgCells) ∧ Below w.heap.size w w' := by
  have hb2 : Below w.heap.size w ((w.alloc (.cells #[.int .i64 p, .slice A l.length c] 37)).alloc (.cells #[.int .i64 0, .slice none 0 0] 37)) := Below.alloc (Below.alloc (Below.refl w.heap.size w) (Nat.le_refl _) _) (by rw [World.size_alloc]; omega) _
  have hcl := clone_ok A c l _ (hv.below hb2) h1 h8
  have HCL := Lib.hid hcl
  have HB := Lib.hid hb2
  clear hv hcl hb2
  unfold recV
  go_enter Tryz.func29, Tryz.ntmps29
  go_wp2_with fail
  refine (HCL.out).mono ?_
  rintro e w1 ⟨v', rfl, own1, b1⟩
  obtain ⟨g', c', rfl, -, -⟩ := World.ownsRow.form own1 (by omega)
  have h0 : BlkIs w1 w.heap.size 37 [.int .i64 p, .slice A l.length c] := (b1.block w.heap.size (by simp [World.size_alloc]; omega)).trans ((Below.heap_alloc _ _ w.heap.size (by rw [World.size_alloc]; omega)).trans (World.alloc_heap_new w _))
  have hz : BlkIs w1 (w.heap.size + 1) 37 [.int .i64 0, .slice none 0 0] := (b1.block (w.heap.size + 1) (by simp [World.size_alloc])).trans (alloc_new_at _ _ _ (by rw [World.size_alloc]))
  have c0 : w1.cell? ⟨w.heap.size, 0, none⟩ = some (.int .i64 p) := h0.cell 0
  have c1 : w1.cell? ⟨w.heap.size, 1, none⟩ = some (.slice A l.length c) := h0.cell 1
  have f1 := h0.frozen 1
  have z0 : w1.cell? ⟨w.heap.size + 1, 0, none⟩ = some (.int .i64 0) := hz.cell 0
  have z1 : w1.cell? ⟨w.heap.size + 1, 1, none⟩ = some (.slice none 0 0) := hz.cell 1
  have g0 := hz.frozen 0
  have g1 := hz.frozen 1
  have hb3 := Below.next HB.out b1
  have own0 : w1.ownsRow (w.heap.size + 2) 65 10 (.slice (some ⟨g', 0, none⟩) l.length c') l.length (l.flatMap chgCells) := by
    have : (((w.alloc (.cells #[.int .i64 p, .slice A l.length c] 37)).alloc (.cells #[.int .i64 0, .slice none 0 0] 37)).heap.size) = w.heap.size + 2 := by simp [World.size_alloc]
    rw [← this]; exact own1
  clear b1 own1
  go_wp2_with fail
  have hz3 := ((hz.other (p := ⟨w.heap.size, 1, none⟩) (by simp) (.slice (some ⟨g', 0, none⟩) l.length c')).set 0 (.int .i64 p)).set 1 (.slice (some ⟨g', 0, none⟩) l.length c')
  have hb4 := ((hb3.setCell (p := ⟨w.heap.size, 1, none⟩) (Nat.le_refl _) (.slice (some ⟨g', 0, none⟩) l.length c')).setCell (p := ⟨w.heap.size + 1, 0, none⟩) (by simp) (.int .i64 p)).setCell (p := ⟨w.heap.size + 1, 1, none⟩) (by simp) (.slice (some ⟨g', 0, none⟩) l.length c')
  have hO : Only (fun k => k = w.heap.size ∨ k = w.heap.size + 1) w1 (((w1.setCell ⟨w.heap.size, 1, none⟩ (.slice (some ⟨g', 0, none⟩) l.length c')).setCell ⟨w.heap.size + 1, 0, none⟩ (.int .i64 p)).setCell ⟨w.heap.size + 1, 1, none⟩ (.slice (some ⟨g', 0, none⟩) l.length c')) :=
    ((Only.setCell _ _ _ (.inl rfl)).trans (Only.setCell _ _ _ (.inr rfl))).trans (Only.setCell _ _ _ (.inr rfl))
  have own3 := ownsRow_same (S := fun k => w.heap.size + 2 ≤ k) own0 (.of_only hO (fun k hk => by omega)) (fun b hb => (own0.lt b hb).1)
  generalize (((w1.setCell ⟨w.heap.size, 1, none⟩ (.slice (some ⟨g', 0, none⟩) l.length c')).setCell ⟨w.heap.size + 1, 0, none⟩ (.int .i64 p)).setCell ⟨w.heap.size + 1, 1, none⟩ (.slice (some ⟨g', 0, none⟩) l.length c')) = w3 at *
  have y0 : w3.cell? ⟨w.heap.size + 1, 0, none⟩ = some (.int .i64 p) := hz3.cell 0
  have y1 : w3.cell? ⟨w.heap.size + 1, 1, none⟩ = some (.slice (some ⟨g', 0, none⟩) l.length c') := hz3.cell 1
  refine bodyPost_ret (by simp [results, Tryz.results29, go_sem, y0, y1]; try rfl) rfl ?_
  refine ⟨g', c', rfl, ownsRow_lower own3 (by omega), hb4⟩

/-- New -/
theorem new_ok (st : List UInt8) (w : World) (hst : st.length = 32) :
    Calls Tryz.prog 5 #[.string (str st)] w fun e w' => ∃ b, e = .returned (.tuple #[.pointer (some ⟨b, 0, none⟩), .int .i64 0]) ∧ LogAt w' (fun k => w.heap.size ≤ k) b (newLg st) ∧ Below w.heap.size w w' := by
  have hd := fun W => hdig_ok st W
  rw [decide_eq_true hst] at hd
  have hrep := fun W => Tryz.strings_Repeat_main ⟨#[0]⟩ 32 W (by decide) (by decide) (by decide) (by decide)
  have e32 : (⟨(Lib.repeatL (⟨#[0]⟩ : ByteArray).data.toList 32).toArray⟩ : ByteArray) = str zero32 := by decide
  rw [e32] at hrep
  have HD := Lib.hid hd
  have HREP := Lib.hid hrep
  clear hd hrep e32
  go_enter Tryz.func5, Tryz.ntmps5
  go_wp2_with fail
  refine (HD.out _).mono ?_
  rintro e w1 ⟨rfl, rfl⟩
  go_wp2_with fail
  refine (HREP.out _).mono ?_
  rintro e w2 ⟨rfl, b2⟩
  have hle := b2.size
  go_wp2_with fail
  go_ret2
  have hrow : ((w2.alloc (.cells #[.int .i64 0, .string (str zero32), .string (str st)] 40)).alloc (.cells #[.slice none 0 0, .slice (some ⟨w2.heap.size, 0, none⟩) 1 1] 77)).heap[w2.heap.size]? = some (.cells #[.int .i64 0, .string (str zero32), .string (str st)] 40 (0, 0)) :=
    (Below.heap_alloc _ _ w2.heap.size (by rw [World.size_alloc]; omega)).trans (World.alloc_heap_new w2 _)
  refine ⟨w2.heap.size + 1, rfl, ⟨.slice none 0 0, .slice (some ⟨w2.heap.size, 0, none⟩) 1 1, alloc_new_at _ _ _ (by rw [World.size_alloc]), by omega, RecRow.nil _ _, ⟨⟨rfl, .inr ⟨w2.heap.size, 1, _, rfl, Nat.zero_le _, hrow, Nat.le_refl _, by unfold maxLen; omega, rfl, rfl⟩⟩, ?_⟩⟩, ?_⟩
  · intro b hb
    cases hb
    exact hle
  · exact Below.alloc (Below.alloc b2 hle _) (by rw [World.size_alloc]; omega) _

theorem new_no (st : List UInt8) (w : World) (hst : st.length ≠ 32) :
    Calls Tryz.prog 5 #[.string (str st)] w fun e w' => e = .returned (.tuple #[.pointer none, .int .i64 90]) ∧ w' = w := by
  have hd := fun W => hdig_ok st W
  rw [decide_eq_false hst] at hd
  have HD := Lib.hid hd
  clear hd
  go_enter Tryz.func5, Tryz.ntmps5
  go_wp2_with fail
  refine (HD.out _).mono ?_
  rintro e w1 ⟨rfl, rfl⟩
  go_wp2_with fail
  go_ret2
  exact ⟨rfl, rfl⟩
end Go.Proofs.YtgbemgndbemllaaGreatDoor
end

