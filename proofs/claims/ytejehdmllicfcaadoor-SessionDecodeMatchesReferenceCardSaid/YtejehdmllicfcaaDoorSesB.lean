/- answer, reads, Allows, Wrote, Accept of package session. -/
import Derived.Test.YtejehdmllicfcaaDoorSesA
import Derived.Test.YtejehdmllicfcaaDoorPickP
import Derived.Test.YtejehdmllicfcaaDoorCut
import Derived.Test.YtejehdmllicfcaaDoorSl
import Derived.RegionTactic
import Derived.Deep.RegionWith
import Derived.BigRegion
import Derived.Deep.RegionHeld3
namespace Go.Proofs.YtejehdmllicfcaaDoor
open Go Go.RowKit

theorem SesIs.later {w w' : World} {b : Nat} {t : Int} (h : SesIs w b t) (hb : Below w.heap.size w w') : SesIs w' b t := BlkIs.later h hb

theorem keep_cell {w w' : World} (hb : Below w.heap.size w w') {a : Addr} {v : Value} (h : w.cell? a = some v) : w'.cell? a = some v := (hb.cell (block_of_cell h)).trans h

set_option maxRecDepth 100000 in
set_option maxHeartbeats 2000000 in
theorem reads_ok (w : World) (b : Nat) (t m n : Int) (h : SesIs w b t) :
    Calls Tryd.prog 28 #[.pointer (some ⟨b, 0, none⟩), .int .i64 m, .int .i64 n] w fun e w' => e = .returned (.bool (allowsS t m n)) ∧ Below w.heap.size w w' := by
  have hlt := BlkIs.lt h
  have hc : ∀ o, (w.alloc o).cell? ⟨b, 0, none⟩ = some (.int .i64 t) := fun o => SesIs.cell (BlkIs.alloc h o)
  obtain ⟨p, hp⟩ : ∃ p, p = decide (0 ≤ m ∧ m ≤ 10000 ∧ 0 ≤ n ∧ n ≤ 10000) := ⟨_, rfl⟩
  obtain ⟨q, hq⟩ : ∃ q, decide (m ≤ n) = q := ⟨_, rfl⟩
  obtain ⟨r, hr⟩ : ∃ r, decide (t ≤ n) = r := ⟨_, rfl⟩
  have hv : allowsS t m n = (p && q && r) := by
    rw [hp, ← hq, ← hr]
    unfold allowsS
    rw [Bool.eq_iff_iff]
    simp
    omega
  have HP := Lib.hid hp
  rw [hv]
  clear hp hv
  rcases p with _ | _ <;> rcases q with _ | _ <;> rcases r with _ | _
  all_goals
    go_enter Tryd.func28, Tryd.ntmps28
    go_wp2_with fail
    refine (isPos2 _ _ m n (by simp) (by simp)).mono ?_
    rintro e w' ⟨rfl, rfl⟩
    rw [← HP.out]
    go_wp2_with fail
    go_ret
    exact ⟨rfl, (Below.refl _ w).alloc (Nat.le_refl _) _⟩

theorem answer_any (m n : Int) (w : World) :
    Calls Tryd.prog 13 #[.int .i64 m, .int .i64 n] w fun e w' => e = .returned (.agg #[.int .i64 0, .int .i64 0, .int .i64 0, .int .i64 0, .int .i64 0, .int .i64 0, .int .i64 0, .slice none 0 0, .int .i64 0, .bool false, .int .i64 m, .int .i64 n, .int .i64 0, .slice none 0 0, .slice none 0 0]) ∧ Below w.heap.size w w' := by
  go_enter Tryd.func13, Tryd.ntmps13
  go_wp2_with fail
  go_returns
  exact ⟨rfl, (Below.refl _ w).alloc (Nat.le_refl _) _⟩

/-- an answer as a value, of which only the interval matters -/
def AnsIs (v : Value) (m n : Int) : Prop := ∃ a0 a1 a2 a3 a4 a5 a6 a7 a8 a9 b0 b1 b2, v = .agg #[a0, a1, a2, a3, a4, a5, a6, a7, a8, a9, .int .i64 m, .int .i64 n, b0, b1, b2]

theorem answer_is (m n : Int) (w : World) :
    Calls Tryd.prog 13 #[.int .i64 m, .int .i64 n] w fun e w' => (∃ v, e = .returned v ∧ AnsIs v m n) ∧ Below w.heap.size w w' :=
  (answer_any m n w).mono fun _ _ ⟨he, hb⟩ => ⟨⟨_, he, _, _, _, _, _, _, _, _, _, _, _, _, _, rfl⟩, hb⟩

set_option maxRecDepth 100000 in
set_option maxHeartbeats 2000000 in
theorem allows_nil (w : World) (m n : Int) (a0 a1 a2 a3 a4 a5 a6 a7 a8 a9 b0 b1 b2 : Value) :
    Calls Tryd.prog 12 #[.pointer none, .agg #[a0, a1, a2, a3, a4, a5, a6, a7, a8, a9, .int .i64 m, .int .i64 n, b0, b1, b2]] w fun e w' => e = .returned (.bool false) ∧ Below w.heap.size w w' := by
  go_enter Tryd.func12, Tryd.ntmps12
  go_wp2_with fail
  go_region
  go_wp2_with fail
  go_returns
  exact ⟨rfl, (((Below.refl _ w).alloc (Nat.le_refl _) _)).drew⟩

set_option maxRecDepth 100000 in
set_option maxHeartbeats 2000000 in
theorem allows_ok (w : World) (b : Nat) (t m n : Int) (h : SesIs w b t) (a0 a1 a2 a3 a4 a5 a6 a7 a8 a9 b0 b1 b2 : Value) :
    Calls Tryd.prog 12 #[.pointer (some ⟨b, 0, none⟩), .agg #[a0, a1, a2, a3, a4, a5, a6, a7, a8, a9, .int .i64 m, .int .i64 n, b0, b1, b2]] w fun e w' => e = .returned (.bool (allowsS t m n)) ∧ Below w.heap.size w w' := by
  have hlt := BlkIs.lt h
  have hs : SesIs (w.alloc (.cells #[a0, a1, a2, a3, a4, a5, a6, a7, a8, a9, .int .i64 m, .int .i64 n, b0, b1, b2] 40)) b t := BlkIs.alloc h _
  have hB : Below w.heap.size w (w.alloc (.cells #[a0, a1, a2, a3, a4, a5, a6, a7, a8, a9, .int .i64 m, .int .i64 n, b0, b1, b2] 40)) := (Below.refl _ w).alloc (Nat.le_refl _) _
  go_enter Tryd.func12, Tryd.ntmps12
  go_wp2_with fail
  go_region_with (go_at_call 28; refine (reads_ok _ b t m n ?_).mono ?_; exact BlkIs.drew hs; rintro e w4 ⟨rfl, b4⟩)
  all_goals
    go_wp2_with fail
    go_returns
    exact ⟨rfl, hB.trans (((Below.refl _ _).drew.trans b4).mono hB.size)⟩

set_option maxRecDepth 100000 in
set_option maxHeartbeats 2000000 in
theorem wrote_nil (w : World) (n : Int) :
    Calls Tryd.prog 15 #[.pointer none, .int .i64 n] w fun e w' => e = .returned (.tuple #[]) ∧ w = w' := by
  go_enter Tryd.func15, Tryd.ntmps15
  go_wp2_with fail
  go_returns
  exact ⟨rfl, rfl⟩

theorem setS {w : World} {b : Nat} {t : Int} (h : SesIs w b t) (u : Int) : SesIs (w.setCell ⟨b, 0, none⟩ (.int .i64 u)) b u := BlkIs.set h 0 (.int .i64 u)

set_option maxRecDepth 100000 in
set_option maxHeartbeats 2000000 in
theorem wrote_ok (w : World) (b : Nat) (t n : Int) (h : SesIs w b t) :
    Calls Tryd.prog 15 #[.pointer (some ⟨b, 0, none⟩), .int .i64 n] w fun e w' => e = .returned (.tuple #[]) ∧ SesIs w' b (wroteS t n) ∧ Upd b w w' := by
  have hlt := BlkIs.lt h
  have h1 : ∀ o, SesIs (w.alloc o) b t := fun o => BlkIs.alloc h o
  have hU : ∀ o, Upd b w (w.alloc o) := fun o => .of_below ((Below.refl _ w).alloc (Nat.le_refl _) o)
  by_cases hp : 0 ≤ n ∧ n ≤ 10000
  · have hd : decide (0 ≤ n ∧ n ≤ 10000) = true := by simpa using hp
    have hv : wroteS t n = raiseS t n := by rw [wroteS, if_pos hp]
    go_enter Tryd.func15, Tryd.ntmps15
    go_wp2_with fail
    refine (isPos1 _ _ n (by simp)).mono ?_
    rintro e w' ⟨rfl, rfl⟩
    rw [hd]
    go_wp2_with fail
    refine (raiseW _ b t n (h1 _)).mono ?_
    rintro e w' ⟨rfl, rfl⟩
    go_wp2_with fail
    go_returns
    exact ⟨rfl, by rw [hv]; exact BlkIs.alloc (setS h _) _, (Upd.setCell b 0 _ _).trans (.of_below ((Below.refl _ _).alloc (Nat.le_refl _) _))⟩
  · have hd : decide (0 ≤ n ∧ n ≤ 10000) = false := by simpa using hp
    have hv : wroteS t n = t := by rw [wroteS, if_neg hp]
    go_enter Tryd.func15, Tryd.ntmps15
    go_wp2_with fail
    refine (isPos1 _ _ n (by simp)).mono ?_
    rintro e w' ⟨rfl, rfl⟩
    rw [hd]
    go_wp2_with fail
    go_returns
    exact ⟨rfl, hv.symm ▸ h1 _, hU _⟩

set_option maxRecDepth 100000 in
set_option maxHeartbeats 2000000 in
theorem accept_nil (w : World) (m n : Int) (a0 a1 a2 a3 a4 a5 a6 a7 a8 a9 b0 b1 b2 : Value) :
    Calls Tryd.prog 17 #[.pointer none, .agg #[a0, a1, a2, a3, a4, a5, a6, a7, a8, a9, .int .i64 m, .int .i64 n, b0, b1, b2]] w fun e w' => e = .returned (.tuple #[.int .i64 0, .bool false]) ∧ Below w.heap.size w w' := by
  have hB : Below w.heap.size w (w.alloc (.cells #[a0, a1, a2, a3, a4, a5, a6, a7, a8, a9, .int .i64 m, .int .i64 n, b0, b1, b2] 40)) := (Below.refl _ w).alloc (Nat.le_refl _) _
  go_enter Tryd.func17, Tryd.ntmps17
  go_wp2_with fail
  refine (allows_nil _ m n _ _ _ _ _ _ _ _ _ _ _ _ _).mono ?_
  rintro e w1 ⟨rfl, b1⟩
  go_wp2_with fail
  go_returns
  exact ⟨rfl, hB.trans (b1.mono hB.size)⟩

set_option maxRecDepth 100000 in
set_option maxHeartbeats 2000000 in
theorem accept_ok (w : World) (b : Nat) (t m n : Int) (h : SesIs w b t) (a0 a1 a2 a3 a4 a5 a6 a7 a8 a9 b0 b1 b2 : Value) :
    Calls Tryd.prog 17 #[.pointer (some ⟨b, 0, none⟩), .agg #[a0, a1, a2, a3, a4, a5, a6, a7, a8, a9, .int .i64 m, .int .i64 n, b0, b1, b2]] w fun e w' => e = .returned (.tuple #[.int .i64 (acceptV t m n), .bool (allowsS t m n)]) ∧ SesIs w' b (acceptT t m n) ∧ Upd b w w' := by
  have hlt := BlkIs.lt h
  have hs : SesIs (w.alloc (.cells #[a0, a1, a2, a3, a4, a5, a6, a7, a8, a9, .int .i64 m, .int .i64 n, b0, b1, b2] 40)) b t := BlkIs.alloc h _
  have hB : Below w.heap.size w (w.alloc (.cells #[a0, a1, a2, a3, a4, a5, a6, a7, a8, a9, .int .i64 m, .int .i64 n, b0, b1, b2] 40)) := (Below.refl _ w).alloc (Nat.le_refl _) _
  have hc : (w.alloc (.cells #[a0, a1, a2, a3, a4, a5, a6, a7, a8, a9, .int .i64 m, .int .i64 n, b0, b1, b2] 40)).cell? ⟨w.heap.size, 10, none⟩ = some (.int .i64 m) := by simp
  obtain ⟨r, hr⟩ : ∃ r, allowsS t m n = r := ⟨_, rfl⟩
  have hV : acceptV t m n = if r then raiseS t m else 0 := by rw [acceptV, hr]
  have hT : acceptT t m n = if r then raiseS t m else t := by rw [acceptT, hr]
  rw [hV, hT, hr]
  clear hV hT
  have HR := Lib.hid hr
  clear hr
  rcases r with _ | _
  · go_enter Tryd.func17, Tryd.ntmps17
    go_wp2_with fail
    refine (allows_ok _ b t m n hs _ _ _ _ _ _ _ _ _ _ _ _ _).mono ?_
    rintro e w1 ⟨rfl, b1⟩
    rw [HR.out]
    go_wp2_with fail
    go_returns
    exact ⟨rfl, hs.later b1, .of_below (hB.trans (b1.mono hB.size))⟩
  · go_enter Tryd.func17, Tryd.ntmps17
    go_wp2_with fail
    refine (allows_ok _ b t m n hs _ _ _ _ _ _ _ _ _ _ _ _ _).mono ?_
    rintro e w1 ⟨rfl, b1⟩
    rw [HR.out]
    have hc1 := keep_cell b1 hc
    have hs1 := hs.later b1
    go_wp2_with fail
    refine (raiseW _ b t m hs1).mono ?_
    rintro e w' ⟨rfl, rfl⟩
    go_wp2_with fail
    refine (tokenS _ b _ (setS hs1 _)).mono ?_
    rintro e w' ⟨rfl, rfl⟩
    go_wp2_with fail
    go_returns
    exact ⟨rfl, setS hs1 _, (Upd.of_below (hB.trans (b1.mono hB.size))).trans (Upd.setCell b 0 _ _)⟩
end Go.Proofs.YtejehdmllicfcaaDoor
