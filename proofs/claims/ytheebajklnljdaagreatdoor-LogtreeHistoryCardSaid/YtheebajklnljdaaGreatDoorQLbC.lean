/- The reference's Collide. -/
import Derived.Test.YtheebajklnljdaaGreatDoorQLbA
import Derived.Deep.RegionHeld3
import Derived.Deep.DrawnRows
import Derived.BigQuiet
import Derived.Deep.QuietTactic
namespace Go.Proofs.YtheebajklnljdaaGreatDoor
open Go Go.RowKit
attribute [local go_sem] Oper.semAt_some

def tB (x y : List UInt8) : Bool := !decide (x = y) && (shaL x == shaL y)
theorem collA_step (a b : List (List UInt8)) (i : Nat) (x : List UInt8) (hx : a[i]? = some x) : collA (a.drop i) b = (b.any (tB x) || collA (a.drop (i + 1)) b) := by
  obtain ⟨h1, e1⟩ := List.getElem?_eq_some_iff.1 hx
  rw [List.drop_eq_getElem_cons h1, e1]
  rfl
theorem any_step (f : List UInt8 → Bool) (b : List (List UInt8)) (k : Nat) (y : List UInt8) (hy : b[k]? = some y) : (b.drop k).any f = (f y || (b.drop (k + 1)).any f) := by
  obtain ⟨h1, e1⟩ := List.getElem?_eq_some_iff.1 hy
  rw [List.drop_eq_getElem_cons h1, e1]
  rfl

set_option maxRecDepth 100000 in
set_option maxHeartbeats 1000000 in
theorem collide9_ok (A B : Option Addr) (c d : Nat) (a b : List (List UInt8)) (w : World) (ha : ListAt w (.slice A a.length c) a) (hb : ListAt w (.slice B b.length d) b) (la : a.length ≤ 1000) (lb : b.length ≤ 1000)
    (sa : ∀ x ∈ a, x.length ≤ 900000) (sb : ∀ x ∈ b, x.length ≤ 900000) :
    Calls Tryz.prog 40 #[.slice A a.length c, .slice B b.length d] w fun e w' => e = .returned (.bool (collA a b)) ∧ Below w.heap.size w w' := by
  have HSA := Lib.hid sa
  have HSB := Lib.hid sb
  clear sa sb
  obtain ⟨R, hRR⟩ : ∃ R, R = collA a b := ⟨_, rfl⟩
  rw [← hRR]
  have HRR := Lib.hid hRR
  clear hRR
  go_enter Tryz.func40, Tryz.ntmps40
  go_wp2_with fail
  go_loopw [5] (fun iv wr => ∃ i : Nat, i ≤ a.length ∧ iv = .int .i64 i ∧ Hid (R = collA (a.drop i) b) ∧ Below w.heap.size w wr) (fun iv _ => a.length - (intOf iv).toNat)
  case atStart => exact ⟨0, by omega, rfl, Lib.hid (by rw [HRR.out]; rfl), Below.refl _ _⟩
  case round =>
    obtain ⟨i, hi, rfl, HI, hbi⟩ := hrel
    by_cases h1 : i < a.length
    case neg =>
      have t1 : decide (i < a.length) = false := by simpa using h1
      have hfin : R = false := by rw [HI.out, List.drop_eq_nil_of_le (by omega)]; rfl
      have HF := Lib.hid hfin
      clear hfin
      go_wp2_with fail
      go_ret
      exact ⟨(congrArg (fun b => Ending.returned (Value.bool b)) HF.out).symm, hbi⟩
    have t1 : decide (i < a.length) = true := by simpa using h1
    obtain ⟨ga, oa, x, rfl, hx, hga, cx0⟩ := ha.at_ h1
    have sx := HSA.out x (List.mem_of_getElem? hx)
    have hst := collA_step a b i x hx
    rw [← HI.out] at hst
    obtain ⟨C, hC⟩ : ∃ C, C = collA (a.drop (i + 1)) b := ⟨_, rfl⟩
    rw [← hC] at hst
    have HST := Lib.hid hst
    have HC := Lib.hid hC
    have q0 : (0 : Int) ≤ (i : Int) := by omega
    have q1 : (i : Int) < (a.length : Int) := by omega
    clear hst hC hx
    obtain ⟨w1, hw1⟩ : ∃ W, W = wr := ⟨_, rfl⟩
    rw [← hw1] at hbi ⊢
    clear hw1 wr
    go_wp2_with fail
    go_loopw [6] (fun kv wr => ∃ k : Nat, k ≤ b.length ∧ kv = .int .i64 k ∧ Hid (R = ((b.drop k).any (tB x) || C)) ∧ Below w.heap.size w wr) (fun kv _ => b.length - (intOf kv).toNat)
    case atStart => exact ⟨0, by omega, rfl, Lib.hid (by rw [HST.out]; rfl), hbi⟩
    case round =>
      clear hbi
      obtain ⟨k, hk, rfl, HK, hbl⟩ := hrel
      by_cases h2 : k < b.length
      case neg =>
        have t2 : decide (k < b.length) = false := by simpa using h2
        have hfin : R = C := by rw [HK.out, List.drop_eq_nil_of_le (by omega)]; rfl
        have HF := Lib.hid hfin
        clear hfin
        go_wp2_with fail
        exact ⟨⟨i + 1, by omega, by go_num, Lib.hid (by rw [HF.out, HC.out]), hbl⟩, by simp [intOf]; omega⟩
      have t2 : decide (k < b.length) = true := by simpa using h2
      obtain ⟨gb, ob, y, rfl, hy, hgb, cy0⟩ := hb.at_ h2
      have cx := (hbl.cell (p := ⟨ga, oa + i, none⟩) hga).trans cx0
      have cy := (hbl.cell (p := ⟨gb, ob + k, none⟩) hgb).trans cy0
      have sy := HSB.out y (List.mem_of_getElem? hy)
      have hsk := any_step (tB x) b k y hy
      have hrk := HK.out
      rw [hsk] at hrk
      have q2 : (0 : Int) ≤ (k : Int) := by omega
      have q3 : (k : Int) < (b.length : Int) := by omega
      by_cases hxy : x = y
      · subst hxy
        have hnx : R = ((b.drop (k + 1)).any (tB x) || C) := by rw [hrk]; simp [tB]
        have HNX := Lib.hid hnx
        clear hnx hrk hsk hy cx0 cy0
        go_wp2_with fail
        go_quiet (fail)
        have hb2 : Below w.heap.size w (wr.drewN nq) := below_drewN' hbl nq
        go_wp2_with fail
        exact ⟨⟨k + 1, by omega, by go_num, HNX, hb2⟩, by simp [intOf]; omega⟩
      · have t3 : (x == y) = false := by simpa using hxy
        have htb : tB x y = (shaL x == shaL y) := by unfold tB; rw [decide_eq_false hxy]; rfl
        rw [htb] at hrk
        have HRK := Lib.hid hrk
        have cN : ∀ (z : List UInt8) (W : World), z.length ≤ 900000 → W.cell? ⟨ga, oa + i, none⟩ = some (.string (str x)) → W.cell? ⟨gb, ob + k, none⟩ = some (.string (str y)) → Below w.heap.size w W →
            Calls Tryz.prog 67 #[.string (str z)] W fun e w' => e = .returned (.string (str (shaL z))) ∧ w'.cell? ⟨ga, oa + i, none⟩ = some (.string (str x)) ∧ w'.cell? ⟨gb, ob + k, none⟩ = some (.string (str y)) ∧ Below w.heap.size w w' := by
          intro z W hz k1 k2 k3
          have h := sumR_ok (str z) W (by rw [size_mk]; omega)
          rw [mk_toList] at h
          exact h.mono fun e w' ⟨he, hb⟩ => ⟨he, (hb.cell (block_of_cell k1)).trans k1, (hb.cell (block_of_cell k2)).trans k2, Below.next k3 hb⟩
        clear hrk hsk htb hy cx0 cy0 hxy
        go_wp2_with fail
        go_region_held3 (fun w' => w'.cell? ⟨ga, oa + i, none⟩ = some (.string (str x)) ∧ w'.cell? ⟨gb, ob + k, none⟩ = some (.string (str y)) ∧ Below w.heap.size w w') (refine ⟨?_, ?_, ?_⟩ <;> first | assumption | exact Below.drew (by assumption) | (simp [*]; done))
          (first | (go_at_call 67; refine (cN _ _ (by assumption) ?_ ?_ ?_).mono ?_; (simp [*]); (simp [*]); (first | assumption | exact Below.drew (by assumption)); rintro e w4 ⟨rfl, k1, k2, k3⟩) | fail)
        cases t4 : (shaL x == shaL y) with
        | true =>
          have HF : Hid (R = true) := Lib.hid (by rw [HRK.out, t4]; rfl)
          go_wp2_with fail
          go_ret
          exact ⟨(congrArg (fun b => Ending.returned (Value.bool b)) HF.out).symm, k3⟩
        | false =>
          have HF : Hid (R = ((b.drop (k + 1)).any (tB x) || C)) := Lib.hid (by rw [HRK.out, t4]; rfl)
          go_wp2_with fail
          exact ⟨⟨k + 1, by omega, by go_num, HF, k3⟩, by simp [intOf]; omega⟩
end Go.Proofs.YtheebajklnljdaaGreatDoor
