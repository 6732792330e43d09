/- The law's collide. -/
import Derived.Test.YtednkommpmdikaaDoorDgF
import Derived.Deep.RegionHeld3
import Derived.Deep.DrawnRows
namespace Go.Proofs.YtednkommpmdikaaDoor
open Go Go.RowKit
attribute [local go_sem] Oper.semAt_some

def collB : List (List UInt8) → List (List UInt8) → Bool
  | x :: a, y :: b => (!decide (x = y) && (shaL x == shaL y)) || collB a b
  | _, _ => false
theorem collB_nil (b : List (List UInt8)) : collB [] b = false := by cases b <;> rfl
theorem collB_nil' (a : List (List UInt8)) : collB a [] = false := by cases a <;> rfl
theorem collB_of : ∀ {a b : List (List UInt8)}, CollL a b → collB a b = true
  | [], b, ⟨j, x, y, h1, _, _, _⟩ => by simp at h1
  | a :: t, [], ⟨j, x, y, _, h2, _, _⟩ => by simp at h2
  | p :: a, q :: b, ⟨0, x, y, h1, h2, h3, h4⟩ => by
    simp at h1 h2
    subst h1 h2
    simp [collB, h3, h4]
  | p :: a, q :: b, ⟨j + 1, x, y, h1, h2, h3, h4⟩ => by
    have := collB_of (a := a) (b := b) ⟨j, x, y, by simpa using h1, by simpa using h2, h3, h4⟩
    simp [collB, this]
theorem collB_step (a b : List (List UInt8)) (k : Nat) (x y : List UInt8) (hx : a[k]? = some x) (hy : b[k]? = some y) :
    collB (a.drop k) (b.drop k) = ((!decide (x = y) && (shaL x == shaL y)) || collB (a.drop (k + 1)) (b.drop (k + 1))) := by
  obtain ⟨h1, e1⟩ := List.getElem?_eq_some_iff.1 hx
  obtain ⟨h2, e2⟩ := List.getElem?_eq_some_iff.1 hy
  rw [List.drop_eq_getElem_cons h1, List.drop_eq_getElem_cons h2, e1, e2]
  rfl

theorem ListAt.at_ {w : World} {A : Option Addr} {n c : Nat} {l : List (List UInt8)} (h : ListAt w (.slice A n c) l) {k : Nat} (hk : k < l.length) :
    ∃ g o x, A = some ⟨g, o, none⟩ ∧ l[k]? = some x ∧ g < w.heap.size ∧ w.cell? ⟨g, o + k, none⟩ = some (.string (str x)) := by
  obtain ⟨g, o, c', e, hr⟩ := h.rows (by rintro rfl; simp at hk)
  injection e with e1 e2 e3
  exact ⟨g, o, l[k], e1, List.getElem?_eq_getElem hk, hr.2.2.2.1, hr.2.2.2.2 k _ (List.getElem?_eq_getElem hk)⟩

set_option maxRecDepth 100000 in
set_option maxHeartbeats 4000000 in
theorem collide_ok (A B : Option Addr) (c d : Nat) (a b : List (List UInt8)) (w : World) (ha : ListAt w (.slice A a.length c) a) (hb : ListAt w (.slice B b.length d) b) (la : a.length ≤ 1000)
    (sa : ∀ x ∈ a, x.length ≤ 900000) (sb : ∀ x ∈ b, x.length ≤ 900000) (hR : RoundOk w) :
    Calls Tryd.prog 23 #[.slice A a.length c, .slice B b.length d] w fun e w' => e = .returned (.bool (collB a b)) ∧ Below w.heap.size w w' := by
  have HSA := Lib.hid sa
  have HSB := Lib.hid sb
  clear sa sb
  obtain ⟨R, hRR⟩ : ∃ R, R = collB a b := ⟨_, rfl⟩
  rw [← hRR]
  have HRR := Lib.hid hRR
  clear hRR
  go_enter Tryd.func23, Tryd.ntmps23
  go_wp2_with fail
  go_loopw [5] (fun kv wr => ∃ k : Nat, k ≤ 1000 ∧ kv = .int .i64 k ∧ Hid (R = collB (a.drop k) (b.drop k)) ∧ Below w.heap.size w wr) (fun kv _ => 1000 - (intOf kv).toNat)
  case atStart => exact ⟨0, by omega, rfl, Lib.hid (by rw [HRR.out]; rfl), Below.refl _ _⟩
  case round =>
    obtain ⟨k, hk, rfl, HK, hbl⟩ := hrel
    by_cases h1 : k < a.length
    · have t1 : decide (k < a.length) = true := by simpa using h1
      by_cases h2 : k < b.length
      · have t2 : decide (k < b.length) = true := by simpa using h2
        obtain ⟨ga, oa, x, rfl, hx, hga, cx0⟩ := ha.at_ h1
        obtain ⟨gb, ob, y, rfl, hy, hgb, cy0⟩ := hb.at_ h2
        have cx := (hbl.cell (p := ⟨ga, oa + k, none⟩) hga).trans cx0
        have cy := (hbl.cell (p := ⟨gb, ob + k, none⟩) hgb).trans cy0
        have hst := collB_step a b k x y hx hy
        rw [← HK.out] at hst
        have sx := HSA.out x (List.mem_of_getElem? hx)
        have sy := HSB.out y (List.mem_of_getElem? hy)
        have q0 : (0 : Int) ≤ (k : Int) := by omega
        have q1 : (k : Int) < (a.length : Int) := by omega
        have q2 : (k : Int) < (b.length : Int) := by omega
        have hR2 := hR.later hbl
        by_cases hxy : x = y
        · subst hxy
          rw [decide_eq_true rfl, Bool.not_true, Bool.false_and, Bool.false_or] at hst
          have HST := Lib.hid hst
          clear hst hx hy cx0 cy0
          go_wp2_with fail
          go_quiet (fail)
          have hb2 : Below w.heap.size w (wr.drewN nq) := below_drewN' hbl nq
          go_wp2_with fail
          exact ⟨⟨k + 1, by omega, by go_num, HST, hb2⟩, by simp [intOf]; omega⟩
        · have t3 : (x == y) = false := by simpa using hxy
          rw [decide_eq_false hxy, Bool.not_false, Bool.true_and] at hst
          have HST := Lib.hid hst
          have HXY := Lib.hid hxy
          clear hst hx hy cx0 cy0 hxy
          have cN : ∀ (z : List UInt8) (W : World), z.length ≤ 900000 → W.cell? ⟨ga, oa + k, none⟩ = some (.string (str x)) → W.cell? ⟨gb, ob + k, none⟩ = some (.string (str y)) → Below w.heap.size w W →
              Calls Tryd.prog 26 #[.string (str z)] W fun e w' => e = .returned (.string (str (shaL z))) ∧ w'.cell? ⟨ga, oa + k, none⟩ = some (.string (str x)) ∧ w'.cell? ⟨gb, ob + k, none⟩ = some (.string (str y)) ∧ Below w.heap.size w w' := by
            intro z W hz k1 k2 k3
            have h := sum_ok (str z) W (by rw [size_mk]; omega) (hR.later k3)
            rw [mk_toList] at h
            exact h.mono fun e w' ⟨he, hb⟩ => ⟨he, (hb.cell (block_of_cell k1)).trans k1, (hb.cell (block_of_cell k2)).trans k2, Below.next k3 hb⟩
          go_wp2_with fail
          go_region_held3 (fun w' => w'.cell? ⟨ga, oa + k, none⟩ = some (.string (str x)) ∧ w'.cell? ⟨gb, ob + k, none⟩ = some (.string (str y)) ∧ Below w.heap.size w w') (refine ⟨?_, ?_, ?_⟩ <;> first | assumption | exact Below.drew (by assumption) | (simp [*]; done))
            (first | (go_at_call 26; refine (cN _ _ (by assumption) ?_ ?_ ?_).mono ?_; (simp [*]); (simp [*]); (first | assumption | exact Below.drew (by assumption)); rintro e w4 ⟨rfl, k1, k2, k3⟩))
          cases t4 : (shaL x == shaL y) with
          | true =>
            have HF : Hid (R = true) := Lib.hid (by rw [HST.out, t4]; rfl)
            go_wp2_with fail
            go_ret
            exact ⟨(congrArg (fun b => Ending.returned (Value.bool b)) HF.out).symm, k3⟩
          | false =>
            have HF : Hid (R = collB (a.drop (k + 1)) (b.drop (k + 1))) := Lib.hid (by rw [HST.out, t4]; rfl)
            go_wp2_with fail
            exact ⟨⟨k + 1, by omega, by go_num, HF, k3⟩, by simp [intOf]; omega⟩
      · have t2 : decide (k < b.length) = false := by simpa using h2
        have hfin : R = false := by rw [HK.out, List.drop_eq_nil_of_le (show b.length ≤ k by omega), collB_nil']
        have HF := Lib.hid hfin
        clear hfin
        go_wp2_with fail
        go_ret
        exact ⟨(congrArg (fun b => Ending.returned (Value.bool b)) HF.out).symm, hbl⟩
    · have t1 : decide (k < a.length) = false := by simpa using h1
      have hfin : R = false := by rw [HK.out, List.drop_eq_nil_of_le (show a.length ≤ k by omega), collB_nil]
      have HF := Lib.hid hfin
      clear hfin
      go_wp2_with fail
      go_ret
      exact ⟨(congrArg (fun b => Ending.returned (Value.bool b)) HF.out).symm, hbl⟩
end Go.Proofs.YtednkommpmdikaaDoor
