/- slices.Backward of sides: its iterator, for whatever the loop's body keeps. -/
import Derived.Test.YtednkommpmdikaaDoorDBase
import Derived.Test.YtednkommpmdikaaDoorRf
import Derived.Test.YtednkommpmdikaaDoorChecked
import Derived.RegionTactic
import Derived.ChangeAlike
import Derived.Shelf.RegionOpen
namespace Go.Proofs.YtednkommpmdikaaDoor
open Go Go.RowKit

theorem backS_ok (a : Option Addr) (m c : Nat) (w : World) :
    Calls Tryd.prog 44 #[.slice a m c] w fun e w' => e = .returned (.func (.func 56) #[] #[.pointer (some ⟨w.heap.size, 0, none⟩)]) ∧ w' = w.alloc (.cells #[.slice a m c] 54) := by
  go_enter Tryd.func44, Tryd.ntmps44
  go_wp2_with fail
  go_ret
  exact ⟨rfl, rfl⟩

set_option maxHeartbeats 1000000 in
theorem backS1_in (n : Nat) (hn : 1 ≤ n) (l B1 g m cp : Nat) (ad : Option Addr) (hA : 0 < m → ad = some ⟨g, 0, none⟩) (xs : List (ByteArray × Bool)) (hm : m = xs.length) (hcp : m ≤ cp) (hcm : cp ≤ 9223372036854775807) (J : Nat → World → Prop)
    (hbox : ∀ k W, J k W → W.cell? ⟨B1, 0, none⟩ = some (.slice ad m cp) ∧ ∀ (j : Nat) x, xs[j]? = some x → W.cell? ⟨g, j * 2, none⟩ = some (.string x.1) ∧ W.cell? ⟨g, j * 2 + 1, none⟩ = some (.bool x.2))
    (hY : ∀ k i W x, i + k + 1 = m → xs[i]? = some x → J k W → YieldAt Fence.wide (n - 1) Tryd.prog l #[.int .i64 (i : Nat), .agg #[.string x.1, .bool x.2]] W fun e W' => e = .returned (.bool true) ∧ J (k + 1) W')
    (W : World) (h0 : J 0 W) :
    CallsIn Fence.wide n Tryd.prog 56 #[.func (.yield l) #[] #[], .pointer (some ⟨B1, 0, none⟩)] W fun e W' => (∃ v, e = .returned v) ∧ J m W' := by
  refine callsIn_of_wp Tryd.func56 rfl trivial ?_ rfl
  simp only [Tryd.ntmps56, List.size_toArray, List.length_cons, List.length_nil, Nat.reduceAdd, Nat.reduceSub, Array.replicate_succ, Array.replicate_zero, List.push_toArray, List.append_toArray, List.nil_append, List.cons_append]
  have HM := Lib.hid hm
  have HA := Lib.hid hA
  clear hm hA
  obtain ⟨c1, _⟩ := hbox 0 W h0
  gi_wp2
  gi_loopw [3] (fun iv wr => ∃ (k : Nat) (i : Int), k ≤ m ∧ i + (k : Int) ≤ (m : Int) - 1 ∧ (m : Int) - 1 ≤ i + (k : Int) ∧ iv = .int .i64 i ∧ J k wr) (fun iv _ => (intOf iv + 1).toNat)
  case atStart => exact ⟨0, (m : Int) - 1, by omega, by omega, by omega, by go_num, h0⟩
  case round =>
    clear c1
    obtain ⟨k, i, hk, h1, h2, rfl, hJ⟩ := hrel
    obtain ⟨c1, c2⟩ := hbox k wr hJ
    by_cases hkm : k < m
    · obtain rfl := HA.out (by omega)
      obtain ⟨I, hI⟩ : ∃ I : Nat, i = (I : Int) := ⟨i.toNat, by omega⟩
      subst hI
      have t1 : decide (0 ≤ (I : Int)) = true := by simp
      have i0 : (0 : Int) ≤ (I : Int) := by omega
      have i1 : (I : Int) < (m : Int) := by omega
      obtain ⟨x, hx⟩ : ∃ x, xs[I]? = some x := ⟨_, List.getElem?_eq_getElem (by rw [← HM.out]; omega)⟩
      obtain ⟨hc, hc2⟩ := c2 I x hx
      have HC := Lib.hid c2
      have HX := Lib.hid hx
      obtain ⟨fn, tmps, assign, body, hy2, hR⟩ := hY k I wr x (by omega) hx hJ
      clear c2 hx
      gi_wp2
      refine hR.mono ?_
      rintro e W' ⟨rfl, hJ'⟩
      clear c1
      obtain ⟨c1, _⟩ := hbox (k + 1) W' hJ'
      gi_wp2
      exact ⟨⟨k + 1, (I : Int) - 1, by omega, by omega, by omega, by go_num, hJ'⟩, by simp [intOf]⟩
    · have t1 : decide (0 ≤ i) = false := by simp; omega
      have hk' : k = m := by omega
      have hJK : J m wr := hk' ▸ hJ
      clear hk'
      gi_wp2
      go_end0
      exact ⟨⟨_, rfl⟩, hJK⟩
end Go.Proofs.YtednkommpmdikaaDoor
