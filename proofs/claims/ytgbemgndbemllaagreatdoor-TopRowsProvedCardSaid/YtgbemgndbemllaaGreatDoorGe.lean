/- Joined: Chunk Back BackS. -/
import Derived.Test.YtgbemgndbemllaaGreatDoorQDBase
import Derived.Test.YtgbemgndbemllaaGreatDoorQRf
import Derived.Test.YtgbemgndbemllaaGreatDoorChecked
import Derived.RegionTactic
import Derived.ChangeAlike
import Derived.Shelf.RegionOpen

section
/- slices.Chunk of bytes, by blocks of 64: its iterator, for whatever the loop's body keeps. -/
namespace Go.Proofs.YtgbemgndbemllaaGreatDoor
open Go Go.RowKit

theorem chunk_ok (a : Option Addr) (m c : Nat) (w : World) :
    Calls Tryz.prog 90 #[.slice a m c, .int .i64 64] w fun e w' => e = .returned (.func (.func 113) #[] #[.pointer (some ⟨w.heap.size, 0, none⟩), .pointer (some ⟨w.heap.size + 1, 0, none⟩)]) ∧ w' = (w.alloc (.cells #[.slice a m c] 113)).alloc (.cells #[.int .i64 64] 3) := by
  go_enter Tryz.func90, Tryz.ntmps90
  go_wp2_with fail
  go_ret
  exact ⟨rfl, rfl⟩

set_option maxHeartbeats 1000000 in
theorem chunk1_in (n : Nat) (hn : 1 ≤ n) (l B1 B2 g mj cp K : Nat) (hmj : mj = 64 * K) (hcp : mj ≤ cp) (hcm : cp ≤ 9223372036854775807) (J : Nat → World → Prop)
    (hbox : ∀ k W, J k W → W.cell? ⟨B1, 0, none⟩ = some (.slice (some ⟨g, 0, none⟩) mj cp) ∧ W.cell? ⟨B2, 0, none⟩ = some (.int .i64 64))
    (hdr : ∀ k W, J k W → J k W.drew)
    (hY : ∀ k W, k < K → J k W → YieldAt Fence.wide (n - 1) Tryz.prog l #[.slice (some ⟨g, 64 * k, none⟩) 64 64] W fun e W' => e = .returned (.bool true) ∧ J (k + 1) W')
    (W : World) (h0 : J 0 W) :
    CallsIn Fence.wide n Tryz.prog 113 #[.func (.yield l) #[] #[], .pointer (some ⟨B1, 0, none⟩), .pointer (some ⟨B2, 0, none⟩)] W fun e W' => (∃ v, e = .returned v) ∧ J K W' := by
  refine callsIn_of_wp Tryz.func113 rfl trivial ?_ rfl
  simp only [Tryz.ntmps113, List.size_toArray, List.length_cons, List.length_nil, Nat.reduceAdd, Nat.reduceSub, Array.replicate_succ, Array.replicate_zero, List.push_toArray, List.append_toArray, List.nil_append, List.cons_append]
  gi_wp2
  gi_loopw [4] (fun iv wr => ∃ k : Nat, k ≤ K ∧ iv = .int .i64 ((64 * k : Nat) : Int) ∧ J k wr) (fun iv _ => mj - (intOf iv).toNat)
  case atStart => exact ⟨0, by omega, rfl, h0⟩
  case round =>
    obtain ⟨k, hk, rfl, hJ⟩ := hrel
    obtain ⟨c1, c2⟩ := hbox k wr hJ
    obtain ⟨I, hI⟩ : ∃ I, I = 64 * k := ⟨_, rfl⟩
    rw [← hI]
    by_cases hkK : k < K
    · have t0 : I < mj := by omega
      have t1 : I + 64 ≤ mj := by omega
      have HM := Lib.hid hmj
      have HI := Lib.hid hI
      clear hmj hI
      gi_wp2
      gi_region
      obtain ⟨fn, tmps, assign, body, hy2, hR⟩ := hY k wr.drew hkK (hdr k wr hJ)
      rw [← HI.out] at hy2
      gi_wp2
      refine hR.mono ?_
      rintro e W' ⟨rfl, hJ'⟩
      clear c1 c2
      obtain ⟨c1, c2⟩ := hbox (k + 1) W' hJ'
      gi_wp2
      have hh := HI.out
      exact ⟨⟨k + 1, by omega, congrArg (Value.int .i64) (by omega), hJ'⟩, by simp [intOf]; omega⟩
    · have t0 : ¬ I < mj := by omega
      have hk' : k = K := by omega
      have hJK : J K wr := hk' ▸ hJ
      clear hk' hmj hI
      gi_wp2
      go_end0
      exact ⟨⟨_, rfl⟩, hJK⟩
end Go.Proofs.YtgbemgndbemllaaGreatDoor
end

section
/- slices.Backward of strings: its iterator, for whatever the loop's body keeps. -/
namespace Go.Proofs.YtgbemgndbemllaaGreatDoor
open Go Go.RowKit

theorem back_ok (a : Option Addr) (m c : Nat) (w : World) :
    Calls Tryz.prog 59 #[.slice a m c] w fun e w' => e = .returned (.func (.func 93) #[] #[.pointer (some ⟨w.heap.size, 0, none⟩)]) ∧ w' = w.alloc (.cells #[.slice a m c] 43) := by
  go_enter Tryz.func59, Tryz.ntmps59
  go_wp2_with fail
  go_ret
  exact ⟨rfl, rfl⟩

set_option maxHeartbeats 1000000 in
theorem back1_in (n : Nat) (hn : 1 ≤ n) (l B1 g m cp : Nat) (xs : List ByteArray) (hm : m = xs.length) (hcp : m ≤ cp) (hcm : cp ≤ 9223372036854775807) (J : Nat → World → Prop)
    (hbox : ∀ k W, J k W → W.cell? ⟨B1, 0, none⟩ = some (.slice (some ⟨g, 0, none⟩) m cp) ∧ ∀ (j : Nat) x, xs[j]? = some x → W.cell? ⟨g, j, none⟩ = some (.string x))
    (hY : ∀ k i W x, i + k + 1 = m → xs[i]? = some x → J k W → YieldAt Fence.wide (n - 1) Tryz.prog l #[.int .i64 (i : Nat), .string x] W fun e W' => e = .returned (.bool true) ∧ J (k + 1) W')
    (W : World) (h0 : J 0 W) :
    CallsIn Fence.wide n Tryz.prog 93 #[.func (.yield l) #[] #[], .pointer (some ⟨B1, 0, none⟩)] W fun e W' => (∃ v, e = .returned v) ∧ J m W' := by
  refine callsIn_of_wp Tryz.func93 rfl trivial ?_ rfl
  simp only [Tryz.ntmps93, List.size_toArray, List.length_cons, List.length_nil, Nat.reduceAdd, Nat.reduceSub, Array.replicate_succ, Array.replicate_zero, List.push_toArray, List.append_toArray, List.nil_append, List.cons_append]
  have HM := Lib.hid hm
  clear hm
  obtain ⟨c1, _⟩ := hbox 0 W h0
  gi_wp2
  gi_loopw [3] (fun iv wr => ∃ (k : Nat) (i : Int), k ≤ m ∧ i + (k : Int) ≤ (m : Int) - 1 ∧ (m : Int) - 1 ≤ i + (k : Int) ∧ iv = .int .i64 i ∧ J k wr) (fun iv _ => (intOf iv + 1).toNat)
  case atStart => exact ⟨0, (m : Int) - 1, by omega, by omega, by omega, by go_num, h0⟩
  case round =>
    clear c1
    obtain ⟨k, i, hk, h1, h2, rfl, hJ⟩ := hrel
    obtain ⟨c1, c2⟩ := hbox k wr hJ
    by_cases hkm : k < m
    · obtain ⟨I, hI⟩ : ∃ I : Nat, i = (I : Int) := ⟨i.toNat, by omega⟩
      subst hI
      have t1 : decide (0 ≤ (I : Int)) = true := by simp
      have i0 : (0 : Int) ≤ (I : Int) := by omega
      have i1 : (I : Int) < (m : Int) := by omega
      obtain ⟨x, hx⟩ : ∃ x, xs[I]? = some x := ⟨_, List.getElem?_eq_getElem (by rw [← HM.out]; omega)⟩
      have hc := c2 I x hx
      have HC := Lib.hid c2
      have HX := Lib.hid hx
      obtain ⟨fn, tmps, assign, body, hy2, hR⟩ := hY k I wr x (by omega) hx hJ
      clear c2 hx
      gi_wp2
      refine hR.mono ?_
      rintro e W' ⟨rfl, hJ'⟩
      clear c1
      obtain ⟨c1, _⟩ := hbox (k + 1) W' hJ'
      gi_wp2
      exact ⟨⟨k + 1, (I : Int) - 1, by omega, by omega, by omega, by go_num, hJ'⟩, by simp [intOf]⟩
    · have t1 : decide (0 ≤ i) = false := by simp; omega
      have hk' : k = m := by omega
      have hJK : J m wr := hk' ▸ hJ
      clear hk'
      gi_wp2
      go_end0
      exact ⟨⟨_, rfl⟩, hJK⟩
end Go.Proofs.YtgbemgndbemllaaGreatDoor
end

section
/- slices.Backward of sides: its iterator, for whatever the loop's body keeps. -/
namespace Go.Proofs.YtgbemgndbemllaaGreatDoor
open Go Go.RowKit

theorem backS_ok (a : Option Addr) (m c : Nat) (w : World) :
    Calls Tryz.prog 72 #[.slice a m c] w fun e w' => e = .returned (.func (.func 102) #[] #[.pointer (some ⟨w.heap.size, 0, none⟩)]) ∧ w' = w.alloc (.cells #[.slice a m c] 142) := by
  go_enter Tryz.func72, Tryz.ntmps72
  go_wp2_with fail
  go_ret
  exact ⟨rfl, rfl⟩

set_option maxHeartbeats 1000000 in
theorem backS1_in (n : Nat) (hn : 1 ≤ n) (l B1 g m cp : Nat) (ad : Option Addr) (hA : 0 < m → ad = some ⟨g, 0, none⟩) (xs : List (ByteArray × Bool)) (hm : m = xs.length) (hcp : m ≤ cp) (hcm : cp ≤ 9223372036854775807) (J : Nat → World → Prop)
    (hbox : ∀ k W, J k W → W.cell? ⟨B1, 0, none⟩ = some (.slice ad m cp) ∧ ∀ (j : Nat) x, xs[j]? = some x → W.cell? ⟨g, j * 2, none⟩ = some (.string x.1) ∧ W.cell? ⟨g, j * 2 + 1, none⟩ = some (.bool x.2))
    (hY : ∀ k i W x, i + k + 1 = m → xs[i]? = some x → J k W → YieldAt Fence.wide (n - 1) Tryz.prog l #[.int .i64 (i : Nat), .agg #[.string x.1, .bool x.2]] W fun e W' => e = .returned (.bool true) ∧ J (k + 1) W')
    (W : World) (h0 : J 0 W) :
    CallsIn Fence.wide n Tryz.prog 102 #[.func (.yield l) #[] #[], .pointer (some ⟨B1, 0, none⟩)] W fun e W' => (∃ v, e = .returned v) ∧ J m W' := by
  refine callsIn_of_wp Tryz.func102 rfl trivial ?_ rfl
  simp only [Tryz.ntmps102, List.size_toArray, List.length_cons, List.length_nil, Nat.reduceAdd, Nat.reduceSub, Array.replicate_succ, Array.replicate_zero, List.push_toArray, List.append_toArray, List.nil_append, List.cons_append]
  have HM := Lib.hid hm
  have HA := Lib.hid hA
  clear hm hA
  obtain ⟨c1, _⟩ := hbox 0 W h0
  gi_wp2
  gi_loopw [3] (fun iv wr => ∃ (k : Nat) (i : Int), k ≤ m ∧ i + (k : Int) ≤ (m : Int) - 1 ∧ (m : Int) - 1 ≤ i + (k : Int) ∧ iv = .int .i64 i ∧ J k wr) (fun iv _ => (intOf iv + 1).toNat)
  case atStart => exact ⟨0, (m : Int) - 1, by omega, by omega, by omega, by go_num, h0⟩
  case round =>
    clear c1
    obtain ⟨k, i, hk, h1, h2, rfl, hJ⟩ := hrel
    obtain ⟨c1, c2⟩ := hbox k wr hJ
    by_cases hkm : k < m
    · obtain rfl := HA.out (by omega)
      obtain ⟨I, hI⟩ : ∃ I : Nat, i = (I : Int) := ⟨i.toNat, by omega⟩
      subst hI
      have t1 : decide (0 ≤ (I : Int)) = true := by simp
      have i0 : (0 : Int) ≤ (I : Int) := by omega
      have i1 : (I : Int) < (m : Int) := by omega
      obtain ⟨x, hx⟩ : ∃ x, xs[I]? = some x := ⟨_, List.getElem?_eq_getElem (by rw [← HM.out]; omega)⟩
      obtain ⟨hc, hc2⟩ := c2 I x hx
      have HC := Lib.hid c2
      have HX := Lib.hid hx
      obtain ⟨fn, tmps, assign, body, hy2, hR⟩ := hY k I wr x (by omega) hx hJ
      clear c2 hx
      gi_wp2
      refine hR.mono ?_
      rintro e W' ⟨rfl, hJ'⟩
      clear c1
      obtain ⟨c1, _⟩ := hbox (k + 1) W' hJ'
      gi_wp2
      exact ⟨⟨k + 1, (I : Int) - 1, by omega, by omega, by omega, by go_num, hJ'⟩, by simp [intOf]⟩
    · have t1 : decide (0 ≤ i) = false := by simp; omega
      have hk' : k = m := by omega
      have hJK : J m wr := hk' ▸ hJ
      clear hk'
      gi_wp2
      go_end0
      exact ⟨⟨_, rfl⟩, hJK⟩
end Go.Proofs.YtgbemgndbemllaaGreatDoor
end

