/- slices.Chunk of bytes, by blocks of 64: its iterator, for whatever the loop's body keeps. -/
import Derived.Test.YtednkommpmdikaaDoorDBase
import Derived.Test.YtednkommpmdikaaDoorRf
import Derived.Test.YtednkommpmdikaaDoorChecked
import Derived.RegionTactic
import Derived.ChangeAlike
import Derived.Shelf.RegionOpen
namespace Go.Proofs.YtednkommpmdikaaDoor
open Go Go.RowKit

theorem chunk_ok (a : Option Addr) (m c : Nat) (w : World) :
    Calls Tryd.prog 47 #[.slice a m c, .int .i64 64] w fun e w' => e = .returned (.func (.func 59) #[] #[.pointer (some ⟨w.heap.size, 0, none⟩), .pointer (some ⟨w.heap.size + 1, 0, none⟩)]) ∧ w' = (w.alloc (.cells #[.slice a m c] 45)).alloc (.cells #[.int .i64 64] 3) := by
  go_enter Tryd.func47, Tryd.ntmps47
  go_wp2_with fail
  go_ret
  exact ⟨rfl, rfl⟩

set_option maxHeartbeats 1000000 in
theorem chunk1_in (n : Nat) (hn : 1 ≤ n) (l B1 B2 g mj cp K : Nat) (hmj : mj = 64 * K) (hcp : mj ≤ cp) (hcm : cp ≤ 9223372036854775807) (J : Nat → World → Prop)
    (hbox : ∀ k W, J k W → W.cell? ⟨B1, 0, none⟩ = some (.slice (some ⟨g, 0, none⟩) mj cp) ∧ W.cell? ⟨B2, 0, none⟩ = some (.int .i64 64))
    (hdr : ∀ k W, J k W → J k W.drew)
    (hY : ∀ k W, k < K → J k W → YieldAt Fence.wide (n - 1) Tryd.prog l #[.slice (some ⟨g, 64 * k, none⟩) 64 64] W fun e W' => e = .returned (.bool true) ∧ J (k + 1) W')
    (W : World) (h0 : J 0 W) :
    CallsIn Fence.wide n Tryd.prog 59 #[.func (.yield l) #[] #[], .pointer (some ⟨B1, 0, none⟩), .pointer (some ⟨B2, 0, none⟩)] W fun e W' => (∃ v, e = .returned v) ∧ J K W' := by
  refine callsIn_of_wp Tryd.func59 rfl trivial ?_ rfl
  simp only [Tryd.ntmps59, List.size_toArray, List.length_cons, List.length_nil, Nat.reduceAdd, Nat.reduceSub, Array.replicate_succ, Array.replicate_zero, List.push_toArray, List.append_toArray, List.nil_append, List.cons_append]
  gi_wp2
  gi_loopw [4] (fun iv wr => ∃ k : Nat, k ≤ K ∧ iv = .int .i64 ((64 * k : Nat) : Int) ∧ J k wr) (fun iv _ => mj - (intOf iv).toNat)
  case atStart => exact ⟨0, by omega, rfl, h0⟩
  case round =>
    obtain ⟨k, hk, rfl, hJ⟩ := hrel
    obtain ⟨c1, c2⟩ := hbox k wr hJ
    obtain ⟨I, hI⟩ : ∃ I, I = 64 * k := ⟨_, rfl⟩
    rw [← hI]
    by_cases hkK : k < K
    · have t0 : I < mj := by omega
      have t1 : I + 64 ≤ mj := by omega
      have HM := Lib.hid hmj
      have HI := Lib.hid hI
      clear hmj hI
      gi_wp2
      gi_region
      obtain ⟨fn, tmps, assign, body, hy2, hR⟩ := hY k wr.drew hkK (hdr k wr hJ)
      rw [← HI.out] at hy2
      gi_wp2
      refine hR.mono ?_
      rintro e W' ⟨rfl, hJ'⟩
      clear c1 c2
      obtain ⟨c1, c2⟩ := hbox (k + 1) W' hJ'
      gi_wp2
      have hh := HI.out
      exact ⟨⟨k + 1, by omega, congrArg (Value.int .i64) (by omega), hJ'⟩, by simp [intOf]; omega⟩
    · have t0 : ¬ I < mj := by omega
      have hk' : k = K := by omega
      have hJK : J K wr := hk' ▸ hJ
      clear hk' hmj hI
      gi_wp2
      go_end0
      exact ⟨⟨_, rfl⟩, hJK⟩
end Go.Proofs.YtednkommpmdikaaDoor
