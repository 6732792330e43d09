/- few: a list's first strings, cut. -/
import Derived.Test.YtednkommpmdikaaDoorSides
import Derived.Deep.RegionHeld3
import Derived.Deep.AppendLies
namespace Go.Proofs.YtednkommpmdikaaDoor
open Go Go.RowKit

/-- what few returns -/
def fewL (ss : List ByteArray) (n : Nat) : List (List UInt8) := (ss.take n).map fun s => s.data.toList.take 60
theorem fewL_length (ss : List ByteArray) (n : Nat) : (fewL ss n).length ≤ n := by
  unfold fewL; rw [List.length_map, List.length_take]; omega
theorem fewL_short (ss : List ByteArray) (n : Nat) : ∀ x ∈ fewL ss n, x.length ≤ 60 := by
  intro x hx
  unfold fewL at hx
  obtain ⟨s, _, rfl⟩ := List.mem_map.1 hx
  rw [List.length_take]; omega
theorem fewL_succ (ss : List ByteArray) (k : Nat) (s : ByteArray) (h : ss[k]? = some s) : fewL ss (k + 1) = fewL ss k ++ [s.data.toList.take 60] := by
  unfold fewL; rw [List.take_add_one, h]; simp
theorem fewL_len (ss : List ByteArray) (k : Nat) (h : k ≤ ss.length) : (fewL ss k).length = k := by
  unfold fewL; rw [List.length_map, List.length_take]; omega
theorem fewL_all (ss : List ByteArray) (k n : Nat) (h : ss.length ≤ k) (h2 : k ≤ n) : fewL ss n = fewL ss k := by
  unfold fewL; rw [List.take_of_length_le h, List.take_of_length_le (by omega)]

set_option maxRecDepth 100000 in
set_option maxHeartbeats 4000000 in
theorem few_ok (v : Value) (ss : List ByteArray) (n : Nat) (N : Int) (hN : N = (n : Int)) (w : World) (hv : SliceAt w v (ss.map Value.string)) (hs : ∀ s ∈ ss, s.size ≤ 9223372036854775807) (hn : n ≤ 1000) :
    Calls Tryd.prog 11 #[v, .int .i64 N] w fun e w' => ∃ v', e = .returned v' ∧ w'.ownsRow w.heap.size 9 1 v' (fewL ss n).length (svs (fewL ss n)) ∧ Below w.heap.size w w' := by
  obtain ⟨i0, hi0, hz0, hz1, hz2⟩ := info_str
  obtain ⟨A, c, rfl, hc⟩ := id hv
  rw [List.length_map] at hv ⊢
  have hN1 : N ≤ 1000 := by omega
  have HN := Lib.hid hN
  have HS := Lib.hid hs
  clear hN hs hc
  go_enter Tryd.func11, Tryd.ntmps11
  go_wp2_with fail
  go_loopw [5, 6] (fun ov iv wr => ∃ k : Nat, k ≤ n ∧ k ≤ ss.length ∧ iv = .int .i64 k ∧ wr.ownsRow w.heap.size 9 1 ov k (svs (fewL ss k)) ∧ Below w.heap.size w wr) (fun _ iv _ => n - (intOf iv).toNat)
  case atStart => exact ⟨0, by omega, by omega, rfl, World.ownsRow_nil w _ _ 1, Below.refl _ _⟩
  case round =>
    obtain ⟨k, hkn, hkl, rfl, hown, hb⟩ := hrel
    by_cases h1 : k < ss.length
    · have t1 : decide (k < ss.length) = true := by simpa using h1
      by_cases h2 : k < n
      · have t2 : decide ((k : Int) < N) = true := by have := HN.out; simp; omega
        obtain ⟨s, hsk⟩ : ∃ s, ss[k]? = some s := ⟨_, List.getElem?_eq_getElem h1⟩
        have hsz := HS.out s (List.mem_of_getElem? hsk)
        obtain ⟨ad, rfl, -, -, hcl⟩ := hv.at_ (k := k) (by simp; omega)
        have cs0 : w.cell? (ad.add k) = some (.string s) := hcl k _ (by rw [List.getElem?_map, hsk]; rfl)
        have hadl := block_of_cell cs0
        have cs : wr.cell? (ad.add k) = some (.string s) := (hb.cell hadl).trans cs0
        have hadw : (ad.add k).block < wr.heap.size := Nat.lt_of_lt_of_le hadl hb.size
        have hne : u5.ownBlock ≠ some (ad.add k).block := by
          intro e
          have := World.ownsRow_base hown e
          omega
        clear cs0
        obtain ⟨m, em, m1, m2, m3⟩ := cut_min s 60 (by omega)
        rw [show (60 : Int).toNat = 60 from rfl] at m3
        have q1 : (0 : Int) ≤ (k : Int) := by omega
        have q2 : (k : Int) < (ss.length : Int) := by omega
        have q3 : (0 : Int) ≤ (m : Int) := by omega
        have q4 : (m : Int) ≤ (s.size : Int) := by omega
        have hfs := fewL_succ ss k s hsk
        have hcut : s.extract 0 m = str (s.data.toList.take 60) := by
          rw [extract_eq, List.drop_zero, Nat.sub_zero]
          have : s.data.toList.take m = s.data.toList.take 60 := by
            rw [m3]
            by_cases h60 : 60 ≤ s.size
            · rw [Nat.min_eq_right h60]
            · rw [Nat.min_eq_left (by omega), List.take_of_length_le (by simp), List.take_of_length_le (by simp; omega)]
          rw [this]
        have hmin : ∀ W, (Builtin.min_ #[ 3, 3 ] 3 #[.int .i64 (s.size : Int), .int .i64 60]).run Tryd.prog W = .ok (.int .i64 (m : Int)) W := by
          intro W
          rw [← em]
          simp [Builtin.min_, Builtin.min2]
        have HFS := Lib.hid hfs
        have HCUT := Lib.hid hcut
        have hle := hb.size
        clear hcl hsk hfs hcut m3
        go_wp2_with fail
        go_region_held3 (fun w' => w'.cell? (ad.add k) = some (.string s)) (first | go_keep | (rw [g1.cell_far _ (by simp; omega) (Ne.symm hne)]; assumption))
          ((refine step_append_lies _ (by rfl) _ _ _ (by rfl) w.heap.size 9 i0 (.string ⟨#[]⟩) 1 16 Tryd.underlying22 hi0 hz0 hz1 hz2 rfl (by decide) u5 k _ (by rfl) ((hown.alloc _).drew) ⟨wr.heap.size, 0, none⟩ 1 1 [.string (s.extract 0 m)] (by rfl) (by rfl) (cell_one_new _ _ _) (by simp [Value.oneCell']) (by decide) (by unfold maxLen; omega) (by omega) (by simp; omega) (wr.heap.size + 1) (by simp) ?_; intro gg cap w1 own1 g1 hat hlt))
        have g2 : (wr.alloc (.cells #[.string (s.extract 0 m)] 9)).grownBy w1 u5.ownBlock := ⟨g1.os, g1.tape, g1.output, g1.size, g1.block⟩
        have hb1 := Below.appended hb hle hown g2
        rw [HCUT.out, ← svs_snoc, ← HFS.out] at own1
        clear hmin em g1 g2 hown hb cs hadw
        go_wp2_with fail
        exact ⟨⟨k + 1, by omega, by omega, by go_num, own1, hb1⟩, by simp [intOf]; omega⟩
      · have t2 : decide ((k : Int) < N) = false := by have := HN.out; simp; omega
        have he : k = n := by omega
        have hall : fewL ss n = fewL ss k := by rw [he]
        have hlen := fewL_len ss k hkl
        rw [← hall] at hown hlen
        have HLEN := Lib.hid hlen
        clear hlen he hall
        go_wp2_with fail
        go_ret
        exact ⟨_, rfl, by rw [HLEN.out]; exact hown, hb⟩
    · have t1 : decide (k < ss.length) = false := by simpa using h1
      have hall : fewL ss n = fewL ss k := fewL_all ss k n (by omega) hkn
      have hlen := fewL_len ss k hkl
      rw [← hall] at hown hlen
      have HLEN := Lib.hid hlen
      clear hlen hall
      go_wp2_with fail
      go_ret
      exact ⟨_, rfl, by rw [HLEN.out]; exact hown, hb⟩
end Go.Proofs.YtednkommpmdikaaDoor
