/- hex. -/
import Derived.Test.YtednkommpmdikaaDoorLeaf
import Derived.Test.YtednkommpmdikaaDoorChecked
import Derived.Deep.QuietTactic
import Derived.BigQuiet
namespace Go.Proofs.YtednkommpmdikaaDoor
open Go Go.RowKit

def hexAll : List UInt8 := [48, 49, 50, 51, 52, 53, 54, 55, 56, 57, 97, 98, 99, 100, 101, 102]
def dig (n : Nat) : List UInt8 := (hexAll.drop n).take 1
def hexL (l : List UInt8) : List UInt8 := l.flatMap fun b => dig (b.toNat / 16) ++ dig (b.toNat % 16)
theorem hexL_snoc (l : List UInt8) (b : UInt8) : hexL (l ++ [b]) = hexL l ++ (dig (b.toNat / 16) ++ dig (b.toNat % 16)) := by simp [hexL]
theorem hexL_len (l : List UInt8) : (hexL l).length ≤ 2 * l.length := by
  induction l with
  | nil => simp [hexL]
  | cons a t ih =>
    have : hexL (a :: t) = (dig (a.toNat / 16) ++ dig (a.toNat % 16)) ++ hexL t := by simp [hexL]
    have h1 : ∀ n, (dig n).length ≤ 1 := fun n => by unfold dig; rw [List.length_take]; omega
    rw [this, List.length_append, List.length_append, List.length_cons]
    have := h1 (a.toNat / 16)
    have := h1 (a.toNat % 16)
    omega

theorem dig_cat (st : List UInt8) (q r : Nat) : str st ++ (⟨#[48, 49, 50, 51, 52, 53, 54, 55, 56, 57, 97, 98, 99, 100, 101, 102]⟩ : ByteArray).extract q (q + 1) ++ (⟨#[48, 49, 50, 51, 52, 53, 54, 55, 56, 57, 97, 98, 99, 100, 101, 102]⟩ : ByteArray).extract r (r + 1) = str (st ++ (dig q ++ dig r)) := by
  rw [extract_eq, extract_eq, Nat.add_sub_cancel_left, Nat.add_sub_cancel_left, ← List.append_assoc, ← cat_str, ← cat_str]
  rfl

set_option maxRecDepth 100000 in
set_option maxHeartbeats 4000000 in
theorem hex_ok (s : ByteArray) (w : World) (hs : s.size ≤ 1000) : Calls Tryd.prog 35 #[.string s] w fun e w' => e = .returned (.string (str (hexL s.data.toList))) ∧ Below w.heap.size w w' := by
  go_enter Tryd.func35, Tryd.ntmps35
  go_wp2_with fail
  go_loopw [3, 4] (fun sv iv wr => ∃ (k : Nat) (st : List UInt8), k ≤ s.size ∧ iv = .int .i64 k ∧ sv = .string (str st) ∧ st.length ≤ 2000 ∧ Hid (st = hexL (s.data.toList.take k)) ∧ Below w.heap.size w wr) (fun _ iv _ => s.size - (intOf iv).toNat)
  case atStart => exact ⟨0, [], by omega, rfl, rfl, by decide, rfl, Below.refl _ _⟩
  case round =>
    obtain ⟨k, st, hk, rfl, rfl, hst, HST, hb⟩ := hrel
    by_cases h : k < s.size
    · have t1 : decide (k < s.size) = true := by simpa using h
      obtain ⟨B, hB⟩ : ∃ B : Nat, s[k].toNat = B := ⟨_, rfl⟩
      have hB2 : B < 256 := by rw [← hB]; exact UInt8.toNat_lt _
      obtain ⟨q, hq⟩ : ∃ q : Nat, q = B / 16 := ⟨_, rfl⟩
      obtain ⟨r, hr⟩ : ∃ r : Nat, r = B % 16 := ⟨_, rfl⟩
      have e1 : (B : Int) / 16 = (q : Int) := by omega
      have e2 : (B : Int) % 16 = (r : Int) := by omega
      have q15 : q ≤ 15 := by omega
      have r15 : r ≤ 15 := by omega
      have w1 : IntKind.u8.wrap ((q : Int) + 1) = ((q + 1 : Nat) : Int) := by rw [IntWalk.u8_in _ (by omega)]; omega
      have w2 : IntKind.u8.wrap ((r : Int) + 1) = ((r + 1 : Nat) : Int) := by rw [IntWalk.u8_in _ (by omega)]; omega
      have HQ := Lib.hid hq
      have HR := Lib.hid hr
      clear hq hr
      have q0 : (0 : Int) ≤ ((q : Nat) : Int) := by omega
      have q1 : ((q : Nat) : Int) ≤ ((q + 1 : Nat) : Int) := by omega
      have q2 : ((q + 1 : Nat) : Int) ≤ 16 := by omega
      have r0 : (0 : Int) ≤ ((r : Nat) : Int) := by omega
      have r1 : ((r : Nat) : Int) ≤ ((r + 1 : Nat) : Int) := by omega
      have r2 : ((r + 1 : Nat) : Int) ≤ 16 := by omega
      have hts : s.data.toList.take (k + 1) = s.data.toList.take k ++ [s[k]] := by
        rw [List.take_succ_eq_append_getElem (by simpa using h)]; rfl
      have hnx : st ++ (dig q ++ dig r) = hexL (s.data.toList.take (k + 1)) := by
        rw [hts, hexL_snoc, HST.out, hB, HQ.out, HR.out]
      have hln : (st ++ (dig q ++ dig r)).length ≤ 2000 := by
        rw [hnx]
        have := hexL_len (s.data.toList.take (k + 1))
        rw [List.length_take] at this
        omega
      have HNX := Lib.hid hnx
      clear hts hnx
      go_wp2_with fail
      go_quiet (fail)
      have hb2 : Below w.heap.size w (wr.drewN nq) := below_drewN' hb nq
      go_wp2_with fail
      exact ⟨⟨k + 1, st ++ (dig q ++ dig r), by omega, by go_num, congrArg Value.string (dig_cat st q r), hln, HNX, hb2⟩, by simp [intOf]; omega⟩
    · have t1 : decide (k < s.size) = false := by simpa using h
      have he : s.data.toList.take k = s.data.toList := List.take_of_length_le (by simp; omega)
      have hf : st = hexL s.data.toList := by rw [HST.out, he]
      have HF := Lib.hid hf
      clear he hf
      go_wp2_with fail
      go_ret
      exact ⟨congrArg (fun x => Ending.returned (Value.string (str x))) HF.out, hb⟩
end Go.Proofs.YtednkommpmdikaaDoor
