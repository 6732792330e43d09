/- The plain law of cut encodings in package wire. -/
import Derived.Test.YtflnbhhgdlehbaaDoorStrP
namespace Go.Proofs.YtflnbhhgdlehbaaDoor

theorem getInt_cut (n : Int) (hn : IntOk n) (j : Nat) (h : j < (putL n).length) : getInt ((putL n).take j) 0 = (0, 0, 10) := by
  obtain ⟨m, x, e, hg⟩ : ∃ m x e, getInt ((putL n).take j) 0 = (m, x, e) := ⟨_, _, _, rfl⟩
  rcases getInt_cases _ _ _ _ _ hg (by omega) (by omega) with ⟨rfl, hm, _, _, _⟩ | ⟨rfl, rfl, rfl⟩
  · obtain ⟨_, _, _, _, rest, hd⟩ := getInt_ok _ _ _ _ hg
    simp only [Int.toNat_zero, List.drop_zero] at hd
    have e2 : putL n ++ [] = putL m ++ (rest ++ (putL n).drop j) := by
      rw [List.append_nil, ← List.append_assoc, ← hd, List.take_append_drop]
    have e3 := putL_prefix n m hn hm _ _ e2
    subst e3
    have := congrArg List.length hd
    simp only [List.length_take, List.length_append] at this
    omega
  · exact hg

theorem getStr_cut (t : List UInt8) (ht : t.length ≤ 65536) (j : Nat) (h : j < (putS t).length) : getStr ((putS t).take j) 0 = ([], 0, 10) := by
  obtain ⟨v, x, e, hg⟩ : ∃ m x e, getStr ((putS t).take j) 0 = (m, x, e) := ⟨_, _, _, rfl⟩
  rcases getStr_cases _ _ _ _ _ hg (by omega) (by omega) with ⟨rfl, hv, _, _, _⟩ | ⟨rfl, rfl, rfl⟩
  · obtain ⟨_, _, _, _, rest, hd⟩ := getStr_ok _ _ _ _ hg
    simp only [Int.toNat_zero, List.drop_zero] at hd
    have e2 : putL t.length ++ t = putL v.length ++ (v ++ (rest ++ (putS t).drop j)) := by
      have : putS t = putS v ++ rest ++ (putS t).drop j := by rw [← hd, List.take_append_drop]
      rw [List.append_assoc] at this
      rw [← List.append_assoc]
      exact this
    have e3 := putL_prefix t.length v.length (intOk_len t ht) (intOk_len v hv) _ _ e2
    have := congrArg List.length hd
    simp only [List.length_take, List.length_append] at this
    have l1 : (putS t).length = (putL t.length).length + t.length := by rw [putS, List.length_append]
    have l2 : (putS v).length = (putL v.length).length + v.length := by rw [putS, List.length_append]
    rw [← e3] at l2
    omega
  · exact hg

theorem putS_len (t : List UInt8) : (putS t).length ≤ 9 + t.length ∧ 0 < (putS t).length := by
  have h1 := putL_len t.length
  have h2 := List.length_pos_iff.2 (putL_pos t.length)
  rw [putS, List.length_append]; omega

theorem putL_take (n m : Int) (hn : IntOk n) (hm : IntOk m) : (putL m).take (putL n).length = putL n ↔ n = m := by
  constructor
  · intro h
    refine putL_prefix n m hn hm ((putL m).drop (putL n).length) [] ?_
    rw [List.append_nil]
    conv => rhs; rw [← List.take_append_drop (putL n).length (putL m), h]
  · rintro rfl
    rw [List.take_length]

end Go.Proofs.YtflnbhhgdlehbaaDoor
