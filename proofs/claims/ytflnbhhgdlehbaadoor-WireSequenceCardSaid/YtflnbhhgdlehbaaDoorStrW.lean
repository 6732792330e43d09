/- The walks of PutString and String, of the program and of the reference. -/
import Derived.Test.YtflnbhhgdlehbaaDoorRIntW
import Derived.Test.YtflnbhhgdlehbaaDoorStrP
namespace Go.Proofs.YtflnbhhgdlehbaaDoor
open Go Go.RowKit

set_option maxRecDepth 100000 in
set_option maxHeartbeats 1000000 in
theorem putString_ok (s : ByteArray) (w : World) (hs : s.size ≤ 65536) :
    Calls Tryd.prog 19 #[.string s] w fun e w' => e = .returned (.tuple #[.string ⟨(putS s.data.toList).toArray⟩, .int .i64 0]) ∧ Below w.heap.size w w' := by
  have hd : decide (65536 < (s.size : Int)) = false := by simp; omega
  have hl := putL_len s.size
  go_enter Tryd.func19, Tryd.ntmps19
  go_wp2_with fail
  refine (putInt_ok s.size (by omega) (by omega) w).mono ?_
  rintro e w' ⟨rfl, hb⟩
  go_wp2
  go_ret2
  rw [append_eq]
  exact ⟨rfl, hb⟩

set_option maxRecDepth 100000 in
set_option maxHeartbeats 1000000 in
theorem putString_bad (s : ByteArray) (w : World) (hs : 65536 < s.size) :
    Calls Tryd.prog 19 #[.string s] w fun e w' => e = .returned (.tuple #[.string ⟨#[]⟩, .int .i64 10]) ∧ w = w' := by
  have hd : decide (65536 < (s.size : Int)) = true := by simp; omega
  go_enter Tryd.func19, Tryd.ntmps19
  go_wp2
  go_ret2
  exact ⟨rfl, rfl⟩

set_option maxRecDepth 100000 in
set_option maxHeartbeats 1000000 in
theorem rPutString_ok (s : ByteArray) (w : World) (hs : s.size ≤ 65536) :
    Calls Tryd.prog 20 #[.string s] w fun e w' => e = .returned (.tuple #[.string ⟨(putS s.data.toList).toArray⟩, .int .i64 0]) ∧ Below w.heap.size w w' := by
  have hd : decide (65536 < (s.size : Int)) = false := by simp; omega
  have hl := putL_len s.size
  go_enter Tryd.func20, Tryd.ntmps20
  go_wp2_with fail
  refine (rPutInt_ok s.size (by omega) (by omega) w).mono ?_
  rintro e w' ⟨rfl, hb⟩
  go_wp2
  go_ret2
  rw [append_eq]
  exact ⟨rfl, hb⟩

set_option maxRecDepth 100000 in
set_option maxHeartbeats 1000000 in
theorem rPutString_bad (s : ByteArray) (w : World) (hs : 65536 < s.size) :
    Calls Tryd.prog 20 #[.string s] w fun e w' => e = .returned (.tuple #[.string ⟨#[]⟩, .int .i64 10]) ∧ w = w' := by
  have hd : decide (65536 < (s.size : Int)) = true := by simp; omega
  go_enter Tryd.func20, Tryd.ntmps20
  go_wp2
  go_ret2
  exact ⟨rfl, rfl⟩

set_option maxRecDepth 100000 in
set_option maxHeartbeats 1000000 in
theorem string_any (s : ByteArray) (p : Int) (w : World) (hs : s.size ≤ 140737488355328) (h1 : -9223372036854775808 ≤ p) (h2 : p ≤ 9223372036854775807) (v : List UInt8) (x e' : Int) (hg : getStr s.data.toList p = (v, x, e')) :
    Calls Tryd.prog 17 #[.string s, .int .i64 p] w fun e w' => e = .returned (.tuple #[.string ⟨v.toArray⟩, .int .i64 x, .int .i64 e']) ∧ w = w' := by
  obtain ⟨n, y, f, hi⟩ : ∃ n y f, getInt s.data.toList p = (n, y, f) := ⟨_, _, _, rfl⟩
  have herr := getInt_err s.data.toList p
  have hok := getInt_ok s.data.toList p
  unfold getStr at hg
  rw [hi] at hg herr hok
  simp only [] at hg
  have HG := Lib.hid hg
  have HI := Lib.hid hi
  clear hg hi
  by_cases hf : f = 0
  · subst hf
    obtain ⟨hn, hp0, hpl, hy, rest, hd⟩ := hok _ _ rfl
    have hyb : 0 ≤ y ∧ y ≤ s.size := by
      have := congrArg List.length hd
      simp only [List.length_drop, List.length_append, Array.length_toList] at this hpl
      have h3 : s.data.size = s.size := rfl
      have h4 : 0 ≤ ((putL n).length : Int) := by omega
      omega
    clear hd hok herr hy hn
    obtain ⟨hy0, hy1⟩ := hyb
    have hfin : ∀ r, (if n < 0 ∨ 65536 < n ∨ (s.size : Int) - y < n then (([], 0, 10) : List UInt8 × Int × Int) else ((s.data.toList.drop y.toNat).take n.toNat, y + n, 0)) = r → r = (v, x, e') := by
      intro r hr
      have := HG.out
      simp only [ne_eq, not_true_eq_false, if_false, Array.length_toList] at this
      rw [← this, ← hr]; rfl
    clear HG
    by_cases hc1 : n < 0
    · have hd1 : decide (n < 0) = true := decide_eq_true hc1
      have hr := hfin _ (if_pos (.inl hc1))
      cases hr
      clear hfin hpl
      go_enter Tryd.func17, Tryd.ntmps17
      go_wp2_with (go_at_call 15; refine (int_any s p w hs h1 h2 _ _ _ HI.out).mono ?_; rintro e w' ⟨rfl, rfl⟩)
      go_ret3
      exact ⟨rfl, rfl⟩
    have hd1 : decide (n < 0) = false := decide_eq_false hc1
    by_cases hc2 : 65536 < n
    · have hd2 : decide (65536 < n) = true := decide_eq_true hc2
      have hr := hfin _ (if_pos (.inr (.inl hc2)))
      cases hr
      clear hfin hpl
      go_enter Tryd.func17, Tryd.ntmps17
      go_wp2_with (go_at_call 15; refine (int_any s p w hs h1 h2 _ _ _ HI.out).mono ?_; rintro e w' ⟨rfl, rfl⟩)
      go_ret3
      exact ⟨rfl, rfl⟩
    have hd2 : decide (65536 < n) = false := decide_eq_false hc2
    by_cases hc3 : (s.size : Int) - y < n
    · have hd3 : decide ((s.size : Int) - y < n) = true := decide_eq_true hc3
      have hr := hfin _ (if_pos (.inr (.inr hc3)))
      cases hr
      clear hfin hpl
      go_enter Tryd.func17, Tryd.ntmps17
      go_wp2_with (go_at_call 15; refine (int_any s p w hs h1 h2 _ _ _ HI.out).mono ?_; rintro e w' ⟨rfl, rfl⟩)
      go_ret3
      exact ⟨rfl, rfl⟩
    have hd3 : decide ((s.size : Int) - y < n) = false := decide_eq_false hc3
    have hr := hfin _ (if_neg (by omega))
    cases hr
    clear hfin hpl
    go_enter Tryd.func17, Tryd.ntmps17
    go_wp2_with (go_at_call 15; refine (int_any s p w hs h1 h2 _ _ _ HI.out).mono ?_; rintro e w' ⟨rfl, rfl⟩)
    go_ret3
    rw [← show (y + n).toNat - y.toNat = n.toNat by omega, ← extract_eq]
    exact ⟨rfl, rfl⟩
  · have hfb : (f == 0) = false := by simpa using hf
    have hr := HG.out
    rw [if_pos hf] at hr
    cases hr
    clear HG hok herr hf
    go_enter Tryd.func17, Tryd.ntmps17
    go_wp2_with (go_at_call 15; refine (int_any s p w hs h1 h2 _ _ _ HI.out).mono ?_; rintro e w' ⟨rfl, rfl⟩)
    go_ret3
    exact ⟨rfl, rfl⟩

set_option maxRecDepth 100000 in
set_option maxHeartbeats 1000000 in
theorem rString_any (s : ByteArray) (p : Int) (w : World) (hs : s.size ≤ 140737488355328) (h1 : -9223372036854775808 ≤ p) (h2 : p ≤ 9223372036854775807) (v : List UInt8) (x e' : Int) (hg : getStr s.data.toList p = (v, x, e')) :
    Calls Tryd.prog 18 #[.string s, .int .i64 p] w fun e w' => e = .returned (.tuple #[.string ⟨v.toArray⟩, .int .i64 x, .int .i64 e']) ∧ Below w.heap.size w w' := by
  obtain ⟨n, y, f, hi⟩ : ∃ n y f, getInt s.data.toList p = (n, y, f) := ⟨_, _, _, rfl⟩
  have herr := getInt_err s.data.toList p
  have hok := getInt_ok s.data.toList p
  unfold getStr at hg
  rw [hi] at hg herr hok
  simp only [] at hg
  have HG := Lib.hid hg
  have HI := Lib.hid hi
  clear hg hi
  by_cases hf : f = 0
  · subst hf
    obtain ⟨hn, hp0, hpl, hy, rest, hd⟩ := hok _ _ rfl
    have hyb : 0 ≤ y ∧ y ≤ s.size := by
      have := congrArg List.length hd
      simp only [List.length_drop, List.length_append, Array.length_toList] at this hpl
      have h3 : s.data.size = s.size := rfl
      have h4 : 0 ≤ ((putL n).length : Int) := by omega
      omega
    clear hd hok herr hy hn
    obtain ⟨hy0, hy1⟩ := hyb
    have hfin : ∀ r, (if n < 0 ∨ 65536 < n ∨ (s.size : Int) - y < n then (([], 0, 10) : List UInt8 × Int × Int) else ((s.data.toList.drop y.toNat).take n.toNat, y + n, 0)) = r → r = (v, x, e') := by
      intro r hr
      have := HG.out
      simp only [ne_eq, not_true_eq_false, if_false, Array.length_toList] at this
      rw [← this, ← hr]; rfl
    clear HG
    by_cases hc1 : n < 0
    · have hd1 : decide (n < 0) = true := decide_eq_true hc1
      have hr := hfin _ (if_pos (.inl hc1))
      cases hr
      clear hfin hpl
      go_enter Tryd.func18, Tryd.ntmps18
      go_wp2_with (go_at_call 16; refine (rInt_any s p w hs h1 h2 _ _ _ HI.out).mono ?_; rintro e w' ⟨rfl, hb⟩)
      go_ret3
      exact ⟨rfl, hb⟩
    have hd1 : decide (n < 0) = false := decide_eq_false hc1
    by_cases hc2 : 65536 < n
    · have hd2 : decide (65536 < n) = true := decide_eq_true hc2
      have hr := hfin _ (if_pos (.inr (.inl hc2)))
      cases hr
      clear hfin hpl
      go_enter Tryd.func18, Tryd.ntmps18
      go_wp2_with (go_at_call 16; refine (rInt_any s p w hs h1 h2 _ _ _ HI.out).mono ?_; rintro e w' ⟨rfl, hb⟩)
      go_ret3
      exact ⟨rfl, hb⟩
    have hd2 : decide (65536 < n) = false := decide_eq_false hc2
    by_cases hc3 : (s.size : Int) - y < n
    · have hd3 : decide ((s.size : Int) - y < n) = true := decide_eq_true hc3
      have hr := hfin _ (if_pos (.inr (.inr hc3)))
      cases hr
      clear hfin hpl
      go_enter Tryd.func18, Tryd.ntmps18
      go_wp2_with (go_at_call 16; refine (rInt_any s p w hs h1 h2 _ _ _ HI.out).mono ?_; rintro e w' ⟨rfl, hb⟩)
      go_ret3
      exact ⟨rfl, hb⟩
    have hd3 : decide ((s.size : Int) - y < n) = false := decide_eq_false hc3
    have hr := hfin _ (if_neg (by omega))
    cases hr
    clear hfin hpl
    go_enter Tryd.func18, Tryd.ntmps18
    go_wp2_with (go_at_call 16; refine (rInt_any s p w hs h1 h2 _ _ _ HI.out).mono ?_; rintro e w' ⟨rfl, hb⟩)
    go_ret3
    rw [← show (y + n).toNat - y.toNat = n.toNat by omega, ← extract_eq]
    exact ⟨rfl, hb⟩
  · have hfb : (f == 0) = false := by simpa using hf
    have hr := HG.out
    rw [if_pos hf] at hr
    cases hr
    clear HG hok herr hf
    go_enter Tryd.func18, Tryd.ntmps18
    go_wp2_with (go_at_call 16; refine (rInt_any s p w hs h1 h2 _ _ _ HI.out).mono ?_; rintro e w' ⟨rfl, hb⟩)
    go_ret3
    exact ⟨rfl, hb⟩

end Go.Proofs.YtflnbhhgdlehbaaDoor
