/- Merge, Encode, Decode of package session. -/
import Derived.Test.YtejehdmllicfcaaDoorSesB
import Derived.Test.YtejehdmllicfcaaDoorSumW
import Derived.Test.YtejehdmllicfcaaDoorPutE
namespace Go.Proofs.YtejehdmllicfcaaDoor
open Go Go.RowKit

theorem merge_nil (w : World) (v : Value) :
    Calls Tryd.prog 27 #[.pointer none, v] w fun e w' => e = .returned (.int .i64 1) ∧ w = w' := by
  go_enter Tryd.func27, Tryd.ntmps27
  go_wp2_with fail
  go_returns
  exact ⟨rfl, rfl⟩

theorem merge_of_nil (w : World) (b : Nat) :
    Calls Tryd.prog 27 #[.pointer (some ⟨b, 0, none⟩), .pointer none] w fun e w' => e = .returned (.int .i64 1) ∧ w = w' := by
  go_enter Tryd.func27, Tryd.ntmps27
  go_wp2_with fail
  go_returns
  exact ⟨rfl, rfl⟩

set_option maxRecDepth 100000 in
set_option maxHeartbeats 2000000 in
theorem merge_ok (w : World) (b c : Nat) (t u : Int) (h : SesIs w b t) (k : SesIs w c u) :
    Calls Tryd.prog 27 #[.pointer (some ⟨b, 0, none⟩), .pointer (some ⟨c, 0, none⟩)] w fun e w' => e = .returned (.int .i64 0) ∧ SesIs w' b (raiseS t u) ∧ Upd b w w' := by
  have hd : Upd b w w.drew := ⟨rfl, rfl, rfl, Nat.le_refl _, fun _ _ _ => rfl⟩
  go_enter Tryd.func27, Tryd.ntmps27
  go_wp2_with fail
  go_region_with (first
    | (go_at_call 19; refine (tokenS _ c u ?_).mono ?_; exact BlkIs.drew k; rintro e w4 ⟨rfl, rfl⟩)
    | (go_at_call 30; refine (raiseW _ b t u ?_).mono ?_; exact BlkIs.drew h; rintro e w4 ⟨rfl, rfl⟩))
  all_goals
    go_wp2_with fail
    go_returns
    exact ⟨rfl, setS (BlkIs.drew h) _, hd.trans (Upd.setCell b 0 _ _)⟩

theorem encS_len (t : Int) : (encS t).length ≤ 18 := by
  have h1 := putL_len t
  have h2 := putL_len (sumL (putL t))
  rw [encS, List.length_append]; omega

set_option maxRecDepth 100000 in
set_option maxHeartbeats 2000000 in
theorem encoded_ok (w : World) (b : Nat) (t : Int) (h : SesIs w b t) (ht : TokS t) (hT : TabOk w) :
    Calls Tryd.prog 32 #[.pointer (some ⟨b, 0, none⟩)] w fun e w' => e = .returned (.string ⟨(encS t).toArray⟩) ∧ Below w.heap.size w w' := by
  have HT := Lib.hid hT
  clear hT
  have hc := h.cell
  have ht1 := ht.1
  have ht2 := ht.2
  go_enter Tryd.func32, Tryd.ntmps32
  go_wp2_with fail
  refine (putInt_ok t (by omega) (by omega) _).mono ?_
  rintro e w1 ⟨rfl, b1⟩
  have l1 := putL_len t
  have l2 := sumL_lt (putL t)
  have hE : encS t = putL t ++ putL (sumL (putL t)) := rfl
  have l3 := putL_len (sumL (putL t))
  have HE := Lib.hid hE
  obtain ⟨A, hA⟩ : ∃ A, A = putL t := ⟨_, rfl⟩
  rw [← hA] at l1 l2 l3 HE
  rw [← hA]
  clear hA hE
  go_wp2_with fail
  refine (sum_any _ _ (by rw [size_mk]; omega) (HT.out.later b1)).mono ?_
  rintro e w2 ⟨rfl, rfl⟩
  rw [mk_toList]
  obtain ⟨s, hs⟩ : ∃ s, s = sumL A := ⟨_, rfl⟩
  rw [← hs] at l2 l3 HE
  rw [← hs]
  clear hs
  go_wp2_with fail
  refine (putInt_ok s (by omega) (by omega) _).mono ?_
  rintro e w3 ⟨rfl, b3⟩
  obtain ⟨B, hB⟩ : ∃ B, B = putL s := ⟨_, rfl⟩
  rw [← hB] at l3 HE
  rw [← hB]
  clear hB
  go_wp2_with fail
  go_returns
  refine ⟨?_, ?_⟩
  · rw [HE.out]
    exact congrArg (fun x => Ending.returned (Value.string x)) (by rw [append_eq, mk_toList, mk_toList])
  · exact b1.trans (b3.mono b1.size)

set_option maxRecDepth 100000 in
theorem encode_ok (w : World) (b : Nat) (t : Int) (h : SesIs w b t) (ht : TokS t) (hT : TabOk w) :
    Calls Tryd.prog 20 #[.pointer (some ⟨b, 0, none⟩)] w fun e w' => e = .returned (.string ⟨(encS t).toArray⟩) ∧ Below w.heap.size w w' := by
  have HT := Lib.hid hT
  clear hT
  go_enter Tryd.func20, Tryd.ntmps20
  go_wp2_with fail
  refine (encoded_ok _ b t h ht HT.out).mono ?_
  rintro e w1 ⟨rfl, b1⟩
  go_wp2_with fail
  go_returns
  exact ⟨rfl, b1⟩

theorem encode_nil (w : World) :
    Calls Tryd.prog 20 #[.pointer none] w fun e w' => e = .returned (.string ⟨#[]⟩) ∧ w = w' := by
  go_enter Tryd.func20, Tryd.ntmps20
  go_wp2_with fail
  go_returns
  exact ⟨rfl, rfl⟩

/-- what Decode hands back -/
def DecIs (g : Nat) (l : List UInt8) (v : Value) (w' : World) : Prop :=
  ((decS l).2 = 0 ∧ ∃ b, v = .pointer (some ⟨b, 0, none⟩) ∧ g ≤ b ∧ SesIs w' b (decS l).1) ∨ ((decS l).2 ≠ 0 ∧ v = .pointer none)

set_option maxRecDepth 100000 in
set_option maxHeartbeats 2000000 in
theorem decode_ok (w : World) (s : ByteArray) (hs : s.size ≤ 140737488355328) (hT : TabOk w) :
    Calls Tryd.prog 24 #[.string s] w fun e w' => (∃ v, e = .returned (.tuple #[v, .int .i64 (decS s.data.toList).2]) ∧ DecIs w.heap.size s.data.toList v w') ∧ Below w.heap.size w w' := by
  have HT := Lib.hid hT
  clear hT
  obtain ⟨n, x, e1, h1⟩ : ∃ n x e1, getInt s.data.toList (0 : Int) = (n, x, e1) := ⟨_, _, _, rfl⟩
  obtain ⟨m, y, e2, h2⟩ : ∃ m y e2, getInt s.data.toList x = (m, y, e2) := ⟨_, _, _, rfl⟩
  have hl : s.data.toList.length = s.size := by simp
  obtain ⟨D, hD⟩ : ∃ D, D = decS s.data.toList := ⟨_, rfl⟩
  have hD2 := hD
  unfold decS at hD2
  rw [h1] at hD2
  simp only [] at hD2
  rw [h2] at hD2
  simp only [] at hD2
  unfold DecIs
  rw [← hD]
  have H1 := Lib.hid h1
  have H2 := Lib.hid h2
  have c1 := getInt_cases _ _ _ _ _ h1 (by omega) (by omega)
  rw [hl] at c1
  by_cases k1 : e1 = 0
  · subst k1
    have c2 : 0 ≤ x ∧ x ≤ s.size ∧ IntOk n := by
      rcases c1 with ⟨_, a, b, c, _⟩ | ⟨a, _⟩
      · exact ⟨b, c, a⟩
      · omega
    obtain ⟨x0, x1, nok⟩ := c2
    obtain ⟨nk1, nk2⟩ := nok
    rw [if_neg (by omega)] at hD2
    have c3 := getInt_cases _ _ _ _ _ h2 (by omega) (by omega)
    rw [hl] at c3
    obtain ⟨k, rfl⟩ := Int.eq_ofNat_of_zero_le x0
    rw [Int.toNat_natCast] at hD2
    have hk : k ≤ s.size := by omega
    have hsum : sumL (s.extract 0 k).data.toList = sumL (s.data.toList.take k) := by simp
    by_cases k2 : e2 = 0
    · subst k2
      by_cases k3 : y < s.size
      · have hd : decide (y < (s.size : Int)) = true := by simpa using k3
        rw [if_pos (.inr (by rw [hl]; exact k3))] at hD2
        have HD := Lib.hid hD2
        clear h1 h2 hD hD2 c1 hl hsum c3
        go_enter Tryd.func24, Tryd.ntmps24
        go_wp2_with fail
        refine (int_any _ 0 _ hs (by omega) (by omega) _ _ _ H1.out).mono ?_
        rintro e w' ⟨rfl, rfl⟩
        go_wp2_with fail
        refine (int_any _ k _ hs (by omega) (by omega) _ _ _ H2.out).mono ?_
        rintro e w' ⟨rfl, rfl⟩
        go_wp2_with fail
        go_returns
        rw [HD.out]
        exact ⟨⟨_, rfl, .inr ⟨by decide, rfl⟩⟩, Below.refl _ _⟩
      · have hd : decide (y < (s.size : Int)) = false := by simpa using k3
        rw [if_neg (by rw [hl]; rintro (h | h); exact h rfl; exact k3 h)] at hD2
        obtain ⟨q, hq⟩ : ∃ q, q = sumL (s.data.toList.take k) := ⟨_, rfl⟩
        rw [← hq] at hD2 hsum
        by_cases k4 : m = (q : Int)
        · have hb : (m == (q : Int)) = true := by simpa using k4
          by_cases k5 : 0 ≤ n ∧ n ≤ 10000
          · have hp : decide (0 ≤ n ∧ n ≤ 10000) = true := by simpa using k5
            rw [if_neg (by rintro (h | h); exact h k4; exact h k5)] at hD2
            have hr : raiseS 0 n = n := by unfold raiseS; split <;> omega
            have HD := Lib.hid hD2
            have HS := Lib.hid hsum
            have HR := Lib.hid hr
            have HM := Lib.hid k4
            have hnew : ∀ z : Int, SesIs ((w.alloc (.cells #[.int .i64 n] 3)).alloc (.cells #[.int .i64 z] 69)) (w.heap.size + 1) z := by
              intro z
              have := BlkIs.new (w.alloc (.cells #[.int .i64 n] 3)) 69 #[.int .i64 z]
              rwa [World.size_alloc] at this
            clear h1 h2 hD hD2 c1 hl hsum c3 hq hr k4
            go_enter Tryd.func24, Tryd.ntmps24
            go_wp2_with fail
            refine (int_any _ 0 _ hs (by omega) (by omega) _ _ _ H1.out).mono ?_
            rintro e w' ⟨rfl, rfl⟩
            go_wp2_with fail
            refine (int_any _ k _ hs (by omega) (by omega) _ _ _ H2.out).mono ?_
            rintro e w' ⟨rfl, rfl⟩
            go_wp2_with fail
            refine (sum_any _ _ (by rw [size_cut _ _ hk]; omega) HT.out).mono ?_
            rintro e w' ⟨rfl, rfl⟩
            rw [HS.out]
            go_wp2_with fail
            refine (isPos1 _ _ n (by simp)).mono ?_
            rintro e w' ⟨rfl, rfl⟩
            rw [hp]
            go_wp2_with fail
            refine (newS _).mono ?_
            rintro e w' ⟨rfl, rfl⟩
            go_wp2_with fail
            refine (raiseW _ _ 0 n (hnew 0)).mono ?_
            rintro e w' ⟨rfl, rfl⟩
            go_wp2_with fail
            go_returns
            rw [HD.out]
            rw [HR.out]
            exact ⟨⟨_, rfl, .inl ⟨rfl, w.heap.size + 1, rfl, by omega, hnew n⟩⟩, ((Below.refl _ w).alloc (Nat.le_refl _) _).alloc (by simp) _⟩
          · have hp : decide (0 ≤ n ∧ n ≤ 10000) = false := by simpa using k5
            rw [if_pos (.inr k5)] at hD2
            have HD := Lib.hid hD2
            have HS := Lib.hid hsum
            have HM := Lib.hid k4
            clear h1 h2 hD hD2 c1 hl hsum c3 hq k4
            go_enter Tryd.func24, Tryd.ntmps24
            go_wp2_with fail
            refine (int_any _ 0 _ hs (by omega) (by omega) _ _ _ H1.out).mono ?_
            rintro e w' ⟨rfl, rfl⟩
            go_wp2_with fail
            refine (int_any _ k _ hs (by omega) (by omega) _ _ _ H2.out).mono ?_
            rintro e w' ⟨rfl, rfl⟩
            go_wp2_with fail
            refine (sum_any _ _ (by rw [size_cut _ _ hk]; omega) HT.out).mono ?_
            rintro e w' ⟨rfl, rfl⟩
            rw [HS.out]
            go_wp2_with fail
            refine (isPos1 _ _ n (by simp)).mono ?_
            rintro e w' ⟨rfl, rfl⟩
            rw [hp]
            go_wp2_with fail
            go_returns
            rw [HD.out]
            exact ⟨⟨_, rfl, .inr ⟨by decide, rfl⟩⟩, (Below.refl _ _).alloc (Nat.le_refl _) _⟩
        · have hb : (m == (q : Int)) = false := by simpa using k4
          rw [if_pos (.inl k4)] at hD2
          have HD := Lib.hid hD2
          have HS := Lib.hid hsum
          clear h1 h2 hD hD2 c1 hl hsum c3 hq
          go_enter Tryd.func24, Tryd.ntmps24
          go_wp2_with fail
          refine (int_any _ 0 _ hs (by omega) (by omega) _ _ _ H1.out).mono ?_
          rintro e w' ⟨rfl, rfl⟩
          go_wp2_with fail
          refine (int_any _ k _ hs (by omega) (by omega) _ _ _ H2.out).mono ?_
          rintro e w' ⟨rfl, rfl⟩
          go_wp2_with fail
          refine (sum_any _ _ (by rw [size_cut _ _ hk]; omega) HT.out).mono ?_
          rintro e w' ⟨rfl, rfl⟩
          rw [HS.out]
          go_wp2_with fail
          go_returns
          rw [HD.out]
          exact ⟨⟨_, rfl, .inr ⟨by decide, rfl⟩⟩, Below.refl _ _⟩
    · have k2' : e2 = 10 := by
        rcases c3 with ⟨a, _⟩ | ⟨a, _⟩ <;> omega
      subst k2'
      rw [if_pos (.inl k2)] at hD2
      have HD := Lib.hid hD2
      clear h1 h2 hD hD2 c1 hl hsum c3
      go_enter Tryd.func24, Tryd.ntmps24
      go_wp2_with fail
      refine (int_any _ 0 _ hs (by omega) (by omega) _ _ _ H1.out).mono ?_
      rintro e w' ⟨rfl, rfl⟩
      go_wp2_with fail
      refine (int_any _ k _ hs (by omega) (by omega) _ _ _ H2.out).mono ?_
      rintro e w' ⟨rfl, rfl⟩
      go_wp2_with fail
      go_returns
      rw [HD.out]
      exact ⟨⟨_, rfl, .inr ⟨by decide, rfl⟩⟩, Below.refl _ _⟩
  · rw [if_pos k1] at hD2
    have k1' : e1 = 10 := by
      rcases c1 with ⟨a, _⟩ | ⟨a, _⟩ <;> omega
    subst k1'
    have HD := Lib.hid hD2
    clear h1 h2 hD hD2 c1 hl
    go_enter Tryd.func24, Tryd.ntmps24
    go_wp2_with fail
    refine (int_any _ 0 _ hs (by omega) (by omega) _ _ _ H1.out).mono ?_
    rintro e w' ⟨rfl, rfl⟩
    go_wp2_with fail
    go_returns
    rw [HD.out]
    exact ⟨⟨_, rfl, .inr ⟨by decide, rfl⟩⟩, Below.refl _ _⟩
end Go.Proofs.YtejehdmllicfcaaDoor
