/- The law's sides. -/
import Derived.Test.YtednkommpmdikaaDoorDgG
import Derived.RegionTactic
namespace Go.Proofs.YtednkommpmdikaaDoor
open Go Go.RowKit
attribute [local go_sem] Oper.semAt_some

theorem sidesR_len (old : List UInt8) : ∀ (r : List (List UInt8)) (m n : Nat) (b : Bool), (sidesR old r m n b).1.length ≤ r.length + 1
  | [], _, _, _ => by simp [sidesR]
  | x :: r, m, n, b => by
    unfold sidesR
    have h1 := sidesR_len old r m (leftN n) b
    have h2 := sidesR_len old r (m - leftN n) (n - leftN n) false
    split
    · split <;> simp
    · split
      · simp; omega
      · simp; omega

set_option maxRecDepth 100000 in
set_option maxHeartbeats 4000000 in
theorem sides_ok (old : List UInt8) (ho : old.length = 32) : ∀ (r : List (List UInt8)) (m n : Nat) (b : Bool) (u : List UInt8 × List UInt8) (v : Value) (w : World), ListAt w v r.reverse → n ≤ 9223372036854775807 → 1 ≤ m → m ≤ n → (∀ x ∈ r, x.length = 32) → r.length ≤ 100 → bothR old r m n b = some u → RoundOk w →
    Calls Tryd.prog 24 #[.string (str old), .int .i64 m, .int .i64 n, v, .bool b] w fun e w' => ∃ v', e = .returned (.tuple #[v', .string (str (sidesR old r m n b).2)]) ∧ w'.ownsRow w.heap.size 9 1 v' (sidesR old r m n b).1.length (svs (sidesR old r m n b).1) ∧ Below w.heap.size w w'
  | [], m, n, b, u, v, w, hv, hn, hm, hmn0, _, _, hval, hR => by
    have hmn : ¬ m < n := by
      intro h
      unfold bothR at hval
      rw [if_pos h] at hval
      cases hval
    have hb : b = true := by
      unfold bothR at hval
      rw [if_neg hmn] at hval
      cases b with
      | true => rfl
      | false => cases hval
    subst hb
    have t2 : decide (n ≤ m) = true := by simp; omega
    have e1 : sidesR old [] m n true = ([], old) := rfl
    rw [e1]
    have hown := World.ownsRow_nil w w.heap.size 9 1
    clear hval e1 hmn hv
    go_enter Tryd.func24, Tryd.ntmps24
    go_wp2_with fail
    go_ret2
    exact ⟨_, rfl, hown, Below.refl _ _⟩
  | x :: r, m, n, b, u, v, w, hv, hn, hm, hmn0, hr32, hrl, hval, hR => by
    rw [List.reverse_cons] at hv
    obtain ⟨g, o, c, rfl, hc, hg, hx, hq⟩ := hv.last
    rw [List.length_reverse] at hc hx hq ⊢
    by_cases hmn : m < n
    · obtain ⟨i0, hi0, hz0, hz1, hz2⟩ := info_str
      obtain ⟨L, hL⟩ : ∃ L, L = r.length := ⟨_, rfl⟩
      obtain ⟨M, hM⟩ : ∃ M, M = r.length + 1 := ⟨_, rfl⟩
      have e1 : (M : Int) - 1 = (L : Int) := by omega
      have M100 : (M : Int) ≤ 200 := by simp at hrl; omega
      rw [← hL] at hx hq
      rw [← hM] at hc ⊢
      have L0 : (0 : Int) ≤ (L : Int) := by omega
      have L1 : (L : Int) < (M : Int) := by omega
      have L2 : (L : Int) ≤ (c : Int) := by omega
      have t2 : decide (n ≤ m) = false := by simp; omega
      have t3 : ((M : Int) == 0) = false := by simp; omega
      obtain ⟨k, hk⟩ : ∃ k, k = leftN n := ⟨_, rfl⟩
      have hkl := leftN_lt n (by omega)
      have hkp := leftN_pos n
      have hleft := lawLeft_ok n w (by omega) hn
      rw [← hk] at hkl hkp hleft
      have hx32 : x.length ≤ 32 := by rw [hr32 x (by simp)]; omega
      have hrl2 : r.length ≤ 99 := by simp at hrl; omega
      have hr32' : ∀ z ∈ r, z.length = 32 := fun z hz => hr32 z (by simp [hz])
      by_cases hki : m ≤ k
      · have t4 : decide (m ≤ k) = true := by simpa using hki
        obtain ⟨u', hu'⟩ : ∃ u', bothR old r m k b = some u' := by
          unfold bothR at hval
          rw [if_pos hmn, ← hk, Option.map_eq_some_iff] at hval
          obtain ⟨u', h, _⟩ := hval
          refine ⟨u', ?_⟩
          rw [if_neg (by omega), if_neg (by omega), decide_eq_false (by omega), Bool.not_false, Bool.and_true] at h
          exact h
        have ih := sides_ok old ho r m k b u' (.slice (some ⟨g, o, none⟩) L c) w hq (by omega) (by omega) (by omega) hr32' (by omega) hu' hR
        have hv2 := sidesR_val old r m k b u' hu'
        have hv32 := (bothR_len old ho r m k b u' hr32' hu').2
        obtain ⟨V, hV⟩ : ∃ V, V = (sidesR old r m k b).2 := ⟨_, rfl⟩
        obtain ⟨W, hW⟩ : ∃ W, W = (sidesR old r m k b).1 := ⟨_, rfl⟩
        have hwl := sidesR_len old r m k b
        have hwr : sidesR old (x :: r) m n b = ((1 :: (V ++ x)) :: W, nodeL V x) := by
          rw [hV, hW, sidesR, if_neg (by omega), ← hk, if_pos hki]
        rw [← hV, ← hW] at ih
        rw [← hW] at hwl
        have V32 : V.length ≤ 32 := by rw [hV, hv2, hv32]; omega
        rw [hwr]
        have HK := Lib.hid hk
        have HW := Lib.hid hW
        have HV := Lib.hid hV
        have HL := Lib.hid hL
        have HM := Lib.hid hM
        have hwl2 : W.length ≤ 100 := by omega
        clear hval hu' hv2 hv32 hwr hk hW hV hL hM hwl hrl
        go_enter Tryd.func24, Tryd.ntmps24
        go_wp2_with fail
        refine hleft.mono ?_
        rintro e w1 ⟨rfl, rfl⟩
        go_wp2_with fail
        refine ih.mono ?_
        rintro e w2 ⟨v2, rfl, own2, b2⟩
        have hle2 := b2.size
        clear ih hleft hx
        go_wp2_with (at_builtin; refine wpList_append_rows rfl _ _ 22 rfl w1.heap.size 9 i0 (.string ⟨#[]⟩) 16 Tryd.underlying22 hi0 hz0 hz1 hz2 rfl (.slice (some ⟨w2.heap.size, 0, none⟩) 1 1) 1 _ rfl (own_new w2 9 (.string ((⟨#[1]⟩ : ByteArray) ++ str V ++ str x)) w1.heap.size hle2) w1.heap.size v2 W.length (svs W) rfl (own2.alloc _) (svs_one W) (by unfold maxLen; omega) (by omega) (by simp; omega) ?_; intro v3 w3 own3 g3)
        have hb3 : Below w1.heap.size w1 w3 := (b2.alloc hle2 _).grown g3 (by rw [World.size_alloc]; omega) (fun j e => by simp [Value.ownBlock] at e; omega)
        rw [cat3] at own3
        clear own2 g3
        refine (node_ok (str V) (str x) w3 (by rw [size_mk, size_mk]; omega) (hR.later hb3)).mono ?_
        rintro e w4 ⟨rfl, b4⟩
        have own4 := ownsRow_below b4 own3
        have hb4 := Below.next hb3 b4
        clear own3
        rw [mk_toList, mk_toList]
        go_wp2_with fail
        go_ret2
        rw [Nat.add_comm 1 W.length] at own4
        exact ⟨v3, rfl, own4, hb4⟩
      · have t4 : decide (m ≤ k) = false := by simpa using hki
        obtain ⟨n2, hn2⟩ : ∃ n2, n2 = n - k := ⟨_, rfl⟩
        obtain ⟨m2, hm2⟩ : ∃ m2, m2 = m - k := ⟨_, rfl⟩
        have e5 : (n : Int) - (k : Int) = (n2 : Int) := by omega
        have e6 : (m : Int) - (k : Int) = (m2 : Int) := by omega
        obtain ⟨u', hu'⟩ : ∃ u', bothR old r m2 n2 false = some u' := by
          unfold bothR at hval
          rw [if_pos hmn, ← hk, Option.map_eq_some_iff] at hval
          obtain ⟨u', h, _⟩ := hval
          refine ⟨u', ?_⟩
          rw [if_pos (by omega), if_pos (by omega), decide_eq_true (by omega), Bool.not_true, Bool.and_false, ← hn2, ← hm2] at h
          exact h
        have ih := sides_ok old ho r m2 n2 false u' (.slice (some ⟨g, o, none⟩) L c) w hq (by omega) (by omega) (by omega) hr32' (by omega) hu' hR
        have hv2 := sidesR_val old r m2 n2 false u' hu'
        have hv32 := (bothR_len old ho r m2 n2 false u' hr32' hu').2
        obtain ⟨V, hV⟩ : ∃ V, V = (sidesR old r m2 n2 false).2 := ⟨_, rfl⟩
        obtain ⟨W, hW⟩ : ∃ W, W = (sidesR old r m2 n2 false).1 := ⟨_, rfl⟩
        have hwl := sidesR_len old r m2 n2 false
        have hwr : sidesR old (x :: r) m n b = ((1 :: (x ++ V)) :: W, nodeL x V) := by
          rw [hV, hW, sidesR, if_neg (by omega), ← hk, if_neg hki, ← hn2, ← hm2]
        rw [← hV, ← hW] at ih
        rw [← hW] at hwl
        have V32 : V.length ≤ 32 := by rw [hV, hv2, hv32]; omega
        rw [hwr]
        have HK := Lib.hid hk
        have HW := Lib.hid hW
        have HV := Lib.hid hV
        have HL := Lib.hid hL
        have HM := Lib.hid hM
        have hwl2 : W.length ≤ 100 := by omega
        clear hn2 hm2 hval hu' hv2 hv32 hwr hk hW hV hL hM hwl hrl
        go_enter Tryd.func24, Tryd.ntmps24
        go_wp2_with fail
        refine hleft.mono ?_
        rintro e w1 ⟨rfl, rfl⟩
        go_wp2_with fail
        refine ih.mono ?_
        rintro e w2 ⟨v2, rfl, own2, b2⟩
        have hle2 := b2.size
        clear ih hleft hx
        go_wp2_with (at_builtin; refine wpList_append_rows rfl _ _ 22 rfl w1.heap.size 9 i0 (.string ⟨#[]⟩) 16 Tryd.underlying22 hi0 hz0 hz1 hz2 rfl (.slice (some ⟨w2.heap.size, 0, none⟩) 1 1) 1 _ rfl (own_new w2 9 (.string ((⟨#[1]⟩ : ByteArray) ++ str x ++ str V)) w1.heap.size hle2) w1.heap.size v2 W.length (svs W) rfl (own2.alloc _) (svs_one W) (by unfold maxLen; omega) (by omega) (by simp; omega) ?_; intro v3 w3 own3 g3)
        have hb3 : Below w1.heap.size w1 w3 := (b2.alloc hle2 _).grown g3 (by rw [World.size_alloc]; omega) (fun j e => by simp [Value.ownBlock] at e; omega)
        rw [cat3] at own3
        clear own2 g3
        refine (node_ok (str x) (str V) w3 (by rw [size_mk, size_mk]; omega) (hR.later hb3)).mono ?_
        rintro e w4 ⟨rfl, b4⟩
        have own4 := ownsRow_below b4 own3
        have hb4 := Below.next hb3 b4
        clear own3
        rw [mk_toList, mk_toList]
        go_wp2_with fail
        go_ret2
        rw [Nat.add_comm 1 W.length] at own4
        exact ⟨v3, rfl, own4, hb4⟩
    · have hb : b = false ∧ r = [] := by
        unfold bothR at hval
        rw [if_neg hmn] at hval
        cases b with
        | true => cases hval
        | false =>
          simp only [Bool.false_eq_true, if_false] at hval
          split at hval
          · exact ⟨rfl, ‹_›⟩
          · cases hval
      obtain ⟨rfl, rfl⟩ := hb
      have t2 : decide (n ≤ m) = true := by simp; omega
      have e1 : sidesR old [x] m n false = ([], x) := by
        unfold sidesR
        rw [if_pos (by omega)]
        rfl
      rw [e1]
      rw [List.length_nil, Nat.add_zero] at hx
      have hc1 : 1 ≤ c := hc
      have hown := World.ownsRow_nil w w.heap.size 9 1
      have hl1 : ([] : List (List UInt8)).length + 1 = 1 := rfl
      rw [hl1]
      clear hval e1 hmn hv hl1 hc hq
      go_enter Tryd.func24, Tryd.ntmps24
      go_wp2_with fail
      go_quiet (fail)
      go_wp2_with fail
      go_ret2
      exact ⟨_, rfl, hown, below_drewN' (Below.refl _ _) _⟩
end Go.Proofs.YtednkommpmdikaaDoor
