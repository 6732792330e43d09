/- Joined: R2V R9E. -/
import Derived.Test.YtheebajklnljdaaGreatDoorQLbA
import Derived.Test.YtheebajklnljdaaGreatDoorGl
import Derived.Test.YtheebajklnljdaaGreatDoorGg

section
/- The reference's Digests, value and Verify. -/
namespace Go.Proofs.YtheebajklnljdaaGreatDoor
open Go Go.RowKit
attribute [local go_sem] Oper.semAt_some

theorem all32_step (l : List (List UInt8)) (k : Nat) (x : List UInt8) (hx : l[k]? = some x) : (l.drop k).all (fun x => decide (x.length = 32)) = (decide (x.length = 32) && (l.drop (k + 1)).all fun x => decide (x.length = 32)) := by
  obtain ⟨h1, e1⟩ := List.getElem?_eq_some_iff.1 hx
  rw [List.drop_eq_getElem_cons h1, e1]
  rfl

set_option maxRecDepth 100000 in
set_option maxHeartbeats 1000000 in
theorem digestsR_ok (A : Option Addr) (c : Nat) (l : List (List UInt8)) (w : World) (hv : ListAt w (.slice A l.length c) l) (hl : l.length ≤ 1000) :
    Calls Tryz.prog 98 #[.slice A l.length c] w fun e w' => e = .returned (.bool (l.all fun x => decide (x.length = 32))) ∧ Below w.heap.size w w' := by
  obtain ⟨R, hRR⟩ : ∃ R, R = l.all fun x => decide (x.length = 32) := ⟨_, rfl⟩
  rw [← hRR]
  have HRR := Lib.hid hRR
  clear hRR
  go_enter Tryz.func98, Tryz.ntmps98
  go_wp2_with fail
  go_loopw [3] (fun kv wr => ∃ k : Nat, k ≤ l.length ∧ kv = .int .i64 k ∧ Hid (R = (l.drop k).all fun x => decide (x.length = 32)) ∧ Below w.heap.size w wr) (fun kv _ => l.length - (intOf kv).toNat)
  case atStart => exact ⟨0, by omega, rfl, Lib.hid HRR.out, Below.refl _ _⟩
  case round =>
    obtain ⟨k, hk, rfl, HK, hbl⟩ := hrel
    by_cases h1 : k < l.length
    · have t1 : decide (k < l.length) = true := by simpa using h1
      obtain ⟨ga, oa, x, rfl, hx, hga, cx0⟩ := hv.at_ h1
      have cx := (hbl.cell (p := ⟨ga, oa + k, none⟩) hga).trans cx0
      have q0 : (0 : Int) ≤ (k : Int) := by omega
      have q1 : (k : Int) < (l.length : Int) := by omega
      have hst := HK.out
      rw [all32_step l k x hx] at hst
      by_cases h32 : x.length = 32
      · have t2 : ((x.length : Int) != 32) = false := by simp only [bne_eq_false_iff_eq]; omega
        rw [decide_eq_true h32, Bool.true_and] at hst
        have HN := Lib.hid hst
        clear hst hx cx0 h32
        go_wp2_with fail
        exact ⟨⟨k + 1, by omega, by go_num, HN, hbl⟩, by simp [intOf]; omega⟩
      · have t2 : ((x.length : Int) != 32) = true := by simp only [bne_iff_ne, ne_eq]; omega
        rw [decide_eq_false h32, Bool.false_and] at hst
        subst hst
        clear hx cx0 h32
        go_wp2_with fail
        go_ret
        exact ⟨rfl, hbl⟩
    · have t1 : decide (k < l.length) = false := by simpa using h1
      have hst := HK.out
      rw [List.drop_eq_nil_of_le (by omega)] at hst
      obtain rfl : R = true := hst
      go_wp2_with fail
      go_ret
      exact ⟨rfl, hbl⟩

theorem valR_nil1 (s : List UInt8) (n i : Nat) (h : n ≤ 1) : valR s [] n i = some (leafL s) := by unfold valR; rw [if_pos h]
theorem valR_nil2 (s : List UInt8) (n i : Nat) (h : ¬ n ≤ 1) : valR s [] n i = none := by unfold valR; rw [if_neg h]
theorem valR_one (s x : List UInt8) (r : List (List UInt8)) (n i : Nat) (h : n ≤ 1) : valR s (x :: r) n i = none := by unfold valR; rw [if_pos h]
theorem valR_lt (s x : List UInt8) (r : List (List UInt8)) (n i : Nat) (h : ¬ n ≤ 1) (hi : i < leftN n) : valR s (x :: r) n i = (valR s r (leftN n) i).map fun v => nodeL v x := by
  conv => lhs; unfold valR
  rw [if_neg h, if_neg (by omega), if_neg (by omega), decide_eq_false (by omega)]
  rfl
theorem valR_ge (s x : List UInt8) (r : List (List UInt8)) (n i : Nat) (h : ¬ n ≤ 1) (hi : ¬ i < leftN n) : valR s (x :: r) n i = (valR s r (n - leftN n) (i - leftN n)).map fun v => nodeL x v := by
  conv => lhs; unfold valR
  rw [if_neg h, if_pos (by omega), if_pos (by omega), decide_eq_true (by omega)]
  rfl
theorem nodeR_str (s t : List UInt8) (w : World) (hs : s.length + t.length ≤ 900000) :
    Calls Tryz.prog 83 #[.string (str s), .string (str t)] w fun e w' => e = .returned (.string (str (nodeL s t))) ∧ Below w.heap.size w w' := by
  have h := nodeR_ok (str s) (str t) w (by rw [size_mk, size_mk]; exact hs)
  rw [mk_toList, mk_toList] at h
  exact h
theorem leafR_str (s : List UInt8) (w : World) (hs : s.length ≤ 900000) :
    Calls Tryz.prog 82 #[.string (str s)] w fun e w' => e = .returned (.string (str (leafL s))) ∧ Below w.heap.size w w' := by
  have h := leafR_ok (str s) w (by rw [size_mk]; exact hs)
  rw [mk_toList] at h
  exact h

set_option maxRecDepth 100000 in
set_option maxHeartbeats 1000000 in
theorem valueR_ok (s : List UInt8) (hs : s.length ≤ 100) : ∀ (r : List (List UInt8)) (n i : Nat) (v : Value) (w : World), ListAt w v r.reverse → 1 ≤ n → n ≤ 9223372036854775807 → i ≤ 9223372036854775807 → (∀ x ∈ r, x.length ≤ 100) → r.length ≤ 100 →
    Calls Tryz.prog 99 #[.int .i64 n, .int .i64 i, .string (str s), v] w fun e w' => ∃ z : List UInt8, z.length ≤ 32 ∧ e = .returned (.tuple #[.string (str z), .bool (valR s r n i).isSome]) ∧ (∀ u, valR s r n i = some u → z = u) ∧ Below w.heap.size w w'
  | [], n, i, v, w, hv, hn1, hn, hi, _, _ => by
    obtain ⟨A, c, rfl⟩ := hv.nil
    by_cases h1 : n = 1
    · subst h1
      rw [valR_nil1 s 1 i (Nat.le_refl _)]
      have hlf := fun W => leafR_str s W (by omega)
      have HLF := Lib.hid hlf
      clear hlf
      go_enter Tryz.func99, Tryz.ntmps99
      go_wp2_with fail
      refine (HLF.out _).mono ?_
      rintro e w1 ⟨rfl, b1⟩
      go_wp2_with fail
      go_ret2
      exact ⟨leafL s, Nat.le_of_eq rfl, rfl, fun u hu => Option.some.inj hu, b1⟩
    · rw [valR_nil2 s n i (by omega)]
      have t1 : ((n : Int) == 1) = false := by simp only [beq_eq_false_iff_ne, ne_eq]; omega
      go_enter Tryz.func99, Tryz.ntmps99
      go_wp2_with fail
      go_ret2
      exact ⟨[], by simp, rfl, fun u hu => (by cases hu), Below.refl _ _⟩
  | x :: r, n, i, v, w, hv, hn1, hn, hi, hr, hrl => by
    rw [List.reverse_cons] at hv
    obtain ⟨g, o, c, rfl, hc, hg, hx, hq⟩ := hv.last
    rw [List.length_reverse] at hc hx hq ⊢
    obtain ⟨L, hL⟩ : ∃ L, L = r.length := ⟨_, rfl⟩
    obtain ⟨M, hM⟩ : ∃ M, M = r.length + 1 := ⟨_, rfl⟩
    have e1 : (M : Int) - 1 = (L : Int) := by omega
    have M100 : (M : Int) ≤ 200 := by simp at hrl; omega
    have t0 : decide ((L : Int) < 0) = false := by simp
    rw [← hL] at hx hq
    rw [← hM] at hc ⊢
    by_cases h1 : n = 1
    · subst h1
      rw [valR_one s x r 1 i (Nat.le_refl _)]
      have hlf := fun W => leafR_str s W (by omega)
      have HLF := Lib.hid hlf
      clear hlf hx hq hv hL hM hr hrl
      go_enter Tryz.func99, Tryz.ntmps99
      go_wp2_with fail
      refine (HLF.out _).mono ?_
      rintro e w1 ⟨rfl, b1⟩
      go_wp2_with fail
      go_ret2
      exact ⟨leafL s, Nat.le_of_eq rfl, rfl, fun u hu => (by cases hu), b1⟩
    have t1 : ((n : Int) == 1) = false := by simp only [beq_eq_false_iff_ne, ne_eq]; omega
    have L0 : (0 : Int) ≤ (L : Int) := by omega
    have L1 : (L : Int) < (M : Int) := by omega
    have L2 : (L : Int) ≤ (c : Int) := by omega
    obtain ⟨k, hk2⟩ : ∃ k, k = leftN n := ⟨_, rfl⟩
    have hkl := leftN_lt n (by omega)
    have hkp := leftN_pos n
    have hleft := fun W => leftR_ok n W (by omega) hn
    have vlt := valR_lt s x r n i (by omega)
    have vge := valR_ge s x r n i (by omega)
    rw [← hk2] at hkl hkp hleft vlt vge
    have hx32 : x.length ≤ 100 := hr x (by simp)
    have hrl2 : r.length ≤ 99 := by simp at hrl; omega
    by_cases hki : i < k
    · have t4 : decide (i < k) = true := by simpa using hki
      have ih := valueR_ok s hs r k i (.slice (some ⟨g, o, none⟩) L c) w hq hkp (by omega) hi (fun z hz => hr z (by simp [hz])) (by omega)
      rw [vlt hki]
      obtain ⟨V, hV⟩ : ∃ V, V = valR s r k i := ⟨_, rfl⟩
      rw [← hV] at ih ⊢
      have HL := Lib.hid hleft
      have IH := Lib.hid ih
      clear vlt vge hV hleft ih hq hL hM hk2 hr hrl hki hv
      go_enter Tryz.func99, Tryz.ntmps99
      go_wp2_with fail
      refine (HL.out _).mono ?_
      rintro e w1 ⟨rfl, rfl⟩
      go_wp2_with fail
      refine (IH.out).mono ?_
      rintro e w2 ⟨z, hz, rfl, hzv, b2⟩
      have cx := (b2.cell (p := ⟨g, o + L, none⟩) hg).trans hx
      have hnd := fun W => nodeR_str z x W (by omega)
      have HND := Lib.hid hnd
      have HZV := Lib.hid hzv
      clear IH hx hzv hnd
      go_wp2_with fail
      refine (HND.out _).mono ?_
      rintro e w3 ⟨rfl, b3⟩
      have b := Below.next b2 b3
      go_wp2_with fail
      go_ret2
      refine ⟨nodeL z x, Nat.le_of_eq rfl, ?_, ?_, b⟩
      · cases V <;> rfl
      · intro u hu
        obtain ⟨q, hq, rfl⟩ := Option.map_eq_some_iff.1 hu
        rw [HZV.out q hq]
    · have t4 : decide (i < k) = false := by simpa using hki
      obtain ⟨n2, hn2⟩ : ∃ n2, n2 = n - k := ⟨_, rfl⟩
      obtain ⟨i2, hi2⟩ : ∃ i2, i2 = i - k := ⟨_, rfl⟩
      have e5 : (n : Int) - (k : Int) = (n2 : Int) := by omega
      have e6 : (i : Int) - (k : Int) = (i2 : Int) := by omega
      have ih := valueR_ok s hs r n2 i2 (.slice (some ⟨g, o, none⟩) L c) w hq (by omega) (by omega) (by omega) (fun z hz => hr z (by simp [hz])) (by omega)
      rw [vge hki, ← hn2, ← hi2]
      obtain ⟨V, hV⟩ : ∃ V, V = valR s r n2 i2 := ⟨_, rfl⟩
      rw [← hV] at ih ⊢
      have HL := Lib.hid hleft
      have IH := Lib.hid ih
      clear vlt vge hV hleft ih hq hL hM hk2 hr hrl hki hv hn2 hi2
      go_enter Tryz.func99, Tryz.ntmps99
      go_wp2_with fail
      refine (HL.out _).mono ?_
      rintro e w1 ⟨rfl, rfl⟩
      go_wp2_with fail
      refine (IH.out).mono ?_
      rintro e w2 ⟨z, hz, rfl, hzv, b2⟩
      have cx := (b2.cell (p := ⟨g, o + L, none⟩) hg).trans hx
      have hnd := fun W => nodeR_str x z W (by omega)
      have HND := Lib.hid hnd
      have HZV := Lib.hid hzv
      clear IH hx hzv hnd
      go_wp2_with fail
      refine (HND.out _).mono ?_
      rintro e w3 ⟨rfl, b3⟩
      have b := Below.next b2 b3
      go_wp2_with fail
      go_ret2
      refine ⟨nodeL x z, Nat.le_of_eq rfl, ?_, ?_, b⟩
      · cases V <;> rfl
      · intro u hu
        obtain ⟨q, hq, rfl⟩ := Option.map_eq_some_iff.1 hu
        rw [HZV.out q hq]

set_option maxRecDepth 100000 in
set_option maxHeartbeats 1000000 in
theorem verifyR_ok (root : ByteArray) (n i : Int) (s : List UInt8) (v : Value) (p : List (List UInt8)) (w : World) (hs : s.length ≤ 100) (hv : ListAt w v p) (hpl : p.length ≤ 100) (hn : n ≤ 9223372036854775807) :
    Calls Tryz.prog 66 #[.string root, .int .i64 n, .int .i64 i, .string (str s), v] w fun e w' => e = .returned (.bool (verB root.data.toList n i s p)) ∧ Below w.heap.size w w' := by
  obtain ⟨A, c, rfl⟩ : ∃ A c, v = .slice A p.length c := hv.len
  have hdg := digestsR_ok A c p w hv (by omega)
  obtain ⟨D, hD⟩ : ∃ D, D = p.all fun x => decide (x.length = 32) := ⟨_, rfl⟩
  have hR : verB root.data.toList n i s p = (decide (0 ≤ i ∧ i < n) && D && (valR s p.reverse n.toNat i.toNat == some root.data.toList)) := by unfold verB; rw [hD]
  rw [← hD] at hdg
  rw [hR]
  have HDG := Lib.hid hdg
  by_cases hi : i < 0
  · rw [decide_eq_false (show ¬ (0 ≤ i ∧ i < n) by omega)]
    clear hR hdg hD hv
    go_enter Tryz.func66, Tryz.ntmps66
    go_wp2_with fail
    refine (HDG.out).mono ?_
    rintro e w1 ⟨rfl, b1⟩
    go_wp2_with fail
    go_ret
    exact ⟨rfl, b1⟩
  by_cases hin : n ≤ i
  · rw [decide_eq_false (show ¬ (0 ≤ i ∧ i < n) by omega)]
    clear hR hdg hD hv
    go_enter Tryz.func66, Tryz.ntmps66
    go_wp2_with fail
    refine (HDG.out).mono ?_
    rintro e w1 ⟨rfl, b1⟩
    go_wp2_with fail
    go_ret
    exact ⟨rfl, b1⟩
  rw [decide_eq_true (show 0 ≤ i ∧ i < n by omega), Bool.true_and]
  cases D
  · clear hR hdg hD hv
    go_enter Tryz.func66, Tryz.ntmps66
    go_wp2_with fail
    refine (HDG.out).mono ?_
    rintro e w1 ⟨rfl, b1⟩
    go_wp2_with fail
    go_ret
    exact ⟨rfl, b1⟩
  · obtain ⟨a, rfl⟩ := Int.eq_ofNat_of_zero_le (show 0 ≤ i by omega)
    obtain ⟨m, rfl⟩ := Int.eq_ofNat_of_zero_le (show 0 ≤ n by omega)
    have h32 : ∀ x ∈ p, x.length = 32 := by
      intro x hx
      have := List.all_eq_true.1 hD.symm x hx
      simpa using this
    have hval := fun W (hW : Below w.heap.size w W) => valueR_ok s hs p.reverse m a (.slice A p.length c) W (by rw [List.reverse_reverse]; exact hv.below hW) (by omega) (by omega) (by omega) (fun x hx => by have := h32 x (List.mem_reverse.1 hx); omega) (by rw [List.length_reverse]; exact hpl)
    rw [Int.toNat_natCast, Int.toNat_natCast, Bool.true_and]
    obtain ⟨V, hV⟩ : ∃ V, V = valR s p.reverse m a := ⟨_, rfl⟩
    rw [← hV] at hval ⊢
    have HVAL := Lib.hid hval
    have t1 : decide (m ≤ a) = false := by simp; omega
    clear hR hdg hD hv hval hV h32 hi
    go_enter Tryz.func66, Tryz.ntmps66
    go_wp2_with fail
    refine (HDG.out).mono ?_
    rintro e w1 ⟨rfl, b1⟩
    go_wp2_with fail
    refine (HVAL.out _ b1).mono ?_
    rintro e w2 ⟨z, hz, rfl, hzv, b2⟩
    have b := Below.next b1 b2
    cases V with
    | none =>
      clear hzv
      go_wp2_with fail
      go_ret
      exact ⟨rfl, b⟩
    | some u =>
      obtain rfl := hzv u rfl
      clear hzv
      go_wp2_with fail
      go_ret
      exact ⟨by rw [Lib.toList_data]; rfl, b⟩
end Go.Proofs.YtheebajklnljdaaGreatDoor
end

section
/- The reference's Verify of a head. -/
namespace Go.Proofs.YtheebajklnljdaaGreatDoor
open Go Go.RowKit
attribute [local go_sem] Oper.semAt_some

set_option maxRecDepth 100000 in
set_option maxHeartbeats 4000000 in
theorem r9verify_ok (root : ByteArray) (n : Int) (h : Hd) (v : Value) (p : List (List UInt8)) (w : World) (hv : ListAt w v p) (hpl : p.length ≤ 100) :
    Calls Tryz.prog 37 #[.string root, .int .i64 n, hdV h, v] w fun e w' => e = .returned (.bool (verA root.data.toList n h p)) ∧ Below w.heap.size w w' := by
  have henc := fun W => r9encode_ok h W
  have hb1 := fun o => Below.alloc (Below.refl w.heap.size w) (Nat.le_refl _) o
  by_cases B1 : hdB h = true
  case neg =>
    have hE : encA h = ([], 90) := if_neg B1
    have hr : verA root.data.toList n h p = false := by unfold verA; rw [Bool.not_eq_true] at B1; rw [B1]; rfl
    rw [hr]
    rw [hE] at henc
    have HE := Lib.hid henc
    have HB := Lib.hid hb1
    clear henc hb1 hE hr B1 hv
    unfold hdV
    unfold hdV at HE
    go_enter Tryz.func37, Tryz.ntmps37
    go_wp2_with fail
    refine (HE.out _).mono ?_
    rintro e w1 ⟨rfl, b1⟩
    have hb2 := Below.next (HB.out _) b1
    go_wp2_with fail
    go_ret
    exact ⟨rfl, hb2⟩
  obtain ⟨k1, k2, -, -⟩ := hdB_parts B1
  have hE : encA h = (encHd h, 0) := if_pos B1
  rw [hE] at henc
  have hen := encHd_len B1
  have hver := fun W (hW : Below w.heap.size w W) => verifyR_ok root (n + 1) h.pos (encHd h) v p W (by omega) (hv.below hW) hpl
  obtain ⟨R, hR⟩ : ∃ R, R = verB root.data.toList (n + 1) h.pos (encHd h) p := ⟨_, rfl⟩
  have hv2 : verA root.data.toList n h p = ((decide (h.pos ≤ n) && decide (n ≤ 10000)) && R) := by unfold verA; rw [B1, ← hR]; rfl
  rw [hv2]
  rw [← hR] at hver
  obtain ⟨E, hEE⟩ : ∃ E, E = encHd h := ⟨_, rfl⟩
  rw [← hEE] at hver henc
  have al := hb1 (.cells #[.int .i64 h.pos, .string (str h.chain), .string (str h.state)] 46)
  have K := BlkIs.new w 46 #[.int .i64 h.pos, .string (str h.chain), .string (str h.state)]
  have HE := Lib.hid henc
  have HVER := Lib.hid hver
  have AL := Lib.hid al
  have HK := Lib.hid K
  obtain ⟨hp, hc, hs⟩ := h
  dsimp only at k1 k2 HE HVER AL HK ⊢
  unfold hdV
  unfold hdV at HE
  dsimp only at HE
  clear henc hb1 hE hR hv2 hver hEE al K hv hen B1
  by_cases h1 : 0 ≤ n
  case neg =>
    have e1 : decide (hp ≤ n) = false := decide_eq_false (by omega)
    have t1 : decide (0 ≤ n) = false := decide_eq_false h1
    rw [e1]
    clear e1
    go_enter Tryz.func37, Tryz.ntmps37
    go_wp2_with fail
    refine (HE.out _).mono ?_
    rintro e w1 ⟨rfl, b1⟩
    have hb2 := Below.next AL.out b1
    go_wp2_with fail
    go_ret
    exact ⟨rfl, hb2⟩
  have t1 : decide (0 ≤ n) = true := decide_eq_true h1
  by_cases h2 : n ≤ 10000
  case neg =>
    have t2 : decide (n ≤ 10000) = false := decide_eq_false h2
    rw [t2, Bool.and_false]
    go_enter Tryz.func37, Tryz.ntmps37
    go_wp2_with fail
    refine (HE.out _).mono ?_
    rintro e w1 ⟨rfl, b1⟩
    have hb2 := Below.next AL.out b1
    go_wp2_with fail
    go_ret
    exact ⟨rfl, hb2⟩
  have t2 : decide (n ≤ 10000) = true := decide_eq_true h2
  by_cases h3 : hp ≤ n
  case neg =>
    have t3 : decide (hp ≤ n) = false := decide_eq_false h3
    rw [t3]
    go_enter Tryz.func37, Tryz.ntmps37
    go_wp2_with fail
    refine (HE.out _).mono ?_
    rintro e w1 ⟨rfl, b1⟩
    have hb2 := Below.next AL.out b1
    have x0 : w1.cell? ⟨w.heap.size, 0, none⟩ = some (.int .i64 hp) := (HK.out.later b1).cell 0
    go_wp2_with fail
    go_ret
    exact ⟨rfl, hb2⟩
  have t3 : decide (hp ≤ n) = true := decide_eq_true h3
  rw [t2, t3]
  have hw : IntKind.i64.wrap (n + 1) = n + 1 := by rw [IntKind.wrap_i64]; omega
  go_enter Tryz.func37, Tryz.ntmps37
  go_wp2_with fail
  refine (HE.out _).mono ?_
  rintro e w1 ⟨rfl, b1⟩
  have hb2 := Below.next AL.out b1
  have x0 : w1.cell? ⟨w.heap.size, 0, none⟩ = some (.int .i64 hp) := (HK.out.later b1).cell 0
  go_wp2_with fail
  refine (HVER.out _ hb2 (by omega)).mono ?_
  rintro e w2 ⟨rfl, b2⟩
  have hb3 := Below.next hb2 b2
  go_wp2_with fail
  go_ret
  exact ⟨rfl, hb3⟩
end Go.Proofs.YtheebajklnljdaaGreatDoor
end

