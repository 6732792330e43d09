/- The walk of WireSequence. -/
import Derived.Test.YtflnbhhgdlehbaaDoorL7W
import Derived.Test.YtflnbhhgdlehbaaDoorSeqP
import Derived.Test.YtflnbhhgdlehbaaDoorSl
import Derived.Deep.RegionWith
import Derived.Deep.RegionHeld3
namespace Go.Proofs.YtflnbhhgdlehbaaDoor
open Go Go.RowKit

/-- the pairs that the law encodes -/
def pairsOf (n : Nat) (zs : List Int) (ss : List ByteArray) : List (Int × List UInt8) :=
  ((zs.zip ss).take n).map fun x => (numZ x.1, x.2.data.toList.take (min x.2.size 100))

theorem pairsOf_get (n : Nat) (zs : List Int) (ss : List ByteArray) (h1 : n ≤ zs.length) (h2 : n ≤ ss.length) (k : Nat) (hk : k < n) :
    ∃ z S, zs[k]? = some z ∧ ss[k]? = some S ∧ (pairsOf n zs ss)[k]? = some (numZ z, S.data.toList.take (min S.size 100)) := by
  have e1 : zs[k]? = some zs[k] := List.getElem?_eq_getElem (by omega)
  have e2 : ss[k]? = some ss[k] := List.getElem?_eq_getElem (by omega)
  refine ⟨zs[k], ss[k], e1, e2, ?_⟩
  unfold pairsOf
  rw [List.getElem?_map, List.getElem?_take, if_pos hk, (List.getElem?_zip_eq_some (z := (zs[k], ss[k]))).2 ⟨e1, e2⟩]
  rfl

theorem pairsOf_len (n : Nat) (zs : List Int) (ss : List ByteArray) (h1 : n ≤ zs.length) (h2 : n ≤ ss.length) : (pairsOf n zs ss).length = n := by
  unfold pairsOf; simp; omega

theorem pairsOf_small (n : Nat) (zs : List Int) (ss : List ByteArray) : ∀ x ∈ pairsOf n zs ss, x.2.length ≤ 100 := by
  intro x hx
  unfold pairsOf at hx
  obtain ⟨y, _, rfl⟩ := List.mem_map.1 hx
  simp only [List.length_take]
  omega

set_option maxRecDepth 100000 in
set_option maxHeartbeats 4000000 in
theorem law4_any (A0 A1 : Option Addr) (c0 c1 : Nat) (zs : List Int) (ss : List ByteArray) (w : World) (hT : TabOk w) (hz : ∀ z ∈ zs, -9223372036854775808 ≤ z ∧ z ≤ 9223372036854775807) (hss : ∀ S ∈ ss, S.size ≤ 9223372036854775807)
    (h0 : SliceAt w (.slice A0 zs.length c0) (zs.map (Value.int .i64))) (h1 : SliceAt w (.slice A1 ss.length c1) (ss.map Value.string)) :
    Calls Tryd.prog 6 #[.slice A0 zs.length c0, .slice A1 ss.length c1] w fun e w' => e = .returned (.bool true) ∧ Below w.heap.size w w' := by
  have HT := Lib.hid hT
  clear hT
  obtain ⟨n, hn⟩ : ∃ n : Nat, n = min (min zs.length ss.length) 20 := ⟨_, rfl⟩
  have na : n ≤ zs.length := by omega
  have nb : n ≤ ss.length := by omega
  have n20 : n ≤ 20 := by omega
  have hmin : ∀ W, (Builtin.min_ #[ 3, 3, 3 ] 3 #[.int .i64 (zs.length : Int), .int .i64 (ss.length : Int), .int .i64 20]).run Tryd.prog W = .ok (.int .i64 (n : Int)) W := by
    intro W
    have e : (n : Int) = (if 20 < (if (ss.length : Int) < (zs.length : Int) then (ss.length : Int) else (zs.length : Int)) then 20 else (if (ss.length : Int) < (zs.length : Int) then (ss.length : Int) else (zs.length : Int))) := by
      repeat (first | omega | split)
    rw [e]
    simp [Builtin.min_, Builtin.min2]
  clear hn
  obtain ⟨xs, hxs⟩ : ∃ xs, xs = pairsOf n zs ss := ⟨_, rfl⟩
  have HG := Lib.hid (pairsOf_get n zs ss na nb)
  have HL := Lib.hid (pairsOf_len n zs ss na nb)
  have HS := Lib.hid (pairsOf_small n zs ss)
  rw [← hxs] at HG HL HS
  clear hxs
  go_enter Tryd.func6, Tryd.ntmps6
  go_wp2_with fail
  refine (sane_any _ HT.out).mono ?_
  rintro e w1 ⟨rfl, b1⟩
  go_wp2_with fail
  go_loopw [7, 8] (fun sv iv wr => ∃ (k : Nat) (st : ByteArray), k ≤ n ∧ iv = .int .i64 k ∧ sv = .string st ∧ st.size ≤ 118 * k ∧ Hid (st.data.toList = seqL (xs.take k)) ∧ Below w.heap.size w wr) (fun _ iv _ => n - (intOf iv).toNat)
  case atStart => exact ⟨0, ⟨#[]⟩, by omega, rfl, rfl, by decide, rfl, b1⟩
  case round =>
    obtain ⟨k, st, hk, rfl, rfl, sst, HST, hb⟩ := hrel
    by_cases hkn : k < n
    · have hd : decide ((k : Int) < (n : Int)) = true := by simp; omega
      obtain ⟨z, S, ez, eS, ex⟩ := HG.out k hkn
      have hzz := hz z (List.mem_of_getElem? ez)
      obtain ⟨mS, eM, mS1, mS2, mS3⟩ := cut_min S 100 (by omega)
      have hsm : S.size ≤ 9223372036854775807 := hss S (List.mem_of_getElem? eS)
      obtain ⟨ad0, rfl, -, -, hc0⟩ := (h0.below hb).at_ (k := k) (by simp; omega)
      have cz : wr.cell? (ad0.add k) = some (.int .i64 z) := hc0 k _ (by rw [List.getElem?_map, ez]; rfl)
      have ES := Lib.hid eS
      rw [show (100 : Int).toNat = 100 from rfl] at mS3
      have EX : Hid (xs[k]? = some (numZ z, S.data.toList.take mS)) := Lib.hid (by rw [mS3]; exact ex)
      clear mS3
      have kz : k < zs.length := by omega
      have ks : k < ss.length := by omega
      have q1 : (0 : Int) ≤ (k : Int) := by omega
      have q2 : (k : Int) < (zs.length : Int) := by omega
      have q3 : (k : Int) < (ss.length : Int) := by omega
      clear hc0 ez eS ex
      go_wp2_with fail
      refine (numberFrom_any z _ hzz.1 hzz.2).mono ?_
      rintro e w2 ⟨rfl, b2⟩
      have nr := numZ_range z
      have lput := putL_len (numZ z)
      go_wp2_with fail
      refine (putInt_ok (numZ z) (by omega) (by omega) _).mono ?_
      rintro e w3 ⟨rfl, b3⟩
      have hb3 : Below w.heap.size w w3 := hb.trans ((b2.trans (b3.mono b2.size)).mono hb.size)
      clear b2 b3 hb cz
      obtain ⟨ad1, rfl, -, -, hc1⟩ := (h1.below hb3).at_ (k := k) (by simp; omega)
      have cS : w3.cell? (ad1.add k) = some (.string S) := hc1 k _ (by rw [List.getElem?_map, ES.out]; rfl)
      clear hc1
      go_wp2_with fail
      go_region_with (go_at_call 19; refine (putString_ok _ _ ?_).mono ?_; (rw [size_cut _ _ mS1]; omega); rintro e w4 ⟨rfl, b4⟩)
      all_goals (
        have hb4 : Below w.heap.size w w4 := hb3.trans ((Below.drew (Below.refl _ w3)).trans b4 |>.mono hb3.size)
        have hsz : (S.data.toList.take mS).length ≤ 100 := by
          rw [List.length_take]; omega
        have lS : (putS (S.data.toList.take mS)).length ≤ 109 := by
          rw [putS, List.length_append]
          have := putL_len (S.data.toList.take mS).length
          omega
        have HE := Lib.hid (seqL_take _ _ _ _ EX.out)
        obtain ⟨B, hB⟩ : ∃ B, B = putS (S.data.toList.take mS) := ⟨_, rfl⟩
        obtain ⟨A, hA⟩ : ∃ A, A = putL (numZ z) := ⟨_, rfl⟩
        rw [← hB] at HE lS
        rw [← hA] at HE lput
        rw [← hB, ← hA]
        have sst2 : st.size ≤ 2360 := by omega
        clear hB hA EX ES cS hsm eM mS1 mS2
        go_wp2_with fail
        refine ⟨⟨k + 1, st ++ ⟨A.toArray⟩ ++ ⟨B.toArray⟩, by omega, by go_num, rfl, ?_, ?_, hb4⟩, by simp [intOf]; omega⟩
        · simp only [ByteArray.size_append, size_mk]; omega
        · refine Lib.hid ?_
          rw [HE.out, ← HST.out]
          simp [ByteArray.data_append])
    · have hd : decide ((k : Int) < (n : Int)) = false := by simp; omega
      obtain rfl : k = n := by omega
      obtain ⟨wz, rfl⟩ : ∃ wz : World, wz = wr := ⟨_, rfl⟩
      have HST2 : Hid (st.data.toList = seqL xs) := Lib.hid (by rw [HST.out, List.take_of_length_le (Nat.le_of_eq HL.out)])
      clear HST
      go_wp2_with fail
      have hsl : st.size = (seqL xs).length := by rw [← HST2.out]; simp
      go_loopw [13, 14] (fun av iv wr => ∃ j : Nat, j ≤ k ∧ iv = .int .i64 j ∧ av = .int .i64 ((seqL (xs.take j)).length : Nat) ∧ Below w.heap.size w wr) (fun _ iv _ => k - (intOf iv).toNat)
      case atStart => exact ⟨0, by omega, rfl, by simp [seqL], hb⟩
      case round =>
        clear hb hk hd
        obtain ⟨j, hj, rfl, rfl, hb⟩ := hrel
        by_cases hjk : j < k
        · have hd : decide ((j : Int) < (k : Int)) = true := by simp; omega
          obtain ⟨z, S, ez, eS, ex⟩ := HG.out j hjk
          have hzz := hz z (List.mem_of_getElem? ez)
          obtain ⟨mS, eM, mS1, mS2, mS3⟩ := cut_min S 100 (by omega)
          have hsm : S.size ≤ 9223372036854775807 := hss S (List.mem_of_getElem? eS)
          have hex : (S.extract 0 mS).data.toList = S.data.toList.take (min S.size 100) := by rw [mS3]; simp
          rw [← hex] at ex
          have hsz : (S.extract 0 mS).data.toList.length ≤ 100 := by
            rw [hex, List.length_take]; omega
          obtain ⟨ad0, rfl, -, -, hc0⟩ := (h0.below hb).at_ (k := j) (by simp; omega)
          have cz : wr.cell? (ad0.add j) = some (.int .i64 z) := hc0 j _ (by rw [List.getElem?_map, ez]; rfl)
          obtain ⟨ad1, rfl, -, -, hc1⟩ := (h1.below hb).at_ (k := j) (by simp; omega)
          have cS : wr.cell? (ad1.add j) = some (.string S) := hc1 j _ (by rw [List.getElem?_map, eS]; rfl)
          have HI := Lib.hid (seqL_int xs j _ _ ex (numZ_ok z))
          have HT2 := Lib.hid (seqL_str xs j _ _ ex (by omega))
          have t1 := seqL_take_le xs j
          have t2 := seqL_take_le xs (j + 1)
          have lput := putL_len (numZ z)
          have nr := numZ_range z
          have kz : j < zs.length := by omega
          have ks : j < ss.length := by omega
          have q1 : (0 : Int) ≤ (j : Int) := by omega
          have q2 : (j : Int) < (zs.length : Int) := by omega
          have q3 : (j : Int) < (ss.length : Int) := by omega
          rw [← hsl] at t1 t2
          obtain ⟨p, hp⟩ : ∃ p, p = (seqL (xs.take j)).length := ⟨_, rfl⟩
          obtain ⟨q, hq⟩ : ∃ q, q = (seqL (xs.take (j + 1))).length := ⟨_, rfl⟩
          obtain ⟨a, ha⟩ : ∃ a, a = (putL (numZ z)).length := ⟨_, rfl⟩
          rw [← hp] at t1 HI HT2
          rw [← hq] at t2 HT2
          rw [← ha] at HI HT2 lput
          rw [← hp]
          have HQ := Lib.hid hq
          have HI2 : Hid (getInt st.data.toList (p : Int) = (numZ z, (p : Int) + (a : Int), 0)) := Lib.hid (by rw [HST2.out]; exact HI.out)
          have HT3 : Hid (getStr st.data.toList ((p : Int) + (a : Int)) = ((S.extract 0 mS).data.toList, (q : Int), 0)) := Lib.hid (by rw [HST2.out, ← Int.natCast_add]; exact HT2.out)
          clear hc0 hc1 ez eS ex hp ha hq hex mS3 hsl HI HT2
          go_wp2_with fail
          refine (int_any st p _ (by omega) (by omega) (by omega) _ _ _ HI2.out).mono ?_
          rintro e w' ⟨rfl, rfl⟩
          go_wp2_with fail
          refine (string_any st _ _ (by omega) (by omega) (by omega) _ _ _ HT3.out).mono ?_
          rintro e w' ⟨rfl, rfl⟩
          rw [mk_data]
          clear HI2 HT3
          go_wp2_with fail
          have cN : ∀ W : World, W.cell? (ad0.add j) = some (.int .i64 z) → W.cell? (ad1.add j) = some (.string S) → Below w.heap.size w W → Calls Tryd.prog 11 #[.int .i64 z] W fun e w' => e = .returned (.int .i64 (numZ z)) ∧ w'.cell? (ad0.add j) = some (.int .i64 z) ∧ w'.cell? (ad1.add j) = some (.string S) ∧ Below w.heap.size w w' :=
            fun W a b c => (numberFrom_any z W hzz.1 hzz.2).mono fun e w' ⟨he, hb⟩ => ⟨he, (hb.cell (block_of_cell a)).trans a, (hb.cell (block_of_cell b)).trans b, c.trans (hb.mono c.size)⟩
          go_region_held3 (fun w' => w'.cell? (ad0.add j) = some (.int .i64 z) ∧ w'.cell? (ad1.add j) = some (.string S) ∧ Below w.heap.size w w') (refine ⟨?_, ?_, ?_⟩ <;> first | assumption | exact Below.drew (by assumption) | (simp [*]; done))
            (first | (go_at_call 11; refine (cN _ ?_ ?_ ?_).mono ?_; (simp [*]); (simp [*]); (first | assumption | exact Below.drew (by assumption)); rintro e w4 ⟨rfl, k1, k2, k3⟩))
          go_wp2_with fail
          exact ⟨⟨j + 1, by omega, by go_num, by rw [← HQ.out], by assumption⟩, by simp [intOf]; omega⟩
        · have hd : decide ((j : Int) < (k : Int)) = false := by simp; omega
          obtain rfl : j = k := by omega
          have hfull : xs.take j = xs := List.take_of_length_le (Nat.le_of_eq HL.out)
          have HE : Hid (getInt st.data.toList (st.size : Int) = (0, 0, 10)) := Lib.hid (by
            have e := seqL_end st.data.toList
            have e2 : st.data.toList.length = st.size := by simp
            rwa [e2] at e)
          rw [hfull, ← hsl]
          clear hfull hsl
          go_wp2_with fail
          refine (int_any st _ _ (by omega) (by omega) (by omega) _ _ _ HE.out).mono ?_
          rintro e w' ⟨rfl, rfl⟩
          go_wp2_with fail
          go_ret
          exact ⟨rfl, hb⟩

theorem law4_at (v0 v1 : Value) (w : World) (hT : TabOk w) (h0 : ∃ zs : List Int, SliceAt w v0 (zs.map (Value.int .i64)) ∧ ∀ z ∈ zs, -9223372036854775808 ≤ z ∧ z ≤ 9223372036854775807)
    (h1 : ∃ ss : List ByteArray, SliceAt w v1 (ss.map Value.string) ∧ ∀ s ∈ ss, s.size ≤ 9223372036854775807) :
    Calls Tryd.prog 6 #[v0, v1] w fun e w' => e = .returned (.bool true) ∧ Below w.heap.size w w' := by
  obtain ⟨zs, s0, hz⟩ := h0
  obtain ⟨ss, s1, hs⟩ := h1
  obtain ⟨A0, c0, rfl, k0⟩ := id s0
  obtain ⟨A1, c1, rfl, k1⟩ := id s1
  rw [List.length_map] at s0 s1 ⊢
  rw [List.length_map]
  exact law4_any A0 A1 c0 c1 zs ss w hT hz hs s0 s1
end Go.Proofs.YtflnbhhgdlehbaaDoor
