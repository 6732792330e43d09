/- Joined: ToJ RwB. -/
import Derived.Test.YtgbemgndbemllaaGreatDoorQVfA
import Derived.Test.YtgbemgndbemllaaGreatDoorQPrC
import Derived.Test.YtgbemgndbemllaaGreatDoorGc
import Derived.Test.YtgbemgndbemllaaGreatDoorGi
import Derived.Test.YtgbemgndbemllaaGreatDoorQCmA

section
/- What joins the parts of the law: paths that are accepted, proofs in memory. -/
namespace Go.Proofs.YtgbemgndbemllaaGreatDoor
open Go Go.RowKit

theorem proofL_log : ∀ (k : Nat) (l : List (List UInt8)) (i : Nat), l.length ≤ 2 ^ k → (proofL l i).length ≤ k
  | 0, l, i, h => by rw [proofL_one l i (by simpa using h)]; simp
  | k + 1, l, i, h => by
    by_cases h1 : l.length ≤ 1
    · rw [proofL_one l i h1]; simp
    · have hl := leftN_lt l.length (by omega)
      have hg := leftN_ge l.length (by omega)
      have hk : leftN l.length ≤ 2 ^ k := by
        unfold leftN
        refine Nat.pow_le_pow_right (by omega) ?_
        have : (l.length - 1).log2 < k + 1 := (Nat.log2_lt (by omega)).2 (by omega)
        omega
      by_cases hi : i < leftN l.length
      · have ih := proofL_log k (l.take (leftN l.length)) i (by rw [List.length_take]; omega)
        rw [proofL_left l i (by omega) hi, List.length_append, List.length_singleton]
        omega
      · have ih := proofL_log k (l.drop (leftN l.length)) (i - leftN l.length) (by rw [List.length_drop]; omega)
        rw [proofL_right l i (by omega) (by omega), List.length_append, List.length_singleton]
        omega

/-- what proofL gives is accepted -/
theorem verB_proof {l : List (List UInt8)} {i : Nat} {s : List UInt8} (h : l[i]? = some s) : verB (rootL l) (l.length : Nat) (i : Nat) s (proofL l i) = true := by
  have hi := (List.getElem?_eq_some_iff.1 h).1
  unfold verB
  rw [show decide ((0 : Int) ≤ (i : Nat) ∧ ((i : Nat) : Int) < (l.length : Nat)) = true by simp; omega, Bool.true_and, Bool.and_eq_true]
  refine ⟨?_, ?_⟩
  · rw [List.all_eq_true]
    intro x hx
    simpa using proofL_len32 _ _ _ (Nat.le_refl _) x hx
  · rw [Int.toNat_natCast, Int.toNat_natCast, proofL_ok _ _ _ _ (Nat.le_refl _) h]
    simp

/-- a log's own proof of a head is accepted -/
theorem verA_proof {x : Lg} (g : Good x) {n P : Nat} (hn : x.recs.length = n) (hP : P ≤ n) {h : Hd} (hh : x.heads[P]? = some h) : verA (rootA x) n h (proofL (leavesL x) P) = true := by
  obtain ⟨k1, k2⟩ := g.head P h hh
  have hs := g.small
  have hlen := g.len
  unfold verA
  rw [k1, k2, Bool.true_and, Bool.and_eq_true]
  refine ⟨by simp; omega, ?_⟩
  have hl : (leavesL x)[P]? = some (encHd h) := by unfold leavesL; rw [List.getElem?_map, hh]; rfl
  have hv := verB_proof hl
  rw [leavesL_len, hlen, hn] at hv
  unfold rootA
  simpa using hv
theorem proof_short {x : Lg} (g : Good x) (P : Nat) : (proofL (leavesL x) P).length ≤ 100 := by
  have hs := g.small
  have hl := leavesL_len x
  have hn := g.len
  have := proofL_log 14 (leavesL x) P (by omega)
  omega

theorem PfOwn.rws {w : World} {B : Nat} {xs : List Rw} {ps : List (List (List UInt8))} {v1 v2 : Value} (h : PfOwn w B xs ps v1 v2) : RwsAt w v1 xs := ownsRow_rws h.rows
theorem PfOwn.pathsAt {w : World} {B : Nat} {xs : List Rw} {ps : List (List (List UInt8))} {v1 v2 : Value} (h : PfOwn w B xs ps v1 v2) : PathsAt w v2 ps := by
  obtain ⟨pvs, h1, h2, h3⟩ := h.paths
  obtain ⟨A, c, rfl, hc, _, hx⟩ := ownsRow_form h2
  refine ⟨A, c, by rw [h1], fun j p hp => ?_⟩
  have hj := (List.getElem?_eq_some_iff.1 hp).1
  obtain ⟨g, rfl, hg, _, hcell⟩ := hx (by omega)
  obtain ⟨v, hv⟩ : ∃ v, pvs[j]? = some v := ⟨_, List.getElem?_eq_getElem (by omega)⟩
  exact ⟨g, 0, v, rfl, hg, by rw [Nat.zero_add]; exact hcell j v hv, listAt_own (h3 j v p hv hp).1⟩

/-- the paths of a cut are accepted -/
theorem cut_ver {s : StT} (gd : GoodS s) (t c lo hi : Int) (k : Nat) (x : Rw) (p : List (List UInt8)) (hx : (cutO (tabS s.rows t c) c lo hi)[k]? = some x) (hp : (cutP s.rows t c lo hi)[k]? = some p) :
    verB (rootL (entsS s.rows t c)) ((tabS s.rows t c).length : Nat) (((fromO (tabS s.rows t c) c lo) + k : Nat) : Int) (encRow x) p = true ∧ p.length ≤ 100 := by
  have hk := (List.getElem?_eq_some_iff.1 hx).1
  unfold cutP at hp
  rw [List.getElem?_map, List.getElem?_range hk] at hp
  obtain rfl := Option.some.inj hp
  have hx' : (tabS s.rows t c)[fromO (tabS s.rows t c) c lo + k]? = some x := by
    unfold cutO at hx
    rw [List.getElem?_drop, List.getElem?_take] at hx
    split at hx
    · exact hx
    · cases hx
  have he : (entsS s.rows t c)[fromO (tabS s.rows t c) c lo + k]? = some (encRow x) := by unfold entsS; rw [List.getElem?_map, hx']; rfl
  have hv := verB_proof he
  rw [entsS_len] at hv
  refine ⟨hv, ?_⟩
  have h1 : (tabS s.rows t c).length ≤ 2000 := tab_len s gd t c
  exact Nat.le_trans (proofL_log 11 (entsS s.rows t c) (fromO (tabS s.rows t c) c lo + k) (by rw [entsS_len]; omega)) (by omega)
end Go.Proofs.YtgbemgndbemllaaGreatDoor
end

section
/- Rows. -/
namespace Go.Proofs.YtgbemgndbemllaaGreatDoor
open Go Go.RowKit Go.Shelf
attribute [local go_sem] Oper.semAt_some

def inQ (c lo hi : Int) (r : Rw) : Bool := decide (lo ≤ r.val c) && decide (r.val c ≤ hi)
theorem filt_take {xs : List Rw} {q : Rw → Bool} {k : Nat} {x : Rw} (hx : xs[k]? = some x) : (xs.take (k + 1)).filter q = (xs.take k).filter q ++ (if q x then [x] else []) := by
  rw [List.take_add_one, hx, List.filter_append]
  cases h : q x <;> simp [h]

set_option maxRecDepth 100000 in
set_option maxHeartbeats 16000000 in
theorem rows_ok (t c lo hi : Int) (n f : Nat) (v1 v2 v3 : Value) (xs : List Rw) (ht1 : 0 ≤ t) (ht2 : t ≤ 3) (hc1 : 0 ≤ c) (hc2 : c ≤ 3) (hlh : lo ≤ hi) (w : World) (hv : RwsAt w v1 xs) (h2 : ∃ A l cc, v2 = .slice A l cc) (h3 : ∃ A l cc, v3 = .slice A l cc) (hC : CompleteO n f xs t c lo hi) :
    Calls Tryz.prog 16 #[pfV t c lo hi n f v1 v2 v3] w fun e w' => ∃ v, e = .returned (.tuple #[v, .bool true]) ∧ w'.ownsRow w.heap.size 67 5 v (xs.filter (inQ c lo hi)).length ((xs.filter (inQ c lo hi)).flatMap rwC) ∧ Below w.heap.size w w' := by
  have hcm := fun W (hW : Below w.heap.size w W) => complete_ok t c lo hi n f v1 v2 v3 xs ht1 ht2 hc1 hc2 hlh W (hv.below hW) h2 h3 hC
  obtain ⟨A2, l2, c2, rfl⟩ := h2
  obtain ⟨A3, l3, c3, rfl⟩ := h3
  obtain ⟨A1, c1, rfl, -⟩ := hv.form
  obtain ⟨N, hN⟩ : ∃ N, N = xs.length := ⟨_, rfl⟩
  rw [← hN] at hv hcm ⊢
  obtain ⟨w1, hw1⟩ : ∃ w1, w1 = w.alloc (.cells #[.int .i64 t, .int .i64 c, .int .i64 lo, .int .i64 hi, .int .i64 (n : Int), .int .i64 (f : Int), .slice A1 N c1, .slice A2 l2 c2, .slice A3 l3 c3] 51) := ⟨_, rfl⟩
  have a1 : Below w.heap.size w w1 := by rw [hw1]; exact Below.alloc1 w _
  have hP : PfW w1 w.heap.size t c lo hi n f (.slice A1 N c1) (.slice A2 l2 c2) (.slice A3 l3 c3) xs := ⟨by rw [hw1]; exact BlkIs.new w _ #[.int .i64 t, .int .i64 c, .int .i64 lo, .int .i64 hi, .int .i64 (n : Int), .int .i64 (f : Int), .slice A1 N c1, .slice A2 l2 c2, .slice A3 l3 c3], hv.below a1⟩
  have k0 : w1.cell? ⟨w.heap.size, 0, none⟩ = some (.int .i64 t) := hP.box.cell 0
  have k1 : w1.cell? ⟨w.heap.size, 1, none⟩ = some (.int .i64 c) := hP.box.cell 1
  have k2 : w1.cell? ⟨w.heap.size, 2, none⟩ = some (.int .i64 lo) := hP.box.cell 2
  have k3 : w1.cell? ⟨w.heap.size, 3, none⟩ = some (.int .i64 hi) := hP.box.cell 3
  have k4 : w1.cell? ⟨w.heap.size, 4, none⟩ = some (.int .i64 (n : Int)) := hP.box.cell 4
  have k5 : w1.cell? ⟨w.heap.size, 5, none⟩ = some (.int .i64 (f : Int)) := hP.box.cell 5
  have k6 : w1.cell? ⟨w.heap.size, 6, none⟩ = some (Value.slice A1 N c1) := hP.box.cell 6
  have k7 : w1.cell? ⟨w.heap.size, 7, none⟩ = some (Value.slice A2 l2 c2) := hP.box.cell 7
  have k8 : w1.cell? ⟨w.heap.size, 8, none⟩ = some (Value.slice A3 l3 c3) := hP.box.cell 8
  have hc := hcm w1 a1
  have hbl : w.heap.size < w1.heap.size := hP.box.lt
  have hNs : N ≤ 2000 := by have := hC.small; have := hC.fits; omega
  have HP := Lib.hid hP
  have HA1 := Lib.hid a1
  have HN := Lib.hid hN
  have HW := Lib.hid hw1
  have HCM := Lib.hid hc
  clear hcm hc hP hv hC hN a1 hw1 ht1 ht2 hc1 hc2 hlh
  unfold pfV at HCM ⊢
  obtain ⟨i0, hi0, hz0, hz1, hz2⟩ := info_row
  go_enter Tryz.func16, Tryz.ntmps16
  go_wp2_with fail
  rw [← HW.out]
  refine (HCM.out).mono ?_
  rintro e w2 ⟨rfl, b2⟩
  have P2 := HP.out.later b2
  have k6 : w2.cell? ⟨w.heap.size, 6, none⟩ = some (Value.slice A1 N c1) := P2.box.cell 6
  have HB2 := Lib.hid b2
  clear b2 P2
  go_wp2_with fail
  go_loopw [4, 14] (fun sv iv wr => ∃ v, v = sv ∧ ∃ k : Nat, k ≤ N ∧ iv = .int .i64 k ∧ Hid (Below w1.heap.size w1 wr ∧ wr.ownsRow w1.heap.size 67 5 v ((xs.take k).filter (inQ c lo hi)).length (((xs.take k).filter (inQ c lo hi)).flatMap rwC))) (fun _ iv _ => N - (intOf iv).toNat)
  case atStart => exact ⟨_, rfl, 0, by omega, rfl, Lib.hid ⟨HB2.out, World.ownsRow_nil _ _ _ _⟩⟩
  case round =>
    clear k6
    obtain ⟨v, rfl, k, hk, rfl, HR⟩ := hrel
    have zr := HP.out.later HR.out.1
    by_cases h1 : k < N
    · obtain ⟨x, hx⟩ : ∃ x, xs[k]? = some x := ⟨_, List.getElem?_eq_getElem (by rw [← HN.out]; exact h1)⟩
      obtain ⟨gr, ro, rc, hrv, -, hgr, r0, r1, r2, r3, r4⟩ := zr.rows.at_ hx
      injection hrv with er1 er2 er3
      subst er1 er3
      clear er2
      have hft := filt_take (q := inQ c lo hi) hx
      have hval := fun W => value_below x c W
      have hqx : inQ c lo hi x = (decide (lo ≤ x.val c) && decide (x.val c ≤ hi)) := rfl
      have hone := rwC_one [x]
      have hfc : [x].flatMap rwC = rwC x := by simp
      rw [hfc] at hone
      have hl0 : ((xs.take k).filter (inQ c lo hi)).length ≤ 2000 := by
        have h1 := List.length_filter_le (inQ c lo hi) (xs.take k)
        rw [List.length_take] at h1
        omega
      obtain ⟨dn, hdn⟩ : ∃ dn, dn = (xs.take k).filter (inQ c lo hi) := ⟨_, rfl⟩
      rw [← hdn] at hft hl0 HR
      rw [hqx] at hft
      generalize x.val c = u at *
      have a2 := Below.alloc1 wr (.cells (rwC x).toArray 67)
      have Kx := BlkIs.new wr 67 (rwC x).toArray
      obtain ⟨xt, xk, x0, x1, x2⟩ := x
      unfold rwV at hval
      unfold rwC at a2 Kx hone
      dsimp only at hval a2 Kx hone r0 r1 r2 r3 r4
      obtain ⟨w3, hw3⟩ : ∃ W, W = wr.alloc (.cells #[.int .i64 xt, .int .i64 xk, .int .i64 x0, .int .i64 x1, .int .i64 x2] 67) := ⟨_, rfl⟩
      rw [← hw3] at a2 Kx
      have q0 : (0 : Int) ≤ (k : Int) := by omega
      have q1 : (k : Int) < (N : Int) := by omega
      have t1 : decide (k < N) = true := by simpa using h1
      have HFT := Lib.hid hft
      have HVAL := Lib.hid hval
      have HONE := Lib.hid hone
      have HA := Lib.hid (And.intro a2 Kx)
      have HW3 := Lib.hid hw3
      have k1 : w3.cell? ⟨w.heap.size, 1, none⟩ = some (.int .i64 c) := (zr.later a2).box.cell 1
      have s0 : w3.cell? ⟨wr.heap.size, 0, none⟩ = some (.int .i64 xt) := Kx.cell 0
      have s1 : w3.cell? ⟨wr.heap.size, 1, none⟩ = some (.int .i64 xk) := Kx.cell 1
      have s2 : w3.cell? ⟨wr.heap.size, 2, none⟩ = some (.int .i64 x0) := Kx.cell 2
      have s3 : w3.cell? ⟨wr.heap.size, 3, none⟩ = some (.int .i64 x1) := Kx.cell 3
      have s4 : w3.cell? ⟨wr.heap.size, 4, none⟩ = some (.int .i64 x2) := Kx.cell 4
      rw [hw3] at k1
      clear hft hval hone hqx hfc hdn a2 Kx hw3 zr hx
      go_wp2_with fail
      rw [← HW3.out]
      refine (HVAL.out w3).mono ?_
      rintro e w4 ⟨rfl, b4⟩
      have b24 := Below.next HA.out.1 b4
      have Z4 := Below.next HR.out.1 b24
      have P4 := HP.out.later Z4
      have k2 : w4.cell? ⟨w.heap.size, 2, none⟩ = some (.int .i64 lo) := P4.box.cell 2
      have k3 : w4.cell? ⟨w.heap.size, 3, none⟩ = some (.int .i64 hi) := P4.box.cell 3
      have K4 := HA.out.2.later b4
      have s0 : w4.cell? ⟨wr.heap.size, 0, none⟩ = some (.int .i64 xt) := K4.cell 0
      have s1 : w4.cell? ⟨wr.heap.size, 1, none⟩ = some (.int .i64 xk) := K4.cell 1
      have s2 : w4.cell? ⟨wr.heap.size, 2, none⟩ = some (.int .i64 x0) := K4.cell 2
      have s3 : w4.cell? ⟨wr.heap.size, 3, none⟩ = some (.int .i64 x1) := K4.cell 3
      have s4 : w4.cell? ⟨wr.heap.size, 4, none⟩ = some (.int .i64 x2) := K4.cell 4
      have hown4 := ownsRow_later b24 HR.out.2
      have hcells : ∀ (j : Nat) u, [Value.int .i64 xt, .int .i64 xk, .int .i64 x0, .int .i64 x1, .int .i64 x2][j]? = some u → (w4.alloc (.cells #[.int .i64 xt, .int .i64 xk, .int .i64 x0, .int .i64 x1, .int .i64 x2] 67)).cell? ((⟨w4.heap.size, 0, none⟩ : Addr).add j) = some u := fun j u hu => by
        rw [add_zero_off, (BlkIs.new w4 67 _).cell]
        exact hu
      have HOW := Lib.hid hown4
      have HCE := Lib.hid hcells
      have HZ4 := Lib.hid Z4
      have hsz := Z4.size
      clear b4 b24 P4 K4 hown4 hcells HA Z4 HW3
      have hfin : (decide (lo ≤ u) && decide (u ≤ hi)) = false → Hid (Below w1.heap.size w1 w4 ∧ w4.ownsRow w1.heap.size 67 5 v ((xs.take (k + 1)).filter (inQ c lo hi)).length (((xs.take (k + 1)).filter (inQ c lo hi)).flatMap rwC)) := fun h => by
        have h2 := HFT.out
        rw [h] at h2
        simp only [Bool.false_eq_true, if_false, List.append_nil] at h2
        rw [h2]
        exact Lib.hid ⟨HZ4.out, HOW.out⟩
      by_cases d1 : lo ≤ u
      · have t2 : decide (lo ≤ u) = true := by simpa using d1
        by_cases d2 : u ≤ hi
        · have t3 : decide (u ≤ hi) = true := by simpa using d2
          clear hfin
          go_wp2_with (at_builtin; refine wpList_append_own _ rfl _ _ 48 rfl w1.heap.size 67 i0 _ 5 40 Tryz.underlying48 hi0 hz0 hz1 hz2 rfl (by decide) v dn.length (dn.flatMap rwC) rfl (HOW.out.alloc _) ⟨w4.heap.size, 0, none⟩ 1 1 [.int .i64 xt, .int .i64 xk, .int .i64 x0, .int .i64 x1, .int .i64 x2] rfl rfl HCE.out HONE.out (by unfold maxLen; omega) (by omega) (by rw [World.size_alloc]; omega) ?_; intro v7 w7 own7 g7 _)
          have hg : w4.grownBy w7 v.ownBlock := (World.grownBy_alloc w4 _ v.ownBlock).trans g7
          have h2 := HFT.out
          rw [t2, t3] at h2
          simp only [Bool.and_self, if_true] at h2
          have hown7 : w7.ownsRow w1.heap.size 67 5 v7 ((xs.take (k + 1)).filter (inQ c lo hi)).length (((xs.take (k + 1)).filter (inQ c lo hi)).flatMap rwC) := by
            rw [h2, List.length_append, List.flatMap_append]
            exact own7
          have Z7 : Below w1.heap.size w1 w7 := Below.grown HZ4.out hg hsz (fun k e => own_ge HOW.out e)
          exact ⟨⟨v7, rfl, k + 1, by omega, by go_num, Lib.hid ⟨Z7, hown7⟩⟩, by simp [intOf]; omega⟩
        · have t3 : decide (u ≤ hi) = false := by simpa using d2
          have hf := hfin (by rw [t3, Bool.and_false])
          clear hfin
          go_wp2_with fail
          exact ⟨⟨v, rfl, k + 1, by omega, by go_num, hf⟩, by simp [intOf]; omega⟩
      · have t2 : decide (lo ≤ u) = false := by simpa using d1
        have hf := hfin (by rw [t2, Bool.false_and])
        clear hfin
        go_wp2_with fail
        exact ⟨⟨v, rfl, k + 1, by omega, by go_num, hf⟩, by simp [intOf]; omega⟩
    · have t1 : decide (k < N) = false := by simpa using h1
      have hall : xs.take k = xs := List.take_of_length_le (by rw [← HN.out]; omega)
      rw [hall] at HR
      clear hall zr
      go_wp2_with fail
      go_returns
      exact ⟨_, rfl, ownsRow_mono HR.out.2 HA1.out.size, Below.next HA1.out HR.out.1⟩
end Go.Proofs.YtgbemgndbemllaaGreatDoor
end

