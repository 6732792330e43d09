/- Verify. -/
import Derived.Test.YtednkommpmdikaaDoorSides
import Derived.StillTailTactics
namespace Go.Proofs.YtednkommpmdikaaDoor
open Go Go.RowKit
attribute [local go_sem] Oper.semAt_some

/-- what Verify answers -/
def verB (root : List UInt8) (n i : Int) (s : List UInt8) (p : List (List UInt8)) : Bool :=
  decide (0 ≤ i ∧ i < n) && (p.all fun x => decide (x.length = 32)) && (valR s p.reverse n.toNat i.toNat == some root)

theorem ver_no (root s : ByteArray) (n i : Int) (v : Value) (p : List (List UInt8)) (w : World) (hi : i < 0 ∨ n ≤ i) :
    Calls Tryd.prog 21 #[.string root, .int .i64 n, .int .i64 i, .string s, v] w fun e w' => e = .returned (.bool (verB root.data.toList n i s.data.toList p)) ∧ w = w' := by
  have hr : verB root.data.toList n i s.data.toList p = false := by
    unfold verB
    rw [decide_eq_false (by omega)]
    rfl
  rw [hr]
  clear hr
  by_cases h : i < 0
  · have t0 : decide (i < 0) = true := by simp; omega
    go_enter Tryd.func21, Tryd.ntmps21
    go_wp2_with fail
    go_ret
    exact ⟨rfl, rfl⟩
  · have t0 : decide (i < 0) = false := by simp; omega
    have t1 : decide (n ≤ i) = true := by simp; omega
    go_enter Tryd.func21, Tryd.ntmps21
    go_wp2_with fail
    go_ret
    exact ⟨rfl, rfl⟩

theorem ver_odd (root s : ByteArray) (n i : Nat) (v : Value) (p : List (List UInt8)) (w : World) (hv : ListAt w v p) (hi : i < n) (hp : (p.all fun x => decide (x.length = 32)) = false) :
    Calls Tryd.prog 21 #[.string root, .int .i64 n, .int .i64 i, .string s, v] w fun e w' => e = .returned (.bool (verB root.data.toList n i s.data.toList p)) ∧ Below w.heap.size w w' := by
  have hr : verB root.data.toList n i s.data.toList p = false := by
    unfold verB
    rw [hp, Bool.and_false, Bool.false_and]
  rw [hr]
  have hall := all_list v p w hv
  rw [hp] at hall
  have t0 : decide ((i : Int) < 0) = false := by simp
  have t1 : decide (n ≤ i) = false := by simp; omega
  clear hr hp
  go_enter Tryd.func21, Tryd.ntmps21
  go_wp2_with fail
  refine hall.mono ?_
  rintro e w1 ⟨rfl, q, rfl⟩
  go_wp2_with fail
  go_ret
  exact ⟨rfl, below_drewN' (Below.refl _ _) q⟩

theorem valR_end (s root : List UInt8) (q : List (List UInt8)) (N I : Nat) (way : List (List UInt8 × Bool)) (h1 : N ≤ 1) :
    ((valR s q.reverse N I).map (foldW way) == some root) = (decide (q = []) && decide (foldW way (leafL s) = root)) := by
  rcases List.eq_nil_or_concat q with rfl | ⟨r, x, rfl⟩
  · simp only [List.reverse_nil, valR, if_pos h1, decide_true, Bool.true_and]
    rw [Bool.eq_iff_iff]
    simp
  · rw [List.concat_eq_append, List.reverse_append, List.reverse_singleton, List.singleton_append]
    simp only [valR]
    rw [if_pos h1, decide_eq_false (by simp)]
    rfl
theorem way_step {a b c : Option (List UInt8)} {way : List (List UInt8 × Bool)} {y : List UInt8 × Bool} (h1 : a = b.map (foldW way)) (h2 : b = c.map (stepL y)) : a = c.map (foldW (way ++ [y])) := by
  rw [h1, h2, Option.map_map]
  congr 1
  funext v
  exact (foldW_snoc way y v).symm
theorem BlkIs.put {w : World} {g L : Nat} {t : TypeId} {cs : List Value} (h : BlkIs w g t cs) (o : Obj) (hn : g ≠ L) : BlkIs (w.putObj L o) g t cs := (World.putObj_heap_other hn).trans h

set_option maxRecDepth 100000 in
set_option maxHeartbeats 4000000 in
theorem ver_ok (root s : ByteArray) (n i : Nat) (v : Value) (p : List (List UInt8)) (w : World) (hv : ListAt w v p) (hi : i < n) (hn : n ≤ 9223372036854775807) (hpl : p.length ≤ 100) (hp : (p.all fun x => decide (x.length = 32)) = true)
    (hs : s.size ≤ 900000) (hR : RoundOk w) :
    Calls Tryd.prog 21 #[.string root, .int .i64 n, .int .i64 i, .string s, v] w fun e w' => e = .returned (.bool (verB root.data.toList n i s.data.toList p)) ∧ Below w.heap.size w w' := by
  obtain ⟨i0, hi0, hz0, hz1, hz2⟩ := info_side
  obtain ⟨B, hB⟩ : ∃ B, B = verB root.data.toList n i s.data.toList p := ⟨_, rfl⟩
  rw [← hB]
  have hr : ∀ b, (valR s.data.toList p.reverse n i == some root.data.toList) = b → B = b := by
    rintro b rfl
    rw [hB]
    unfold verB
    rw [hp, decide_eq_true (by omega)]
    rfl
  have HR := Lib.hid hr
  have hall := all_list v p w hv
  rw [hp] at hall
  have hp32 : ∀ x ∈ p, x.length = 32 := by
    intro x hx
    rw [List.all_eq_true] at hp
    have := hp x hx
    simpa using this
  have HP := Lib.hid hp32
  have t0 : decide ((i : Int) < 0) = false := by simp
  have t1 : decide (n ≤ i) = false := by simp; omega
  clear hr hp hp32 hB
  refine (callsIn_wide (n := 3)).1 ?_
  refine callsIn_of_wp_marks Tryd.func21 rfl trivial ?_ rfl
  simp only [Tryd.ntmps21, List.size_toArray, List.length_cons, List.length_nil, Nat.reduceAdd, Nat.reduceSub, Array.replicate_succ, Array.replicate_zero, List.push_toArray, List.append_toArray, List.nil_append, List.cons_append]
  refine wpIn_wide.2 ?_
  go_upto_region 1 with fail
  go_wp2_with fail
  refine hall.mono ?_
  rintro e w1 ⟨rfl, q, rfl⟩
  clear hall t1
  have hb1 : Below w.heap.size w (w.drewN q) := below_drewN' (Below.refl _ _) q
  generalize w.drewN q = w0 at *
  go_wp2_with fail
  go_loopw [1, 2, 4, 11] (fun nv iv pv wv wr => ∃ (N I : Nat) (q : List (List UInt8)) (way : List (List UInt8 × Bool)), nv = .int .i64 N ∧ iv = .int .i64 I ∧ I < N ∧ N ≤ n ∧ ListAt w pv q ∧ (∀ x ∈ q, x.length = 32) ∧ (∀ x ∈ way, x.1.length = 32) ∧ q.length + way.length = p.length ∧
      Hid (valR s.data.toList p.reverse n i = (valR s.data.toList q.reverse N I).map (foldW way)) ∧ SidesAt wr w.heap.size wv way ∧ Below w.heap.size w wr) (fun _ _ pv _ _ => lenOf pv)
  case atStart => exact ⟨n, i, p, [], rfl, rfl, hi, Nat.le_refl _, hv, HP.out, by simp, by simp, Lib.hid (by have : foldW [] = id := rfl; rw [this]; simp), World.ownsRow_nil _ _ _ 2, hb1⟩
  case round =>
    obtain ⟨N, I, q, way, rfl, rfl, hI, hN, hq, hq32, hw32, hql, HV, hsd, hb⟩ := hrel
    by_cases h1 : N ≤ 1
    · have t2 : decide ((1 : Int) < (N : Int)) = false := by simp; omega
      have hval : B = (decide (q = []) && decide (foldW way (leafL s.data.toList) = root.data.toList)) := by
        apply HR.out
        rw [HV.out]
        exact valR_end _ _ _ _ _ _ h1
      have HVAL := Lib.hid hval
      obtain ⟨qa, qc, rfl⟩ := hq.len
      obtain ⟨ad, gs, cp, rfl, hadg, hcp, hcm, hcs⟩ := hsd.parts
      unfold maxLen at hcm
      have HCS := Lib.hid hcs
      clear hval hcs
      go_wp2_with fail
      refine (leaf_ok s wr hs (hR.later hb)).mono ?_
      rintro e w2 ⟨rfl, b2⟩
      have hb2 := Below.next hb b2
      go_wp2_with fail
      refine (backS_ok ad way.length cp _).mono ?_
      rintro e w6 ⟨rfl, rfl⟩
      go_wp2_with fail
      refine (wpIn_wide (n := 3)).1 ?_
      obtain ⟨lf, hlf⟩ : ∃ lf, lf = leafL s.data.toList := ⟨_, rfl⟩
      rw [← hlf]
      have hlf32 : lf.length = 32 := by rw [hlf]; rfl
      have HLF := Lib.hid hlf
      clear hlf
      refine rangeFunc_raw rfl (by omega) (gf := 56) (lb := #[.pointer (some ⟨w2.heap.size + 1, 0, none⟩)]) rfl trivial (enters_of Tryd.func56 (by kernel_rfl) rfl) ?_
      intro fn hfn rec D L W1 hrec hD hL hW1
      have hs1 : W1.heap.size = w2.heap.size + 4 := by rw [hW1]; simp
      have hD2 : D = w2.heap.size + 2 := by rw [hD]; simp
      have hL2 : L = w2.heap.size + 3 := by omega
      have bw1 : Below w2.heap.size w2 W1 := by
        rw [hW1]
        exact ((((Below.refl _ w2).alloc (Nat.le_refl _) _).alloc (by simp) _).alloc (by simp; omega) _).alloc (by simp; omega) _
      have x1 : BlkIs W1 w2.heap.size 9 [.string (str lf)] := by rw [hW1]; exact (((BlkIs.new w2 _ _).alloc _).alloc _).alloc _
      have x2 : BlkIs W1 (w2.heap.size + 1) 54 [.slice ad way.length cp] := by
        have h := BlkIs.new (w2.alloc (.cells #[.string (str lf)] 9)) 54 #[.slice ad way.length cp]
        rw [World.size_alloc] at h
        rw [hW1]; exact (h.alloc _).alloc _
      have lL : W1.heap[L]? = some (.loop (rec .ready none)) := by rw [hW1]; exact alloc_new_at _ _ _ (by rw [hL2]; simp)
      have dD : W1.heap[D]? = some (.deferred (some [])) := by
        rw [hW1]
        exact (Below.heap_alloc _ _ _ (by rw [hD2]; simp)).trans (alloc_new_at _ _ _ (by rw [hD2]; simp))
      have bel1 : Below w.heap.size w W1 := Below.next hb2 bw1
      have j0 : LoopJ W1 (rec .ready none) w2.heap.size L 9 [.string (str (accS way lf 0))] W1 := ⟨lL, x1, rfl, rfl, rfl, Nat.le_refl _, fun _ _ _ _ => rfl⟩
      have HREC := Lib.hid hrec
      clear hrec hW1 hD hL
      have b2s := b2.size
      refine (backS1_in (3 - 1) (by omega) L (w2.heap.size + 1) gs way.length cp ad (fun h => (hadg h).1) (way.map fun x => (str x.1, x.2)) (by simp) hcp (by omega) (fun k W => LoopJ W1 (rec .ready none) w2.heap.size L 9 [.string (str (accS way lf k))] W) ?hbox ?hY W1 j0).mono ?hend
      case hbox =>
        intro k W hJ
        refine ⟨hJ.cell (x2.cell 0) (by simp) (by simp; omega), fun j x hx => ?_⟩
        rw [List.getElem?_map] at hx
        cases hy : way[j]? with
        | none => rw [hy] at hx; cases hx
        | some y =>
          rw [hy] at hx
          cases hx
          obtain ⟨h1, h2⟩ := HCS.out j y hy
          have hgl := (hadg (by have := (List.getElem?_eq_some_iff.1 hy).1; omega)).2
          have hb12 := b2.trans (bw1.mono b2s)
          exact ⟨hJ.cell (a := ⟨gs, j * 2, none⟩) ((hb12.cell (p := ⟨gs, j * 2, none⟩) hgl).trans h1) (by simp; omega) (by simp; omega), hJ.cell (a := ⟨gs, j * 2 + 1, none⟩) ((hb12.cell (p := ⟨gs, j * 2 + 1, none⟩) hgl).trans h2) (by simp; omega) (by simp; omega)⟩
      case hY =>
        intro k i W y hik hy hJ
        rw [List.getElem?_map] at hy
        obtain ⟨x, hx, rfl⟩ : ∃ x, way[i]? = some x ∧ y = (str x.1, x.2) := by
          cases hw : way[i]? with
          | none => rw [hw] at hy; cases hy
          | some x => rw [hw] at hy; cases hy; exact ⟨x, rfl, rfl⟩
        refine yield_raw hfn HREC.out hJ.rl rfl ?_
        have hLh : w2.heap.size ≠ L := by omega
        have hacc := accS_succ way lf k i x hik hx
        have hxz : x.1.length = 32 := hw32 x (List.mem_of_getElem? hx)
        have haz := accS_length way lf k hlf32
        have HAC := Lib.hid hacc
        have hLw : w.heap.size ≤ L := by have := hb2.size; omega
        clear hs1 hD2 hL2 hacc hx hy hik
        simp only [List.zip_toArray, List.zip_cons_cons, List.zip_nil_right, List.foldl_toArray', List.foldl_cons, List.foldl_nil, List.setIfInBounds_toArray, List.set]
        gi_wp2
        have hwlt : W.heap.size ≠ L := by have := cellsBlock_size hJ.rl; omega
        have hJa : LoopJ W1 (rec .ready none) w2.heap.size L 9 [.string (str (accS way lf k))] (W.alloc (.cells #[.string (str x.1), .bool x.2] 58)) := hJ.under hLh ((Below.refl _ _).alloc (Nat.le_refl _) _)
        have hxb := BlkIs.new W 58 #[.string (str x.1), .bool x.2]
        refine ⟨hJa.rl, ?_⟩
        have hJ2 := hJa.busy (r1 := rec .busy none) hLh
        have hxb2 := hxb.put (.loop (rec .busy none)) hwlt
        have hR2 := hR.later (hJ2.below bel1 hb2.size hLw)
        have cb := hJ2.blk.cell 0
        have cx0 := hxb2.cell 0
        have cx1 := hxb2.cell 1
        dsimp only [List.getElem?_cons_zero, List.getElem?_cons_succ] at cb cx0 cx1
        clear hxb hxb2 hJa
        generalize (W.alloc (.cells #[.string (str x.1), .bool x.2] 58)).putObj L (.loop (rec .busy none)) = W2 at *
        gi_wp2
        refine ⟨trivial, ?_⟩
        refine (CallsIn.inRound L (callsIn_wide.2 (join_ok (str x.1) (str (accS way lf k)) x.2 W2 (by rw [size_mk, size_mk, hxz, haz]; decide) hR2))).mono ?_
        rintro e W3 ⟨rfl, b3⟩
        have hJ3 := hJ2.under hLh b3
        have ej : joinL ((str x.1).data.toList, x.2) (str (accS way lf k)).data.toList = accS way lf (k + 1) := by
          rw [mk_toList, mk_toList]; exact HAC.out.symm
        rw [ej]
        clear ej
        have c3 := hJ3.blk.cell 0
        dsimp only [List.getElem?_cons_zero] at c3
        have f3 := hJ3.blk.frozen 0
        gi_wp2
        have hn := hJ3.blk.set 0 (.string (str (accS way lf (k + 1))))
        have hJ4 := hJ3.step hLh (Upd.setCell _ 0 W3 _) hn
        exact roundPost_normal HREC.out hJ4.rl ⟨rfl, hJ4.busy hLh⟩
      case hend =>
        rintro e W2 ⟨⟨v, rfl⟩, hJ⟩
        refine ⟨⟨v, rfl⟩, .ready, none, (fun h => by cases h), hJ.rl, ?_⟩
        have hLh : w2.heap.size ≠ L := by omega
        have hJ4 := hJ.busy (r1 := rec .exhausted none) hLh
        have hbel4 := hJ4.below bel1 hb2.size (by have := hb2.size; omega)
        have hdd : (W2.putObj L (.loop (rec .exhausted none))).heap[D]? = some (.deferred (some [])) := (hJ4.block D (by omega) (by omega) (by omega)).trans dD
        have cb := hJ4.blk.cell 0
        dsimp only [List.getElem?_cons_zero] at cb
        rw [accS_all] at cb
        have hDw : w.heap.size ≤ D := by have := hb2.size; omega
        clear hJ hs1 hD2 hL2
        generalize W2.putObj L (.loop (rec .exhausted none)) = W4 at *
        have hfr := hJ4.blk.frozen 0
        simp only [rfAct]
        rcases List.eq_nil_or_concat q with hq0 | ⟨r, z, hq0⟩
        · have t3 : ((q.length : Int) == 0) = true := by rw [hq0]; rfl
          have hv2 := HVAL.out
          rw [decide_eq_true hq0, Bool.true_and, ← HLF.out] at hv2
          have HV2 := Lib.hid hv2
          clear hv2 hq0
          have ef : (foldW way lf == root.toList) = B := by
            rw [HV2.out, Lib.toList_data, Bool.eq_iff_iff]; simp
          have HEF := Lib.hid ef
          clear ef
          go_wp2_with fail
          refine ⟨by simp, .inl ⟨_, _, rfl, run_takeDeferred hdd, ?_⟩⟩
          refine ⟨_, results_tmp (t := 10) rfl _ _ _, ?_⟩
          exact ⟨congrArg (fun b => Ending.returned (Value.bool b)) HEF.out, below_putObj hbel4 _ hDw hbel4.size⟩
        · have t3 : ((q.length : Int) == 0) = false := by rw [hq0]; simp; omega
          have hv2 := HVAL.out
          rw [decide_eq_false (by rw [hq0]; simp), Bool.false_and] at hv2
          have HV2 := Lib.hid hv2
          clear hv2 hq0
          go_wp2_with fail
          refine ⟨by simp, .inl ⟨_, _, rfl, run_takeDeferred hdd, ?_⟩⟩
          refine ⟨_, results_tmp (t := 10) rfl _ _ _, ?_⟩
          exact ⟨(congrArg (fun b => Ending.returned (Value.bool b)) HV2.out).symm, below_putObj hbel4 _ hDw hbel4.size⟩
    · have t2 : decide ((1 : Int) < (N : Int)) = true := by simp; omega
      have hnn : 2 ≤ N := by omega
      clear h1
      rcases List.eq_nil_or_concat q with rfl | ⟨r, x, rfl⟩
      · obtain ⟨A, c, rfl⟩ := hq.nil
        have hval : B = false := by
          apply HR.out
          rw [HV.out]
          simp only [List.reverse_nil, valR]
          rw [if_neg (by omega)]
          rfl
        have HVAL := Lib.hid hval
        clear hval
        go_wp2_with fail
        refine (take_none _ _ _).mono ?_
        rintro e w2 ⟨rfl, rfl⟩
        go_wp2_with fail
        exact ⟨_, results_tmp (t := 10) rfl _ _ _, (congrArg (fun b => Ending.returned (Value.bool b)) HVAL.out).symm, hb⟩
      · rw [List.concat_eq_append] at *
        obtain ⟨g, o, c, rfl, hc, hg, hx, hq'⟩ := hq.last
        have hval : valR s.data.toList (r ++ [x]).reverse N I = (valR s.data.toList r.reverse (if leftN N ≤ I then N - leftN N else leftN N) (if leftN N ≤ I then I - leftN N else I)).map (stepL (x, decide (leftN N ≤ I))) := by
          rw [List.reverse_append, List.reverse_singleton, List.singleton_append]
          simp only [valR]
          rw [if_neg (by omega)]
        have HVAL := Lib.hid hval
        have hx2 := (hb.cell (p := ⟨g, o + r.length, none⟩) hg).trans hx
        have hlq : (r ++ [x]).length = r.length + 1 := by simp
        have hrl : r.length ≤ 99 := by omega
        have hwl : way.length ≤ 100 := by omega
        have htake := take_ok g o r.length c (str x) wr hc (by omega) hx2
        obtain ⟨k, hk⟩ : ∃ k, k = leftN N := ⟨_, rfl⟩
        have hkl := leftN_lt N hnn
        have hkp := leftN_pos N
        have hleft := left_ok N hnn (by omega)
        rw [← hk] at hkl hkp hleft
        have HK := Lib.hid hk
        have HLQ := Lib.hid hlq
        have HQL := Lib.hid hql
        clear hval hx hlq hk hx2 hql
        go_wp2_with fail
        refine htake.mono ?_
        rintro e w2 ⟨rfl, q2, rfl⟩
        have hb2 : Below w.heap.size w (wr.drewN q2) := below_drewN' hb q2
        have hsd2 : SidesAt (wr.drewN q2) w.heap.size u11 way := hsd
        clear htake hsd hb
        generalize wr.drewN q2 = w2 at *
        go_wp2_with fail
        refine (hleft _).mono ?_
        rintro e w3 ⟨rfl, rfl⟩
        have hle3 := hb2.size
        clear hleft
        by_cases hki : k ≤ I
        · have t3 : decide (k ≤ I) = true := by simp; omega
          go_wp2_with (at_builtin; refine wpList_append_own _ rfl _ _ 54 rfl w.heap.size 58 i0 (.agg #[.string ⟨#[]⟩, .bool false]) 2 24 Tryd.underlying54 hi0 hz0 hz1 hz2 rfl (by decide) u11 _ _ rfl (hsd2.alloc _) ⟨w3.heap.size, 0, none⟩ 1 1 [.string (str x), .bool true] rfl rfl (cells_new _ _ _) (by simp [Value.oneCell']) (by unfold maxLen; omega) (by omega) (by simp; omega) ?_; intro v5 w5 own5 g5 _)
          have hb5 := Below.appended hb2 hle3 hsd2 g5
          obtain ⟨N', hN'⟩ : ∃ N', N' = N - k := ⟨_, rfl⟩
          obtain ⟨I', hI'⟩ : ∃ I', I' = I - k := ⟨_, rfl⟩
          have e1 : (N : Int) - (k : Int) = (N' : Int) := by omega
          have e2 : (I : Int) - (k : Int) = (I' : Int) := by omega
          have hv1 := HVAL.out
          rw [← HK.out, if_pos hki, if_pos hki, decide_eq_true hki, ← hN', ← hI'] at hv1
          have HW := Lib.hid (way_step HV.out hv1)
          have n1 : I' < N' := by omega
          have n2 : N' ≤ n := by omega
          clear hv1 hN' hI'
          go_wp2_with fail
          exact ⟨⟨N', I', r, way ++ [(x, true)], (by first | rfl | exact congrArg _ e1), (by first | rfl | exact congrArg _ e2), n1, n2, hq', fun z hz => hq32 z (by simp [hz]), by
            intro z hz
            rcases List.mem_append.1 hz with hz | hz
            · exact hw32 z hz
            · rw [List.mem_singleton.1 hz]; exact hq32 x (by simp), by have h1 := HQL.out; rw [HLQ.out] at h1; rw [List.length_append, List.length_singleton]; omega, HW, by unfold SidesAt; rw [List.length_append, List.length_singleton, sideVals_snoc]; exact own5, hb5⟩, by simp [lenOf]⟩
        · have t3 : decide (k ≤ I) = false := by simp; omega
          go_wp2_with (at_builtin; refine wpList_append_own _ rfl _ _ 54 rfl w.heap.size 58 i0 (.agg #[.string ⟨#[]⟩, .bool false]) 2 24 Tryd.underlying54 hi0 hz0 hz1 hz2 rfl (by decide) u11 _ _ rfl (hsd2.alloc _) ⟨w3.heap.size, 0, none⟩ 1 1 [.string (str x), .bool false] rfl rfl (cells_new _ _ _) (by simp [Value.oneCell']) (by unfold maxLen; omega) (by omega) (by simp; omega) ?_; intro v5 w5 own5 g5 _)
          have hb5 := Below.appended hb2 hle3 hsd2 g5
          have hv1 := HVAL.out
          rw [← HK.out, if_neg hki, if_neg hki, decide_eq_false hki] at hv1
          have HW := Lib.hid (way_step HV.out hv1)
          have n1 : I < k := by omega
          have n2 : k ≤ n := by omega
          clear hv1
          go_wp2_with fail
          exact ⟨⟨k, I, r, way ++ [(x, false)], rfl, rfl, n1, n2, hq', fun z hz => hq32 z (by simp [hz]), by
            intro z hz
            rcases List.mem_append.1 hz with hz | hz
            · exact hw32 z hz
            · rw [List.mem_singleton.1 hz]; exact hq32 x (by simp), by have h1 := HQL.out; rw [HLQ.out] at h1; rw [List.length_append, List.length_singleton]; omega, HW, by unfold SidesAt; rw [List.length_append, List.length_singleton, sideVals_snoc]; exact own5, hb5⟩, by simp [lenOf]⟩
end Go.Proofs.YtednkommpmdikaaDoor
