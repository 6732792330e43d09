/- Joined: LogL LogM LwA LwB LwP LwD RcA LwE. -/
import Derived.Test.YtheebajklnljdaaGreatDoorGp
import Derived.Test.YtheebajklnljdaaGreatDoorGi
import Derived.Laws.StructEq
import Derived.Deep.DeepCutAuto
import Derived.Deep.CutBlock
import Derived.WalkLawsBesides
import Derived.Deep.QuietTactic
import Derived.BigQuiet
import Derived.Test.YtheebajklnljdaaGreatDoorGj

section
/- Append, both ways; two heads, two changes compared. -/
namespace Go.Proofs.YtheebajklnljdaaGreatDoor
open Go Go.RowKit

theorem append_ok {S : Nat → Prop} {b : Nat} {x : Lg} {w : World} (h : LogAt w S b x) (good : Good x) (hS : ∀ k, S k → k < w.heap.size) (p : Int) (A : Option Addr) (c : Nat) (l : List Chg) (st : List UInt8) (hv : ChgsAt w (.slice A l.length c) l) (hR : RoundOk w) :
    Calls Tryz.prog 12 #[.pointer (some ⟨b, 0, none⟩), recV p (.slice A l.length c), .string (str st)] w fun e w' => e = .returned (.int .i64 (appA x ⟨p, l⟩ st).2) ∧ LogAt w' (fun k => S k ∨ w.heap.size ≤ k) b (appA x ⟨p, l⟩ st).1 ∧ Only S w w' := by
  rcases appA_cases good ⟨p, l⟩ st with ⟨_, _, _, h4, h5⟩ | ⟨_, h4, h5⟩
  · rw [h5]
    exact append_yes h good p A c l st hv hR h4 hS
  · rw [h5]
    exact (append_no h good p A c l st hv hR h4).mono fun e w' ⟨he, hb⟩ => ⟨he, (h.below hb).mono fun k hk => .inl hk, .of_below hb⟩

noncomputable def fldHd (i : Nat) : Field := ((Tryz.prog.fieldsOf 46)[i]?).getD default
theorem run_eqHd (W : World) (a b : Hd) : (Op.equalIn 10000 46 (.agg #[.int .i64 a.pos, .string (str a.chain), .string (str a.state)]) (.agg #[.int .i64 b.pos, .string (str b.chain), .string (str b.state)])).run Tryz.prog W = .ok (decide (a = b)) W := by
  obtain ⟨a1, a2, a3⟩ := a
  obtain ⟨b1, b2, b3⟩ := b
  obtain ⟨i0, hi⟩ : ∃ i, Tryz.prog.info? 3 = some i := Option.isSome_iff_exists.1 (by kernel_rfl)
  obtain ⟨j0, hj⟩ : ∃ i, Tryz.prog.info? 9 = some i := Option.isSome_iff_exists.1 (by kernel_rfl)
  have hf : (Tryz.prog.fieldsOf 46).toList = [fldHd 0, fldHd 1, fldHd 2] := by kernel_rfl
  have n0 : ((fldHd 0).name == "_") = false := by kernel_rfl
  have n1 : ((fldHd 1).name == "_") = false := by kernel_rfl
  have n2 : ((fldHd 2).name == "_") = false := by kernel_rfl
  have t0 : (fldHd 0).type = 3 := by kernel_rfl
  have t1 : (fldHd 1).type = 9 := by kernel_rfl
  have t2 : (fldHd 2).type = 9 := by kernel_rfl
  have o0 : (fldHd 0).offset = 0 := by kernel_rfl
  have o1 : (fldHd 1).offset = 1 := by kernel_rfl
  have o2 : (fldHd 2).offset = 2 := by kernel_rfl
  have m0 : (fldHd 0).name ≠ "_" := by simpa using n0
  have m1 : (fldHd 1).name ≠ "_" := by simpa using n1
  have m2 : (fldHd 2).name ≠ "_" := by simpa using n2
  rw [run_equalIn_struct (w := W) 9999 _ _ _ (by kernel_rfl) (by kernel_rfl), hf]
  simp only [Op.eqFields, t0, t1, t2, o0, o1, o2, if_pos m0, if_pos m1, if_pos m2]
  simp [part, run_sizeOf, hi, hj, run_equalIn_int, run_equalIn_string, Tryz.underlying3, Tryz.underlying9, go_sem]
  by_cases h1 : a1 = b1 <;> by_cases h2 : a2 = b2 <;> by_cases h3 : a3 = b3 <;> simp [h1, h2, h3]

theorem run_eq3d (W : World) (d : Nat) (a b c x y z : Int) :
    (Op.equalIn (d + 2) 70 (.agg #[.int .i64 a, .int .i64 b, .int .i64 c]) (.agg #[.int .i64 x, .int .i64 y, .int .i64 z])).run Tryz.prog W = .ok (a == x && (b == y && c == z)) W := by
  obtain ⟨i0, hi⟩ : ∃ i, Tryz.prog.info? 3 = some i := Option.isSome_iff_exists.1 (by kernel_rfl)
  have hc : Tryz.prog.cellsOf 3 = 1 := by kernel_rfl
  have hr : List.range 3 = [0, 1, 2] := rfl
  rw [run_equalIn_array (w := W) (d + 1) _ _ Tryz.underlying70 hi, hc, hr]
  simp [Op.eqItems, part, run_sizeOf, hi, run_equalIn_int, Tryz.underlying3, go_sem]
  by_cases h1 : a = x <;> by_cases h2 : b = y <;> by_cases h3 : c = z <;> simp [h1, h2, h3]

noncomputable def fldChg (i : Nat) : Field := ((Tryz.prog.fieldsOf 72)[i]?).getD default
theorem run_eqChg (W : World) (a b : Chg) : (Op.equalIn 10000 72 (.agg #[.int .i64 a.table, .int .i64 a.key, .bool a.had, .int .i64 a.old.1, .int .i64 a.old.2.1, .int .i64 a.old.2.2, .bool a.has, .int .i64 a.new.1, .int .i64 a.new.2.1, .int .i64 a.new.2.2]) (.agg #[.int .i64 b.table, .int .i64 b.key, .bool b.had, .int .i64 b.old.1, .int .i64 b.old.2.1, .int .i64 b.old.2.2, .bool b.has, .int .i64 b.new.1, .int .i64 b.new.2.1, .int .i64 b.new.2.2])).run Tryz.prog W = .ok (decide (a = b)) W := by
  obtain ⟨a0, a1, a2, ⟨a3, a4, a5⟩, a6, ⟨a7, a8, a9⟩⟩ := a
  obtain ⟨b0, b1, b2, ⟨b3, b4, b5⟩, b6, ⟨b7, b8, b9⟩⟩ := b
  obtain ⟨i0, hi⟩ : ∃ i, Tryz.prog.info? 3 = some i := Option.isSome_iff_exists.1 (by kernel_rfl)
  obtain ⟨j0, hj⟩ : ∃ i, Tryz.prog.info? 4 = some i := Option.isSome_iff_exists.1 (by kernel_rfl)
  obtain ⟨k0, hk⟩ : ∃ i, Tryz.prog.info? 70 = some i := Option.isSome_iff_exists.1 (by kernel_rfl)
  have hc3 : Tryz.prog.cellsOf 70 = 3 := by kernel_rfl
  have hf : (Tryz.prog.fieldsOf 72).toList = [fldChg 0, fldChg 1, fldChg 2, fldChg 3, fldChg 4, fldChg 5] := by kernel_rfl
  have n0 : ((fldChg 0).name == "_") = false := by kernel_rfl
  have n1 : ((fldChg 1).name == "_") = false := by kernel_rfl
  have n2 : ((fldChg 2).name == "_") = false := by kernel_rfl
  have n3 : ((fldChg 3).name == "_") = false := by kernel_rfl
  have n4 : ((fldChg 4).name == "_") = false := by kernel_rfl
  have n5 : ((fldChg 5).name == "_") = false := by kernel_rfl
  have t0 : (fldChg 0).type = 3 := by kernel_rfl
  have t1 : (fldChg 1).type = 3 := by kernel_rfl
  have t2 : (fldChg 2).type = 4 := by kernel_rfl
  have t3 : (fldChg 3).type = 70 := by kernel_rfl
  have t4 : (fldChg 4).type = 4 := by kernel_rfl
  have t5 : (fldChg 5).type = 70 := by kernel_rfl
  have o0 : (fldChg 0).offset = 0 := by kernel_rfl
  have o1 : (fldChg 1).offset = 1 := by kernel_rfl
  have o2 : (fldChg 2).offset = 2 := by kernel_rfl
  have o3 : (fldChg 3).offset = 3 := by kernel_rfl
  have o4 : (fldChg 4).offset = 6 := by kernel_rfl
  have o5 : (fldChg 5).offset = 7 := by kernel_rfl
  have m0 : (fldChg 0).name ≠ "_" := by simpa using n0
  have m1 : (fldChg 1).name ≠ "_" := by simpa using n1
  have m2 : (fldChg 2).name ≠ "_" := by simpa using n2
  have m3 : (fldChg 3).name ≠ "_" := by simpa using n3
  have m4 : (fldChg 4).name ≠ "_" := by simpa using n4
  have m5 : (fldChg 5).name ≠ "_" := by simpa using n5
  have q := fun W => run_eq3d W 9997
  simp only [Nat.reduceAdd] at q
  rw [run_equalIn_struct (w := W) 9999 _ _ _ (by kernel_rfl) (by kernel_rfl), hf]
  simp only [Op.eqFields, t0, t1, t2, t3, t4, t5, o0, o1, o2, o3, o4, o5, if_pos m0, if_pos m1, if_pos m2, if_pos m3, if_pos m4, if_pos m5]
  simp [part, run_sizeOf, hi, hj, hk, hc3, run_equalIn_int, run_equalIn_bool, Tryz.underlying3, Tryz.underlying4, go_sem, q]
  by_cases h0 : a0 = b0 <;> by_cases h1 : a1 = b1 <;> by_cases h2 : a2 = b2 <;> simp [h0, h1, h2]
  by_cases h3 : a3 = b3 <;> by_cases h4 : a4 = b4 <;> by_cases h5 : a5 = b5 <;> simp [h3, h4, h5]
  by_cases h6 : a6 = b6 <;> simp [h6]
  by_cases h7 : a7 = b7 <;> by_cases h8 : a8 = b8 <;> by_cases h9 : a9 = b9 <;> simp [h7, h8, h9]
theorem guardChg : Tryz.prog.eqGuardType Tryz.prog.depth 72 = false := by kernel_rfl
theorem guardHd : Tryz.prog.eqGuardType Tryz.prog.depth 46 = false := by kernel_rfl
end Go.Proofs.YtheebajklnljdaaGreatDoor
end

section
/- Follows. -/
namespace Go.Proofs.YtheebajklnljdaaGreatDoor
open Go Go.RowKit
attribute [local go_sem] Oper.semAt_some

theorem RecsAt.at_ {w : World} {A : Option Addr} {c : Nat} {l : List Rec} (h : RecsAt w (.slice A l.length c) l) {k : Nat} {r : Rec} (hr : l[k]? = some r) :
    ∃ g o Av cc, A = some ⟨g, o, none⟩ ∧ g < w.heap.size ∧ l.length ≤ c ∧ w.cell? ⟨g, o + k * 2, none⟩ = some (.int .i64 r.pos) ∧ w.cell? ⟨g, o + k * 2 + 1, none⟩ = some (.slice Av r.chs.length cc) ∧ ChgsAt w (.slice Av r.chs.length cc) r.chs := by
  obtain ⟨A', c', e0, hc, hj⟩ := h
  injection e0 with e1 e2 e3
  subst e1 e3
  have hlt := (List.getElem?_eq_some_iff.1 hr).1
  obtain ⟨g, o, rfl, hg, hj⟩ := hj (by omega)
  obtain ⟨h1, cv, h2, h3⟩ := hj k r hr
  obtain ⟨Av, cc, rfl, _⟩ := id h3
  exact ⟨g, o, Av, cc, rfl, hg, hc, h1, h2, h3⟩

theorem walkA_cons (h : Hd) (r : Rec) (l : List Rec) (st : List UInt8) : walkA h (r :: l) st = if (nextA h r st).2 = 0 then walkA (nextA h r st).1 l st else none := rfl
theorem walkA_end (cur : Hd) (l : List Rec) (k : Nat) (st : List UInt8) (h : l.length ≤ k) : walkA cur (l.drop k) st = some cur := by
  rw [List.drop_eq_nil_of_le h]; rfl
theorem walkA_go {cur : Hd} {l : List Rec} {k : Nat} {st : List UInt8} {r : Rec} (hr : l[k]? = some r) (h : (nextA cur r st).2 = 0) : walkA cur (l.drop k) st = walkA (nextA cur r st).1 (l.drop (k + 1)) st := by
  obtain ⟨h2, h3⟩ := List.getElem?_eq_some_iff.1 hr
  rw [List.drop_eq_getElem_cons h2, h3]
  rw [walkA_cons, if_pos h]
theorem walkA_no {cur : Hd} {l : List Rec} {k : Nat} {st : List UInt8} {r : Rec} (hr : l[k]? = some r) (h : (nextA cur r st).2 ≠ 0) : walkA cur (l.drop k) st = none := by
  obtain ⟨h2, h3⟩ := List.getElem?_eq_some_iff.1 hr
  rw [List.drop_eq_getElem_cons h2, h3]
  rw [walkA_cons, if_neg h]

set_option maxRecDepth 100000 in
set_option maxHeartbeats 8000000 in
theorem follows_ok (a b : Hd) (A : Option Addr) (c : Nat) (l : List Rec) (w : World) (hv : RecsAt w (.slice A l.length c) l) (hl : l.length ≤ 1000000) (hR : RoundOk w) :
    Calls Tryz.prog 34 #[hdV a, .slice A l.length c, hdV b] w fun e w' => e = .returned (.bool (followsA a l b)) ∧ Below w.heap.size w w' := by
  obtain ⟨w0, hw0⟩ : ∃ W, W = (w.alloc (.cells #[.int .i64 a.pos, .string (str a.chain), .string (str a.state)] 46)).alloc (.cells #[.int .i64 b.pos, .string (str b.chain), .string (str b.state)] 46) := ⟨_, rfl⟩
  have hb0 : Below w.heap.size w w0 := by
    rw [hw0]; exact Below.alloc (Below.alloc (Below.refl w.heap.size w) (Nat.le_refl _) _) (by rw [World.size_alloc]; omega) _
  have ka : BlkIs w0 w.heap.size 46 (hdCells a) := by rw [hw0]; exact (BlkIs.new w _ _).alloc _
  have kb : BlkIs w0 (w.heap.size + 1) 46 (hdCells b) := by rw [hw0]; exact alloc_new_at _ _ _ (by rw [World.size_alloc])
  have hva := fun W => hvalid_ok a W
  have hvb := fun W => hvalid_ok b W
  obtain ⟨F, hF⟩ : ∃ F, F = followsA a l b := ⟨_, rfl⟩
  obtain ⟨V1, hV1⟩ : ∃ V, hdB a = V := ⟨_, rfl⟩
  obtain ⟨V2, hV2⟩ : ∃ V, hdB b = V := ⟨_, rfl⟩
  rw [← hF]
  unfold followsA at hF
  rw [hV1, hV2] at hF
  rw [hV1] at hva
  rw [hV2] at hvb
  have ROUND := Lib.hid (fun (W : World) (hW : Below w.heap.size w W) => hR.later hW)
  have HVA := Lib.hid hva
  have HVB := Lib.hid hvb
  have HF := Lib.hid hF
  have HV := Lib.hid hv
  have HW0 := Lib.hid hw0
  have HB0 := Lib.hid hb0
  have HKA := Lib.hid ka
  have HKB := Lib.hid kb
  clear hva hvb hF hv hw0 hb0 ka kb hR hV1 hV2
  unfold hdV at HVA HVB ⊢
  cases V1
  case' false =>
    go_enter Tryz.func34, Tryz.ntmps34
    go_wp2_with fail
    go_step3
    go_wp2_with fail
    rw [← HW0.out]
    refine (HVA.out _).mono ?_
    rintro e wl ⟨rfl, hbc⟩
    have hF2 : F = (false && decide (walkA a l b.state = some b)) := by have := HF.out; simpa using this
    obtain ⟨V, hV⟩ : ∃ V, V = false := ⟨_, rfl⟩
    rw [← hV] at hF2
    clear HF
    have HF := Lib.hid hF2
    have HVV := Lib.hid hV
    clear hF2 hV
    go_wp2_with fail
    go_step3
    go_wp2_with fail
  case' true =>
    go_enter Tryz.func34, Tryz.ntmps34
    go_wp2_with fail
    go_step3
    go_wp2_with fail
    rw [← HW0.out]
    refine (HVA.out _).mono ?_
    rintro e w1 ⟨rfl, b1⟩
    have kb1 := HKB.out.later b1
    have c0 : w1.cell? ⟨w.heap.size + 1, 0, none⟩ = some (.int .i64 b.pos) := kb1.cell 0
    have c1 : w1.cell? ⟨w.heap.size + 1, 1, none⟩ = some (.string (str b.chain)) := kb1.cell 1
    have c2 : w1.cell? ⟨w.heap.size + 1, 2, none⟩ = some (.string (str b.state)) := kb1.cell 2
    go_wp2_with fail
    refine (HVB.out _).mono ?_
    rintro e wl ⟨rfl, b2⟩
    have hbc := Below.next b1 b2
    clear b1 b2 kb1 c0 c1 c2
    have hF2 : F = (V2 && decide (walkA a l b.state = some b)) := by have := HF.out; simpa using this
    obtain ⟨V, hV⟩ : ∃ V, V = V2 := ⟨_, rfl⟩
    rw [← hV] at hF2
    clear HF
    have HF := Lib.hid hF2
    have HVV := Lib.hid hV
    clear hF2 hV
    go_wp2_with fail
    go_step3
    go_wp2_with fail
  all_goals
    clear HVA HVB
    go_loopw [7, 20] (fun okv iv wr => ∃ (k : Nat) (cur : Hd), k ≤ l.length ∧ iv = .int .i64 k ∧ okv = .bool V ∧ BlkIs wr w.heap.size 46 (hdCells cur) ∧ BlkIs wr (w.heap.size + 1) 46 (hdCells b) ∧ Hid (walkA a l b.state = walkA cur (l.drop k) b.state) ∧ Below w.heap.size w wr) (fun _ iv _ => l.length - (intOf iv).toNat)
    case atStart => exact ⟨0, a, by omega, rfl, by rw [HVV.out], HKA.out.later hbc, HKB.out.later hbc, Lib.hid (by rw [List.drop_zero]), Below.next HB0.out hbc⟩
    case round =>
      clear hbc HVV
      obtain ⟨k, cur, hk, rfl, rfl, hA, hB, HWK, hb⟩ := hrel
      have a0 : wr.cell? ⟨w.heap.size, 0, none⟩ = some (.int .i64 cur.pos) := hA.cell 0
      have a1 : wr.cell? ⟨w.heap.size, 1, none⟩ = some (.string (str cur.chain)) := hA.cell 1
      have a2 : wr.cell? ⟨w.heap.size, 2, none⟩ = some (.string (str cur.state)) := hA.cell 2
      have b0 : wr.cell? ⟨w.heap.size + 1, 0, none⟩ = some (.int .i64 b.pos) := hB.cell 0
      have b1 : wr.cell? ⟨w.heap.size + 1, 1, none⟩ = some (.string (str b.chain)) := hB.cell 1
      have b2 : wr.cell? ⟨w.heap.size + 1, 2, none⟩ = some (.string (str b.state)) := hB.cell 2
      by_cases h1 : k < l.length
      · have t1 : decide (k < l.length) = true := by simpa using h1
        obtain ⟨r, hr⟩ : ∃ r, l[k]? = some r := ⟨_, List.getElem?_eq_getElem h1⟩
        obtain ⟨g, o, Av, cc, rfl, hg, hc, r0, r1, hch⟩ := HV.out.at_ hr
        have s0 : wr.cell? ⟨g, o + k * 2, none⟩ = some (.int .i64 r.pos) := (hb.cell (p := ⟨g, o + k * 2, none⟩) hg).trans r0
        have s1 : wr.cell? ⟨g, o + k * 2 + 1, none⟩ = some (.slice Av r.chs.length cc) := (hb.cell (p := ⟨g, o + k * 2 + 1, none⟩) hg).trans r1
        have hbx := Below.alloc hb hb.size (.cells #[.int .i64 r.pos, .slice Av r.chs.length cc] 35)
        have hnx := next_ok cur r.pos Av cc r.chs b.state _ (hch.below hbx) (ROUND.out _ hbx)
        have a0x : (wr.alloc (.cells #[.int .i64 r.pos, .slice Av r.chs.length cc] 35)).cell? ⟨w.heap.size, 0, none⟩ = some (.int .i64 cur.pos) := cell_allocd a0
        have a1x : (wr.alloc (.cells #[.int .i64 r.pos, .slice Av r.chs.length cc] 35)).cell? ⟨w.heap.size, 1, none⟩ = some (.string (str cur.chain)) := cell_allocd a1
        have a2x : (wr.alloc (.cells #[.int .i64 r.pos, .slice Av r.chs.length cc] 35)).cell? ⟨w.heap.size, 2, none⟩ = some (.string (str cur.state)) := cell_allocd a2
        have b2x : (wr.alloc (.cells #[.int .i64 r.pos, .slice Av r.chs.length cc] 35)).cell? ⟨w.heap.size + 1, 2, none⟩ = some (.string (str b.state)) := cell_allocd b2
        have q0 : (0 : Int) ≤ (k : Int) := by omega
        have q1 : (k : Int) < (l.length : Int) := by omega
        have HBX := Lib.hid hbx
        by_cases h0 : (nextA cur r b.state).2 = 0
        · have hgo := walkA_go hr h0
          obtain ⟨y, hy⟩ : ∃ y, y = (nextA cur r b.state).1 := ⟨_, rfl⟩
          rw [show (⟨r.pos, r.chs⟩ : Rec) = r from rfl, h0, ← hy] at hnx
          rw [← hy] at hgo
          have HNX := Lib.hid hnx
          have hw2 := HWK.out.trans hgo
          have HW2 := Lib.hid hw2
          have hA1 := Lib.hid (hA.alloc (.cells #[.int .i64 r.pos, .slice Av r.chs.length cc] 35))
          have hB1 := Lib.hid (hB.alloc (.cells #[.int .i64 r.pos, .slice Av r.chs.length cc] 35))
          unfold hdV recV at HNX
          clear hnx hgo hy hr r0 r1 hch hbx h0 hw2 hA hB HWK hb
          go_wp2_with fail
          refine (HNX.out).mono ?_
          rintro e w4 ⟨rfl, b4⟩
          have hA4 := hA1.out.later b4
          have hB4 := hB1.out.later b4
          have hb4 := Below.next HBX.out b4
          have hA5 := hA4.alloc (.cells #[.int .i64 y.pos, .string (str y.chain), .string (str y.state)] 46)
          have hB5 := hB4.alloc (.cells #[.int .i64 y.pos, .string (str y.chain), .string (str y.state)] 46)
          have hb5 := Below.alloc hb4 hb4.size (.cells #[.int .i64 y.pos, .string (str y.chain), .string (str y.state)] 46)
          have d0 : (w4.alloc (.cells #[.int .i64 y.pos, .string (str y.chain), .string (str y.state)] 46)).cell? ⟨w.heap.size, 0, none⟩ = some (.int .i64 cur.pos) := hA5.cell 0
          have d1 : (w4.alloc (.cells #[.int .i64 y.pos, .string (str y.chain), .string (str y.state)] 46)).cell? ⟨w.heap.size, 1, none⟩ = some (.string (str cur.chain)) := hA5.cell 1
          have d2 : (w4.alloc (.cells #[.int .i64 y.pos, .string (str y.chain), .string (str y.state)] 46)).cell? ⟨w.heap.size, 2, none⟩ = some (.string (str cur.state)) := hA5.cell 2
          have f0 := hA5.frozen 0
          have f1 := hA5.frozen 1
          have f2 := hA5.frozen 2
          have hA6 := Lib.hid (((hA5.set 0 (.int .i64 y.pos)).set 1 (.string (str y.chain))).set 2 (.string (str y.state)))
          have hB6 := Lib.hid (((hB5.other (p := ⟨w.heap.size, 0, none⟩) (by simp) (.int .i64 y.pos)).other (p := ⟨w.heap.size, 1, none⟩) (by simp) (.string (str y.chain))).other (p := ⟨w.heap.size, 2, none⟩) (by simp) (.string (str y.state)))
          have hb6 := Lib.hid (below_set3 hb5 (Nat.le_refl w.heap.size) (x := .int .i64 y.pos) (y := .string (str y.chain)) (z := .string (str y.state)))
          clear b4 a0 a1 a2 b0 b1 b2 s0 s1 a0x a1x a2x b2x hA4 hB4 hb4 hA5 hB5 hb5
          go_wp2_with fail
          exact ⟨⟨k + 1, y, by omega, by go_num, rfl, hA6.out, hB6.out, HW2, hb6.out⟩, by simp [intOf]; omega⟩
        · have h90 : (nextA cur r b.state).2 = 90 ∧ (nextA cur r b.state).1 = hd0 := by
            rcases nextA_cases cur r b.state with ⟨_, _, _, _, e⟩ | ⟨_, e⟩
            · rw [e] at h0; exact absurd rfl h0
            · rw [e]; exact ⟨rfl, rfl⟩
          have hno := HWK.out.trans (walkA_no hr h0)
          have hFf : F = false := by
            have := HF.out
            rw [hno] at this
            simpa using this
          rw [show (⟨r.pos, r.chs⟩ : Rec) = r from rfl, h90.1, h90.2] at hnx
          have HNX := Lib.hid hnx
          unfold hdV recV hd0 at HNX
          subst hFf
          clear hnx hr r0 r1 hch hbx h0 hA hB HWK hb h90 hno HF
          go_wp2_with fail
          refine (HNX.out).mono ?_
          rintro e w4 ⟨rfl, b4⟩
          have hb4 := Below.next HBX.out b4
          have hb5 := Below.alloc hb4 hb4.size (.cells #[.int .i64 0, .string (str []), .string (str [])] 46)
          clear b4 a0 a1 a2 b0 b1 b2 s0 s1 a0x a1x a2x b2x
          go_wp2_with fail
          rw [Exit.noGoto_ret]
          go_ret
          exact ⟨rfl, hb5⟩
      · have t1 : decide (k < l.length) = false := by simpa using h1
        have hwe := HWK.out.trans (walkA_end cur l k b.state (by omega))
        obtain ⟨X, hX⟩ : ∃ X, X = decide (cur = b) := ⟨_, rfl⟩
        have hFf : F = (V && X) := by
          have := HF.out
          rw [hwe] at this
          rw [this, hX]
          congr 1
          by_cases e : cur = b <;> simp [e]
        have hq := fun W => run_eqHd W cur b
        rw [← hX] at hq
        have hgd := guardHd
        subst hFf
        clear hwe hX HF HWK hA hB
        cases V
        · go_wp2_with fail
          rw [Exit.noGoto_ret]
          go_ret
          exact ⟨rfl, hb⟩
        · go_wp2_with fail
          rw [Exit.noGoto_ret]
          go_ret
          exact ⟨by rw [Bool.true_and]; rfl, hb⟩
end Go.Proofs.YtheebajklnljdaaGreatDoor
end

section
/- The law's pick, state and change. -/
namespace Go.Proofs.YtheebajklnljdaaGreatDoor
open Go Go.RowKit
attribute [local go_sem] Oper.semAt_some

/-- pick -/
def pickZ (c n : Int) : Int := if c < 0 then (-(c + 1)) % n else c % n
theorem pickZ_range (c n : Int) (h : 0 < n) : 0 ≤ pickZ c n ∧ pickZ c n < n := by
  unfold pickZ; split
  · exact ⟨Int.emod_nonneg _ (by omega), Int.emod_lt_of_pos _ h⟩
  · exact ⟨Int.emod_nonneg _ (by omega), Int.emod_lt_of_pos _ h⟩

set_option maxHeartbeats 400000 in
theorem pick_any (c n : Int) (w : World) (h1 : -9223372036854775808 ≤ c) (h2 : c ≤ 9223372036854775807) (h3 : 0 < n) (h4 : n ≤ 4611686018427387904) :
    Calls Tryz.prog 17 #[.int .i64 c, .int .i64 n] w fun e w' => e = .returned (.int .i64 (pickZ c n)) ∧ w = w' := by
  by_cases hc : c < 0
  · go_enter Tryz.func17, Tryz.ntmps17
    go_wp2
    go_ret
    refine ⟨ret_i64 (a := -((c + 1).tmod n)) ?_, rfl⟩
    rw [pickZ, if_pos hc, ← Int.neg_tmod, Int.tmod_eq_emod_of_nonneg (by omega)]
  · go_enter Tryz.func17, Tryz.ntmps17
    go_wp2
    go_ret
    exact ⟨ret_i64 (by rw [pickZ, if_neg (by omega)]), rfl⟩

/-- change -/
def changeL (n : Int) : Chg := ⟨pickZ n 4, 1 + pickZ (n.tdiv 4) 1000000, false, (0, 0, 0), true, (pickZ n 1000, 0, 0)⟩

set_option maxRecDepth 100000 in
set_option maxHeartbeats 4000000 in
theorem change_ok (n : Int) (w : World) (h1 : -9223372036854775808 ≤ n) (h2 : n ≤ 9223372036854775807) :
    Calls Tryz.prog 42 #[.int .i64 n] w fun e w' => e = .returned (chgV (changeL n)) ∧ Below w.heap.size w w' := by
  have hp1 := fun W => pick_any n 4 W h1 h2 (by omega) (by omega)
  have hq : -9223372036854775808 ≤ n.tdiv 4 ∧ n.tdiv 4 ≤ 9223372036854775807 := by
    rcases Int.lt_or_le n 0 with h | h
    · have e : n.tdiv 4 = -((-n) / 4) := by rw [← Int.tdiv_eq_ediv_of_nonneg (by omega), Int.neg_tdiv, Int.neg_neg]
      omega
    · rw [Int.tdiv_eq_ediv_of_nonneg h]; omega
  have hp2 := fun W => pick_any (n.tdiv 4) 1000000 W hq.1 hq.2 (by omega) (by omega)
  have hp3 := fun W => pick_any n 1000 W h1 h2 (by omega) (by omega)
  obtain ⟨a, ha⟩ : ∃ a, a = pickZ n 4 := ⟨_, rfl⟩
  obtain ⟨b, hb⟩ : ∃ b, b = pickZ (n.tdiv 4) 1000000 := ⟨_, rfl⟩
  obtain ⟨d, hd⟩ : ∃ d, d = pickZ n 1000 := ⟨_, rfl⟩
  have rb := pickZ_range (n.tdiv 4) 1000000 (by omega)
  have hc : changeL n = ⟨a, 1 + b, false, (0, 0, 0), true, (d, 0, 0)⟩ := by rw [ha, hb, hd]; rfl
  rw [← ha] at hp1
  rw [← hb] at hp2 rb
  rw [← hd] at hp3
  rw [hc]
  have HP1 := Lib.hid hp1
  have HP2 := Lib.hid hp2
  have HP3 := Lib.hid hp3
  have hb1 := fun o => Below.alloc (Below.refl w.heap.size w) (Nat.le_refl _) o
  have HB := Lib.hid hb1
  obtain ⟨rb1, rb2⟩ := rb
  clear ha hb hd hc hp1 hp2 hp3 hb1
  unfold chgV
  dsimp only
  go_enter Tryz.func42, Tryz.ntmps42
  go_wp2_with fail
  refine (HP1.out _).mono ?_
  rintro e w1 ⟨rfl, rfl⟩
  go_wp2_with fail
  refine (HP2.out _).mono ?_
  rintro e w2 ⟨rfl, rfl⟩
  go_wp2_with fail
  refine (HP3.out _).mono ?_
  rintro e w3 ⟨rfl, rfl⟩
  go_wp2_with fail
  go_returns
  exact ⟨rfl, HB.out _⟩

def zeroCells : Array Value := madeCells #[.int .u8 0] 32
theorem zeroCells_eq : zeroCells.toList = bv zero32 := by
  unfold zeroCells; rw [madeCells_one]; rfl
theorem run_make32 (w : World) : (Instr.makeSlice 77 (.int .i64 32) (.int .i64 32)).run Tryz.prog w = .ok (.slice (some ⟨w.heap.size, 0, none⟩) 32 32) (w.alloc (.cells zeroCells 5)) := by kernel_rfl

/-- the bytes of state -/
def stB (n : Int) (k : Nat) : UInt8 := UInt8.ofNat (n / 2 ^ (8 * k) % 256).toNat
def stL (n : Int) : List UInt8 := [stB n 0, stB n 1, stB n 2, stB n 3, stB n 4, stB n 5, stB n 6, stB n 7] ++ List.replicate 24 0
theorem stL_len (n : Int) : (stL n).length = 32 := rfl
theorem stB_int (n : Int) (k : Nat) : ((stB n k).toNat : Int) = n / 2 ^ (8 * k) % 256 := by
  have h0 := Int.emod_nonneg (n / 2 ^ (8 * k)) (show (256 : Int) ≠ 0 by decide)
  have h1 := Int.emod_lt_of_pos (n / 2 ^ (8 * k)) (show (0 : Int) < 256 by decide)
  have e : (stB n k).toNat = (n / 2 ^ (8 * k) % 256).toNat := by
    unfold stB
    rw [UInt8.toNat_ofNat_of_lt' (by show _ < 256; omega)]
  rw [e]; omega
theorem stL_at (n : Int) (k : Nat) (h : k < 8) : (stL n)[k]? = some (stB n k) := by
  match k, h with
  | 0, _ => rfl
  | 1, _ => rfl
  | 2, _ => rfl
  | 3, _ => rfl
  | 4, _ => rfl
  | 5, _ => rfl
  | 6, _ => rfl
  | 7, _ => rfl

set_option maxRecDepth 100000 in
set_option maxHeartbeats 4000000 in
theorem state_ok (n : Int) (w : World) :
    Calls Tryz.prog 9 #[.int .i64 n] w fun e w' => e = .returned (.string (str (stL n))) ∧ Below w.heap.size w w' := by
  have hmk := run_make32
  have hb0 : Below w.heap.size w (w.alloc (.cells zeroCells 5)) := (Below.refl _ _).alloc (Nat.le_refl _) _
  have hz0 : BlkIs (w.alloc (.cells zeroCells 5)) w.heap.size 5 (bv ((stL n).take 0) ++ List.replicate (32 - 0) (.int .u8 0)) := by
    have := BlkIs.new w 5 zeroCells
    rw [zeroCells_eq] at this
    exact this
  have HB0 := Lib.hid hb0
  have HZ0 := Lib.hid hz0
  clear hb0 hz0
  go_enter Tryz.func9, Tryz.ntmps9
  go_wp2_with fail
  clear hmk
  go_loopw [4] (fun iv wr => ∃ k : Nat, k ≤ 8 ∧ iv = .int .i64 k ∧ BlkIs wr w.heap.size 5 (bv ((stL n).take k) ++ List.replicate (32 - k) (.int .u8 0)) ∧ Below w.heap.size w wr) (fun iv _ => 8 - (intOf iv).toNat)
  case atStart => exact ⟨0, by omega, rfl, HZ0.out, HB0.out⟩
  case round =>
    obtain ⟨k, hk, rfl, hz, hb⟩ := hrel
    by_cases h : k < 8
    · have t1 : decide (k < 8) = true := by simpa using h
      have t2 : decide ((k : Int) < 8) = true := by simp; omega
      have c0 : wr.cell? ⟨w.heap.size, k, none⟩ = some (.int .u8 0) := (hz.cell k).trans (fill_here (stL_len n) (by omega) _)
      have f0 := hz.frozen k
      have hn := hz.set k (.int .u8 ((stB n k).toNat : Int))
      rw [fill_next (stL_len n) (by omega) (stL_at n k h)] at hn
      rw [stB_int] at hn
      have hbn := hb.setCell (p := ⟨w.heap.size, k, none⟩) (Nat.le_refl _) (.int .u8 (n / 2 ^ (8 * k) % 256))
      have HN := Lib.hid hn
      have HBN := Lib.hid hbn
      clear hz hb hn hbn
      go_wp2_with fail
      exact ⟨⟨k + 1, by omega, by go_num, HN.out, HBN.out⟩, by simp [intOf]; omega⟩
    · have t1 : decide (k < 8) = false := by simpa using h
      have t2 : decide ((k : Int) < 8) = false := by simp; omega
      obtain rfl : k = 8 := by omega
      have e8 : bv ((stL n).take 8) ++ List.replicate (32 - 8) (.int .u8 0) = bv (stL n) ++ [] := rfl
      rw [e8] at hz
      have hcv := run_convert_blk (P := Tryz.prog) (cap := 32) 77 9 5 Tryz.underlying77 Tryz.underlying5 Tryz.underlying9 hz
      rw [stL_len] at hcv
      clear hz e8
      go_wp2_with fail
      go_ret
      exact ⟨rfl, hb⟩
end Go.Proofs.YtheebajklnljdaaGreatDoor
end

section
/- The reference's Same. -/
namespace Go.Proofs.YtheebajklnljdaaGreatDoor
open Go Go.RowKit
attribute [local go_sem] Oper.semAt_some

theorem ChgsAt.at_ {w : World} {A : Option Addr} {c : Nat} {l : List Chg} (h : ChgsAt w (.slice A l.length c) l) {k : Nat} {x : Chg} (hx : l[k]? = some x) :
    ∃ g o, A = some ⟨g, o, none⟩ ∧ g < w.heap.size ∧ l.length ≤ c ∧ ∀ (i : Nat) u, (chgCells x)[i]? = some u → w.cell? ⟨g, o + k * 10 + i, none⟩ = some u := by
  obtain ⟨A', c', e0, hc, hj⟩ := h
  injection e0 with e1 e2 e3
  subst e1 e3
  have hlt := (List.getElem?_eq_some_iff.1 hx).1
  obtain ⟨g, o, rfl, hg, hj⟩ := hj (by omega)
  exact ⟨g, o, rfl, hg, hc, hj k x hx⟩

set_option maxRecDepth 100000 in
set_option maxHeartbeats 8000000 in
theorem same_ok (p q : Int) (A B : Option Addr) (c d : Nat) (l m : List Chg) (w : World) (hl : ChgsAt w (.slice A l.length c) l) (hm : ChgsAt w (.slice B m.length d) m) (h8 : l.length ≤ 1000) :
    Calls Tryz.prog 22 #[recV p (.slice A l.length c), recV q (.slice B m.length d)] w fun e w' => e = .returned (.bool (decide (p = q ∧ l = m))) ∧ Below w.heap.size w w' := by
  obtain ⟨w0, hw0⟩ : ∃ W, W = (w.alloc (.cells #[.int .i64 p, .slice A l.length c] 35)).alloc (.cells #[.int .i64 q, .slice B m.length d] 35) := ⟨_, rfl⟩
  have hb0 : Below w.heap.size w w0 := by
    rw [hw0]; exact Below.alloc (Below.alloc (Below.refl w.heap.size w) (Nat.le_refl _) _) (by rw [World.size_alloc]; omega) _
  have ka : BlkIs w0 w.heap.size 35 [.int .i64 p, .slice A l.length c] := by rw [hw0]; exact (BlkIs.new w _ _).alloc _
  have kb : BlkIs w0 (w.heap.size + 1) 35 [.int .i64 q, .slice B m.length d] := by rw [hw0]; exact alloc_new_at _ _ _ (by rw [World.size_alloc])
  obtain ⟨F, hF⟩ : ∃ F, F = decide (p = q ∧ l = m) := ⟨_, rfl⟩
  rw [← hF]
  have HW0 := Lib.hid hw0
  have HB0 := Lib.hid hb0
  have HKA := Lib.hid ka
  have HKB := Lib.hid kb
  have HL := Lib.hid hl
  have HM := Lib.hid hm
  unfold recV
  clear hw0 hb0 ka kb hl hm
  by_cases k1 : p = q
  case neg =>
    have hFf : F = false := by rw [hF]; simp [k1]
    have t1 : (p != q) = true := by simpa using k1
    subst hFf
    clear hF k1
    go_enter Tryz.func22, Tryz.ntmps22
    go_wp2_with fail
    go_ret
    exact ⟨rfl, by rw [← HW0.out]; exact HB0.out⟩
  by_cases k2 : l.length = m.length
  case neg =>
    have hFf : F = false := by
      rw [hF, decide_eq_false]
      rintro ⟨_, e⟩
      exact k2 (by rw [e])
    have t1 : (p != q) = false := by simpa using k1
    have t2 : ((l.length : Int) != (m.length : Int)) = true := by simp; omega
    subst hFf
    clear hF k1 k2
    go_enter Tryz.func22, Tryz.ntmps22
    go_wp2_with fail
    go_ret
    exact ⟨rfl, by rw [← HW0.out]; exact HB0.out⟩
  have t1 : (p != q) = false := by simpa using k1
  have t2 : ((l.length : Int) != (m.length : Int)) = false := by simp; omega
  have hF2 : F = decide (l = m) := by rw [hF]; simp [k1]
  have HF := Lib.hid hF2
  have HK2 := Lib.hid k2
  have k3 : l.length ≤ m.length := by omega
  clear hF k1 k2 hF2
  go_enter Tryz.func22, Tryz.ntmps22
  go_wp2_with fail
  rw [← HW0.out]
  go_loopw [5] (fun iv wr => ∃ k : Nat, k ≤ l.length ∧ iv = .int .i64 k ∧ Hid (l.take k = m.take k) ∧ Below w0.heap.size w0 wr) (fun iv _ => l.length - (intOf iv).toNat)
  case atStart => exact ⟨0, by omega, rfl, Lib.hid rfl, Below.refl _ _⟩
  case round =>
    obtain ⟨k, hk, rfl, HE, hb⟩ := hrel
    have ra := HKA.out.later hb
    have rb := HKB.out.later hb
    have a1 : wr.cell? ⟨w.heap.size, 1, none⟩ = some (.slice A l.length c) := ra.cell 1
    have b1 : wr.cell? ⟨w.heap.size + 1, 1, none⟩ = some (.slice B m.length d) := rb.cell 1
    have hbw := Below.next HB0.out hb
    by_cases h1 : k < l.length
    · have s1 : decide (k < l.length) = true := by simpa using h1
      obtain ⟨x, hx⟩ : ∃ x, l[k]? = some x := ⟨_, List.getElem?_eq_getElem h1⟩
      obtain ⟨y, hy⟩ : ∃ y, m[k]? = some y := ⟨_, List.getElem?_eq_getElem (by omega)⟩
      obtain ⟨g, o, rfl, hg, hc, hcx⟩ := HL.out.at_ hx
      obtain ⟨g', o', rfl, hg', hd, hcy⟩ := HM.out.at_ hy
      have fx : ∀ (i : Nat) u, (chgCells x)[i]? = some u → wr.cell? ⟨g, o + k * 10 + i, none⟩ = some u := fun i u hu => (hbw.cell (p := ⟨g, o + k * 10 + i, none⟩) hg).trans (hcx i u hu)
      have fy : ∀ (i : Nat) u, (chgCells y)[i]? = some u → wr.cell? ⟨g', o' + k * 10 + i, none⟩ = some u := fun i u hu => (hbw.cell (p := ⟨g', o' + k * 10 + i, none⟩) hg').trans (hcy i u hu)
      have x0 : wr.cell? ⟨g, o + k * 10, none⟩ = some (.int .i64 x.table) := fx 0 _ rfl
      have x1 : wr.cell? ⟨g, o + k * 10 + 1, none⟩ = some (.int .i64 x.key) := fx 1 _ rfl
      have x2 : wr.cell? ⟨g, o + k * 10 + 2, none⟩ = some (.bool x.had) := fx 2 _ rfl
      have x3 : wr.cell? ⟨g, o + k * 10 + 3, none⟩ = some (.int .i64 x.old.1) := fx 3 _ rfl
      have x4 : wr.cell? ⟨g, o + k * 10 + 4, none⟩ = some (.int .i64 x.old.2.1) := fx 4 _ rfl
      have x5 : wr.cell? ⟨g, o + k * 10 + 5, none⟩ = some (.int .i64 x.old.2.2) := fx 5 _ rfl
      have x6 : wr.cell? ⟨g, o + k * 10 + 6, none⟩ = some (.bool x.has) := fx 6 _ rfl
      have x7 : wr.cell? ⟨g, o + k * 10 + 7, none⟩ = some (.int .i64 x.new.1) := fx 7 _ rfl
      have x8 : wr.cell? ⟨g, o + k * 10 + 8, none⟩ = some (.int .i64 x.new.2.1) := fx 8 _ rfl
      have x9 : wr.cell? ⟨g, o + k * 10 + 9, none⟩ = some (.int .i64 x.new.2.2) := fx 9 _ rfl
      have y0 : wr.cell? ⟨g', o' + k * 10, none⟩ = some (.int .i64 y.table) := fy 0 _ rfl
      have y1 : wr.cell? ⟨g', o' + k * 10 + 1, none⟩ = some (.int .i64 y.key) := fy 1 _ rfl
      have y2 : wr.cell? ⟨g', o' + k * 10 + 2, none⟩ = some (.bool y.had) := fy 2 _ rfl
      have y3 : wr.cell? ⟨g', o' + k * 10 + 3, none⟩ = some (.int .i64 y.old.1) := fy 3 _ rfl
      have y4 : wr.cell? ⟨g', o' + k * 10 + 4, none⟩ = some (.int .i64 y.old.2.1) := fy 4 _ rfl
      have y5 : wr.cell? ⟨g', o' + k * 10 + 5, none⟩ = some (.int .i64 y.old.2.2) := fy 5 _ rfl
      have y6 : wr.cell? ⟨g', o' + k * 10 + 6, none⟩ = some (.bool y.has) := fy 6 _ rfl
      have y7 : wr.cell? ⟨g', o' + k * 10 + 7, none⟩ = some (.int .i64 y.new.1) := fy 7 _ rfl
      have y8 : wr.cell? ⟨g', o' + k * 10 + 8, none⟩ = some (.int .i64 y.new.2.1) := fy 8 _ rfl
      have y9 : wr.cell? ⟨g', o' + k * 10 + 9, none⟩ = some (.int .i64 y.new.2.2) := fy 9 _ rfl
      have q0 : (0 : Int) ≤ (k : Int) := by omega
      have q1 : (k : Int) < (l.length : Int) := by omega
      have q2 : (k : Int) < (m.length : Int) := by omega
      obtain ⟨X, hX⟩ : ∃ X, X = decide (x = y) := ⟨_, rfl⟩
      have hq := fun W => run_eqChg W x y
      rw [← hX] at hq
      have hgd := guardChg
      have htx : l.take (k + 1) = l.take k ++ [x] := by rw [List.take_add_one, hx]; rfl
      have hty : m.take (k + 1) = m.take k ++ [y] := by rw [List.take_add_one, hy]; rfl
      have HX := Lib.hid hX
      have HTX := Lib.hid htx
      have HTY := Lib.hid hty
      have HXX := Lib.hid hx
      have HYY := Lib.hid hy
      clear hX htx hty hx hy fx fy hcx hcy ra rb
      go_wp2_with fail
      go_region
      have hbd := Below.drew hb
      have hbwd := Below.drew hbw
      cases X
      · have hFf : F = false := by
          rw [HF.out, decide_eq_false]
          intro e
          have h2 := HX.out
          have h3 := HXX.out
          rw [e, HYY.out] at h3
          rw [Option.some.inj h3] at h2
          simp at h2
        subst hFf
        go_wp2_with fail
        go_ret
        exact ⟨rfl, hbwd⟩
      · have hxy : x = y := of_decide_eq_true HX.out.symm
        have hn : l.take (k + 1) = m.take (k + 1) := by rw [HTX.out, HTY.out, HE.out, hxy]
        have HN := Lib.hid hn
        clear hxy hn
        go_wp2_with fail
        exact ⟨⟨k + 1, by omega, by go_num, HN, hbd⟩, by simp [intOf]; omega⟩
    · have s1 : decide (k < l.length) = false := by simpa using h1
      have hFf : F = true := by
        rw [HF.out, decide_eq_true_eq]
        have e := HE.out
        have e1 : l.take k = l := List.take_of_length_le (by omega)
        have e2 : m.take k = m := List.take_of_length_le (by have := HK2.out; omega)
        rw [e1, e2] at e
        exact e
      subst hFf
      go_wp2_with fail
      go_ret
      exact ⟨rfl, hbw⟩
end Go.Proofs.YtheebajklnljdaaGreatDoor
end

section
/- The law's fixed examples, plain. -/
namespace Go.Proofs.YtheebajklnljdaaGreatDoor

def r7 : Rec := ⟨1, [changeL 7]⟩
def x0L : Lg := newLg (stL 1)
def h0L : Hd := ⟨0, zero32, stL 1⟩
def h1L : Hd := ⟨1, chainL zero32 (encRec r7), stL 2⟩
def x1L : Lg := ⟨[r7], [h0L, h1L]⟩

theorem x0_good : Good x0L := newLg_good (stL_len 1)
theorem r7_rec : recB r7 = true := by decide +kernel
theorem app_one : appA x0L r7 (stL 2) = (x1L, 0) := by
  rcases appA_cases x0_good r7 (stL 2) with ⟨_, _, _, h4, h5⟩ | ⟨h, _, _⟩
  · rw [h5]
    have : nextA (lastH x0L) r7 (stL 2) = (h1L, 0) := by
      rcases nextA_cases (lastH x0L) r7 (stL 2) with ⟨_, _, _, _, e⟩ | ⟨_, e⟩
      · exact e
      · rw [e] at h4; exact absurd h4 (by decide)
    rw [this]
    rfl
  · exact absurd ⟨r7_rec, stL_len 2, rfl⟩ h
theorem x1_good : Good x1L := by
  have := appA_good x0_good r7 (stL 2)
  rwa [app_one] at this
theorem app_two : appA x1L r7 (stL 2) = (x1L, 90) := by
  rcases appA_cases x1_good r7 (stL 2) with ⟨_, _, h, _, _⟩ | ⟨_, _, h5⟩
  · exact absurd h (by decide)
  · exact h5
theorem h0_good : hdB h0L = true := (x1_good.head 0 h0L rfl).1
theorem h1_good : hdB h1L = true := (x1_good.head 1 h1L rfl).1
theorem root_zero : rootA x0L = rootL [0 :: (zero32 ++ stL 1)] := by
  have : leavesL x0L = [0 :: (zero32 ++ stL 1)] := by decide +kernel
  unfold rootA
  rw [this]
theorem h1_len : (encHd h1L).length = 65 := by decide +kernel
set_option maxRecDepth 100000 in
theorem ver_no1 : verA (rootA x1L) 1 h0L (proofL (leavesL x1L) 1) = false := by decide +kernel
theorem proof_one_len : (proofL (leavesL x1L) 1).length = 1 := by decide +kernel
theorem ver_yes1 : verA (rootA x1L) 1 h1L (proofL (leavesL x1L) 1) = true := by
  have h1 : valR (encHd h1L) (proofL (leavesL x1L) 1).reverse (leavesL x1L).length 1 = some (rootL (leavesL x1L)) := proofL_ok (leavesL x1L).length (leavesL x1L) 1 (encHd h1L) (Nat.le_refl _) rfl
  have h2 : (proofL (leavesL x1L) 1).all (fun x => decide (x.length = 32)) = true := by
    rw [List.all_eq_true]
    intro x hx
    simpa using proofL_len32 (leavesL x1L).length (leavesL x1L) 1 (Nat.le_refl _) x hx
  unfold verA verB
  have h3 : (leavesL x1L).length = 2 := rfl
  rw [h3] at h1
  rw [h1_good, h2]
  have e1 : ((1 : Int) + 1).toNat = 2 := rfl
  have e2 : h1L.pos.toNat = 1 := rfl
  rw [e1, e2, h1]
  have e3 : decide (h1L.pos ≤ 1) = true := by decide
  have e4 : decide (0 ≤ h1L.pos ∧ h1L.pos < 1 + 1) = true := by decide
  rw [e3, e4]
  unfold rootA
  simp
theorem fol_yes : followsA h0L [r7] h1L = true := by
  have : nextA h0L r7 h1L.state = (h1L, 0) := by
    rcases nextA_cases h0L r7 h1L.state with ⟨_, _, _, _, e⟩ | ⟨h, _⟩
    · exact e
    · exact absurd ⟨r7_rec, h0_good, stL_len 2, rfl⟩ h
  unfold followsA
  rw [h0_good, h1_good, walkA_cons, this, if_pos rfl]
  simp [walkA]
theorem fol_no : followsA h0L [] h1L = false := by
  have : h0L ≠ h1L := fun h => absurd (congrArg Hd.pos h) (by decide)
  unfold followsA walkA
  simp [this]
end Go.Proofs.YtheebajklnljdaaGreatDoor
end

section
/- What the walk of sane keeps. -/
namespace Go.Proofs.YtheebajklnljdaaGreatDoor
open Go Go.RowKit

theorem ChgsOwn.tight {S : Nat → Prop} {w : World} {v : Value} {l : List Chg} (h : ChgsOwn w S v l) : ChgsOwn w (fun k => S k ∧ k < w.heap.size) v l := ⟨h.1, fun k hk => ⟨h.2 k hk, (h.1.lt k hk).2⟩⟩
theorem LogAt.tight {S : Nat → Prop} {w : World} {b : Nat} {x : Lg} (h : LogAt w S b x) : LogAt w (fun k => S k ∧ k < w.heap.size) b x := by
  obtain ⟨rv, hv, h1, h2, ⟨ps, p1, p2, p3, p4⟩, h4, h5⟩ := h
  exact ⟨rv, hv, h1, ⟨h2, h1.lt⟩, ⟨ps, p1, p2, fun k hk => ⟨p3 k hk, (p2.lt k hk).2⟩, fun p hp => (p4 p hp).tight⟩, h4, fun k hk => ⟨h5 k hk, (h4.lt k hk).2⟩⟩

/-- the log b, the record's box R with its changes in G; all of it newer than w -/
def Sn (w : World) (b R G : Nat) (x : Lg) (W : World) : Prop :=
  ∃ S : Nat → Prop, (∀ k, S k → k < W.heap.size ∧ w.heap.size ≤ k) ∧ ¬ S R ∧ ¬ S G ∧ LogAt W S b x ∧
    BlkIs W R 35 [.int .i64 1, .slice (some ⟨G, 0, none⟩) 1 1] ∧ BlkIs W G 72 (chgCells (changeL 7)) ∧ Below w.heap.size w W

theorem Sn.later {w : World} {b R G : Nat} {x : Lg} {W W' : World} (h : Sn w b R G x W) (hb : Below W.heap.size W W') : Sn w b R G x W' := by
  obtain ⟨S, h1, h2, h3, h4, h5, h6, h7⟩ := h
  exact ⟨S, fun k hk => ⟨Nat.lt_of_lt_of_le (h1 k hk).1 hb.size, (h1 k hk).2⟩, h2, h3, h4.below hb, h5.later hb, h6.later hb, Below.next h7 hb⟩
theorem Sn.below {w : World} {b R G : Nat} {x : Lg} {W : World} (h : Sn w b R G x W) : Below w.heap.size w W := h.choose_spec.2.2.2.2.2.2
theorem Sn.box {w : World} {b R G : Nat} {x : Lg} {W : World} (h : Sn w b R G x W) : BlkIs W R 35 [.int .i64 1, .slice (some ⟨G, 0, none⟩) 1 1] := h.choose_spec.2.2.2.2.1
theorem Sn.log {w : World} {b R G : Nat} {x : Lg} {W : World} (h : Sn w b R G x W) : ∃ S, LogAt W S b x := ⟨_, h.choose_spec.2.2.2.1⟩
theorem Sn.chgs {w : World} {b R G : Nat} {x : Lg} {W : World} (h : Sn w b R G x W) : ChgsAt W (.slice (some ⟨G, 0, none⟩) 1 1) [changeL 7] := by
  obtain ⟨S, h1, h2, h3, h4, h5, h6, h7⟩ := h
  refine ⟨_, 1, rfl, Nat.le_refl _, fun _ => ⟨G, 0, rfl, h6.lt, fun j x hx i u hu => ?_⟩⟩
  match j, hx with
  | 0, hx =>
    cases hx
    rw [show 0 + 0 * 10 + i = i by omega, h6.cell]
    exact hu
  | j + 1, hx => simp at hx

theorem Sn.app {w : World} {b R G : Nat} {x : Lg} {W : World} (h : Sn w b R G x W) (good : Good x) (hR : RoundOk w) (st : List UInt8) :
    Calls Tryz.prog 12 #[.pointer (some ⟨b, 0, none⟩), recV 1 (.slice (some ⟨G, 0, none⟩) 1 1), .string (str st)] W fun e w' => e = .returned (.int .i64 (appA x r7 st).2) ∧ Sn w b R G (appA x r7 st).1 w' := by
  have hc := h.chgs
  obtain ⟨S, h1, h2, h3, h4, h5, h6, h7⟩ := h
  refine (append_ok h4 good (fun k hk => (h1 k hk).1) 1 (some ⟨G, 0, none⟩) 1 [changeL 7] st hc (hR.later h7)).mono ?_
  rintro e w' ⟨he, hL, hO⟩
  have hs := hO.size
  have hsame : ∀ g, ¬ S g → g < W.heap.size → w'.heap[g]? = W.heap[g]? := fun g hg hl => hO.block g hl hg
  refine ⟨he, fun k => (S k ∨ W.heap.size ≤ k) ∧ k < w'.heap.size, ?_, ?_, ?_, hL.tight, (hsame R h2 h5.lt).trans h5, (hsame G h3 h6.lt).trans h6, ?_⟩
  · rintro k ⟨hk | hk, hl⟩
    · exact ⟨hl, (h1 k hk).2⟩
    · exact ⟨hl, Nat.le_trans h7.size hk⟩
  · rintro ⟨hk | hk, _⟩
    · exact h2 hk
    · have := h5.lt; omega
  · rintro ⟨hk | hk, _⟩
    · exact h3 hk
    · have := h6.lt; omega
  · exact h7.trans (hO.below (fun k hk => (h1 k hk).2) h7.size)
end Go.Proofs.YtheebajklnljdaaGreatDoor
end

section
/- The row of records that the law makes: each record's changes lie in a block of their own. -/
namespace Go.Proofs.YtheebajklnljdaaGreatDoor
open Go Go.RowKit

theorem ownsRow_mono {w : World} {a b : Nat} {e : TypeId} {size : Nat} {v : Value} {n : Nat} {xs : List Value} (h : w.ownsRow b e size v n xs) (hab : a ≤ b) : w.ownsRow a e size v n xs := by
  refine ⟨h.1, ?_⟩
  rcases h.2 with h0 | ⟨g, cap, cur, hv, hb, rest⟩
  · exact .inl h0
  · exact .inr ⟨g, cap, cur, hv, Nat.le_trans hab hb, rest⟩

structure RecOwn (W : World) (base : Nat) (v : Value) (ps : List (Rec × Value)) : Prop where
  row : W.ownsRow base 35 2 v ps.length (ps.flatMap recCells)
  chs : ∀ p ∈ ps, W.ownsRow base 72 10 p.2 p.1.chs.length (p.1.chs.flatMap chgCells)
  apart : ps.Pairwise fun p q => p.2.ownBlock ≠ q.2.ownBlock
  good : ∀ (i : Nat) p, ps[i]? = some p → recB p.1 = true ∧ p.1.pos = (i : Int) + 1

theorem RecOwn.nil (w : World) (base : Nat) : RecOwn w base (.slice none 0 0) [] := ⟨World.ownsRow_nil w _ _ _, by simp, .nil, by simp⟩
theorem RecOwn.later {W W' : World} {base : Nat} {v : Value} {ps : List (Rec × Value)} (h : RecOwn W base v ps) (hb : Below W.heap.size W W') : RecOwn W' base v ps :=
  ⟨ownsRow_later hb h.row, fun p hp => ownsRow_later hb (h.chs p hp), h.apart, h.good⟩
theorem RecOwn.form {W : World} {base : Nat} {v : Value} {ps : List (Rec × Value)} (h : RecOwn W base v ps) : ∃ A c, v = .slice A ps.length c ∧ ps.length ≤ c := by
  obtain ⟨A, c, hv, hc, _⟩ := ownsRow_form h.row
  exact ⟨A, c, hv, hc⟩
theorem RecOwn.recs {W : World} {base : Nat} {v : Value} {ps : List (Rec × Value)} (h : RecOwn W base v ps) : RecsAt W v (ps.map (·.1)) :=
  RecRow.recs (S := fun _ => True) ⟨ps, rfl, ownsRow_base0 h.row, fun _ _ => trivial, fun p hp => ⟨ownsRow_base0 (h.chs p hp), fun _ _ => trivial⟩⟩

theorem ownsRow_some {w : World} {base : Nat} {e : TypeId} {size : Nat} {v : Value} {n : Nat} {xs : List Value} (h : w.ownsRow base e size v n xs) (hn : 0 < n) : ∃ g, v.ownBlock = some g ∧ base ≤ g ∧ g < w.heap.size := by
  obtain ⟨A, c, _, _, _, hx⟩ := ownsRow_form h
  obtain ⟨g, _, _, hg, _⟩ := hx hn
  exact ⟨g, hg, (h.lt g hg).1, (h.lt g hg).2⟩

theorem RecOwn.add {W W' : World} {base B : Nat} {v v' cv : Value} {ps : List (Rec × Value)} {r : Rec} (h : RecOwn W base v ps) (hg : W.grownBy W' v.ownBlock) (own : W'.ownsRow base 35 2 v' (ps.length + 1) (ps.flatMap recCells ++ recCells (r, cv)))
    (hc : W.ownsRow B 72 10 cv r.chs.length (r.chs.flatMap chgCells)) (hB : ∀ p ∈ ps, ∀ k, p.2.ownBlock = some k → k < B) (hbase : base ≤ B) (hr : recB r = true) (hpos : r.pos = (ps.length : Nat) + 1) : RecOwn W' base v' (ps ++ [(r, cv)]) := by
  refine ⟨?_, ?_, ?_, ?_⟩
  · rw [List.length_append, List.length_singleton, List.flatMap_append]
    simpa using own
  · intro p hp
    rcases List.mem_append.1 hp with hp | hp
    · exact (h.chs p hp).kept hg (rows_apart2 h.row (h.chs p hp) (by decide))
    · rw [List.mem_singleton] at hp
      subst hp
      exact ownsRow_mono (hc.kept hg (rows_apart2 h.row hc (by decide))) hbase
  · refine List.pairwise_append.2 ⟨h.apart, List.pairwise_singleton _ _, fun p hp q hq => ?_⟩
    rw [List.mem_singleton] at hq
    subst hq
    obtain ⟨i, hi⟩ := List.getElem?_of_mem hp
    obtain ⟨g, e1, e2, e3⟩ := ownsRow_some (h.chs p hp) (by have := recB_pos (h.good i p hi).1; omega)
    obtain ⟨g', f1, f2, _⟩ := ownsRow_some hc (by have := recB_pos hr; omega)
    have := hB p hp g e1
    dsimp only
    rw [e1, f1]
    intro e
    cases e
    omega
  · intro i p hi
    by_cases c : i < ps.length
    · rw [List.getElem?_append_left c] at hi
      exact h.good i p hi
    · rw [List.getElem?_append_right (by omega)] at hi
      have hlt := (List.getElem?_eq_some_iff.1 hi).1
      simp only [List.length_singleton] at hlt
      obtain rfl : i = ps.length := by omega
      rw [Nat.sub_self] at hi
      simp only [List.getElem?_cons_zero, Option.some.injEq] at hi
      subst hi
      exact ⟨hr, hpos⟩

/-- a slice of slices of numbers -/
def IntRows (w : World) (v : Value) : Prop := ∃ us : List Value, SliceAt w v us ∧ ∀ u ∈ us, ∃ zs : List Int, SliceAt w u (zs.map (Value.int .i64)) ∧ ∀ z ∈ zs, -9223372036854775808 ≤ z ∧ z ≤ 9223372036854775807
theorem IntRows.below {w w' : World} {v : Value} (h : IntRows w v) (hb : Below w.heap.size w w') : IntRows w' v := by
  obtain ⟨us, h1, h2⟩ := h
  refine ⟨us, h1.below hb, fun u hu => ?_⟩
  obtain ⟨zs, h3, h4⟩ := h2 u hu
  exact ⟨zs, h3.below hb, h4⟩

theorem recCells_one (p : Rec × Value) (h : p.2.oneCell' = true) : ∀ u ∈ recCells p, u.oneCell' = true := by
  intro u hu
  unfold recCells at hu
  simp only [List.mem_cons, List.not_mem_nil, or_false] at hu
  rcases hu with rfl | rfl
  · rfl
  · exact h
theorem chgCells_one (c : Chg) : ∀ u ∈ chgCells c, u.oneCell' = true := by
  intro u hu
  unfold chgCells at hu
  simp only [List.mem_cons, List.not_mem_nil, or_false] at hu
  rcases hu with rfl | rfl | rfl | rfl | rfl | rfl | rfl | rfl | rfl | rfl <;> rfl
end Go.Proofs.YtheebajklnljdaaGreatDoor
end

section
/- The calls of sane, each in the form that its walk meets. -/
namespace Go.Proofs.YtheebajklnljdaaGreatDoor
open Go Go.RowKit

theorem sn_head0 {w : World} {b R G : Nat} {W : World} (h : Sn w b R G x1L W) : Calls Tryz.prog 18 #[.pointer (some ⟨b, 0, none⟩), .int .i64 0] W fun e w' => e = .returned (.tuple #[hdV h0L, .bool true]) ∧ Below W.heap.size W w' := by
  obtain ⟨S, hL⟩ := h.log
  have := head_ok hL ((0 : Nat) : Int)
  rw [headA_in (k := 0) (h := h0L) rfl] at this
  exact this
theorem sn_head1 {w : World} {b R G : Nat} {W : World} (h : Sn w b R G x1L W) : Calls Tryz.prog 18 #[.pointer (some ⟨b, 0, none⟩), .int .i64 1] W fun e w' => e = .returned (.tuple #[hdV h1L, .bool true]) ∧ Below W.heap.size W w' := by
  obtain ⟨S, hL⟩ := h.log
  have := head_ok hL ((1 : Nat) : Int)
  rw [headA_in (k := 1) (h := h1L) rfl] at this
  exact this
theorem sn_enc (W : World) : Calls Tryz.prog 30 #[hdV h1L] W fun e w' => e = .returned (.tuple #[.string (str (encHd h1L)), .int .i64 0]) ∧ Below W.heap.size W w' := by
  have := hencode_ok h1L W
  rw [show encA h1L = (encHd h1L, 0) from if_pos h1_good] at this
  exact this
theorem sn_dec (W : World) : Calls Tryz.prog 32 #[.string (str (encHd h1L))] W fun e w' => e = .returned (.tuple #[hdV h1L, .int .i64 0]) ∧ Below W.heap.size W w' := by
  have := hdecode_ok (str (encHd h1L)) W (by rw [size_mk, h1_len]; decide)
  rw [mk_toList, decA_enc h1_good] at this
  exact this
theorem x1_heads : x1L.heads.length = 2 := rfl
theorem sn_prove1 {w : World} {b R G : Nat} {W : World} (h : Sn w b R G x1L W) (hR : RoundOk w) : Calls Tryz.prog 23 #[.pointer (some ⟨b, 0, none⟩), .int .i64 1] W fun e w' => ∃ A c, e = .returned (.tuple #[.slice A (proofL (leavesL x1L) 1).length c, .int .i64 0]) ∧ ListAt w' (.slice A (proofL (leavesL x1L) 1).length c) (proofL (leavesL x1L) 1) ∧ Below W.heap.size W w' := by
  obtain ⟨S, hL⟩ := h.log
  exact lprove_ok hL x1_good 1 (by rw [x1_heads]; decide) (hR.later h.below)
theorem sn_prove2 {w : World} {b R G : Nat} {W : World} (h : Sn w b R G x1L W) : Calls Tryz.prog 23 #[.pointer (some ⟨b, 0, none⟩), .int .i64 2] W fun e w' => e = .returned (.tuple #[.slice none 0 0, .int .i64 2]) ∧ Below W.heap.size W w' := by
  obtain ⟨S, hL⟩ := h.log
  exact lprove_out hL 2 (.inr (by rw [x1_heads]; decide))
theorem sn_ext2 {w : World} {b R G : Nat} {W : World} (h : Sn w b R G x1L W) : Calls Tryz.prog 25 #[.pointer (some ⟨b, 0, none⟩), .int .i64 2] W fun e w' => e = .returned (.tuple #[.slice none 0 0, .int .i64 2]) ∧ Below W.heap.size W w' := by
  obtain ⟨S, hL⟩ := h.log
  exact lext_out hL 2 (.inr (by rw [x1_heads]; decide))
theorem sn_record {w : World} {b R G : Nat} {W : World} (h : Sn w b R G x1L W) : Calls Tryz.prog 20 #[.pointer (some ⟨b, 0, none⟩), .int .i64 1] W fun e w' => ∃ g c, e = .returned (.tuple #[recV 1 (.slice (some ⟨g, 0, none⟩) 1 c), .bool true]) ∧ ChgsAt w' (.slice (some ⟨g, 0, none⟩) 1 c) [changeL 7] ∧ Below W.heap.size W w' := by
  obtain ⟨S, hL⟩ := h.log
  have := record_ok hL x1_good 0 r7 rfl
  rw [show ((0 : Nat) : Int) + 1 = 1 from rfl] at this
  refine this.mono ?_
  rintro e w' ⟨g, c, he, own, hb⟩
  exact ⟨g, c, he, ChgsOwn.chgs (S := fun _ => True) (l := [changeL 7]) ⟨ownsRow_base0 own, fun _ _ => trivial⟩, hb⟩
theorem sn_root {w : World} {b R G : Nat} {W : World} (h : Sn w b R G x1L W) (hR : RoundOk w) : Calls Tryz.prog 15 #[.pointer (some ⟨b, 0, none⟩)] W fun e w' => e = .returned (.string (str (rootA x1L))) ∧ Below W.heap.size W w' := by
  obtain ⟨S, hL⟩ := h.log
  exact lroot_ok hL x1_good (hR.later h.below)
theorem sn_ver1 (W : World) (v : Value) (hv : ListAt W v (proofL (leavesL x1L) 1)) (hR : RoundOk W) : Calls Tryz.prog 36 #[.string (str (rootA x1L)), .int .i64 1, hdV h1L, v] W fun e w' => e = .returned (.bool true) ∧ Below W.heap.size W w' := by
  have := lverify_ok (str (rootA x1L)) 1 h1L v (proofL (leavesL x1L) 1) W hv (by rw [proof_one_len]; decide) hR
  rw [mk_toList, ver_yes1] at this
  exact this
theorem sn_ver0 (W : World) (v : Value) (hv : ListAt W v (proofL (leavesL x1L) 1)) (hR : RoundOk W) : Calls Tryz.prog 36 #[.string (str (rootA x1L)), .int .i64 1, hdV h0L, v] W fun e w' => e = .returned (.bool false) ∧ Below W.heap.size W w' := by
  have := lverify_ok (str (rootA x1L)) 1 h0L v (proofL (leavesL x1L) 1) W hv (by rw [proof_one_len]; decide) hR
  rw [mk_toList, ver_no1] at this
  exact this
theorem sn_fol1 {w : World} {b R G : Nat} {W : World} (h : Sn w b R G x1L W) (hR : RoundOk w) : Calls Tryz.prog 34 #[hdV h0L, .slice (some ⟨W.heap.size, 0, none⟩) 1 1, hdV h1L] (W.alloc (.cells #[.int .i64 1, .slice (some ⟨G, 0, none⟩) 1 1] 35)) fun e w' => e = .returned (.bool true) ∧ Below W.heap.size W w' := by
  have hb := Below.alloc1 W (.cells #[.int .i64 1, .slice (some ⟨G, 0, none⟩) 1 1] 35)
  have h2 := h.later hb
  have hnew := BlkIs.new W 35 #[.int .i64 1, .slice (some ⟨G, 0, none⟩) 1 1]
  have hr : RecsAt (W.alloc (.cells #[.int .i64 1, .slice (some ⟨G, 0, none⟩) 1 1] 35)) (.slice (some ⟨W.heap.size, 0, none⟩) 1 1) [r7] := by
    refine ⟨_, 1, rfl, Nat.le_refl _, fun _ => ⟨W.heap.size, 0, rfl, hnew.lt, fun j r hj => ?_⟩⟩
    match j, hj with
    | 0, hj =>
      cases hj
      exact ⟨hnew.cell 0, _, hnew.cell 1, h2.chgs⟩
    | j + 1, hj => simp at hj
  have := follows_ok h0L h1L _ 1 [r7] _ hr (by decide) (hR.later h2.below)
  rw [fol_yes] at this
  exact this.mono fun e w' ⟨he, hbb⟩ => ⟨he, Below.next hb hbb⟩
theorem sn_fol0 {w : World} {b R G : Nat} {W : World} (h : Sn w b R G x1L W) (hR : RoundOk w) : Calls Tryz.prog 34 #[hdV h0L, .slice none 0 0, hdV h1L] W fun e w' => e = .returned (.bool false) ∧ Below W.heap.size W w' := by
  have := follows_ok h0L h1L none 0 [] W ⟨none, 0, rfl, Nat.le_refl _, fun h => absurd h (by decide)⟩ (by decide) (hR.later h.below)
  rw [fol_no] at this
  exact this
theorem sn_same {w : World} {b R G : Nat} {W : World} (h : Sn w b R G x1L W) (g c : Nat) (hc : ChgsAt W (.slice (some ⟨g, 0, none⟩) 1 c) [changeL 7]) : Calls Tryz.prog 22 #[recV 1 (.slice (some ⟨G, 0, none⟩) 1 1), recV 1 (.slice (some ⟨g, 0, none⟩) 1 c)] W fun e w' => e = .returned (.bool true) ∧ Below W.heap.size W w' := by
  have := same_ok 1 1 (some ⟨G, 0, none⟩) (some ⟨g, 0, none⟩) 1 c [changeL 7] [changeL 7] W h.chgs hc (by decide)
  rw [decide_eq_true (show (1 : Int) = 1 ∧ [changeL 7] = [changeL 7] from ⟨rfl, rfl⟩)] at this
  exact this
theorem sn_len {w : World} {b R G : Nat} {W : World} (h : Sn w b R G x1L W) : Calls Tryz.prog 14 #[.pointer (some ⟨b, 0, none⟩)] W fun e w' => e = .returned (.int .i64 1) ∧ w' = W := by
  obtain ⟨S, hL⟩ := h.log
  exact len_ok hL

/-- the cells that sane's last statement reads -/
abbrev SnC (B9 B11 B15 B23 R : Nat) (v0 v1 v2 u1 : List UInt8) (y r : Value) (W : World) : Prop :=
  W.cell? ⟨B9, 0, none⟩ = some (.int .i64 0) ∧ W.cell? ⟨B9, 1, none⟩ = some (.string (str v0)) ∧ W.cell? ⟨B9, 2, none⟩ = some (.string (str v1)) ∧
  W.cell? ⟨B11, 0, none⟩ = some (.int .i64 1) ∧ W.cell? ⟨B11, 1, none⟩ = some (.string (str u1)) ∧ W.cell? ⟨B11, 2, none⟩ = some (.string (str v2)) ∧
  W.cell? ⟨B15, 0, none⟩ = some (.int .i64 1) ∧ W.cell? ⟨B15, 1, none⟩ = some (.string (str u1)) ∧ W.cell? ⟨B15, 2, none⟩ = some (.string (str v2)) ∧
  W.cell? ⟨B23, 0, none⟩ = some (.int .i64 1) ∧ W.cell? ⟨B23, 1, none⟩ = some y ∧ W.cell? ⟨R, 0, none⟩ = some (.int .i64 1) ∧ W.cell? ⟨R, 1, none⟩ = some r
theorem SnC.later {B9 B11 B15 B23 R : Nat} {v0 v1 v2 u1 : List UInt8} {y r : Value} {W W' : World} (h : SnC B9 B11 B15 B23 R v0 v1 v2 u1 y r W) (hb : Below W.heap.size W W') : SnC B9 B11 B15 B23 R v0 v1 v2 u1 y r W' := by
  have f : ∀ {a : Addr} {v : Value}, W.cell? a = some v → W'.cell? a = some v := fun h => (hb.cell (block_of_cell h)).trans h
  obtain ⟨h1, h2, h3, h4, h5, h6, h7, h8, h9, h10, h11, h12, h13⟩ := h
  exact ⟨f h1, f h2, f h3, f h4, f h5, f h6, f h7, f h8, f h9, f h10, f h11, f h12, f h13⟩
/-- what sane's last statement keeps -/
structure SnJ (w : World) (b R G B9 B11 B15 B23 : Nat) (v0 v1 v2 u1 : List UInt8) (gy cy : Nat) (v : Value) (P : List (List UInt8)) (W : World) : Prop where
  sn : Sn w b R G x1L W
  c : SnC B9 B11 B15 B23 R v0 v1 v2 u1 (.slice (some ⟨gy, 0, none⟩) 1 cy) (.slice (some ⟨G, 0, none⟩) 1 1) W
  lp : ListAt W v P
  cy : ChgsAt W (.slice (some ⟨gy, 0, none⟩) 1 cy) [changeL 7]
theorem SnJ.later {w : World} {b R G B9 B11 B15 B23 : Nat} {v0 v1 v2 u1 : List UInt8} {gy cy : Nat} {v : Value} {P : List (List UInt8)} {W W' : World} (h : SnJ w b R G B9 B11 B15 B23 v0 v1 v2 u1 gy cy v P W) (hb : Below W.heap.size W W') :
    SnJ w b R G B9 B11 B15 B23 v0 v1 v2 u1 gy cy v P W' := ⟨h.sn.later hb, h.c.later hb, h.lp.below hb, h.cy.below hb⟩
theorem SnJ.drew {w : World} {b R G B9 B11 B15 B23 : Nat} {v0 v1 v2 u1 : List UInt8} {gy cy : Nat} {v : Value} {P : List (List UInt8)} {W : World} (h : SnJ w b R G B9 B11 B15 B23 v0 v1 v2 u1 gy cy v P W) :
    SnJ w b R G B9 B11 B15 B23 v0 v1 v2 u1 gy cy v P W.drew := h.later (Below.drew (Below.refl _ _))
theorem SnJ.allocd {w : World} {b R G B9 B11 B15 B23 : Nat} {v0 v1 v2 u1 : List UInt8} {gy cy : Nat} {v : Value} {P : List (List UInt8)} {W : World} (h : SnJ w b R G B9 B11 B15 B23 v0 v1 v2 u1 gy cy v P W) {o : Obj} :
    SnC B9 B11 B15 B23 R v0 v1 v2 u1 (.slice (some ⟨gy, 0, none⟩) 1 cy) (.slice (some ⟨G, 0, none⟩) 1 1) (W.alloc o) := (h.later (Below.alloc1 W o)).c

theorem app_cons {α : Type} {a : α} {xs bs r : List α} (h : List.append xs bs = r) : List.append (a :: xs) bs = a :: r := congrArg (a :: ·) h
theorem app_nil {α : Type} {bs r : List α} (h : bs = r) : List.append [] bs = r := h
/-- a region whose list is written out -/
theorem region_lit {P : Program} {Q : Exit → Act → World → Prop} {id : Nat} {a : Act} {w : World} {d : Bool} {l l' : List Oper} (h : l = l') (k : (Code.region id l'.toArray d).wp P Q a w) : (Code.region id l.toArray d).wp P Q a w := h ▸ k
end Go.Proofs.YtheebajklnljdaaGreatDoor
end

