/- Append, both ways; two heads, two changes compared. -/
import Derived.Test.YtgbemgndbemllaaGreatDoorGm
import Derived.Test.YtgbemgndbemllaaGreatDoorGg
import Derived.Laws.StructEq
namespace Go.Proofs.YtgbemgndbemllaaGreatDoor
open Go Go.RowKit

theorem append_ok {S : Nat → Prop} {b : Nat} {x : Lg} {w : World} (h : LogAt w S b x) (good : Good x) (hS : ∀ k, S k → k < w.heap.size) (p : Int) (A : Option Addr) (c : Nat) (l : List Chg) (st : List UInt8) (hv : ChgsAt w (.slice A l.length c) l) (hR : RoundOk w) :
    Calls Tryz.prog 9 #[.pointer (some ⟨b, 0, none⟩), recV p (.slice A l.length c), .string (str st)] w fun e w' => e = .returned (.int .i64 (appA x ⟨p, l⟩ st).2) ∧ LogAt w' (fun k => S k ∨ w.heap.size ≤ k) b (appA x ⟨p, l⟩ st).1 ∧ Only S w w' := by
  rcases appA_cases good ⟨p, l⟩ st with ⟨_, _, _, h4, h5⟩ | ⟨_, h4, h5⟩
  · rw [h5]
    exact append_yes h good p A c l st hv hR h4 hS
  · rw [h5]
    exact (append_no h good p A c l st hv hR h4).mono fun e w' ⟨he, hb⟩ => ⟨he, (h.below hb).mono fun k hk => .inl hk, .of_below hb⟩

noncomputable def fldHd (i : Nat) : Field := ((Tryz.prog.fieldsOf 40)[i]?).getD default
theorem run_eqHd (W : World) (a b : Hd) : (Op.equalIn 10000 40 (.agg #[.int .i64 a.pos, .string (str a.chain), .string (str a.state)]) (.agg #[.int .i64 b.pos, .string (str b.chain), .string (str b.state)])).run Tryz.prog W = .ok (decide (a = b)) W := by
  obtain ⟨a1, a2, a3⟩ := a
  obtain ⟨b1, b2, b3⟩ := b
  obtain ⟨i0, hi⟩ : ∃ i, Tryz.prog.info? 3 = some i := Option.isSome_iff_exists.1 (by kernel_rfl)
  obtain ⟨j0, hj⟩ : ∃ i, Tryz.prog.info? 9 = some i := Option.isSome_iff_exists.1 (by kernel_rfl)
  have hf : (Tryz.prog.fieldsOf 40).toList = [fldHd 0, fldHd 1, fldHd 2] := by kernel_rfl
  have n0 : ((fldHd 0).name == "_") = false := by kernel_rfl
  have n1 : ((fldHd 1).name == "_") = false := by kernel_rfl
  have n2 : ((fldHd 2).name == "_") = false := by kernel_rfl
  have t0 : (fldHd 0).type = 3 := by kernel_rfl
  have t1 : (fldHd 1).type = 9 := by kernel_rfl
  have t2 : (fldHd 2).type = 9 := by kernel_rfl
  have o0 : (fldHd 0).offset = 0 := by kernel_rfl
  have o1 : (fldHd 1).offset = 1 := by kernel_rfl
  have o2 : (fldHd 2).offset = 2 := by kernel_rfl
  have m0 : (fldHd 0).name ≠ "_" := by simpa using n0
  have m1 : (fldHd 1).name ≠ "_" := by simpa using n1
  have m2 : (fldHd 2).name ≠ "_" := by simpa using n2
  rw [run_equalIn_struct (w := W) 9999 _ _ _ (by kernel_rfl) (by kernel_rfl), hf]
  simp only [Op.eqFields, t0, t1, t2, o0, o1, o2, if_pos m0, if_pos m1, if_pos m2]
  simp [part, run_sizeOf, hi, hj, run_equalIn_int, run_equalIn_string, Tryz.underlying3, Tryz.underlying9, go_sem]
  by_cases h1 : a1 = b1 <;> by_cases h2 : a2 = b2 <;> by_cases h3 : a3 = b3 <;> simp [h1, h2, h3]

theorem run_eq3d (W : World) (d : Nat) (a b c x y z : Int) :
    (Op.equalIn (d + 2) 63 (.agg #[.int .i64 a, .int .i64 b, .int .i64 c]) (.agg #[.int .i64 x, .int .i64 y, .int .i64 z])).run Tryz.prog W = .ok (a == x && (b == y && c == z)) W := by
  obtain ⟨i0, hi⟩ : ∃ i, Tryz.prog.info? 3 = some i := Option.isSome_iff_exists.1 (by kernel_rfl)
  have hc : Tryz.prog.cellsOf 3 = 1 := by kernel_rfl
  have hr : List.range 3 = [0, 1, 2] := rfl
  rw [run_equalIn_array (w := W) (d + 1) _ _ Tryz.underlying63 hi, hc, hr]
  simp [Op.eqItems, part, run_sizeOf, hi, run_equalIn_int, Tryz.underlying3, go_sem]
  by_cases h1 : a = x <;> by_cases h2 : b = y <;> by_cases h3 : c = z <;> simp [h1, h2, h3]

noncomputable def fldChg (i : Nat) : Field := ((Tryz.prog.fieldsOf 65)[i]?).getD default
theorem run_eqChg (W : World) (a b : Chg) : (Op.equalIn 10000 65 (.agg #[.int .i64 a.table, .int .i64 a.key, .bool a.had, .int .i64 a.old.1, .int .i64 a.old.2.1, .int .i64 a.old.2.2, .bool a.has, .int .i64 a.new.1, .int .i64 a.new.2.1, .int .i64 a.new.2.2]) (.agg #[.int .i64 b.table, .int .i64 b.key, .bool b.had, .int .i64 b.old.1, .int .i64 b.old.2.1, .int .i64 b.old.2.2, .bool b.has, .int .i64 b.new.1, .int .i64 b.new.2.1, .int .i64 b.new.2.2])).run Tryz.prog W = .ok (decide (a = b)) W := by
  obtain ⟨a0, a1, a2, ⟨a3, a4, a5⟩, a6, ⟨a7, a8, a9⟩⟩ := a
  obtain ⟨b0, b1, b2, ⟨b3, b4, b5⟩, b6, ⟨b7, b8, b9⟩⟩ := b
  obtain ⟨i0, hi⟩ : ∃ i, Tryz.prog.info? 3 = some i := Option.isSome_iff_exists.1 (by kernel_rfl)
  obtain ⟨j0, hj⟩ : ∃ i, Tryz.prog.info? 4 = some i := Option.isSome_iff_exists.1 (by kernel_rfl)
  obtain ⟨k0, hk⟩ : ∃ i, Tryz.prog.info? 63 = some i := Option.isSome_iff_exists.1 (by kernel_rfl)
  have hc3 : Tryz.prog.cellsOf 63 = 3 := by kernel_rfl
  have hf : (Tryz.prog.fieldsOf 65).toList = [fldChg 0, fldChg 1, fldChg 2, fldChg 3, fldChg 4, fldChg 5] := by kernel_rfl
  have n0 : ((fldChg 0).name == "_") = false := by kernel_rfl
  have n1 : ((fldChg 1).name == "_") = false := by kernel_rfl
  have n2 : ((fldChg 2).name == "_") = false := by kernel_rfl
  have n3 : ((fldChg 3).name == "_") = false := by kernel_rfl
  have n4 : ((fldChg 4).name == "_") = false := by kernel_rfl
  have n5 : ((fldChg 5).name == "_") = false := by kernel_rfl
  have t0 : (fldChg 0).type = 3 := by kernel_rfl
  have t1 : (fldChg 1).type = 3 := by kernel_rfl
  have t2 : (fldChg 2).type = 4 := by kernel_rfl
  have t3 : (fldChg 3).type = 63 := by kernel_rfl
  have t4 : (fldChg 4).type = 4 := by kernel_rfl
  have t5 : (fldChg 5).type = 63 := by kernel_rfl
  have o0 : (fldChg 0).offset = 0 := by kernel_rfl
  have o1 : (fldChg 1).offset = 1 := by kernel_rfl
  have o2 : (fldChg 2).offset = 2 := by kernel_rfl
  have o3 : (fldChg 3).offset = 3 := by kernel_rfl
  have o4 : (fldChg 4).offset = 6 := by kernel_rfl
  have o5 : (fldChg 5).offset = 7 := by kernel_rfl
  have m0 : (fldChg 0).name ≠ "_" := by simpa using n0
  have m1 : (fldChg 1).name ≠ "_" := by simpa using n1
  have m2 : (fldChg 2).name ≠ "_" := by simpa using n2
  have m3 : (fldChg 3).name ≠ "_" := by simpa using n3
  have m4 : (fldChg 4).name ≠ "_" := by simpa using n4
  have m5 : (fldChg 5).name ≠ "_" := by simpa using n5
  have q := fun W => run_eq3d W 9997
  simp only [Nat.reduceAdd] at q
  rw [run_equalIn_struct (w := W) 9999 _ _ _ (by kernel_rfl) (by kernel_rfl), hf]
  simp only [Op.eqFields, t0, t1, t2, t3, t4, t5, o0, o1, o2, o3, o4, o5, if_pos m0, if_pos m1, if_pos m2, if_pos m3, if_pos m4, if_pos m5]
  simp [part, run_sizeOf, hi, hj, hk, hc3, run_equalIn_int, run_equalIn_bool, Tryz.underlying3, Tryz.underlying4, go_sem, q]
  by_cases h0 : a0 = b0 <;> by_cases h1 : a1 = b1 <;> by_cases h2 : a2 = b2 <;> simp [h0, h1, h2]
  by_cases h3 : a3 = b3 <;> by_cases h4 : a4 = b4 <;> by_cases h5 : a5 = b5 <;> simp [h3, h4, h5]
  by_cases h6 : a6 = b6 <;> simp [h6]
  by_cases h7 : a7 = b7 <;> by_cases h8 : a8 = b8 <;> by_cases h9 : a9 = b9 <;> simp [h7, h8, h9]
theorem guardChg : Tryz.prog.eqGuardType Tryz.prog.depth 65 = false := by kernel_rfl
theorem guardHd : Tryz.prog.eqGuardType Tryz.prog.depth 40 = false := by kernel_rfl
end Go.Proofs.YtgbemgndbemllaaGreatDoor
