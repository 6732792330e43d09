/- The map's keys of the store: a table and a key. -/
import Derived.Test.YtgbemgndbemllaaGreatDoorQValA
import Derived.DeepKeys4
namespace Go.Proofs.YtgbemgndbemllaaGreatDoor
open Go Go.RowKit
open Go.Maps (Keyed)
attribute [local go_sem] Oper.semAt_some

theorem laidOut : laidOutB Tryz.prog = true := by kernel_rfl
theorem idRow : (132 : TypeId) < Tryz.prog.types.size := of_decide_eq_true (by kernel_rfl)
theorem idDeep : Tryz.prog.keyTypeAt 3 132 = true := by kernel_rfl
theorem idLaw : Keyed Tryz.prog 132 := Keyed.of_law (Go.deep_law_laid laidOut (m := 3) (by omega) idRow idDeep (by rw [Tryz.underlying132]))
theorem idType : Tryz.prog.keyType 132 = true := by kernel_rfl
theorem idCells : Tryz.prog.cellsOf 132 = 2 := by kernel_rfl
theorem intCells : Tryz.prog.cellsOf 3 = 1 := by kernel_rfl
theorem tySize : ∃ n, Tryz.prog.types.size = n + 1 := ⟨Tryz.prog.types.size - 1, by kernel_rfl⟩

theorem int64_wf {n : Int} : (Lit.int .i64 n).wf = true ↔ In64 n := by
  have e1 : IntKind.i64.min = -9223372036854775808 := by rfl
  have e2 : IntKind.i64.max = 9223372036854775807 := by rfl
  unfold In64
  simp [Lit.wf, e1, e2]

theorem int_lits {d : Nat} (v : Value) (l : List Lit) : Tryz.prog.keyLits (d + 1) 3 [v] = some l ↔ ∃ n, In64 n ∧ v = .int .i64 n ∧ l = [.int .i64 n] := by
  unfold Program.keyLits
  rw [Tryz.underlying3]
  constructor
  · intro h
    split at h
    case h_2 q q' n h1 h2 =>
      obtain rfl : IntKind.i64 = q := by simpa using h1
      obtain rfl : v = .int q' n := by simpa using h2
      split at h
      · rename_i hh
        obtain ⟨rfl, hw⟩ := hh
        exact ⟨n, int64_wf.1 hw, rfl, (Option.some.inj h).symm⟩
      · cases h
    all_goals simp_all
  · rintro ⟨n, h, rfl, rfl⟩
    simp [int64_wf.2 h]

theorem id_lits (d : Nat) (cs : List Value) : Tryz.prog.keyLits (d + 1) 132 cs =
    if cs.length = 2 then ((Tryz.prog.keyLits d 3 (cs.take 1)).bind fun a => (Tryz.prog.keyLits d 3 ((cs.drop 1).take 1)).map fun b => a ++ b) else none := by
  obtain ⟨F, hF⟩ : ∃ F, F = Tryz.prog.keyLits d := ⟨_, rfl⟩
  rw [← hF]
  unfold Program.keyLits
  rw [Tryz.underlying132, idCells, ← hF]
  dsimp only
  clear hF
  match cs with
  | [] => simp
  | [a] => simp
  | a :: b :: e :: cs => simp
  | [a, b] =>
    simp [intCells]
    cases F 3 [a] with
    | none => rfl
    | some x =>
      cases F 3 [b] with
      | none => rfl
      | some y => exact congrArg some (by show x ++ (y ++ []) = x ++ y; rw [List.append_nil])
set_option maxRecDepth 100000 in
theorem idKey : IdKey Tryz.prog 132 where
  law := idLaw
  ofId t k ht hk := by
    obtain ⟨n, hn⟩ := tySize
    unfold keyOf
    rw [Tryz.underlying132]
    dsimp only
    rw [idType]
    have hf : (idV t k).formed Tryz.prog 132 = true := by
      unfold idV Value.formed
      rw [Tryz.underlying132, idCells]
      rfl
    rw [hf]
    have e : (idV t k).cells.toList = [.int .i64 t, .int .i64 k] := rfl
    rw [if_pos (by decide), e, id_lits, hn]
    have e1 := (int_lits (d := n) (.int .i64 t) _).2 ⟨t, ht, rfl, rfl⟩
    have e2 := (int_lits (d := n) (.int .i64 k) _).2 ⟨k, hk, rfl, rfl⟩
    simp only [List.length_cons, List.length_nil, List.take_succ_cons, List.take_zero, List.drop_succ_cons, List.drop_zero, e1, e2]
    rfl
  inv v l h := by
    obtain ⟨n, hn⟩ := tySize
    unfold keyOf at h
    rw [Tryz.underlying132] at h
    dsimp only at h
    split at h
    case isFalse => cases h
    rename_i hf
    rw [idType, Bool.true_and] at hf
    rw [id_lits, hn] at h
    split at h
    case isFalse => cases h
    rename_i hl
    obtain ⟨x, y, hxy⟩ : ∃ x y, v.cells.toList = [x, y] := by
      match v.cells.toList, hl with
      | [x, y], _ => exact ⟨x, y, rfl⟩
    rw [hxy] at h
    simp only [List.take_succ_cons, List.take_zero, List.drop_succ_cons, List.drop_zero] at h
    rw [Option.map_eq_some_iff] at h
    obtain ⟨ls, h, rfl⟩ := h
    rw [Option.bind_eq_some_iff] at h
    obtain ⟨la, h1, h⟩ := h
    rw [Option.map_eq_some_iff] at h
    obtain ⟨lb, h2, rfl⟩ := h
    obtain ⟨a, ha, rfl, rfl⟩ := (int_lits _ _).1 h1
    obtain ⟨b, hb, rfl, rfl⟩ := (int_lits _ _).1 h2
    refine ⟨a, b, ha, hb, ?_⟩
    unfold Value.formed at hf
    rw [Tryz.underlying132] at hf
    cases v <;> simp at hf
    rename_i cs
    unfold idV
    congr 1
    exact Array.ext' hxy
end Go.Proofs.YtgbemgndbemllaaGreatDoor
