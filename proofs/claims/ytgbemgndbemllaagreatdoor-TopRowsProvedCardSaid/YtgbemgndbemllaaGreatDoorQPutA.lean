/- Walks of wire.groups and its iterator. -/
import Derived.Test.YtgbemgndbemllaaGreatDoorQRf
import Derived.Test.YtgbemgndbemllaaGreatDoorQBits
import Derived.Test.YtgbemgndbemllaaGreatDoorGc
import Derived.Test.YtgbemgndbemllaaGreatDoorChecked
import Derived.Shelf.Abstract
import Derived.Shelf.RegionOpen
import Derived.WalkSpells
import Derived.Lib.Hide
import Derived.WalkLawsBesides
namespace Go.Proofs.YtgbemgndbemllaaGreatDoor
open Go Go.RowKit Go.Shelf
attribute [local go_sem] Oper.semAt_some

def grpEnc (x : Nat × Bool) : Array Value := #[.int .u8 x.1, .bool x.2]

def cellNat (w : World) (a : Addr) : Nat := match w.cell? a with | some (.int _ q) => q.toNat | _ => 0

set_option maxHeartbeats 1000000 in
theorem groups1_in (F : Fence) (n : Nat) (hf : F.fn 104) (hro : F.round = none) (hn : 1 ≤ n) (l zb : Nat) (J : List (Nat × Bool) → World → Prop)
    (hset : ∀ pre W v v', J pre W → Boxed W zb 153 v → J pre (W.setCell ⟨zb, 0, none⟩ v'))
    (hY : ∀ pre x W v, J pre W → Boxed W zb 153 v → pre.length < 9 → x.1 < 128 → YieldAt F (n - 1) Tryz.prog l (grpEnc x) W fun e W' => e = .returned (.bool true) ∧ J (pre ++ [x]) W' ∧ Boxed W' zb 153 v)
    (z : Nat) (hz : z < 2 ^ 63) (W : World) (h0 : J [] W) (hb : Boxed W zb 153 (.int .u64 z)) :
    CallsIn F n Tryz.prog 104 #[.func (.yield l) #[] #[], .pointer (some ⟨zb, 0, none⟩)] W fun e W' => (∃ v, e = .returned v) ∧ J (grp 9 z) W' := by
  refine callsIn_of_wp Tryz.func104 rfl hf ?_ hro
  simp only [Tryz.ntmps104, List.size_toArray, List.length_cons, List.length_nil, Nat.reduceAdd, Nat.reduceSub, Array.replicate_succ, Array.replicate_zero, List.push_toArray, List.append_toArray, List.nil_append, List.cons_append]
  gi_wp2
  gi_loopw [3] (fun _ wr => ∃ (pre : List (Nat × Bool)) (f y : Nat), grp 9 z = pre ++ grp f y ∧ pre.length + f = 9 ∧ y < 2 ^ (7 * f) ∧ y < 2 ^ 63 ∧ 1 ≤ f ∧ Boxed wr zb 153 (.int .u64 y) ∧ J pre wr)
    (fun _ wr => cellNat wr ⟨zb, 0, none⟩)
  case atStart => exact ⟨[], 9, z, rfl, rfl, by omega, hz, by omega, hb, h0⟩
  case round =>
    obtain ⟨pre, f, y, hg, hpf, hyf, hy63, hf1, hbx, hJ⟩ := hrel
    have hc := hbx.cell
    have hfr := hbx.frozen
    by_cases hy : y < 128
    · obtain ⟨fn, tmps, assign, body, hy2, hR⟩ := hY pre (y, true) wr _ hJ hbx (by omega) hy
      dsimp only [grpEnc] at hy2
      have hd : decide ((y : Int) < 128) = true := by simp; omega
      have ha : bits BinOp.and IntKind.u64 (y : Int) 127 = (y : Int) := by rw [and127_u64 y (by omega), Nat.mod_eq_of_lt hy]
      have hm : (y : Int) % 256 = y := by omega
      have HP := Lib.hid hpf
      clear hyf hpf
      gi_wp2
      refine hR.mono ?_
      rintro e W' ⟨rfl, hJ', hbx'⟩
      gi_wp2
      refine bodyPost_ret (results_none rfl _ _ _) rfl ?_
      refine ⟨⟨_, rfl⟩, ?_⟩
      rw [hg, show f = (f - 1) + 1 by omega, grp, if_pos hy]
      exact hJ'
    · obtain ⟨fn, tmps, assign, body, hy2, hR⟩ := hY pre (y % 128, false) wr _ hJ hbx (by omega) (Nat.mod_lt _ (by omega))
      dsimp only [grpEnc] at hy2
      have hd : decide ((y : Int) < 128) = false := by simp; omega
      have e128 : ((y % 128 : Nat) : Int) = (y : Int) % 128 := by omega
      have ha : bits BinOp.and IntKind.u64 (y : Int) 127 = (y : Int) % 128 := by rw [and127_u64 y (by omega), e128]
      have hm : (y : Int) % 128 % 256 = (y : Int) % 128 := by omega
      rw [e128] at hy2
      clear e128
      have HF : Hid (y < 2 ^ (7 * f)) := hyf
      have HG := Lib.hid hg
      have HP := Lib.hid hpf
      clear hyf hg hpf
      gi_wp2
      refine hR.mono ?_
      rintro e W' ⟨rfl, hJ', hbx'⟩
      have hc' := hbx'.cell
      have hfr' := hbx'.frozen
      gi_wp2
      obtain ⟨f', rfl⟩ : ∃ f', f = f' + 1 := ⟨f - 1, by omega⟩
      have hpf := HP.out
      have hyf' : y < 2 ^ (7 * f' + 7) := by have := HF.out; rwa [Nat.mul_succ] at this
      rw [Nat.pow_add] at hyf'
      have hf2 : 1 ≤ f' := by
        rcases Nat.eq_zero_or_pos f' with h | h
        · subst h; simp at hyf'; omega
        · exact h
      refine ⟨⟨pre ++ [(y % 128, false)], f', y / 128, ?_, by simp; omega, Nat.div_lt_of_lt_mul (by omega), by omega, hf2, ?_, hset _ _ _ _ hJ' hbx'⟩, ?_⟩
      · rw [HG.out, grp, if_neg hy, List.append_assoc]; rfl
      · have := hbx'.set (Value.int IntKind.u64 ((y : Int) / 128))
        rwa [show ((y : Int) / 128) = ((y / 128 : Nat) : Int) by omega] at this ⊢
      · unfold cellNat
        rw [hc, World.cell?_setCell_same' _ _ _ (by rw [hc']; rfl)]
        simp only []
        omega
end Go.Proofs.YtgbemgndbemllaaGreatDoor
