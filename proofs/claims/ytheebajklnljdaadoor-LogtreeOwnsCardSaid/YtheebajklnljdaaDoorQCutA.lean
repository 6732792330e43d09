/- The law's cut: a record's first changes, in memory of their own. -/
import Derived.Test.YtheebajklnljdaaDoorQRcA
import Derived.Test.YtheebajklnljdaaDoorQSeqO
import Derived.Deep.DrawnRows
import Derived.Laws.AppendOwnNone
namespace Go.Proofs.YtheebajklnljdaaDoor
open Go Go.RowKit
attribute [local go_sem] Oper.semAt_some

theorem wp_append_none {P : Program} {w : World} {o : Oper} {a : Act} {K : Act → World → Prop} {Q : Exit → Act → World → Prop} (s x : Operand) (t : TypeId)
    (ho : o.op = .call { callee := .builtin .append, args := #[s, x], argTypes := #[t, t] })
    (base : Nat) (e : TypeId) (i : TypeInfo) (size : Nat) (ht : P.underlying t = some (.slice e)) (hi : P.info? e = some i)
    (v : Value) (n : Nat) (xs : List Value) (hs : a.eval s = v) (hown : w.ownsRow base e size v n xs) (hx : a.eval x = .slice none 0 0)
    (h : K (a.put o.dst v) w) : o.wp P a w K Q := by
  have hrun := run_append_owned_none (P := P) (w := w) base t o.type e i size ht hi v n xs hown
  unfold Oper.wp
  simp [execOp, ho, resolve, invoke, builtin, hs, hx, hrun, Result.andThen]
  exact h

theorem chgs_take {w : World} {g o : Nat} {l : List Chg} (h : ∀ (j : Nat) x, l[j]? = some x → ∀ (i : Nat) u, (chgCells x)[i]? = some u → w.cell? ⟨g, o + j * 10 + i, none⟩ = some u) (m : Nat) :
    ∀ (j : Nat) x, (l.take m)[j]? = some x → ∀ (i : Nat) u, (chgCells x)[i]? = some u → w.cell? ⟨g, o + j * 10 + i, none⟩ = some u := by
  intro j x hx
  rw [List.getElem?_take] at hx
  split at hx
  · exact h j x hx
  · cases hx

set_option maxRecDepth 100000 in
set_option maxHeartbeats 1000000 in
theorem cut_ok (p : Int) (A : Option Addr) (c : Nat) (l : List Chg) (w : World) (hv : ChgsAt w (.slice A l.length c) l) (hA : A = none → c = 0) (hcm : c ≤ maxLen) :
    Calls Tryd.prog 15 #[recV p (.slice A l.length c)] w fun e w' => ∃ A' c', e = .returned (recV p (.slice A' (l.take 10).length c')) ∧ w'.ownsRow w.heap.size 45 10 (.slice A' (l.take 10).length c') (l.take 10).length ((l.take 10).flatMap chgCells) ∧ Below w.heap.size w w' := by
  unfold recV
  obtain ⟨i0, hi0, hz0, hz1, hz2⟩ := info_chg
  obtain ⟨m, hm⟩ : ∃ m, m = (l.take 10).length := ⟨_, rfl⟩
  have hm10 : m ≤ 10 := by rw [hm, List.length_take]; omega
  have hml : m ≤ l.length := by rw [hm, List.length_take]; omega
  have hmin : ∀ W, (Builtin.min_ #[ 3, 3 ] 3 #[.int .i64 (l.length : Int), .int .i64 10]).run Tryd.prog W = .ok (.int .i64 (m : Int)) W := by
    intro W
    have : min (l.length : Int) 10 = (m : Int) := by rw [hm, List.length_take]; omega
    rw [← this]
    simp [Builtin.min_, Builtin.min2]
    omega
  rw [← hm]
  have hcl : l.length ≤ c := by
    obtain ⟨A', c', e, h, _⟩ := hv
    injection e with _ _ e3
    omega
  have q1 : (0 : Int) ≤ (m : Int) := by omega
  have q2 : (m : Int) ≤ (c : Int) := by omega
  have al := Below.alloc (Below.alloc (Below.refl w.heap.size w) (Nat.le_refl _) (.cells #[.int .i64 p, .slice A l.length c] 34)) (by rw [World.size_alloc]; omega) (.cells #[.int .i64 0, .slice none 0 0] 34)
  have K0 := (BlkIs.new w 34 #[.int .i64 p, .slice A l.length c]).alloc (.cells #[.int .i64 0, .slice none 0 0] 34)
  have K1 := BlkIs.new (w.alloc (.cells #[.int .i64 p, .slice A l.length c] 34)) 34 #[.int .i64 0, .slice none 0 0]
  rw [World.size_alloc] at K1
  have AL := Lib.hid al
  have HK0 := Lib.hid K0
  have HK1 := Lib.hid K1
  have HM := Lib.hid hm
  have HV := Lib.hid hv
  clear al K0 K1 hm hv
  go_enter Tryd.func15, Tryd.ntmps15
  go_wp2_with fail
  generalize (w.alloc (.cells #[.int .i64 p, .slice A l.length c] 34)).alloc (.cells #[.int .i64 0, .slice none 0 0] 34) = w2 at *
  have hle2 := AL.out.size
  refine wp_region_noPanic ?_
  refine wp_region_ord (fun W => W.cell? ⟨w.heap.size, 0, none⟩ = some (.int .i64 p) ∧ W.cell? ⟨w.heap.size, 1, none⟩ = some (.slice A l.length c)) [(0, false), (1, false), (3, false), (4, false), (5, false), (6, false), (7, false), (8, false), (9, false), (2, true), (10, true), (11, true), (12, true)] (by kernel_rfl) (by as_aux_lemma => kernel_rfl) (by rfl) (by as_aux_lemma => kernel_rfl) (fun _ _ _ _ _ h => h) ⟨HK0.out.cell 0, HK0.out.cell 1⟩ (fun hHeld => ?_)
  repeat (
    apply SeqO.take0
    case ho => exact rfl
    case hg => exact rfl
    case hy => (intro w hSw; (try dsimp only at hSw); go_simp; try with_reducible rfl)
    try simp only [Act.put, List.setIfInBounds_toArray, List.set_cons_zero, List.set_cons_succ])
  apply SeqO.step0
  case ho => exact rfl
  case hg => exact rfl
  intro K hK
  go_simp
  have h3a := (HK0.out.alloc (.cells #[] 45)).drew
  have h3b := (HK1.out.alloc (.cells #[] 45)).drew
  have b3 : Below w.heap.size w (w2.alloc (.cells #[] 45)).drew := Below.drew (Below.alloc AL.out hle2 _)
  refine hK.out _ _ ⟨h3a.cell 0, h3a.cell 1⟩ (fun hHeld => ?_)
  clear hK K
  have own3 : (w2.alloc (.cells #[] 45)).drew.ownsRow w.heap.size 45 10 (.slice (some ⟨w2.heap.size, 0, none⟩) 0 0) 0 [] := (World.ownsRow_made w2 #[] 0 hle2 (Nat.zero_le _) rfl).drew
  generalize (w2.alloc (.cells #[] 45)).drew = w3 at *
  have hnews : ∀ ad, A = some ad → ∀ (j : Nat) u, ((l.take 10).flatMap chgCells)[j]? = some u → w3.cell? (ad.add j) = some u := by
    intro ad hAd j u hu
    obtain ⟨A', c', e, _, hx⟩ := HV.out
    injection e with e1 e2 e3
    subst e1
    by_cases h0 : 0 < l.length
    · obtain ⟨g, o, hA', hg, hj⟩ := hx h0
      rw [hAd] at hA'
      obtain rfl := Option.some.inj hA'
      exact (b3.cell (p := (⟨g, o, none⟩ : Addr).add j) (by rw [block_add]; exact hg)).trans (chgs_cells (chgs_take hj 10) j u hu)
    · have : l = [] := List.eq_nil_of_length_eq_zero (by omega)
      subst this
      simp at hu
  have hle3 := b3.size
  have HNW := Lib.hid hnews
  clear hnews
  apply SeqO.step0
  case ho => exact rfl
  case hg => exact rfl
  intro K hK
  rcases A with _ | ad
  · obtain rfl := hA rfl
    obtain rfl : m = 0 := by omega
    refine wp_append_none (.tmp 5) (.tmp 12) 32 rfl w.heap.size 45 i0 10 Tryd.underlying32 hi0 _ 0 [] rfl own3 rfl ?_
    have own5 : w3.ownsRow w.heap.size 45 10 (.slice (some ⟨w2.heap.size, 0, none⟩) 0 0) 0 ((l.take 10).flatMap chgCells) := by
      have : l = [] := List.eq_nil_of_length_eq_zero (by omega)
      subst this
      exact own3
    have k0 := h3a
    have k1 := h3b
    have b5 := b3
    have hle5 := b5.size
    clear own3 h3a h3b b3 hHeld
    refine hK.out _ _ ⟨k0.cell 0, k0.cell 1⟩ (fun hHeld => ?_)
    clear hK K
    try simp only [Act.put, List.setIfInBounds_toArray, List.set_cons_zero, List.set_cons_succ]
    apply SeqO.take0
    case ho => exact rfl
    case hg => exact rfl
    case hy => (intro w hSw; (try dsimp only at hSw); go_simp; try with_reducible rfl)
    try simp only [Act.put, List.setIfInBounds_toArray, List.set_cons_zero, List.set_cons_succ]
    apply SeqO.step0
    case ho => exact rfl
    case hg => exact rfl
    intro K hK
    have z0 : w3.cell? ⟨w.heap.size + 1, 0, none⟩ = some (.int .i64 0) := k1.cell 0
    have z1 : w3.cell? ⟨w.heap.size + 1, 1, none⟩ = some (.slice none 0 0) := k1.cell 1
    have f0 := k1.frozen 0
    have f1 := k1.frozen 1
    have s0 := (k1.set 0 (.int .i64 p)).set 1 (.slice (some ⟨w2.heap.size, 0, none⟩) 0 0)
    have s1 := (k0.other (p := ⟨w.heap.size + 1, 0, none⟩) (by simp) (.int .i64 p)).other (p := ⟨w.heap.size + 1, 1, none⟩) (by simp) (.slice (some ⟨w2.heap.size, 0, none⟩) 0 0)
    have s2 := (b5.setCell (p := ⟨w.heap.size + 1, 0, none⟩) (Nat.le_succ _) (.int .i64 p)).setCell (p := ⟨w.heap.size + 1, 1, none⟩) (Nat.le_succ _) (.slice (some ⟨w2.heap.size, 0, none⟩) 0 0)
    have s3 : ((w3.setCell ⟨w.heap.size + 1, 0, none⟩ (.int .i64 p)).setCell ⟨w.heap.size + 1, 1, none⟩ (.slice (some ⟨w2.heap.size, 0, none⟩) 0 0)).ownsRow w.heap.size 45 10 (.slice (some ⟨w2.heap.size, 0, none⟩) 0 0) 0 ((l.take 10).flatMap chgCells) := by
      have hO : Only (fun k => k = w.heap.size + 1) w3 ((w3.setCell ⟨w.heap.size + 1, 0, none⟩ (.int .i64 p)).setCell ⟨w.heap.size + 1, 1, none⟩ (.slice (some ⟨w2.heap.size, 0, none⟩) 0 0)) := by
        refine Only.trans (Only.setCell (S := fun k => k = w.heap.size + 1) w3 ⟨w.heap.size + 1, 0, none⟩ _ ?_) (Only.setCell (S := fun k => k = w.heap.size + 1) _ ⟨w.heap.size + 1, 1, none⟩ _ ?_) <;> rfl
      have hgg : w3.grownBy _ (some (w.heap.size + 1)) := ⟨hO.os, hO.tape, hO.output, hO.size, fun k hk hn => hO.block k hk fun e => hn (e ▸ rfl)⟩
      exact own5.kept hgg (.inr (k1.not_row (by decide) own5).symm)
    have S0 := Lib.hid s0
    have S1 := Lib.hid s1
    have S2 := Lib.hid s2
    have S3 := Lib.hid s3
    clear s0 s1 s2 s3 k0 k1 b5 own5
    go_simp
    refine hK.out _ _ ⟨S1.out.cell 0, S1.out.cell 1⟩ (fun hHeld => ?_)
    clear hK K hHeld
    try simp only [Act.put, List.setIfInBounds_toArray, List.set_cons_zero, List.set_cons_succ]
    refine SeqO.done ?_
    refine NoPanic.normal ?_
    generalize (w3.setCell ⟨w.heap.size + 1, 0, none⟩ (.int .i64 p)).setCell ⟨w.heap.size + 1, 1, none⟩ (.slice (some ⟨w2.heap.size, 0, none⟩) 0 0) = w6 at *
    have r0 : w6.cell? ⟨w.heap.size + 1, 0, none⟩ = some (.int .i64 p) := S0.out.cell 0
    have r1 : w6.cell? ⟨w.heap.size + 1, 1, none⟩ = some (.slice (some ⟨w2.heap.size, 0, none⟩) 0 0) := S0.out.cell 1
    go_wp2_with fail
    refine bodyPost_ret (by simp [results, Tryd.results15, go_sem, r0, r1]; try rfl) rfl ?_
    exact ⟨_, _, rfl, S3.out, S2.out⟩
  · have hfl : ((l.take 10).flatMap chgCells).length = m * 10 := by rw [flat_len chgCells 10 chgCells_len, HM.out]
    refine wp_append_own w3 (.tmp 5) (.tmp 12) 32 rfl w.heap.size 45 i0 (.agg #[.int .i64 0, .int .i64 0, .bool false, .int .i64 0, .int .i64 0, .int .i64 0, .bool false, .int .i64 0, .int .i64 0, .int .i64 0]) 10 80 Tryd.underlying32 hi0 hz0 hz1 hz2 rfl (by decide) _ 0 [] rfl own3 ad m c ((l.take 10).flatMap chgCells) rfl hfl (HNW.out ad rfl) (chgs_one _) (by unfold maxLen; omega) (by omega) hle3 ?_
    intro v5 w5 own5 g5 _
    have k0 := h3a.kept g5 (h3a.not_row (by decide) own3)
    have k1 := h3b.kept g5 (h3b.not_row (by decide) own3)
    have b5 := below_fresh b3 hle3 g5 (fun k hk => (own3.lt k hk).1)
    rw [Nat.zero_add, List.nil_append] at own5
    obtain ⟨A5, c5, rfl, -, -, -⟩ := ownsRow_form own5
    have hle5 := b5.size
    clear own3 h3a h3b b3 hHeld g5 hfl
    refine hK.out _ _ ⟨k0.cell 0, k0.cell 1⟩ (fun hHeld => ?_)
    clear hK K
    try simp only [Act.put, List.setIfInBounds_toArray, List.set_cons_zero, List.set_cons_succ]
    apply SeqO.take0
    case ho => exact rfl
    case hg => exact rfl
    case hy => (intro w hSw; (try dsimp only at hSw); go_simp; try with_reducible rfl)
    try simp only [Act.put, List.setIfInBounds_toArray, List.set_cons_zero, List.set_cons_succ]
    apply SeqO.step0
    case ho => exact rfl
    case hg => exact rfl
    intro K hK
    have z0 : w5.cell? ⟨w.heap.size + 1, 0, none⟩ = some (.int .i64 0) := k1.cell 0
    have z1 : w5.cell? ⟨w.heap.size + 1, 1, none⟩ = some (.slice none 0 0) := k1.cell 1
    have f0 := k1.frozen 0
    have f1 := k1.frozen 1
    have s0 := (k1.set 0 (.int .i64 p)).set 1 (.slice A5 m c5)
    have s1 := (k0.other (p := ⟨w.heap.size + 1, 0, none⟩) (by simp) (.int .i64 p)).other (p := ⟨w.heap.size + 1, 1, none⟩) (by simp) (.slice A5 m c5)
    have s2 := (b5.setCell (p := ⟨w.heap.size + 1, 0, none⟩) (Nat.le_succ _) (.int .i64 p)).setCell (p := ⟨w.heap.size + 1, 1, none⟩) (Nat.le_succ _) (.slice A5 m c5)
    have s3 : ((w5.setCell ⟨w.heap.size + 1, 0, none⟩ (.int .i64 p)).setCell ⟨w.heap.size + 1, 1, none⟩ (.slice A5 m c5)).ownsRow w.heap.size 45 10 (.slice A5 m c5) m ((l.take 10).flatMap chgCells) := by
      have hO : Only (fun k => k = w.heap.size + 1) w5 ((w5.setCell ⟨w.heap.size + 1, 0, none⟩ (.int .i64 p)).setCell ⟨w.heap.size + 1, 1, none⟩ (.slice A5 m c5)) := by
        refine Only.trans (Only.setCell (S := fun k => k = w.heap.size + 1) w5 ⟨w.heap.size + 1, 0, none⟩ _ ?_) (Only.setCell (S := fun k => k = w.heap.size + 1) _ ⟨w.heap.size + 1, 1, none⟩ _ ?_) <;> rfl
      have hgg : w5.grownBy _ (some (w.heap.size + 1)) := ⟨hO.os, hO.tape, hO.output, hO.size, fun k hk hn => hO.block k hk fun e => hn (e ▸ rfl)⟩
      exact own5.kept hgg (.inr (k1.not_row (by decide) own5).symm)
    have S0 := Lib.hid s0
    have S1 := Lib.hid s1
    have S2 := Lib.hid s2
    have S3 := Lib.hid s3
    clear s0 s1 s2 s3 k0 k1 b5 own5
    go_simp
    refine hK.out _ _ ⟨S1.out.cell 0, S1.out.cell 1⟩ (fun hHeld => ?_)
    clear hK K hHeld
    try simp only [Act.put, List.setIfInBounds_toArray, List.set_cons_zero, List.set_cons_succ]
    refine SeqO.done ?_
    refine NoPanic.normal ?_
    generalize (w5.setCell ⟨w.heap.size + 1, 0, none⟩ (.int .i64 p)).setCell ⟨w.heap.size + 1, 1, none⟩ (.slice A5 m c5) = w6 at *
    have r0 : w6.cell? ⟨w.heap.size + 1, 0, none⟩ = some (.int .i64 p) := S0.out.cell 0
    have r1 : w6.cell? ⟨w.heap.size + 1, 1, none⟩ = some (.slice A5 m c5) := S0.out.cell 1
    go_wp2_with fail
    refine bodyPost_ret (by simp [results, Tryd.results15, go_sem, r0, r1]; try rfl) rfl ?_
    exact ⟨_, _, rfl, S3.out, S2.out⟩
end Go.Proofs.YtheebajklnljdaaDoor
