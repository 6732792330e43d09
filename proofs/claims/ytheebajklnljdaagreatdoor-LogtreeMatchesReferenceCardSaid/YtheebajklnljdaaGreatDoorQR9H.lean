/- Append of the reference's log (written by wip/mk_r9h.py). -/
import Derived.Test.YtheebajklnljdaaGreatDoorGv
import Derived.Test.YtheebajklnljdaaGreatDoorGw
import Derived.Test.YtheebajklnljdaaGreatDoorGo
import Derived.Deep.AppendLies
namespace Go.Proofs.YtheebajklnljdaaGreatDoor
open Go Go.RowKit
attribute [local go_sem] Oper.semAt_some

/-- the log, with the values of its parts -/
structure RLogP (W : World) (S : Nat → Prop) (b : Nat) (rv hv : Value) (ps : List (Rec × Value)) (hs : List Hd) : Prop where
  blk : BlkIs W b 39 [rv, hv]
  sb : S b
  rrow : W.ownsRow 0 35 2 rv ps.length (ps.flatMap recCells)
  rin : ∀ k, rv.ownBlock = some k → S k
  chs : ∀ p ∈ ps, ChgsOwn W S p.2 p.1.chs
  hrow : W.ownsRow 0 46 3 hv hs.length (hs.flatMap hdCells)
  hin : ∀ k, hv.ownBlock = some k → S k
variable {w W W' : World} {S : Nat → Prop} {b : Nat} {rv hv : Value} {ps : List (Rec × Value)} {hs : List Hd}
theorem RLogP.later (h : RLogP W S b rv hv ps hs) (hb : Below W.heap.size W W') : RLogP W' S b rv hv ps hs :=
  ⟨h.blk.later hb, h.sb, ownsRow_later hb h.rrow, h.rin, fun p hp => (h.chs p hp).later hb, ownsRow_later hb h.hrow, h.hin⟩
theorem RLogP.mono {T : Nat → Prop} (h : RLogP W S b rv hv ps hs) (hs' : ∀ k, S k → T k) : RLogP W T b rv hv ps hs :=
  ⟨h.blk, hs' b h.sb, h.rrow, fun k hk => hs' k (h.rin k hk), fun p hp => (h.chs p hp).mono hs', h.hrow, fun k hk => hs' k (h.hin k hk)⟩
theorem RLogP.log (h : RLogP W S b rv hv ps hs) : RLogAt W S b ⟨ps.map (·.1), hs⟩ := ⟨rv, hv, h.blk, h.sb, ⟨ps, rfl, h.rrow, h.rin, h.chs⟩, h.hrow, h.hin⟩
theorem RLogAt.open_ {x : Lg} (h : RLogAt W S b x) : ∃ rv hv ps, RLogP W S b rv hv ps x.heads ∧ ps.map (·.1) = x.recs := by
  obtain ⟨rv, hv, h1, h2, ⟨ps, h3, h4, h5, h6⟩, h7, h8⟩ := h
  exact ⟨rv, hv, ps, ⟨h1, h2, h4, h5, h6, h7, h8⟩, h3⟩

theorem RLogP.recd (h : RLogP W S b rv hv ps hs) {r : Rec} {cv v' : Value} (hg : W.grownBy W' rv.ownBlock) (own : W'.ownsRow 0 35 2 v' (ps.length + 1) (ps.flatMap recCells ++ recCells (r, cv))) (hv' : ∀ k, v'.ownBlock = some k → S k)
    (hc : ChgsOwn W S cv r.chs) : RLogP (W'.setCell ⟨b, 0, none⟩ v') S b v' hv (ps ++ [(r, cv)]) hs ∧ Only S W (W'.setCell ⟨b, 0, none⟩ v') := by
  have hkc : ∀ {v : Value} {l : List Chg} {Z : Nat → Prop}, ChgsOwn W Z v l → v.ownBlock = none ∨ v.ownBlock ≠ rv.ownBlock := fun hz => rows_apart2 h.rrow hz.1 (by decide)
  have b1 : BlkIs W' b 39 [rv, hv] := (hg.block b h.blk.lt (h.blk.not_row (by decide) h.rrow)).trans h.blk
  have row1 : W'.ownsRow 0 35 2 v' (ps ++ [(r, cv)]).length ((ps ++ [(r, cv)]).flatMap recCells) := by
    rw [List.length_append, List.length_singleton, List.flatMap_append]
    simpa using own
  have hO := Only.setCell (S := fun k => k = b) W' ⟨b, 0, none⟩ v' rfl
  have hG := grown_of_only hO
  have nr : ∀ {e : TypeId} {size n : Nat} {v : Value} {xs : List Value}, 39 ≠ e → W'.ownsRow 0 e size v n xs → v.ownBlock = none ∨ v.ownBlock ≠ some b := fun he hr => .inr fun e => b1.not_row he hr e.symm
  have cs1 : ∀ p ∈ ps ++ [(r, cv)], ChgsOwn W' S p.2 p.1.chs := by
    intro p hp
    rcases List.mem_append.1 hp with hp | hp
    · exact (h.chs p hp).kept hg (hkc (h.chs p hp))
    · rw [List.mem_singleton] at hp
      subst hp
      exact hc.kept hg (hkc hc)
  have h1 : W'.ownsRow 0 46 3 hv hs.length (hs.flatMap hdCells) := h.hrow.kept hg (rows_apart2 h.rrow h.hrow (by decide))
  exact ⟨⟨b1.set 0 v', h.sb, row1.kept hG (nr (by decide) row1), hv', fun p hp => (cs1 p hp).kept hG (nr (by decide) (cs1 p hp).1), h1.kept hG (nr (by decide) h1), h.hin⟩,
    (Only.grown hg h.rin).trans (Only.setCell W' ⟨b, 0, none⟩ v' h.sb)⟩
theorem RLogP.headd (h : RLogP W S b rv hv ps hs) {y : Hd} {v' : Value} (hg : W.grownBy W' hv.ownBlock) (own : W'.ownsRow 0 46 3 v' (hs.length + 1) (hs.flatMap hdCells ++ hdCells y)) (hv' : ∀ k, v'.ownBlock = some k → S k) :
    RLogP (W'.setCell ⟨b, 1, none⟩ v') S b rv v' ps (hs ++ [y]) ∧ Only S W (W'.setCell ⟨b, 1, none⟩ v') := by
  have b1 : BlkIs W' b 39 [rv, hv] := (hg.block b h.blk.lt (h.blk.not_row (by decide) h.hrow)).trans h.blk
  have row1 : W'.ownsRow 0 46 3 v' (hs ++ [y]).length ((hs ++ [y]).flatMap hdCells) := by
    rw [List.length_append, List.length_singleton, List.flatMap_append]
    simpa using own
  have hO := Only.setCell (S := fun k => k = b) W' ⟨b, 1, none⟩ v' rfl
  have hG := grown_of_only hO
  have nr : ∀ {e : TypeId} {size n : Nat} {v : Value} {xs : List Value}, 39 ≠ e → W'.ownsRow 0 e size v n xs → v.ownBlock = none ∨ v.ownBlock ≠ some b := fun he hr => .inr fun e => b1.not_row he hr e.symm
  have r1 : W'.ownsRow 0 35 2 rv ps.length (ps.flatMap recCells) := h.rrow.kept hg (rows_apart2 h.hrow h.rrow (by decide))
  have cs1 : ∀ p ∈ ps, ChgsOwn W' S p.2 p.1.chs := fun p hp => (h.chs p hp).kept hg (rows_apart2 h.hrow (h.chs p hp).1 (by decide))
  exact ⟨⟨b1.set 1 v', h.sb, r1.kept hG (nr (by decide) r1), h.rin, fun p hp => (cs1 p hp).kept hG (nr (by decide) (cs1 p hp).1), row1.kept hG (nr (by decide) row1), hv'⟩,
    (Only.grown hg h.hin).trans (Only.setCell W' ⟨b, 1, none⟩ v' h.sb)⟩

theorem hd_one (h : Hd) : ∀ u ∈ hdCells h, u.oneCell' = true := by
  intro u hu
  unfold hdCells at hu
  simp only [List.mem_cons, List.not_mem_nil, or_false] at hu
  rcases hu with rfl | rfl | rfl <;> rfl

set_option maxRecDepth 100000 in
set_option maxHeartbeats 2000000 in
theorem rappend_ok {x : Lg} (h : RLogAt w S b x) (good : Good x) (hS : ∀ k, S k → k < w.heap.size) (p : Int) (A : Option Addr) (c : Nat) (l : List Chg) (st : List UInt8) (hv : ChgsAt w (.slice A l.length c) l) :
    Calls Tryz.prog 13 #[.pointer (some ⟨b, 0, none⟩), recV p (.slice A l.length c), .string (str st)] w fun e w' => e = .returned (.int .i64 (appA x ⟨p, l⟩ st).2) ∧ RLogAt w' (fun k => S k ∨ w.heap.size ≤ k) b (appA x ⟨p, l⟩ st).1 ∧ Only S w w' := by
  obtain ⟨rv, hvv, ps, P0, hps⟩ := h.open_
  obtain ⟨A1, c1, A2, c2, k1, k2, l1, l2, hb, -, hh⟩ := h.parts
  have hlen := good.len
  have hsm := good.small
  obtain ⟨m, hm⟩ : ∃ m, m = x.recs.length := ⟨_, rfl⟩
  obtain ⟨N, hN⟩ : ∃ N, N = x.heads.length := ⟨_, rfl⟩
  have hlast := good.last
  obtain ⟨z, hz⟩ : ∃ z, z = lastH x := ⟨_, rfl⟩
  rw [← hz, ← hm] at hlast
  obtain ⟨g, c', e0, -, hg, -, y0, y1, y2⟩ := hh.at_ hlast
  injection e0 with e1 _ e3
  subst e1 e3
  rw [← hm] at k1 l1
  rw [← hN] at k2 l2
  have hNm : N = m + 1 := by omega
  have hrv : rv = .slice A1 m c1 := by
    have := P0.blk.cell 0
    rw [k1] at this
    simpa using this.symm
  have hhv : hvv = .slice (some ⟨g, 0, none⟩) N c2 := by
    have := P0.blk.cell 1
    rw [k2] at this
    simpa using this.symm
  subst hrv hhv
  obtain ⟨y, hy⟩ : ∃ y, y = (nextA z ⟨p, l⟩ st).1 := ⟨_, rfl⟩
  obtain ⟨E, hE⟩ : ∃ y, y = (nextA z ⟨p, l⟩ st).2 := ⟨_, rfl⟩
  have happ : (E = 0 → appA x ⟨p, l⟩ st = (⟨x.recs ++ [⟨p, l⟩], x.heads ++ [y]⟩, 0) ∧ 1 ≤ l.length ∧ l.length ≤ 8) ∧ (E ≠ 0 → E = 90 ∧ appA x ⟨p, l⟩ st = (x, 90)) := by
    constructor
    · intro h0
      refine ⟨by unfold appA; rw [← hz, ← hE, ← hy, if_pos h0], ?_⟩
      rcases nextA_cases z ⟨p, l⟩ st with ⟨h1, _⟩ | ⟨_, h5⟩
      · have := recB_pos h1
        exact ⟨this.2.2.1, this.2.2.2⟩
      · rw [hE, h5] at h0; exact absurd h0 (by decide)
    · intro h0
      refine ⟨?_, by unfold appA; rw [← hz, ← hE, if_neg h0]⟩
      rcases nextA_cases z ⟨p, l⟩ st with ⟨_, _, _, _, h5⟩ | ⟨_, h5⟩
      · rw [hE, h5] at h0; exact absurd rfl h0
      · rw [hE, h5]
  obtain ⟨AX, hAX⟩ : ∃ X, X = appA x ⟨p, l⟩ st := ⟨_, rfl⟩
  rw [← hAX] at happ ⊢
  clear hAX
  obtain ⟨w0, hw0⟩ : ∃ W, W = w.alloc (.cells #[.int .i64 p, .slice A l.length c] 35) := ⟨_, rfl⟩
  have al0 : Below w.heap.size w w0 := by rw [hw0]; exact Below.alloc1 w _
  have R0 : BlkIs w0 w.heap.size 35 [.int .i64 p, .slice A l.length c] := by rw [hw0]; exact BlkIs.new w _ _
  have hnx := fun W (hW : Below w.heap.size w W) => r9next_ok z p A c l st W (hv.below hW)
  rw [← hy, ← hE] at hnx
  have cz : ∀ W, Below w.heap.size w W → BlkIs W w.heap.size 35 [.int .i64 p, .slice A l.length c] → W.cell? ⟨b, 1, none⟩ = some (.slice (some ⟨g, 0, none⟩) N c2) ∧ (W.cell? ⟨g, m * 3, none⟩ = some (.int .i64 z.pos) ∧ W.cell? ⟨g, m * 3 + 1, none⟩ = some (.string (str z.chain)) ∧ W.cell? ⟨g, m * 3 + 2, none⟩ = some (.string (str z.state))) ∧ W.cell? ⟨w.heap.size, 0, none⟩ = some (.int .i64 p) ∧ W.cell? ⟨w.heap.size, 1, none⟩ = some (.slice A l.length c) := by
    intro W hW hr
    exact ⟨(hW.cell (p := ⟨b, 1, none⟩) hb).trans k2, ⟨(hW.cell (p := ⟨g, m * 3, none⟩) hg).trans y0, (hW.cell (p := ⟨g, m * 3 + 1, none⟩) hg).trans y1, (hW.cell (p := ⟨g, m * 3 + 2, none⟩) hg).trans y2⟩, hr.cell 0, hr.cell 1⟩
  have CZ := Lib.hid cz
  have HNX := Lib.hid hnx
  have HAPP := Lib.hid happ
  have HW0 := Lib.hid hw0
  have HP0 := Lib.hid P0
  have HPS := Lib.hid hps
  have HV := Lib.hid hv
  have HSS := Lib.hid hS
  have HMM := Lib.hid hm
  have HLOG := Lib.hid h
  have HHL : x.heads.length = N := hN.symm
  have HHL := Lib.hid HHL
  unfold hdV recV at HNX
  unfold recV
  have hlastI : (N : Int) - 1 = (m : Int) := by omega
  have q0 : (0 : Int) ≤ (m : Int) := by omega
  have q1 : (m : Int) < (N : Int) := by omega
  have hN2 : N ≤ 10001 := by omega
  have i5 : IntKind.i64.wrap (m : Int) = (m : Int) := IntWalk.i64_in _ (by omega)
  have i4 : IntKind.i64.wrap ((N : Int) - 1) = (m : Int) := by rw [hlastI]; exact i5
  clear hNm
  clear cz hnx happ hw0 P0 hps hv hS hm h hlast hz hy hE hlen hsm hh good k1 k2 y0 y1 y2 hN
  have bd : Below w.heap.size w w0 := al0
  clear al0
  go_enter Tryz.func13, Tryz.ntmps13
  go_wp2_with fail
  rw [← HW0.out]
  replace R0 := R0.later (Below.drew (Below.refl _ _))
  replace bd := Below.drew bd
  refine wp_region_noPanic ?_
  refine wp_region_ordG (fun W => W.cell? ⟨b, 1, none⟩ = some (.slice (some ⟨g, 0, none⟩) N c2) ∧ (W.cell? ⟨g, m * 3, none⟩ = some (.int .i64 z.pos) ∧ W.cell? ⟨g, m * 3 + 1, none⟩ = some (.string (str z.chain)) ∧ W.cell? ⟨g, m * 3 + 2, none⟩ = some (.string (str z.state))) ∧ W.cell? ⟨w.heap.size, 0, none⟩ = some (.int .i64 p) ∧ W.cell? ⟨w.heap.size, 1, none⟩ = some (.slice A l.length c)) [(0, false), (1, false), (2, false), (3, false), (4, false), (5, false), (6, false), (7, false), (8, false), (9, false), (10, false), (11, false), (12, false), (13, false)] 16383 7 (by kernel_rfl) (by as_aux_lemma => kernel_rfl) (by rfl) (by as_aux_lemma => kernel_rfl) (fun _ _ _ _ _ h => h) (CZ.out _ bd R0) (fun hHeld => ?_)
  repeat (
    apply SeqF.take0
    case ho => exact rfl
    case hg => exact rfl
    case hy => (intro w hSw; (try dsimp only at hSw); go_simp; try with_reducible rfl)
    try simp only [Act.put, List.setIfInBounds_toArray, List.set_cons_zero, List.set_cons_succ])
  refine SeqF.done ?_
  refine two_ready (i := 14) (j := 18) (oi := ?oi1) (oj := ?oj1) ?hr1 ?hi1 ?hgi1 ?hj1 ?hgj1 (fun K hK => ?one1) (fun K hK => ?two1)
  case hi1 => exact rfl
  case hj1 => exact rfl
  case hr1 => kernel_rfl
  case hgi1 => exact rfl
  case hgj1 => exact rfl
  case one1 =>
    go_simp
    go_at_call 29
    with_reducible refine (HNX.out _ bd).mono ?_
    rintro e w4 ⟨rfl, b4⟩
    replace bd := Below.next bd b4
    replace R0 := R0.later b4
    go_wp2_with fail
    refine hK.out _ _ (CZ.out _ bd R0) (fun _ => ?_)
    clear hK K b4
    try simp only [Act.put, List.setIfInBounds_toArray, List.set_cons_zero, List.set_cons_succ]
    refine seqG_end [(15, false), (16, false), (17, false), (18, true), (19, true), (20, true)] _ 2097151 _ (by rfl) (by as_aux_lemma => kernel_rfl) (by as_aux_lemma => kernel_rfl) (by as_aux_lemma => kernel_rfl) (fun _ _ _ _ _ h => h) (CZ.out _ bd R0) ?_
    repeat (
      apply SeqF.take0
      case ho => exact rfl
      case hg => exact rfl
      case hy => (intro w hSw; (try dsimp only at hSw); go_simp; try with_reducible rfl)
      try simp only [Act.put, List.setIfInBounds_toArray, List.set_cons_zero, List.set_cons_succ])
    apply SeqF.step0
    case ho => exact rfl
    case hg => exact rfl
    intro K hK
    go_simp
    have bn := Below.alloc1 w4 (.cells #[.int .i64 0, .string ⟨#[]⟩, .string ⟨#[]⟩] 46)
    have KN := BlkIs.new w4 46 #[.int .i64 0, .string ⟨#[]⟩, .string ⟨#[]⟩]
    have hNl : w.heap.size + 1 ≤ w4.heap.size := by have := R0.lt; (try simp at this); omega
    generalize w4.alloc (.cells #[.int .i64 0, .string ⟨#[]⟩, .string ⟨#[]⟩] 46) = w5 at *
    replace bd := Below.next bd bn
    replace R0 := R0.later bn
    refine hK.out _ _ (CZ.out _ bd R0) (fun _ => ?_)
    clear hK K bn
    try simp only [Act.put, List.setIfInBounds_toArray, List.set_cons_zero, List.set_cons_succ]
    apply SeqF.step0
    case ho => exact rfl
    case hg => exact rfl
    intro K hK
    have z0 : w5.cell? ⟨w4.heap.size, 0, none⟩ = some (.int .i64 0) := KN.cell 0
    have z1 : w5.cell? ⟨w4.heap.size, 1, none⟩ = some (.string ⟨#[]⟩) := KN.cell 1
    have z2 : w5.cell? ⟨w4.heap.size, 2, none⟩ = some (.string ⟨#[]⟩) := KN.cell 2
    have f0 := KN.frozen 0
    have f1 := KN.frozen 1
    have f2 := KN.frozen 2
    replace bd := ((bd.setCell (p := ⟨w4.heap.size, 0, none⟩) (by simp <;> omega) (.int .i64 y.pos)).setCell (p := ⟨w4.heap.size, 1, none⟩) (by simp <;> omega) (.string (str y.chain))).setCell (p := ⟨w4.heap.size, 2, none⟩) (by simp <;> omega) (.string (str y.state))
    replace R0 := ((R0.other (p := ⟨w4.heap.size, 0, none⟩) (by simp <;> omega) (.int .i64 y.pos)).other (p := ⟨w4.heap.size, 1, none⟩) (by simp <;> omega) (.string (str y.chain))).other (p := ⟨w4.heap.size, 2, none⟩) (by simp <;> omega) (.string (str y.state))
    have KS0 := ((KN.set 0 (.int .i64 y.pos)).set 1 (.string (str y.chain))).set 2 (.string (str y.state))
    go_simp
    refine hK.out _ _ (CZ.out _ bd R0) (fun _ => ?_)
    clear hK K z0 z1 z2 f0 f1 f2 KN
    try simp only [Act.put, List.setIfInBounds_toArray, List.set_cons_zero, List.set_cons_succ]
    repeat (
      apply SeqF.take0
      case ho => exact rfl
      case hg => exact rfl
      case hy => (intro w hSw; (try dsimp only at hSw); go_simp; try with_reducible rfl)
      try simp only [Act.put, List.setIfInBounds_toArray, List.set_cons_zero, List.set_cons_succ])
    refine SeqF.done ?_
    refine NoPanic.normal ?_
    generalize ((w5.setCell ⟨w4.heap.size, 0, none⟩ (.int .i64 y.pos)).setCell ⟨w4.heap.size, 1, none⟩ (.string (str y.chain))).setCell ⟨w4.heap.size, 2, none⟩ (.string (str y.state)) = w6 at *
    have KS : BlkIs w6 w4.heap.size 46 [.int .i64 y.pos, .string (str y.chain), .string (str y.state)] := KS0
    clear KS0
    have hNB : w.heap.size < w4.heap.size := by have := KS.lt; omega
    by_cases h0 : E = 0
    case neg =>
      obtain ⟨e90, ea⟩ := HAPP.out.2 h0
      have t2 : (E != 0) = true := by simpa using h0
      subst ea e90
      have hO := Only.of_below (S := S) bd
      have hL := (HLOG.out.below bd).mono (T := fun k => S k ∨ w.heap.size ≤ k) fun k hk => .inl hk
      clear h0 KS R0 HAPP
      go_wp2_with fail
      go_ret
      exact ⟨rfl, hL, hO⟩
    obtain ⟨ea, g1, g8⟩ := HAPP.out.1 h0
    have t2 : (E != 0) = false := by simpa using h0
    subst ea
    have hP := (HP0.out.later bd).mono (T := fun k => S k ∨ w.heap.size ≤ k) fun k hk => .inl hk
    obtain ⟨A', c0, eA, hcl, hj⟩ := HV.out
    injection eA with e1 _ e3
    subst e1 e3
    obtain ⟨ga, oa, rfl, hga, hj⟩ := hj (by omega)
    have HJ := Lib.hid hj
    have hbd0 := bd.size
    clear hj h0 HAPP
    go_wp2_with fail
    have hP1 := hP.later (Below.drew (Below.refl _ _))
    have R1 := R0.later (Below.drew (Below.refl _ _))
    have K1 := KS.later (Below.drew (Below.refl _ _))
    have bd1 := Below.drew bd
    clear hP R0 KS bd
    refine wp_region_noPanic ?_
    refine wp_region_ordF (fun W => W.cell? ⟨b, 0, none⟩ = some (.slice A1 m c1) ∧ W.cell? ⟨w.heap.size, 0, none⟩ = some (.int .i64 p) ∧ W.cell? ⟨w.heap.size, 1, none⟩ = some (.slice (some ⟨ga, oa, none⟩) l.length c)) 13 3 0 [(1, false), (2, false), (3, false), (4, false), (5, false), (6, false), (8, false), (9, false), (7, true), (10, true), (11, true), (12, true), (13, true)] (oi := ?oi501) (v := ?v501) (by kernel_rfl) rfl ?hi501 (by decide) rfl ?hsel501 ?hsink501 ?hchain501 (by decide) ?hf501 ?hr501 ?hok501 (fun _ _ _ _ _ h => h) (Or.inl ⟨?hw501, ?hy501⟩) (⟨hP1.blk.cell 0, R1.cell 0, R1.cell 1⟩) (fun hHeld => ?_)
    case hi501 => simp only [List.getElem?_toArray, List.getElem?_cons_zero]; rfl
    case hsel501 => kernel_rfl
    case hsink501 => kernel_rfl
    case hchain501 => kernel_rfl
    case hf501 => kernel_rfl
    case hr501 => kernel_rfl
    case hok501 => kernel_rfl
    case hw501 => rfl
    case hy501 => intro w; go_simp; try with_reducible rfl
    try simp only [Act.put, List.setIfInBounds_toArray, List.set_cons_zero, List.set_cons_succ]
    repeat (
      apply SeqF.take0
      case ho => exact rfl
      case hg => exact rfl
      case hy => (intro w hSw; (try dsimp only at hSw); go_simp; try with_reducible rfl)
      try simp only [Act.put, List.setIfInBounds_toArray, List.set_cons_zero, List.set_cons_succ])
    apply SeqF.step0
    case ho => exact rfl
    case hg => exact rfl
    intro K hK
    go_simp
    have b67 : Below w6.drew.heap.size w6.drew (w6.alloc (.cells #[] 72)).drew := Below.alloc1 w6.drew _
    have own7 : (w6.alloc (.cells #[] 72)).drew.ownsRow w6.heap.size 72 10 (.slice (some ⟨w6.heap.size, 0, none⟩) 0 0) 0 [] := (World.ownsRow_made w6 #[] 0 (Nat.le_refl _) (Nat.zero_le _) rfl).drew
    have hle7 : w6.heap.size ≤ (w6.alloc (.cells #[] 72)).drew.heap.size := b67.size
    generalize (w6.alloc (.cells #[] 72)).drew = w7 at *
    refine hK.out _ _ ⟨(hP1.later b67).blk.cell 0, (R1.later b67).cell 0, (R1.later b67).cell 1⟩ (fun _ => ?_)
    clear hK K
    try simp only [Act.put, List.setIfInBounds_toArray, List.set_cons_zero, List.set_cons_succ]
    apply SeqF.step0
    case ho => exact rfl
    case hg => exact rfl
    intro K hK
    have bd7 := Below.next bd1 b67
    have hcells : ∀ (j : Nat) u, (l.flatMap chgCells)[j]? = some u → w7.cell? ((⟨ga, oa, none⟩ : Addr).add j) = some u := fun j u hu => (bd7.cell (p := (⟨ga, oa, none⟩ : Addr).add j) (by rw [block_add]; exact hga)).trans (chgs_cells HJ.out j u hu)
    obtain ⟨iC, hiC, hC0, hC1, hC2⟩ := info_chg
    refine wp_append_lies w7 (.tmp 37) (.tmp 39) 33 (by rfl) w6.heap.size 72 iC (.agg #[.int .i64 0, .int .i64 0, .bool false, .int .i64 0, .int .i64 0, .int .i64 0, .bool false, .int .i64 0, .int .i64 0, .int .i64 0]) 10 80 Tryz.underlying33 hiC hC0 hC1 hC2 rfl (by decide) (.slice (some ⟨w6.heap.size, 0, none⟩) 0 0) 0 [] (by rfl) own7 ⟨ga, oa, none⟩ l.length c (l.flatMap chgCells) (by rfl) (flat_len chgCells 10 chgCells_len l) hcells (chgs_one l) (by omega) (by unfold maxLen; omega) (by omega) hle7 _ rfl ?_
    intro gc cc w8 own8 gr8 hat8 hlt8
    have b68 : Below w6.drew.heap.size w6.drew w8 := below_fresh b67 hle7 gr8 (fun k hk => by cases hk; exact Nat.le_refl _)
    rw [Nat.zero_add, List.nil_append] at own8
    rw [Nat.zero_add]
    have hPb := hP1.later b68
    have Rb := R1.later b68
    have Kb := K1.later b68
    have bdb := Below.next bd1 b68
    have chc : ChgsOwn w8 (fun k => S k ∨ w.heap.size ≤ k) (.slice (some ⟨gc, 0, none⟩) l.length cc) l := ⟨ownsRow_base0 own8, fun k hk => .inr (Nat.le_trans hbd0 (own8.lt k hk).1)⟩
    clear own7 own8 gr8 hat8 hlt8 b67 b68 bd7 hcells hP1 R1 K1 bd1 hle7
    refine hK.out _ _ ⟨hPb.blk.cell 0, Rb.cell 0, Rb.cell 1⟩ (fun _ => ?_)
    clear hK K
    try simp only [Act.put, List.setIfInBounds_toArray, List.set_cons_zero, List.set_cons_succ]
    repeat (
      apply SeqF.take0
      case ho => exact rfl
      case hg => exact rfl
      case hy => (intro w hSw; (try dsimp only at hSw); go_simp; try with_reducible rfl)
      try simp only [Act.put, List.setIfInBounds_toArray, List.set_cons_zero, List.set_cons_succ])
    apply SeqF.step0
    case ho => exact rfl
    case hg => exact rfl
    intro K hK
    go_simp
    have b89 := Below.alloc1 w8 (.cells #[.int .i64 p, .slice (some ⟨gc, 0, none⟩) l.length cc] 35)
    have KR := BlkIs.new w8 35 (recCells (⟨p, l⟩, .slice (some ⟨gc, 0, none⟩) l.length cc)).toArray
    replace hPb := hPb.later b89
    replace Rb := Rb.later b89
    replace Kb := Kb.later b89
    replace bdb := Below.next bdb b89
    replace chc := chc.later b89
    have KR : BlkIs (w8.alloc (.cells #[.int .i64 p, .slice (some ⟨gc, 0, none⟩) l.length cc] 35)) w8.heap.size 35 (recCells (⟨p, l⟩, .slice (some ⟨gc, 0, none⟩) l.length cc)) := KR
    generalize w8.alloc (.cells #[.int .i64 p, .slice (some ⟨gc, 0, none⟩) l.length cc] 35) = w9 at *
    refine hK.out _ _ ⟨hPb.blk.cell 0, Rb.cell 0, Rb.cell 1⟩ (fun _ => ?_)
    clear hK K b89
    try simp only [Act.put, List.setIfInBounds_toArray, List.set_cons_zero, List.set_cons_succ]
    apply SeqF.step0
    case ho => exact rfl
    case hg => exact rfl
    intro K hK
    obtain ⟨iR, hiR, hR0, hR1, hR2⟩ := info_rec
    have hpl : ps.length = m := by rw [HMM.out, ← HPS.out, List.length_map]
    have rr := hPb.rrow
    rw [hpl] at rr
    have rvlt : ∀ k, (Value.slice A1 m c1).ownBlock = some k → k < w.heap.size := fun k hk => HSS.out k (HP0.out.rin k hk)
    refine wp_append_lies w9 (.tmp 34) (.tmp 42) 22 (by rfl) 0 35 iR (.agg #[.int .i64 0, .slice none 0 0]) 2 32 Tryz.underlying22 hiR hR0 hR1 hR2 rfl (by decide) (.slice A1 m c1) m (ps.flatMap recCells) (by rfl) rr ⟨w8.heap.size, 0, none⟩ 1 1 (recCells (⟨p, l⟩, .slice (some ⟨gc, 0, none⟩) l.length cc)) (by rfl) rfl (blk_news KR 0 _ rfl) (recCells_one _ rfl) (by decide) (by unfold maxLen; omega) (by omega) (Nat.zero_le _) _ rfl ?_
    intro gr cr w10 own10 gr10 hat10 hlt10
    have k10 : ∀ {z : Nat} {ty : TypeId} {cs : List Value}, BlkIs w9 z ty cs → w.heap.size ≤ z → BlkIs w10 z ty cs := fun h hz => h.kept gr10 fun e => by have := rvlt _ e.symm; omega
    have B10 : BlkIs w10 b 39 [.slice A1 m c1, .slice (some ⟨g, 0, none⟩) N c2] := hPb.blk.kept gr10 (hPb.blk.not_row (by decide) hPb.rrow)
    have R10 := k10 Rb (Nat.le_refl _)
    have K10 := k10 Kb (Nat.le_of_lt hNB)
    obtain ⟨hPn, hOn⟩ := hPb.recd (r := ⟨p, l⟩) (cv := .slice (some ⟨gc, 0, none⟩) l.length cc) gr10 (by rw [hpl]; exact own10) (fun k hk => by
      cases hk
      rcases hat10 with e | e
      · exact .inl (HP0.out.rin _ e)
      · exact .inr (by rw [e]; exact bdb.size)) chc
    have hO11 := (Only.of_below (S := S) bdb).behind hOn (fun j hj => by rcases hj with h | h; exact .inl h; exact .inr h)
    have hle11 : w.heap.size ≤ w10.heap.size := Nat.le_trans bdb.size gr10.size
    refine hK.out _ _ ⟨B10.cell 0, R10.cell 0, R10.cell 1⟩ (fun _ => ?_)
    clear hK K
    try simp only [Act.put, List.setIfInBounds_toArray, List.set_cons_zero, List.set_cons_succ]
    refine SeqF.done ?_
    simp only [List.drop_succ_cons, List.drop_zero]
    have z0 : w10.cell? ⟨b, 0, none⟩ = some (.slice A1 m c1) := B10.cell 0
    have f0 := B10.frozen 0
    have hbN : w4.heap.size ≠ b := fun e => by
      have := HSS.out b HP0.out.sb
      omega
    have K11 := K10.other (p := ⟨b, 0, none⟩) hbN (.slice (some ⟨gr, 0, none⟩) (m + 1) cr)
    clear own10 gr10 hat10 hlt10 k10 R10 K10 rr KR Kb Rb hPb chc bdb hOn rvlt
    go_wp2_with fail
    refine NoPanic.normal ?_
    clear z0 f0
    generalize w10.setCell ⟨b, 0, none⟩ (.slice (some ⟨gr, 0, none⟩) (m + 1) cr) = w11 at *
    go_wp2_with fail
    have hP5 := hPn.later (Below.drew (Below.refl _ _))
    have K5 := K11.later (Below.drew (Below.refl _ _))
    have hle5 : w.heap.size ≤ w11.drew.heap.size := hO11.size
    have hvlt : g < w.heap.size := HSS.out g (HP0.out.hin g rfl)
    clear K11
    refine wp_region_noPanic ?_
    refine wp_region_ordF (fun W => W.cell? ⟨b, 1, none⟩ = some (.slice (some ⟨g, 0, none⟩) N c2) ∧ W.cell? ⟨w4.heap.size, 0, none⟩ = some (.int .i64 y.pos) ∧ W.cell? ⟨w4.heap.size, 1, none⟩ = some (.string (str y.chain)) ∧ W.cell? ⟨w4.heap.size, 2, none⟩ = some (.string (str y.state))) 7 3 0 [(1, false), (2, false), (3, false), (4, false), (5, false), (6, true), (7, true)] (oi := ?oi502) (v := ?v502) (by kernel_rfl) rfl ?hi502 (by decide) rfl ?hsel502 ?hsink502 ?hchain502 (by decide) ?hf502 ?hr502 ?hok502 (fun _ _ _ _ _ h => h) (Or.inl ⟨?hw502, ?hy502⟩) (⟨hP5.blk.cell 1, K5.cell 0, K5.cell 1, K5.cell 2⟩) (fun hHeld => ?_)
    case hi502 => simp only [List.getElem?_toArray, List.getElem?_cons_zero]; rfl
    case hsel502 => kernel_rfl
    case hsink502 => kernel_rfl
    case hchain502 => kernel_rfl
    case hf502 => kernel_rfl
    case hr502 => kernel_rfl
    case hok502 => kernel_rfl
    case hw502 => rfl
    case hy502 => intro w; go_simp; try with_reducible rfl
    try simp only [Act.put, List.setIfInBounds_toArray, List.set_cons_zero, List.set_cons_succ]
    repeat (
      apply SeqF.take0
      case ho => exact rfl
      case hg => exact rfl
      case hy => (intro w hSw; (try dsimp only at hSw); go_simp; try with_reducible rfl)
      try simp only [Act.put, List.setIfInBounds_toArray, List.set_cons_zero, List.set_cons_succ])
    apply SeqF.step0
    case ho => exact rfl
    case hg => exact rfl
    intro K hK
    go_simp
    have b12 : Below w11.drew.heap.size w11.drew (w11.alloc (.cells #[.int .i64 y.pos, .string (str y.chain), .string (str y.state)] 46)).drew := Below.alloc1 w11.drew _
    have KH : BlkIs (w11.alloc (.cells #[.int .i64 y.pos, .string (str y.chain), .string (str y.state)] 46)).drew w11.heap.size 46 (hdCells y) := BlkIs.new w11.drew 46 #[.int .i64 y.pos, .string (str y.chain), .string (str y.state)]
    have hPc := hP5.later b12
    have Kc := K5.later b12
    have hle12 := b12.size
    generalize (w11.alloc (.cells #[.int .i64 y.pos, .string (str y.chain), .string (str y.state)] 46)).drew = w12 at *
    refine hK.out _ _ ⟨hPc.blk.cell 1, Kc.cell 0, Kc.cell 1, Kc.cell 2⟩ (fun _ => ?_)
    clear hK K hP5 K5
    try simp only [Act.put, List.setIfInBounds_toArray, List.set_cons_zero, List.set_cons_succ]
    apply SeqF.step0
    case ho => exact rfl
    case hg => exact rfl
    intro K hK
    obtain ⟨iH, hiH, hH0, hH1, hH2⟩ := info_hd
    have rh := hPc.hrow
    rw [HHL.out] at rh
    refine wp_append_lies w12 (.tmp 50) (.tmp 52) 37 (by rfl) 0 46 iH (.agg #[.int .i64 0, .string ⟨#[]⟩, .string ⟨#[]⟩]) 3 40 Tryz.underlying37 hiH hH0 hH1 hH2 rfl (by decide) (.slice (some ⟨g, 0, none⟩) N c2) N (x.heads.flatMap hdCells) (by rfl) rh ⟨w11.heap.size, 0, none⟩ 1 1 (hdCells y) (by rfl) rfl (blk_news KH 0 _ rfl) (hd_one y) (by decide) (by unfold maxLen; omega) (by omega) (Nat.zero_le _) _ rfl ?_
    intro gh ch w13 own13 gr13 hat13 hlt13
    have B13 : BlkIs w13 b 39 [.slice (some ⟨gr, 0, none⟩) (m + 1) cr, .slice (some ⟨g, 0, none⟩) N c2] := hPc.blk.kept gr13 (hPc.blk.not_row (by decide) hPc.hrow)
    have K13 := Kc.kept gr13 (show some w4.heap.size ≠ some g from fun e => by injection e with e; omega)
    obtain ⟨hPf, hOf⟩ := hPc.headd (y := y) gr13 (by rw [HHL.out]; exact own13) (fun k hk => by
      cases hk
      rcases hat13 with e | e
      · exact .inl (by cases e; exact HP0.out.hin _ rfl)
      · exact .inr (by rw [e]; exact Nat.le_trans hle5 hle12))
    have hO12 := (hO11.trans (Only.of_below (Below.drew (Below.refl _ w11)))).trans (Only.of_below b12)
    have hOF := hO12.behind hOf (fun j hj => by rcases hj with h | h; exact .inl h; exact .inr h)
    refine hK.out _ _ ⟨B13.cell 1, K13.cell 0, K13.cell 1, K13.cell 2⟩ (fun _ => ?_)
    clear hK K
    try simp only [Act.put, List.setIfInBounds_toArray, List.set_cons_zero, List.set_cons_succ]
    refine SeqF.done ?_
    simp only [List.drop_succ_cons, List.drop_zero]
    have z1 : w13.cell? ⟨b, 1, none⟩ = some (.slice (some ⟨g, 0, none⟩) N c2) := B13.cell 1
    have f1 := B13.frozen 1
    have hlog := hPf.log
    rw [List.map_append, HPS.out] at hlog
    have HLF := Lib.hid hlog
    have HOF := Lib.hid hOF
    clear own13 gr13 hat13 hlt13 K13 rh KH Kc hPc hPf hOf hO12 hOF hlog hPn hO11 b12
    go_wp2_with fail
    refine NoPanic.normal ?_
    go_wp2_with fail
    go_ret
    exact ⟨rfl, HLF.out, HOF.out⟩
  case two1 =>
    go_simp
    have bn : Below w0.drew.heap.size w0.drew (w0.alloc (.cells #[.int .i64 0, .string ⟨#[]⟩, .string ⟨#[]⟩] 46)).drew := Below.alloc1 w0.drew (.cells #[.int .i64 0, .string ⟨#[]⟩, .string ⟨#[]⟩] 46)
    have KN : BlkIs (w0.alloc (.cells #[.int .i64 0, .string ⟨#[]⟩, .string ⟨#[]⟩] 46)).drew w0.heap.size 46 [.int .i64 0, .string ⟨#[]⟩, .string ⟨#[]⟩] := BlkIs.new w0.drew 46 #[.int .i64 0, .string ⟨#[]⟩, .string ⟨#[]⟩]
    have hNl : w.heap.size + 1 ≤ w0.heap.size := by have := R0.lt; (try simp at this); omega
    generalize (w0.alloc (.cells #[.int .i64 0, .string ⟨#[]⟩, .string ⟨#[]⟩] 46)).drew = w5 at *
    replace bd := Below.next bd bn
    replace R0 := R0.later bn
    refine hK.out _ _ (CZ.out _ bd R0) (fun _ => ?_)
    clear hK K bn
    try simp only [Act.put, List.setIfInBounds_toArray, List.set_cons_zero, List.set_cons_succ]
    refine seqG_end [(14, true), (15, true), (16, false), (17, false), (19, true), (20, true)] _ 2097151 _ (by rfl) (by as_aux_lemma => kernel_rfl) (by as_aux_lemma => kernel_rfl) (by as_aux_lemma => kernel_rfl) (fun _ _ _ _ _ h => h) (CZ.out _ bd R0) ?_
    apply SeqF.step0
    case ho => exact rfl
    case hg => exact rfl
    intro K hK
    go_simp
    go_at_call 29
    with_reducible refine (HNX.out _ bd).mono ?_
    rintro e w4 ⟨rfl, b4⟩
    replace bd := Below.next bd b4
    replace R0 := R0.later b4
    replace KN := KN.later b4
    go_wp2_with fail
    refine hK.out _ _ (CZ.out _ bd R0) (fun _ => ?_)
    clear hK K b4
    try simp only [Act.put, List.setIfInBounds_toArray, List.set_cons_zero, List.set_cons_succ]
    repeat (
      apply SeqF.take0
      case ho => exact rfl
      case hg => exact rfl
      case hy => (intro w hSw; (try dsimp only at hSw); go_simp; try with_reducible rfl)
      try simp only [Act.put, List.setIfInBounds_toArray, List.set_cons_zero, List.set_cons_succ])
    apply SeqF.step0
    case ho => exact rfl
    case hg => exact rfl
    intro K hK
    have z0 : w4.cell? ⟨w0.heap.size, 0, none⟩ = some (.int .i64 0) := KN.cell 0
    have z1 : w4.cell? ⟨w0.heap.size, 1, none⟩ = some (.string ⟨#[]⟩) := KN.cell 1
    have z2 : w4.cell? ⟨w0.heap.size, 2, none⟩ = some (.string ⟨#[]⟩) := KN.cell 2
    have f0 := KN.frozen 0
    have f1 := KN.frozen 1
    have f2 := KN.frozen 2
    replace bd := ((bd.setCell (p := ⟨w0.heap.size, 0, none⟩) (by simp <;> omega) (.int .i64 y.pos)).setCell (p := ⟨w0.heap.size, 1, none⟩) (by simp <;> omega) (.string (str y.chain))).setCell (p := ⟨w0.heap.size, 2, none⟩) (by simp <;> omega) (.string (str y.state))
    replace R0 := ((R0.other (p := ⟨w0.heap.size, 0, none⟩) (by simp <;> omega) (.int .i64 y.pos)).other (p := ⟨w0.heap.size, 1, none⟩) (by simp <;> omega) (.string (str y.chain))).other (p := ⟨w0.heap.size, 2, none⟩) (by simp <;> omega) (.string (str y.state))
    have KS0 := ((KN.set 0 (.int .i64 y.pos)).set 1 (.string (str y.chain))).set 2 (.string (str y.state))
    go_simp
    refine hK.out _ _ (CZ.out _ bd R0) (fun _ => ?_)
    clear hK K z0 z1 z2 f0 f1 f2 KN
    try simp only [Act.put, List.setIfInBounds_toArray, List.set_cons_zero, List.set_cons_succ]
    repeat (
      apply SeqF.take0
      case ho => exact rfl
      case hg => exact rfl
      case hy => (intro w hSw; (try dsimp only at hSw); go_simp; try with_reducible rfl)
      try simp only [Act.put, List.setIfInBounds_toArray, List.set_cons_zero, List.set_cons_succ])
    refine SeqF.done ?_
    refine NoPanic.normal ?_
    generalize ((w4.setCell ⟨w0.heap.size, 0, none⟩ (.int .i64 y.pos)).setCell ⟨w0.heap.size, 1, none⟩ (.string (str y.chain))).setCell ⟨w0.heap.size, 2, none⟩ (.string (str y.state)) = w6 at *
    have KS : BlkIs w6 w0.heap.size 46 [.int .i64 y.pos, .string (str y.chain), .string (str y.state)] := KS0
    clear KS0
    have hNB : w.heap.size < w0.heap.size := by have := KS.lt; omega
    by_cases h0 : E = 0
    case neg =>
      obtain ⟨e90, ea⟩ := HAPP.out.2 h0
      have t2 : (E != 0) = true := by simpa using h0
      subst ea e90
      have hO := Only.of_below (S := S) bd
      have hL := (HLOG.out.below bd).mono (T := fun k => S k ∨ w.heap.size ≤ k) fun k hk => .inl hk
      clear h0 KS R0 HAPP
      go_wp2_with fail
      go_ret
      exact ⟨rfl, hL, hO⟩
    obtain ⟨ea, g1, g8⟩ := HAPP.out.1 h0
    have t2 : (E != 0) = false := by simpa using h0
    subst ea
    have hP := (HP0.out.later bd).mono (T := fun k => S k ∨ w.heap.size ≤ k) fun k hk => .inl hk
    obtain ⟨A', c0, eA, hcl, hj⟩ := HV.out
    injection eA with e1 _ e3
    subst e1 e3
    obtain ⟨ga, oa, rfl, hga, hj⟩ := hj (by omega)
    have HJ := Lib.hid hj
    have hbd0 := bd.size
    clear hj h0 HAPP
    go_wp2_with fail
    have hP1 := hP.later (Below.drew (Below.refl _ _))
    have R1 := R0.later (Below.drew (Below.refl _ _))
    have K1 := KS.later (Below.drew (Below.refl _ _))
    have bd1 := Below.drew bd
    clear hP R0 KS bd
    refine wp_region_noPanic ?_
    refine wp_region_ordF (fun W => W.cell? ⟨b, 0, none⟩ = some (.slice A1 m c1) ∧ W.cell? ⟨w.heap.size, 0, none⟩ = some (.int .i64 p) ∧ W.cell? ⟨w.heap.size, 1, none⟩ = some (.slice (some ⟨ga, oa, none⟩) l.length c)) 13 3 0 [(1, false), (2, false), (3, false), (4, false), (5, false), (6, false), (8, false), (9, false), (7, true), (10, true), (11, true), (12, true), (13, true)] (oi := ?oi503) (v := ?v503) (by kernel_rfl) rfl ?hi503 (by decide) rfl ?hsel503 ?hsink503 ?hchain503 (by decide) ?hf503 ?hr503 ?hok503 (fun _ _ _ _ _ h => h) (Or.inl ⟨?hw503, ?hy503⟩) (⟨hP1.blk.cell 0, R1.cell 0, R1.cell 1⟩) (fun hHeld => ?_)
    case hi503 => simp only [List.getElem?_toArray, List.getElem?_cons_zero]; rfl
    case hsel503 => kernel_rfl
    case hsink503 => kernel_rfl
    case hchain503 => kernel_rfl
    case hf503 => kernel_rfl
    case hr503 => kernel_rfl
    case hok503 => kernel_rfl
    case hw503 => rfl
    case hy503 => intro w; go_simp; try with_reducible rfl
    try simp only [Act.put, List.setIfInBounds_toArray, List.set_cons_zero, List.set_cons_succ]
    repeat (
      apply SeqF.take0
      case ho => exact rfl
      case hg => exact rfl
      case hy => (intro w hSw; (try dsimp only at hSw); go_simp; try with_reducible rfl)
      try simp only [Act.put, List.setIfInBounds_toArray, List.set_cons_zero, List.set_cons_succ])
    apply SeqF.step0
    case ho => exact rfl
    case hg => exact rfl
    intro K hK
    go_simp
    have b67 : Below w6.drew.heap.size w6.drew (w6.alloc (.cells #[] 72)).drew := Below.alloc1 w6.drew _
    have own7 : (w6.alloc (.cells #[] 72)).drew.ownsRow w6.heap.size 72 10 (.slice (some ⟨w6.heap.size, 0, none⟩) 0 0) 0 [] := (World.ownsRow_made w6 #[] 0 (Nat.le_refl _) (Nat.zero_le _) rfl).drew
    have hle7 : w6.heap.size ≤ (w6.alloc (.cells #[] 72)).drew.heap.size := b67.size
    generalize (w6.alloc (.cells #[] 72)).drew = w7 at *
    refine hK.out _ _ ⟨(hP1.later b67).blk.cell 0, (R1.later b67).cell 0, (R1.later b67).cell 1⟩ (fun _ => ?_)
    clear hK K
    try simp only [Act.put, List.setIfInBounds_toArray, List.set_cons_zero, List.set_cons_succ]
    apply SeqF.step0
    case ho => exact rfl
    case hg => exact rfl
    intro K hK
    have bd7 := Below.next bd1 b67
    have hcells : ∀ (j : Nat) u, (l.flatMap chgCells)[j]? = some u → w7.cell? ((⟨ga, oa, none⟩ : Addr).add j) = some u := fun j u hu => (bd7.cell (p := (⟨ga, oa, none⟩ : Addr).add j) (by rw [block_add]; exact hga)).trans (chgs_cells HJ.out j u hu)
    obtain ⟨iC, hiC, hC0, hC1, hC2⟩ := info_chg
    refine wp_append_lies w7 (.tmp 37) (.tmp 39) 33 (by rfl) w6.heap.size 72 iC (.agg #[.int .i64 0, .int .i64 0, .bool false, .int .i64 0, .int .i64 0, .int .i64 0, .bool false, .int .i64 0, .int .i64 0, .int .i64 0]) 10 80 Tryz.underlying33 hiC hC0 hC1 hC2 rfl (by decide) (.slice (some ⟨w6.heap.size, 0, none⟩) 0 0) 0 [] (by rfl) own7 ⟨ga, oa, none⟩ l.length c (l.flatMap chgCells) (by rfl) (flat_len chgCells 10 chgCells_len l) hcells (chgs_one l) (by omega) (by unfold maxLen; omega) (by omega) hle7 _ rfl ?_
    intro gc cc w8 own8 gr8 hat8 hlt8
    have b68 : Below w6.drew.heap.size w6.drew w8 := below_fresh b67 hle7 gr8 (fun k hk => by cases hk; exact Nat.le_refl _)
    rw [Nat.zero_add, List.nil_append] at own8
    rw [Nat.zero_add]
    have hPb := hP1.later b68
    have Rb := R1.later b68
    have Kb := K1.later b68
    have bdb := Below.next bd1 b68
    have chc : ChgsOwn w8 (fun k => S k ∨ w.heap.size ≤ k) (.slice (some ⟨gc, 0, none⟩) l.length cc) l := ⟨ownsRow_base0 own8, fun k hk => .inr (Nat.le_trans hbd0 (own8.lt k hk).1)⟩
    clear own7 own8 gr8 hat8 hlt8 b67 b68 bd7 hcells hP1 R1 K1 bd1 hle7
    refine hK.out _ _ ⟨hPb.blk.cell 0, Rb.cell 0, Rb.cell 1⟩ (fun _ => ?_)
    clear hK K
    try simp only [Act.put, List.setIfInBounds_toArray, List.set_cons_zero, List.set_cons_succ]
    repeat (
      apply SeqF.take0
      case ho => exact rfl
      case hg => exact rfl
      case hy => (intro w hSw; (try dsimp only at hSw); go_simp; try with_reducible rfl)
      try simp only [Act.put, List.setIfInBounds_toArray, List.set_cons_zero, List.set_cons_succ])
    apply SeqF.step0
    case ho => exact rfl
    case hg => exact rfl
    intro K hK
    go_simp
    have b89 := Below.alloc1 w8 (.cells #[.int .i64 p, .slice (some ⟨gc, 0, none⟩) l.length cc] 35)
    have KR := BlkIs.new w8 35 (recCells (⟨p, l⟩, .slice (some ⟨gc, 0, none⟩) l.length cc)).toArray
    replace hPb := hPb.later b89
    replace Rb := Rb.later b89
    replace Kb := Kb.later b89
    replace bdb := Below.next bdb b89
    replace chc := chc.later b89
    have KR : BlkIs (w8.alloc (.cells #[.int .i64 p, .slice (some ⟨gc, 0, none⟩) l.length cc] 35)) w8.heap.size 35 (recCells (⟨p, l⟩, .slice (some ⟨gc, 0, none⟩) l.length cc)) := KR
    generalize w8.alloc (.cells #[.int .i64 p, .slice (some ⟨gc, 0, none⟩) l.length cc] 35) = w9 at *
    refine hK.out _ _ ⟨hPb.blk.cell 0, Rb.cell 0, Rb.cell 1⟩ (fun _ => ?_)
    clear hK K b89
    try simp only [Act.put, List.setIfInBounds_toArray, List.set_cons_zero, List.set_cons_succ]
    apply SeqF.step0
    case ho => exact rfl
    case hg => exact rfl
    intro K hK
    obtain ⟨iR, hiR, hR0, hR1, hR2⟩ := info_rec
    have hpl : ps.length = m := by rw [HMM.out, ← HPS.out, List.length_map]
    have rr := hPb.rrow
    rw [hpl] at rr
    have rvlt : ∀ k, (Value.slice A1 m c1).ownBlock = some k → k < w.heap.size := fun k hk => HSS.out k (HP0.out.rin k hk)
    refine wp_append_lies w9 (.tmp 34) (.tmp 42) 22 (by rfl) 0 35 iR (.agg #[.int .i64 0, .slice none 0 0]) 2 32 Tryz.underlying22 hiR hR0 hR1 hR2 rfl (by decide) (.slice A1 m c1) m (ps.flatMap recCells) (by rfl) rr ⟨w8.heap.size, 0, none⟩ 1 1 (recCells (⟨p, l⟩, .slice (some ⟨gc, 0, none⟩) l.length cc)) (by rfl) rfl (blk_news KR 0 _ rfl) (recCells_one _ rfl) (by decide) (by unfold maxLen; omega) (by omega) (Nat.zero_le _) _ rfl ?_
    intro gr cr w10 own10 gr10 hat10 hlt10
    have k10 : ∀ {z : Nat} {ty : TypeId} {cs : List Value}, BlkIs w9 z ty cs → w.heap.size ≤ z → BlkIs w10 z ty cs := fun h hz => h.kept gr10 fun e => by have := rvlt _ e.symm; omega
    have B10 : BlkIs w10 b 39 [.slice A1 m c1, .slice (some ⟨g, 0, none⟩) N c2] := hPb.blk.kept gr10 (hPb.blk.not_row (by decide) hPb.rrow)
    have R10 := k10 Rb (Nat.le_refl _)
    have K10 := k10 Kb (Nat.le_of_lt hNB)
    obtain ⟨hPn, hOn⟩ := hPb.recd (r := ⟨p, l⟩) (cv := .slice (some ⟨gc, 0, none⟩) l.length cc) gr10 (by rw [hpl]; exact own10) (fun k hk => by
      cases hk
      rcases hat10 with e | e
      · exact .inl (HP0.out.rin _ e)
      · exact .inr (by rw [e]; exact bdb.size)) chc
    have hO11 := (Only.of_below (S := S) bdb).behind hOn (fun j hj => by rcases hj with h | h; exact .inl h; exact .inr h)
    have hle11 : w.heap.size ≤ w10.heap.size := Nat.le_trans bdb.size gr10.size
    refine hK.out _ _ ⟨B10.cell 0, R10.cell 0, R10.cell 1⟩ (fun _ => ?_)
    clear hK K
    try simp only [Act.put, List.setIfInBounds_toArray, List.set_cons_zero, List.set_cons_succ]
    refine SeqF.done ?_
    simp only [List.drop_succ_cons, List.drop_zero]
    have z0 : w10.cell? ⟨b, 0, none⟩ = some (.slice A1 m c1) := B10.cell 0
    have f0 := B10.frozen 0
    have hbN : w0.heap.size ≠ b := fun e => by
      have := HSS.out b HP0.out.sb
      omega
    have K11 := K10.other (p := ⟨b, 0, none⟩) hbN (.slice (some ⟨gr, 0, none⟩) (m + 1) cr)
    clear own10 gr10 hat10 hlt10 k10 R10 K10 rr KR Kb Rb hPb chc bdb hOn rvlt
    go_wp2_with fail
    refine NoPanic.normal ?_
    clear z0 f0
    generalize w10.setCell ⟨b, 0, none⟩ (.slice (some ⟨gr, 0, none⟩) (m + 1) cr) = w11 at *
    go_wp2_with fail
    have hP5 := hPn.later (Below.drew (Below.refl _ _))
    have K5 := K11.later (Below.drew (Below.refl _ _))
    have hle5 : w.heap.size ≤ w11.drew.heap.size := hO11.size
    have hvlt : g < w.heap.size := HSS.out g (HP0.out.hin g rfl)
    clear K11
    refine wp_region_noPanic ?_
    refine wp_region_ordF (fun W => W.cell? ⟨b, 1, none⟩ = some (.slice (some ⟨g, 0, none⟩) N c2) ∧ W.cell? ⟨w0.heap.size, 0, none⟩ = some (.int .i64 y.pos) ∧ W.cell? ⟨w0.heap.size, 1, none⟩ = some (.string (str y.chain)) ∧ W.cell? ⟨w0.heap.size, 2, none⟩ = some (.string (str y.state))) 7 3 0 [(1, false), (2, false), (3, false), (4, false), (5, false), (6, true), (7, true)] (oi := ?oi504) (v := ?v504) (by kernel_rfl) rfl ?hi504 (by decide) rfl ?hsel504 ?hsink504 ?hchain504 (by decide) ?hf504 ?hr504 ?hok504 (fun _ _ _ _ _ h => h) (Or.inl ⟨?hw504, ?hy504⟩) (⟨hP5.blk.cell 1, K5.cell 0, K5.cell 1, K5.cell 2⟩) (fun hHeld => ?_)
    case hi504 => simp only [List.getElem?_toArray, List.getElem?_cons_zero]; rfl
    case hsel504 => kernel_rfl
    case hsink504 => kernel_rfl
    case hchain504 => kernel_rfl
    case hf504 => kernel_rfl
    case hr504 => kernel_rfl
    case hok504 => kernel_rfl
    case hw504 => rfl
    case hy504 => intro w; go_simp; try with_reducible rfl
    try simp only [Act.put, List.setIfInBounds_toArray, List.set_cons_zero, List.set_cons_succ]
    repeat (
      apply SeqF.take0
      case ho => exact rfl
      case hg => exact rfl
      case hy => (intro w hSw; (try dsimp only at hSw); go_simp; try with_reducible rfl)
      try simp only [Act.put, List.setIfInBounds_toArray, List.set_cons_zero, List.set_cons_succ])
    apply SeqF.step0
    case ho => exact rfl
    case hg => exact rfl
    intro K hK
    go_simp
    have b12 : Below w11.drew.heap.size w11.drew (w11.alloc (.cells #[.int .i64 y.pos, .string (str y.chain), .string (str y.state)] 46)).drew := Below.alloc1 w11.drew _
    have KH : BlkIs (w11.alloc (.cells #[.int .i64 y.pos, .string (str y.chain), .string (str y.state)] 46)).drew w11.heap.size 46 (hdCells y) := BlkIs.new w11.drew 46 #[.int .i64 y.pos, .string (str y.chain), .string (str y.state)]
    have hPc := hP5.later b12
    have Kc := K5.later b12
    have hle12 := b12.size
    generalize (w11.alloc (.cells #[.int .i64 y.pos, .string (str y.chain), .string (str y.state)] 46)).drew = w12 at *
    refine hK.out _ _ ⟨hPc.blk.cell 1, Kc.cell 0, Kc.cell 1, Kc.cell 2⟩ (fun _ => ?_)
    clear hK K hP5 K5
    try simp only [Act.put, List.setIfInBounds_toArray, List.set_cons_zero, List.set_cons_succ]
    apply SeqF.step0
    case ho => exact rfl
    case hg => exact rfl
    intro K hK
    obtain ⟨iH, hiH, hH0, hH1, hH2⟩ := info_hd
    have rh := hPc.hrow
    rw [HHL.out] at rh
    refine wp_append_lies w12 (.tmp 50) (.tmp 52) 37 (by rfl) 0 46 iH (.agg #[.int .i64 0, .string ⟨#[]⟩, .string ⟨#[]⟩]) 3 40 Tryz.underlying37 hiH hH0 hH1 hH2 rfl (by decide) (.slice (some ⟨g, 0, none⟩) N c2) N (x.heads.flatMap hdCells) (by rfl) rh ⟨w11.heap.size, 0, none⟩ 1 1 (hdCells y) (by rfl) rfl (blk_news KH 0 _ rfl) (hd_one y) (by decide) (by unfold maxLen; omega) (by omega) (Nat.zero_le _) _ rfl ?_
    intro gh ch w13 own13 gr13 hat13 hlt13
    have B13 : BlkIs w13 b 39 [.slice (some ⟨gr, 0, none⟩) (m + 1) cr, .slice (some ⟨g, 0, none⟩) N c2] := hPc.blk.kept gr13 (hPc.blk.not_row (by decide) hPc.hrow)
    have K13 := Kc.kept gr13 (show some w0.heap.size ≠ some g from fun e => by injection e with e; omega)
    obtain ⟨hPf, hOf⟩ := hPc.headd (y := y) gr13 (by rw [HHL.out]; exact own13) (fun k hk => by
      cases hk
      rcases hat13 with e | e
      · exact .inl (by cases e; exact HP0.out.hin _ rfl)
      · exact .inr (by rw [e]; exact Nat.le_trans hle5 hle12))
    have hO12 := (hO11.trans (Only.of_below (Below.drew (Below.refl _ w11)))).trans (Only.of_below b12)
    have hOF := hO12.behind hOf (fun j hj => by rcases hj with h | h; exact .inl h; exact .inr h)
    refine hK.out _ _ ⟨B13.cell 1, K13.cell 0, K13.cell 1, K13.cell 2⟩ (fun _ => ?_)
    clear hK K
    try simp only [Act.put, List.setIfInBounds_toArray, List.set_cons_zero, List.set_cons_succ]
    refine SeqF.done ?_
    simp only [List.drop_succ_cons, List.drop_zero]
    have z1 : w13.cell? ⟨b, 1, none⟩ = some (.slice (some ⟨g, 0, none⟩) N c2) := B13.cell 1
    have f1 := B13.frozen 1
    have hlog := hPf.log
    rw [List.map_append, HPS.out] at hlog
    have HLF := Lib.hid hlog
    have HOF := Lib.hid hOF
    clear own13 gr13 hat13 hlt13 K13 rh KH Kc hPc hPf hOf hO12 hOF hlog hPn hO11 b12
    go_wp2_with fail
    refine NoPanic.normal ?_
    go_wp2_with fail
    go_ret
    exact ⟨rfl, HLF.out, HOF.out⟩
end Go.Proofs.YtheebajklnljdaaGreatDoor
