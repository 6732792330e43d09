/- Joined: LogE LogI LogF LogG R3A. -/
import Derived.Test.YtgbemgndbemllaaGreatDoorGg
import Derived.Maps.AppendAt
import Derived.Deep.DeepMust

section
/- Len, Head and Record of a log. -/
namespace Go.Proofs.YtgbemgndbemllaaGreatDoor
open Go Go.RowKit
attribute [local go_sem] Oper.semAt_some

theorem LogAt.parts {S : Nat → Prop} {w : World} {b : Nat} {x : Lg} (h : LogAt w S b x) :
    ∃ A1 c1 A2 c2, w.cell? ⟨b, 0, none⟩ = some (.slice A1 x.recs.length c1) ∧ w.cell? ⟨b, 1, none⟩ = some (.slice A2 x.heads.length c2) ∧ x.recs.length ≤ c1 ∧ x.heads.length ≤ c2 ∧ b < w.heap.size ∧
      RecRow w S (.slice A1 x.recs.length c1) x.recs ∧ HdRow w S (.slice A2 x.heads.length c2) x.heads := by
  obtain ⟨rv, hv, h1, h2, h3, h4⟩ := h
  obtain ⟨A1, c1, rfl, k1⟩ := h3.len
  obtain ⟨A2, c2, rfl, k2⟩ := h4.len
  exact ⟨A1, c1, A2, c2, h1.cell 0, h1.cell 1, k1, k2, h1.lt, h3, h4⟩

/-- Head -/
def headA (x : Lg) (p : Int) : Hd × Bool := if 0 ≤ p ∧ p < (x.heads.length : Nat) then ((x.heads[p.toNat]?).getD hd0, true) else (hd0, false)
theorem headA_in {x : Lg} {k : Nat} {h : Hd} (e : x.heads[k]? = some h) : headA x k = (h, true) := by
  have := (List.getElem?_eq_some_iff.1 e).1
  unfold headA
  rw [if_pos (by omega), Int.toNat_natCast, e]
  rfl
theorem headA_out {x : Lg} {p : Int} (e : p < 0 ∨ (x.heads.length : Nat) ≤ p) : headA x p = (hd0, false) := if_neg (by omega)

set_option maxRecDepth 100000 in
set_option maxHeartbeats 4000000 in
theorem head_ok {S : Nat → Prop} {b : Nat} {x : Lg} {w : World} (h : LogAt w S b x) (p : Int) :
    Calls Tryz.prog 11 #[.pointer (some ⟨b, 0, none⟩), .int .i64 p] w fun e w' => e = .returned (.tuple #[hdV (headA x p).1, .bool (headA x p).2]) ∧ Below w.heap.size w w' := by
  obtain ⟨A1, c1, A2, c2, h1, h2, l1, l2, hb, hr, hh⟩ := h.parts
  have hb1 := fun o => Below.alloc (Below.refl w.heap.size w) (Nat.le_refl _) o
  have HB := Lib.hid hb1
  have n2 := World.new_ne w _ h2
  clear h1 l1 hr hb1
  by_cases hp : p < 0
  · rw [headA_out (.inl hp)]
    clear hh h2 n2
    go_enter Tryz.func11, Tryz.ntmps11
    go_wp2_with fail
    go_returns
    exact ⟨rfl, HB.out _⟩
  by_cases hq : ((x.heads.length : Nat) : Int) ≤ p
  · rw [headA_out (.inr hq)]
    have t1 : decide (((x.heads.length : Nat) : Int) ≤ p) = true := by simpa using hq
    clear hh
    go_enter Tryz.func11, Tryz.ntmps11
    go_wp2_with fail
    go_returns
    exact ⟨rfl, HB.out _⟩
  obtain ⟨k, rfl⟩ := Int.eq_ofNat_of_zero_le (show 0 ≤ p by omega)
  obtain ⟨y, hy⟩ : ∃ y, x.heads[k]? = some y := ⟨_, List.getElem?_eq_getElem (by omega)⟩
  rw [headA_in hy]
  obtain ⟨g, c, e0, hc, hg, -, k0, k1, k2⟩ := hh.at_ hy
  injection e0 with e1 e2 e3
  subst e1 e3
  have m0 := World.new_ne w _ k0
  have m1 := World.new_ne w _ k1
  have m2 := World.new_ne w _ k2
  have t1 : decide (x.heads.length ≤ k) = false := by simp; omega
  have q0 : (0 : Int) ≤ (k : Int) := by omega
  have q1 : (k : Int) < (x.heads.length : Int) := by omega
  obtain ⟨yp, yc, ys⟩ := y
  dsimp only at k0 k1 k2
  unfold hdV
  clear hh hy hq hp hc
  go_enter Tryz.func11, Tryz.ntmps11
  go_wp2_with fail
  go_returns
  exact ⟨rfl, HB.out _⟩
theorem head_nil (p : Int) (w : World) : Calls Tryz.prog 11 #[.pointer none, .int .i64 p] w fun e w' => e = .returned (.tuple #[hdV hd0, .bool false]) ∧ Below w.heap.size w w' := by
  have hb1 := fun o => Below.alloc (Below.refl w.heap.size w) (Nat.le_refl _) o
  have HB := Lib.hid hb1
  clear hb1
  go_enter Tryz.func11, Tryz.ntmps11
  go_wp2_with fail
  go_returns
  exact ⟨rfl, HB.out _⟩

end Go.Proofs.YtgbemgndbemllaaGreatDoor
end

section
/- Append of a log: what its two appends keep (no program's walk). -/
namespace Go.Proofs.YtgbemgndbemllaaGreatDoor
open Go Go.RowKit

theorem rows_apart2 {w : World} {base base' : Nat} {e e' : TypeId} {n n' : Nat} {v v' : Value} {k k' : Nat} {xs xs' : List Value} (h : w.ownsRow base e n v k xs) (h' : w.ownsRow base' e' n' v' k' xs') (he : e ≠ e') : v'.ownBlock = none ∨ v'.ownBlock ≠ v.ownBlock := by
  rcases h'.2 with ⟨rfl, _⟩ | ⟨g', cap', cur', rfl, _, hg', _⟩
  · exact .inl rfl
  · right
    rcases h.2 with ⟨rfl, _⟩ | ⟨g, cap, cur, rfl, _, hg, _⟩
    · simp [Value.ownBlock]
    · intro e1
      have e2 : g' = g := by simpa [Value.ownBlock] using e1
      subst e2
      have := hg.symm.trans hg'
      simp at this
      exact he this.2

theorem ownsRow_later {w w' : World} (hb : Below w.heap.size w w') {base : Nat} {e : TypeId} {n k : Nat} {v : Value} {xs : List Value} (hr : w.ownsRow base e n v k xs) : w'.ownsRow base e n v k xs :=
  ownsRow_same (S := fun _ => True) hr (.of_below hb) (fun _ _ => trivial)
theorem ChgsOwn.later {S : Nat → Prop} {w w' : World} {v : Value} {l : List Chg} (h : ChgsOwn w S v l) (hb : Below w.heap.size w w') : ChgsOwn w' S v l := ⟨ownsRow_later hb h.1, h.2⟩
theorem ChgsOwn.kept {S : Nat → Prop} {w w' : World} {row : Option Nat} {v : Value} {l : List Chg} (h : ChgsOwn w S v l) (hg : w.grownBy w' row) (hne : v.ownBlock = none ∨ v.ownBlock ≠ row) : ChgsOwn w' S v l := ⟨h.1.kept hg hne, h.2⟩

/-- between the steps of Append's last statement -/
structure AppJ (w : World) (S : Nat → Prop) (b : Nat) (rv hv : Value) (ps : List (Rec × Value)) (hs : List Hd) (R T : Nat → Prop) (v5 v6 : Value) (W : World) : Prop where
  only : Only S w W
  blk : BlkIs W b 77 [rv, hv]
  rrow : W.ownsRow 0 37 2 v5 ps.length (ps.flatMap recCells)
  rin : ∀ k, v5.ownBlock = some k → R k
  chs : ∀ p ∈ ps, ChgsOwn W R p.2 p.1.chs
  hrow : W.ownsRow 0 40 3 v6 hs.length (hs.flatMap hdCells)
  hin : ∀ k, v6.ownBlock = some k → T k

theorem AppJ.later {w : World} {S : Nat → Prop} {b : Nat} {rv hv : Value} {ps : List (Rec × Value)} {hs : List Hd} {R T : Nat → Prop} {v5 v6 : Value} {W W' : World} (h : AppJ w S b rv hv ps hs R T v5 v6 W) (hb : Below W.heap.size W W') :
    AppJ w S b rv hv ps hs R T v5 v6 W' :=
  ⟨h.only.trans (.of_below hb), h.blk.later hb, ownsRow_later hb h.rrow, h.rin, fun p hp => (h.chs p hp).later hb, ownsRow_later hb h.hrow, h.hin⟩
theorem Below.alloc1 (W : World) (o : Obj) : Below W.heap.size W (W.alloc o) := Below.alloc (Below.refl _ _) (Nat.le_refl _) o
theorem AppJ.drew {w : World} {S : Nat → Prop} {b : Nat} {rv hv : Value} {ps : List (Rec × Value)} {hs : List Hd} {R T : Nat → Prop} {v5 v6 : Value} {W : World} (h : AppJ w S b rv hv ps hs R T v5 v6 W) : AppJ w S b rv hv ps hs R T v5 v6 W.drew :=
  h.later (Below.drew (Below.refl _ _))

theorem AppJ.recd {w : World} {S : Nat → Prop} {b : Nat} {rv hv : Value} {ps : List (Rec × Value)} {hs : List Hd} {T : Nat → Prop} {v6 : Value} {W W' : World} (h : AppJ w S b rv hv ps hs S T rv v6 W) {r : Rec} {cv v' : Value}
    (hg : W.grownBy W' rv.ownBlock) (own : W'.ownsRow 0 37 2 v' (ps.length + 1) (ps.flatMap recCells ++ recCells (r, cv))) (hat : v'.ownBlock = rv.ownBlock ∨ v'.ownBlock = some W.heap.size) (hW : w.heap.size ≤ W.heap.size)
    (hc : ChgsOwn W (fun k => S k ∨ w.heap.size ≤ k) cv r.chs) : AppJ w S b rv hv (ps ++ [(r, cv)]) hs (fun k => S k ∨ w.heap.size ≤ k) T v' v6 W' := by
  have hkc : ∀ {v : Value} {l : List Chg} {Z : Nat → Prop}, ChgsOwn W Z v l → v.ownBlock = none ∨ v.ownBlock ≠ rv.ownBlock := fun hz => rows_apart2 h.rrow hz.1 (by decide)
  refine ⟨h.only.trans (Only.grown hg h.rin), (hg.block b h.blk.lt (h.blk.not_row (by decide) h.rrow)).trans h.blk, ?_, ?_, ?_, h.hrow.kept hg (rows_apart2 h.rrow h.hrow (by decide)), h.hin⟩
  · rw [List.length_append, List.length_singleton, List.flatMap_append]
    simpa using own
  · intro k hk
    rcases hat with e | e
    · exact .inl (h.rin k (e ▸ hk))
    · right
      rw [e] at hk
      cases hk
      exact hW
  · intro p hp
    rcases List.mem_append.1 hp with hp | hp
    · exact ((h.chs p hp).kept hg (hkc (h.chs p hp))).mono fun k hk => .inl hk
    · rw [List.mem_singleton] at hp
      subst hp
      exact hc.kept hg (hkc hc)

theorem AppJ.head {w : World} {S : Nat → Prop} {b : Nat} {rv hv : Value} {ps : List (Rec × Value)} {hs : List Hd} {R : Nat → Prop} {v5 : Value} {W W' : World} (h : AppJ w S b rv hv ps hs R S v5 hv W) {y : Hd} {v' : Value}
    (hg : W.grownBy W' hv.ownBlock) (own : W'.ownsRow 0 40 3 v' (hs.length + 1) (hs.flatMap hdCells ++ hdCells y)) (hat : v'.ownBlock = hv.ownBlock ∨ v'.ownBlock = some W.heap.size) (hW : w.heap.size ≤ W.heap.size) :
    AppJ w S b rv hv ps (hs ++ [y]) R (fun k => S k ∨ w.heap.size ≤ k) v5 v' W' := by
  refine ⟨h.only.trans (Only.grown hg h.hin), (hg.block b h.blk.lt (h.blk.not_row (by decide) h.hrow)).trans h.blk, h.rrow.kept hg (rows_apart2 h.hrow h.rrow (by decide)), h.rin, fun p hp => (h.chs p hp).kept hg (rows_apart2 h.hrow (h.chs p hp).1 (by decide)), ?_, ?_⟩
  · rw [List.length_append, List.length_singleton, List.flatMap_append]
    simpa using own
  · intro k hk
    rcases hat with e | e
    · exact .inl (h.hin k (e ▸ hk))
    · right
      rw [e] at hk
      cases hk
      exact hW

/-- the two stores -/
theorem AppJ.close {w : World} {S : Nat → Prop} {b : Nat} {rv hv : Value} {ps : List (Rec × Value)} {hs : List Hd} {v5 v6 : Value} {W : World} (hb : S b)
    (h : AppJ w S b rv hv ps hs (fun k => S k ∨ w.heap.size ≤ k) (fun k => S k ∨ w.heap.size ≤ k) v5 v6 W) :
    LogAt ((W.setCell ⟨b, 0, none⟩ v5).setCell ⟨b, 1, none⟩ v6) (fun k => S k ∨ w.heap.size ≤ k) b ⟨ps.map (·.1), hs⟩ ∧ Only S w ((W.setCell ⟨b, 0, none⟩ v5).setCell ⟨b, 1, none⟩ v6) := by
  have hO : Only (fun k => k = b) W ((W.setCell ⟨b, 0, none⟩ v5).setCell ⟨b, 1, none⟩ v6) := by
    refine Only.trans (Only.setCell (S := fun k => k = b) W ⟨b, 0, none⟩ v5 ?_) (Only.setCell (S := fun k => k = b) _ ⟨b, 1, none⟩ _ ?_) <;> rfl
  have hg : W.grownBy ((W.setCell ⟨b, 0, none⟩ v5).setCell ⟨b, 1, none⟩ v6) (some b) := ⟨hO.os, hO.tape, hO.output, hO.size, fun k hk hn => hO.block k hk fun e => hn (e ▸ rfl)⟩
  have hne : ∀ {base : Nat} {e : TypeId} {n k : Nat} {v : Value} {xs : List Value}, W.ownsRow base e n v k xs → 77 ≠ e → v.ownBlock = none ∨ v.ownBlock ≠ some b := fun hr he => .inr (h.blk.not_row he hr).symm
  refine ⟨⟨v5, v6, (h.blk.set 0 v5).set 1 v6, .inl hb, ⟨ps, rfl, h.rrow.kept hg (hne h.rrow (by decide)), h.rin, fun p hp => (h.chs p hp).kept hg (hne (h.chs p hp).1 (by decide))⟩, ⟨h.hrow.kept hg (hne h.hrow (by decide)), h.hin⟩⟩, ?_⟩
  exact h.only.trans (hO.mono fun k e => e ▸ hb)
end Go.Proofs.YtgbemgndbemllaaGreatDoor
end

section
/- The encodings of a log's heads: all, leaves. -/
namespace Go.Proofs.YtgbemgndbemllaaGreatDoor
open Go Go.RowKit Go.Shelf
attribute [local go_sem] Oper.semAt_some

theorem all_in (b : Nat) (w : World) : Calls Tryz.prog 69 #[.pointer (some ⟨b, 0, none⟩)] w fun e w' => e = .returned (.func (.func 98) #[] #[.pointer (some ⟨w.heap.size, 0, none⟩)]) ∧ w' = w.alloc (.cells #[.pointer (some ⟨b, 0, none⟩)] 25) := by
  go_enter Tryz.func69, Tryz.ntmps69
  go_wp2_with fail
  go_ret
  exact ⟨rfl, rfl⟩

set_option maxRecDepth 100000 in
set_option maxHeartbeats 4000000 in
theorem all1_in (n : Nat) (hn : 1 ≤ n) (l B1 b g cp : Nat) (hs : List Hd) (hlen : hs.length ≤ 1000000) (hB : ∀ h ∈ hs, hdB h = true) (J : Nat → World → Prop)
    (hbox : ∀ k W, J k W → W.cell? ⟨B1, 0, none⟩ = some (.pointer (some ⟨b, 0, none⟩)) ∧ W.cell? ⟨b, 1, none⟩ = some (.slice (some ⟨g, 0, none⟩) hs.length cp) ∧
      ∀ (j : Nat) x, hs[j]? = some x → W.cell? ⟨g, j * 3, none⟩ = some (.int .i64 x.pos) ∧ W.cell? ⟨g, j * 3 + 1, none⟩ = some (.string (str x.chain)) ∧ W.cell? ⟨g, j * 3 + 2, none⟩ = some (.string (str x.state)))
    (hbel : ∀ k W W', J k W → Below W.heap.size W W' → J k W')
    (hY : ∀ k W x, hs[k]? = some x → J k W → YieldAt Fence.wide (n - 1) Tryz.prog l #[.string (str (encHd x))] W fun e W' => e = .returned (.bool true) ∧ J (k + 1) W')
    (W : World) (h0 : J 0 W) :
    CallsIn Fence.wide n Tryz.prog 98 #[.func (.yield l) #[] #[], .pointer (some ⟨B1, 0, none⟩)] W fun e W' => (∃ v, e = .returned v) ∧ J hs.length W' := by
  refine callsIn_of_wp Tryz.func98 rfl trivial ?_ rfl
  simp only [Tryz.ntmps98, List.size_toArray, List.length_cons, List.length_nil, Nat.reduceAdd, Nat.reduceSub, Array.replicate_succ, Array.replicate_zero, List.push_toArray, List.append_toArray, List.nil_append, List.cons_append]
  obtain ⟨c1, c2, _⟩ := hbox 0 W h0
  gi_wp2
  gi_loopw [12] (fun iv wr => ∃ k : Nat, k ≤ hs.length ∧ iv = .int .i64 k ∧ J k wr) (fun iv _ => hs.length - (intOf iv).toNat)
  case atStart => exact ⟨0, by omega, rfl, h0⟩
  case round =>
    clear c1 c2
    obtain ⟨k, hk, rfl, hJ⟩ := hrel
    obtain ⟨c1, c2, c3⟩ := hbox k wr hJ
    by_cases hkm : k < hs.length
    · have t1 : decide (k < hs.length) = true := by simpa using hkm
      obtain ⟨x, hx⟩ : ∃ x, hs[k]? = some x := ⟨_, List.getElem?_eq_getElem hkm⟩
      obtain ⟨d0, d1, d2⟩ := c3 k x hx
      have i0 : (0 : Int) ≤ (k : Int) := by omega
      have i1 : (k : Int) < (hs.length : Int) := by omega
      have henc := fun W => hencode_ok x W
      have hE : encA x = (encHd x, 0) := if_pos (hB x (List.mem_of_getElem? hx))
      rw [hE] at henc
      have HE := Lib.hid henc
      have HY := Lib.hid (fun W hW => hY k W x hx hW)
      have hb1 : Below wr.heap.size wr (wr.alloc (.cells #[.int .i64 x.pos, .string (str x.chain), .string (str x.state)] 40)) := Below.alloc (Below.refl _ _) (Nat.le_refl _) _
      have HB1 := Lib.hid hb1
      unfold hdV at HE
      clear c3 hx hE henc hb1 hB
      gi_wp2
      refine ⟨trivial, ?_⟩
      refine (callsIn_wide.2 (HE.out _)).mono ?_
      rintro e w2 ⟨rfl, b2⟩
      have hJ2 := hbel k wr w2 hJ (Below.next HB1.out b2)
      obtain ⟨fn, tmps, assign, body, hy2, hR⟩ := HY.out w2 hJ2
      gi_wp2
      refine hR.mono ?_
      rintro e W' ⟨rfl, hJ'⟩
      clear c1 c2 d0 d1 d2
      gi_wp2
      exact ⟨⟨k + 1, by omega, by go_num, hJ'⟩, by simp [intOf]; omega⟩
    · have t1 : decide (k < hs.length) = false := by simpa using hkm
      have hk' : k = hs.length := by omega
      have hJK : J hs.length wr := hk' ▸ hJ
      clear hk' c3
      gi_wp2
      go_end0
      exact ⟨⟨_, rfl⟩, hJK⟩

/-- Between two rounds of leaves. -/
structure LvJ (w : World) (rec : Loop) (B1 b D L : Nat) (pre : List (List UInt8)) (W : World) : Prop where
  rl : W.heap[L]? = some (.loop rec)
  rk : W.heap[D]? = some (.deferred (some []))
  box : ∃ v, Boxed W w.heap.size 43 v ∧ W.ownsRow w.heap.size 9 1 v pre.length (svs pre)
  ptr : Boxed W B1 25 (.pointer (some ⟨b, 0, none⟩))
  below : Below w.heap.size w W
theorem LvJ.later {w : World} {rec : Loop} {B1 b D L : Nat} {pre : List (List UInt8)} {W W' : World} (h : LvJ w rec B1 b D L pre W) (hb : Below W.heap.size W W') : LvJ w rec B1 b D L pre W' := by
  obtain ⟨v, h1, h2⟩ := h.box
  exact ⟨(hb.block L (cellsBlock_size h.rl)).trans h.rl, (hb.block D (cellsBlock_size h.rk)).trans h.rk, ⟨v, (hb.block _ h1.lt).trans h1, ownsRow_below hb h2⟩, (hb.block _ h.ptr.lt).trans h.ptr, Below.next h.below hb⟩

set_option maxRecDepth 100000 in
set_option maxHeartbeats 4000000 in
theorem leaves_ok {S : Nat → Prop} {b : Nat} {x : Lg} {w : World} (h : LogAt w S b x) (good : Good x) :
    Calls Tryz.prog 31 #[.pointer (some ⟨b, 0, none⟩)] w fun e w' => ∃ v, e = .returned v ∧ w'.ownsRow w.heap.size 9 1 v (leavesL x).length (svs (leavesL x)) ∧ Below w.heap.size w w' := by
  obtain ⟨i0, hi, hz0, hz1, hz2⟩ := info_str
  obtain ⟨A1, c1, A2, cp, k1, k2, l1, l2, hbl, -, hh⟩ := h.parts
  obtain ⟨A', c', hv, hc', -, hj⟩ := ownsRow_form hh.1
  injection hv with e1 e2 e3
  subst e1 e3
  have hlen := good.len
  have hsm := good.small
  obtain ⟨g, rfl, hg, hgb, hcell⟩ := hj (by omega)
  have hcells : ∀ W, Below w.heap.size w W → W.cell? ⟨b, 1, none⟩ = some (.slice (some ⟨g, 0, none⟩) x.heads.length cp) ∧
      ∀ (j : Nat) y, x.heads[j]? = some y → W.cell? ⟨g, j * 3, none⟩ = some (.int .i64 y.pos) ∧ W.cell? ⟨g, j * 3 + 1, none⟩ = some (.string (str y.chain)) ∧ W.cell? ⟨g, j * 3 + 2, none⟩ = some (.string (str y.state)) := by
    intro W hW
    refine ⟨(hW.cell (p := ⟨b, 1, none⟩) hbl).trans k2, fun j y hy => ?_⟩
    have f := fun i u (hu : (hdCells y)[i]? = some u) => (hW.cell (p := ⟨g, j * 3 + i, none⟩) hg).trans (hcell (j * 3 + i) u (flat_get hdCells 3 hdCells_len x.heads j i y u hy hu))
    exact ⟨f 0 _ rfl, f 1 _ rfl, f 2 _ rfl⟩
  have hB : ∀ y ∈ x.heads, hdB y = true := fun y hy => by
    obtain ⟨i, hi⟩ := List.getElem?_of_mem hy
    exact (good.head i y hi).1
  have HCE := Lib.hid hcells
  clear hcells hj hcell hh h k1 k2 hgb
  refine (callsIn_wide (n := 3)).1 ?_
  refine callsIn_of_wp_marks Tryz.func31 rfl trivial ?_ rfl
  simp only [Tryz.ntmps31, List.size_toArray, List.length_cons, List.length_nil, Nat.reduceAdd, Nat.reduceSub, Array.replicate_succ, Array.replicate_zero, List.push_toArray, List.append_toArray, List.nil_append, List.cons_append]
  gi_wp2
  refine ⟨trivial, ?_⟩
  refine (callsIn_wide.2 (all_in b _)).mono ?_
  rintro e w3 ⟨rfl, hw3⟩
  gi_wp2

  refine rangeFunc_raw rfl (by omega) (gf := 98) (lb := #[.pointer (some ⟨w.heap.size + 1, 0, none⟩)]) rfl trivial (enters_of Tryz.func98 (by kernel_rfl) rfl) ?_
  intro fn hfn rec D L W1 hrec hD hL hW1
  have hs1 : W1.heap.size = w.heap.size + 4 := by rw [hW1]; simp
  simp only [World.size_alloc] at hD
  have hD2 : D = w.heap.size + 2 := by omega
  refine (all1_in (3 - 1) (by omega) L (w.heap.size + 1) b g cp x.heads (by omega) hB (fun k W => LvJ w (rec .ready none) (w.heap.size + 1) b D L ((leavesL x).take k) W) ?hbox ?hbel ?hY W1 ?h0).mono ?hend
  case hbox =>
    intro k W hJ
    obtain ⟨q1, q2⟩ := HCE.out W hJ.below
    exact ⟨hJ.ptr.cell, q1, q2⟩
  case hbel => intro k W W' hJ hb; exact hJ.later hb
  case h0 =>
    clear hrec
    refine ⟨?_, ?_, ⟨.slice none 0 0, ?_, World.ownsRow_nil _ _ _ _⟩, ?_, ?_⟩
    · rw [hW1, hL, hD]
      have := World.alloc_heap_new (((w.alloc (.cells #[.slice none 0 0] 43)).alloc (.cells #[.pointer (some ⟨b, 0, none⟩)] 25)).alloc (.deferred (some []))) (.loop (rec .ready none))
      simpa only [World.size_alloc] using this
    · rw [hW1, hD]
      have := World.alloc_heap_new ((w.alloc (.cells #[.slice none 0 0] 43)).alloc (.cells #[.pointer (some ⟨b, 0, none⟩)] 25)) (.deferred (some []))
      simp only [World.size_alloc] at this
      exact (Below.heap_alloc _ _ _ (by simp)).trans this
    · rw [hW1]; exact (((Boxed.new w _ _).alloc _).alloc _).alloc _
    · have := Boxed.new (w.alloc (.cells #[.slice none 0 0] 43)) 25 (.pointer (some ⟨b, 0, none⟩))
      rw [World.size_alloc] at this
      rw [hW1]; exact (this.alloc _).alloc _
    · rw [hW1]; exact ((((Below.refl _ w).alloc (Nat.le_refl _) _).alloc (by simp) _).alloc (by simp; omega) _).alloc (by simp; omega) _
  case hY =>
    intro k W y hy hJ
    have hnx : (leavesL x).take (k + 1) = (leavesL x).take k ++ [encHd y] := by
      unfold leavesL
      rw [List.take_add_one, List.getElem?_map, hy]
      rfl
    have hkl : ((leavesL x).take k).length ≤ 20000 := by rw [List.length_take, leavesL_len]; omega
    obtain ⟨pre, hpre⟩ : ∃ pre, pre = (leavesL x).take k := ⟨_, rfl⟩
    obtain ⟨E, hE⟩ : ∃ E, E = encHd y := ⟨_, rfl⟩
    rw [← hpre] at hJ hnx hkl
    rw [← hE] at hnx ⊢
    rw [hnx]
    have HD := Lib.hid hD
    have HL := Lib.hid hL
    have HD2 := Lib.hid hD2
    clear hD hL hD2 hW1 hs1 hy hnx hpre hE hB l1 l2 hlen hsm
    have HR := Lib.hid hrec
    refine yield_raw hfn hrec hJ.rl rfl ?_
    clear hrec
    simp only [List.zip_toArray, List.zip_cons_cons, List.zip_nil_right, List.foldl_toArray', List.foldl_cons, List.foldl_nil, List.setIfInBounds_toArray, List.set]
    gi_wp2
    refine ⟨hJ.rl, ?_⟩
    obtain ⟨u, hu, hr⟩ := hJ.box
    obtain ⟨W2, hW2⟩ : ∃ W2, W2 = W.putObj L (.loop (rec .busy none)) := ⟨_, rfl⟩
    rw [← hW2]
    have hl2 : W2.heap[L]? = some (.loop (rec .busy none)) := by rw [hW2]; exact World.putObj_heap_same (cellsBlock_size hJ.rl)
    have hk2 : W2.heap[D]? = some (.deferred (some [])) := by rw [hW2]; exact (World.putObj_heap_other (by have := HL.out; omega)).trans hJ.rk
    have hg2 : W.grownBy W2 (some L) := by rw [hW2]; exact grownBy_putObj' _ _ _
    have hu2 : Boxed W2 w.heap.size 43 u := hu.kept hg2 (by have := HL.out; have := HD.out; intro e; cases e; omega)
    have hp2 : Boxed W2 (w.heap.size + 1) 25 (.pointer (some ⟨b, 0, none⟩)) := hJ.ptr.kept hg2 (by have := HL.out; have := HD2.out; intro e; cases e; omega)
    have hb2 : Below w.heap.size w W2 := by rw [hW2]; exact below_putObj hJ.below _ (by have := HL.out; have := HD.out; omega) hJ.below.size
    have hr2 : W2.ownsRow w.heap.size 9 1 u pre.length (svs pre) := by rw [hW2]; exact ownsRow_putObj hr _ hJ.rl rfl
    clear hW2 hg2 hu hr hJ
    have hv := hu2.cell
    have hf := hu2.frozen
    have hle : w.heap.size ≤ W2.heap.size := hb2.size
    have hlt := hu2.lt
    gi_wp2_with (first
        | (gi_at_builtin; refine wpListIn_append_own _ rfl _ _ 43 rfl w.heap.size 9 i0 (.string ⟨#[]⟩) 1 16 Tryz.underlying43 hi hz0 hz1 hz2 rfl (by decide) u _ _ rfl (hr2.alloc _) ⟨W2.heap.size, 0, none⟩ 1 1 [.string (str E)] rfl rfl (cell_one_new _ _ _) (by simp [Value.oneCell']) (by unfold maxLen; omega) (by omega) (by simp; omega) ?_; intro v' w1 hown' hgrow _; obtain ⟨g', cap', rfl⟩ := ownsRow_succ hown'; obtain ⟨hv1, hv2, hr3, hk3, hb3⟩ := hu2.appended (by decide) hr2 hle (Nat.le_refl _) hown' hgrow; have hc1 := hv1.cell; have hf1 := hv1.frozen; have hzb := ((hp2.alloc (.cells #[.string (str E)] 9)).kept hgrow (hp2.not_row (by decide) hr2)); clear hu2 hr2 hgrow hown' hv))
    refine roundPost_normal HR.out (hk3.same _ _ hl2 rfl) ⟨rfl, ?_⟩
    have hl3 := hk3.same _ _ hl2 rfl
    refine ⟨World.putObj_heap_same (cellsBlock_size hl3), (World.putObj_heap_other (by have := HL.out; omega)).trans (hk3.same _ _ hk2 rfl), ⟨_, hv2.kept (grownBy_putObj' _ _ _) (fun e => by have := HL.out; have := HD.out; cases e; omega), ?_⟩, (hzb.other (by omega) _).kept (grownBy_putObj' _ _ _) (by have := HL.out; have := HD2.out; intro e; cases e; omega), below_putObj (hb2.trans hb3) _ (by have := HL.out; have := HD.out; omega) (hb2.trans hb3).size⟩
    have hr4 := ownsRow_putObj hr3 (.loop (rec .ready none)) hl3 rfl
    rw [List.length_append, List.length_singleton, svs_snoc]
    exact hr4
  case hend =>
    rintro e W2 ⟨⟨v, rfl⟩, hJ⟩
    refine ⟨⟨v, rfl⟩, .ready, none, (fun h => by cases h), hJ.rl, ?_⟩
    clear hrec
    have htk : (leavesL x).take x.heads.length = leavesL x := List.take_of_length_le (by rw [leavesL_len]; exact Nat.le_refl _)
    rw [htk] at hJ
    obtain ⟨u, hu, hr⟩ := hJ.box
    have hLs := cellsBlock_size hJ.rl
    have hu' : Boxed (W2.putObj L (.loop (rec .exhausted none))) w.heap.size 43 u := hu.kept (grownBy_putObj' _ _ _) (by intro e; cases e; omega)
    have hr' := ownsRow_putObj hr (.loop (rec .exhausted none)) hJ.rl rfl
    have hk' : (W2.putObj L (.loop (rec .exhausted none))).heap[D]? = some (.deferred (some [])) := (World.putObj_heap_other (by omega)).trans hJ.rk
    have hb' : Below w.heap.size w (W2.putObj L (.loop (rec .exhausted none))) := below_putObj hJ.below _ (by omega) hJ.below.size
    obtain ⟨W4, hW4⟩ : ∃ W4, W4 = W2.putObj L (.loop (rec .exhausted none)) := ⟨_, rfl⟩
    rw [← hW4] at hu' hr' hk' hb' ⊢
    have hD3 := hD2
    have hll : 1 ≤ (leavesL x).length := by rw [leavesL_len]; omega
    obtain ⟨gu, cu, rfl, -, -⟩ := World.ownsRow.form hr' hll
    clear hW4 hW1 hD hL hw3 hJ hu hr hs1 hD2 htk hB
    have HD := Lib.hid hD3
    clear hD3
    have hc := hu'.cell
    have hf := hu'.frozen
    simp only [rfAct]
    gi_wp2
    have hu5 := Boxed.set (.slice (some ⟨gu, 0, none⟩) (leavesL x).length cu) hu'
    have hr5 := hr'.kept (grownBy_setCell' W4 w.heap.size (.slice (some ⟨gu, 0, none⟩) (leavesL x).length cu)) (.inr (hu'.not_row (by decide) hr').symm)
    have hk5 := (KeepsOthers.setCell W4 ⟨w.heap.size, 0, none⟩ (.slice (some ⟨gu, 0, none⟩) (leavesL x).length cu)).same _ _ hk' rfl
    have hb5 := hb'.setCell (p := ⟨w.heap.size, 0, none⟩) (Nat.le_refl _) (.slice (some ⟨gu, 0, none⟩) (leavesL x).length cu)
    generalize W4.setCell ⟨w.heap.size, 0, none⟩ (.slice (some ⟨gu, 0, none⟩) (leavesL x).length cu) = W5 at *
    refine ⟨by simp, .inl ⟨_, _, rfl, run_takeDeferred hk5, ?_⟩⟩
    have hDl : w.heap.size ≤ D := by have := HD.out; omega
    have hu6 : Boxed (W5.putObj D (.deferred none)) w.heap.size 43 (.slice (some ⟨gu, 0, none⟩) (leavesL x).length cu) := hu5.kept (grownBy_putObj' _ _ _) (by have := HD.out; intro e; cases e; omega)
    have hr6 := ownsRow_putObj hr5 (.deferred none) hk5 rfl
    have hb6 := below_putObj hb5 (.deferred none) hDl hb5.size
    have y0 := hu6.cell
    clear hu5 hr5 hk5 hb5 hu' hr' hk' hb' hc hf
    generalize W5.putObj D (.deferred none) = W6 at *
    refine ⟨_, by simp [results, Tryz.results31, go_sem, y0]; try rfl, ?_⟩
    exact ⟨_, rfl, hr6, hb6⟩
end Go.Proofs.YtgbemgndbemllaaGreatDoor
end

section
/- Root, Prove and Extension of a log. -/
namespace Go.Proofs.YtgbemgndbemllaaGreatDoor
open Go Go.RowKit
attribute [local go_sem] Oper.semAt_some

theorem lroot_ok {S : Nat → Prop} {b : Nat} {x : Lg} {w : World} (h : LogAt w S b x) (good : Good x) (hR : RoundOk w) :
    Calls Tryz.prog 14 #[.pointer (some ⟨b, 0, none⟩)] w fun e w' => e = .returned (.string (str (rootA x))) ∧ Below w.heap.size w w' := by
  have hl := leaves_ok h good
  have hlen := good.len
  have hsm := good.small
  have hsh := leavesL_short good
  have hll := leavesL_len x
  have hroot : ∀ W v, Below w.heap.size w W → ListAt W v (leavesL x) → Calls Tryz.prog 25 #[v] W fun e w' => e = .returned (.string (str (rootA x))) ∧ Below W.heap.size W w' := fun W v hW hv =>
    root_list v (leavesL x) W hv (by omega) (fun y hy => by have := hsh y hy; omega) (hR.later hW)
  obtain ⟨Q, hQ⟩ : ∃ Q, Q = rootA x := ⟨_, rfl⟩
  obtain ⟨Lv, hLv⟩ : ∃ Lv, Lv = leavesL x := ⟨_, rfl⟩
  rw [← hQ] at hroot ⊢
  rw [← hLv] at hl hroot
  have HL := Lib.hid hl
  have HR := Lib.hid hroot
  clear hl hroot hsh hR h hQ hLv hll
  go_enter Tryz.func14, Tryz.ntmps14
  go_wp2_with fail
  refine (HL.out).mono ?_
  rintro e w1 ⟨v, rfl, own1, b1⟩
  have hv := listAt_own own1
  obtain ⟨A, c, rfl⟩ := hv.len
  go_wp2_with fail
  refine (HR.out _ _ b1 hv).mono ?_
  rintro e w2 ⟨rfl, b2⟩
  have hb2 := Below.next b1 b2
  go_wp2_with fail
  go_ret
  exact ⟨rfl, hb2⟩
theorem lroot_nil (w : World) : Calls Tryz.prog 14 #[.pointer none] w fun e w' => e = .returned (.string ⟨#[]⟩) ∧ w' = w := by
  go_enter Tryz.func14, Tryz.ntmps14
  go_wp2_with fail
  go_ret
  exact ⟨rfl, rfl⟩

set_option maxRecDepth 100000 in
set_option maxHeartbeats 1000000 in
theorem lprove_ok {S : Nat → Prop} {b : Nat} {x : Lg} {w : World} (h : LogAt w S b x) (good : Good x) (k : Nat) (hk : k < x.heads.length) (hR : RoundOk w) :
    Calls Tryz.prog 12 #[.pointer (some ⟨b, 0, none⟩), .int .i64 k] w fun e w' => ∃ A c, e = .returned (.tuple #[.slice A (proofL (leavesL x) k).length c, .int .i64 0]) ∧ ListAt w' (.slice A (proofL (leavesL x) k).length c) (proofL (leavesL x) k) ∧ Below w.heap.size w w' := by
  have hlen := good.len
  have hsm := good.small
  have hsh := leavesL_short good
  have hll := leavesL_len x
  obtain ⟨y, hy⟩ : ∃ y, x.heads[k]? = some y := ⟨_, List.getElem?_eq_getElem hk⟩
  have hhd := head_ok h (k : Int)
  rw [headA_in hy] at hhd
  obtain ⟨yp, yc, ys⟩ := y
  have hlv : ∀ W, Below w.heap.size w W → Calls Tryz.prog 31 #[.pointer (some ⟨b, 0, none⟩)] W fun e w' => ∃ v, e = .returned v ∧ w'.ownsRow W.heap.size 9 1 v (leavesL x).length (svs (leavesL x)) ∧ Below W.heap.size W w' := fun W hW => leaves_ok (h.below hW) good
  have hpr : ∀ W v, Below w.heap.size w W → ListAt W v (leavesL x) → Calls Tryz.prog 30 #[v, .int .i64 k] W fun e w' => ∃ A c, e = .returned (.tuple #[.slice A (proofL (leavesL x) k).length c, .int .i64 0]) ∧ ListAt w' (.slice A (proofL (leavesL x) k).length c) (proofL (leavesL x) k) ∧ Below W.heap.size W w' := fun W v hW hv =>
    proof_list v (leavesL x) k W hv (by omega) (by omega) (fun y hy => by have := hsh y hy; omega) (hR.later hW)
  obtain ⟨Q, hQ⟩ : ∃ Q, Q = proofL (leavesL x) k := ⟨_, rfl⟩
  obtain ⟨Lv, hLv⟩ : ∃ Lv, Lv = leavesL x := ⟨_, rfl⟩
  rw [← hQ] at hpr ⊢
  rw [← hLv] at hlv hpr
  have HH := Lib.hid hhd
  have HL := Lib.hid hlv
  have HP := Lib.hid hpr
  have hk2 : k ≤ 10000 := by omega
  clear hhd hlv hpr hsh hR h hy hQ hLv hll hlen hsm
  unfold hdV at HH
  go_enter Tryz.func12, Tryz.ntmps12
  go_wp2_with fail
  refine (HH.out).mono ?_
  rintro e w1 ⟨rfl, b1⟩
  have hb1 := Below.alloc b1 b1.size (.cells #[.int .i64 yp, .string (str yc), .string (str ys)] 40)
  have HB1 := Lib.hid hb1
  clear hb1
  go_wp2_with fail
  refine (HL.out _ HB1.out).mono ?_
  rintro e w2 ⟨v, rfl, own2, b2⟩
  have hb2 := Below.next HB1.out b2
  have hv := listAt_own own2
  obtain ⟨A, c, rfl⟩ := hv.len
  go_wp2_with fail
  with_reducible refine (HP.out _ _ hb2 hv).mono ?_
  rintro e w3 ⟨A3, c3, rfl, L3, b3⟩
  have hb3 := Below.next hb2 b3
  clear own2 hv
  go_wp2_with fail
  go_ret2
  exact ⟨A3, c3, rfl, L3, hb3⟩
set_option maxRecDepth 100000 in
set_option maxHeartbeats 1000000 in
theorem lprove_out {S : Nat → Prop} {b : Nat} {x : Lg} {w : World} (h : LogAt w S b x) (p : Int) (hp : p < 0 ∨ (x.heads.length : Nat) ≤ p) :
    Calls Tryz.prog 12 #[.pointer (some ⟨b, 0, none⟩), .int .i64 p] w fun e w' => e = .returned (.tuple #[.slice none 0 0, .int .i64 2]) ∧ Below w.heap.size w w' := by
  have hhd := head_ok h p
  rw [headA_out hp] at hhd
  have HH := Lib.hid hhd
  clear hhd h hp
  unfold hdV hd0 at HH
  go_enter Tryz.func12, Tryz.ntmps12
  go_wp2_with fail
  refine (HH.out).mono ?_
  rintro e w1 ⟨rfl, b1⟩
  have hb1 := Below.alloc b1 b1.size (.cells #[.int .i64 0, .string (str []), .string (str [])] 40)
  have HB1 := Lib.hid hb1
  clear hb1
  go_wp2_with fail
  go_ret2
  exact ⟨rfl, HB1.out⟩
theorem lprove_nil (p : Int) (w : World) : Calls Tryz.prog 12 #[.pointer none, .int .i64 p] w fun e w' => e = .returned (.tuple #[.slice none 0 0, .int .i64 1]) ∧ w' = w := by
  go_enter Tryz.func12, Tryz.ntmps12
  go_wp2_with fail
  go_ret2
  exact ⟨rfl, rfl⟩

end Go.Proofs.YtgbemgndbemllaaGreatDoor
end

section
/- The reference's within, Valid, Before, After, ValidChange (written by wip/mk_r3a.py). -/
namespace Go.Proofs.YtgbemgndbemllaaGreatDoor
open Go Go.RowKit
attribute [local go_sem] Oper.semAt_some

theorem rwithin_ok (n a b : Int) (w : World) :
    Calls Tryz.prog 82 #[.int .i64 n, .int .i64 a, .int .i64 b] w fun e w' => e = .returned (.bool (decide (a ≤ n) && decide (n ≤ b))) ∧ w' = w := by
  by_cases h1 : a ≤ n
  · have t1 : decide (a ≤ n) = true := by simpa using h1
    by_cases h2 : n ≤ b
    · have t2 : decide (n ≤ b) = true := by simpa using h2
      rw [t1, t2]
      go_enter Tryz.func82, Tryz.ntmps82
      go_wp2_with fail
      go_ret
      exact ⟨rfl, rfl⟩
    · have t2 : decide (n ≤ b) = false := by simpa using h2
      rw [t1, t2]
      go_enter Tryz.func82, Tryz.ntmps82
      go_wp2_with fail
      go_ret
      exact ⟨rfl, rfl⟩
  · have t1 : decide (a ≤ n) = false := by simpa using h1
    rw [t1, Bool.false_and]
    go_enter Tryz.func82, Tryz.ntmps82
    go_wp2_with fail
    go_ret
    exact ⟨rfl, rfl⟩

set_option maxRecDepth 100000 in
set_option maxHeartbeats 2000000 in
theorem rvalid_ok (t k : Int) (v : Int × Int × Int) (w : World) :
    Calls Tryz.prog 108 #[rowV t k v] w fun e w' => e = .returned (.bool (rowB t k v)) ∧ Below w.heap.size w w' := by
  obtain ⟨o0, o1, o2⟩ := v
  obtain ⟨y0, h0⟩ : ∃ y, valB o0 = y := ⟨_, rfl⟩
  obtain ⟨y1, h1⟩ : ∃ y, valB o1 = y := ⟨_, rfl⟩
  obtain ⟨y2, h2⟩ : ∃ y, valB o2 = y := ⟨_, rfl⟩
  obtain ⟨y3, h3⟩ : ∃ y, (decide (0 ≤ t) && decide (t ≤ 3)) = y := ⟨_, rfl⟩
  obtain ⟨y4, h4⟩ : ∃ y, (decide (1 ≤ k) && decide (k ≤ 1000000)) = y := ⟨_, rfl⟩
  have hR : rowB t k (o0, o1, o2) = (y3 && y4 && (y0 && y1 && y2)) := by unfold rowB; dsimp only; rw [h0, h1, h2, h3, h4]
  rw [hR]
  have c0 := fun W => rwithin_ok o0 (-1000000000) 1000000000 W
  have c1 := fun W => rwithin_ok o1 (-1000000000) 1000000000 W
  have c2 := fun W => rwithin_ok o2 (-1000000000) 1000000000 W
  have c3 := fun W => rwithin_ok t 0 3 W
  have c4 := fun W => rwithin_ok k 1 1000000 W
  unfold valB at h0 h1 h2
  rw [h0] at c0
  rw [h1] at c1
  rw [h2] at c2
  rw [h3] at c3
  rw [h4] at c4
  have H0 := Lib.hid c0
  have H1 := Lib.hid c1
  have H2 := Lib.hid c2
  have H3 := Lib.hid c3
  have H4 := Lib.hid c4
  unfold rowV
  dsimp only
  have hb := Below.alloc (Below.refl w.heap.size w) (Nat.le_refl _) (.cells #[.int .i64 t, .int .i64 k, .int .i64 o0, .int .i64 o1, .int .i64 o2] 67)
  have K := BlkIs.new w 67 #[.int .i64 t, .int .i64 k, .int .i64 o0, .int .i64 o1, .int .i64 o2]
  have hbH := Lib.hid hb
  have k0 : (w.alloc (.cells #[.int .i64 t, .int .i64 k, .int .i64 o0, .int .i64 o1, .int .i64 o2] 67)).cell? ⟨w.heap.size, 0, none⟩ = some (.int .i64 t) := K.cell 0
  have k1 : (w.alloc (.cells #[.int .i64 t, .int .i64 k, .int .i64 o0, .int .i64 o1, .int .i64 o2] 67)).cell? ⟨w.heap.size, 1, none⟩ = some (.int .i64 k) := K.cell 1
  have k2 : (w.alloc (.cells #[.int .i64 t, .int .i64 k, .int .i64 o0, .int .i64 o1, .int .i64 o2] 67)).cell? ⟨w.heap.size, 2, none⟩ = some (.int .i64 o0) := K.cell 2
  have k3 : (w.alloc (.cells #[.int .i64 t, .int .i64 k, .int .i64 o0, .int .i64 o1, .int .i64 o2] 67)).cell? ⟨w.heap.size, 3, none⟩ = some (.int .i64 o1) := K.cell 3
  have k4 : (w.alloc (.cells #[.int .i64 t, .int .i64 k, .int .i64 o0, .int .i64 o1, .int .i64 o2] 67)).cell? ⟨w.heap.size, 4, none⟩ = some (.int .i64 o2) := K.cell 4
  clear hR h0 h1 h2 h3 h4 c0 c1 c2 c3 c4 hb K
  go_enter Tryz.func108, Tryz.ntmps108
  go_wp2_with fail
  generalize w.alloc (.cells #[.int .i64 t, .int .i64 k, .int .i64 o0, .int .i64 o1, .int .i64 o2] 67) = w1 at *
  go_loopw [3] (fun iv wr => ∃ j : Nat, j ≤ 3 ∧ iv = .int .i64 j ∧ wr = w1 ∧ Hid ((0 < j → y0 = true) ∧ (1 < j → y1 = true) ∧ (2 < j → y2 = true))) (fun iv _ => 3 - (intOf iv).toNat)
  case atStart => exact ⟨0, by omega, rfl, rfl, Lib.hid ⟨fun h => by omega, fun h => by omega, fun h => by omega⟩⟩
  case round =>
    obtain ⟨j, hj, rfl, rfl, HY⟩ := hrel
    obtain rfl | rfl | rfl | rfl : j = 0 ∨ j = 1 ∨ j = 2 ∨ j = 3 := by omega
    · go_wp2_with fail
      refine (H0.out _).mono ?_
      rintro e w2 ⟨rfl, rfl⟩
      cases y0
      · go_wp2_with fail
        go_ret
        exact ⟨by simp, hbH.out⟩
      · go_wp2_with fail
        exact ⟨⟨1, by omega, by go_num, by trivial, Lib.hid (by simp)⟩, by simp [intOf]⟩
    · have e0 := HY.out.1 (by omega)
      subst e0
      go_wp2_with fail
      refine (H1.out _).mono ?_
      rintro e w2 ⟨rfl, rfl⟩
      cases y1
      · go_wp2_with fail
        go_ret
        exact ⟨by simp, hbH.out⟩
      · go_wp2_with fail
        exact ⟨⟨2, by omega, by go_num, by trivial, Lib.hid (by simp)⟩, by simp [intOf]⟩
    · have e0 := HY.out.1 (by omega)
      have e1 := HY.out.2.1 (by omega)
      subst e0 e1
      go_wp2_with fail
      refine (H2.out _).mono ?_
      rintro e w2 ⟨rfl, rfl⟩
      cases y2
      · go_wp2_with fail
        go_ret
        exact ⟨by simp, hbH.out⟩
      · go_wp2_with fail
        exact ⟨⟨3, by omega, by go_num, by trivial, Lib.hid (by simp)⟩, by simp [intOf]⟩
    · have e0 := HY.out.1 (by omega)
      have e1 := HY.out.2.1 (by omega)
      have e2 := HY.out.2.2 (by omega)
      subst e0 e1 e2
      go_wp2_with fail
      refine (H3.out _).mono ?_
      rintro e w2 ⟨rfl, rfl⟩
      cases y3
      · go_wp2_with fail
        go_ret
        exact ⟨rfl, hbH.out⟩
      go_wp2_with fail
      refine (H4.out _).mono ?_
      rintro e w3 ⟨rfl, rfl⟩
      go_wp2_with fail
      go_ret
      exact ⟨by simp, hbH.out⟩

set_option maxRecDepth 100000 in
set_option maxHeartbeats 4000000 in
theorem rbefore_ok (c : Chg) (w : World) :
    Calls Tryz.prog 107 #[chgV c] w fun e w' => e = .returned (.tuple #[halfV c c.had c.old, .bool c.had]) ∧ Below w.heap.size w w' := by
  obtain ⟨t, k, had, ⟨o0, o1, o2⟩, has, ⟨n0, n1, n2⟩⟩ := c
  have hb2 := fun o1 o2 => Below.alloc (Below.alloc (Below.refl w.heap.size w) (Nat.le_refl _) o1) (by rw [World.size_alloc]; omega) o2
  have HB := Lib.hid hb2
  clear hb2
  unfold chgV halfV rowV
  dsimp only
  cases had
  · rw [if_neg (by decide)]
    go_enter Tryz.func107, Tryz.ntmps107
    go_wp2_with fail
    go_returns
    exact ⟨rfl, HB.out _ _⟩
  · rw [if_pos rfl]
    go_enter Tryz.func107, Tryz.ntmps107
    go_wp2_with fail
    go_returns
    exact ⟨rfl, HB.out _ _⟩

set_option maxRecDepth 100000 in
set_option maxHeartbeats 4000000 in
theorem rafter_ok (c : Chg) (w : World) :
    Calls Tryz.prog 49 #[chgV c] w fun e w' => e = .returned (.tuple #[halfV c c.has c.new, .bool c.has]) ∧ Below w.heap.size w w' := by
  obtain ⟨t, k, had, ⟨o0, o1, o2⟩, has, ⟨n0, n1, n2⟩⟩ := c
  have hb2 := fun o1 o2 => Below.alloc (Below.alloc (Below.refl w.heap.size w) (Nat.le_refl _) o1) (by rw [World.size_alloc]; omega) o2
  have HB := Lib.hid hb2
  clear hb2
  unfold chgV halfV rowV
  dsimp only
  cases has
  · rw [if_neg (by decide)]
    go_enter Tryz.func49, Tryz.ntmps49
    go_wp2_with fail
    go_returns
    exact ⟨rfl, HB.out _ _⟩
  · rw [if_pos rfl]
    go_enter Tryz.func49, Tryz.ntmps49
    go_wp2_with fail
    go_returns
    exact ⟨rfl, HB.out _ _⟩

set_option maxRecDepth 100000 in
set_option maxHeartbeats 8000000 in
theorem rchg_ok (c : Chg) (w : World) :
    Calls Tryz.prog 83 #[chgV c] w fun e w' => e = .returned (.bool (chgB c)) ∧ Below w.heap.size w w' := by
  have hbe := fun W => rbefore_ok c W
  have haf := fun W => rafter_ok c W
  have hv1 := fun W => rvalid_ok c.table c.key c.old W
  have hv2 := fun W => rvalid_ok c.table c.key c.new W
  have hq := fun W => run_eqT W c.old c.new
  have hq1 := fun W => run_eqT W c.old (0, 0, 0)
  have hq2 := fun W => run_eqT W c.new (0, 0, 0)
  obtain ⟨y, hy⟩ : ∃ y, decide (c.old = c.new) = y := ⟨_, rfl⟩
  obtain ⟨z1, hz1⟩ : ∃ y, decide (c.old = (0, 0, 0)) = y := ⟨_, rfl⟩
  obtain ⟨z2, hz2⟩ : ∃ y, decide (c.new = (0, 0, 0)) = y := ⟨_, rfl⟩
  obtain ⟨r1, h1⟩ : ∃ y, rowB c.table c.key c.old = y := ⟨_, rfl⟩
  obtain ⟨r2, h2⟩ : ∃ y, rowB c.table c.key c.new = y := ⟨_, rfl⟩
  have hR : chgB c = (((c.had != c.has) || (c.had && !y)) && (c.had && r1 || !c.had && z1) && (c.has && r2 || !c.has && z2)) := by unfold chgB soundB; rw [hy, h1, h2, hz1, hz2]
  rw [hR]
  rw [hy] at hq
  rw [hz1] at hq1
  rw [hz2] at hq2
  rw [h1] at hv1
  rw [h2] at hv2
  have hgd := guard3
  have HBE := Lib.hid hbe
  have HAF := Lib.hid haf
  have HV1 := Lib.hid hv1
  have HV2 := Lib.hid hv2
  clear hR hy h1 h2 hz1 hz2 hbe haf hv1 hv2
  obtain ⟨t, k, had, ⟨o0, o1, o2⟩, has, ⟨n0, n1, n2⟩⟩ := c
  unfold chgV at HBE HAF
  unfold halfV rowV at HBE HAF
  unfold rowV at HV1 HV2
  unfold chgV
  dsimp only at HBE HAF HV1 HV2 hq hq1 hq2 ⊢
  cases had
  · cases has
    · simp only [if_false, Bool.false_eq_true] at HBE HAF
      have a0 := Below.alloc (Below.refl w.heap.size w) (Nat.le_refl _) (.cells #[.int .i64 t, .int .i64 k, .bool false, .int .i64 o0, .int .i64 o1, .int .i64 o2, .bool false, .int .i64 n0, .int .i64 n1, .int .i64 n2] 65)
      have K0 := BlkIs.new w 65 #[.int .i64 t, .int .i64 k, .bool false, .int .i64 o0, .int .i64 o1, .int .i64 o2, .bool false, .int .i64 n0, .int .i64 n1, .int .i64 n2]
      have c0 : (w.alloc (.cells #[.int .i64 t, .int .i64 k, .bool false, .int .i64 o0, .int .i64 o1, .int .i64 o2, .bool false, .int .i64 n0, .int .i64 n1, .int .i64 n2] 65)).cell? ⟨w.heap.size, 0, none⟩ = some (.int .i64 t) := K0.cell 0
      have c1 : (w.alloc (.cells #[.int .i64 t, .int .i64 k, .bool false, .int .i64 o0, .int .i64 o1, .int .i64 o2, .bool false, .int .i64 n0, .int .i64 n1, .int .i64 n2] 65)).cell? ⟨w.heap.size, 1, none⟩ = some (.int .i64 k) := K0.cell 1
      have c2 : (w.alloc (.cells #[.int .i64 t, .int .i64 k, .bool false, .int .i64 o0, .int .i64 o1, .int .i64 o2, .bool false, .int .i64 n0, .int .i64 n1, .int .i64 n2] 65)).cell? ⟨w.heap.size, 2, none⟩ = some (.bool false) := K0.cell 2
      have c3 : (w.alloc (.cells #[.int .i64 t, .int .i64 k, .bool false, .int .i64 o0, .int .i64 o1, .int .i64 o2, .bool false, .int .i64 n0, .int .i64 n1, .int .i64 n2] 65)).cell? ⟨w.heap.size, 3, none⟩ = some (.int .i64 o0) := K0.cell 3
      have c4 : (w.alloc (.cells #[.int .i64 t, .int .i64 k, .bool false, .int .i64 o0, .int .i64 o1, .int .i64 o2, .bool false, .int .i64 n0, .int .i64 n1, .int .i64 n2] 65)).cell? ⟨w.heap.size, 4, none⟩ = some (.int .i64 o1) := K0.cell 4
      have c5 : (w.alloc (.cells #[.int .i64 t, .int .i64 k, .bool false, .int .i64 o0, .int .i64 o1, .int .i64 o2, .bool false, .int .i64 n0, .int .i64 n1, .int .i64 n2] 65)).cell? ⟨w.heap.size, 5, none⟩ = some (.int .i64 o2) := K0.cell 5
      have c6 : (w.alloc (.cells #[.int .i64 t, .int .i64 k, .bool false, .int .i64 o0, .int .i64 o1, .int .i64 o2, .bool false, .int .i64 n0, .int .i64 n1, .int .i64 n2] 65)).cell? ⟨w.heap.size, 6, none⟩ = some (.bool false) := K0.cell 6
      have c7 : (w.alloc (.cells #[.int .i64 t, .int .i64 k, .bool false, .int .i64 o0, .int .i64 o1, .int .i64 o2, .bool false, .int .i64 n0, .int .i64 n1, .int .i64 n2] 65)).cell? ⟨w.heap.size, 7, none⟩ = some (.int .i64 n0) := K0.cell 7
      have c8 : (w.alloc (.cells #[.int .i64 t, .int .i64 k, .bool false, .int .i64 o0, .int .i64 o1, .int .i64 o2, .bool false, .int .i64 n0, .int .i64 n1, .int .i64 n2] 65)).cell? ⟨w.heap.size, 8, none⟩ = some (.int .i64 n1) := K0.cell 8
      have c9 : (w.alloc (.cells #[.int .i64 t, .int .i64 k, .bool false, .int .i64 o0, .int .i64 o1, .int .i64 o2, .bool false, .int .i64 n0, .int .i64 n1, .int .i64 n2] 65)).cell? ⟨w.heap.size, 9, none⟩ = some (.int .i64 n2) := K0.cell 9
      have A0 := Lib.hid a0
      have KK0 := Lib.hid K0
      clear a0 K0
      go_enter Tryz.func83, Tryz.ntmps83
      go_wp2_with fail
      refine (HBE.out _).mono ?_
      rintro e w1 ⟨rfl, b1⟩
      have hb1 := Below.next A0.out b1
      have a1 := Below.alloc (Below.refl w1.heap.size w1) (Nat.le_refl _) (.cells #[.int .i64 0, .int .i64 0, .int .i64 0, .int .i64 0, .int .i64 0] 67)
      have K1 := BlkIs.new w1 67 #[.int .i64 0, .int .i64 0, .int .i64 0, .int .i64 0, .int .i64 0]
      have K0 := (KK0.out.later b1).later a1
      have hb2 := Below.next hb1 a1
      clear c0 c1 c2 c3 c4 c5 c6 c7 c8 c9
      have c0 : (w1.alloc (.cells #[.int .i64 0, .int .i64 0, .int .i64 0, .int .i64 0, .int .i64 0] 67)).cell? ⟨w.heap.size, 0, none⟩ = some (.int .i64 t) := K0.cell 0
      have c1 : (w1.alloc (.cells #[.int .i64 0, .int .i64 0, .int .i64 0, .int .i64 0, .int .i64 0] 67)).cell? ⟨w.heap.size, 1, none⟩ = some (.int .i64 k) := K0.cell 1
      have c2 : (w1.alloc (.cells #[.int .i64 0, .int .i64 0, .int .i64 0, .int .i64 0, .int .i64 0] 67)).cell? ⟨w.heap.size, 2, none⟩ = some (.bool false) := K0.cell 2
      have c3 : (w1.alloc (.cells #[.int .i64 0, .int .i64 0, .int .i64 0, .int .i64 0, .int .i64 0] 67)).cell? ⟨w.heap.size, 3, none⟩ = some (.int .i64 o0) := K0.cell 3
      have c4 : (w1.alloc (.cells #[.int .i64 0, .int .i64 0, .int .i64 0, .int .i64 0, .int .i64 0] 67)).cell? ⟨w.heap.size, 4, none⟩ = some (.int .i64 o1) := K0.cell 4
      have c5 : (w1.alloc (.cells #[.int .i64 0, .int .i64 0, .int .i64 0, .int .i64 0, .int .i64 0] 67)).cell? ⟨w.heap.size, 5, none⟩ = some (.int .i64 o2) := K0.cell 5
      have c6 : (w1.alloc (.cells #[.int .i64 0, .int .i64 0, .int .i64 0, .int .i64 0, .int .i64 0] 67)).cell? ⟨w.heap.size, 6, none⟩ = some (.bool false) := K0.cell 6
      have c7 : (w1.alloc (.cells #[.int .i64 0, .int .i64 0, .int .i64 0, .int .i64 0, .int .i64 0] 67)).cell? ⟨w.heap.size, 7, none⟩ = some (.int .i64 n0) := K0.cell 7
      have c8 : (w1.alloc (.cells #[.int .i64 0, .int .i64 0, .int .i64 0, .int .i64 0, .int .i64 0] 67)).cell? ⟨w.heap.size, 8, none⟩ = some (.int .i64 n1) := K0.cell 8
      have c9 : (w1.alloc (.cells #[.int .i64 0, .int .i64 0, .int .i64 0, .int .i64 0, .int .i64 0] 67)).cell? ⟨w.heap.size, 9, none⟩ = some (.int .i64 n2) := K0.cell 9
      have KK1 := Lib.hid K1
      have KK2 := Lib.hid K0
      have HB2 := Lib.hid hb2
      clear K1 K0 a1 hb2 b1 hb1 KK0 A0
      go_wp2_with fail
      refine (HAF.out _).mono ?_
      rintro e w3 ⟨rfl, b3⟩
      have hb3 := Below.next HB2.out b3
      have a3 := Below.alloc (Below.refl w3.heap.size w3) (Nat.le_refl _) (.cells #[.int .i64 0, .int .i64 0, .int .i64 0, .int .i64 0, .int .i64 0] 67)
      have K3 := BlkIs.new w3 67 #[.int .i64 0, .int .i64 0, .int .i64 0, .int .i64 0, .int .i64 0]
      have K0 := (KK2.out.later b3).later a3
      have K1 := (KK1.out.later b3).later a3
      have hb4 := Below.next hb3 a3
      clear c0 c1 c2 c3 c4 c5 c6 c7 c8 c9
      have c0 : (w3.alloc (.cells #[.int .i64 0, .int .i64 0, .int .i64 0, .int .i64 0, .int .i64 0] 67)).cell? ⟨w.heap.size, 0, none⟩ = some (.int .i64 t) := K0.cell 0
      have c1 : (w3.alloc (.cells #[.int .i64 0, .int .i64 0, .int .i64 0, .int .i64 0, .int .i64 0] 67)).cell? ⟨w.heap.size, 1, none⟩ = some (.int .i64 k) := K0.cell 1
      have c2 : (w3.alloc (.cells #[.int .i64 0, .int .i64 0, .int .i64 0, .int .i64 0, .int .i64 0] 67)).cell? ⟨w.heap.size, 2, none⟩ = some (.bool false) := K0.cell 2
      have c3 : (w3.alloc (.cells #[.int .i64 0, .int .i64 0, .int .i64 0, .int .i64 0, .int .i64 0] 67)).cell? ⟨w.heap.size, 3, none⟩ = some (.int .i64 o0) := K0.cell 3
      have c4 : (w3.alloc (.cells #[.int .i64 0, .int .i64 0, .int .i64 0, .int .i64 0, .int .i64 0] 67)).cell? ⟨w.heap.size, 4, none⟩ = some (.int .i64 o1) := K0.cell 4
      have c5 : (w3.alloc (.cells #[.int .i64 0, .int .i64 0, .int .i64 0, .int .i64 0, .int .i64 0] 67)).cell? ⟨w.heap.size, 5, none⟩ = some (.int .i64 o2) := K0.cell 5
      have c6 : (w3.alloc (.cells #[.int .i64 0, .int .i64 0, .int .i64 0, .int .i64 0, .int .i64 0] 67)).cell? ⟨w.heap.size, 6, none⟩ = some (.bool false) := K0.cell 6
      have c7 : (w3.alloc (.cells #[.int .i64 0, .int .i64 0, .int .i64 0, .int .i64 0, .int .i64 0] 67)).cell? ⟨w.heap.size, 7, none⟩ = some (.int .i64 n0) := K0.cell 7
      have c8 : (w3.alloc (.cells #[.int .i64 0, .int .i64 0, .int .i64 0, .int .i64 0, .int .i64 0] 67)).cell? ⟨w.heap.size, 8, none⟩ = some (.int .i64 n1) := K0.cell 8
      have c9 : (w3.alloc (.cells #[.int .i64 0, .int .i64 0, .int .i64 0, .int .i64 0, .int .i64 0] 67)).cell? ⟨w.heap.size, 9, none⟩ = some (.int .i64 n2) := K0.cell 9
      have d0 : (w3.alloc (.cells #[.int .i64 0, .int .i64 0, .int .i64 0, .int .i64 0, .int .i64 0] 67)).cell? ⟨w1.heap.size, 0, none⟩ = some (.int .i64 0) := K1.cell 0
      have d1 : (w3.alloc (.cells #[.int .i64 0, .int .i64 0, .int .i64 0, .int .i64 0, .int .i64 0] 67)).cell? ⟨w1.heap.size, 1, none⟩ = some (.int .i64 0) := K1.cell 1
      have d2 : (w3.alloc (.cells #[.int .i64 0, .int .i64 0, .int .i64 0, .int .i64 0, .int .i64 0] 67)).cell? ⟨w1.heap.size, 2, none⟩ = some (.int .i64 0) := K1.cell 2
      have d3 : (w3.alloc (.cells #[.int .i64 0, .int .i64 0, .int .i64 0, .int .i64 0, .int .i64 0] 67)).cell? ⟨w1.heap.size, 3, none⟩ = some (.int .i64 0) := K1.cell 3
      have d4 : (w3.alloc (.cells #[.int .i64 0, .int .i64 0, .int .i64 0, .int .i64 0, .int .i64 0] 67)).cell? ⟨w1.heap.size, 4, none⟩ = some (.int .i64 0) := K1.cell 4
      have e0 : (w3.alloc (.cells #[.int .i64 0, .int .i64 0, .int .i64 0, .int .i64 0, .int .i64 0] 67)).cell? ⟨w3.heap.size, 0, none⟩ = some (.int .i64 0) := K3.cell 0
      have e1 : (w3.alloc (.cells #[.int .i64 0, .int .i64 0, .int .i64 0, .int .i64 0, .int .i64 0] 67)).cell? ⟨w3.heap.size, 1, none⟩ = some (.int .i64 0) := K3.cell 1
      have e2 : (w3.alloc (.cells #[.int .i64 0, .int .i64 0, .int .i64 0, .int .i64 0, .int .i64 0] 67)).cell? ⟨w3.heap.size, 2, none⟩ = some (.int .i64 0) := K3.cell 2
      have e3 : (w3.alloc (.cells #[.int .i64 0, .int .i64 0, .int .i64 0, .int .i64 0, .int .i64 0] 67)).cell? ⟨w3.heap.size, 3, none⟩ = some (.int .i64 0) := K3.cell 3
      have e4 : (w3.alloc (.cells #[.int .i64 0, .int .i64 0, .int .i64 0, .int .i64 0, .int .i64 0] 67)).cell? ⟨w3.heap.size, 4, none⟩ = some (.int .i64 0) := K3.cell 4
      have J0 := Lib.hid K0
      have J3 := Lib.hid K3
      have HB4 := Lib.hid hb4
      clear K0 K1 K3 a3 hb4 b3 hb3 KK1 KK2 HB2
      go_wp2_with fail
      go_ret
      exact ⟨rfl, HB4.out⟩
    · simp only [if_true, if_false, Bool.false_eq_true] at HBE HAF
      have a0 := Below.alloc (Below.refl w.heap.size w) (Nat.le_refl _) (.cells #[.int .i64 t, .int .i64 k, .bool false, .int .i64 o0, .int .i64 o1, .int .i64 o2, .bool true, .int .i64 n0, .int .i64 n1, .int .i64 n2] 65)
      have K0 := BlkIs.new w 65 #[.int .i64 t, .int .i64 k, .bool false, .int .i64 o0, .int .i64 o1, .int .i64 o2, .bool true, .int .i64 n0, .int .i64 n1, .int .i64 n2]
      have c0 : (w.alloc (.cells #[.int .i64 t, .int .i64 k, .bool false, .int .i64 o0, .int .i64 o1, .int .i64 o2, .bool true, .int .i64 n0, .int .i64 n1, .int .i64 n2] 65)).cell? ⟨w.heap.size, 0, none⟩ = some (.int .i64 t) := K0.cell 0
      have c1 : (w.alloc (.cells #[.int .i64 t, .int .i64 k, .bool false, .int .i64 o0, .int .i64 o1, .int .i64 o2, .bool true, .int .i64 n0, .int .i64 n1, .int .i64 n2] 65)).cell? ⟨w.heap.size, 1, none⟩ = some (.int .i64 k) := K0.cell 1
      have c2 : (w.alloc (.cells #[.int .i64 t, .int .i64 k, .bool false, .int .i64 o0, .int .i64 o1, .int .i64 o2, .bool true, .int .i64 n0, .int .i64 n1, .int .i64 n2] 65)).cell? ⟨w.heap.size, 2, none⟩ = some (.bool false) := K0.cell 2
      have c3 : (w.alloc (.cells #[.int .i64 t, .int .i64 k, .bool false, .int .i64 o0, .int .i64 o1, .int .i64 o2, .bool true, .int .i64 n0, .int .i64 n1, .int .i64 n2] 65)).cell? ⟨w.heap.size, 3, none⟩ = some (.int .i64 o0) := K0.cell 3
      have c4 : (w.alloc (.cells #[.int .i64 t, .int .i64 k, .bool false, .int .i64 o0, .int .i64 o1, .int .i64 o2, .bool true, .int .i64 n0, .int .i64 n1, .int .i64 n2] 65)).cell? ⟨w.heap.size, 4, none⟩ = some (.int .i64 o1) := K0.cell 4
      have c5 : (w.alloc (.cells #[.int .i64 t, .int .i64 k, .bool false, .int .i64 o0, .int .i64 o1, .int .i64 o2, .bool true, .int .i64 n0, .int .i64 n1, .int .i64 n2] 65)).cell? ⟨w.heap.size, 5, none⟩ = some (.int .i64 o2) := K0.cell 5
      have c6 : (w.alloc (.cells #[.int .i64 t, .int .i64 k, .bool false, .int .i64 o0, .int .i64 o1, .int .i64 o2, .bool true, .int .i64 n0, .int .i64 n1, .int .i64 n2] 65)).cell? ⟨w.heap.size, 6, none⟩ = some (.bool true) := K0.cell 6
      have c7 : (w.alloc (.cells #[.int .i64 t, .int .i64 k, .bool false, .int .i64 o0, .int .i64 o1, .int .i64 o2, .bool true, .int .i64 n0, .int .i64 n1, .int .i64 n2] 65)).cell? ⟨w.heap.size, 7, none⟩ = some (.int .i64 n0) := K0.cell 7
      have c8 : (w.alloc (.cells #[.int .i64 t, .int .i64 k, .bool false, .int .i64 o0, .int .i64 o1, .int .i64 o2, .bool true, .int .i64 n0, .int .i64 n1, .int .i64 n2] 65)).cell? ⟨w.heap.size, 8, none⟩ = some (.int .i64 n1) := K0.cell 8
      have c9 : (w.alloc (.cells #[.int .i64 t, .int .i64 k, .bool false, .int .i64 o0, .int .i64 o1, .int .i64 o2, .bool true, .int .i64 n0, .int .i64 n1, .int .i64 n2] 65)).cell? ⟨w.heap.size, 9, none⟩ = some (.int .i64 n2) := K0.cell 9
      have A0 := Lib.hid a0
      have KK0 := Lib.hid K0
      clear a0 K0
      go_enter Tryz.func83, Tryz.ntmps83
      go_wp2_with fail
      refine (HBE.out _).mono ?_
      rintro e w1 ⟨rfl, b1⟩
      have hb1 := Below.next A0.out b1
      have a1 := Below.alloc (Below.refl w1.heap.size w1) (Nat.le_refl _) (.cells #[.int .i64 0, .int .i64 0, .int .i64 0, .int .i64 0, .int .i64 0] 67)
      have K1 := BlkIs.new w1 67 #[.int .i64 0, .int .i64 0, .int .i64 0, .int .i64 0, .int .i64 0]
      have K0 := (KK0.out.later b1).later a1
      have hb2 := Below.next hb1 a1
      clear c0 c1 c2 c3 c4 c5 c6 c7 c8 c9
      have c0 : (w1.alloc (.cells #[.int .i64 0, .int .i64 0, .int .i64 0, .int .i64 0, .int .i64 0] 67)).cell? ⟨w.heap.size, 0, none⟩ = some (.int .i64 t) := K0.cell 0
      have c1 : (w1.alloc (.cells #[.int .i64 0, .int .i64 0, .int .i64 0, .int .i64 0, .int .i64 0] 67)).cell? ⟨w.heap.size, 1, none⟩ = some (.int .i64 k) := K0.cell 1
      have c2 : (w1.alloc (.cells #[.int .i64 0, .int .i64 0, .int .i64 0, .int .i64 0, .int .i64 0] 67)).cell? ⟨w.heap.size, 2, none⟩ = some (.bool false) := K0.cell 2
      have c3 : (w1.alloc (.cells #[.int .i64 0, .int .i64 0, .int .i64 0, .int .i64 0, .int .i64 0] 67)).cell? ⟨w.heap.size, 3, none⟩ = some (.int .i64 o0) := K0.cell 3
      have c4 : (w1.alloc (.cells #[.int .i64 0, .int .i64 0, .int .i64 0, .int .i64 0, .int .i64 0] 67)).cell? ⟨w.heap.size, 4, none⟩ = some (.int .i64 o1) := K0.cell 4
      have c5 : (w1.alloc (.cells #[.int .i64 0, .int .i64 0, .int .i64 0, .int .i64 0, .int .i64 0] 67)).cell? ⟨w.heap.size, 5, none⟩ = some (.int .i64 o2) := K0.cell 5
      have c6 : (w1.alloc (.cells #[.int .i64 0, .int .i64 0, .int .i64 0, .int .i64 0, .int .i64 0] 67)).cell? ⟨w.heap.size, 6, none⟩ = some (.bool true) := K0.cell 6
      have c7 : (w1.alloc (.cells #[.int .i64 0, .int .i64 0, .int .i64 0, .int .i64 0, .int .i64 0] 67)).cell? ⟨w.heap.size, 7, none⟩ = some (.int .i64 n0) := K0.cell 7
      have c8 : (w1.alloc (.cells #[.int .i64 0, .int .i64 0, .int .i64 0, .int .i64 0, .int .i64 0] 67)).cell? ⟨w.heap.size, 8, none⟩ = some (.int .i64 n1) := K0.cell 8
      have c9 : (w1.alloc (.cells #[.int .i64 0, .int .i64 0, .int .i64 0, .int .i64 0, .int .i64 0] 67)).cell? ⟨w.heap.size, 9, none⟩ = some (.int .i64 n2) := K0.cell 9
      have KK1 := Lib.hid K1
      have KK2 := Lib.hid K0
      have HB2 := Lib.hid hb2
      clear K1 K0 a1 hb2 b1 hb1 KK0 A0
      go_wp2_with fail
      refine (HAF.out _).mono ?_
      rintro e w3 ⟨rfl, b3⟩
      have hb3 := Below.next HB2.out b3
      have a3 := Below.alloc (Below.refl w3.heap.size w3) (Nat.le_refl _) (.cells #[.int .i64 t, .int .i64 k, .int .i64 n0, .int .i64 n1, .int .i64 n2] 67)
      have K3 := BlkIs.new w3 67 #[.int .i64 t, .int .i64 k, .int .i64 n0, .int .i64 n1, .int .i64 n2]
      have K0 := (KK2.out.later b3).later a3
      have K1 := (KK1.out.later b3).later a3
      have hb4 := Below.next hb3 a3
      clear c0 c1 c2 c3 c4 c5 c6 c7 c8 c9
      have c0 : (w3.alloc (.cells #[.int .i64 t, .int .i64 k, .int .i64 n0, .int .i64 n1, .int .i64 n2] 67)).cell? ⟨w.heap.size, 0, none⟩ = some (.int .i64 t) := K0.cell 0
      have c1 : (w3.alloc (.cells #[.int .i64 t, .int .i64 k, .int .i64 n0, .int .i64 n1, .int .i64 n2] 67)).cell? ⟨w.heap.size, 1, none⟩ = some (.int .i64 k) := K0.cell 1
      have c2 : (w3.alloc (.cells #[.int .i64 t, .int .i64 k, .int .i64 n0, .int .i64 n1, .int .i64 n2] 67)).cell? ⟨w.heap.size, 2, none⟩ = some (.bool false) := K0.cell 2
      have c3 : (w3.alloc (.cells #[.int .i64 t, .int .i64 k, .int .i64 n0, .int .i64 n1, .int .i64 n2] 67)).cell? ⟨w.heap.size, 3, none⟩ = some (.int .i64 o0) := K0.cell 3
      have c4 : (w3.alloc (.cells #[.int .i64 t, .int .i64 k, .int .i64 n0, .int .i64 n1, .int .i64 n2] 67)).cell? ⟨w.heap.size, 4, none⟩ = some (.int .i64 o1) := K0.cell 4
      have c5 : (w3.alloc (.cells #[.int .i64 t, .int .i64 k, .int .i64 n0, .int .i64 n1, .int .i64 n2] 67)).cell? ⟨w.heap.size, 5, none⟩ = some (.int .i64 o2) := K0.cell 5
      have c6 : (w3.alloc (.cells #[.int .i64 t, .int .i64 k, .int .i64 n0, .int .i64 n1, .int .i64 n2] 67)).cell? ⟨w.heap.size, 6, none⟩ = some (.bool true) := K0.cell 6
      have c7 : (w3.alloc (.cells #[.int .i64 t, .int .i64 k, .int .i64 n0, .int .i64 n1, .int .i64 n2] 67)).cell? ⟨w.heap.size, 7, none⟩ = some (.int .i64 n0) := K0.cell 7
      have c8 : (w3.alloc (.cells #[.int .i64 t, .int .i64 k, .int .i64 n0, .int .i64 n1, .int .i64 n2] 67)).cell? ⟨w.heap.size, 8, none⟩ = some (.int .i64 n1) := K0.cell 8
      have c9 : (w3.alloc (.cells #[.int .i64 t, .int .i64 k, .int .i64 n0, .int .i64 n1, .int .i64 n2] 67)).cell? ⟨w.heap.size, 9, none⟩ = some (.int .i64 n2) := K0.cell 9
      have d0 : (w3.alloc (.cells #[.int .i64 t, .int .i64 k, .int .i64 n0, .int .i64 n1, .int .i64 n2] 67)).cell? ⟨w1.heap.size, 0, none⟩ = some (.int .i64 0) := K1.cell 0
      have d1 : (w3.alloc (.cells #[.int .i64 t, .int .i64 k, .int .i64 n0, .int .i64 n1, .int .i64 n2] 67)).cell? ⟨w1.heap.size, 1, none⟩ = some (.int .i64 0) := K1.cell 1
      have d2 : (w3.alloc (.cells #[.int .i64 t, .int .i64 k, .int .i64 n0, .int .i64 n1, .int .i64 n2] 67)).cell? ⟨w1.heap.size, 2, none⟩ = some (.int .i64 0) := K1.cell 2
      have d3 : (w3.alloc (.cells #[.int .i64 t, .int .i64 k, .int .i64 n0, .int .i64 n1, .int .i64 n2] 67)).cell? ⟨w1.heap.size, 3, none⟩ = some (.int .i64 0) := K1.cell 3
      have d4 : (w3.alloc (.cells #[.int .i64 t, .int .i64 k, .int .i64 n0, .int .i64 n1, .int .i64 n2] 67)).cell? ⟨w1.heap.size, 4, none⟩ = some (.int .i64 0) := K1.cell 4
      have e0 : (w3.alloc (.cells #[.int .i64 t, .int .i64 k, .int .i64 n0, .int .i64 n1, .int .i64 n2] 67)).cell? ⟨w3.heap.size, 0, none⟩ = some (.int .i64 t) := K3.cell 0
      have e1 : (w3.alloc (.cells #[.int .i64 t, .int .i64 k, .int .i64 n0, .int .i64 n1, .int .i64 n2] 67)).cell? ⟨w3.heap.size, 1, none⟩ = some (.int .i64 k) := K3.cell 1
      have e2 : (w3.alloc (.cells #[.int .i64 t, .int .i64 k, .int .i64 n0, .int .i64 n1, .int .i64 n2] 67)).cell? ⟨w3.heap.size, 2, none⟩ = some (.int .i64 n0) := K3.cell 2
      have e3 : (w3.alloc (.cells #[.int .i64 t, .int .i64 k, .int .i64 n0, .int .i64 n1, .int .i64 n2] 67)).cell? ⟨w3.heap.size, 3, none⟩ = some (.int .i64 n1) := K3.cell 3
      have e4 : (w3.alloc (.cells #[.int .i64 t, .int .i64 k, .int .i64 n0, .int .i64 n1, .int .i64 n2] 67)).cell? ⟨w3.heap.size, 4, none⟩ = some (.int .i64 n2) := K3.cell 4
      have J0 := Lib.hid K0
      have J3 := Lib.hid K3
      have HB4 := Lib.hid hb4
      clear K0 K1 K3 a3 hb4 b3 hb3 KK1 KK2 HB2
      go_wp2_with fail
      generalize (w3.alloc (.cells #[.int .i64 t, .int .i64 k, .int .i64 n0, .int .i64 n1, .int .i64 n2] 67)) = w4 at *
      refine (HV2.out _).mono ?_
      rintro e w5 ⟨rfl, b5⟩
      have hb5 := Below.next HB4.out b5
      have K0 := J0.out.later b5
      clear c0 c1 c2 c3 c4 c5 c6 c7 c8 c9 d0 d1 d2 d3 d4 e0 e1 e2 e3 e4
      have c0 : w5.cell? ⟨w.heap.size, 0, none⟩ = some (.int .i64 t) := K0.cell 0
      have c1 : w5.cell? ⟨w.heap.size, 1, none⟩ = some (.int .i64 k) := K0.cell 1
      have c2 : w5.cell? ⟨w.heap.size, 2, none⟩ = some (.bool false) := K0.cell 2
      have c3 : w5.cell? ⟨w.heap.size, 3, none⟩ = some (.int .i64 o0) := K0.cell 3
      have c4 : w5.cell? ⟨w.heap.size, 4, none⟩ = some (.int .i64 o1) := K0.cell 4
      have c5 : w5.cell? ⟨w.heap.size, 5, none⟩ = some (.int .i64 o2) := K0.cell 5
      have c6 : w5.cell? ⟨w.heap.size, 6, none⟩ = some (.bool true) := K0.cell 6
      have c7 : w5.cell? ⟨w.heap.size, 7, none⟩ = some (.int .i64 n0) := K0.cell 7
      have c8 : w5.cell? ⟨w.heap.size, 8, none⟩ = some (.int .i64 n1) := K0.cell 8
      have c9 : w5.cell? ⟨w.heap.size, 9, none⟩ = some (.int .i64 n2) := K0.cell 9
      have HB5 := Lib.hid hb5
      clear K0 b5 hb5
      cases r2
      case false =>
        cases z1
        case false =>
          go_wp2_with fail
          go_ret
          exact ⟨rfl, HB5.out⟩
        case true =>
          go_wp2_with fail
          go_ret
          exact ⟨rfl, HB5.out⟩
      cases z1
      case false =>
        go_wp2_with fail
        go_ret
        exact ⟨rfl, HB5.out⟩
      go_wp2_with fail
      go_ret
      exact ⟨rfl, HB5.out⟩
  · cases has
    · simp only [if_true, if_false, Bool.false_eq_true] at HBE HAF
      have a0 := Below.alloc (Below.refl w.heap.size w) (Nat.le_refl _) (.cells #[.int .i64 t, .int .i64 k, .bool true, .int .i64 o0, .int .i64 o1, .int .i64 o2, .bool false, .int .i64 n0, .int .i64 n1, .int .i64 n2] 65)
      have K0 := BlkIs.new w 65 #[.int .i64 t, .int .i64 k, .bool true, .int .i64 o0, .int .i64 o1, .int .i64 o2, .bool false, .int .i64 n0, .int .i64 n1, .int .i64 n2]
      have c0 : (w.alloc (.cells #[.int .i64 t, .int .i64 k, .bool true, .int .i64 o0, .int .i64 o1, .int .i64 o2, .bool false, .int .i64 n0, .int .i64 n1, .int .i64 n2] 65)).cell? ⟨w.heap.size, 0, none⟩ = some (.int .i64 t) := K0.cell 0
      have c1 : (w.alloc (.cells #[.int .i64 t, .int .i64 k, .bool true, .int .i64 o0, .int .i64 o1, .int .i64 o2, .bool false, .int .i64 n0, .int .i64 n1, .int .i64 n2] 65)).cell? ⟨w.heap.size, 1, none⟩ = some (.int .i64 k) := K0.cell 1
      have c2 : (w.alloc (.cells #[.int .i64 t, .int .i64 k, .bool true, .int .i64 o0, .int .i64 o1, .int .i64 o2, .bool false, .int .i64 n0, .int .i64 n1, .int .i64 n2] 65)).cell? ⟨w.heap.size, 2, none⟩ = some (.bool true) := K0.cell 2
      have c3 : (w.alloc (.cells #[.int .i64 t, .int .i64 k, .bool true, .int .i64 o0, .int .i64 o1, .int .i64 o2, .bool false, .int .i64 n0, .int .i64 n1, .int .i64 n2] 65)).cell? ⟨w.heap.size, 3, none⟩ = some (.int .i64 o0) := K0.cell 3
      have c4 : (w.alloc (.cells #[.int .i64 t, .int .i64 k, .bool true, .int .i64 o0, .int .i64 o1, .int .i64 o2, .bool false, .int .i64 n0, .int .i64 n1, .int .i64 n2] 65)).cell? ⟨w.heap.size, 4, none⟩ = some (.int .i64 o1) := K0.cell 4
      have c5 : (w.alloc (.cells #[.int .i64 t, .int .i64 k, .bool true, .int .i64 o0, .int .i64 o1, .int .i64 o2, .bool false, .int .i64 n0, .int .i64 n1, .int .i64 n2] 65)).cell? ⟨w.heap.size, 5, none⟩ = some (.int .i64 o2) := K0.cell 5
      have c6 : (w.alloc (.cells #[.int .i64 t, .int .i64 k, .bool true, .int .i64 o0, .int .i64 o1, .int .i64 o2, .bool false, .int .i64 n0, .int .i64 n1, .int .i64 n2] 65)).cell? ⟨w.heap.size, 6, none⟩ = some (.bool false) := K0.cell 6
      have c7 : (w.alloc (.cells #[.int .i64 t, .int .i64 k, .bool true, .int .i64 o0, .int .i64 o1, .int .i64 o2, .bool false, .int .i64 n0, .int .i64 n1, .int .i64 n2] 65)).cell? ⟨w.heap.size, 7, none⟩ = some (.int .i64 n0) := K0.cell 7
      have c8 : (w.alloc (.cells #[.int .i64 t, .int .i64 k, .bool true, .int .i64 o0, .int .i64 o1, .int .i64 o2, .bool false, .int .i64 n0, .int .i64 n1, .int .i64 n2] 65)).cell? ⟨w.heap.size, 8, none⟩ = some (.int .i64 n1) := K0.cell 8
      have c9 : (w.alloc (.cells #[.int .i64 t, .int .i64 k, .bool true, .int .i64 o0, .int .i64 o1, .int .i64 o2, .bool false, .int .i64 n0, .int .i64 n1, .int .i64 n2] 65)).cell? ⟨w.heap.size, 9, none⟩ = some (.int .i64 n2) := K0.cell 9
      have A0 := Lib.hid a0
      have KK0 := Lib.hid K0
      clear a0 K0
      go_enter Tryz.func83, Tryz.ntmps83
      go_wp2_with fail
      refine (HBE.out _).mono ?_
      rintro e w1 ⟨rfl, b1⟩
      have hb1 := Below.next A0.out b1
      have a1 := Below.alloc (Below.refl w1.heap.size w1) (Nat.le_refl _) (.cells #[.int .i64 t, .int .i64 k, .int .i64 o0, .int .i64 o1, .int .i64 o2] 67)
      have K1 := BlkIs.new w1 67 #[.int .i64 t, .int .i64 k, .int .i64 o0, .int .i64 o1, .int .i64 o2]
      have K0 := (KK0.out.later b1).later a1
      have hb2 := Below.next hb1 a1
      clear c0 c1 c2 c3 c4 c5 c6 c7 c8 c9
      have c0 : (w1.alloc (.cells #[.int .i64 t, .int .i64 k, .int .i64 o0, .int .i64 o1, .int .i64 o2] 67)).cell? ⟨w.heap.size, 0, none⟩ = some (.int .i64 t) := K0.cell 0
      have c1 : (w1.alloc (.cells #[.int .i64 t, .int .i64 k, .int .i64 o0, .int .i64 o1, .int .i64 o2] 67)).cell? ⟨w.heap.size, 1, none⟩ = some (.int .i64 k) := K0.cell 1
      have c2 : (w1.alloc (.cells #[.int .i64 t, .int .i64 k, .int .i64 o0, .int .i64 o1, .int .i64 o2] 67)).cell? ⟨w.heap.size, 2, none⟩ = some (.bool true) := K0.cell 2
      have c3 : (w1.alloc (.cells #[.int .i64 t, .int .i64 k, .int .i64 o0, .int .i64 o1, .int .i64 o2] 67)).cell? ⟨w.heap.size, 3, none⟩ = some (.int .i64 o0) := K0.cell 3
      have c4 : (w1.alloc (.cells #[.int .i64 t, .int .i64 k, .int .i64 o0, .int .i64 o1, .int .i64 o2] 67)).cell? ⟨w.heap.size, 4, none⟩ = some (.int .i64 o1) := K0.cell 4
      have c5 : (w1.alloc (.cells #[.int .i64 t, .int .i64 k, .int .i64 o0, .int .i64 o1, .int .i64 o2] 67)).cell? ⟨w.heap.size, 5, none⟩ = some (.int .i64 o2) := K0.cell 5
      have c6 : (w1.alloc (.cells #[.int .i64 t, .int .i64 k, .int .i64 o0, .int .i64 o1, .int .i64 o2] 67)).cell? ⟨w.heap.size, 6, none⟩ = some (.bool false) := K0.cell 6
      have c7 : (w1.alloc (.cells #[.int .i64 t, .int .i64 k, .int .i64 o0, .int .i64 o1, .int .i64 o2] 67)).cell? ⟨w.heap.size, 7, none⟩ = some (.int .i64 n0) := K0.cell 7
      have c8 : (w1.alloc (.cells #[.int .i64 t, .int .i64 k, .int .i64 o0, .int .i64 o1, .int .i64 o2] 67)).cell? ⟨w.heap.size, 8, none⟩ = some (.int .i64 n1) := K0.cell 8
      have c9 : (w1.alloc (.cells #[.int .i64 t, .int .i64 k, .int .i64 o0, .int .i64 o1, .int .i64 o2] 67)).cell? ⟨w.heap.size, 9, none⟩ = some (.int .i64 n2) := K0.cell 9
      have KK1 := Lib.hid K1
      have KK2 := Lib.hid K0
      have HB2 := Lib.hid hb2
      clear K1 K0 a1 hb2 b1 hb1 KK0 A0
      go_wp2_with fail
      refine (HAF.out _).mono ?_
      rintro e w3 ⟨rfl, b3⟩
      have hb3 := Below.next HB2.out b3
      have a3 := Below.alloc (Below.refl w3.heap.size w3) (Nat.le_refl _) (.cells #[.int .i64 0, .int .i64 0, .int .i64 0, .int .i64 0, .int .i64 0] 67)
      have K3 := BlkIs.new w3 67 #[.int .i64 0, .int .i64 0, .int .i64 0, .int .i64 0, .int .i64 0]
      have K0 := (KK2.out.later b3).later a3
      have K1 := (KK1.out.later b3).later a3
      have hb4 := Below.next hb3 a3
      clear c0 c1 c2 c3 c4 c5 c6 c7 c8 c9
      have c0 : (w3.alloc (.cells #[.int .i64 0, .int .i64 0, .int .i64 0, .int .i64 0, .int .i64 0] 67)).cell? ⟨w.heap.size, 0, none⟩ = some (.int .i64 t) := K0.cell 0
      have c1 : (w3.alloc (.cells #[.int .i64 0, .int .i64 0, .int .i64 0, .int .i64 0, .int .i64 0] 67)).cell? ⟨w.heap.size, 1, none⟩ = some (.int .i64 k) := K0.cell 1
      have c2 : (w3.alloc (.cells #[.int .i64 0, .int .i64 0, .int .i64 0, .int .i64 0, .int .i64 0] 67)).cell? ⟨w.heap.size, 2, none⟩ = some (.bool true) := K0.cell 2
      have c3 : (w3.alloc (.cells #[.int .i64 0, .int .i64 0, .int .i64 0, .int .i64 0, .int .i64 0] 67)).cell? ⟨w.heap.size, 3, none⟩ = some (.int .i64 o0) := K0.cell 3
      have c4 : (w3.alloc (.cells #[.int .i64 0, .int .i64 0, .int .i64 0, .int .i64 0, .int .i64 0] 67)).cell? ⟨w.heap.size, 4, none⟩ = some (.int .i64 o1) := K0.cell 4
      have c5 : (w3.alloc (.cells #[.int .i64 0, .int .i64 0, .int .i64 0, .int .i64 0, .int .i64 0] 67)).cell? ⟨w.heap.size, 5, none⟩ = some (.int .i64 o2) := K0.cell 5
      have c6 : (w3.alloc (.cells #[.int .i64 0, .int .i64 0, .int .i64 0, .int .i64 0, .int .i64 0] 67)).cell? ⟨w.heap.size, 6, none⟩ = some (.bool false) := K0.cell 6
      have c7 : (w3.alloc (.cells #[.int .i64 0, .int .i64 0, .int .i64 0, .int .i64 0, .int .i64 0] 67)).cell? ⟨w.heap.size, 7, none⟩ = some (.int .i64 n0) := K0.cell 7
      have c8 : (w3.alloc (.cells #[.int .i64 0, .int .i64 0, .int .i64 0, .int .i64 0, .int .i64 0] 67)).cell? ⟨w.heap.size, 8, none⟩ = some (.int .i64 n1) := K0.cell 8
      have c9 : (w3.alloc (.cells #[.int .i64 0, .int .i64 0, .int .i64 0, .int .i64 0, .int .i64 0] 67)).cell? ⟨w.heap.size, 9, none⟩ = some (.int .i64 n2) := K0.cell 9
      have d0 : (w3.alloc (.cells #[.int .i64 0, .int .i64 0, .int .i64 0, .int .i64 0, .int .i64 0] 67)).cell? ⟨w1.heap.size, 0, none⟩ = some (.int .i64 t) := K1.cell 0
      have d1 : (w3.alloc (.cells #[.int .i64 0, .int .i64 0, .int .i64 0, .int .i64 0, .int .i64 0] 67)).cell? ⟨w1.heap.size, 1, none⟩ = some (.int .i64 k) := K1.cell 1
      have d2 : (w3.alloc (.cells #[.int .i64 0, .int .i64 0, .int .i64 0, .int .i64 0, .int .i64 0] 67)).cell? ⟨w1.heap.size, 2, none⟩ = some (.int .i64 o0) := K1.cell 2
      have d3 : (w3.alloc (.cells #[.int .i64 0, .int .i64 0, .int .i64 0, .int .i64 0, .int .i64 0] 67)).cell? ⟨w1.heap.size, 3, none⟩ = some (.int .i64 o1) := K1.cell 3
      have d4 : (w3.alloc (.cells #[.int .i64 0, .int .i64 0, .int .i64 0, .int .i64 0, .int .i64 0] 67)).cell? ⟨w1.heap.size, 4, none⟩ = some (.int .i64 o2) := K1.cell 4
      have e0 : (w3.alloc (.cells #[.int .i64 0, .int .i64 0, .int .i64 0, .int .i64 0, .int .i64 0] 67)).cell? ⟨w3.heap.size, 0, none⟩ = some (.int .i64 0) := K3.cell 0
      have e1 : (w3.alloc (.cells #[.int .i64 0, .int .i64 0, .int .i64 0, .int .i64 0, .int .i64 0] 67)).cell? ⟨w3.heap.size, 1, none⟩ = some (.int .i64 0) := K3.cell 1
      have e2 : (w3.alloc (.cells #[.int .i64 0, .int .i64 0, .int .i64 0, .int .i64 0, .int .i64 0] 67)).cell? ⟨w3.heap.size, 2, none⟩ = some (.int .i64 0) := K3.cell 2
      have e3 : (w3.alloc (.cells #[.int .i64 0, .int .i64 0, .int .i64 0, .int .i64 0, .int .i64 0] 67)).cell? ⟨w3.heap.size, 3, none⟩ = some (.int .i64 0) := K3.cell 3
      have e4 : (w3.alloc (.cells #[.int .i64 0, .int .i64 0, .int .i64 0, .int .i64 0, .int .i64 0] 67)).cell? ⟨w3.heap.size, 4, none⟩ = some (.int .i64 0) := K3.cell 4
      have J0 := Lib.hid K0
      have J3 := Lib.hid K3
      have HB4 := Lib.hid hb4
      clear K0 K1 K3 a3 hb4 b3 hb3 KK1 KK2 HB2
      go_wp2_with fail
      generalize (w3.alloc (.cells #[.int .i64 0, .int .i64 0, .int .i64 0, .int .i64 0, .int .i64 0] 67)) = w4 at *
      refine (HV1.out _).mono ?_
      rintro e w5 ⟨rfl, b5⟩
      have hb5 := Below.next HB4.out b5
      have K0 := J0.out.later b5
      have K3 := J3.out.later b5
      clear c0 c1 c2 c3 c4 c5 c6 c7 c8 c9 d0 d1 d2 d3 d4 e0 e1 e2 e3 e4
      have c0 : w5.cell? ⟨w.heap.size, 0, none⟩ = some (.int .i64 t) := K0.cell 0
      have c1 : w5.cell? ⟨w.heap.size, 1, none⟩ = some (.int .i64 k) := K0.cell 1
      have c2 : w5.cell? ⟨w.heap.size, 2, none⟩ = some (.bool true) := K0.cell 2
      have c3 : w5.cell? ⟨w.heap.size, 3, none⟩ = some (.int .i64 o0) := K0.cell 3
      have c4 : w5.cell? ⟨w.heap.size, 4, none⟩ = some (.int .i64 o1) := K0.cell 4
      have c5 : w5.cell? ⟨w.heap.size, 5, none⟩ = some (.int .i64 o2) := K0.cell 5
      have c6 : w5.cell? ⟨w.heap.size, 6, none⟩ = some (.bool false) := K0.cell 6
      have c7 : w5.cell? ⟨w.heap.size, 7, none⟩ = some (.int .i64 n0) := K0.cell 7
      have c8 : w5.cell? ⟨w.heap.size, 8, none⟩ = some (.int .i64 n1) := K0.cell 8
      have c9 : w5.cell? ⟨w.heap.size, 9, none⟩ = some (.int .i64 n2) := K0.cell 9
      have e0 : w5.cell? ⟨w3.heap.size, 0, none⟩ = some (.int .i64 0) := K3.cell 0
      have e1 : w5.cell? ⟨w3.heap.size, 1, none⟩ = some (.int .i64 0) := K3.cell 1
      have e2 : w5.cell? ⟨w3.heap.size, 2, none⟩ = some (.int .i64 0) := K3.cell 2
      have e3 : w5.cell? ⟨w3.heap.size, 3, none⟩ = some (.int .i64 0) := K3.cell 3
      have e4 : w5.cell? ⟨w3.heap.size, 4, none⟩ = some (.int .i64 0) := K3.cell 4
      have J0 := Lib.hid K0
      have HB5 := Lib.hid hb5
      clear K0 K3 b5 hb5
      cases r1
      case false =>
        go_wp2_with fail
        go_ret
        exact ⟨rfl, HB5.out⟩
      cases z2
      case false =>
        go_wp2_with fail
        go_ret
        exact ⟨rfl, HB5.out⟩
      go_wp2_with fail
      go_ret
      exact ⟨rfl, HB5.out⟩
    · simp only [if_true] at HBE HAF
      have a0 := Below.alloc (Below.refl w.heap.size w) (Nat.le_refl _) (.cells #[.int .i64 t, .int .i64 k, .bool true, .int .i64 o0, .int .i64 o1, .int .i64 o2, .bool true, .int .i64 n0, .int .i64 n1, .int .i64 n2] 65)
      have K0 := BlkIs.new w 65 #[.int .i64 t, .int .i64 k, .bool true, .int .i64 o0, .int .i64 o1, .int .i64 o2, .bool true, .int .i64 n0, .int .i64 n1, .int .i64 n2]
      have c0 : (w.alloc (.cells #[.int .i64 t, .int .i64 k, .bool true, .int .i64 o0, .int .i64 o1, .int .i64 o2, .bool true, .int .i64 n0, .int .i64 n1, .int .i64 n2] 65)).cell? ⟨w.heap.size, 0, none⟩ = some (.int .i64 t) := K0.cell 0
      have c1 : (w.alloc (.cells #[.int .i64 t, .int .i64 k, .bool true, .int .i64 o0, .int .i64 o1, .int .i64 o2, .bool true, .int .i64 n0, .int .i64 n1, .int .i64 n2] 65)).cell? ⟨w.heap.size, 1, none⟩ = some (.int .i64 k) := K0.cell 1
      have c2 : (w.alloc (.cells #[.int .i64 t, .int .i64 k, .bool true, .int .i64 o0, .int .i64 o1, .int .i64 o2, .bool true, .int .i64 n0, .int .i64 n1, .int .i64 n2] 65)).cell? ⟨w.heap.size, 2, none⟩ = some (.bool true) := K0.cell 2
      have c3 : (w.alloc (.cells #[.int .i64 t, .int .i64 k, .bool true, .int .i64 o0, .int .i64 o1, .int .i64 o2, .bool true, .int .i64 n0, .int .i64 n1, .int .i64 n2] 65)).cell? ⟨w.heap.size, 3, none⟩ = some (.int .i64 o0) := K0.cell 3
      have c4 : (w.alloc (.cells #[.int .i64 t, .int .i64 k, .bool true, .int .i64 o0, .int .i64 o1, .int .i64 o2, .bool true, .int .i64 n0, .int .i64 n1, .int .i64 n2] 65)).cell? ⟨w.heap.size, 4, none⟩ = some (.int .i64 o1) := K0.cell 4
      have c5 : (w.alloc (.cells #[.int .i64 t, .int .i64 k, .bool true, .int .i64 o0, .int .i64 o1, .int .i64 o2, .bool true, .int .i64 n0, .int .i64 n1, .int .i64 n2] 65)).cell? ⟨w.heap.size, 5, none⟩ = some (.int .i64 o2) := K0.cell 5
      have c6 : (w.alloc (.cells #[.int .i64 t, .int .i64 k, .bool true, .int .i64 o0, .int .i64 o1, .int .i64 o2, .bool true, .int .i64 n0, .int .i64 n1, .int .i64 n2] 65)).cell? ⟨w.heap.size, 6, none⟩ = some (.bool true) := K0.cell 6
      have c7 : (w.alloc (.cells #[.int .i64 t, .int .i64 k, .bool true, .int .i64 o0, .int .i64 o1, .int .i64 o2, .bool true, .int .i64 n0, .int .i64 n1, .int .i64 n2] 65)).cell? ⟨w.heap.size, 7, none⟩ = some (.int .i64 n0) := K0.cell 7
      have c8 : (w.alloc (.cells #[.int .i64 t, .int .i64 k, .bool true, .int .i64 o0, .int .i64 o1, .int .i64 o2, .bool true, .int .i64 n0, .int .i64 n1, .int .i64 n2] 65)).cell? ⟨w.heap.size, 8, none⟩ = some (.int .i64 n1) := K0.cell 8
      have c9 : (w.alloc (.cells #[.int .i64 t, .int .i64 k, .bool true, .int .i64 o0, .int .i64 o1, .int .i64 o2, .bool true, .int .i64 n0, .int .i64 n1, .int .i64 n2] 65)).cell? ⟨w.heap.size, 9, none⟩ = some (.int .i64 n2) := K0.cell 9
      have A0 := Lib.hid a0
      have KK0 := Lib.hid K0
      clear a0 K0
      go_enter Tryz.func83, Tryz.ntmps83
      go_wp2_with fail
      refine (HBE.out _).mono ?_
      rintro e w1 ⟨rfl, b1⟩
      have hb1 := Below.next A0.out b1
      have a1 := Below.alloc (Below.refl w1.heap.size w1) (Nat.le_refl _) (.cells #[.int .i64 t, .int .i64 k, .int .i64 o0, .int .i64 o1, .int .i64 o2] 67)
      have K1 := BlkIs.new w1 67 #[.int .i64 t, .int .i64 k, .int .i64 o0, .int .i64 o1, .int .i64 o2]
      have K0 := (KK0.out.later b1).later a1
      have hb2 := Below.next hb1 a1
      clear c0 c1 c2 c3 c4 c5 c6 c7 c8 c9
      have c0 : (w1.alloc (.cells #[.int .i64 t, .int .i64 k, .int .i64 o0, .int .i64 o1, .int .i64 o2] 67)).cell? ⟨w.heap.size, 0, none⟩ = some (.int .i64 t) := K0.cell 0
      have c1 : (w1.alloc (.cells #[.int .i64 t, .int .i64 k, .int .i64 o0, .int .i64 o1, .int .i64 o2] 67)).cell? ⟨w.heap.size, 1, none⟩ = some (.int .i64 k) := K0.cell 1
      have c2 : (w1.alloc (.cells #[.int .i64 t, .int .i64 k, .int .i64 o0, .int .i64 o1, .int .i64 o2] 67)).cell? ⟨w.heap.size, 2, none⟩ = some (.bool true) := K0.cell 2
      have c3 : (w1.alloc (.cells #[.int .i64 t, .int .i64 k, .int .i64 o0, .int .i64 o1, .int .i64 o2] 67)).cell? ⟨w.heap.size, 3, none⟩ = some (.int .i64 o0) := K0.cell 3
      have c4 : (w1.alloc (.cells #[.int .i64 t, .int .i64 k, .int .i64 o0, .int .i64 o1, .int .i64 o2] 67)).cell? ⟨w.heap.size, 4, none⟩ = some (.int .i64 o1) := K0.cell 4
      have c5 : (w1.alloc (.cells #[.int .i64 t, .int .i64 k, .int .i64 o0, .int .i64 o1, .int .i64 o2] 67)).cell? ⟨w.heap.size, 5, none⟩ = some (.int .i64 o2) := K0.cell 5
      have c6 : (w1.alloc (.cells #[.int .i64 t, .int .i64 k, .int .i64 o0, .int .i64 o1, .int .i64 o2] 67)).cell? ⟨w.heap.size, 6, none⟩ = some (.bool true) := K0.cell 6
      have c7 : (w1.alloc (.cells #[.int .i64 t, .int .i64 k, .int .i64 o0, .int .i64 o1, .int .i64 o2] 67)).cell? ⟨w.heap.size, 7, none⟩ = some (.int .i64 n0) := K0.cell 7
      have c8 : (w1.alloc (.cells #[.int .i64 t, .int .i64 k, .int .i64 o0, .int .i64 o1, .int .i64 o2] 67)).cell? ⟨w.heap.size, 8, none⟩ = some (.int .i64 n1) := K0.cell 8
      have c9 : (w1.alloc (.cells #[.int .i64 t, .int .i64 k, .int .i64 o0, .int .i64 o1, .int .i64 o2] 67)).cell? ⟨w.heap.size, 9, none⟩ = some (.int .i64 n2) := K0.cell 9
      have KK1 := Lib.hid K1
      have KK2 := Lib.hid K0
      have HB2 := Lib.hid hb2
      clear K1 K0 a1 hb2 b1 hb1 KK0 A0
      go_wp2_with fail
      refine (HAF.out _).mono ?_
      rintro e w3 ⟨rfl, b3⟩
      have hb3 := Below.next HB2.out b3
      have a3 := Below.alloc (Below.refl w3.heap.size w3) (Nat.le_refl _) (.cells #[.int .i64 t, .int .i64 k, .int .i64 n0, .int .i64 n1, .int .i64 n2] 67)
      have K3 := BlkIs.new w3 67 #[.int .i64 t, .int .i64 k, .int .i64 n0, .int .i64 n1, .int .i64 n2]
      have K0 := (KK2.out.later b3).later a3
      have K1 := (KK1.out.later b3).later a3
      have hb4 := Below.next hb3 a3
      clear c0 c1 c2 c3 c4 c5 c6 c7 c8 c9
      have c0 : (w3.alloc (.cells #[.int .i64 t, .int .i64 k, .int .i64 n0, .int .i64 n1, .int .i64 n2] 67)).cell? ⟨w.heap.size, 0, none⟩ = some (.int .i64 t) := K0.cell 0
      have c1 : (w3.alloc (.cells #[.int .i64 t, .int .i64 k, .int .i64 n0, .int .i64 n1, .int .i64 n2] 67)).cell? ⟨w.heap.size, 1, none⟩ = some (.int .i64 k) := K0.cell 1
      have c2 : (w3.alloc (.cells #[.int .i64 t, .int .i64 k, .int .i64 n0, .int .i64 n1, .int .i64 n2] 67)).cell? ⟨w.heap.size, 2, none⟩ = some (.bool true) := K0.cell 2
      have c3 : (w3.alloc (.cells #[.int .i64 t, .int .i64 k, .int .i64 n0, .int .i64 n1, .int .i64 n2] 67)).cell? ⟨w.heap.size, 3, none⟩ = some (.int .i64 o0) := K0.cell 3
      have c4 : (w3.alloc (.cells #[.int .i64 t, .int .i64 k, .int .i64 n0, .int .i64 n1, .int .i64 n2] 67)).cell? ⟨w.heap.size, 4, none⟩ = some (.int .i64 o1) := K0.cell 4
      have c5 : (w3.alloc (.cells #[.int .i64 t, .int .i64 k, .int .i64 n0, .int .i64 n1, .int .i64 n2] 67)).cell? ⟨w.heap.size, 5, none⟩ = some (.int .i64 o2) := K0.cell 5
      have c6 : (w3.alloc (.cells #[.int .i64 t, .int .i64 k, .int .i64 n0, .int .i64 n1, .int .i64 n2] 67)).cell? ⟨w.heap.size, 6, none⟩ = some (.bool true) := K0.cell 6
      have c7 : (w3.alloc (.cells #[.int .i64 t, .int .i64 k, .int .i64 n0, .int .i64 n1, .int .i64 n2] 67)).cell? ⟨w.heap.size, 7, none⟩ = some (.int .i64 n0) := K0.cell 7
      have c8 : (w3.alloc (.cells #[.int .i64 t, .int .i64 k, .int .i64 n0, .int .i64 n1, .int .i64 n2] 67)).cell? ⟨w.heap.size, 8, none⟩ = some (.int .i64 n1) := K0.cell 8
      have c9 : (w3.alloc (.cells #[.int .i64 t, .int .i64 k, .int .i64 n0, .int .i64 n1, .int .i64 n2] 67)).cell? ⟨w.heap.size, 9, none⟩ = some (.int .i64 n2) := K0.cell 9
      have d0 : (w3.alloc (.cells #[.int .i64 t, .int .i64 k, .int .i64 n0, .int .i64 n1, .int .i64 n2] 67)).cell? ⟨w1.heap.size, 0, none⟩ = some (.int .i64 t) := K1.cell 0
      have d1 : (w3.alloc (.cells #[.int .i64 t, .int .i64 k, .int .i64 n0, .int .i64 n1, .int .i64 n2] 67)).cell? ⟨w1.heap.size, 1, none⟩ = some (.int .i64 k) := K1.cell 1
      have d2 : (w3.alloc (.cells #[.int .i64 t, .int .i64 k, .int .i64 n0, .int .i64 n1, .int .i64 n2] 67)).cell? ⟨w1.heap.size, 2, none⟩ = some (.int .i64 o0) := K1.cell 2
      have d3 : (w3.alloc (.cells #[.int .i64 t, .int .i64 k, .int .i64 n0, .int .i64 n1, .int .i64 n2] 67)).cell? ⟨w1.heap.size, 3, none⟩ = some (.int .i64 o1) := K1.cell 3
      have d4 : (w3.alloc (.cells #[.int .i64 t, .int .i64 k, .int .i64 n0, .int .i64 n1, .int .i64 n2] 67)).cell? ⟨w1.heap.size, 4, none⟩ = some (.int .i64 o2) := K1.cell 4
      have e0 : (w3.alloc (.cells #[.int .i64 t, .int .i64 k, .int .i64 n0, .int .i64 n1, .int .i64 n2] 67)).cell? ⟨w3.heap.size, 0, none⟩ = some (.int .i64 t) := K3.cell 0
      have e1 : (w3.alloc (.cells #[.int .i64 t, .int .i64 k, .int .i64 n0, .int .i64 n1, .int .i64 n2] 67)).cell? ⟨w3.heap.size, 1, none⟩ = some (.int .i64 k) := K3.cell 1
      have e2 : (w3.alloc (.cells #[.int .i64 t, .int .i64 k, .int .i64 n0, .int .i64 n1, .int .i64 n2] 67)).cell? ⟨w3.heap.size, 2, none⟩ = some (.int .i64 n0) := K3.cell 2
      have e3 : (w3.alloc (.cells #[.int .i64 t, .int .i64 k, .int .i64 n0, .int .i64 n1, .int .i64 n2] 67)).cell? ⟨w3.heap.size, 3, none⟩ = some (.int .i64 n1) := K3.cell 3
      have e4 : (w3.alloc (.cells #[.int .i64 t, .int .i64 k, .int .i64 n0, .int .i64 n1, .int .i64 n2] 67)).cell? ⟨w3.heap.size, 4, none⟩ = some (.int .i64 n2) := K3.cell 4
      have J0 := Lib.hid K0
      have J3 := Lib.hid K3
      have HB4 := Lib.hid hb4
      clear K0 K1 K3 a3 hb4 b3 hb3 KK1 KK2 HB2
      cases y
      case true =>
        go_wp2_with fail
        go_ret
        exact ⟨rfl, HB4.out⟩
      go_wp2_with fail
      generalize (w3.alloc (.cells #[.int .i64 t, .int .i64 k, .int .i64 n0, .int .i64 n1, .int .i64 n2] 67)) = w4 at *
      refine (HV1.out _).mono ?_
      rintro e w5 ⟨rfl, b5⟩
      have hb5 := Below.next HB4.out b5
      have K0 := J0.out.later b5
      have K3 := J3.out.later b5
      clear c0 c1 c2 c3 c4 c5 c6 c7 c8 c9 d0 d1 d2 d3 d4 e0 e1 e2 e3 e4
      have c0 : w5.cell? ⟨w.heap.size, 0, none⟩ = some (.int .i64 t) := K0.cell 0
      have c1 : w5.cell? ⟨w.heap.size, 1, none⟩ = some (.int .i64 k) := K0.cell 1
      have c2 : w5.cell? ⟨w.heap.size, 2, none⟩ = some (.bool true) := K0.cell 2
      have c3 : w5.cell? ⟨w.heap.size, 3, none⟩ = some (.int .i64 o0) := K0.cell 3
      have c4 : w5.cell? ⟨w.heap.size, 4, none⟩ = some (.int .i64 o1) := K0.cell 4
      have c5 : w5.cell? ⟨w.heap.size, 5, none⟩ = some (.int .i64 o2) := K0.cell 5
      have c6 : w5.cell? ⟨w.heap.size, 6, none⟩ = some (.bool true) := K0.cell 6
      have c7 : w5.cell? ⟨w.heap.size, 7, none⟩ = some (.int .i64 n0) := K0.cell 7
      have c8 : w5.cell? ⟨w.heap.size, 8, none⟩ = some (.int .i64 n1) := K0.cell 8
      have c9 : w5.cell? ⟨w.heap.size, 9, none⟩ = some (.int .i64 n2) := K0.cell 9
      have e0 : w5.cell? ⟨w3.heap.size, 0, none⟩ = some (.int .i64 t) := K3.cell 0
      have e1 : w5.cell? ⟨w3.heap.size, 1, none⟩ = some (.int .i64 k) := K3.cell 1
      have e2 : w5.cell? ⟨w3.heap.size, 2, none⟩ = some (.int .i64 n0) := K3.cell 2
      have e3 : w5.cell? ⟨w3.heap.size, 3, none⟩ = some (.int .i64 n1) := K3.cell 3
      have e4 : w5.cell? ⟨w3.heap.size, 4, none⟩ = some (.int .i64 n2) := K3.cell 4
      have J0 := Lib.hid K0
      have HB5 := Lib.hid hb5
      clear K0 K3 b5 hb5
      cases r1
      case false =>
        go_wp2_with fail
        go_ret
        exact ⟨rfl, HB5.out⟩
      go_wp2_with fail
      refine (HV2.out _).mono ?_
      rintro e w6 ⟨rfl, b6⟩
      have hb6 := Below.next HB5.out b6
      have HB6 := Lib.hid hb6
      clear b6 hb6 c0 c1 c2 c3 c4 c5 c6 c7 c8 c9 e0 e1 e2 e3 e4
      cases r2
      case false =>
        go_wp2_with fail
        go_ret
        exact ⟨rfl, HB6.out⟩
      go_wp2_with fail
      go_ret
      exact ⟨rfl, HB6.out⟩
end Go.Proofs.YtgbemgndbemllaaGreatDoor
end

