/- Joined: SrC SrD OrA. -/
import Derived.Test.YtgbemgndbemllaaGreatDoorGo
import Derived.Test.YtgbemgndbemllaaGreatDoorGg
import Derived.Test.YtgbemgndbemllaaGreatDoorQAppR
import Derived.Test.YtgbemgndbemllaaGreatDoorGk

section
/- Range: the rows that are chosen, in their order. -/
namespace Go.Proofs.YtgbemgndbemllaaGreatDoor
open Go Go.RowKit
attribute [local go_sem] Oper.semAt_some

theorem Tryz.infoRow : (Tryz.prog.info? 67).map (fun i => (i.zero, i.size, i.bytes)) = some (some (.agg #[.int .i64 0, .int .i64 0, .int .i64 0, .int .i64 0, .int .i64 0]), 5, 40) := by kernel_rfl
theorem info_row : ∃ i, Tryz.prog.info? 67 = some i ∧ i.zero = some (.agg #[.int .i64 0, .int .i64 0, .int .i64 0, .int .i64 0, .int .i64 0]) ∧ i.size = 5 ∧ i.bytes = 40 := by
  obtain ⟨i0, hi, hz0, hz1, hz2⟩ := info_parts Tryz.infoRow
  exact ⟨i0, hi, hz0, hz1, hz2⟩

/-- a predicate on rows -/
def PredR (g : Nat) (lb : Array Value) (p : Rw → Bool) (w : World) : Prop :=
  ∀ (W : World) (x : Rw), Below w.heap.size w W → Calls Tryz.prog g (#[rwV x] ++ lb) W fun e w' => e = .returned (.bool (p x)) ∧ Below W.heap.size W w'

theorem perm_left {L : List Rw} {left : Rw → Bool} {x : Rw} (hn : L.Nodup) (hx : x ∈ L) (hl : left x = true) : (x :: L.filter (fun y => left y && !decide (y = x))).Perm (L.filter left) := by
  induction L with
  | nil => simp at hx
  | cons a L ih =>
    obtain ⟨h1, h2⟩ := List.nodup_cons.1 hn
    by_cases e : x = a
    · subst e
      rw [List.filter_cons, List.filter_cons]
      simp only [hl, decide_true, Bool.not_true, Bool.and_false, Bool.false_eq_true, if_false, if_true]
      refine List.Perm.cons _ ?_
      rw [List.filter_congr (q := left)]
      intro y hy
      have : ¬ y = x := fun e => h1 (e ▸ hy)
      simp [this]
    · have hxL : x ∈ L := by
        rcases List.mem_cons.1 hx with h | h
        · exact absurd h e
        · exact h
      rw [List.filter_cons, List.filter_cons]
      have ea : ¬ a = x := fun h => e h.symm
      simp only [ea, decide_false, Bool.not_false, Bool.and_true]
      split
      · exact (List.Perm.swap _ _ _).trans (List.Perm.cons _ (ih h2 hxL))
      · exact ih h2 hxL
theorem Below.by_ {w w' : World} (h : Below w.heap.size w w') (row : Option Nat) : w.grownBy w' row := ⟨h.os, h.tape, h.output, h.size, fun k hk _ => h.block k hk⟩
theorem ownsRow_mono {w : World} {base base' : Nat} {e : TypeId} {size : Nat} {v : Value} {n : Nat} {xs : List Value} (h : w.ownsRow base e size v n xs) (hb : base' ≤ base) : w.ownsRow base' e size v n xs := by
  refine ⟨h.1, ?_⟩
  rcases h.2 with h0 | ⟨g, cap, cur, hv, hg, rest⟩
  · exact .inl h0
  · exact .inr ⟨g, cap, cur, hv, Nat.le_trans hb hg, rest⟩
theorem own_ge {w : World} {base : Nat} {e : TypeId} {size : Nat} {v : Value} {n : Nat} {xs : List Value} (h : w.ownsRow base e size v n xs) {k : Nat} (hk : v.ownBlock = some k) : base ≤ k := (h.lt k hk).1

/-- what the loop over the map keeps: the rows that are still to come, and those that have been chosen -/
structure ChJ (w : World) (B m bx : Nat) (L : List Rw) (p : Rw → Bool) (c : Int) (r : Nat) (v : Value) (wr : World) : Prop where
  go : ∃ (left : Rw → Bool) (dn : List Rw), MapGo Tryz.prog 132 wr m r L left (wr.rangeLeft m r) ∧ wr.ownsRow B 67 5 v dn.length (dn.flatMap rwC) ∧ (dn ++ L.filter (fun x => left x && p x)).Perm (L.filter p)
  col : wr.cell? ⟨bx, 0, none⟩ = some (.int .i64 c)
  below : Below w.heap.size w wr
  size : B ≤ wr.heap.size

set_option maxRecDepth 100000 in
set_option maxHeartbeats 8000000 in
theorem chosen_ok (b m : Nat) (s : StT) (c : Int) (g : Nat) (lb : Array Value) (p : Rw → Bool) (t : Int) (hpt : ∀ r, p r = true → r.table = t) (w : World) (hS : StAt w b m s) (gd : GoodS s) (hp : PredR g lb p w)
    (eg : ∀ args w, (callFunc g args).run Tryz.prog w = .ok (.enter g args) w) :
    Calls Tryz.prog 45 #[.pointer (some ⟨b, 0, none⟩), .int .i64 c, .func (.func g) #[] lb] w fun e w' => ∃ v, e = .returned v ∧ w'.ownsRow w.heap.size 67 5 v (ordS s.rows p c).length ((ordS s.rows p c).flatMap rwC) ∧ Below w.heap.size w w' := by
  have a1 := Below.alloc1 w (.cells #[.int .i64 c] 3)
  have K1 := BlkIs.new w 3 #[.int .i64 c]
  have hS1 := hS.below a1
  obtain ⟨w2, hrg, hgo, hg2, hz2⟩ := MapAt.range idKey hS1.map mapRow gd.sort gd.rows64
  have hrl := hgo.left_eq
  have hgo2 := hgo.lt
  have hsz : (w.alloc (.cells #[.int .i64 c] 3)).heap.size = w.heap.size + 1 := World.size_alloc _ _
  rw [hsz] at hz2
  have HM := Lib.hid (And.intro hS.map.lt (And.intro hS.blk.lt gd))
  have hJ : ChJ w w2.heap.size m w.heap.size s.rows p c (w.heap.size + 1) (.slice none 0 0) w2 := by
    rw [hsz] at hgo
    refine ⟨⟨fun _ => true, [], ?_, World.ownsRow_nil _ _ _ _, by simp⟩, ?_, ?_, Nat.le_refl _⟩
    · rw [hgo.left_eq]; exact hgo
    · exact hg2.cell (K1.cell 0) (by simp)
    · exact Below.grown a1 hg2 a1.size (fun k e => by cases e)
  rw [hsz] at hrg
  have c0 : (w.alloc (.cells #[.int .i64 c] 3)).cell? ⟨b, 0, none⟩ = some (.map (some m)) := hS1.blk.cell 0
  have HJ := Lib.hid hJ
  have HP := Lib.hid hp
  have HPT := Lib.hid hpt
  have HZ := Lib.hid hz2
  clear hS hS1 a1 K1 hgo hrl hgo2 hJ hp hg2 hz2 gd hpt hsz
  obtain ⟨i0, hi0, hz0, hz1, hz2⟩ := info_row
  go_enter Tryz.func45, Tryz.ntmps45
  go_wp2_with fail
  clear c0 hrg
  go_loopw [7] (fun sv wr => ∃ v, v = sv ∧ Hid (ChJ w w2.heap.size m w.heap.size s.rows p c (w.heap.size + 1) v wr)) (fun _ wr => wr.rangeLeft m (w.heap.size + 1))
  case atStart => exact ⟨_, rfl, HJ⟩
  case round =>
    clear HJ
    obtain ⟨v, rfl, HR⟩ := hrel
    obtain ⟨⟨left, dn, hgo, hown, hperm⟩, hcol, hbel, hB⟩ := HR.out
    have h64 := HM.out.2.2.rows64
    rcases hgo.next idKey h64 0 with ⟨hall, hrun⟩ | ⟨x, w4, cnt, hx, hlx, hrun, hgo4, hcnt, hg4, hz4, hent⟩
    · have hnil : s.rows.filter (fun x => left x && p x) = [] := by
        rw [List.filter_eq_nil_iff]
        intro x hx
        simp [hall x hx]
      rw [hnil, List.append_nil] at hperm
      have hle : dn.length ≤ 2000 := by
        have h1 := hperm.length_eq
        have h2 := List.length_filter_le p s.rows
        have h3 := HM.out.2.2.small
        omega
      have hbx : v.ownBlock ≠ some w.heap.size := fun e => by have := own_ge hown e; have := HZ.out; omega
      have hsort := sort_rws hown hcol hbx (by omega)
      obtain ⟨vA, vc, rfl, -, -, -⟩ := ownsRow_form hown
      have HS := Lib.hid hsort
      have HPERM := Lib.hid hperm
      have HBEL := Lib.hid hbel
      have HOWN := Lib.hid hown
      clear hsort hperm hbel hown hgo hall hnil hcol HR hle
      go_wp2_with fail
      refine (HS.out).mono ?_
      rintro e w5 ⟨rfl, L', hp', hs', own', g5⟩
      have hL : L' = ordS s.rows p c := ord_one HM.out.2.2.sort HPT.out c (hp'.trans HPERM.out) hs'
      subst hL
      have hb5 : Below w.heap.size w w5 := Below.grown HBEL.out g5 HBEL.out.size (fun k e => by have := own_ge HOWN.out e; have := HZ.out; omega)
      have hlen : dn.length = (ordS s.rows p c).length := hp'.length_eq.symm
      have HF := Lib.hid (And.intro own' (And.intro hb5 hlen))
      clear hp' hs' own' g5 hb5 hlen HOWN
      go_wp2_with fail
      go_ret
      obtain ⟨f1, f2, f3⟩ := HF.out
      exact ⟨_, rfl, ownsRow_mono f1 (by have := HZ.out; omega), f2⟩
    · have hown4 := hown.kept hg4 (by
        right
        intro e
        have := own_ge hown e
        have := HZ.out
        omega)
      have hcol4 : w4.cell? ⟨w.heap.size, 0, none⟩ = some (.int .i64 c) := hg4.cell hcol (by simp)
      have hbel4 : Below w.heap.size w w4 := Below.grown hbel hg4 hbel.size (fun k e => by cases e; omega)
      have hdn : dn.length ≤ 2000 := by
        have h1 := hperm.length_eq
        have h2 := List.length_filter_le p s.rows
        have h3 := HM.out.2.2.small
        rw [List.length_append] at h1
        omega
      have hm := HM.out.1
      have hzz := HZ.out
      have hpx := HP.out
      obtain ⟨w5, hw5⟩ : ∃ w5, w5 = w4.alloc (.cells (rwC x).toArray 67) := ⟨_, rfl⟩
      have a5 : Below w4.heap.size w4 w5 := by rw [hw5]; exact Below.alloc1 _ _
      have hcall := hpx w5 x (Below.trans hbel4 (a5.mono hbel4.size))
      have step : ∀ w6, Below w5.heap.size w5 w6 → ∀ (v7 : Value) (w7 : World) (row : Option Nat), w6.grownBy w7 row → (∀ k, row = some k → w2.heap.size ≤ k) → ∀ dn', w7.ownsRow w2.heap.size 67 5 v7 dn'.length (dn'.flatMap rwC) → (dn' ++ s.rows.filter (fun y => (left y && !decide (y = x)) && p y)).Perm (s.rows.filter p) →
          ChJ w w2.heap.size m w.heap.size s.rows p c (w.heap.size + 1) v7 w7 ∧ w7.rangeLeft m (w.heap.size + 1) < wr.rangeLeft m (w.heap.size + 1) := by
        intro w6 b6 v7 w7 row g7 hrow dn' own7 perm7
        have go5 := hgo4.kept (Below.by_ a5 none) (by simp) (by simp)
        have go6 := go5.kept (Below.by_ b6 none) (by simp) (by simp)
        have go7 := go6.kept g7 (fun e => by have := hrow m e.symm; omega) (fun e => by have := hrow _ e.symm; omega)
        have hle := go7.left_eq
        have bel6 : Below w.heap.size w w6 := Below.trans hbel4 (((a5.trans (b6.mono a5.size))).mono hbel4.size)
        refine ⟨⟨⟨_, dn', hle ▸ go7, own7, perm7⟩, ?_, Below.grown bel6 g7 bel6.size (fun k e => by have := hrow k e; omega), ?_⟩, by rw [hle]; exact hcnt⟩
        · have col6 : w6.cell? ⟨w.heap.size, 0, none⟩ = some (.int .i64 c) := ((a5.trans (b6.mono a5.size)).cell (p := ⟨w.heap.size, 0, none⟩) (block_of_cell hcol4)).trans hcol4
          exact g7.cell col6 (fun e => by have h9 : w2.heap.size ≤ w.heap.size := hrow _ e.symm; omega)
        · have := a5.size
          have := b6.size
          have := g7.size
          have := hg4.size
          omega
      have hnd : s.rows.Nodup := List.Pairwise.imp (fun hb e => by subst e; unfold Rw.before at hb; omega) HM.out.2.2.sort
      have hB6 : ∀ w6, Below w5.heap.size w5 w6 → w2.heap.size ≤ w6.heap.size := fun w6 b6 => by
        have := a5.size
        have := b6.size
        have := hg4.size
        omega
      have own6 : ∀ w6, Below w5.heap.size w5 w6 → w6.ownsRow w2.heap.size 67 5 v dn.length (dn.flatMap rwC) := fun w6 b6 => ownsRow_later b6 (ownsRow_later a5 hown4)
      have permT : p x = true → ((dn ++ [x]) ++ s.rows.filter (fun y => (left y && !decide (y = x)) && p y)).Perm (s.rows.filter p) := by
        intro e
        rw [List.append_assoc]
        refine List.Perm.trans (List.Perm.append_left dn ?_) hperm
        refine List.Perm.trans ?_ (perm_left (left := fun y => left y && p y) hnd hx (by simp [hlx, e]))
        have e2 : (fun y => left y && !decide (y = x) && p y) = fun y => left y && p y && !decide (y = x) := by
          funext y
          cases left y <;> cases p y <;> simp
        rw [e2]
        exact List.Perm.refl _
      have permF : p x = false → (dn ++ s.rows.filter (fun y => (left y && !decide (y = x)) && p y)).Perm (s.rows.filter p) := by
        intro e
        refine List.Perm.trans (List.Perm.append_left dn ?_) hperm
        rw [List.filter_congr (q := fun y => left y && p y)]
        intro y _
        by_cases h : y = x
        · subst h; simp [e]
        · simp [h]
      have HST := Lib.hid step
      have HB6 := Lib.hid hB6
      have HO6 := Lib.hid own6
      have HPT' := Lib.hid permT
      have HPF := Lib.hid permF
      have HC := Lib.hid hcall
      have HW5 := Lib.hid hw5
      have hone := rwC_one [x]
      simp only [List.flatMap_cons, List.flatMap_nil, List.append_nil] at hone
      have HONE := Lib.hid hone
      clear step hB6 own6 permT permF hcall hw5 hpx hperm hown hown4 hcol hcol4 hbel hbel4 hB hgo hgo4 hcnt hg4 hz4 a5 hm hzz hnd hx hlx h64 HR hone
      obtain ⟨rt, rk, r0, r1, r2⟩ := x
      unfold rwV idV at hrun hent
      unfold rwV at HC
      unfold rwC at HW5 HONE
      dsimp only at hrun hent HC HW5 HONE
      go_wp2_with fail
      rw [← HW5.out]
      refine (HC.out).mono ?_
      rintro e w6 ⟨rfl, b6⟩
      have HBX := Lib.hid b6
      have K5 : w6.cell? ⟨w4.heap.size, 0, none⟩ = some (.int .i64 rt) ∧ w6.cell? ⟨w4.heap.size, 1, none⟩ = some (.int .i64 rk) ∧ w6.cell? ⟨w4.heap.size, 2, none⟩ = some (.int .i64 r0) ∧ w6.cell? ⟨w4.heap.size, 3, none⟩ = some (.int .i64 r1) ∧ w6.cell? ⟨w4.heap.size, 4, none⟩ = some (.int .i64 r2) := by
        have K : BlkIs w5 w4.heap.size 67 [.int .i64 rt, .int .i64 rk, .int .i64 r0, .int .i64 r1, .int .i64 r2] := by rw [HW5.out]; exact BlkIs.new w4 _ _
        have K := K.later b6
        exact ⟨K.cell 0, K.cell 1, K.cell 2, K.cell 3, K.cell 4⟩
      obtain ⟨k0, k1, k2, k3, k4⟩ := K5
      clear b6 hrun hent HC HW5
      cases hpx : p ⟨rt, rk, r0, r1, r2⟩
      case false =>
        have HE := Lib.hid hpx
        clear hpx
        go_wp2_with fail
        have hfin := HST.out w6 HBX.out v w6 none (World.grownBy.refl _ _) (fun k e => by cases e) dn (HO6.out w6 HBX.out) (HPF.out HE.out)
        exact ⟨⟨v, rfl, Lib.hid hfin.1⟩, hfin.2⟩
      case true =>
        have HE := Lib.hid hpx
        have hown := HO6.out w6 HBX.out
        have hBw := HB6.out w6 HBX.out
        have hcells : ∀ (j : Nat) u, [Value.int .i64 rt, .int .i64 rk, .int .i64 r0, .int .i64 r1, .int .i64 r2][j]? = some u → (w6.alloc (.cells #[.int .i64 rt, .int .i64 rk, .int .i64 r0, .int .i64 r1, .int .i64 r2] 67)).cell? ((⟨w6.heap.size, 0, none⟩ : Addr).add j) = some u := fun j u hu => by
          rw [add_zero_off, (BlkIs.new w6 67 _).cell]
          exact hu
        have HCE := Lib.hid hcells
        have HOW := Lib.hid hown
        clear hpx hcells hown
        go_wp2_with (at_builtin; refine wpList_append_own _ rfl _ _ 48 rfl w2.heap.size 67 i0 _ 5 40 Tryz.underlying48 hi0 hz0 hz1 hz2 rfl (by decide) v dn.length (dn.flatMap rwC) rfl (HOW.out.alloc _) ⟨w6.heap.size, 0, none⟩ 1 1 [.int .i64 rt, .int .i64 rk, .int .i64 r0, .int .i64 r1, .int .i64 r2] rfl rfl HCE.out HONE.out (by unfold maxLen; omega) (by omega) (by rw [World.size_alloc]; omega) ?_; intro v7 w7 own7 g7 _)
        have hg : w6.grownBy w7 v.ownBlock := (World.grownBy_alloc w6 _ v.ownBlock).trans g7
        have hown7 : w7.ownsRow w2.heap.size 67 5 v7 (dn ++ [(⟨rt, rk, r0, r1, r2⟩ : Rw)]).length ((dn ++ [(⟨rt, rk, r0, r1, r2⟩ : Rw)]).flatMap rwC) := by
          rw [List.length_append, List.flatMap_append]
          exact own7
        have hfin := HST.out w6 HBX.out v7 w7 v.ownBlock hg (fun k e => own_ge HOW.out e) (dn ++ [(⟨rt, rk, r0, r1, r2⟩ : Rw)]) hown7 (HPT'.out HE.out)
        exact ⟨⟨v7, rfl, Lib.hid hfin.1⟩, hfin.2⟩
end Go.Proofs.YtgbemgndbemllaaGreatDoor
end

section
/- Range of the store. -/
namespace Go.Proofs.YtgbemgndbemllaaGreatDoor
open Go Go.RowKit
attribute [local go_sem] Oper.semAt_some

set_option maxRecDepth 100000 in
set_option maxHeartbeats 4000000 in
theorem inR_ok (x : Rw) (t c lo hi : Int) (bc bt bl bh : Nat) (w : World) (h1 : w.cell? ⟨bc, 0, none⟩ = some (.int .i64 c)) (h2 : w.cell? ⟨bt, 0, none⟩ = some (.int .i64 t)) (h3 : w.cell? ⟨bl, 0, none⟩ = some (.int .i64 lo)) (h4 : w.cell? ⟨bh, 0, none⟩ = some (.int .i64 hi)) :
    Calls Tryz.prog 46 #[rwV x, .pointer (some ⟨bc, 0, none⟩), .pointer (some ⟨bt, 0, none⟩), .pointer (some ⟨bl, 0, none⟩), .pointer (some ⟨bh, 0, none⟩)] w fun e w' => e = .returned (.bool (inR t c lo hi x)) ∧ Below w.heap.size w w' := by
  have hv := fun W => value_below x c W
  have hR : inR t c lo hi x = (decide (x.table = t) && (decide (lo ≤ x.val c) && decide (x.val c ≤ hi))) := rfl
  rw [hR]
  generalize x.val c = v at *
  obtain ⟨xt, xk, x0, x1, x2⟩ := x
  have l1 := block_of_cell h1
  have l2 := block_of_cell h2
  have l3 := block_of_cell h3
  have l4 := block_of_cell h4
  dsimp only at l1 l2 l3 l4
  have a1 := Below.alloc1 w (.cells (rwC ⟨xt, xk, x0, x1, x2⟩).toArray 67)
  have K1 := BlkIs.new w 67 (rwC ⟨xt, xk, x0, x1, x2⟩).toArray
  unfold rwV at hv ⊢
  unfold rwC at a1 K1
  dsimp only at hv a1 K1 ⊢
  obtain ⟨y1, e1⟩ : ∃ y, decide (xt = t) = y := ⟨_, rfl⟩
  obtain ⟨y2, e2⟩ : ∃ y, decide (lo ≤ v) = y := ⟨_, rfl⟩
  obtain ⟨y3, e3⟩ : ∃ y, decide (v ≤ hi) = y := ⟨_, rfl⟩
  rw [e1, e2, e3]
  have e4 : (xt == t) = y1 := e1
  have HV := Lib.hid hv
  have HL := Lib.hid (And.intro l1 (And.intro l2 (And.intro l3 l4)))
  have HC := Lib.hid (And.intro h1 (And.intro h2 (And.intro h3 h4)))
  clear hv hR l1 l2 l3 l4 h2 h3 h4 e1
  have h1' := HC.out.1
  go_enter Tryz.func46, Tryz.ntmps46
  have hlt := HL.out.1
  go_wp2_with fail
  generalize hw2 : w.alloc (.cells _ 67) = w2 at *
  clear hw2 hlt
  refine (HV.out w2).mono ?_
  rintro e w3 ⟨rfl, b3⟩
  have hb := Below.next a1 b3
  have K3 := K1.later b3
  have c0 : w3.cell? ⟨w.heap.size, 0, none⟩ = some (.int .i64 xt) := K3.cell 0
  have c2 : w3.cell? ⟨bt, 0, none⟩ = some (.int .i64 t) := (hb.cell (p := ⟨bt, 0, none⟩) HL.out.2.1).trans HC.out.2.1
  have c3 : w3.cell? ⟨bl, 0, none⟩ = some (.int .i64 lo) := (hb.cell (p := ⟨bl, 0, none⟩) HL.out.2.2.1).trans HC.out.2.2.1
  have c4 : w3.cell? ⟨bh, 0, none⟩ = some (.int .i64 hi) := (hb.cell (p := ⟨bh, 0, none⟩) HL.out.2.2.2).trans HC.out.2.2.2
  clear a1 b3 K1 K3 h1 h1'
  cases y1
  · go_wp2_with fail
    go_ret
    exact ⟨rfl, hb⟩
  cases y2
  · go_wp2_with fail
    go_ret
    exact ⟨rfl, hb⟩
  cases y3
  · go_wp2_with fail
    go_ret
    exact ⟨rfl, hb⟩
  · go_wp2_with fail
    go_ret
    exact ⟨rfl, hb⟩

set_option maxRecDepth 100000 in
set_option maxHeartbeats 4000000 in
theorem range_ok (b m : Nat) (s : StT) (t c lo hi : Int) (hc1 : 0 ≤ c) (hc2 : c ≤ 3) (w : World) (hS : StAt w b m s) (gd : GoodS s) :
    Calls Tryz.prog 19 #[.pointer (some ⟨b, 0, none⟩), .int .i64 t, .int .i64 c, .int .i64 lo, .int .i64 hi] w fun e w' => ∃ v, e = .returned v ∧ w'.ownsRow w.heap.size 67 5 v (rangeS s.rows t c lo hi).length ((rangeS s.rows t c lo hi).flatMap rwC) ∧ Below w.heap.size w w' := by
  have a4 : Below w.heap.size w ((((w.alloc (.cells #[.int .i64 t] 3)).alloc (.cells #[.int .i64 c] 3)).alloc (.cells #[.int .i64 lo] 3)).alloc (.cells #[.int .i64 hi] 3)) :=
    Below.alloc (Below.alloc (Below.alloc (Below.alloc1 w _) (by rw [World.size_alloc]; omega) _) (by rw [World.size_alloc, World.size_alloc]; omega) _) (by rw [World.size_alloc, World.size_alloc, World.size_alloc]; omega) _
  have z4 : ((((w.alloc (.cells #[.int .i64 t] 3)).alloc (.cells #[.int .i64 c] 3)).alloc (.cells #[.int .i64 lo] 3)).alloc (.cells #[.int .i64 hi] 3)).heap.size = w.heap.size + 4 := by simp [World.size_alloc]
  have K1 : BlkIs ((((w.alloc (.cells #[.int .i64 t] 3)).alloc (.cells #[.int .i64 c] 3)).alloc (.cells #[.int .i64 lo] 3)).alloc (.cells #[.int .i64 hi] 3)) w.heap.size 3 [.int .i64 t] := BlkIs.alloc (BlkIs.alloc (BlkIs.alloc (BlkIs.new w _ _) _) _) _
  have K2 : BlkIs ((((w.alloc (.cells #[.int .i64 t] 3)).alloc (.cells #[.int .i64 c] 3)).alloc (.cells #[.int .i64 lo] 3)).alloc (.cells #[.int .i64 hi] 3)) (w.heap.size + 1) 3 [.int .i64 c] := BlkIs.alloc (BlkIs.alloc (alloc_new_at _ _ _ (by simp [World.size_alloc])) _) _
  have K3 : BlkIs ((((w.alloc (.cells #[.int .i64 t] 3)).alloc (.cells #[.int .i64 c] 3)).alloc (.cells #[.int .i64 lo] 3)).alloc (.cells #[.int .i64 hi] 3)) (w.heap.size + 2) 3 [.int .i64 lo] := BlkIs.alloc (alloc_new_at _ _ _ (by simp [World.size_alloc])) _
  have K4 : BlkIs ((((w.alloc (.cells #[.int .i64 t] 3)).alloc (.cells #[.int .i64 c] 3)).alloc (.cells #[.int .i64 lo] 3)).alloc (.cells #[.int .i64 hi] 3)) (w.heap.size + 3) 3 [.int .i64 hi] := alloc_new_at _ _ _ (by simp [World.size_alloc])
  obtain ⟨w4, hw4⟩ : ∃ w4, w4 = ((((w.alloc (.cells #[.int .i64 t] 3)).alloc (.cells #[.int .i64 c] 3)).alloc (.cells #[.int .i64 lo] 3)).alloc (.cells #[.int .i64 hi] 3)) := ⟨_, rfl⟩
  rw [← hw4] at a4 z4 K1 K2 K3 K4
  have eg : ∀ args w, (callFunc 46 args).run Tryz.prog w = .ok (.enter 46 args) w := enters_of Tryz.func46 (by kernel_rfl) rfl
  have hp : PredR 46 #[.pointer (some ⟨w.heap.size + 1, 0, none⟩), .pointer (some ⟨w.heap.size, 0, none⟩), .pointer (some ⟨w.heap.size + 2, 0, none⟩), .pointer (some ⟨w.heap.size + 3, 0, none⟩)] (inR t c lo hi) w4 := fun W x hW =>
    inR_ok x t c lo hi _ _ _ _ W ((K2.later hW).cell 0) ((K1.later hW).cell 0) ((K3.later hW).cell 0) ((K4.later hW).cell 0)
  have hch := chosen_ok b m s c _ _ (inR t c lo hi) t inR_table w4 (hS.below a4) gd hp eg
  have c1 : w4.cell? ⟨w.heap.size + 1, 0, none⟩ = some (.int .i64 c) := K2.cell 0
  have HCH := Lib.hid hch
  have HA := Lib.hid a4
  have HZ := Lib.hid z4
  have HW := Lib.hid hw4
  have t1 : decide (c < 0) = false := by simpa using hc1
  have t2 : decide (4 ≤ c) = false := by simp; omega
  have c1' := c1
  rw [hw4] at c1'
  clear hch a4 z4 K1 K2 K3 K4 hS hp hw4 c1 eg
  go_enter Tryz.func19, Tryz.ntmps19
  go_wp2_with fail
  rw [← HW.out]
  refine (HCH.out).mono ?_
  rintro e w5 ⟨v, rfl, own, b5⟩
  obtain ⟨vA, vc, rfl, -, -, -⟩ := ownsRow_form own
  have HO := Lib.hid own
  have HB := Lib.hid b5
  clear own b5 c1'
  go_wp2_with fail
  go_ret
  exact ⟨_, rfl, ownsRow_mono HO.out (by rw [HZ.out]; omega), Below.next HA.out HB.out⟩
end Go.Proofs.YtgbemgndbemllaaGreatDoor
end

section
/- The order of a table and a column. -/
namespace Go.Proofs.YtgbemgndbemllaaGreatDoor
open Go Go.RowKit
attribute [local go_sem] Oper.semAt_some

/-- v1 and v2 are an order's rows and entries, in memory of their own from B on -/
structure OrdOwn (w : World) (B : Nat) (L : List Rw) (t c : Int) (rv ev : Value) : Prop where
  rows : w.ownsRow B 67 5 rv (tabS L t c).length ((tabS L t c).flatMap rwC)
  ents : w.ownsRow B 9 1 ev (tabS L t c).length (svs (entsS L t c))
theorem OrdOwn.later {w w' : World} {B : Nat} {L : List Rw} {t c : Int} {rv ev : Value} (h : OrdOwn w B L t c rv ev) (hb : Below w.heap.size w w') : OrdOwn w' B L t c rv ev := ⟨ownsRow_later hb h.rows, ownsRow_later hb h.ents⟩
theorem OrdOwn.mono {w : World} {B B' : Nat} {L : List Rw} {t c : Int} {rv ev : Value} (h : OrdOwn w B L t c rv ev) (hb : B' ≤ B) : OrdOwn w B' L t c rv ev := ⟨ownsRow_mono h.rows hb, ownsRow_mono h.ents hb⟩

theorem tab_mem {s : StT} {t c : Int} {x : Rw} (hx : x ∈ tabS s.rows t c) : x ∈ s.rows ∧ x.table = t := by
  have := List.mem_filter.1 ((ordS_perm _ _ _).mem_iff.1 hx)
  exact ⟨this.1, inT_table x this.2⟩
theorem tab_len (s : StT) (g : GoodS s) (t c : Int) : (tabS s.rows t c).length ≤ 2000 := by
  have := (ordS_perm s.rows (inT t) c).length_eq
  have h2 := List.length_filter_le (inT t) s.rows
  have h3 := g.small
  unfold tabS
  omega
theorem ents_take {L : List Rw} {t c : Int} {k : Nat} {x : Rw} (hx : (tabS L t c)[k]? = some x) : (entsS L t c).take (k + 1) = (entsS L t c).take k ++ [encRow x] := by
  rw [List.take_add_one]
  unfold entsS
  rw [List.getElem?_map, hx]
  rfl

theorem ownsRow_set {w : World} {base : Nat} {e : TypeId} {size : Nat} {v : Value} {n : Nat} {xs : List Value} (h : w.ownsRow base e size v n xs) (p : Addr) (u : Value) (hp : ∀ b, v.ownBlock = some b → b ≠ p.block) : (w.setCell p u).ownsRow base e size v n xs :=
  ownsRow_same h (SameOn.of_only (S := fun k => k ≠ p.block) (T := fun k => k = p.block) (Only.setCell w p u rfl) (fun _ h => h)) hp

/-- what the loop keeps -/
structure OrJ (w : World) (B no : Nat) (L : List Rw) (t c : Int) (rv : Value) (k : Nat) (wr : World) : Prop where
  box : ∃ ev, BlkIs wr no 95 [rv, ev] ∧ wr.ownsRow B 9 1 ev k (svs ((entsS L t c).take k))
  rows : wr.ownsRow w.heap.size 67 5 rv (tabS L t c).length ((tabS L t c).flatMap rwC)
  res : BlkIs wr w.heap.size 95 [.slice none 0 0, .slice none 0 0]
  below : Below w.heap.size w wr
  size : B ≤ wr.heap.size

set_option maxRecDepth 100000 in
set_option maxHeartbeats 8000000 in
theorem orderOf_ok (b m : Nat) (s : StT) (t c : Int) (hc1 : 0 ≤ c) (hc2 : c ≤ 3) (w : World) (hS : StAt w b m s) (gd : GoodS s) :
    Calls Tryz.prog 35 #[.pointer (some ⟨b, 0, none⟩), .int .i64 t, .int .i64 c] w fun e w' => ∃ rv ev, e = .returned (.agg #[rv, ev]) ∧ OrdOwn w' w.heap.size s.rows t c rv ev ∧ Below w.heap.size w w' := by
  have a1 := Below.alloc1 w (.cells #[.slice none 0 0, .slice none 0 0] 95)
  have K1 := BlkIs.new w 95 #[.slice none 0 0, .slice none 0 0]
  have hrange := range_ok b m s t c (-1000000000) 1000000000 hc1 hc2 _ (hS.below a1) gd
  rw [range_all gd t c] at hrange
  have henc : ∀ x ∈ tabS s.rows t c, ∀ W, Calls Tryz.prog 44 #[rwV x] W fun e w' => e = .returned (.tuple #[.string (str (encRow x)), .int .i64 0]) ∧ Below W.heap.size W w' := fun x hx W => encRow_ok x (gd.rows x (tab_mem hx).1) W
  have hlen := tab_len s gd t c
  have HRG := Lib.hid hrange
  have HEN := Lib.hid henc
  have HK1 := Lib.hid K1
  have HA1 := Lib.hid a1
  clear hrange henc K1 a1 hS gd
  obtain ⟨i0, hi0, hz0, hz1, hz2⟩ := info_str
  go_enter Tryz.func35, Tryz.ntmps35
  go_wp2_with fail
  generalize hw1 : w.alloc (.cells _ 95) = w1 at *
  clear hw1
  refine (HRG.out).mono ?_
  rintro e w2 ⟨rv, rfl, own2, b2⟩
  have a3 := Below.alloc1 w2 (.cells #[rv, .slice none 0 0] 95)
  have K3 := BlkIs.new w2 95 #[rv, .slice none 0 0]
  have hJ : OrJ w (w2.heap.size + 1) w2.heap.size s.rows t c rv 0 (w2.alloc (.cells #[rv, .slice none 0 0] 95)) := by
    refine ⟨⟨.slice none 0 0, K3, ?_⟩, ?_, (HK1.out.later b2).later a3, Below.next (Below.next HA1.out b2) a3, by rw [World.size_alloc]; omega⟩
    · rw [List.take_zero]; exact World.ownsRow_nil _ _ _ _
    · exact ownsRow_later a3 (ownsRow_mono own2 HA1.out.size)
  obtain ⟨vA, vc, rfl, hvc, -, hvx⟩ := ownsRow_form own2
  have HJ := Lib.hid hJ
  have k0 := K3.cell 0
  have HB2 := Lib.hid (HA1.out.size)
  have HB3 := Lib.hid b2.size
  have HLT := Lib.hid HK1.out.lt
  have HRV := Lib.hid (fun q (h : (Value.slice vA (tabS s.rows t c).length vc).ownBlock = some q) => own2.lt q h)
  simp only [List.getElem?_cons_zero] at k0
  clear hJ own2 b2 a3 K3 HRG
  go_wp2_with fail
  clear k0
  generalize hw3 : w2.alloc (.cells _ 95) = w3 at *
  clear hw3
  go_loopw [20] (fun iv wr => ∃ k : Nat, k ≤ (tabS s.rows t c).length ∧ iv = .int .i64 k ∧ Hid (OrJ w (w2.heap.size + 1) w2.heap.size s.rows t c (.slice vA (tabS s.rows t c).length vc) k wr)) (fun iv _ => (tabS s.rows t c).length - (intOf iv).toNat)
  case atStart => exact ⟨0, by omega, rfl, HJ⟩
  case round =>
    clear HJ hvx
    obtain ⟨k, hk, rfl, HR⟩ := hrel
    by_cases h1 : k < (tabS s.rows t c).length
    case pos =>
      obtain ⟨x, hx⟩ : ∃ x, (tabS s.rows t c)[k]? = some x := ⟨_, List.getElem?_eq_getElem h1⟩
      obtain ⟨⟨ev, Kb, hown⟩, hrows, hres, hbel, hsz⟩ := HR.out
      obtain ⟨g, o, c', hv, hc', hg, d0, d1, d2, d3, d4⟩ := (ownsRow_rws hrows).at_ hx
      injection hv with e1 _ e3
      subst e1 e3
      have henc := HEN.out x (List.mem_of_getElem? hx)
      have htake := ents_take hx
      have a4 := Below.alloc1 wr (.cells (rwC x).toArray 67)
      have q0 : (0 : Int) ≤ (k : Int) := by omega
      have q1 : (k : Int) < ((tabS s.rows t c).length : Int) := by omega
      have t1 : decide (k < (tabS s.rows t c).length) = true := by simpa using h1
      have elen : (encRow x).length ≤ 50 := encRow_len x
      obtain ⟨E, hE⟩ : ∃ E, E = encRow x := ⟨_, rfl⟩
      rw [← hE] at henc htake elen
      have HT := Lib.hid htake
      have HE := Lib.hid henc
      have HST := Lib.hid (And.intro Kb (And.intro hown (And.intro hrows (And.intro hres (And.intro hbel hsz)))))
      clear henc htake hE hx Kb hown hrows hres hbel h1 HR
      obtain ⟨xt, xk, x0, x1, x2⟩ := x
      unfold rwV at HE
      unfold rwC at a4
      dsimp only at HE a4 d0 d1 d2 d3 d4
      go_wp2_with fail
      generalize hw4 : wr.alloc (.cells _ 67) = w4 at *
      clear hw4
      refine (HE.out w4).mono ?_
      rintro e w5 ⟨rfl, b5⟩
      have b45 := a4.trans (b5.mono a4.size)
      obtain ⟨Kb, hown, hrows, hres, hbel, hsz⟩ := HST.out
      have Kb5 := Kb.later b45
      have own5 := ownsRow_later b45 hown
      have rows5 := ownsRow_later b45 hrows
      have res5 := hres.later b45
      have bel5 := Below.next hbel b45
      have sz5 : w2.heap.size + 1 ≤ w5.heap.size := Nat.le_trans hsz b45.size
      have k1 : w5.cell? ⟨w2.heap.size, 1, none⟩ = some ev := Kb5.cell 1
      have H5 := Lib.hid (And.intro Kb5 (And.intro own5 (And.intro rows5 (And.intro res5 bel5))))
      have hlt5 := Kb5.lt
      clear Kb hown hrows hres hbel hsz Kb5 rows5 res5 bel5 b5 b45 a4 HE HST d0 d1 d2 d3 d4
      have HO5 := Lib.hid own5
      clear own5
      go_wp2_with (at_builtin; refine wpList_append_own _ rfl _ _ 43 rfl (w2.heap.size + 1) 9 i0 (.string ⟨#[]⟩) 1 16 Tryz.underlying43 hi0 hz0 hz1 hz2 rfl (by decide) ev k (svs ((entsS s.rows t c).take k)) rfl (HO5.out.alloc _) ⟨w5.heap.size, 0, none⟩ 1 1 [.string (str E)] rfl rfl (cell_one_new _ _ _) (by simp [Value.oneCell']) (by unfold maxLen; omega) (by omega) (by rw [World.size_alloc]; omega) ?_; intro v7 w7 own7 g7 _; obtain ⟨g8, c8, rfl⟩ := ownsRow_succ own7; have Kb5 := H5.out.1; have own5 := HO5.out; have hg : w5.grownBy w7 ev.ownBlock := (World.grownBy_alloc w5 _ ev.ownBlock).trans g7; have hgo := fun k e => own_ge own5 (k := k) e; have Kb7 : BlkIs w7 w2.heap.size 95 [.slice (some ⟨g, o, none⟩) (tabS s.rows t c).length vc, ev] := (hg.block w2.heap.size Kb5.lt (fun e => by have := hgo _ e.symm; omega)).trans Kb5; have m0 : w7.cell? ⟨w2.heap.size, 1, none⟩ = some ev := Kb7.cell 1; have f0 := Kb7.frozen 1; clear Kb5 own5 hg hgo Kb7)
      obtain ⟨Kb5, own5, rows5, res5, bel5⟩ := H5.out
      have hg : w5.grownBy w7 ev.ownBlock := (World.grownBy_alloc w5 _ ev.ownBlock).trans g7
      have hgo := fun k e => own_ge own5 (k := k) e
      have Kb7 : BlkIs w7 w2.heap.size 95 [.slice (some ⟨g, o, none⟩) (tabS s.rows t c).length vc, ev] := (hg.block w2.heap.size Kb5.lt (fun e => by have := hgo _ e.symm; omega)).trans Kb5
      have hlt := HLT.out
      have hB2 := HB2.out
      have hB3 := HB3.out
      have hrv := (HRV.out g rfl).2
      have rows7 := rows5.kept hg (.inr (fun e => by have h9 : w2.heap.size + 1 ≤ g := hgo _ e.symm; omega))
      have res7 := (hg.block w.heap.size res5.lt (fun e => by have := hgo _ e.symm; omega)).trans res5
      have bel7 : Below w.heap.size w w7 := Below.grown bel5 hg bel5.size (fun k e => by have := hgo k e; omega)
      have hown7 : w7.ownsRow (w2.heap.size + 1) 9 1 (.slice (some ⟨g8, 0, none⟩) (k + 1) c8) (k + 1) (svs ((entsS s.rows t c).take (k + 1))) := by
        rw [HT.out, svs_snoc]
        exact own7
      refine ⟨⟨k + 1, by have := q1; omega, by go_num, Lib.hid ⟨⟨.slice (some ⟨g8, 0, none⟩) (k + 1) c8, Kb7.set 1 (.slice (some ⟨g8, 0, none⟩) (k + 1) c8), ownsRow_set hown7 _ _ (fun b e => ?_)⟩, ownsRow_set rows7 _ _ (fun b e => ?_), BlkIs.other res7 ?_ _, bel7.setCell ?_ _, ?_⟩⟩, by simp [intOf]; omega⟩
      · have := own_ge hown7 e
        show b ≠ w2.heap.size
        omega
      · have : b < w2.heap.size := (HRV.out b e).2
        show b ≠ w2.heap.size
        omega
      · show w.heap.size ≠ w2.heap.size
        omega
      · show w.heap.size ≤ w2.heap.size
        omega
      · have h1 := hg.size
        have h2 : (w7.setCell ⟨w2.heap.size, 1, none⟩ (.slice (some ⟨g8, 0, none⟩) (k + 1) c8)).heap.size = w7.heap.size := by simp [World.setCell]
        omega
    case neg =>
      have t1 : decide (k < (tabS s.rows t c).length) = false := by simpa using h1
      obtain rfl : k = (tabS s.rows t c).length := by omega
      obtain ⟨⟨ev, Kb, hown⟩, hrows, hres, hbel, hsz⟩ := HR.out
      obtain ⟨eA, ec, rfl, -, -, -⟩ := ownsRow_form hown
      have k0 : wr.cell? ⟨w2.heap.size, 0, none⟩ = some (.slice vA (tabS s.rows t c).length vc) := Kb.cell 0
      have k1 : wr.cell? ⟨w2.heap.size, 1, none⟩ = some (.slice eA (tabS s.rows t c).length ec) := Kb.cell 1
      have r0 : wr.cell? ⟨w.heap.size, 0, none⟩ = some (.slice none 0 0) := hres.cell 0
      have r1 : wr.cell? ⟨w.heap.size, 1, none⟩ = some (.slice none 0 0) := hres.cell 1
      have f0 := hres.frozen 0
      have f1 := hres.frozen 1
      have hE : (entsS s.rows t c).take (tabS s.rows t c).length = entsS s.rows t c := List.take_of_length_le (by rw [entsS_len]; exact Nat.le_refl _)
      rw [hE] at hown
      have HW := Lib.hid (And.intro hown (And.intro hrows (And.intro hres hbel)))
      clear hown hrows hres hbel hE h1 HR Kb
      go_wp2_with fail
      obtain ⟨hown, hrows, hres, hbel⟩ := HW.out
      have hlt := HLT.out
      have hB2 := HB2.out
      have hB3 := HB3.out
      have K2 := (hres.set 0 (.slice vA (tabS s.rows t c).length vc)).set 1 (.slice eA (tabS s.rows t c).length ec)
      have hb4 := (hbel.setCell (p := ⟨w.heap.size, 0, none⟩) (Nat.le_refl _) (.slice vA (tabS s.rows t c).length vc)).setCell (p := ⟨w.heap.size, 1, none⟩) (Nat.le_refl _) (.slice eA (tabS s.rows t c).length ec)
      have o4 := ownsRow_set (ownsRow_set hown ⟨w.heap.size, 0, none⟩ (.slice vA (tabS s.rows t c).length vc) (fun b e => by have := own_ge hown e; show b ≠ w.heap.size; omega)) ⟨w.heap.size, 1, none⟩ (.slice eA (tabS s.rows t c).length ec) (fun b e => by have := own_ge hown e; show b ≠ w.heap.size; omega)
      have hrw : ∀ b, (Value.slice vA (tabS s.rows t c).length vc).ownBlock = some b → b ≠ w.heap.size := fun b e => by have := (HRV.out b e).1; omega
      have r4 := ownsRow_set (ownsRow_set hrows ⟨w.heap.size, 0, none⟩ (.slice vA (tabS s.rows t c).length vc) hrw) ⟨w.heap.size, 1, none⟩ (.slice eA (tabS s.rows t c).length ec) hrw
      generalize (wr.setCell ⟨w.heap.size, 0, none⟩ (.slice vA (tabS s.rows t c).length vc)).setCell ⟨w.heap.size, 1, none⟩ (.slice eA (tabS s.rows t c).length ec) = wF at *
      have y0 : wF.cell? ⟨w.heap.size, 0, none⟩ = some (.slice vA (tabS s.rows t c).length vc) := K2.cell 0
      have y1 : wF.cell? ⟨w.heap.size, 1, none⟩ = some (.slice eA (tabS s.rows t c).length ec) := K2.cell 1
      refine bodyPost_ret (by simp [results, Tryz.results35, go_sem, y0, y1]; try rfl) rfl ?_
      exact ⟨_, _, rfl, ⟨r4, ownsRow_mono o4 (by omega)⟩, hb4⟩
end Go.Proofs.YtgbemgndbemllaaGreatDoor
end

