/- Rows of strings appended to each other; the law's way. -/
import Derived.Test.YtednkommpmdikaaDoorDgE
import Derived.Test.YtednkommpmdikaaDoorTreeW
import Derived.Laws.AppendOwnNone
namespace Go.Proofs.YtednkommpmdikaaDoor
open Go Go.RowKit
attribute [local go_sem] Oper.semAt_some

theorem own_new (w : World) (t : TypeId) (x : Value) (base : Nat) (hb : base ≤ w.heap.size) : (w.alloc (.cells #[x] t)).ownsRow base t 1 (.slice (some ⟨w.heap.size, 0, none⟩) 1 1) 1 [x] :=
  ⟨rfl, .inr ⟨w.heap.size, 1, #[x], rfl, hb, heap_alloc_new w _, Nat.le_refl _, by unfold maxLen; omega, rfl, rfl⟩⟩

/-- append of a row that the call owns to another one -/
theorem wpList_append_rows {P : Program} {w : World} {ops : Array Oper} {rest : List Oper} {o : Oper} {a : Act} {Q : Exit → Act → World → Prop} (hgd : o.guard = none) (s x : Operand) (t : TypeId)
    (ho : o.op = .call { callee := .builtin .append, args := #[s, x], argTypes := #[t, t] })
    (base : Nat) (e : TypeId) (i : TypeInfo) (z : Value) (bytes : Nat) (ht : P.underlying t = some (.slice e)) (hi : P.info? e = some i) (hz : i.zero = some z)
    (hsize : i.size = 1) (hby : i.bytes = bytes) (hzs : z.cells.size = 1)
    (v : Value) (n : Nat) (xs : List Value) (hs : a.eval s = v) (hown : w.ownsRow base e 1 v n xs)
    (base2 : Nat) (v2 : Value) (m : Nat) (news : List Value) (hx : a.eval x = v2) (hsrc : w.ownsRow base2 e 1 v2 m news) (h1 : ∀ u ∈ news, u.oneCell' = true)
    (h63 : n + m ≤ maxLen) (hbytes : (n + m) * bytes ≤ 140737488355328) (hbase : base ≤ w.heap.size)
    (h : ∀ v' w', w'.ownsRow base e 1 v' (n + m) (xs ++ news) → w.grownBy w' v.ownBlock → wpList P ops Q rest (a.put o.dst v') w') : wpList P ops Q (o :: rest) a w := by
  have hs0 := hsrc
  obtain ⟨hl, hc⟩ := hsrc
  rcases hc with ⟨rfl, rfl⟩ | ⟨g, cap, cur, rfl, _, _, hn, hm, hcs, htk⟩
  · have hnil : news = [] := List.eq_nil_of_length_eq_zero (by simpa using hl)
    subst hnil
    refine wpList_append_own_none hgd s x t ho base e i 1 ht hi v n xs hs hown hx ?_
    refine h v w ?_ (World.grownBy.refl w _)
    rw [List.append_nil]; exact hown
  · refine wpList_append_own w hgd s x t ho base e i z 1 bytes ht hi hz hsize hby hzs (by decide) v n xs hs hown ⟨g, 0, none⟩ m cap news hx (by omega) ?_ h1 h63 hbytes hbase (fun v' w' k1 k2 _ => h v' w' k1 k2)
    intro j u hu
    rw [add_zero_off]
    exact ownsRow_cell hs0 j u hu

theorem svs_one (l : List (List UInt8)) : ∀ u ∈ svs l, u.oneCell' = true := by
  intro u hu
  unfold svs at hu
  obtain ⟨x, _, rfl⟩ := List.mem_map.1 hu
  rfl
theorem svs_append (a b : List (List UInt8)) : svs (a ++ b) = svs a ++ svs b := by simp [svs]

theorem cat3 (c : UInt8) (a b : List UInt8) : (⟨#[c]⟩ : ByteArray) ++ str a ++ str b = str (c :: (a ++ b)) := by
  have : (⟨#[c]⟩ : ByteArray) = str [c] := rfl
  rw [this, cat_str, cat_str]
  rfl
theorem cat2 (c : UInt8) (a : List UInt8) : (⟨#[c]⟩ : ByteArray) ++ str a = str (c :: a) := by
  have : (⟨#[c]⟩ : ByteArray) = str [c] := rfl
  rw [this, cat_str]
  rfl

theorem wayR_len (s : List UInt8) : ∀ (r : List (List UInt8)) (n i : Nat), (wayR s r n i).1.length ≤ r.length + 1
  | [], _, _ => by simp [wayR]
  | x :: r, n, i => by
    unfold wayR
    have h1 := wayR_len s r (leftN n) i
    have h2 := wayR_len s r (n - leftN n) (i - leftN n)
    split
    · simp
    · split
      · simp; omega
      · simp; omega

set_option maxRecDepth 100000 in
set_option maxHeartbeats 4000000 in
theorem way_ok (s : List UInt8) (hs : s.length ≤ 60) : ∀ (r : List (List UInt8)) (n i : Nat) (u : List UInt8) (v : Value) (w : World), ListAt w v r.reverse → n ≤ 9223372036854775807 → i < n → (∀ x ∈ r, x.length = 32) → r.length ≤ 100 → valR s r n i = some u → RoundOk w →
    Calls Tryd.prog 22 #[.int .i64 n, .int .i64 i, .string (str s), v] w fun e w' => ∃ v', e = .returned (.tuple #[v', .string (str (wayR s r n i).2)]) ∧ w'.ownsRow w.heap.size 9 1 v' (wayR s r n i).1.length (svs (wayR s r n i).1) ∧ Below w.heap.size w w'
  | [], n, i, u, v, w, hv, hn, hi, _, _, hval, hR => by
    have h1 : n ≤ 1 := by
      apply Nat.le_of_not_lt; intro h
      unfold valR at hval
      rw [if_neg (by omega)] at hval
      cases hval
    have t1 : decide ((n : Int) ≤ 1) = true := by simp; omega
    have t2 : decide (n ≤ 1) = true := by simp; omega
    have hsz : (str s).size ≤ 900000 := by rw [size_mk]; omega
    have hs2 : s.length ≤ 1000 := by omega
    have e1 : wayR s [] n i = ([0 :: s], leafL s) := rfl
    have hso := own_new w 9 (.string ((⟨#[0]⟩ : ByteArray) ++ str s)) w.heap.size (Nat.le_refl _)
    rw [cat2] at hso
    rw [e1]
    clear hval e1 hi
    go_enter Tryd.func22, Tryd.ntmps22
    go_wp2_with fail
    rw [cat2]
    have hbl : Below w.heap.size w (w.alloc (.cells #[.string (str (0 :: s))] 9)) := (Below.refl _ _).alloc (Nat.le_refl _) _
    refine (leaf_ok (str s) _ hsz (hR.later hbl)).mono ?_
    rintro e w2 ⟨rfl, b2⟩
    rw [mk_toList]
    have hown := ownsRow_below b2 hso
    have hb2 := Below.next hbl b2
    clear hso hbl
    go_wp2_with fail
    go_ret2
    exact ⟨_, rfl, hown, hb2⟩
  | x :: r, n, i, u, v, w, hv, hn, hi, hr32, hrl, hval, hR => by
    have h2 : 2 ≤ n := by
      apply Nat.le_of_not_lt; intro h
      unfold valR at hval
      rw [if_pos (by omega)] at hval
      cases hval
    rw [List.reverse_cons] at hv
    obtain ⟨g, o, c, rfl, hc, hg, hx, hq⟩ := hv.last
    rw [List.length_reverse] at hc hx hq ⊢
    obtain ⟨i0, hi0, hz0, hz1, hz2⟩ := info_str
    obtain ⟨L, hL⟩ : ∃ L, L = r.length := ⟨_, rfl⟩
    obtain ⟨M, hM⟩ : ∃ M, M = r.length + 1 := ⟨_, rfl⟩
    have e1 : (M : Int) - 1 = (L : Int) := by omega
    have M100 : (M : Int) ≤ 200 := by simp at hrl; omega
    rw [← hL] at hx hq
    rw [← hM] at hc ⊢
    have L0 : (0 : Int) ≤ (L : Int) := by omega
    have L1 : (L : Int) < (M : Int) := by omega
    have L2 : (L : Int) ≤ (c : Int) := by omega
    have t1 : decide ((n : Int) ≤ 1) = false := by simp; omega
    have t2 : decide (n ≤ 1) = false := by simp; omega
    have t3 : ((M : Int) == 0) = false := by simp; omega
    obtain ⟨k, hk⟩ : ∃ k, k = leftN n := ⟨_, rfl⟩
    have hkl := leftN_lt n h2
    have hkp := leftN_pos n
    have hleft := lawLeft_ok n w h2 hn
    rw [← hk] at hkl hkp hleft
    have hx32 : x.length ≤ 32 := by rw [hr32 x (by simp)]; omega
    have hrl2 : r.length ≤ 99 := by simp at hrl; omega
    by_cases hki : i < k
    · have t4 : decide (i < k) = true := by simpa using hki
      obtain ⟨u', hu'⟩ : ∃ u', valR s r k i = some u' := by
        unfold valR at hval
        rw [if_neg (by omega), ← hk, if_neg (by omega), if_neg (by omega), Option.map_eq_some_iff] at hval
        obtain ⟨u', h, _⟩ := hval
        exact ⟨u', h⟩
      have ih := way_ok s hs r k i u' (.slice (some ⟨g, o, none⟩) L c) w hq (by omega) hki (fun z hz => hr32 z (by simp [hz])) (by omega) hu' hR
      have hv2 := wayR_val s r k i u' hu'
      have hv32 := valR_len s r k i u' hu'
      obtain ⟨V, hV⟩ : ∃ V, V = (wayR s r k i).2 := ⟨_, rfl⟩
      obtain ⟨W, hW⟩ : ∃ W, W = (wayR s r k i).1 := ⟨_, rfl⟩
      have hwl := wayR_len s r k i
      have hwr : wayR s (x :: r) n i = ((1 :: (V ++ x)) :: W, nodeL V x) := by
        rw [hV, hW, wayR, if_neg (by omega), ← hk, if_pos hki]
      rw [← hV, ← hW] at ih
      rw [← hW] at hwl
      have V32 : V.length ≤ 32 := by rw [hV, hv2, hv32]; omega
      rw [hwr]
      have HK := Lib.hid hk
      have HW := Lib.hid hW
      have HV := Lib.hid hV
      have HL := Lib.hid hL
      have HM := Lib.hid hM
      have hwl2 : W.length ≤ 100 := by omega
      clear hval hu' hv2 hv32 hwr hk hW hV hL hM hwl hrl
      go_enter Tryd.func22, Tryd.ntmps22
      go_wp2_with fail
      refine hleft.mono ?_
      rintro e w1 ⟨rfl, rfl⟩
      go_wp2_with fail
      refine ih.mono ?_
      rintro e w2 ⟨v2, rfl, own2, b2⟩
      have hle2 := b2.size
      clear ih hleft hx
      go_wp2_with (at_builtin; refine wpList_append_rows rfl _ _ 22 rfl w1.heap.size 9 i0 (.string ⟨#[]⟩) 16 Tryd.underlying22 hi0 hz0 hz1 hz2 rfl (.slice (some ⟨w2.heap.size, 0, none⟩) 1 1) 1 _ rfl (own_new w2 9 (.string ((⟨#[1]⟩ : ByteArray) ++ str V ++ str x)) w1.heap.size hle2) w1.heap.size v2 W.length (svs W) rfl (own2.alloc _) (svs_one W) (by unfold maxLen; omega) (by omega) (by simp; omega) ?_; intro v3 w3 own3 g3)
      have hb3 : Below w1.heap.size w1 w3 := (b2.alloc hle2 _).grown g3 (by rw [World.size_alloc]; omega) (fun j e => by simp [Value.ownBlock] at e; omega)
      rw [cat3] at own3
      clear own2 g3
      refine (node_ok (str V) (str x) w3 (by rw [size_mk, size_mk]; omega) (hR.later hb3)).mono ?_
      rintro e w4 ⟨rfl, b4⟩
      have own4 := ownsRow_below b4 own3
      have hb4 := Below.next hb3 b4
      clear own3
      rw [mk_toList, mk_toList]
      go_wp2_with fail
      go_ret2
      rw [Nat.add_comm 1 W.length] at own4
      exact ⟨v3, rfl, own4, hb4⟩
    · have t4 : decide (i < k) = false := by simpa using hki
      obtain ⟨n2, hn2⟩ : ∃ n2, n2 = n - k := ⟨_, rfl⟩
      obtain ⟨i2, hi2⟩ : ∃ i2, i2 = i - k := ⟨_, rfl⟩
      have e5 : (n : Int) - (k : Int) = (n2 : Int) := by omega
      have e6 : (i : Int) - (k : Int) = (i2 : Int) := by omega
      obtain ⟨u', hu'⟩ : ∃ u', valR s r n2 i2 = some u' := by
        unfold valR at hval
        rw [if_neg (by omega), ← hk, if_pos (by omega), if_pos (by omega), ← hn2, ← hi2, Option.map_eq_some_iff] at hval
        obtain ⟨u', h, _⟩ := hval
        exact ⟨u', h⟩
      have ih := way_ok s hs r n2 i2 u' (.slice (some ⟨g, o, none⟩) L c) w hq (by omega) (by omega) (fun z hz => hr32 z (by simp [hz])) (by omega) hu' hR
      have hv2 := wayR_val s r n2 i2 u' hu'
      have hv32 := valR_len s r n2 i2 u' hu'
      obtain ⟨V, hV⟩ : ∃ V, V = (wayR s r n2 i2).2 := ⟨_, rfl⟩
      obtain ⟨W, hW⟩ : ∃ W, W = (wayR s r n2 i2).1 := ⟨_, rfl⟩
      have hwl := wayR_len s r n2 i2
      have hwr : wayR s (x :: r) n i = ((1 :: (x ++ V)) :: W, nodeL x V) := by
        rw [hV, hW, wayR, if_neg (by omega), ← hk, if_neg hki, ← hn2, ← hi2]
      rw [← hV, ← hW] at ih
      rw [← hW] at hwl
      have V32 : V.length ≤ 32 := by rw [hV, hv2, hv32]; omega
      rw [hwr]
      have HK := Lib.hid hk
      have HW := Lib.hid hW
      have HV := Lib.hid hV
      have HL := Lib.hid hL
      have HM := Lib.hid hM
      have hwl2 : W.length ≤ 100 := by omega
      clear hn2 hi2 hval hu' hv2 hv32 hwr hk hW hV hL hM hwl hrl
      go_enter Tryd.func22, Tryd.ntmps22
      go_wp2_with fail
      refine hleft.mono ?_
      rintro e w1 ⟨rfl, rfl⟩
      go_wp2_with fail
      refine ih.mono ?_
      rintro e w2 ⟨v2, rfl, own2, b2⟩
      have hle2 := b2.size
      clear ih hleft hx
      go_wp2_with (at_builtin; refine wpList_append_rows rfl _ _ 22 rfl w1.heap.size 9 i0 (.string ⟨#[]⟩) 16 Tryd.underlying22 hi0 hz0 hz1 hz2 rfl (.slice (some ⟨w2.heap.size, 0, none⟩) 1 1) 1 _ rfl (own_new w2 9 (.string ((⟨#[1]⟩ : ByteArray) ++ str x ++ str V)) w1.heap.size hle2) w1.heap.size v2 W.length (svs W) rfl (own2.alloc _) (svs_one W) (by unfold maxLen; omega) (by omega) (by simp; omega) ?_; intro v3 w3 own3 g3)
      have hb3 : Below w1.heap.size w1 w3 := (b2.alloc hle2 _).grown g3 (by rw [World.size_alloc]; omega) (fun j e => by simp [Value.ownBlock] at e; omega)
      rw [cat3] at own3
      clear own2 g3
      refine (node_ok (str x) (str V) w3 (by rw [size_mk, size_mk]; omega) (hR.later hb3)).mono ?_
      rintro e w4 ⟨rfl, b4⟩
      have own4 := ownsRow_below b4 own3
      have hb4 := Below.next hb3 b4
      clear own3
      rw [mk_toList, mk_toList]
      go_wp2_with fail
      go_ret2
      rw [Nat.add_comm 1 W.length] at own4
      exact ⟨v3, rfl, own4, hb4⟩
end Go.Proofs.YtednkommpmdikaaDoor
