/- The walk of DigestSplit. -/
import Derived.Test.YtednkommpmdikaaDoorL02B
import Derived.Deep.RegionHeld3
import Derived.Deep.DrawnRows
namespace Go.Proofs.YtednkommpmdikaaDoor
open Go Go.RowKit
attribute [local go_sem] Oper.semAt_some

theorem own_form2 {w : World} {base : Nat} {e : TypeId} {v : Value} {k : Nat} {xs : List Value} (h : w.ownsRow base e 1 v k xs) : ∃ A c, v = .slice A k c ∧ k ≤ c ∧ ((A = none ∧ k = 0 ∧ c = 0) ∨ ∃ g, A = some ⟨g, 0, none⟩) := by
  rcases h.2 with ⟨rfl, rfl⟩ | ⟨g, cap, cur, rfl, _, _, hn, _⟩
  · exact ⟨none, 0, rfl, Nat.le_refl _, .inl ⟨rfl, rfl, rfl⟩⟩
  · exact ⟨_, cap, rfl, hn, .inr ⟨g, rfl⟩⟩
theorem own_none (w : World) (t : TypeId) (base : Nat) (hb : base ≤ w.heap.size) : (w.alloc (.cells #[] t)).ownsRow base t 1 (.slice (some ⟨w.heap.size, 0, none⟩) 0 0) 0 [] :=
  ⟨rfl, .inr ⟨w.heap.size, 0, #[], rfl, hb, heap_alloc_new w _, Nat.le_refl _, by unfold maxLen; omega, rfl, rfl⟩⟩

set_option maxRecDepth 100000 in
set_option maxHeartbeats 8000000 in
theorem split_any (s : ByteArray) (vl : Value) (w : World) (hR : RoundOk w) (h0 : ∃ ss : List ByteArray, SliceAt w vl (ss.map Value.string) ∧ ∀ s ∈ ss, s.size ≤ 9223372036854775807) :
    Calls Tryd.prog 7 #[vl, .string s] w fun e w' => e = .returned (.bool true) ∧ Below w.heap.size w w' := by
  obtain ⟨i0, hi0, hz0, hz1, hz2⟩ := info_str
  obtain ⟨ps, hvp, hps⟩ := h0
  obtain ⟨l, hl⟩ : ∃ l, l = fewL ps 40 := ⟨_, rfl⟩
  have hln : l.length ≤ 40 := by rw [hl]; exact fewL_length _ _
  have hls : ∀ x ∈ l, x.length ≤ 60 := by rw [hl]; exact fewL_short _ _
  have hfp := fun W hW => few_ok vl ps 40 40 rfl W hW hps (by decide)
  rw [← hl] at hfp
  obtain ⟨ms, es, ms1, ms2, cs⟩ := cut60 s
  obtain ⟨S, hS⟩ : ∃ S, S = s.data.toList.take 60 := ⟨_, rfl⟩
  have hSl : S.length ≤ 60 := by rw [hS, List.length_take]; omega
  rw [← hS] at cs
  have CS := Lib.hid cs
  have HFP := Lib.hid hfp
  have HVP := Lib.hid hvp
  have HLS := Lib.hid hls
  clear hl hfp hvp hps cs hS hls
  go_enter Tryd.func7, Tryd.ntmps7
  go_wp2_with fail
  refine (sane_ok w hR).mono ?_
  rintro e w1 ⟨rfl, b1⟩
  go_wp2_with fail
  refine (HFP.out w1 (HVP.out.below b1)).mono ?_
  rintro e w2 ⟨v2, rfl, own2, b2⟩
  have hb2 := Below.next b1 b2
  have hL2 := listAt_own own2
  obtain ⟨A2, c2, rfl, hc2, _⟩ := own_form2 own2
  have hle1 := b2.size
  have hbr := Below.refl w2.heap.size w2
  go_wp2_with (first
    | (at_builtin; refine wpList_append_own _ rfl _ _ 22 rfl w2.heap.size 9 i0 (.string ⟨#[]⟩) 1 16 Tryd.underlying22 hi0 hz0 hz1 hz2 rfl (by decide) v3 (0 + l.length) _ rfl (own3.alloc _) ⟨w3.heap.size, 0, none⟩ 1 1 [.string (s.extract 0 ms)] rfl rfl (cell_one_new _ _ _) (by simp [Value.oneCell']) (by unfold maxLen; omega) (by omega) (by simp; omega) ?_; intro v4 w4 own4 g4 _)
    | (at_builtin; refine wpList_append_rows rfl _ _ 22 rfl w2.heap.size 9 i0 (.string ⟨#[]⟩) 16 Tryd.underlying22 hi0 hz0 hz1 hz2 rfl (.slice (some ⟨w2.heap.size, 0, none⟩) 0 0) 0 [] rfl (own_none w2 9 w2.heap.size (Nat.le_refl _)) w1.heap.size (.slice A2 l.length c2) l.length (svs l) rfl (own2.alloc _) (svs_one l) (by unfold maxLen; omega) (by omega) (by rw [World.size_alloc]; omega) ?_; intro v3 w3 own3 g3; have hb3 : Below w2.heap.size w2 w3 := (hbr.alloc (Nat.le_refl _) _).grown g3 (by rw [World.size_alloc]; omega) (fun j e => by simp [Value.ownBlock] at e; omega); have hle3 := hb3.size))
  have hb24 := Below.appended hb3 hle3 own3 g4
  have hL4 := hL2.below hb24
  have hb4 := Below.next hb2 hb24
  rw [CS.out] at own4 ⊢
  obtain ⟨more, hmo⟩ : ∃ more, more = l ++ [S] := ⟨_, rfl⟩
  have hml : more.length = l.length + 1 := by rw [hmo]; simp
  have own5 : w4.ownsRow w2.heap.size 9 1 v4 more.length (svs more) := by
    rw [hml, hmo, svs_snoc, ← Nat.zero_add l.length]
    exact own4
  have hM4 := listAt_own own5
  obtain ⟨A4, c4, rfl, hc4, hA4⟩ := own_form2 own5
  have hms : ∀ x ∈ more, x.length ≤ 900000 := by
    intro x hx
    rw [hmo] at hx
    rcases List.mem_append.1 hx with hx | hx
    · have := HLS.out x hx; omega
    · rw [List.mem_singleton.1 hx]; omega
  have hls : ∀ x ∈ l, x.length ≤ 900000 := fun x hx => by have := HLS.out x hx; omega
  have hacc := extB_accept more l.length (by omega)
  have htk : more.take l.length = l := by rw [hmo, List.take_left]
  rw [htk] at hacc
  have hexs := extL_short more l.length (by omega)
  have hbn := binN_le more.length
  have hx100 : (extL more l.length).length ≤ 100 := by omega
  have HMS := Lib.hid hms
  have HLS2 := Lib.hid hls
  have HACC := Lib.hid hacc
  have HMO := Lib.hid hmo
  have HML := Lib.hid hml
  have hm41 : more.length ≤ 41 := by omega
  have hlm : l.length ≤ more.length := by omega
  clear own2 own3 own4 own5 g3 g4 hms hls hacc htk hmo hml hexs hbn hb3 hL2
  go_wp2_with fail
  refine (ext_list _ more l.length w4 hM4 (by omega) hlm HMS.out (hR.later hb4)).mono ?_
  rintro e w5 ⟨A5, c5, rfl, hX5, b5⟩
  have hb5 := Below.next hb4 b5
  have hL5 := hL4.below b5
  have hM5 := hM4.below b5
  clear hL4 hM4
  go_wp2_with fail
  refine (root_list _ l w5 hL5 (by omega) HLS2.out (hR.later hb5)).mono ?_
  rintro e w6 ⟨rfl, b6⟩
  have hb6 := Below.next hb5 b6
  have hL6 := hL5.below b6
  have hM6 := hM5.below b6
  have hX6 := hX5.below b6
  clear hL5 hM5 hX5
  go_wp2_with fail
  refine (root_list _ more w6 hM6 (by omega) HMS.out (hR.later hb6)).mono ?_
  rintro e w7 ⟨rfl, b7⟩
  have hb7 := Below.next hb6 b7
  have hL7 := hL6.below b7
  have hM7 := hM6.below b7
  have hX7 := hX6.below b7
  have hvx := vx_any (str (rootL l)) (str (rootL more)) l.length more.length _ (extL more l.length) w7 hX7 (by omega) hx100 (hR.later hb7)
  rw [mk_toList, mk_toList, HACC.out] at hvx
  clear hL6 hM6 hX6
  go_wp2_with fail
  refine hvx.mono ?_
  rintro e w8 ⟨rfl, b8⟩
  have hb8 := Below.next hb7 b8
  have hL8 := hL7.below b8
  have hM8 := hM7.below b8
  clear hvx hL7 hM7 hX7
  by_cases hl0 : l = []
  · have t1 : ((l.length : Int) == 0) = true := by rw [hl0]; rfl
    have hr1 : rootL more = leafL S := by rw [HMO.out, hl0]; rfl
    have hr2 : rootL l = shaL [] := by rw [hl0]; rfl
    have HR1 := Lib.hid hr1
    have HR2 := Lib.hid hr2
    clear hl0 hr1 hr2
    go_wp2_with fail
    refine (root_list _ more w8 hM8 (by omega) HMS.out (hR.later hb8)).mono ?_
    rintro e w9 ⟨rfl, b9⟩
    have hb9 := Below.next hb8 b9
    rw [HR1.out]
    go_wp2_with fail
    refine (leaf_ok (str S) w9 (by rw [size_mk]; omega) (hR.later hb9)).mono ?_
    rintro e w10 ⟨rfl, b10⟩
    have hb10 := Below.next hb9 b10
    rw [mk_toList]
    go_wp2_with fail
    refine (root_list _ l w10 ((hL8.below b9).below b10) (by omega) HLS2.out (hR.later hb10)).mono ?_
    rintro e w11 ⟨rfl, b11⟩
    have hb11 := Below.next hb10 b11
    rw [HR2.out]
    go_wp2_with fail
    refine (sum_ok ⟨#[]⟩ w11 (by decide) (hR.later hb11)).mono ?_
    rintro e w12 ⟨rfl, b12⟩
    have hb12 := Below.next hb11 b12
    go_wp2_with fail
    go_ret
    exact ⟨by simp, hb12⟩
  · have hl1 : 1 ≤ l.length := List.length_pos_iff.2 hl0
    have t1 : ((l.length : Int) == 0) = false := by simp; omega
    have hm2 : 2 ≤ more.length := by have := HML.out; omega
    have hnode := rootL_node more hm2
    obtain ⟨k, hk⟩ : ∃ k, k = leftN more.length := ⟨_, rfl⟩
    have hkl := leftN_lt more.length hm2
    have hkp := leftN_pos more.length
    have hleft := lawLeft_ok more.length w8 hm2 (by omega)
    rw [← hk] at hnode hkl hkp hleft
    have HNO := Lib.hid hnode
    have HK := Lib.hid hk
    obtain ⟨g, o, cc, e, hrow⟩ := hM8.rows (by intro e; rw [e] at hm2; simp at hm2)
    injection e with e1 e2 e3
    subst e1 e3
    have k0 : (0 : Int) ≤ (k : Int) := by omega
    have k1 : (k : Int) ≤ (more.length : Int) := by omega
    have k2 : (k : Int) ≤ (c4 : Int) := by omega
    have k3 : ¬ c4 = k := by omega
    have k4 : (more.length : Int) ≤ (c4 : Int) := by omega
    clear hl0 hnode hk e2
    go_wp2_with fail
    refine hleft.mono ?_
    rintro e w9 ⟨rfl, rfl⟩
    clear hleft
    have cR : ∀ (W : World) (g' o' n' c' : Nat) (q : List (List UInt8)) (Y : Nat → World → Prop), (∀ U, Y 0 U → RowsAt U g' o' n' c' q) → q.length ≤ 41 → (∀ x ∈ q, x.length ≤ 900000) → (∀ U U', Y 0 U → Below U.heap.size U U' → Y 0 U') → (∀ U, Y 0 U → RoundOk U) → Y 0 W →
        Calls Tryd.prog 17 #[.slice (some ⟨g', o', none⟩) n' c'] W fun e w' => e = .returned (.string (str (rootL q))) ∧ Y 0 w' := by
      intro W g' o' n' c' q Y h1 h2 h3 h4 h5 h6
      exact (root_ok _ q W (h1 W h6).slice (by omega) h3 (h5 W h6)).mono fun e w' ⟨he, hb⟩ => ⟨he, h4 W w' h6 hb⟩
    obtain ⟨Z, hZ⟩ : ∃ Z : Nat → World → Prop, Z = fun _ W => Below w.heap.size w W ∧ RowsAt W g o more.length c4 more := ⟨_, rfl⟩
    have hZb : ∀ U U', Z 0 U → Below U.heap.size U U' → Z 0 U' := by
      rw [hZ]; exact fun U U' ⟨h1, h2⟩ hb => ⟨Below.next h1 hb, h2.below hb⟩
    have hZr : ∀ U, Z 0 U → RoundOk U := by rw [hZ]; exact fun U ⟨h1, _⟩ => hR.later h1
    have hZd : ∀ U, Z 0 U → Z 0 U.drew := by rw [hZ]; exact fun U ⟨h1, h2⟩ => ⟨h1.drew, h2⟩
    have hZw : ∀ U, Z 0 U → Below w.heap.size w U := by rw [hZ]; exact fun U ⟨h1, _⟩ => h1
    have h0Z : Z 0 w9 := by rw [hZ]; exact ⟨hb8, hrow⟩
    have c1 := fun W => cR W g o more.length c4 more Z (by rw [hZ]; exact fun U ⟨_, h2⟩ => h2) (by omega) HMS.out hZb hZr
    have c2 := fun W => cR W g o k c4 (more.take k) Z (by rw [hZ]; exact fun U ⟨_, h2⟩ => h2.take k (by omega)) (by rw [List.length_take]; omega) (fun x hx => HMS.out x (List.mem_of_mem_take hx)) hZb hZr
    have c3 := fun W => cR W g (o + k) (more.length - k) (c4 - k) (more.drop k) Z (by rw [hZ]; exact fun U ⟨_, h2⟩ => h2.drop k (by omega)) (by rw [List.length_drop]; omega) (fun x hx => HMS.out x (List.mem_of_mem_drop hx)) hZb hZr
    have cN : ∀ W, Z 0 W → Calls Tryd.prog 28 #[.string (str (rootL (more.take k))), .string (str (rootL (more.drop k)))] W fun e w' => e = .returned (.string (str (rootL more))) ∧ Z 0 w' := by
      intro W h6
      have h := node_ok (str (rootL (more.take k))) (str (rootL (more.drop k))) W (by rw [size_mk, size_mk, rootL_len, rootL_len]; decide) (hZr W h6)
      rw [mk_toList, mk_toList, ← HNO.out] at h
      exact h.mono fun e w' ⟨he, hb⟩ => ⟨he, hZb W w' h6 hb⟩
    clear hZ cR hZb hZr
    go_wp2_with fail
    go_region_held3 (fun w' => Z 0 w') (first | assumption | exact hZd _ (by assumption))
      (first
        | (go_at_call 17; (with_reducible refine (c1 _ ?_).mono ?_); (first | assumption | exact hZd _ (by assumption)); rintro e w' ⟨rfl, hk1⟩)
        | (go_at_call 17; (with_reducible refine (c2 _ ?_).mono ?_); (first | assumption | exact hZd _ (by assumption)); rintro e w' ⟨rfl, hk1⟩)
        | (go_at_call 17; (with_reducible refine (c3 _ ?_).mono ?_); (first | assumption | exact hZd _ (by assumption)); rintro e w' ⟨rfl, hk1⟩)
        | (go_at_call 28; (with_reducible refine (cN _ ?_).mono ?_); (first | assumption | exact hZd _ (by assumption)); rintro e w' ⟨rfl, hk1⟩))
    have hbE := hZw _ hk1
    clear hZw c1 c2 c3 cN hZd
    go_wp2_with fail
    go_ret
    exact ⟨rfl, hbE⟩
end Go.Proofs.YtednkommpmdikaaDoor
