/- marked, Chain, Leaf and Node. -/
import Derived.Test.YtgbemgndbemllaaGreatDoorQShaE
import Derived.Test.YtgbemgndbemllaaGreatDoorGc
import Derived.Test.YtgbemgndbemllaaGreatDoorShelf
namespace Go.Proofs.YtgbemgndbemllaaGreatDoor
open Go Go.RowKit

theorem join_nil : ∀ ls : List (List UInt8), Lib.join ls [] = ls.flatten := by
  intro ls
  induction ls with
  | nil => rfl
  | cons a t ih => cases t <;> simp_all [Lib.join]

/-- one string as its bytes -/
abbrev str (l : List UInt8) : ByteArray := ⟨l.toArray⟩

theorem flat_str (ls : List (List UInt8)) : ((ls.map str).map (·.data.toList)).flatten = ls.flatten := by
  rw [List.map_map]; congr 1; simp [Function.comp_def]

theorem cat_str (a b : List UInt8) : str a ++ str b = str (a ++ b) := by
  apply ByteArray.ext; simp

set_option maxRecDepth 100000 in
set_option maxHeartbeats 1000000 in
theorem marked1_ok (b bk o c : Nat) (mark : List UInt8) (ls : List (List UInt8)) (w : World) (hm : w.cell? ⟨b, 0, none⟩ = some (.string (str mark))) (hml : mark.length ≤ 8)
    (hcells : ∀ (j : Nat) x, ls[j]? = some x → w.cell? ⟨bk, o + j, none⟩ = some (.string (str x))) (hbk : bk < w.heap.size) (hN : ls.length ≤ c) (hc : c ≤ 100) (hlen : ls.flatten.length ≤ 900000) (hR : RoundOk w) :
    Calls Tryz.prog 111 #[.slice (some ⟨bk, o, none⟩) ls.length c, .pointer (some ⟨b, 0, none⟩)] w fun e w' => e = .returned (.string (str (shaL (mark ++ ls.flatten)))) ∧ Below w.heap.size w w' := by
  obtain ⟨F, hF⟩ : ∃ F, F = ls.flatten := ⟨_, rfl⟩
  rw [← hF] at hlen ⊢
  have cJ : ∀ W : World, W.cell? ⟨b, 0, none⟩ = some (.string (str mark)) → Below w.heap.size w W → Calls Tryz.prog 112 #[.slice (some ⟨bk, o, none⟩) ls.length c, .string ⟨#[]⟩] W fun e w' => e = .returned (.string (str F)) ∧ w'.cell? ⟨b, 0, none⟩ = some (.string (str mark)) ∧ Below w.heap.size w w' := by
    intro W h1 h2
    have hf := flat_str ls
    rw [← hF] at hf
    have h := Tryz.strings_Join bk o c (ls.map str) ⟨#[]⟩ W (by
      intro j x hx
      rw [List.getElem?_map] at hx
      cases h3 : ls[j]? with
      | none => rw [h3] at hx; cases hx
      | some y =>
        rw [h3] at hx
        cases hx
        exact (h2.cell (p := ⟨bk, o + j, none⟩) hbk).trans (hcells j y h3)) (Nat.lt_of_lt_of_le hbk h2.size) (by rw [List.length_map]; omega) (by rw [List.length_map]; exact hN) (by rw [join_nil, hf]; omega)
    rw [join_nil, hf, List.length_map] at h
    exact h.mono fun e w' ⟨he, hb⟩ => ⟨he, (hb.cell (block_of_cell h1)).trans h1, Below.next h2 hb⟩
  have cS : ∀ W : World, W.cell? ⟨b, 0, none⟩ = some (.string (str mark)) → Below w.heap.size w W → Calls Tryz.prog 58 #[.string (str (mark ++ F))] W fun e w' => e = .returned (.string (str (shaL (mark ++ F)))) ∧ w'.cell? ⟨b, 0, none⟩ = some (.string (str mark)) ∧ Below w.heap.size w w' := by
    intro W h1 h2
    have h := sum_ok (str (mark ++ F)) W (by rw [size_mk, List.length_append]; omega) (hR.later h2)
    exact h.mono fun e w' ⟨he, hb⟩ => ⟨he, (hb.cell (block_of_cell h1)).trans h1, Below.next h2 hb⟩
  clear hF
  go_enter Tryz.func111, Tryz.ntmps111
  go_upto_region 1 with fail
  have b0 := Below.refl w.heap.size w
  clear hcells hR
  have hadd : ¬ 9223372036854775807 < mark.length + F.length := by omega
  go_region_held3 (fun w' => w'.cell? ⟨b, 0, none⟩ = some (.string (str mark)) ∧ Below w.heap.size w w') (refine ⟨?_, ?_⟩ <;> first | assumption | exact Below.drew (by assumption) | (simp [*]; done))
    (first
      | (go_at_call 112; refine (cJ _ ?_ ?_).mono ?_; (first | assumption | (simp [*]; done)); (first | assumption | exact Below.drew (by assumption)); rintro e w4 ⟨rfl, k1, k2⟩)
      | (go_at_call 58; rw [cat_str]; refine (cS _ ?_ ?_).mono ?_; (first | assumption | (simp [*]; done)); (first | assumption | exact Below.drew (by assumption)); rintro e w4 ⟨rfl, k1, k2⟩))
  go_wp2_with fail
  go_ret
  exact ⟨rfl, k2⟩

theorem marked_ok (mark : List UInt8) (w : World) :
    Calls Tryz.prog 89 #[.string (str mark)] w fun e w' => e = .returned (.func (.func 111) #[] #[.pointer (some ⟨w.heap.size, 0, none⟩)]) ∧ w' = w.alloc (.cells #[.string (str mark)] 9) := by
  go_enter Tryz.func89, Tryz.ntmps89
  go_wp2_with fail
  go_ret
  exact ⟨rfl, rfl⟩

theorem str_data (s : ByteArray) : str s.data.toList = s := by simp [str]

set_option maxRecDepth 100000 in
set_option maxHeartbeats 1000000 in
theorem leaf_ok (s : ByteArray) (w : World) (hs : s.size ≤ 900000) (hR : RoundOk w) :
    Calls Tryz.prog 56 #[.string s] w fun e w' => e = .returned (.string (str (leafL s.data.toList))) ∧ Below w.heap.size w w' := by
  go_enter Tryz.func56, Tryz.ntmps56
  go_wp2_with fail
  refine (marked_ok [0] w).mono ?_
  rintro e w1 ⟨rfl, rfl⟩
  go_wp2_with fail
  have hm : ((w.alloc (.cells #[.string (str [0])] 9)).alloc (.cells #[.string s] 9)).cell? ⟨w.heap.size, 0, none⟩ = some (.string (str [0])) := cell_new2 _ _ _ _ _ _ _ rfl rfl
  refine (marked1_ok w.heap.size (w.heap.size + 1) 0 1 [0] [s.data.toList] _ hm (by decide) ?_ (by simp) (Nat.le_refl _) (by decide) (by simp; omega) ((hR.alloc _).alloc _)).mono ?_
  · intro j x hx
    have h2 := cell_new (w.alloc (.cells #[.string (str [0])] 9)) 9 #[.string s] (w.heap.size + 1) j
    rw [Nat.zero_add]
    match j, hx with
    | 0, hx => cases hx; rw [h2 _ (by simp) rfl, str_data]
  rintro e w2 ⟨rfl, hb⟩
  have hb2 : Below w.heap.size w w2 := Below.next (((Below.refl _ w).alloc (Nat.le_refl _) _).alloc (by simp) _) hb
  have hf : [0] ++ [s.data.toList].flatten = 0 :: s.data.toList := by simp
  rw [hf]
  go_wp2_with fail
  go_ret
  exact ⟨rfl, hb2⟩

set_option maxRecDepth 100000 in
set_option maxHeartbeats 1000000 in
theorem node_ok (s t : ByteArray) (w : World) (hs : s.size + t.size ≤ 900000) (hR : RoundOk w) :
    Calls Tryz.prog 57 #[.string s, .string t] w fun e w' => e = .returned (.string (str (nodeL s.data.toList t.data.toList))) ∧ Below w.heap.size w w' := by
  go_enter Tryz.func57, Tryz.ntmps57
  go_wp2_with fail
  refine (marked_ok [1] w).mono ?_
  rintro e w1 ⟨rfl, rfl⟩
  go_wp2_with fail
  have hm : ((w.alloc (.cells #[.string (str [1])] 9)).alloc (.cells #[.string s, .string t] 9)).cell? ⟨w.heap.size, 0, none⟩ = some (.string (str [1])) := cell_new2 _ _ _ _ _ _ _ rfl rfl
  refine (marked1_ok w.heap.size (w.heap.size + 1) 0 2 [1] [s.data.toList, t.data.toList] _ hm (by decide) ?_ (by simp) (Nat.le_refl _) (by decide) (by simp; omega) ((hR.alloc _).alloc _)).mono ?_
  · intro j x hx
    have h2 := cell_new (w.alloc (.cells #[.string (str [1])] 9)) 9 #[.string s, .string t] (w.heap.size + 1) j
    rw [Nat.zero_add]
    match j, hx with
    | 0, hx => cases hx; rw [h2 _ (by simp) rfl, str_data]
    | 1, hx => cases hx; rw [h2 _ (by simp) rfl, str_data]
  rintro e w2 ⟨rfl, hb⟩
  have hb2 : Below w.heap.size w w2 := Below.next (((Below.refl _ w).alloc (Nat.le_refl _) _).alloc (by simp) _) hb
  have hf : [1] ++ [s.data.toList, t.data.toList].flatten = 1 :: (s.data.toList ++ t.data.toList) := by simp
  rw [hf]
  go_wp2_with fail
  go_ret
  exact ⟨rfl, hb2⟩

set_option maxRecDepth 100000 in
set_option maxHeartbeats 1000000 in
theorem chain_ok (s t : ByteArray) (w : World) (hs : s.size + t.size ≤ 900000) (hR : RoundOk w) :
    Calls Tryz.prog 65 #[.string s, .string t] w fun e w' => e = .returned (.string (str (chainL s.data.toList t.data.toList))) ∧ Below w.heap.size w w' := by
  go_enter Tryz.func65, Tryz.ntmps65
  go_wp2_with fail
  refine (marked_ok [2] w).mono ?_
  rintro e w1 ⟨rfl, rfl⟩
  go_wp2_with fail
  have hm : ((w.alloc (.cells #[.string (str [2])] 9)).alloc (.cells #[.string s, .string t] 9)).cell? ⟨w.heap.size, 0, none⟩ = some (.string (str [2])) := cell_new2 _ _ _ _ _ _ _ rfl rfl
  refine (marked1_ok w.heap.size (w.heap.size + 1) 0 2 [2] [s.data.toList, t.data.toList] _ hm (by decide) ?_ (by simp) (Nat.le_refl _) (by decide) (by simp; omega) ((hR.alloc _).alloc _)).mono ?_
  · intro j x hx
    have h2 := cell_new (w.alloc (.cells #[.string (str [2])] 9)) 9 #[.string s, .string t] (w.heap.size + 1) j
    rw [Nat.zero_add]
    match j, hx with
    | 0, hx => cases hx; rw [h2 _ (by simp) rfl, str_data]
    | 1, hx => cases hx; rw [h2 _ (by simp) rfl, str_data]
  rintro e w2 ⟨rfl, hb⟩
  have hb2 : Below w.heap.size w w2 := Below.next (((Below.refl _ w).alloc (Nat.le_refl _) _).alloc (by simp) _) hb
  have hf : [2] ++ [s.data.toList, t.data.toList].flatten = 2 :: (s.data.toList ++ t.data.toList) := by simp
  rw [hf]
  go_wp2_with fail
  go_ret
  exact ⟨rfl, hb2⟩

end Go.Proofs.YtgbemgndbemllaaGreatDoor
