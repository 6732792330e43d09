/- The reference's Leaf, Node and Chain. -/
import Derived.Test.YtednkommpmdikaaDoorRefH
import Derived.Test.YtednkommpmdikaaDoorLeaf
namespace Go.Proofs.YtednkommpmdikaaDoor
open Go Go.RowKit
attribute [local go_sem] Oper.semAt_some

theorem cat_toList (a b : ByteArray) : (a ++ b).data.toList = a.data.toList ++ b.data.toList := by rw [append_eq]

theorem sumR_str (s : ByteArray) (l : List UInt8) (hl : s.data.toList = l) (w : World) (hs : l.length ≤ 1000000) :
    Calls Tryd.prog 29 #[.string s] w fun e w' => e = .returned (.string (str (shaL l))) ∧ Below w.heap.size w w' := by
  have h := sumR_ok s w (by have : s.data.toList.length = s.size := by simp
                            rw [hl] at this; omega)
  rw [hl] at h
  exact h

set_option maxRecDepth 100000 in
set_option maxHeartbeats 1000000 in
theorem leafR_ok (s : ByteArray) (w : World) (hs : s.size ≤ 900000) :
    Calls Tryd.prog 30 #[.string s] w fun e w' => e = .returned (.string (str (leafL s.data.toList))) ∧ Below w.heap.size w w' := by
  have hd : ∀ W, _ := fun W => sumR_str ((⟨#[0]⟩ : ByteArray) ++ s) (0 :: s.data.toList) (by rw [cat_toList]; rfl) W (by simp; omega)
  have HD := Lib.hid hd
  clear hd
  go_enter Tryd.func30, Tryd.ntmps30
  go_wp2_with fail
  refine (HD.out _).mono ?_
  rintro e w1 ⟨rfl, b1⟩
  go_wp2_with fail
  go_ret
  exact ⟨rfl, b1⟩

set_option maxRecDepth 100000 in
set_option maxHeartbeats 1000000 in
theorem nodeR_ok (s t : ByteArray) (w : World) (hs : s.size + t.size ≤ 900000) :
    Calls Tryd.prog 31 #[.string s, .string t] w fun e w' => e = .returned (.string (str (nodeL s.data.toList t.data.toList))) ∧ Below w.heap.size w w' := by
  have hd : ∀ W, _ := fun W => sumR_str ((⟨#[1]⟩ : ByteArray) ++ s ++ t) (1 :: (s.data.toList ++ t.data.toList)) (by rw [cat_toList, cat_toList]; rfl) W (by simp; omega)
  have HD := Lib.hid hd
  clear hd
  have c1 : ¬ 9223372036854775807 < 1 + s.size := by omega
  have c2 : ¬ 9223372036854775807 < 1 + s.size + t.size := by omega
  go_enter Tryd.func31, Tryd.ntmps31
  go_wp2_with fail
  refine (HD.out _).mono ?_
  rintro e w1 ⟨rfl, b1⟩
  go_wp2_with fail
  go_ret
  exact ⟨rfl, b1⟩

set_option maxRecDepth 100000 in
set_option maxHeartbeats 1000000 in
theorem chainR_ok (s t : ByteArray) (w : World) (hs : s.size + t.size ≤ 900000) :
    Calls Tryd.prog 33 #[.string s, .string t] w fun e w' => e = .returned (.string (str (chainL s.data.toList t.data.toList))) ∧ Below w.heap.size w w' := by
  have hd : ∀ W, _ := fun W => sumR_str ((⟨#[2]⟩ : ByteArray) ++ s ++ t) (2 :: (s.data.toList ++ t.data.toList)) (by rw [cat_toList, cat_toList]; rfl) W (by simp; omega)
  have HD := Lib.hid hd
  clear hd
  have c1 : ¬ 9223372036854775807 < 1 + s.size := by omega
  have c2 : ¬ 9223372036854775807 < 1 + s.size + t.size := by omega
  go_enter Tryd.func33, Tryd.ntmps33
  go_wp2_with fail
  refine (HD.out _).mono ?_
  rintro e w1 ⟨rfl, b1⟩
  go_wp2_with fail
  go_ret
  exact ⟨rfl, b1⟩
end Go.Proofs.YtednkommpmdikaaDoor
