/- Appends to a row that the call owns, from whatever slice; of no program. -/
import Derived.Test.YtgbemgndbemllaaGreatDoorGk
import Derived.OwnWalk
import Derived.Laws.AppendOwn
import Derived.Laws.AppendOwnNone
namespace Go.Proofs.YtgbemgndbemllaaGreatDoor
open Go Go.RowKit

/-- append of the elements of a slice, nil or not, to a row that the call owns -/
theorem wpList_append_any {P : Program} {w : World} {ops : Array Oper} {rest : List Oper} {o : Oper} {a : Act} {Q : Exit → Act → World → Prop} (hgd : o.guard = none) (s x : Operand) (t : TypeId)
    (ho : o.op = .call { callee := .builtin .append, args := #[s, x], argTypes := #[t, t] })
    (base : Nat) (e : TypeId) (i : TypeInfo) (z : Value) (size bytes : Nat) (ht : P.underlying t = some (.slice e)) (hi : P.info? e = some i) (hz : i.zero = some z)
    (hsize : i.size = size) (hby : i.bytes = bytes) (hzs : z.cells.size = size) (hsz : 0 < size)
    (v : Value) (n : Nat) (xs : List Value) (hs : a.eval s = v) (hown : w.ownsRow base e size v n xs)
    (A : Option Addr) (m c : Nat) (news : List Value) (hx : a.eval x = .slice A m c) (hA : A = none → m = 0 ∧ c = 0) (hl : news.length = m * size) (hnews : ∀ ad, A = some ad → ∀ j u, news[j]? = some u → w.cell? (ad.add j) = some u) (h1 : ∀ u ∈ news, u.oneCell' = true)
    (h63 : n + m ≤ maxLen) (hbytes : (n + m) * bytes ≤ 140737488355328) (hbase : base ≤ w.heap.size)
    (h : ∀ v' w', w'.ownsRow base e size v' (n + m) (xs ++ news) → w.grownBy w' v.ownBlock → wpList P ops Q rest (a.put o.dst v') w') : wpList P ops Q (o :: rest) a w := by
  cases A with
  | none =>
    obtain ⟨rfl, rfl⟩ := hA rfl
    have hnil : news = [] := List.eq_nil_of_length_eq_zero (by simpa using hl)
    subst hnil
    refine wpList_append_own_none hgd s x t ho base e i size ht hi v n xs hs hown hx ?_
    refine h v w ?_ (World.grownBy.refl w _)
    rw [List.append_nil]; exact hown
  | some ad =>
    exact wpList_append_own w hgd s x t ho base e i z size bytes ht hi hz hsize hby hzs hsz v n xs hs hown ad m c news hx hl (hnews ad rfl) h1 h63 hbytes hbase (fun v' w' k1 k2 _ => h v' w' k1 k2)

theorem rwC_one (l : List Rw) : ∀ u ∈ l.flatMap rwC, u.oneCell' = true := by
  intro u hu
  obtain ⟨r, _, hu⟩ := List.mem_flatMap.1 hu
  simp only [rwC, List.mem_cons, List.not_mem_nil, or_false] at hu
  rcases hu with rfl | rfl | rfl | rfl | rfl <;> rfl
theorem flat_rws_len (l : List Rw) : (l.flatMap rwC).length = l.length * 5 := flat_len rwC 5 rwC_len l
/-- the cells of a flat list, one by one -/
theorem flat_cells {l : List Rw} {w : World} {g o : Nat} (h : ∀ (j : Nat) x, l[j]? = some x → ∀ (i : Nat) u, (rwC x)[i]? = some u → w.cell? ⟨g, o + j * 5 + i, none⟩ = some u) :
    ∀ (j : Nat) u, (l.flatMap rwC)[j]? = some u → w.cell? ⟨g, o + j, none⟩ = some u := by
  intro j u hu
  have hj := (List.getElem?_eq_some_iff.1 hu).1
  rw [flat_rws_len] at hj
  have hd : j / 5 * 5 + j % 5 = j := Nat.div_add_mod' j 5
  obtain ⟨x, hx⟩ : ∃ x, l[j / 5]? = some x := ⟨_, List.getElem?_eq_getElem (by omega)⟩
  obtain ⟨y, hy⟩ : ∃ y, (rwC x)[j % 5]? = some y := ⟨_, List.getElem?_eq_getElem (by rw [rwC_len]; omega)⟩
  have h1 := flat_get rwC 5 rwC_len l (j / 5) (j % 5) x y hx hy
  rw [hd, hu] at h1
  obtain rfl := Option.some.inj h1
  have h2 := h _ x hx _ _ hy
  rw [Nat.add_assoc, hd] at h2
  exact h2
end Go.Proofs.YtgbemgndbemllaaGreatDoor
