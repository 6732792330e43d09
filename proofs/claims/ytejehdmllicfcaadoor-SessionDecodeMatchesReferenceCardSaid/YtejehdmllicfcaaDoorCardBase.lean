/- What all cards of this seat share: the table is laid, a law's end, a world for the witness. -/
import Derived.Test.YtejehdmllicfcaaDoorCards
import Derived.Test.YtejehdmllicfcaaDoorTie
import Derived.Test.YtejehdmllicfcaaDoorSumW
import Derived.Test.YtejehdmllicfcaaDoorSl
import Derived.ProofKit
import Derived.OpenShut
import Derived.SizedLaws
import Derived.Deep.DeepHandedRow
import Derived.Lib.LaidTab
namespace Go.Proofs.YtejehdmllicfcaaDoor
open Go Go.ChangeShapes Go.WideShapes Go.ChangeAt Go.RowKit

theorem own : ownKnob Tryd.prog.godebug = none := by kernel_rfl
theorem laidOut : laidOutB Tryd.prog = true := by kernel_rfl
theorem gTab : Tryd.prog.globalNamed "cachetier/wire.nibbles" = some 0 := by kernel_rfl
theorem gTabType : (Tryd.prog.globals[ 0 ]?).map (·.type) = some 79 := by kernel_rfl
theorem cellsT : Tryd.prog.cellsOf 79 = 16 := by kernel_rfl
theorem cellsE : Tryd.prog.cellsOf 78 = 1 := by kernel_rfl

def nibZ : List Int := [0, 274646895, 549293790, 820201905, 1098587580, 1361435347, 1640403810, 1905808397, 2197175160, 2460548119, 2722870694, 2987750089, 3280807620, 3553878443, 3811616794, 4084100981]

theorem nibZ_eq : ∀ i, i < 16 → nibZ.getD i 0 = ((nibT.getD i 0 : Nat) : Int) := by decide

theorem tabOk_of_laid {W : World} (h : laidMetH Tryd.prog [("cachetier/wire.nibbles", Rows.laid_cachetier_wire_nibbles)] W) : TabOk W := by
  have hT : Lib.TabIs Tryd.prog W "cachetier/wire.nibbles" .u32 nibZ :=
    Lib.tabIs_of_head (rest := []) gTab gTabType Tryd.underlying79 Tryd.underlying78 cellsE cellsT h
  intro i hi
  rw [← nibZ_eq i hi]
  exact hT.cell gTab i hi

/-- The arguments read behind the call as they did, if what lay before has not turned. -/
theorem trodAll_below {H : Type} {enc : TypeId × Value → H} {W W' : World} (hb : Below W.heap.size W W') :
    ∀ {ts : List TypeId} {vs : List Value} {ds : List (DataW H)} {ps : List MemPlace}, (∀ t ∈ ts, Tryd.prog.readableRec t = true ∧ t < Tryd.prog.types.size) →
      DataW.TrodAll enc Tryd.prog W 0 (fun _ => true) true ts vs ds ps → (∀ x ∈ ps, x.block < W.heap.size) →
      DataW.TrodAll enc Tryd.prog W' 0 (fun b => decide (b < W.heap.size)) true ts vs ds ps
  | [], _, _, _, _, h, _ => by
    obtain ⟨rfl, rfl, rfl⟩ := trodAll_nil h
    exact trodAll_mk0
  | t :: ts, _, _, _, ht, h, hp => by
    obtain ⟨v, vs', d, ds', p, q, rfl, rfl, rfl, h1, h2⟩ := trodAll_cons h
    have h0 := ht t (by simp)
    exact trodAll_cons_mk (Below.trod laidOut h0.1 h0.2 h1 hb (fun x hx => hp x (by simp [hx])))
      (trodAll_below hb (fun t' ht' => ht t' (by simp [ht'])) h2 (fun x hx => hp x (by simp [hx])))

theorem law_post {H : Type} {enc : TypeId × Value → H} {s : ChangeSpec} {f : Func} {W W' : World} {args : Array Value} {ds gs : List (DataW H)} {before : List MemPlace}
    (hW : DataW.Whole enc Tryd.prog f.params.toList s.vars false W args.toList ds gs before) (hvars : s.vars = [])
    (hfn : s.fn H (ds ++ gs) = { results := [.lit (.bool true)], args := ds }) (hres : f.resultTypes = #[ 4 ])
    (hpar : ∀ t ∈ f.params.toList, Tryd.prog.readableRec t = true ∧ t < Tryd.prog.types.size)
    (hb : Below W.heap.size W W') : s.post enc Tryd.prog f false true false false W args (.bool true) W' := by
  have hlt : ∀ p ∈ before, p.block < W.heap.size := fun p hp => hW.lt p hp
  obtain ⟨p, q, hA, hV, hpq, _⟩ := id hW
  rw [hvars] at hV
  obtain ⟨rfl, rfl⟩ := trodVars_none hV
  refine ⟨ds, [], before, [], before, [], hW, ?_, ?_, ?_, World.keptBut_mono (fun p hp => ⟨hp, .inr (.inl hp)⟩) (hb.frame (· ∈ before)), fun h => by cases h⟩
  · rw [hfn, hres]
    exact trodAll_mk1 (shut_bool Tryd.underlying4 true)
  · rw [hfn]
    refine trodAll_below hb hpar ?_ hlt
    rw [hpq, List.append_nil]; exact hA
  · rw [hvars, hfn]
    rfl

theorem string_reach {s : ByteArray} (h : s.data.toList.length ≤ reachBytes) : s.size ≤ 140737488355328 := by
  have e : s.data.toList.length = s.size := by simp
  unfold reachBytes at h
  omega

section
variable {H : Type} {enc : TypeId × Value → H} {P : Program} {w : World} {base : Nat} {sp : Nat → Bool} {held : Bool}

theorem open_str2 {r : Reach} {b0 : Nat} {t e : TypeId} {v : Value} {d : DataW H} {ps : List MemPlace} (ht : P.underlying t = some (.array 2 e)) (he : P.underlying e = some .string) (hC : P.cellsOf t = 2) (hc1 : P.cellsOf e = 1)
    (hv : Value.okWide P w r b0 t v) (h : DataW.Trod enc P w base sp held t v d ps) : ∃ x y : ByteArray, v = .agg #[.string x, .string y] := by
  simp only [Value.okWide, ht] at hv
  obtain ⟨cs, rfl, h2, _⟩ := hv
  rw [hC] at h2
  obtain ⟨l⟩ := cs
  match l, h2 with
  | [c0, c1], _ =>
    obtain ⟨fuel, hf⟩ := h
    obtain ⟨xs, m, _, _, _, hxs, hi⟩ := DataW.trod_array ht hf
    have h0 := hi 0 (by omega)
    have h1 := hi 1 (by omega)
    rw [hc1] at h0 h1
    match xs, hxs with
    | [x0, x1], _ =>
      obtain ⟨a, ha, _⟩ := DataW.trod_string he (x := x0) (by simpa [Value.cells] using h0)
      obtain ⟨b, hb, _⟩ := DataW.trod_string he (x := x1) (by simpa [Value.cells] using h1)
      simp only [List.cons.injEq, and_true] at ha hb
      exact ⟨a, b, by rw [ha, hb]⟩

theorem open_intsAt {r : Reach} {b0 : Nat} {t e : TypeId} {v : Value} {d : DataW H} {ps : List MemPlace} (ht : P.underlying t = some (.slice e)) (he : P.underlying e = some (.int .i64)) (hc1 : P.cellsOf e = 1)
    (hv : Value.okWide P w r b0 t v) (h : DataW.Trod enc P w base sp held t v d ps) :
    ∃ zs : List Int, SliceAt w v (zs.map (Value.int .i64)) ∧ ∀ z ∈ zs, -9223372036854775808 ≤ z ∧ z ≤ 9223372036854775807 := by
  obtain ⟨a0, l0, c0, rfl⟩ := okWide_slice ht hv
  obtain ⟨fuel, hf⟩ := h
  rcases open_ints ht he hc1 hf with ⟨hcs, _⟩ | ⟨a, len, cap, zs, hcs, _, hl, hm, hz, _, hcell, hwf⟩
  · simp [Value.cells] at hcs
    obtain ⟨rfl, rfl, rfl⟩ := hcs
    exact ⟨[], ⟨none, 0, rfl, Nat.le_refl _, fun h => absurd h (by simp)⟩, fun z hz => by simp at hz⟩
  · simp [Value.cells] at hcs
    obtain ⟨rfl, rfl, rfl⟩ := hcs
    have hlen : l0 ≤ zs.length := by rw [hz]; split <;> omega
    refine ⟨zs.take l0, ⟨some a, c0, by simp [Nat.min_eq_left hlen], by simp; omega, fun h0 => ⟨a, rfl, ?_, fun j u hu => ?_⟩⟩, fun z hz => bounds_i64 (hwf z (List.mem_of_mem_take hz))⟩
    · have := block_of_cell (hcell 0 (by simp at h0; omega))
      rwa [block_add] at this
    · simp only [List.getElem?_map, Option.map_eq_some_iff] at hu
      obtain ⟨z, hz', rfl⟩ := hu
      have hj : j < zs.length := by
        have := (List.getElem?_eq_some_iff.1 hz').1
        simp at this; omega
      rw [hcell j hj]
      rw [List.getElem?_take] at hz'
      split at hz'
      · simp [List.getD, hz']
      · cases hz'

theorem open_strsAt {r : Reach} {b0 : Nat} {t e : TypeId} {v : Value} {d : DataW H} {ps : List MemPlace} (ht : P.underlying t = some (.slice e)) (he : P.underlying e = some .string) (hc1 : P.cellsOf e = 1)
    (hv : Value.okWide P w r b0 t v) (h : DataW.Trod enc P w base sp held t v d ps) :
    ∃ ss : List ByteArray, SliceAt w v (ss.map Value.string) ∧ ∀ s ∈ ss, s.size ≤ 9223372036854775807 := by
  obtain ⟨a0, l0, c0, rfl⟩ := okWide_slice ht hv
  obtain ⟨fuel, hf⟩ := h
  rcases open_strings ht he hc1 hf with ⟨hcs, _⟩ | ⟨a, len, cap, zs, hcs, _, hl, hm, hz, _, hcell, hwf⟩
  · simp [Value.cells] at hcs
    obtain ⟨rfl, rfl, rfl⟩ := hcs
    exact ⟨[], ⟨none, 0, rfl, Nat.le_refl _, fun h => absurd h (by simp)⟩, fun z hz => by simp at hz⟩
  · simp [Value.cells] at hcs
    obtain ⟨rfl, rfl, rfl⟩ := hcs
    have hlen : l0 ≤ zs.length := by rw [hz]; split <;> omega
    refine ⟨zs.take l0, ⟨some a, c0, by simp [Nat.min_eq_left hlen], by simp; omega, fun h0 => ⟨a, rfl, ?_, fun j u hu => ?_⟩⟩, fun z hz => hwf z (List.mem_of_mem_take hz)⟩
    · have := block_of_cell (hcell 0 (by simp at h0; omega))
      rwa [block_add] at this
    · simp only [List.getElem?_map, Option.map_eq_some_iff] at hu
      obtain ⟨z, hz', rfl⟩ := hu
      have hj : j < zs.length := by
        have := (List.getElem?_eq_some_iff.1 hz').1
        simp at this; omega
      rw [hcell j hj]
      rw [List.getElem?_take] at hz'
      split at hz'
      · simp [List.getD, hz']
      · cases hz'
end

/-- A WORLD FOR THE WITNESS: the settled one, the table holding what its initialiser lays. -/
def tabCells : Array Value := #[.int .u32 0, .int .u32 274646895, .int .u32 549293790, .int .u32 820201905, .int .u32 1098587580, .int .u32 1361435347, .int .u32 1640403810, .int .u32 1905808397, .int .u32 2197175160, .int .u32 2460548119, .int .u32 2722870694, .int .u32 2987750089, .int .u32 3280807620, .int .u32 3553878443, .int .u32 3811616794, .int .u32 4084100981]
noncomputable def laidWorld (os : Os) : World :=
  { World.holding Tryd.prog os ⟨#[], #[], []⟩ with heap := (World.holding Tryd.prog os ⟨#[], #[], []⟩).heap.modify 0 fun
      | .cells _ t frozen => .cells tabCells t frozen
      | o => o }

end Go.Proofs.YtejehdmllicfcaaDoor
