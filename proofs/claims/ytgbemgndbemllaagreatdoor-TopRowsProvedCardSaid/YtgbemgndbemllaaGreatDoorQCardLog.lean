/- What all cards of the log's seats share: the table is laid, a law's end, a world for the witness. -/
import Derived.Test.YtgbemgndbemllaaGreatDoorCards
import Derived.Test.YtgbemgndbemllaaGreatDoorTie
import Derived.Test.YtgbemgndbemllaaGreatDoorQShaE
import Derived.Test.YtgbemgndbemllaaGreatDoorGa
import Derived.Test.YtgbemgndbemllaaGreatDoorQLogA
import Derived.ProofKit
import Derived.OpenShut
import Derived.SizedLaws
import Derived.Deep.DeepHandedRow
import Derived.Lib.LaidTab
namespace Go.Proofs.YtgbemgndbemllaaGreatDoor
open Go Go.ChangeShapes Go.WideShapes Go.ChangeAt Go.RowKit

theorem own : ownKnob Tryz.prog.godebug = none := by kernel_rfl
theorem laidOut : laidOutB Tryz.prog = true := by kernel_rfl
theorem gTab : Tryz.prog.globalNamed "cachetier/digest.round" = some 0 := by kernel_rfl
theorem gTabType : (Tryz.prog.globals[ 0 ]?).map (·.type) = some 189 := by kernel_rfl
theorem cellsT : Tryz.prog.cellsOf 189 = 64 := by kernel_rfl
theorem cellsE : Tryz.prog.cellsOf 160 = 1 := by kernel_rfl

def k256Z : List Int := k256.map fun (n : Nat) => (n : Int)
theorem laid_eq {H : Type} : (Rows.laid_cachetier_digest_round : DataW H) = Lib.tabData .u32 k256Z := by kernel_rfl

theorem roundOk_of_laid {W : World} (h : laidMetH Tryz.prog [("cachetier/digest.round", Rows.laid_cachetier_digest_round)] W) : RoundOk W := by
  have hT : Lib.TabIs Tryz.prog W "cachetier/digest.round" .u32 k256Z :=
    Lib.tabIs_of_head (rest := []) gTab gTabType Tryz.underlying189 Tryz.underlying160 cellsE cellsT h
  unfold Lib.TabIs World.var? at hT
  rw [gTab] at hT
  simp only [Option.bind_some] at hT
  split at hT
  · rename_i cs t fr hb
    refine ⟨t, fr, ?_⟩
    rw [hb]
    injection hT with hT
    rw [hT]
    congr 2
  · cases hT

/-- The arguments read behind the call as they did, if what lay before has not turned. -/
theorem trodAll_below {H : Type} {enc : TypeId × Value → H} {W W' : World} (hb : Below W.heap.size W W') :
    ∀ {ts : List TypeId} {vs : List Value} {ds : List (DataW H)} {ps : List MemPlace}, (∀ t ∈ ts, Tryz.prog.readableRec t = true ∧ t < Tryz.prog.types.size) →
      DataW.TrodAll enc Tryz.prog W 0 (fun _ => true) true ts vs ds ps → (∀ x ∈ ps, x.block < W.heap.size) →
      DataW.TrodAll enc Tryz.prog W' 0 (fun b => decide (b < W.heap.size)) true ts vs ds ps
  | [], _, _, _, _, h, _ => by
    obtain ⟨rfl, rfl, rfl⟩ := trodAll_nil h
    exact trodAll_mk0
  | t :: ts, _, _, _, ht, h, hp => by
    obtain ⟨v, vs', d, ds', p, q, rfl, rfl, rfl, h1, h2⟩ := trodAll_cons h
    have h0 := ht t (by simp)
    exact trodAll_cons_mk (Below.trod laidOut h0.1 h0.2 h1 hb (fun x hx => hp x (by simp [hx])))
      (trodAll_below hb (fun t' ht' => ht t' (by simp [ht'])) h2 (fun x hx => hp x (by simp [hx])))

theorem law_post {H : Type} {enc : TypeId × Value → H} {s : ChangeSpec} {f : Func} {W W' : World} {args : Array Value} {ds gs : List (DataW H)} {before : List MemPlace}
    (hW : DataW.Whole enc Tryz.prog f.params.toList s.vars false W args.toList ds gs before) (hvars : s.vars = [])
    (hfn : s.fn H (ds ++ gs) = { results := [.lit (.bool true)], args := ds }) (hres : f.resultTypes = #[ 4 ])
    (hpar : ∀ t ∈ f.params.toList, Tryz.prog.readableRec t = true ∧ t < Tryz.prog.types.size)
    (hb : Below W.heap.size W W') : s.post enc Tryz.prog f false true false false W args (.bool true) W' := by
  have hlt : ∀ p ∈ before, p.block < W.heap.size := fun p hp => hW.lt p hp
  obtain ⟨p, q, hA, hV, hpq, _⟩ := id hW
  rw [hvars] at hV
  obtain ⟨rfl, rfl⟩ := trodVars_none hV
  refine ⟨ds, [], before, [], before, [], hW, ?_, ?_, ?_, World.keptBut_mono (fun p hp => ⟨hp, .inr (.inl hp)⟩) (hb.frame (· ∈ before)), fun h => by cases h⟩
  · rw [hfn, hres]
    exact trodAll_mk1 (shut_bool Tryz.underlying4 true)
  · rw [hfn]
    refine trodAll_below hb hpar ?_ hlt
    rw [hpq, List.append_nil]; exact hA
  · rw [hvars, hfn]
    rfl

theorem string_reach {s : ByteArray} (h : s.data.toList.length ≤ reachBytes) : s.size ≤ 140737488355328 := by
  have e : s.data.toList.length = s.size := by simp
  unfold reachBytes at h
  omega

section
variable {H : Type} {enc : TypeId × Value → H} {P : Program} {w : World} {base : Nat} {sp : Nat → Bool} {held : Bool}

/-- a field of one cell: its place and type -/
def FieldIs (P : Program) (fs : Array Field) (j : Nat) (u : Option TypeDesc) : Prop := ∃ f, fs[j]? = some f ∧ f.offset = j ∧ P.cellsOf f.type = 1 ∧ P.underlying f.type = u

theorem one_of_three {cs : List Value} (h : cs.length = 3) (j : Nat) (hj : j < 3) : ∃ c, cs[j]? = some c ∧ (cs.drop j).take 1 = [c] := by
  refine ⟨cs[j]'(by omega), List.getElem?_eq_getElem (by omega), ?_⟩
  rw [List.drop_eq_getElem_cons (by omega)]
  rfl

/-- a head that comes in -/
theorem open_head {r : Reach} {b0 : Nat} {t : TypeId} {fs : Array Field} {v : Value} {d : DataW H} {ps : List MemPlace} (ht : P.underlying t = some (.struct fs)) (hC : P.cellsOf t = 3)
    (f0 : FieldIs P fs 0 (some (.int .i64))) (f1 : FieldIs P fs 1 (some .string)) (f2 : FieldIs P fs 2 (some .string))
    (hv : Value.okWide P w r b0 t v) (h : DataW.Trod enc P w base sp held t v d ps) : ∃ x : Hd, v = hdV x := by
  simp only [Value.okWide, ht] at hv
  obtain ⟨cs, rfl, h2, _⟩ := hv
  rw [hC] at h2
  obtain ⟨l⟩ := cs
  have hlen : l.length = 3 := by simpa using h2
  obtain ⟨fuel, hf⟩ := h
  obtain ⟨xs, n', _, _, _, hxl, hg⟩ := DataW.trod_struct ht hf
  obtain ⟨g0, a1, a2, a3, a4⟩ := f0
  obtain ⟨g1, b1, b2, b3, b4⟩ := f1
  obtain ⟨g2, c1, c2, c3, c4⟩ := f2
  have k0 := hg 0 g0 a1
  have k1 := hg 1 g1 b1
  have k2 := hg 2 g2 c1
  rw [a2, a3] at k0
  rw [b2, b3] at k1
  rw [c2, c3] at k2
  simp only [Value.cells] at k0 k1 k2
  obtain ⟨u0, p0, q0⟩ := one_of_three hlen 0 (by omega)
  obtain ⟨u1, p1, q1⟩ := one_of_three hlen 1 (by omega)
  obtain ⟨u2, p2, q2⟩ := one_of_three hlen 2 (by omega)
  rw [q0] at k0
  rw [q1] at k1
  rw [q2] at k2
  have hsz : ∀ (j : Nat) (f : Field), fs[j]? = some f → j < xs.length := fun j f hj => by rw [hxl]; exact (Array.getElem?_eq_some_iff.1 hj).1
  rw [List.getElem?_eq_getElem (hsz 0 g0 a1)] at k0
  rw [List.getElem?_eq_getElem (hsz 1 g1 b1)] at k1
  rw [List.getElem?_eq_getElem (hsz 2 g2 c1)] at k2
  obtain ⟨na, e0, _⟩ := DataW.trod_int a4 k0
  obtain ⟨x1, e1, _⟩ := DataW.trod_string b4 k1
  obtain ⟨x2, e2, _⟩ := DataW.trod_string c4 k2
  simp only [List.cons.injEq, and_true] at e0 e1 e2
  match l, hlen with
  | [y0, y1, y2], _ =>
    simp only [List.getElem?_cons_zero, List.getElem?_cons_succ, Option.some.injEq] at p0 p1 p2
    refine ⟨⟨na, x1.data.toList, x2.data.toList⟩, ?_⟩
    unfold hdV
    rw [p0, p1, p2, e0, e1, e2, show str x1.data.toList = x1 from mk_data x1, show str x2.data.toList = x2 from mk_data x2]
end

/-- the table, as its initialiser lays it -/
def tabCells : Array Value := #[.int .u32 1116352408, .int .u32 1899447441, .int .u32 3049323471, .int .u32 3921009573, .int .u32 961987163, .int .u32 1508970993, .int .u32 2453635748, .int .u32 2870763221, .int .u32 3624381080, .int .u32 310598401, .int .u32 607225278, .int .u32 1426881987, .int .u32 1925078388, .int .u32 2162078206, .int .u32 2614888103, .int .u32 3248222580, .int .u32 3835390401, .int .u32 4022224774, .int .u32 264347078, .int .u32 604807628, .int .u32 770255983, .int .u32 1249150122, .int .u32 1555081692, .int .u32 1996064986, .int .u32 2554220882, .int .u32 2821834349, .int .u32 2952996808, .int .u32 3210313671, .int .u32 3336571891, .int .u32 3584528711, .int .u32 113926993, .int .u32 338241895, .int .u32 666307205, .int .u32 773529912, .int .u32 1294757372, .int .u32 1396182291, .int .u32 1695183700, .int .u32 1986661051, .int .u32 2177026350, .int .u32 2456956037, .int .u32 2730485921, .int .u32 2820302411, .int .u32 3259730800, .int .u32 3345764771, .int .u32 3516065817, .int .u32 3600352804, .int .u32 4094571909, .int .u32 275423344, .int .u32 430227734, .int .u32 506948616, .int .u32 659060556, .int .u32 883997877, .int .u32 958139571, .int .u32 1322822218, .int .u32 1537002063, .int .u32 1747873779, .int .u32 1955562222, .int .u32 2024104815, .int .u32 2227730452, .int .u32 2361852424, .int .u32 2428436474, .int .u32 2756734187, .int .u32 3204031479, .int .u32 3329325298]
noncomputable def laidWorld (os : Os) : World :=
  { World.holding Tryz.prog os ⟨#[], #[], []⟩ with heap := (World.holding Tryz.prog os ⟨#[], #[], []⟩).heap.modify 0 fun
      | .cells _ t frozen => .cells tabCells t frozen
      | o => o }

end Go.Proofs.YtgbemgndbemllaaGreatDoor
