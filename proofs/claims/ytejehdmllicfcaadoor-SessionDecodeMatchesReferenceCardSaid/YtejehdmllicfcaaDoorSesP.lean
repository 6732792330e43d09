/- What a session computes, as plain Lean. -/
import Derived.Test.YtejehdmllicfcaaDoorCrcP
import Derived.Test.YtejehdmllicfcaaDoorStrP
namespace Go.Proofs.YtejehdmllicfcaaDoor

/-- the token behind raise -/
def raiseS (t n : Int) : Int := if t < n then n else t
/-- the token behind Wrote -/
def wroteS (t n : Int) : Int := if 0 ≤ n ∧ n ≤ 10000 then raiseS t n else t
/-- Allows -/
def allowsS (t a b : Int) : Bool := decide (0 ≤ a ∧ a ≤ b ∧ b ≤ 10000 ∧ t ≤ b)
/-- the token behind Accept -/
def acceptT (t a b : Int) : Int := if allowsS t a b then raiseS t a else t
/-- the position that Accept returns -/
def acceptV (t a b : Int) : Int := if allowsS t a b then raiseS t a else 0
/-- Encode -/
def encS (t : Int) : List UInt8 := putL t ++ putL (sumL (putL t))
/-- Decode: the token, and the error -/
def decS (l : List UInt8) : Int × Int :=
  if (getInt l 0).2.2 ≠ 0 then (0, 10)
  else if (getInt l (getInt l 0).2.1).2.2 ≠ 0 ∨ (getInt l (getInt l 0).2.1).2.1 < l.length then (0, 10)
  else if (getInt l (getInt l 0).2.1).1 ≠ (sumL (l.take (getInt l 0).2.1.toNat) : Nat) ∨ ¬ (0 ≤ (getInt l 0).1 ∧ (getInt l 0).1 ≤ 10000) then (0, 210)
  else ((getInt l 0).1, 0)

/-- a token is a position -/
def TokS (t : Int) : Prop := 0 ≤ t ∧ t ≤ 10000

theorem raiseS_tok {t n : Int} (h : TokS t) (hn : TokS n) : TokS (raiseS t n) := by unfold raiseS; split <;> assumption
theorem wroteS_tok {t n : Int} (h : TokS t) : TokS (wroteS t n) := by
  unfold wroteS; split
  · rename_i hn; exact raiseS_tok h hn
  · exact h
theorem acceptT_tok {t a b : Int} (h : TokS t) : TokS (acceptT t a b) := by
  unfold acceptT; split
  · rename_i hn
    simp only [allowsS, decide_eq_true_eq] at hn
    exact raiseS_tok h ⟨by omega, by omega⟩
  · exact h
end Go.Proofs.YtejehdmllicfcaaDoor
