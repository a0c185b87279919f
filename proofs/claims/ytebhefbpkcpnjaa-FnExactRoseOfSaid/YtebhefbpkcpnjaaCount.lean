/-
  CONTRACTS: states, counted.
-/
import Derived.Test.YtebhefbpkcpnjaaLedR
namespace Go.Proofs.Ytebhefbpkcpnjaa
open Go.RowKit Go.Flt
set_option linter.unusedVariables false
set_option maxRecDepth 100000
set_option linter.unusedSimpArgs false

/-- One more in place n. -/
def addAt (h : List Int) (n : Nat) : List Int := h.set n (wrap64 (h.getD n 0 + 1))

def cntTo (xs : List Int) : Nat → List Int
  | 0 => [0, 0, 0, 0, 0]
  | k + 1 => addAt (cntTo xs k) (xs.getD k 0).toNat

theorem cntTo_len (xs : List Int) (k : Nat) : (cntTo xs k).length = 5 := by
  induction k with
  | zero => rfl
  | succ k ih => simp [cntTo, addAt, ih]

def cnts (xs : List Int) : List Int := if states xs then cntTo xs xs.length else []

theorem states_at {xs : List Int} (h : states xs = true) {k : Nat} (hk : k < xs.length) : 0 ≤ xs.getD k 0 ∧ xs.getD k 0 ≤ 4 := by
  unfold states allIn at h
  simp only [Bool.and_eq_true, List.all_eq_true] at h
  have := h.1 (xs.getD k 0) (by simp [hk])
  simpa [within] using this


end Go.Proofs.Ytebhefbpkcpnjaa
