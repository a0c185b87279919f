/-
  CONTRACTS: how a law measures its arguments.
-/
import Derived.Test.YtkippcjifikegaaOwn2
namespace Go.Proofs.Ytkippcjifikegaa
open Go.RowKit Go.Flt
set_option linter.unusedVariables false
set_option maxRecDepth 100000
set_option linter.unusedSimpArgs false

/-- What is left of a law's measure. -/
def sz (left : Int) (n : Nat) : Int := if left - n < 0 then -1 else left - n


theorem sz_neg (left : Int) (n : Nat) : decide (sz left n < 0) = decide (left - n < 0) := by
  unfold sz
  split
  · simp; omega
  · rfl

theorem sz_ok {left : Int} {n : Nat} (h : (n : Int) ≤ left) : sz left n = left - n := by unfold sz; rw [if_neg (by omega)]

theorem sz_no {left : Int} {n : Nat} (h : ¬ (n : Int) ≤ left) : sz left n = -1 := by unfold sz; rw [if_pos (by omega)]

end Go.Proofs.Ytkippcjifikegaa
