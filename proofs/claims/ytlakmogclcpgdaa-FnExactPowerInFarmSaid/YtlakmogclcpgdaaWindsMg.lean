/-
  CONTRACTS: lists of winds, their means.
-/
import Derived.Test.YtlakmogclcpgdaaSlMg
import Derived.Test.YtlakmogclcpgdaaSumMg
import Derived.Test.YtlakmogclcpgdaaLedRMg
namespace Go.Proofs.Ytlakmogclcpgdaa
open Go.RowKit Go.Flt
set_option linter.unusedVariables false
set_option maxRecDepth 100000
set_option linter.unusedSimpArgs false

def allLeast (xs : List Nat) : Bool := xs.all fun x => least (cl .f32 x)

def winds (xs : List Nat) : Bool := decide (1 ≤ xs.length) && decide (xs.length ≤ 256) && allLeast xs

theorem allLeast_no {xs : List Nat} {k : Nat} (hk : k < xs.length) (h : least (cl .f32 xs[k]) = false) : allLeast xs = false := by
  unfold allLeast
  rw [List.all_eq_false]
  exact ⟨_, List.getElem_mem hk, by simp [h]⟩

theorem allLeast_all {xs : List Nat} (h : ∀ (j : Nat) (x : Nat), xs[j]? = some x → least (cl .f32 x) = true) : allLeast xs = true := by
  unfold allLeast
  rw [List.all_eq_true]
  intro x hx
  obtain ⟨j, hj, rfl⟩ := List.getElem_of_mem hx
  exact h j _ (List.getElem?_eq_getElem hj)

/-- The mean of numbers. -/
def meanD (xs : List Nat) : Ieee.Datum := fop .quo .f32 (sumTo xs xs.length) (cl .f32 (floatOfInt .f32 xs.length))

end Go.Proofs.Ytlakmogclcpgdaa

