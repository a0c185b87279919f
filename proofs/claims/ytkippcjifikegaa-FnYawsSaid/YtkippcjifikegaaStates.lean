/-
  CONTRACTS: lists of states.
-/
import Derived.BigQuiet
import Derived.Deep.QuietTactic
import Derived.Test.YtkippcjifikegaaInts
namespace Go.Proofs.Ytkippcjifikegaa
open Go.RowKit Go.Flt
set_option linter.unusedVariables false
set_option maxRecDepth 100000
set_option linter.unusedSimpArgs false

def allIn (xs : List Int) : Bool := xs.all fun n => within n 0 4

def states (xs : List Int) : Bool := allIn xs && decide (xs.length ≤ 128)

theorem allIn_all {xs : List Int} (h : ∀ (j : Nat) (x : Int), xs[j]? = some x → within x 0 4 = true) : allIn xs = true := by
  unfold allIn
  rw [List.all_eq_true]
  intro x hx
  obtain ⟨j, hj, rfl⟩ := List.getElem_of_mem hx
  exact h j _ (List.getElem?_eq_getElem hj)

theorem allIn_no {xs : List Int} {k : Nat} (hk : k < xs.length) (h : within xs[k] 0 4 = false) : allIn xs = false := by
  unfold allIn
  rw [List.all_eq_false]
  exact ⟨_, List.getElem_mem hk, by simp [h]⟩


/-- How often a list changes below place k. -/
def chgTo (xs : List Int) : Nat → Nat
  | 0 => 0
  | k + 1 => chgTo xs k + if 1 ≤ k ∧ xs.getD k 0 ≠ xs.getD (k - 1) 0 then 1 else 0

theorem chgTo_le (xs : List Int) (k : Nat) : chgTo xs k ≤ k := by
  induction k with
  | zero => simp [chgTo]
  | succ k ih => unfold chgTo; split <;> omega

def chgs (xs : List Int) : Int := if states xs then chgTo xs (max 1 xs.length) else 0


theorem eq_not {α : Type} {xs ys : List α} {k : Nat} {x y : α} (hx : xs[k]? = some x) (hy : ys[k]? = some y) (h : x ≠ y) : xs ≠ ys := by
  rintro rfl
  rw [hx] at hy
  injection hy with hy
  exact h hy

theorem eq_all {α : Type} {xs ys : List α} (hl : xs.length = ys.length) (h : ∀ (j : Nat) (x y : α), j < xs.length → xs[j]? = some x → ys[j]? = some y → x = y) : xs = ys := by
  apply List.ext_getElem hl
  intro i h1 h2
  exact h i _ _ h1 (List.getElem?_eq_getElem h1) (List.getElem?_eq_getElem h2)

theorem two_succ {α : Type} {xs ys : List α} {k : Nat} {R : α → α → Prop} (hall : ∀ (j : Nat) (x y : α), j < k → xs[j]? = some x → ys[j]? = some y → R x y) (h1 : k < xs.length) (h2 : k < ys.length) (h : R xs[k] ys[k]) :
    ∀ (j : Nat) (x y : α), j < k + 1 → xs[j]? = some x → ys[j]? = some y → R x y := fun j x y hj hx hy => by
  rcases Nat.lt_or_ge j k with h' | h'
  · exact hall j x y h' hx hy
  · obtain rfl : j = k := by omega
    rw [List.getElem?_eq_getElem h1] at hx
    rw [List.getElem?_eq_getElem h2] at hy
    injection hx with hx
    injection hy with hy
    rw [← hx, ← hy]
    exact h


end Go.Proofs.Ytkippcjifikegaa
