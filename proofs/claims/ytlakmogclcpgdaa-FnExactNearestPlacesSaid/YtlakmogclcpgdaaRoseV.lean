/-
  CONTRACTS: when a rose is valid.
-/
import Derived.Test.YtlakmogclcpgdaaRose
import Derived.Test.YtlakmogclcpgdaaSl2
namespace Go.Proofs.Ytlakmogclcpgdaa
open Go.RowKit Go.Flt
set_option linter.unusedVariables false
set_option maxRecDepth 100000
set_option linter.unusedSimpArgs false

/-- A rose's numbers, by their data. -/
def vRoseD (D E : List Ieee.Datum) : Bool := decide (1 ≤ D.length) && decide (D.length ≤ 16) && decide (E.length = D.length) && D.all least && E.all least

def vRose (xs ys : List Nat) : Bool := vRoseD (xs.map (cl .f32)) (ys.map (cl .f32))

theorem vRose_eq (xs ys : List Nat) : vRose xs ys = (decide (1 ≤ xs.length) && decide (xs.length ≤ 16) && decide (ys.length = xs.length) && (xs.all fun x => least (cl .f32 x)) && (ys.all fun x => least (cl .f32 x))) := by
  unfold vRose vRoseD
  simp only [List.length_map, List.all_map, Function.comp_def]

theorem least_no {xs ys : List Nat} {k : Nat} (hk : k < xs.length) (hl : ys.length = xs.length) (h : (least (cl .f32 (xs.getD k 0)) && least (cl .f32 (ys.getD k 0))) = false) : vRose xs ys = false := by
  rw [vRose_eq]
  rw [Bool.and_eq_false_iff] at h
  rcases h with h | h
  · have : (xs.all fun x => least (cl .f32 x)) = false := by
      rw [List.all_eq_false]
      exact ⟨xs[k], List.getElem_mem hk, by simpa [List.getD, hk] using h⟩
    rw [this]
    simp
  · have hk' : k < ys.length := by omega
    have : (ys.all fun x => least (cl .f32 x)) = false := by
      rw [List.all_eq_false]
      exact ⟨ys[k], List.getElem_mem hk', by simpa [List.getD, hk'] using h⟩
    rw [this]
    simp

theorem least_all {xs ys : List Nat} (h1 : 1 ≤ xs.length) (h2 : xs.length ≤ 16) (hl : ys.length = xs.length) (h : ∀ k, k < xs.length → least (cl .f32 (xs.getD k 0)) = true ∧ least (cl .f32 (ys.getD k 0)) = true) : vRose xs ys = true := by
  rw [vRose_eq]
  simp only [h1, h2, hl, decide_true, Bool.true_and, Bool.and_eq_true, List.all_eq_true]
  constructor
  · intro x hx
    obtain ⟨k, hk, rfl⟩ := List.getElem_of_mem hx
    simpa [List.getD, hk] using (h k hk).1
  · intro x hx
    obtain ⟨k, hk, rfl⟩ := List.getElem_of_mem hx
    simpa [List.getD, hk] using (h k (by omega)).2

/-- No rose. -/
def ZRO : Value := .agg #[.slice none 0 0, .slice none 0 0]

theorem rose_nil (w : World) (lo hi : Nat) : RoseAt w lo hi ZRO [] [] := ⟨_, _, rfl, rowAt_nil _ _ _, rowAt_nil _ _ _, fun k h => by simp [Value.ownBlock] at h⟩

/-- What a rose is given back as: itself where it is valid, else none. -/
def RetG (v : Value) (ok : Bool) (w : World) (e : Ending) (w' : World) : Prop := e = .returned (.tuple #[if ok then v else ZRO, .bool ok]) ∧ Grew w w'

end Go.Proofs.Ytlakmogclcpgdaa
