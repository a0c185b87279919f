/-
  CONTRACTS: lists of floats that are the same.
-/
import Derived.Test.YtlakmogclcpgdaaOwn2
namespace Go.Proofs.Ytlakmogclcpgdaa
open Go.RowKit Go.Flt
set_option linter.unusedVariables false
set_option maxRecDepth 100000
set_option linter.unusedSimpArgs false

def sameFs (xs ys : List Nat) : Bool := decide (xs.map (cl .f32) = ys.map (cl .f32))

theorem cl2_succ {xs ys : List Nat} {k : Nat} (hall : ∀ (j : Nat) (x y : Nat), j < k → xs[j]? = some x → ys[j]? = some y → cl .f32 x = cl .f32 y) (h1 : k < xs.length) (h2 : k < ys.length) (h : cl .f32 xs[k] = cl .f32 ys[k]) :
    ∀ (j : Nat) (x y : Nat), j < k + 1 → xs[j]? = some x → ys[j]? = some y → cl .f32 x = cl .f32 y := fun j x y hj hx hy => by
  rcases Nat.lt_or_ge j k with h' | h'
  · exact hall j x y h' hx hy
  · obtain rfl : j = k := by omega
    rw [List.getElem?_eq_getElem h1] at hx
    rw [List.getElem?_eq_getElem h2] at hy
    injection hx with hx
    injection hy with hy
    rw [← hx, ← hy]
    exact h

theorem sameFs_all {xs ys : List Nat} (hl : xs.length = ys.length) (h : ∀ (j : Nat) (x y : Nat), j < xs.length → xs[j]? = some x → ys[j]? = some y → cl .f32 x = cl .f32 y) : sameFs xs ys = true := by
  unfold sameFs
  rw [decide_eq_true_eq]
  apply List.ext_getElem (by simpa using hl)
  intro i h1 h2
  simp only [List.length_map] at h1 h2
  simp only [List.getElem_map]
  exact h i _ _ h1 (List.getElem?_eq_getElem h1) (List.getElem?_eq_getElem h2)

theorem sameFs_not {xs ys : List Nat} {k : Nat} (h1 : k < xs.length) (h2 : k < ys.length) (h : same .f32 xs[k] ys[k] = false) : sameFs xs ys = false := by
  unfold sameFs same at *
  rw [decide_eq_false_iff_not] at h ⊢
  exact fun e => h (map_at e h1 h2)

theorem sameFs_len {xs ys : List Nat} (h : xs.length ≠ ys.length) : sameFs xs ys = false := by
  unfold sameFs
  rw [decide_eq_false_iff_not]
  intro e
  exact h (by simpa using congrArg List.length e)

/-- A list that came in. -/
def LIn (w : World) (K : Nat) (A : Option Addr) (n : Nat) (xs : List Nat) : Prop := Fl w K A n xs ∧ n ≤ 1048576 ∧ ∀ x ∈ xs, fits x

theorem LIn.grew {w w' : World} {K n : Nat} {A : Option Addr} {xs : List Nat} (h : LIn w K A n xs) (hK : K ≤ w.heap.size) (hg : Grew w w') : LIn w' K A n xs :=
  ⟨Slc.grew (g := Value.float .f32) h.1 hK hg, h.2⟩

end Go.Proofs.Ytlakmogclcpgdaa
