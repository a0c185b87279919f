/-
  CONTRACTS: lists of winds, their means.
-/
import Derived.Test.YtkippcjifikegaaSum
import Derived.Test.YtkippcjifikegaaLedR
import Derived.Test.YtkippcjifikegaaSl2
namespace Go.Proofs.Ytkippcjifikegaa
open Go.RowKit Go.Flt
set_option linter.unusedVariables false
set_option maxRecDepth 100000
set_option linter.unusedSimpArgs false

def allLeast (xs : List Nat) : Bool := xs.all fun x => least (cl .f32 x)

def winds (xs : List Nat) : Bool := decide (1 ≤ xs.length) && decide (xs.length ≤ 256) && allLeast xs

theorem c_areWinds (A : Option Addr) (n cap K : Nat) (xs : List Nat) (w : World) (h : Fl w K A n xs) (hn : n ≤ maxLen) :
    Calls Try.prog 43 #[.slice A n cap] w fun e w' => e = .returned (.bool (winds xs)) ∧ ∃ n, w' = w.drewN n := by
  obtain rfl := h.1
  have HS := Lib.hid h
  have e1 : decide ((1 : Int) ≤ (xs.length : Int)) = decide (1 ≤ xs.length) := by rw [Bool.eq_iff_iff]; simp; omega
  have e2 : decide ((xs.length : Int) ≤ 256) = decide (xs.length ≤ 256) := by rw [Bool.eq_iff_iff]; simp; omega
  have HE : Hid (winds xs = (decide (1 ≤ xs.length) && decide (xs.length ≤ 256) && allLeast xs)) := rfl
  generalize decide (1 ≤ xs.length) = b1 at *
  generalize decide (xs.length ≤ 256) = b2 at *
  clear h
  cases b1 <;> cases b2
  all_goals
    go_enter Try.func43, Try.ntmps43
    go_wp2_with (go_at_call 33; refine (c_impl.areLeast _ _ _ K xs _ HS.out hn).mono ?_; rintro e w' ⟨rfl, nq, rfl⟩)
    go_ret
    exact ⟨by rw [HE.out]; rfl, by (first | exact ⟨_, rfl⟩ | exact ⟨0, rfl⟩ | exact ⟨_, World.drewN_drewN _ _ _⟩ | (simp only [World.drewN_drewN]; exact ⟨_, rfl⟩))⟩

theorem allLeast_no {xs : List Nat} {k : Nat} (hk : k < xs.length) (h : least (cl .f32 xs[k]) = false) : allLeast xs = false := by
  unfold allLeast
  rw [List.all_eq_false]
  exact ⟨_, List.getElem_mem hk, by simp [h]⟩

theorem allLeast_all {xs : List Nat} (h : ∀ (j : Nat) (x : Nat), xs[j]? = some x → least (cl .f32 x) = true) : allLeast xs = true := by
  unfold allLeast
  rw [List.all_eq_true]
  intro x hx
  obtain ⟨j, hj, rfl⟩ := List.getElem_of_mem hx
  exact h j _ (List.getElem?_eq_getElem hj)

/-- The mean of numbers. -/
def meanD (xs : List Nat) : Ieee.Datum := fop .quo .f32 (sumTo xs xs.length) (cl .f32 (floatOfInt .f32 xs.length))

theorem c_meanOf (A : Option Addr) (n cap K : Nat) (xs : List Nat) (w : World) (h : Fl w K A n xs) (hn : n ≤ maxLen) :
    Calls Try.prog 44 #[.slice A n cap] w (RetF (meanD xs) (Drawn w)) := by
  obtain rfl := h.1
  have HS := Lib.hid h
  have HE : Hid (meanD xs = fop .quo .f32 (sumTo xs xs.length) (cl .f32 (floatOfInt .f32 xs.length))) := rfl
  clear h
  go_enter Try.func44, Try.ntmps44
  go_wp2_with (first | (refine upon_fbin rfl _ _ _ _ ?_; intro z n hz hzw) | (go_at_call 69; refine (c_sum _ _ _ K xs _ HS.out hn).mono ?_; rintro e w' ⟨r, rfl, hr, hrf, nq, rfl⟩))
  go_ret
  exact ⟨_, rfl, by rw [HE.out]; simp only [*], by assumption, by (first | exact ⟨_, rfl⟩ | exact ⟨0, rfl⟩ | exact ⟨_, World.drewN_drewN _ _ _⟩ | (simp only [World.drewN_drewN]; exact ⟨_, rfl⟩))⟩

end Go.Proofs.Ytkippcjifikegaa
