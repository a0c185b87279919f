/-
  CONTRACTS: how far winds spread.
-/
import Derived.Test.YtlakmogclcpgdaaSlMg
import Derived.Test.YtlakmogclcpgdaaWindsMg
import Derived.Test.YtlakmogclcpgdaaPlantMg
namespace Go.Flt
open Go Ieee
set_option linter.unusedVariables false

theorem rnd_inf (s : Bool) : rnd .f32 (some (.infinity s)) = .infinity s := by cases s <;> decide +kernel

theorem no_inf (s : Bool) : isNum (rnd .f32 (some (.infinity s))) = false := by rw [rnd_inf]; rfl

theorem no_none : isNum (rnd .f32 none) = false := rfl

theorem num_add {x y : Datum} (h : isNum (fop .add .f32 x y) = true) : isNum x = true ∧ isNum y = true := by
  cases x <;> cases y <;> simp only [fop, Datum.sum] at h <;> (try split at h) <;> first | (rw [no_inf] at h; cases h; done) | (rw [no_none] at h; cases h; done) | exact ⟨rfl, rfl⟩

theorem num_sub {x y : Datum} (h : isNum (fop .sub .f32 x y) = true) : isNum x = true ∧ isNum y = true := by
  have h' : isNum (fop .add .f32 x y.opposite) = true := h
  obtain ⟨h1, h2⟩ := num_add h'
  exact ⟨h1, by cases y <;> first | rfl | (cases h2; done)⟩

theorem num_mul {x y : Datum} (h : isNum (fop .mul .f32 x y) = true) : isNum x = true ∧ isNum y = true := by
  cases x <;> cases y <;> simp only [fop, Datum.product] at h <;> (try split at h) <;> first | (rw [no_inf] at h; cases h; done) | (rw [no_none] at h; cases h; done) | exact ⟨rfl, rfl⟩

theorem num_quo {x y : Datum} (h : isNum (fop .quo .f32 x y) = true) : isNum x = true := by
  cases x <;> cases y <;> simp only [fop, Datum.quotient] at h <;> (try split at h) <;> first | (rw [no_inf] at h; cases h; done) | (rw [no_none] at h; cases h; done) | rfl

theorem num_root {x : Datum} (h : isNum (nar (sqD (wid x))) = true) : isNum x = true := by
  cases x with
  | nan s t => cases h
  | number s m e => rfl
  | infinity s => cases s <;> revert h <;> decide +kernel

end Go.Flt

namespace Go.Proofs.Ytlakmogclcpgdaa
open Go.RowKit Go.Flt
set_option linter.unusedVariables false
set_option maxRecDepth 100000
set_option linter.unusedSimpArgs false

def spTo (xs : List Nat) (m : Ieee.Datum) : Nat → Ieee.Datum
  | 0 => cl .f32 0
  | k + 1 => fop .add .f32 (spTo xs m k) (fop .mul .f32 (fop .sub .f32 (cl .f32 (xs.getD k 0)) m) (fop .sub .f32 (cl .f32 (xs.getD k 0)) m))

def spread (xs : List Nat) : Ieee.Datum := rootD (fop .quo .f32 (spTo xs (meanD xs) xs.length) (cl .f32 (floatOfInt .f32 xs.length)))

theorem spread_num {xs : List Nat} (h0 : 0 < xs.length) (h : fin (spread xs) = true) : fin (meanD xs) = true := by
  rw [fin_eq] at h ⊢
  have h1 := num_quo (num_root h)
  obtain ⟨n, hn⟩ : ∃ n, xs.length = n + 1 := ⟨xs.length - 1, by omega⟩
  rw [hn] at h1
  exact (num_sub (num_mul (num_add h1).2).1).2

theorem sp_step {xs : List Nat} {m : Ieee.Datum} {k z d e r : Nat} (hz : cl .f32 z = spTo xs m k) (hd : cl .f32 d = fop .sub .f32 (cl .f32 (xs.getD k 0)) m) (he : cl .f32 e = fop .mul .f32 (cl .f32 d) (cl .f32 d)) (hr : cl .f32 r = fop .add .f32 (cl .f32 z) (cl .f32 e)) : cl .f32 r = spTo xs m (k + 1) := by
  rw [hr, hz, he, hd]
  rfl

theorem c_l02Number (x : Nat) (w : World) : Calls Try.prog 57 #[.float .f32 x] w fun e w' => e = .returned (.tuple #[.float .f32 (chkW x), .bool (fin (cl .f32 x))]) ∧ ∃ n, w' = w.drewN n := by
  cases h : fin (cl .f32 x)
  all_goals
    go_enter Try.func57, Try.ntmps57
    go_wp2_with (go_at_call 54; refine (c_l01Finite _ _).mono ?_; rintro e w' ⟨rfl, nq, rfl⟩)
    go_ret2
    exact ⟨by simp [chkW, h], _, rfl⟩

end Go.Proofs.Ytlakmogclcpgdaa

