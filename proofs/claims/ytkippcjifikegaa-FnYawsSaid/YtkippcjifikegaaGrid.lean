/-
  CONTRACTS: what the grid takes.
-/
import Derived.Test.YtkippcjifikegaaDrive
import Derived.Test.YtkippcjifikegaaSameF
namespace Go.Proofs.Ytkippcjifikegaa
open Go.RowKit Go.Flt
set_option linter.unusedVariables false
set_option maxRecDepth 100000
set_option linter.unusedSimpArgs false

def grid (p : Pl) (s : Int) (v : Nat) : Ieee.Datum :=
  if s = 2 then if fle (cl .f32 v) (cl .f32 p.m) then fop .quo .f32 (fop .mul .f32 (cl .f32 p.r) (cl .f32 v)) (fop .mul .f32 (cl .f32 p.m) (cl .f32 p.m)) else fop .quo .f32 (cl .f32 p.r) (cl .f32 v)
  else cl .f32 0

theorem c_checked (x : Nat) (w : World) : Calls Try.prog 40 #[.float .f32 x] w fun e w' => e = .returned (.tuple #[.float .f32 (chkW x), .bool (fin (cl .f32 x))]) ∧ ∃ n, w' = w.drewN n := by
  cases h : fin (cl .f32 x)
  all_goals
    go_enter Try.func40, Try.ntmps40
    go_wp2_with (go_at_call 38; refine (c_IsFinite _ _).mono ?_; rintro e w' ⟨rfl, nq, rfl⟩)
    go_ret2
    exact ⟨by simp [chkW, h], _, rfl⟩


end Go.Proofs.Ytkippcjifikegaa
