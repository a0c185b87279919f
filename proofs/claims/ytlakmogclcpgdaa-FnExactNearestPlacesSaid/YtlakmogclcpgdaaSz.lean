/-
  CONTRACTS: how a law measures its arguments.
-/
import Derived.Test.YtlakmogclcpgdaaOwn2
namespace Go.Proofs.Ytlakmogclcpgdaa
open Go.RowKit Go.Flt
set_option linter.unusedVariables false
set_option maxRecDepth 100000
set_option linter.unusedSimpArgs false

/-- What is left of a law's measure. -/
def sz (left : Int) (n : Nat) : Int := if left - n < 0 then -1 else left - n

theorem c_szFloat32S (A : Option Addr) (n cap : Nat) (left : Int) (w : World) (hn : n ≤ maxLen) (h0 : 0 ≤ left) (h1 : left ≤ 1048576) :
    Calls Try.prog 44 #[.slice A n cap, .int .i64 left] w fun e w' => e = .returned (.int .i64 (sz left n)) ∧ ∃ n, w' = w.drewN n := by
  unfold maxLen at hn
  have i1 : IntKind.i64.wrap (left - (n : Int)) = left - (n : Int) := by rw [IntKind.wrap_i64]; omega
  cases hd : decide (left - (n : Int) < 0)
  all_goals
    have H := Lib.hid hd
    go_enter Try.func44, Try.ntmps44
    go_wp2_with fail
    go_ret
    exact ⟨by have := H.out; simp at this; unfold sz; (first | rw [if_pos this] | rw [if_neg (by omega)]); rfl, 0, rfl⟩


theorem sz_neg (left : Int) (n : Nat) : decide (sz left n < 0) = decide (left - n < 0) := by
  unfold sz
  split
  · simp; omega
  · rfl

theorem sz_ok {left : Int} {n : Nat} (h : (n : Int) ≤ left) : sz left n = left - n := by unfold sz; rw [if_neg (by omega)]

theorem sz_no {left : Int} {n : Nat} (h : ¬ (n : Int) ≤ left) : sz left n = -1 := by unfold sz; rw [if_pos (by omega)]

end Go.Proofs.Ytlakmogclcpgdaa
