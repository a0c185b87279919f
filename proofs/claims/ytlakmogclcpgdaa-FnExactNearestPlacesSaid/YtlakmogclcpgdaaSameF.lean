/-
  CONTRACTS: how a law compares two floats.
-/
import Derived.Test.YtlakmogclcpgdaaSl
namespace Go.Proofs.Ytlakmogclcpgdaa
open Go.RowKit Go.Flt
set_option linter.unusedVariables false
set_option maxRecDepth 100000
set_option linter.unusedSimpArgs false

theorem c_sameFloat (x y : Nat) (w : World) (h : cl .f64 x = cl .f64 y) : Calls Try.prog 27 #[.float .f64 x, .float .f64 y] w fun e w' => e = .returned (.bool true) ∧ ∃ n, w' = w.drewN n := by
  have sx := feq_self (cl .f64 x)
  have sy := feq_self (cl .f64 y)
  rw [← h] at sy
  have HX : Hid (cl .f64 y = cl .f64 x) := h.symm
  generalize hd : cl .f64 x = d at *
  have HD := Lib.hid hd
  have ex : feq (cl .f64 x) (cl .f64 x) = !d.isNaN := by rw [hd]; exact sx
  have ey : feq (cl .f64 y) (cl .f64 y) = !d.isNaN := by rw [← h]; exact sx
  have exy : feq (cl .f64 x) (cl .f64 y) = !d.isNaN := by rw [hd, ← h]; exact sx
  clear sx sy h hd
  cases hn : d.isNaN
  · rw [hn] at ex ey exy
    cases hz : feq d (cl .f64 0)
    · have zx : feq (cl .f64 x) (cl .f64 0) = false := by rw [HD.out]; exact hz
      clear hz hn
      go_enter Try.func27, Try.ntmps27
      go_wp2_with (refine upon_fbin rfl _ _ _ _ ?_; intro z n hz hzw)
      go_ret
      exact ⟨rfl, by (first | exact ⟨_, rfl⟩ | exact ⟨0, rfl⟩ | exact ⟨_, World.drewN_drewN _ _ _⟩ | (simp only [World.drewN_drewN]; exact ⟨_, rfl⟩))⟩
    · have zx : feq (cl .f64 x) (cl .f64 0) = true := by rw [HD.out]; exact hz
      have zy : feq (cl .f64 y) (cl .f64 0) = true := by rw [HX.out]; exact hz
      clear hz hn
      go_enter Try.func27, Try.ntmps27
      go_wp2_with (refine upon_fbin rfl _ _ _ _ ?_; intro z n hz hzw)
      go_ret
      exact ⟨by rw [HX.out, HD.out, beq_self_eq_true]; rfl, by (first | exact ⟨_, rfl⟩ | exact ⟨0, rfl⟩ | exact ⟨_, World.drewN_drewN _ _ _⟩ | (simp only [World.drewN_drewN]; exact ⟨_, rfl⟩))⟩
  · rw [hn] at ex ey exy
    clear hn
    go_enter Try.func27, Try.ntmps27
    go_wp2_with fail
    go_ret
    exact ⟨rfl, by (first | exact ⟨_, rfl⟩ | exact ⟨0, rfl⟩ | exact ⟨_, World.drewN_drewN _ _ _⟩ | (simp only [World.drewN_drewN]; exact ⟨_, rfl⟩))⟩

end Go.Proofs.Ytlakmogclcpgdaa
