/-
  CONTRACTS: yaws.
-/
import Derived.Test.YtkippcjifikegaaWrap
import Derived.Test.YtkippcjifikegaaSl2
import Derived.Test.YtkippcjifikegaaNeg
import Derived.Test.YtkippcjifikegaaSameF
namespace Go.Proofs.Ytkippcjifikegaa
open Go.RowKit Go.Flt
set_option linter.unusedVariables false
set_option maxRecDepth 100000
set_option linter.unusedSimpArgs false

theorem c_WrapAngle (x : Nat) (w : World) : Calls Try.prog 34 #[.float .f32 x] w (RetFB (if fin (cl .f32 x) then wrp (cl .f32 x) else cl .f32 0) (fin (cl .f32 x)) (Drawn w)) := by
  cases h : fin (cl .f32 x)
  all_goals
    go_enter Try.func34, Try.ntmps34
    go_wp2_with (first | (go_at_call 38; refine (c_IsFinite _ _).mono ?_; rintro e w' ⟨rfl, nq, rfl⟩) | (go_at_call 65; refine (c_wrapAngle _ _ h).mono ?_; rintro e w' ⟨r, rfl, hr, hrf, nq, rfl⟩))
    go_ret2
    first | exact ⟨_, rfl, by simp, fits_zero, by (first | exact ⟨_, rfl⟩ | exact ⟨0, rfl⟩ | exact ⟨_, World.drewN_drewN _ _ _⟩ | (simp only [World.drewN_drewN]; exact ⟨_, rfl⟩))⟩ | exact ⟨_, rfl, by simp [*], by assumption, by (first | exact ⟨_, rfl⟩ | exact ⟨0, rfl⟩ | exact ⟨_, World.drewN_drewN _ _ _⟩ | (simp only [World.drewN_drewN]; exact ⟨_, rfl⟩))⟩

theorem c_absolute (x : Nat) (w : World) (hx : fits x) : Calls Try.prog 35 #[.float .f32 x] w (RetF (absD (cl .f32 x)) (Drawn w)) := by
  have HX := Lib.hid hx
  clear hx
  cases h : flt (cl .f32 x) (cl .f32 0)
  · go_enter Try.func35, Try.ntmps35
    go_wp2_with fail
    go_ret
    exact ⟨_, rfl, by simp [absD, h], HX.out, by (first | exact ⟨_, rfl⟩ | exact ⟨0, rfl⟩ | exact ⟨_, World.drewN_drewN _ _ _⟩ | (simp only [World.drewN_drewN]; exact ⟨_, rfl⟩))⟩
  · go_enter Try.func35, Try.ntmps35
    go_wp2_with fail
    go_ret
    exact ⟨_, rfl, by rw [cl_neg .f32 HX.out]; simp [absD, h], wf_neg .f32 HX.out, by (first | exact ⟨_, rfl⟩ | exact ⟨0, rfl⟩ | exact ⟨_, World.drewN_drewN _ _ _⟩ | (simp only [World.drewN_drewN]; exact ⟨_, rfl⟩))⟩

theorem fin_wrp (x : Nat) (h : fin (cl .f32 x) = true) : isNum (wrp (cl .f32 x)) = true := by
  rw [fin_eq] at h
  obtain ⟨_, _, h3⟩ := left_ok x h
  unfold wrp
  split
  · decide +kernel
  · exact h3

def yawTo (y d r n : Ieee.Datum) : Ieee.Datum :=
  if leF (absD d) n then y else if leF (absD d) r then fop .add .f32 y d else if flt (cl .f32 0) d then fop .add .f32 y r else fop .sub .f32 y r

/-- What a yaw becomes, by the place that it turns to. -/
def yawR (t : Ieee.Datum) : Ieee.Datum := if fin t then wrp t else cl .f32 0

theorem isNum_wrp (x y : Nat) (h : fin (fop .sub .f32 (cl .f32 x) (cl .f32 y)) = true) : isNum (wrp (fop .sub .f32 (cl .f32 x) (cl .f32 y))) = true := by
  cases hb : floatBits .sub .f32 x y with
  | none =>
    rw [fop_of_none hb] at h
    have : fin NaN = false := by decide +kernel
    rw [this] at h
    cases h
  | some r =>
    rw [← fop_of_bits hb] at h ⊢
    exact fin_wrp r h

end Go.Proofs.Ytkippcjifikegaa
