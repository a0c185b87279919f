/-
  CONTRACTS: yaws.
-/
import Derived.Test.YticncnohoddbgaaWrap
import Derived.Test.YticncnohoddbgaaSl2
import Derived.Test.YticncnohoddbgaaNeg
import Derived.Test.YticncnohoddbgaaSameF
namespace Go.Proofs.Yticncnohoddbgaa
open Go.RowKit Go.Flt
set_option linter.unusedVariables false
set_option maxRecDepth 100000
set_option linter.unusedSimpArgs false

theorem c_WrapAngle (x : Nat) (w : World) : Calls Try.prog 62 #[.float .f32 x] w (RetFB (if fin (cl .f32 x) then wrp (cl .f32 x) else cl .f32 0) (fin (cl .f32 x)) (Drawn w)) := by
  cases h : fin (cl .f32 x)
  all_goals
    go_enter Try.func62, Try.ntmps62
    go_wp2_with (first | (go_at_call 52; refine (c_IsFinite _ _).mono ?_; rintro e w' ⟨rfl, nq, rfl⟩) | (go_at_call 84; refine (c_wrapAngle _ _ h).mono ?_; rintro e w' ⟨r, rfl, hr, hrf, nq, rfl⟩))
    go_ret2
    first | exact ⟨_, rfl, by simp, fits_zero, by (first | exact ⟨_, rfl⟩ | exact ⟨0, rfl⟩ | exact ⟨_, World.drewN_drewN _ _ _⟩ | (simp only [World.drewN_drewN]; exact ⟨_, rfl⟩))⟩ | exact ⟨_, rfl, by simp [*], by assumption, by (first | exact ⟨_, rfl⟩ | exact ⟨0, rfl⟩ | exact ⟨_, World.drewN_drewN _ _ _⟩ | (simp only [World.drewN_drewN]; exact ⟨_, rfl⟩))⟩

theorem c_absolute (x : Nat) (w : World) (hx : fits x) : Calls Try.prog 63 #[.float .f32 x] w (RetF (absD (cl .f32 x)) (Drawn w)) := by
  have HX := Lib.hid hx
  clear hx
  cases h : flt (cl .f32 x) (cl .f32 0)
  · go_enter Try.func63, Try.ntmps63
    go_wp2_with fail
    go_ret
    exact ⟨_, rfl, by simp [absD, h], HX.out, by (first | exact ⟨_, rfl⟩ | exact ⟨0, rfl⟩ | exact ⟨_, World.drewN_drewN _ _ _⟩ | (simp only [World.drewN_drewN]; exact ⟨_, rfl⟩))⟩
  · go_enter Try.func63, Try.ntmps63
    go_wp2_with fail
    go_ret
    exact ⟨_, rfl, by rw [cl_neg .f32 HX.out]; simp [absD, h], wf_neg .f32 HX.out, by (first | exact ⟨_, rfl⟩ | exact ⟨0, rfl⟩ | exact ⟨_, World.drewN_drewN _ _ _⟩ | (simp only [World.drewN_drewN]; exact ⟨_, rfl⟩))⟩

theorem fin_wrp (x : Nat) (h : fin (cl .f32 x) = true) : isNum (wrp (cl .f32 x)) = true := by
  rw [fin_eq] at h
  obtain ⟨_, _, h3⟩ := left_ok x h
  unfold wrp
  split
  · decide +kernel
  · exact h3

def yawTo (y d r n : Ieee.Datum) : Ieee.Datum :=
  if leF (absD d) n then y else if leF (absD d) r then fop .add .f32 y d else if flt (cl .f32 0) d then fop .add .f32 y r else fop .sub .f32 y r

/-- What a yaw becomes, by the place that it turns to. -/
def yawR (t : Ieee.Datum) : Ieee.Datum := if fin t then wrp t else cl .f32 0

theorem isNum_wrp (x y : Nat) (h : fin (fop .sub .f32 (cl .f32 x) (cl .f32 y)) = true) : isNum (wrp (fop .sub .f32 (cl .f32 x) (cl .f32 y))) = true := by
  cases hb : floatBits .sub .f32 x y with
  | none =>
    rw [fop_of_none hb] at h
    have : fin NaN = false := by decide +kernel
    rw [this] at h
    cases h
  | some r =>
    rw [← fop_of_bits hb] at h ⊢
    exact fin_wrp r h

set_option maxHeartbeats 8000000 in
theorem c_l05Yaw (y x q m : Nat) (w : World) (gy : fin (cl .f32 y) = true) (gm : fin (cl .f32 m) = true) (gq : fin (cl .f32 q) = true) (fy : fits y) (hf : fin (fop .sub .f32 (cl .f32 x) (cl .f32 y)) = true) :
    Calls Try.prog 59 #[.float .f32 y, .float .f32 x, .float .f32 q, .float .f32 m] w
      (RetFB (yawR (yawTo (cl .f32 y) (wrp (fop .sub .f32 (cl .f32 x) (cl .f32 y))) (cl .f32 q) (cl .f32 m))) (fin (yawTo (cl .f32 y) (wrp (fop .sub .f32 (cl .f32 x) (cl .f32 y))) (cl .f32 q) (cl .f32 m))) (Drawn w)) := by
  have hdn : isNum (wrp (fop .sub .f32 (cl .f32 x) (cl .f32 y))) = true := isNum_wrp x y hf
  have ha1 := leF_abs hdn (show isNum (cl .f32 m) = true by rw [← fin_eq]; exact gm)
  have ha2 := leF_abs hdn (show isNum (cl .f32 q) = true by rw [← fin_eq]; exact gq)
  cases c1 : leF (wrp (fop .sub .f32 (cl .f32 x) (cl .f32 y))) (cl .f32 m)
  · cases c3 : leF (wrp (fop .sub .f32 (cl .f32 x) (cl .f32 y))) (cl .f32 q)
    · cases c5 : flt (cl .f32 0) (wrp (fop .sub .f32 (cl .f32 x) (cl .f32 y)))
      · have HR := Lib.hid (show yawTo (cl .f32 y) (wrp (fop .sub .f32 (cl .f32 x) (cl .f32 y))) (cl .f32 q) (cl .f32 m) = (fop .sub .f32 (cl .f32 y) (cl .f32 q)) by simp [yawTo, ha1, ha2, c1, c3, c5])
        clear ha1 ha2 hdn
        cases ht : fin (fop .sub .f32 (cl .f32 y) (cl .f32 q))
        · go_enter Try.func59, Try.ntmps59
          go_wp2_with (first | (refine upon_fbin rfl _ _ _ _ ?_; intro z n hz hzw) | (go_at_call 48; refine (c_l01Finite _ _).mono ?_; rintro e w' ⟨rfl, nq, rfl⟩) | (go_at_call 65; refine (c_l02Wrap _ _ (by simp only [*])).mono ?_; rintro e w' ⟨r, rfl, hr, hrf, nq, rfl⟩; have hng := cl_neg .f32 hrf))
          go_ret2
          exact ⟨0, by rw [HR.out, ht]; rfl, by rw [HR.out]; simp [yawR, ht], fits_zero, by (first | exact ⟨_, rfl⟩ | exact ⟨0, rfl⟩ | exact ⟨_, World.drewN_drewN _ _ _⟩ | (simp only [World.drewN_drewN]; exact ⟨_, rfl⟩))⟩
        · go_enter Try.func59, Try.ntmps59
          go_wp2_with (first | (refine upon_fbin rfl _ _ _ _ ?_; intro z n hz hzw) | (go_at_call 48; refine (c_l01Finite _ _).mono ?_; rintro e w' ⟨rfl, nq, rfl⟩) | (go_at_call 65; refine (c_l02Wrap _ _ (by simp only [*])).mono ?_; rintro e w' ⟨r, rfl, hr, hrf, nq, rfl⟩; have hng := cl_neg .f32 hrf))
          go_ret2
          exact ⟨r, by rw [HR.out, ht]; rfl, by rw [HR.out, hr, hz]; simp [yawR, ht], hrf, by (first | exact ⟨_, rfl⟩ | exact ⟨0, rfl⟩ | exact ⟨_, World.drewN_drewN _ _ _⟩ | (simp only [World.drewN_drewN]; exact ⟨_, rfl⟩))⟩
      · have HR := Lib.hid (show yawTo (cl .f32 y) (wrp (fop .sub .f32 (cl .f32 x) (cl .f32 y))) (cl .f32 q) (cl .f32 m) = (fop .add .f32 (cl .f32 y) (cl .f32 q)) by simp [yawTo, ha1, ha2, c1, c3, c5])
        clear ha1 ha2 hdn
        cases ht : fin (fop .add .f32 (cl .f32 y) (cl .f32 q))
        · go_enter Try.func59, Try.ntmps59
          go_wp2_with (first | (refine upon_fbin rfl _ _ _ _ ?_; intro z n hz hzw) | (go_at_call 48; refine (c_l01Finite _ _).mono ?_; rintro e w' ⟨rfl, nq, rfl⟩) | (go_at_call 65; refine (c_l02Wrap _ _ (by simp only [*])).mono ?_; rintro e w' ⟨r, rfl, hr, hrf, nq, rfl⟩; have hng := cl_neg .f32 hrf))
          go_ret2
          exact ⟨0, by rw [HR.out, ht]; rfl, by rw [HR.out]; simp [yawR, ht], fits_zero, by (first | exact ⟨_, rfl⟩ | exact ⟨0, rfl⟩ | exact ⟨_, World.drewN_drewN _ _ _⟩ | (simp only [World.drewN_drewN]; exact ⟨_, rfl⟩))⟩
        · go_enter Try.func59, Try.ntmps59
          go_wp2_with (first | (refine upon_fbin rfl _ _ _ _ ?_; intro z n hz hzw) | (go_at_call 48; refine (c_l01Finite _ _).mono ?_; rintro e w' ⟨rfl, nq, rfl⟩) | (go_at_call 65; refine (c_l02Wrap _ _ (by simp only [*])).mono ?_; rintro e w' ⟨r, rfl, hr, hrf, nq, rfl⟩; have hng := cl_neg .f32 hrf))
          go_ret2
          exact ⟨r, by rw [HR.out, ht]; rfl, by rw [HR.out, hr, hz]; simp [yawR, ht], hrf, by (first | exact ⟨_, rfl⟩ | exact ⟨0, rfl⟩ | exact ⟨_, World.drewN_drewN _ _ _⟩ | (simp only [World.drewN_drewN]; exact ⟨_, rfl⟩))⟩
    · cases c4 : leF (opp (wrp (fop .sub .f32 (cl .f32 x) (cl .f32 y)))) (cl .f32 q)
      · cases c5 : flt (cl .f32 0) (wrp (fop .sub .f32 (cl .f32 x) (cl .f32 y)))
        · have HR := Lib.hid (show yawTo (cl .f32 y) (wrp (fop .sub .f32 (cl .f32 x) (cl .f32 y))) (cl .f32 q) (cl .f32 m) = (fop .sub .f32 (cl .f32 y) (cl .f32 q)) by simp [yawTo, ha1, ha2, c1, c3, c4, c5])
          clear ha1 ha2 hdn
          cases ht : fin (fop .sub .f32 (cl .f32 y) (cl .f32 q))
          · go_enter Try.func59, Try.ntmps59
            go_wp2_with (first | (refine upon_fbin rfl _ _ _ _ ?_; intro z n hz hzw) | (go_at_call 48; refine (c_l01Finite _ _).mono ?_; rintro e w' ⟨rfl, nq, rfl⟩) | (go_at_call 65; refine (c_l02Wrap _ _ (by simp only [*])).mono ?_; rintro e w' ⟨r, rfl, hr, hrf, nq, rfl⟩; have hng := cl_neg .f32 hrf))
            go_ret2
            exact ⟨0, by rw [HR.out, ht]; rfl, by rw [HR.out]; simp [yawR, ht], fits_zero, by (first | exact ⟨_, rfl⟩ | exact ⟨0, rfl⟩ | exact ⟨_, World.drewN_drewN _ _ _⟩ | (simp only [World.drewN_drewN]; exact ⟨_, rfl⟩))⟩
          · go_enter Try.func59, Try.ntmps59
            go_wp2_with (first | (refine upon_fbin rfl _ _ _ _ ?_; intro z n hz hzw) | (go_at_call 48; refine (c_l01Finite _ _).mono ?_; rintro e w' ⟨rfl, nq, rfl⟩) | (go_at_call 65; refine (c_l02Wrap _ _ (by simp only [*])).mono ?_; rintro e w' ⟨r, rfl, hr, hrf, nq, rfl⟩; have hng := cl_neg .f32 hrf))
            go_ret2
            exact ⟨r, by rw [HR.out, ht]; rfl, by rw [HR.out, hr, hz]; simp [yawR, ht], hrf, by (first | exact ⟨_, rfl⟩ | exact ⟨0, rfl⟩ | exact ⟨_, World.drewN_drewN _ _ _⟩ | (simp only [World.drewN_drewN]; exact ⟨_, rfl⟩))⟩
        · have HR := Lib.hid (show yawTo (cl .f32 y) (wrp (fop .sub .f32 (cl .f32 x) (cl .f32 y))) (cl .f32 q) (cl .f32 m) = (fop .add .f32 (cl .f32 y) (cl .f32 q)) by simp [yawTo, ha1, ha2, c1, c3, c4, c5])
          clear ha1 ha2 hdn
          cases ht : fin (fop .add .f32 (cl .f32 y) (cl .f32 q))
          · go_enter Try.func59, Try.ntmps59
            go_wp2_with (first | (refine upon_fbin rfl _ _ _ _ ?_; intro z n hz hzw) | (go_at_call 48; refine (c_l01Finite _ _).mono ?_; rintro e w' ⟨rfl, nq, rfl⟩) | (go_at_call 65; refine (c_l02Wrap _ _ (by simp only [*])).mono ?_; rintro e w' ⟨r, rfl, hr, hrf, nq, rfl⟩; have hng := cl_neg .f32 hrf))
            go_ret2
            exact ⟨0, by rw [HR.out, ht]; rfl, by rw [HR.out]; simp [yawR, ht], fits_zero, by (first | exact ⟨_, rfl⟩ | exact ⟨0, rfl⟩ | exact ⟨_, World.drewN_drewN _ _ _⟩ | (simp only [World.drewN_drewN]; exact ⟨_, rfl⟩))⟩
          · go_enter Try.func59, Try.ntmps59
            go_wp2_with (first | (refine upon_fbin rfl _ _ _ _ ?_; intro z n hz hzw) | (go_at_call 48; refine (c_l01Finite _ _).mono ?_; rintro e w' ⟨rfl, nq, rfl⟩) | (go_at_call 65; refine (c_l02Wrap _ _ (by simp only [*])).mono ?_; rintro e w' ⟨r, rfl, hr, hrf, nq, rfl⟩; have hng := cl_neg .f32 hrf))
            go_ret2
            exact ⟨r, by rw [HR.out, ht]; rfl, by rw [HR.out, hr, hz]; simp [yawR, ht], hrf, by (first | exact ⟨_, rfl⟩ | exact ⟨0, rfl⟩ | exact ⟨_, World.drewN_drewN _ _ _⟩ | (simp only [World.drewN_drewN]; exact ⟨_, rfl⟩))⟩
      · have HR := Lib.hid (show yawTo (cl .f32 y) (wrp (fop .sub .f32 (cl .f32 x) (cl .f32 y))) (cl .f32 q) (cl .f32 m) = (fop .add .f32 (cl .f32 y) (wrp (fop .sub .f32 (cl .f32 x) (cl .f32 y)))) by simp [yawTo, ha1, ha2, c1, c3, c4])
        clear ha1 ha2 hdn
        cases ht : fin (fop .add .f32 (cl .f32 y) (wrp (fop .sub .f32 (cl .f32 x) (cl .f32 y))))
        · go_enter Try.func59, Try.ntmps59
          go_wp2_with (first | (refine upon_fbin rfl _ _ _ _ ?_; intro z n hz hzw) | (go_at_call 48; refine (c_l01Finite _ _).mono ?_; rintro e w' ⟨rfl, nq, rfl⟩) | (go_at_call 65; refine (c_l02Wrap _ _ (by simp only [*])).mono ?_; rintro e w' ⟨r, rfl, hr, hrf, nq, rfl⟩; have hng := cl_neg .f32 hrf))
          go_ret2
          exact ⟨0, by rw [HR.out, ht]; rfl, by rw [HR.out]; simp [yawR, ht], fits_zero, by (first | exact ⟨_, rfl⟩ | exact ⟨0, rfl⟩ | exact ⟨_, World.drewN_drewN _ _ _⟩ | (simp only [World.drewN_drewN]; exact ⟨_, rfl⟩))⟩
        · go_enter Try.func59, Try.ntmps59
          go_wp2_with (first | (refine upon_fbin rfl _ _ _ _ ?_; intro z n hz hzw) | (go_at_call 48; refine (c_l01Finite _ _).mono ?_; rintro e w' ⟨rfl, nq, rfl⟩) | (go_at_call 65; refine (c_l02Wrap _ _ (by simp only [*])).mono ?_; rintro e w' ⟨r, rfl, hr, hrf, nq, rfl⟩; have hng := cl_neg .f32 hrf))
          go_ret2
          exact ⟨r, by rw [HR.out, ht]; rfl, by rw [HR.out]; simp [yawR, *], hrf, by (first | exact ⟨_, rfl⟩ | exact ⟨0, rfl⟩ | exact ⟨_, World.drewN_drewN _ _ _⟩ | (simp only [World.drewN_drewN]; exact ⟨_, rfl⟩))⟩
  · cases c2 : leF (opp (wrp (fop .sub .f32 (cl .f32 x) (cl .f32 y)))) (cl .f32 m)
    · cases c3 : leF (wrp (fop .sub .f32 (cl .f32 x) (cl .f32 y))) (cl .f32 q)
      · cases c5 : flt (cl .f32 0) (wrp (fop .sub .f32 (cl .f32 x) (cl .f32 y)))
        · have HR := Lib.hid (show yawTo (cl .f32 y) (wrp (fop .sub .f32 (cl .f32 x) (cl .f32 y))) (cl .f32 q) (cl .f32 m) = (fop .sub .f32 (cl .f32 y) (cl .f32 q)) by simp [yawTo, ha1, ha2, c1, c2, c3, c5])
          clear ha1 ha2 hdn
          cases ht : fin (fop .sub .f32 (cl .f32 y) (cl .f32 q))
          · go_enter Try.func59, Try.ntmps59
            go_wp2_with (first | (refine upon_fbin rfl _ _ _ _ ?_; intro z n hz hzw) | (go_at_call 48; refine (c_l01Finite _ _).mono ?_; rintro e w' ⟨rfl, nq, rfl⟩) | (go_at_call 65; refine (c_l02Wrap _ _ (by simp only [*])).mono ?_; rintro e w' ⟨r, rfl, hr, hrf, nq, rfl⟩; have hng := cl_neg .f32 hrf))
            go_ret2
            exact ⟨0, by rw [HR.out, ht]; rfl, by rw [HR.out]; simp [yawR, ht], fits_zero, by (first | exact ⟨_, rfl⟩ | exact ⟨0, rfl⟩ | exact ⟨_, World.drewN_drewN _ _ _⟩ | (simp only [World.drewN_drewN]; exact ⟨_, rfl⟩))⟩
          · go_enter Try.func59, Try.ntmps59
            go_wp2_with (first | (refine upon_fbin rfl _ _ _ _ ?_; intro z n hz hzw) | (go_at_call 48; refine (c_l01Finite _ _).mono ?_; rintro e w' ⟨rfl, nq, rfl⟩) | (go_at_call 65; refine (c_l02Wrap _ _ (by simp only [*])).mono ?_; rintro e w' ⟨r, rfl, hr, hrf, nq, rfl⟩; have hng := cl_neg .f32 hrf))
            go_ret2
            exact ⟨r, by rw [HR.out, ht]; rfl, by rw [HR.out, hr, hz]; simp [yawR, ht], hrf, by (first | exact ⟨_, rfl⟩ | exact ⟨0, rfl⟩ | exact ⟨_, World.drewN_drewN _ _ _⟩ | (simp only [World.drewN_drewN]; exact ⟨_, rfl⟩))⟩
        · have HR := Lib.hid (show yawTo (cl .f32 y) (wrp (fop .sub .f32 (cl .f32 x) (cl .f32 y))) (cl .f32 q) (cl .f32 m) = (fop .add .f32 (cl .f32 y) (cl .f32 q)) by simp [yawTo, ha1, ha2, c1, c2, c3, c5])
          clear ha1 ha2 hdn
          cases ht : fin (fop .add .f32 (cl .f32 y) (cl .f32 q))
          · go_enter Try.func59, Try.ntmps59
            go_wp2_with (first | (refine upon_fbin rfl _ _ _ _ ?_; intro z n hz hzw) | (go_at_call 48; refine (c_l01Finite _ _).mono ?_; rintro e w' ⟨rfl, nq, rfl⟩) | (go_at_call 65; refine (c_l02Wrap _ _ (by simp only [*])).mono ?_; rintro e w' ⟨r, rfl, hr, hrf, nq, rfl⟩; have hng := cl_neg .f32 hrf))
            go_ret2
            exact ⟨0, by rw [HR.out, ht]; rfl, by rw [HR.out]; simp [yawR, ht], fits_zero, by (first | exact ⟨_, rfl⟩ | exact ⟨0, rfl⟩ | exact ⟨_, World.drewN_drewN _ _ _⟩ | (simp only [World.drewN_drewN]; exact ⟨_, rfl⟩))⟩
          · go_enter Try.func59, Try.ntmps59
            go_wp2_with (first | (refine upon_fbin rfl _ _ _ _ ?_; intro z n hz hzw) | (go_at_call 48; refine (c_l01Finite _ _).mono ?_; rintro e w' ⟨rfl, nq, rfl⟩) | (go_at_call 65; refine (c_l02Wrap _ _ (by simp only [*])).mono ?_; rintro e w' ⟨r, rfl, hr, hrf, nq, rfl⟩; have hng := cl_neg .f32 hrf))
            go_ret2
            exact ⟨r, by rw [HR.out, ht]; rfl, by rw [HR.out, hr, hz]; simp [yawR, ht], hrf, by (first | exact ⟨_, rfl⟩ | exact ⟨0, rfl⟩ | exact ⟨_, World.drewN_drewN _ _ _⟩ | (simp only [World.drewN_drewN]; exact ⟨_, rfl⟩))⟩
      · cases c4 : leF (opp (wrp (fop .sub .f32 (cl .f32 x) (cl .f32 y)))) (cl .f32 q)
        · cases c5 : flt (cl .f32 0) (wrp (fop .sub .f32 (cl .f32 x) (cl .f32 y)))
          · have HR := Lib.hid (show yawTo (cl .f32 y) (wrp (fop .sub .f32 (cl .f32 x) (cl .f32 y))) (cl .f32 q) (cl .f32 m) = (fop .sub .f32 (cl .f32 y) (cl .f32 q)) by simp [yawTo, ha1, ha2, c1, c2, c3, c4, c5])
            clear ha1 ha2 hdn
            cases ht : fin (fop .sub .f32 (cl .f32 y) (cl .f32 q))
            · go_enter Try.func59, Try.ntmps59
              go_wp2_with (first | (refine upon_fbin rfl _ _ _ _ ?_; intro z n hz hzw) | (go_at_call 48; refine (c_l01Finite _ _).mono ?_; rintro e w' ⟨rfl, nq, rfl⟩) | (go_at_call 65; refine (c_l02Wrap _ _ (by simp only [*])).mono ?_; rintro e w' ⟨r, rfl, hr, hrf, nq, rfl⟩; have hng := cl_neg .f32 hrf))
              go_ret2
              exact ⟨0, by rw [HR.out, ht]; rfl, by rw [HR.out]; simp [yawR, ht], fits_zero, by (first | exact ⟨_, rfl⟩ | exact ⟨0, rfl⟩ | exact ⟨_, World.drewN_drewN _ _ _⟩ | (simp only [World.drewN_drewN]; exact ⟨_, rfl⟩))⟩
            · go_enter Try.func59, Try.ntmps59
              go_wp2_with (first | (refine upon_fbin rfl _ _ _ _ ?_; intro z n hz hzw) | (go_at_call 48; refine (c_l01Finite _ _).mono ?_; rintro e w' ⟨rfl, nq, rfl⟩) | (go_at_call 65; refine (c_l02Wrap _ _ (by simp only [*])).mono ?_; rintro e w' ⟨r, rfl, hr, hrf, nq, rfl⟩; have hng := cl_neg .f32 hrf))
              go_ret2
              exact ⟨r, by rw [HR.out, ht]; rfl, by rw [HR.out, hr, hz]; simp [yawR, ht], hrf, by (first | exact ⟨_, rfl⟩ | exact ⟨0, rfl⟩ | exact ⟨_, World.drewN_drewN _ _ _⟩ | (simp only [World.drewN_drewN]; exact ⟨_, rfl⟩))⟩
          · have HR := Lib.hid (show yawTo (cl .f32 y) (wrp (fop .sub .f32 (cl .f32 x) (cl .f32 y))) (cl .f32 q) (cl .f32 m) = (fop .add .f32 (cl .f32 y) (cl .f32 q)) by simp [yawTo, ha1, ha2, c1, c2, c3, c4, c5])
            clear ha1 ha2 hdn
            cases ht : fin (fop .add .f32 (cl .f32 y) (cl .f32 q))
            · go_enter Try.func59, Try.ntmps59
              go_wp2_with (first | (refine upon_fbin rfl _ _ _ _ ?_; intro z n hz hzw) | (go_at_call 48; refine (c_l01Finite _ _).mono ?_; rintro e w' ⟨rfl, nq, rfl⟩) | (go_at_call 65; refine (c_l02Wrap _ _ (by simp only [*])).mono ?_; rintro e w' ⟨r, rfl, hr, hrf, nq, rfl⟩; have hng := cl_neg .f32 hrf))
              go_ret2
              exact ⟨0, by rw [HR.out, ht]; rfl, by rw [HR.out]; simp [yawR, ht], fits_zero, by (first | exact ⟨_, rfl⟩ | exact ⟨0, rfl⟩ | exact ⟨_, World.drewN_drewN _ _ _⟩ | (simp only [World.drewN_drewN]; exact ⟨_, rfl⟩))⟩
            · go_enter Try.func59, Try.ntmps59
              go_wp2_with (first | (refine upon_fbin rfl _ _ _ _ ?_; intro z n hz hzw) | (go_at_call 48; refine (c_l01Finite _ _).mono ?_; rintro e w' ⟨rfl, nq, rfl⟩) | (go_at_call 65; refine (c_l02Wrap _ _ (by simp only [*])).mono ?_; rintro e w' ⟨r, rfl, hr, hrf, nq, rfl⟩; have hng := cl_neg .f32 hrf))
              go_ret2
              exact ⟨r, by rw [HR.out, ht]; rfl, by rw [HR.out, hr, hz]; simp [yawR, ht], hrf, by (first | exact ⟨_, rfl⟩ | exact ⟨0, rfl⟩ | exact ⟨_, World.drewN_drewN _ _ _⟩ | (simp only [World.drewN_drewN]; exact ⟨_, rfl⟩))⟩
        · have HR := Lib.hid (show yawTo (cl .f32 y) (wrp (fop .sub .f32 (cl .f32 x) (cl .f32 y))) (cl .f32 q) (cl .f32 m) = (fop .add .f32 (cl .f32 y) (wrp (fop .sub .f32 (cl .f32 x) (cl .f32 y)))) by simp [yawTo, ha1, ha2, c1, c2, c3, c4])
          clear ha1 ha2 hdn
          cases ht : fin (fop .add .f32 (cl .f32 y) (wrp (fop .sub .f32 (cl .f32 x) (cl .f32 y))))
          · go_enter Try.func59, Try.ntmps59
            go_wp2_with (first | (refine upon_fbin rfl _ _ _ _ ?_; intro z n hz hzw) | (go_at_call 48; refine (c_l01Finite _ _).mono ?_; rintro e w' ⟨rfl, nq, rfl⟩) | (go_at_call 65; refine (c_l02Wrap _ _ (by simp only [*])).mono ?_; rintro e w' ⟨r, rfl, hr, hrf, nq, rfl⟩; have hng := cl_neg .f32 hrf))
            go_ret2
            exact ⟨0, by rw [HR.out, ht]; rfl, by rw [HR.out]; simp [yawR, ht], fits_zero, by (first | exact ⟨_, rfl⟩ | exact ⟨0, rfl⟩ | exact ⟨_, World.drewN_drewN _ _ _⟩ | (simp only [World.drewN_drewN]; exact ⟨_, rfl⟩))⟩
          · go_enter Try.func59, Try.ntmps59
            go_wp2_with (first | (refine upon_fbin rfl _ _ _ _ ?_; intro z n hz hzw) | (go_at_call 48; refine (c_l01Finite _ _).mono ?_; rintro e w' ⟨rfl, nq, rfl⟩) | (go_at_call 65; refine (c_l02Wrap _ _ (by simp only [*])).mono ?_; rintro e w' ⟨r, rfl, hr, hrf, nq, rfl⟩; have hng := cl_neg .f32 hrf))
            go_ret2
            exact ⟨r, by rw [HR.out, ht]; rfl, by rw [HR.out]; simp [yawR, *], hrf, by (first | exact ⟨_, rfl⟩ | exact ⟨0, rfl⟩ | exact ⟨_, World.drewN_drewN _ _ _⟩ | (simp only [World.drewN_drewN]; exact ⟨_, rfl⟩))⟩
    · have HR := Lib.hid (show yawTo (cl .f32 y) (wrp (fop .sub .f32 (cl .f32 x) (cl .f32 y))) (cl .f32 q) (cl .f32 m) = (cl .f32 y) by simp [yawTo, ha1, ha2, c1, c2])
      clear ha1 ha2 hdn
      have ht := gy
      go_enter Try.func59, Try.ntmps59
      go_wp2_with (first | (refine upon_fbin rfl _ _ _ _ ?_; intro z n hz hzw) | (go_at_call 48; refine (c_l01Finite _ _).mono ?_; rintro e w' ⟨rfl, nq, rfl⟩) | (go_at_call 65; refine (c_l02Wrap _ _ (by simp only [*])).mono ?_; rintro e w' ⟨r, rfl, hr, hrf, nq, rfl⟩; have hng := cl_neg .f32 hrf))
      go_ret2
      exact ⟨r, by rw [HR.out, ht]; rfl, by rw [HR.out, hr]; simp [yawR, ht], hrf, by (first | exact ⟨_, rfl⟩ | exact ⟨0, rfl⟩ | exact ⟨_, World.drewN_drewN _ _ _⟩ | (simp only [World.drewN_drewN]; exact ⟨_, rfl⟩))⟩

end Go.Proofs.Yticncnohoddbgaa
