/-
  CONTRACTS: absolute values of 64 bits; numbers of at least 2 to the power of 52.
-/
import Derived.Test.YtlakmogclcpgdaaSlMg
import Derived.Test.YtlakmogclcpgdaaGustMg
import Derived.Test.YtlakmogclcpgdaaSinePMg
namespace Go.Proofs.Ytlakmogclcpgdaa
open Go.RowKit Go.Flt
set_option linter.unusedVariables false
set_option maxRecDepth 100000
set_option linter.unusedSimpArgs false

@[go_sem] theorem ext_Float64frombits (z : Int) (w : World) : (callFunc 98 #[.int .u64 z]).run Try.prog w = .ok (.value (.float .f64 z.toNat)) w := by
  rw [run_callFunc_extern Try.func98 (by kernel_rfl) (by kernel_rfl) (by kernel_rfl) (show Extern.find Try.f98 = some Extern.MathFloatBits.float64frombits by kernel_rfl)]
  rfl

theorem c_Abs (z : Nat) (w : World) (h : (Lit.float .f64 z).wf = true) : Calls Try.prog 99 #[.float .f64 z] w fun e w' => ∃ r, e = .returned (.float .f64 r) ∧ cl .f64 r = (if z < 9223372036854775808 then cl .f64 z else opp (cl .f64 z)) ∧ (Lit.float .f64 r).wf = true ∧ ∃ n, w' = w.drewN n := by
  obtain ⟨h1, h2⟩ := abs_word h
  have hb := u64_top z (by simpa [Lit.wf] using h)
  have H1 := Lib.hid h1
  have H2 := Lib.hid h2
  rw [← h1]
  clear h h1 h2
  generalize z % 9223372036854775808 = Y at *
  have HB := Lib.hid (show bits .andNot .u64 (z : Int) 9223372036854775808 = (Y : Int) from hb)
  clear hb
  go_enter Try.func99, Try.ntmps99
  go_wp2_with fail
  go_ret
  exact ⟨_, rfl, by rw [HB.out]; simp, by rw [HB.out]; simpa using H2.out, 0, rfl⟩

theorem c_isHuge (z : Nat) (w : World) (h : (Lit.float .f64 z).wf = true) (hn : isNum (cl .f64 z) = true) : Calls Try.prog 95 #[.float .f64 z] w fun e w' => e = .returned (.bool (hug (cl .f64 z))) ∧ ∃ n, w' = w.drewN n := by
  have HA := Lib.hid (fun w => c_Abs z w h)
  have HH := Lib.hid (hug_abs h hn)
  clear h hn
  generalize (if z < 9223372036854775808 then cl .f64 z else opp (cl .f64 z)) = D at *
  go_enter Try.func95, Try.ntmps95
  go_wp2_with (go_at_call 99; refine (HA.out _).mono ?_; rintro e w' ⟨r, rfl, hr, hrf, nq, rfl⟩)
  go_ret
  refine ⟨?_, by (first | exact ⟨_, rfl⟩ | exact ⟨0, rfl⟩ | exact ⟨_, World.drewN_drewN _ _ _⟩ | (simp only [World.drewN_drewN]; exact ⟨_, rfl⟩))⟩
  rw [← HH.out]
  simp [*]

theorem c_NaN (w : World) : Calls Try.prog 94 #[] w fun e w' => ∃ r, e = .returned (.float .f64 r) ∧ cl .f64 r = NaN ∧ (Lit.float .f64 r).wf = true ∧ ∃ n, w' = w.drewN n := by
  go_enter Try.func94, Try.ntmps94
  go_wp2_with fail
  go_ret
  exact ⟨_, rfl, by decide +kernel, by decide +kernel, 0, rfl⟩

/-- The sine of some turns, in 32 bits. -/
def turnD (x : Ieee.Datum) : Ieee.Datum := if fin x then (if hug (wid x) then cl .f32 0 else nar (sinD (wid x))) else NaN

theorem sin_nar {w : Nat} (hn : isNum (cl .f64 w) = true) (h : hug (cl .f64 w) = false) : isNum (sinD (cl .f64 w)) = true ∧ isNum (nar (sinD (cl .f64 w))) = true := by
  obtain ⟨h1, h2⟩ := hug_not hn h
  have hb := bd_sR (bd_fracD hn h1 h2)
  have key : Bd (sinD (cl .f64 w)) 110 := by
    unfold sinD
    split
    · generalize sR (cl .f64 w) = d at hb
      cases d with
      | nan s t => exact absurd hb.num (by simp [isNum])
      | infinity s => exact absurd hb.num (by simp [isNum])
      | number s m i =>
        have e : opp (.number s m i) = .number (!s) m i := rfl
        have e2 : iv (-1074) (.number (!s) m i) = -iv (-1074) (.number s m i) := by
          simp only [iv]; rw [signed_eq, signed_eq]; cases s <;> simp
        rw [e]
        have := hb.lo
        have := hb.hi
        exact ⟨rfl, hb.pl, by rw [e2]; omega, by rw [e2]; omega⟩
    · exact hb
  exact ⟨key.num, bd_nar key (by omega)⟩

theorem nar_NaN : nar NaN = NaN := rfl

theorem wid_nums (x : Nat) (h : isNum (cl .f32 x) = true) : ∃ w0, wid (cl .f32 x) = cl .f64 w0 := by
  obtain ⟨w0, h0⟩ := wid_fix x h
  exact ⟨w0, h0⟩

set_option maxHeartbeats 1000000 in
theorem c_SineTurns (x : Nat) (w : World) : Calls Try.prog 84 #[.float .f32 x] w (RetF (turnD (cl .f32 x)) (Drawn w)) := by
  have HT := Lib.hid (show turnD (cl .f32 x) = if fin (cl .f32 x) then (if hug (wid (cl .f32 x)) then cl .f32 0 else nar (sinD (wid (cl .f32 x)))) else NaN from rfl)
  generalize turnD (cl .f32 x) = T at *
  cases h1 : fin (cl .f32 x)
  · have hT := HT.out
    rw [h1] at hT
    simp only [Bool.false_eq_true, if_false] at hT
    have HTT := Lib.hid hT
    clear hT HT
    go_enter Try.func84, Try.ntmps84
    go_wp2_with (first | (go_at_call 66; refine (c_IsFinite _ _).mono ?_; rintro e w' ⟨rfl, nq, rfl⟩) | (go_at_call 94; refine (c_NaN _).mono ?_; rintro e w' ⟨r, rfl, hr, hrf, nq, rfl⟩) | (refine upon_narrow_any _ _ _ some_f64 Try.underlying22 (by rw [hr]; intro h; cases h) ?_; intro z2 n2 hz2 hzw2))
    go_ret
    exact ⟨_, rfl, by rw [HTT.out, hz2, hr]; rfl, by assumption, by (first | exact ⟨_, rfl⟩ | exact ⟨0, rfl⟩ | exact ⟨_, World.drewN_drewN _ _ _⟩ | (simp only [World.drewN_drewN]; exact ⟨_, rfl⟩))⟩
  · have hnum : isNum (cl .f32 x) = true := by rw [← fin_eq]; exact h1
    obtain ⟨w0, hw0⟩ := wid_nums x hnum
    have hw0n : isNum (cl .f64 w0) = true := by rw [← hw0]; exact wid_isNum x hnum
    have hT := HT.out
    rw [h1] at hT
    simp only [if_true] at hT
    have HN := Lib.hid (fun z (e : cl .f64 z = wid (cl .f32 x)) => show isNum (cl .f64 z) = true by rw [e, hw0]; exact hw0n)
    have HC := Lib.hid (fun z w (hz : cl .f64 z = wid (cl .f32 x)) (hwf : (Lit.float .f64 z).wf = true) => hz ▸ c_isHuge z w hwf (HN.out z hz))
    have HS := Lib.hid (fun z w (hz : cl .f64 z = wid (cl .f32 x)) => hz ▸ c_sine z w (HN.out z hz))
    cases h2 : hug (wid (cl .f32 x))
    · rw [h2] at hT HC
      have HB : Hid (isNum (nar (sinD (wid (cl .f32 x)))) = true) := by
        have := sin_nar hw0n (by rw [← hw0]; exact h2)
        rw [← hw0] at this
        exact this.2
      simp only [Bool.false_eq_true, if_false] at hT
      have HTT := Lib.hid hT
      clear hT HT hnum hw0n hw0
      go_enter Try.func84, Try.ntmps84
      go_wp2_with (first | (go_at_call 66; refine (c_IsFinite _ _).mono ?_; rintro e w' ⟨rfl, nq, rfl⟩) | (refine upon_widen _ _ _ some_f32 Try.underlying43 ?_; intro z n hz hzw) | (go_at_call 95; refine (HC.out _ _ hz hzw).mono ?_; rintro e w' ⟨rfl, nq, rfl⟩) | (go_at_call 96; refine (HS.out _ _ hz).mono ?_; rintro e w' ⟨r, rfl, hr, hrf, nq, rfl⟩) | (refine upon_narrow_any _ _ _ some_f64 Try.underlying22 (by rw [hr]; intro _; exact HB.out) ?_; intro z2 n2 hz2 hzw2))
      go_ret
      exact ⟨_, rfl, by rw [HTT.out, hz2, hr], by assumption, by (first | exact ⟨_, rfl⟩ | exact ⟨0, rfl⟩ | exact ⟨_, World.drewN_drewN _ _ _⟩ | (simp only [World.drewN_drewN]; exact ⟨_, rfl⟩))⟩
    · rw [h2] at hT HC
      simp only [if_true] at hT
      have HTT := Lib.hid hT
      clear hT HT hnum hw0n hw0
      go_enter Try.func84, Try.ntmps84
      go_wp2_with (first | (go_at_call 66; refine (c_IsFinite _ _).mono ?_; rintro e w' ⟨rfl, nq, rfl⟩) | (refine upon_widen _ _ _ some_f32 Try.underlying43 ?_; intro z n hz hzw) | (go_at_call 95; refine (HC.out _ _ hz hzw).mono ?_; rintro e w' ⟨rfl, nq, rfl⟩))
      go_ret
      exact ⟨_, rfl, HTT.out.symm, fits_zero, by (first | exact ⟨_, rfl⟩ | exact ⟨0, rfl⟩ | exact ⟨_, World.drewN_drewN _ _ _⟩ | (simp only [World.drewN_drewN]; exact ⟨_, rfl⟩))⟩

end Go.Proofs.Ytlakmogclcpgdaa

/-
  CONTRACTS: the sine, in the reference.
-/
namespace Go.Flt
open Go Ieee

/-- finite, in 64 bits -/
theorem fin64_eq (x : Datum) : feq (fop .sub .f64 x x) (cl .f64 0) = isNum x := by
  cases x with
  | nan s t => simp [fop, Datum.sum, rnd, isNum]; decide
  | infinity s => cases s <;> (simp [fop, Datum.sum, rnd, isNum, Datum.opposite]; decide)
  | number s m e =>
    have h : signed s m (e - min e e).toNat + signed (!s) m (e - min e e).toNat = 0 := by
      unfold signed
      cases s <;> simp <;> omega
    have h2 : ∀ t p, rnd .f64 (some (.number t 0 p)) = .number t 0 (-1074) := fun t p => zero64 t p
    simp only [fop, Datum.sum, Datum.opposite, h, isNum]
    simp only [if_true, Int.natAbs_zero, h2, c_nought]
    cases s <;> decide

end Go.Flt

namespace Go.Proofs.Ytlakmogclcpgdaa
open Go.RowKit Go.Flt
set_option linter.unusedVariables false
set_option maxRecDepth 100000
set_option linter.unusedSimpArgs false

def RetD (d : Ieee.Datum) (R : World → Prop) (e : Ending) (w' : World) : Prop := ∃ r, e = .returned (.float .f64 r) ∧ cl .f64 r = d ∧ (Lit.float .f64 r).wf = true ∧ R w'

/-- The sine of some turns, in 64 bits. -/
def wideD (x : Ieee.Datum) : Ieee.Datum := if isNum x then (if hug x then cl .f64 0 else sinD x) else NaN

theorem sK_at (j : Nat) (h : j < 8) : sK j = 2 * ((8 - j : Nat) : Int) * (2 * ((8 - j : Nat) : Int) + 1) := by
  unfold sK
  simp

set_option maxHeartbeats 4000000 in
theorem c_l01SineWide (z : Nat) (w : World) : Calls Try.prog 93 #[.float .f64 z] w (RetD (wideD (cl .f64 z)) (Drawn w)) := by
  have HT := Lib.hid (show wideD (cl .f64 z) = if isNum (cl .f64 z) then (if hug (cl .f64 z) then cl .f64 0 else sinD (cl .f64 z)) else NaN from rfl)
  have hfin := fin64_eq (cl .f64 z)
  generalize wideD (cl .f64 z) = T at *
  cases h1 : isNum (cl .f64 z)
  · have hT := HT.out
    rw [h1] at hT hfin
    simp only [Bool.false_eq_true, if_false] at hT
    have HTT := Lib.hid hT
    clear hT HT h1
    go_enter Try.func93, Try.ntmps93
    go_wp2_with (first | (refine upon_fbin rfl _ _ _ _ ?_; intro z n hz hzw) | (go_at_call 94; refine (c_NaN _).mono ?_; rintro e w' ⟨r, rfl, hr, hrf, nq, rfl⟩))
    go_ret
    exact ⟨_, rfl, by rw [HTT.out, hr], by assumption, by (first | exact ⟨_, rfl⟩ | exact ⟨0, rfl⟩ | exact ⟨_, World.drewN_drewN _ _ _⟩ | (simp only [World.drewN_drewN]; exact ⟨_, rfl⟩))⟩
  · have hT := HT.out
    rw [h1] at hT hfin
    simp only [if_true] at hT
    cases h2 : hug (cl .f64 z)
    · obtain ⟨b1, b2⟩ := hug_not h1 h2
      obtain ⟨J, hJ, hJ2⟩ := whole_cut h1 b1 b2
      have hF0 : fop .sub .f64 (cl .f64 z) (cl .f64 (floatOfInt .f64 J)) = frac0 (cl .f64 z) := by rw [hJ2]; rfl
      have hcv := fun w => run_convert_float_int (P := Try.prog) w 43 2 .f64 .i64 z J some_f64 Try.underlying2 hJ
      rw [h2] at hT
      simp only [Bool.false_eq_true, if_false] at hT
      have HTT := Lib.hid hT
      have h2' := h2
      unfold hug at h2'
      rw [Bool.or_eq_false_iff] at h2'
      obtain ⟨k1, k2⟩ := h2'
      clear hT HT h1 h2 b1 b2 hJ hJ2
      have HF0 := Lib.hid hF0
      have HD := Lib.hid (show fracD (cl .f64 z) = if flt (frac0 (cl .f64 z)) (cl .f64 0) then fop .add .f64 (frac0 (cl .f64 z)) (cl .f64 4607182418800017408) else frac0 (cl .f64 z) from rfl)
      have HB := Lib.hid (show bel (cl .f64 z) = leF (cl .f64 4602678819172646912) (fracD (cl .f64 z)) from ge_leF _ _)
      have H1 := Lib.hid (show fr1 (cl .f64 z) = if bel (cl .f64 z) then fop .sub .f64 (fracD (cl .f64 z)) (cl .f64 4602678819172646912) else fracD (cl .f64 z) from rfl)
      have H2 := Lib.hid (show fr2 (cl .f64 z) = if flt (cl .f64 4598175219545276416) (fr1 (cl .f64 z)) then fop .sub .f64 (cl .f64 4602678819172646912) (fr1 (cl .f64 z)) else fr1 (cl .f64 z) from rfl)
      have HZ := Lib.hid (show sZ (cl .f64 z) = fop .mul .f64 (fr2 (cl .f64 z)) (cl .f64 4618760256179416344) from rfl)
      have HU := Lib.hid (show sU (cl .f64 z) = fop .mul .f64 (sZ (cl .f64 z)) (sZ (cl .f64 z)) from rfl)
      have HR := Lib.hid (show sinD (cl .f64 z) = if bel (cl .f64 z) then opp (fop .mul .f64 (sZ (cl .f64 z)) (sP (cl .f64 z) 8)) else fop .mul .f64 (sZ (cl .f64 z)) (sP (cl .f64 z) 8) from rfl)
      have H0 := Lib.hid (show sP (cl .f64 z) 0 = cl .f64 4607182418800017408 from rfl)
      have HS := Lib.hid (show ∀ j, sP (cl .f64 z) (j + 1) = fop .sub .f64 (cl .f64 4607182418800017408) (fop .quo .f64 (fop .mul .f64 (sU (cl .f64 z)) (sP (cl .f64 z) j)) (cl .f64 (floatOfInt .f64 (sK j)))) from fun _ => rfl)
      generalize sinD (cl .f64 z) = R at *
      generalize sP (cl .f64 z) = P at *
      generalize sU (cl .f64 z) = U at *
      generalize sZ (cl .f64 z) = Z at *
      generalize fr2 (cl .f64 z) = G2 at *
      generalize fr1 (cl .f64 z) = G1 at *
      generalize bel (cl .f64 z) = B at *
      generalize fracD (cl .f64 z) = F at *
      generalize frac0 (cl .f64 z) = F0 at *
      cases h0 : flt F0 (cl .f64 0)
      all_goals
        have hD := HD.out
        simp only [h0, Bool.false_eq_true, if_false, if_true] at hD
        have HDD := Lib.hid hD
        clear hD HD
        go_enter Try.func93, Try.ntmps93
        go_upto_region 8 with (first | (refine upon_fbin rfl _ _ _ _ ?_; intro z n hz hzw) | (simp only [hcv]))
      all_goals
        have HQ := Lib.hid (show cl .f64 z = F by rw [HDD.out]; simp only [*])
        clear hcv hfin k1 k2 hz HDD hF0 HF0
        cases g1 : leF (cl .f64 4602678819172646912) F
      all_goals
        rw [g1] at HB
        have hB := HB.out
        have h1 := H1.out
        simp only [hB, Bool.false_eq_true, if_false, if_true] at h1
        have HC := Lib.hid hB
        clear hB HB
        rw [← HQ.out] at g1
        cases g3 : flt (cl .f64 4598175219545276416) G1
      all_goals
        have h2 := H2.out
        rw [g3] at h2
        rw [h1] at g3 h2
        rw [← HQ.out] at g3 h2
        simp only [Bool.false_eq_true, if_false, if_true] at h2
        have HG := Lib.hid h2
        clear h1 h2 H1 H2
        go_upto_region 14 with (refine upon_fbin rfl _ _ _ _ ?_; intro z n hz hzw)
        have HZ1 := Lib.hid (show cl .f64 z = Z by rw [HZ.out, HG.out, hz]; try simp only [*])
        clear hz
        go_upto_region 15 with (refine upon_fbin rfl _ _ _ _ ?_; intro z n hz hzw)
        rename_i z5 n5 hz5w
        have HU1 := Lib.hid (show cl .f64 z = U by rw [HU.out, hz, HZ1.out])
        clear hz
        go_wp2_with fail
        clear HG g1 g3 HZ HU
        go_loopw [7, 8] (fun sp sk wr => ∃ (j p : Nat), j ≤ 8 ∧ sp = .float .f64 p ∧ sk = .int .i64 ((8 - j : Nat) : Int) ∧ Hid (cl .f64 p = P j) ∧ Hid (Drawn w wr)) (fun _ sk _ => (intOf sk).toNat)
        case atStart => exact ⟨0, _, Nat.zero_le _, rfl, rfl, H0.out.symm, by show Drawn _ _; (first | exact ⟨_, rfl⟩ | exact ⟨0, rfl⟩ | exact ⟨_, World.drewN_drewN _ _ _⟩ | (simp only [World.drewN_drewN]; exact ⟨_, rfl⟩))⟩
        case round =>
          obtain ⟨j, p, hj, rfl, rfl, hp, hDr⟩ := hrel
          by_cases hlt : j < 8
          · have hS := HS.out j
            rw [sK_at j hlt] at hS
            obtain ⟨k, hk⟩ : ∃ k : Nat, k = 8 - j := ⟨_, rfl⟩
            have HJ := Lib.hid (show ((8 - (j + 1) : Nat) : Int) = (k : Int) - 1 by omega)
            rw [← hk] at hS ⊢
            have HSS := Lib.hid hS
            have i0 : (1 : Int) ≤ (k : Int) := by omega
            have i1 : IntKind.i64.wrap (2 * (k : Int)) = 2 * (k : Int) := by rw [IntKind.wrap_i64]; omega
            have i2 : IntKind.i64.wrap (2 * (k : Int) + 1) = 2 * (k : Int) + 1 := by rw [IntKind.wrap_i64]; omega
            have i3 : IntKind.i64.wrap (2 * (k : Int) * (2 * (k : Int) + 1)) = 2 * (k : Int) * (2 * (k : Int) + 1) := by
              have a1 : (0 : Int) ≤ 2 * (k : Int) * (2 * (k : Int) + 1) := Int.mul_nonneg (by omega) (by omega)
              have a2 : 2 * (k : Int) * (2 * (k : Int) + 1) ≤ 16 * 17 := Int.mul_le_mul (by omega) (by omega) (by omega) (by omega)
              rw [IntKind.wrap_i64]; omega
            have i4 : IntKind.i64.wrap ((k : Int) - 1) = (k : Int) - 1 := by rw [IntKind.wrap_i64]; omega
            have HK := Lib.hid hk
            clear hS hk
            go_wp2_with (refine upon_fbin rfl _ _ _ _ ?_; intro z n hz hzw)
            go_roundw
            case rel => exact ⟨j + 1, _, by omega, rfl, by rw [HJ.out]; try go_num, by show cl _ _ = _; rw [HSS.out, ← HU1.out, ← hp.out]; simp only [*], drawn_trans hDr.out ⟨_, rfl⟩⟩
            case measure => simp [intOf]; omega
          · obtain rfl : j = 8 := by omega
            go_wp2_with (refine upon_fbin rfl _ _ _ _ ?_; intro z n hz hzw)
            go_ret
            refine ⟨_, rfl, ?_, by first | assumption | exact wf_neg .f64 (by assumption), drawn_trans hDr.out (by (first | exact ⟨_, rfl⟩ | exact ⟨0, rfl⟩ | exact ⟨_, World.drewN_drewN _ _ _⟩ | (simp only [World.drewN_drewN]; exact ⟨_, rfl⟩)))⟩
            rw [HTT.out, HR.out, HC.out, ← HZ1.out, ← hp.out]
            first | (simp only [Bool.false_eq_true, if_false]; assumption) | (simp only [if_true]; rw [cl_neg .f64 (by assumption)]; simp only [*])
    · rw [h2] at hT
      simp only [if_true] at hT
      have HTT := Lib.hid hT
      have h2' := h2
      unfold hug at h2'
      clear hT HT h1 h2
      cases k1 : leF (cl .f64 4841369599423283200) (cl .f64 z)
      all_goals
        rw [k1] at h2'
        simp only [Bool.false_or, Bool.true_or] at h2'
        go_enter Try.func93, Try.ntmps93
        go_wp2_with (first | (refine upon_fbin rfl _ _ _ _ ?_; intro z n hz hzw))
        go_ret
        exact ⟨_, rfl, HTT.out.symm, rfl, by (first | exact ⟨_, rfl⟩ | exact ⟨0, rfl⟩ | exact ⟨_, World.drewN_drewN _ _ _⟩ | (simp only [World.drewN_drewN]; exact ⟨_, rfl⟩))⟩

end Go.Proofs.Ytlakmogclcpgdaa

