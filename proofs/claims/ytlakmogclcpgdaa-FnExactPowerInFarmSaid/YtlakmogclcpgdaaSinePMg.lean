/-
  CONTRACTS: the sine, in the program.
-/
import Derived.Deep.Cut
import Derived.Test.YtlakmogclcpgdaaSlMg
import Derived.Test.YtlakmogclcpgdaaGustMg
namespace Go.Proofs.Ytlakmogclcpgdaa
open Go.RowKit Go.Flt
set_option linter.unusedVariables false
set_option maxRecDepth 100000
set_option linter.unusedSimpArgs false

/-- The rounds that are left. -/
def sM (v : Value) : Nat := match v with
  | .float .f64 k => (((cl .f64 k).toInt .zero).getD 0).toNat
  | _ => 0

theorem sM_at : ∀ j : Fin 9, (((sC j.val).toInt .zero).getD 0).toNat = 8 - j.val := by
  unfold sC
  decide +kernel

theorem sM_is {k j : Nat} (h : cl .f64 k = sC j) (hj : j ≤ 8) : sM (.float .f64 k) = 8 - j := by
  have e : sM (.float .f64 k) = (((cl .f64 k).toInt .zero).getD 0).toNat := rfl
  rw [e, h]
  exact sM_at ⟨j, by omega⟩

set_option maxHeartbeats 2000000 in
theorem c_sine (z : Nat) (w : World) (h : isNum (cl .f64 z) = true) : Calls Try.prog 96 #[.float .f64 z] w fun e w' => ∃ r, e = .returned (.float .f64 r) ∧ cl .f64 r = sinD (cl .f64 z) ∧ (Lit.float .f64 r).wf = true ∧ ∃ n, w' = w.drewN n := by
  have HP := Lib.hid (fun w => c_partOfTurn z w h)
  have HB := Lib.hid (show bel (cl .f64 z) = (flt (cl .f64 4602678819172646912) (fracD (cl .f64 z)) || feq (fracD (cl .f64 z)) (cl .f64 4602678819172646912)) from rfl)
  have H1 := Lib.hid (show fr1 (cl .f64 z) = if bel (cl .f64 z) then fop .sub .f64 (fracD (cl .f64 z)) (cl .f64 4602678819172646912) else fracD (cl .f64 z) from rfl)
  have H2 := Lib.hid (show fr2 (cl .f64 z) = if flt (cl .f64 4598175219545276416) (fr1 (cl .f64 z)) then fop .sub .f64 (cl .f64 4602678819172646912) (fr1 (cl .f64 z)) else fr1 (cl .f64 z) from rfl)
  have HZ := Lib.hid (show sZ (cl .f64 z) = fop .mul .f64 (fr2 (cl .f64 z)) (cl .f64 4618760256179416344) from rfl)
  have HU := Lib.hid (show sU (cl .f64 z) = fop .mul .f64 (sZ (cl .f64 z)) (sZ (cl .f64 z)) from rfl)
  have HR := Lib.hid (show sinD (cl .f64 z) = if bel (cl .f64 z) then opp (fop .mul .f64 (sZ (cl .f64 z)) (sP (cl .f64 z) 8)) else fop .mul .f64 (sZ (cl .f64 z)) (sP (cl .f64 z) 8) from rfl)
  have H0 := Lib.hid (show sP (cl .f64 z) 0 = cl .f64 4607182418800017408 from rfl)
  have HS := Lib.hid (show ∀ j, sP (cl .f64 z) (j + 1) = fop .sub .f64 (cl .f64 4607182418800017408) (fop .quo .f64 (fop .mul .f64 (sU (cl .f64 z)) (sP (cl .f64 z) j)) (cl .f64 (floatOfInt .f64 (sK j)))) from fun _ => rfl)
  clear h
  generalize sinD (cl .f64 z) = R at *
  generalize sP (cl .f64 z) = P at *
  generalize sU (cl .f64 z) = U at *
  generalize sZ (cl .f64 z) = Z at *
  generalize fr2 (cl .f64 z) = G2 at *
  generalize fr1 (cl .f64 z) = G1 at *
  generalize bel (cl .f64 z) = B at *
  generalize fracD (cl .f64 z) = F at *
  cases g1 : flt (cl .f64 4602678819172646912) F
  case' false => cases g2 : feq F (cl .f64 4602678819172646912)
  all_goals
    have hB := HB.out
    simp only [*, Bool.false_eq_true, if_false, if_true, Bool.or_false, Bool.or_true, Bool.true_or, Bool.false_or] at hB
    have h1 := H1.out
    simp only [hB, Bool.false_eq_true, if_false, if_true] at h1
    have HC := Lib.hid hB
    clear hB HB
    cases g3 : flt (cl .f64 4598175219545276416) G1
  all_goals
    rw [g3] at H2
    rw [h1] at g3 H2
    have h2 := H2.out
    simp only [Bool.false_eq_true, if_false, if_true] at h2
    have HG := Lib.hid h2
    clear h1 h2 H1 H2
    go_enter Try.func96, Try.ntmps96
    go_upto_region 6 with (first | (refine upon_fbin rfl _ _ _ _ ?_; intro z n hz hzw) | (go_at_call 100; refine (HP.out _).mono ?_; rintro e w' ⟨r, rfl, hr, nq, rfl⟩))
    go_upto_region 7 with (refine upon_fbin rfl _ _ _ _ ?_; intro z n hz hzw)
    have HZ1 := Lib.hid (show cl .f64 z = Z by rw [HZ.out, HG.out, hz]; simp only [*])
    clear hz
    go_upto_region 8 with (refine upon_fbin rfl _ _ _ _ ?_; intro z n hz hzw)
    rename_i z5 n5 hz5w
    have HU1 := Lib.hid (show cl .f64 z = U by rw [HU.out, hz, HZ1.out])
    clear hz
    go_wp2_with fail
    clear HP HG g1 g3 HZ HU
    go_loopw [7, 8] (fun sp sk wr => ∃ (j p k : Nat), j ≤ 8 ∧ sp = .float .f64 p ∧ sk = .float .f64 k ∧ Hid (cl .f64 p = P j) ∧ Hid (cl .f64 k = sC j) ∧ Hid (Drawn w wr)) (fun _ sk _ => sM sk)
    case atStart => exact ⟨0, _, _, Nat.zero_le _, rfl, rfl, H0.out.symm, sC_start, by show Drawn _ _; (first | exact ⟨_, rfl⟩ | exact ⟨0, rfl⟩ | exact ⟨_, World.drewN_drewN _ _ _⟩ | (simp only [World.drewN_drewN]; exact ⟨_, rfl⟩))⟩
    case round =>
      obtain ⟨j, p, k, hj, rfl, rfl, hp, hk, hDr⟩ := hrel
      by_cases hlt : j < 8
      · obtain ⟨s1, s2, s3⟩ := sC_ok ⟨j, hlt⟩
        have s1 : fop .mul .f64 (fop .mul .f64 (cl .f64 4611686018427387904) (sC j)) (fop .add .f64 (fop .mul .f64 (cl .f64 4611686018427387904) (sC j)) (cl .f64 4607182418800017408)) = cl .f64 (floatOfInt .f64 (sK j)) := s1
        have s2 : fop .sub .f64 (sC j) (cl .f64 4607182418800017408) = sC (j + 1) := s2
        have s3 : (flt (cl .f64 4607182418800017408) (sC j) || feq (sC j) (cl .f64 4607182418800017408)) = true := s3
        rw [← hk.out] at s3
        have S1 := Lib.hid s1
        have S2 := Lib.hid s2
        clear s1 s2
        rcases Bool.or_eq_true_iff.1 s3 with s3 | s3
        all_goals
          go_wp2_with (refine upon_fbin rfl _ _ _ _ ?_; intro z n hz hzw)
          go_roundw
          case rel => exact ⟨j + 1, _, _, by omega, rfl, rfl, by show cl _ _ = _; rw [HS.out, ← S1.out, ← HU1.out, ← hp.out, ← hk.out]; simp only [*], by show cl _ _ = _; rw [← S2.out, ← hk.out]; simp only [*], drawn_trans hDr.out ⟨_, rfl⟩⟩
          case measure => rw [sM_is hk.out (by omega), sM_is (j := j + 1) (by rw [← S2.out, ← hk.out]; simp only [*]) (by omega)]; omega
      · obtain rfl : j = 8 := by omega
        have s3 := sC_end
        rw [← hk.out, Bool.or_eq_false_iff] at s3
        obtain ⟨s3, s4⟩ := s3
        go_wp2_with (refine upon_fbin rfl _ _ _ _ ?_; intro z n hz hzw)
        go_ret
        refine ⟨_, rfl, ?_, by first | assumption | exact wf_neg .f64 (by assumption), drawn_trans hDr.out (by (first | exact ⟨_, rfl⟩ | exact ⟨0, rfl⟩ | exact ⟨_, World.drewN_drewN _ _ _⟩ | (simp only [World.drewN_drewN]; exact ⟨_, rfl⟩)))⟩
        rw [HR.out, HC.out, ← HZ1.out, ← hp.out]
        first | (simp only [Bool.false_eq_true, if_false]; assumption) | (simp only [if_true]; rw [cl_neg .f64 (by assumption)]; simp only [*])

end Go.Proofs.Ytlakmogclcpgdaa

