/-
  CONTRACTS: sectors of turns.
-/
import Derived.Test.YtebhefbpkcpnjaaSect
import Derived.Test.YtebhefbpkcpnjaaDiscI
namespace Go.Proofs.Ytebhefbpkcpnjaa
open Go.RowKit Go.Flt
set_option linter.unusedVariables false
set_option maxRecDepth 100000
set_option linter.unusedSimpArgs false

theorem num_nan {x : Ieee.Datum} (h : isNum x = true) : x.isNaN = false := by
  cases x <;> first | rfl | cases h

def isTurn (x : Ieee.Datum) : Bool := fromTo x (cl .f32 3296329728) (cl .f32 1148846080)

theorem c_isTurn (x : Nat) (w : World) : Calls Try.prog 82 #[.float .f32 x] w fun e w' => e = .returned (.bool (isTurn (cl .f32 x))) ∧ ∃ n, w' = w.drewN n := by
  go_enter Try.func82, Try.ntmps82
  go_wp2_with (go_at_call 53; refine (c_isFromTo _ _ _ _).mono ?_; rintro e w' ⟨rfl, nq, rfl⟩)
  go_ret
  exact ⟨rfl, by (first | exact ⟨_, rfl⟩ | exact ⟨0, rfl⟩ | exact ⟨_, World.drewN_drewN _ _ _⟩ | (simp only [World.drewN_drewN]; exact ⟨_, rfl⟩))⟩

theorem c_l04Turn (x : Nat) (w : World) : Calls Try.prog 78 #[.float .f32 x] w fun e w' => e = .returned (.bool (isTurn (cl .f32 x))) ∧ ∃ n, w' = w.drewN n := by
  cases h : fge (cl .f32 x) (cl .f32 3296329728)
  all_goals
    have h' := h
    unfold fge at h'
    go_enter Try.func78, Try.ntmps78
    go_wp2_with fail
    go_ret
    exact ⟨by simp [isTurn, fromTo, fle, h, leF], 0, rfl⟩

theorem c_1000 : cl .f32 1148846080 = .number false 16384000 (-14) := by decide +kernel
theorem c_m1000 : cl .f32 3296329728 = .number true 16384000 (-14) := by decide +kernel

theorem v1000 : iv (-149) (cl .f32 1148846080) = 1000 * t149 := by
  rw [c_1000, iv149_of false _ _ 135 (by omega)]
  have e : tw 149 = tw 14 * tw 135 := tw_add 14 135
  have e2 : tw 14 = 16384 := by decide
  unfold t149
  rw [e, e2]
  simp only [Bool.false_eq_true, if_false]
  omega

theorem vm1000 : iv (-149) (cl .f32 3296329728) = -(1000 * t149) := by
  rw [c_m1000, iv149_of true _ _ 135 (by omega)]
  have e : tw 149 = tw 14 * tw 135 := tw_add 14 135
  have e2 : tw 14 = 16384 := by decide
  unfold t149
  rw [e, e2]
  simp only [if_true]
  omega

theorem turn_parts {x : Nat} (h : isTurn (cl .f32 x) = true) : isNum (cl .f32 x) = true ∧ -(1000 * t149) ≤ iv (-149) (cl .f32 x) ∧ iv (-149) (cl .f32 x) ≤ 1000 * t149 := by
  unfold isTurn fromTo at h
  rw [Bool.and_eq_true] at h
  have n1 : isNum (cl .f32 1148846080) = true := by rw [c_1000]; rfl
  have n2 : isNum (cl .f32 3296329728) = true := by rw [c_m1000]; rfl
  have hs : isNum (cl .f32 x) = true := by
    have := h
    cases hc : cl .f32 x with
    | number t m i => rfl
    | nan t u => rw [hc] at this; simp [fge, flt, feq, Ieee.Datum.order, c_m1000] at this
    | infinity t =>
      rw [hc] at this
      exfalso
      revert this
      cases t <;> decide +kernel
  have h1 := fge_leF hs n2 h.1
  have h2 : leF (cl .f32 x) (cl .f32 1148846080) = true := h.2
  refine ⟨hs, ?_, ?_⟩
  · have := ge_iv hs n2 (pl32 _) h1
    rwa [vm1000] at this
  · have := ge_iv n1 hs (pl32 _) h2
    rwa [v1000] at this

/-- The sector of a turn. -/
def secK (x : Ieee.Datum) (c : Nat) : Nat := (((secJ x c).tmod c + c).tmod c).toNat

theorem sec_range (j : Int) (c : Nat) (h1 : 1 ≤ c) : -(c : Int) < j.tmod c ∧ j.tmod c < (c : Int) ∧ 0 ≤ (j.tmod c + c).tmod c ∧ (j.tmod c + c).tmod c < (c : Int) := by
  have hc : (0 : Int) < (c : Int) := by omega
  have a1 := Int.tmod_lt_of_pos j hc
  have a2 : -(c : Int) < j.tmod c := by
    have := Int.tmod_lt_of_pos (-j) hc
    rw [Int.neg_tmod] at this
    omega
  refine ⟨a2, a1, ?_, ?_⟩
  · exact Int.tmod_nonneg _ (by omega)
  · exact Int.tmod_lt_of_pos _ hc

theorem secK_lt (x : Ieee.Datum) (c : Nat) (h1 : 1 ≤ c) : secK x c < c := by
  obtain ⟨_, _, a, b⟩ := sec_range (secJ x c) c h1
  unfold secK
  omega


theorem c_impl.sectorOf (t c : Nat) (w : World) (h1 : 1 ≤ c) (h2 : c ≤ 16) (ht : isTurn (cl .f32 t) = true) : Calls Try.prog 83 #[.float .f32 t, .int .i64 c] w fun e w' => e = .returned (.int .i64 (secK (cl .f32 t) c)) ∧ ∃ n, w' = w.drewN n := by
  obtain ⟨t1, t2, t3⟩ := turn_parts ht
  obtain ⟨s1, s2⟩ := sect_ok h2 t1 t2 t3
  obtain ⟨r1, r2, r3, r4⟩ := sec_range (secJ (cl .f32 t) c) c h1
  have hK : ((secK (cl .f32 t) c : Nat) : Int) = ((secJ (cl .f32 t) c).tmod c + c).tmod c := by unfold secK; omega
  have HK := Lib.hid hK
  have HD : Hid (secD (cl .f32 t) c = flo (fop .add .f64 (fop .mul .f64 (wid (cl .f32 t)) (cl .f64 (floatOfInt .f64 c))) (cl .f64 4602678819172646912))) := rfl
  rw [show whole c = cl .f64 (floatOfInt .f64 c) from rfl] at s1
  have S1 := Lib.hid s1
  have S2 := Lib.hid s2
  generalize secD (cl .f32 t) c = SD at *
  generalize secJ (cl .f32 t) c = J at *
  have i1 : (c : Int) ≠ 0 := by omega
  have i2 : IntKind.i64.wrap (J.tmod c) = J.tmod c := by rw [IntKind.wrap_i64]; omega
  have i3 : IntKind.i64.wrap (J.tmod c + c) = J.tmod c + c := by rw [IntKind.wrap_i64]; omega
  have i4 : IntKind.i64.wrap ((J.tmod c + c).tmod c) = (J.tmod c + c).tmod c := by rw [IntKind.wrap_i64]; omega
  clear s1 s2 t1 t2 t3 hK r1 r2 r3 r4 ht
  go_enter Try.func83, Try.ntmps83
  go_wp2_with (first | (refine upon_widen _ _ _ some_f32 Try.underlying28 ?_; intro z n hz hzw) | (refine upon_fbin rfl _ _ _ _ ?_; intro z n hz hzw) | (go_at_call 76; refine (c_FloorA _ _ (by have e := num_nan S1.out; simp only [*])).mono ?_; rintro e w' ⟨r, rfl, hr, nq, rfl⟩; have hcv := fun w => run_convert_float_int (P := Try.prog) w 28 2 .f64 .i64 r J some_f64 Try.underlying2 (S2.out r (by rw [HD.out]; simp only [*]))) | (simp only [hcv]))
  go_ret
  exact ⟨by rw [HK.out]; rfl, by (first | exact ⟨_, rfl⟩ | exact ⟨0, rfl⟩ | exact ⟨_, World.drewN_drewN _ _ _⟩ | (simp only [World.drewN_drewN]; exact ⟨_, rfl⟩))⟩

theorem c_spec.l04Sector (t c : Nat) (w : World) (h1 : 1 ≤ c) (h2 : c ≤ 16) (ht : isTurn (cl .f32 t) = true) : Calls Try.prog 79 #[.float .f32 t, .int .i64 c] w fun e w' => e = .returned (.int .i64 (secK (cl .f32 t) c)) ∧ ∃ n, w' = w.drewN n := by
  obtain ⟨t1, t2, t3⟩ := turn_parts ht
  obtain ⟨s1, s2⟩ := sect_ok h2 t1 t2 t3
  obtain ⟨r1, r2, r3, r4⟩ := sec_range (secJ (cl .f32 t) c) c h1
  have hK : ((secK (cl .f32 t) c : Nat) : Int) = ((secJ (cl .f32 t) c).tmod c + c).tmod c := by unfold secK; omega
  have HK := Lib.hid hK
  have HD : Hid (secD (cl .f32 t) c = flo (fop .add .f64 (fop .mul .f64 (wid (cl .f32 t)) (cl .f64 (floatOfInt .f64 c))) (cl .f64 4602678819172646912))) := rfl
  rw [show whole c = cl .f64 (floatOfInt .f64 c) from rfl] at s1
  have S1 := Lib.hid s1
  have S2 := Lib.hid s2
  generalize secD (cl .f32 t) c = SD at *
  generalize secJ (cl .f32 t) c = J at *
  have i1 : (c : Int) ≠ 0 := by omega
  have i2 : IntKind.i64.wrap (J.tmod c) = J.tmod c := by rw [IntKind.wrap_i64]; omega
  have i3 : IntKind.i64.wrap (J.tmod c + c) = J.tmod c + c := by rw [IntKind.wrap_i64]; omega
  have i4 : IntKind.i64.wrap ((J.tmod c + c).tmod c) = (J.tmod c + c).tmod c := by rw [IntKind.wrap_i64]; omega
  clear s1 s2 t1 t2 t3 hK r1 r2 r3 r4 ht
  go_enter Try.func79, Try.ntmps79
  go_wp2_with (first | (refine upon_widen _ _ _ some_f32 Try.underlying28 ?_; intro z n hz hzw) | (refine upon_fbin rfl _ _ _ _ ?_; intro z n hz hzw) | (go_at_call 76; refine (c_FloorA _ _ (by have e := num_nan S1.out; simp only [*])).mono ?_; rintro e w' ⟨r, rfl, hr, nq, rfl⟩; have hcv := fun w => run_convert_float_int (P := Try.prog) w 28 2 .f64 .i64 r J some_f64 Try.underlying2 (S2.out r (by rw [HD.out]; simp only [*]))) | (simp only [hcv]))
  go_ret
  exact ⟨by rw [HK.out]; rfl, by (first | exact ⟨_, rfl⟩ | exact ⟨0, rfl⟩ | exact ⟨_, World.drewN_drewN _ _ _⟩ | (simp only [World.drewN_drewN]; exact ⟨_, rfl⟩))⟩

end Go.Proofs.Ytebhefbpkcpnjaa
