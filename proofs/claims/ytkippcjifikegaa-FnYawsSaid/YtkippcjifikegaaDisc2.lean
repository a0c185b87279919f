/-
  PLAIN LAWS for the power of a disc: heights, speeds, a half.
-/
import Derived.Test.YtkippcjifikegaaDisc
namespace Go.Flt
open Go Ieee
set_option linter.unusedVariables false

theorem tidy_lt {d : Datum} (h : tidy FloatKind.f32.format d) : ∀ s m i, d = .number s m i → m < 16777216 := by
  rintro s m i rfl
  have hb : FloatKind.f32.format.binade = 8388608 := by decide
  simp only [tidy, hb] at h
  omega

theorem tidy_fop (op : BinOp) (x y : Datum) : tidy FloatKind.f32.format (fop op .f32 x y) := by
  have hr : ∀ o, tidy FloatKind.f32.format (rnd .f32 o) := by
    intro o
    cases o with
    | none => trivial
    | some d => exact cl_tidy .f32 _
  cases op <;> first | exact hr _ | trivial

theorem small_ok : ∀ n : Fin 129, isNum (cl .f32 (floatOfInt .f32 ((n.val : Int) - 64))) = true ∧ iv (-149) (cl .f32 (floatOfInt .f32 ((n.val : Int) - 64))) = ((n.val : Int) - 64) * t149 := by
  unfold t149 tw
  decide +kernel

theorem small_iv (a : Int) (h1 : -64 ≤ a) (h2 : a ≤ 64) : isNum (cl .f32 (floatOfInt .f32 a)) = true ∧ iv (-149) (cl .f32 (floatOfInt .f32 a)) = a * t149 := by
  have := small_ok ⟨(a + 64).toNat, by omega⟩
  have e : (((⟨(a + 64).toNat, by omega⟩ : Fin 129).val : Int) - 64) = a := by show (((a + 64).toNat : Nat) : Int) - 64 = a; omega
  rwa [e] at this

theorem xk_ge {a p : Int} (h1 : 1 ≤ p) (h2 : p ≤ 64) (h3 : -p ≤ a) (h4 : a ≤ 64) : leF (cl .f32 3212836864) (fop .quo .f32 (cl .f32 (floatOfInt .f32 a)) (cl .f32 (floatOfInt .f32 p))) = true := by
  obtain ⟨a1, a2⟩ := small_iv a (by omega) h4
  obtain ⟨p1, p2⟩ := small_iv p (by omega) h2
  have ht := t149_pos
  refine quo_ge a1 p1 (pl32 _) (pl32 _) (tidy_lt (cl_tidy .f32 _)) ?_ ?_
  · rw [p2]; exact Int.mul_pos (by omega) ht
  · rw [p2, a2, ← Int.neg_mul]
    exact Int.mul_le_mul_of_nonneg_right h3 (Int.le_of_lt ht)

theorem iv_neg32 {w : Nat} (hw : (Lit.float .f32 w).wf = true) (h : isNum (cl .f32 w) = true) : isNum (cl .f32 (Op.negFloat .f32 w)) = true ∧ iv (-149) (cl .f32 (Op.negFloat .f32 w)) = -iv (-149) (cl .f32 w) := by
  rw [cl_neg .f32 hw, opp_opposite h]
  obtain ⟨o1, o2⟩ := opp_num h
  exact ⟨o1, (o2 _ (pl32 w)).2⟩

theorem num_one : isNum (cl .f32 1065353216) = true := by rw [c_one32]; rfl
theorem num_mone : isNum (cl .f32 3212836864) = true := by rw [c_mone32]; rfl
theorem num_zero : isNum (cl .f32 0) = true := by rw [cl_zero32]; rfl

/-- A height of a part of a disc. -/
theorem z_ge {ht r : Nat} {x : Datum} (hw : (Lit.float .f32 r).wf = true) (hr : isNum (cl .f32 r) = true) (hr0 : flt (cl .f32 0) (cl .f32 r) = true) (hh : isNum (cl .f32 ht) = true) (hle : flt (cl .f32 ht) (cl .f32 r) = false)
    (hx : leF (cl .f32 3212836864) x = true) (px : place (-149) x) (hz : isNum (fop .add .f32 (cl .f32 ht) (fop .mul .f32 (cl .f32 r) x)) = true) : leF (cl .f32 0) (fop .add .f32 (cl .f32 ht) (fop .mul .f32 (cl .f32 r) x)) = true := by
  obtain ⟨_, n1⟩ := num_add hz
  obtain ⟨_, n2⟩ := num_mul n1
  have x1 := ge_iv n2 num_mone px hx
  rw [iv_mone149] at x1
  obtain ⟨g1, g2⟩ := iv_neg32 hw hr
  rw [flt_num (-149) num_zero hr (pl32 _) (pl32 _), iv_zero149] at hr0
  have hr0 := of_decide_eq_true hr0
  rw [flt_num (-149) hh hr (pl32 _) (pl32 _)] at hle
  have hle := of_decide_eq_false hle
  have p1 := mul_ge (c := Op.negFloat .f32 r) hr n2 g1 (pl32 r) px (pl32 _) (by
    rw [g2, Int.neg_mul, ← Int.mul_neg]
    exact Int.mul_le_mul_of_nonneg_left x1 (Int.le_of_lt hr0))
  have p2 := ge_iv n1 g1 (pl_fop _ _ _) p1
  rw [g2] at p2
  exact add_ge hh n1 num_zero (pl32 _) (pl_fop _ _ _) (pl32 _) (by rw [iv_zero149]; omega)

/-- The speed at a height. -/
def spd (v s h : Nat) (z : Datum) : Datum :=
  fop .mul .f32 (cl .f32 v) (fop .add .f32 (cl .f32 1065353216) (fop .mul .f32 (cl .f32 s) (fop .quo .f32 (fop .sub .f32 z (cl .f32 h)) (fop .add .f32 z (cl .f32 h)))))

theorem spd_num {v s h : Nat} {z : Datum} (hn : isNum (spd v s h z) = true) : isNum z = true := by
  obtain ⟨_, n1⟩ := num_mul hn
  obtain ⟨_, n2⟩ := num_add n1
  obtain ⟨_, n3⟩ := num_mul n2
  exact (num_sub (num_quo n3)).1

theorem spd_ge {v s h : Nat} {z : Datum} (hw : (Lit.float .f32 h).wf = true) (pz : place (-149) z) (hz : leF (cl .f32 0) z = true) (hh : isNum (cl .f32 h) = true) (hh0 : flt (cl .f32 0) (cl .f32 h) = true)
    (s0 : leF (cl .f32 0) (cl .f32 s) = true) (s1 : leF (cl .f32 s) (cl .f32 1065353216) = true) (hv : leF (cl .f32 0) (cl .f32 v) = true) (hn : isNum (spd v s h z) = true) : leF (cl .f32 0) (spd v s h z) = true := by
  obtain ⟨nv, n1⟩ := num_mul hn
  obtain ⟨_, n2⟩ := num_add n1
  obtain ⟨ns, n3⟩ := num_mul n2
  have n4 := num_quo n3
  have nz := (num_sub n4).1
  have ht := t149_pos
  have z0 := ge_iv nz num_zero pz hz
  rw [iv_zero149] at z0
  rw [flt_num (-149) num_zero hh (pl32 _) (pl32 _), iv_zero149] at hh0
  have hh0 := of_decide_eq_true hh0
  obtain ⟨g1, g2⟩ := iv_neg32 hw hh
  have A1 := ge_iv n4 g1 (pl_fop _ _ _) (sub_ge (c := Op.negFloat .f32 h) nz hh g1 pz (pl32 _) (pl32 _) (by rw [g2]; omega))
  rw [g2] at A1
  have C1 := add_ge (c := h) nz hh hh pz (pl32 _) (pl32 _) (by omega)
  have Q1 : leF (cl .f32 3212836864) (fop .quo .f32 (fop .sub .f32 z (cl .f32 h)) (fop .add .f32 z (cl .f32 h))) = true := by
    have pC := pl_fop .add z (cl .f32 h)
    have pA := pl_fop .sub z (cl .f32 h)
    have tA := tidy_lt (tidy_fop .sub z (cl .f32 h))
    generalize fop .add .f32 z (cl .f32 h) = C at *
    generalize fop .sub .f32 z (cl .f32 h) = A at *
    cases hC : C with
    | number t n j =>
      rw [← hC]
      have nC : isNum C = true := by rw [hC]; rfl
      have C2 := ge_iv nC hh pC C1
      exact quo_ge n4 nC pA pC tA (by omega) (by omega)
    | infinity t =>
      cases A <;> simp only [isNum] at n4 <;> first | (cases n4; done) | skip
      rename_i sA mA iA
      show leF _ (rd .f32 (.number (sA ^^ t) 0 0)) = true
      refine rd_ge rfl num_mone ?_
      rw [c_mone32]
      cases (sA ^^ t) <;> decide +kernel
    | nan s t => rw [hC] at C1; cases hc : cl .f32 h <;> rw [hc] at C1 <;> simp [leF, flt, feq, Datum.order] at C1
  have q1 := ge_iv n3 num_mone (pl_fop _ _ _) Q1
  rw [iv_mone149] at q1
  have s0 := ge_iv ns num_zero (pl32 _) s0
  rw [iv_zero149] at s0
  have s1 : iv (-149) (cl .f32 s) ≤ t149 := by
    rw [leF_num (-149) ns num_one (pl32 _) (pl32 _), iv_one149] at s1
    exact of_decide_eq_true s1
  have m1 := ge_iv n2 num_mone (pl_fop _ _ _) (mul_ge (c := 3212836864) ns n3 num_mone (pl32 _) (pl_fop _ _ _) (pl32 _) (by
    rw [iv_mone149]
    have a1 := Int.mul_le_mul_of_nonneg_left q1 s0
    have a2 := Int.mul_le_mul_of_nonneg_right s1 (Int.le_of_lt ht)
    rw [Int.mul_neg] at a1
    rw [Int.neg_mul]
    omega))
  rw [iv_mone149] at m1
  have e1 := ge_iv n1 num_zero (pl_fop _ _ _) (add_ge (c := 0) num_one n2 num_zero (pl32 _) (pl_fop _ _ _) (pl32 _) (by rw [iv_zero149, iv_one149]; omega))
  rw [iv_zero149] at e1
  have v0 := ge_iv nv num_zero (pl32 _) hv
  rw [iv_zero149] at v0
  exact mul_ge (c := 0) nv n1 num_zero (pl32 _) (pl_fop _ _ _) (pl32 _) (by rw [iv_zero149, Int.zero_mul]; exact Int.mul_nonneg v0 e1)

theorem c_half32 : cl .f32 1056964608 = .number false 8388608 (-24) := by decide +kernel

theorem c_two32 : cl .f32 1073741824 = .number false 8388608 (-22) := by decide +kernel

/-- Half of a number. -/
theorem half_two (d : Nat) (h : isNum (cl .f32 d) = true) : fop .mul .f32 (cl .f32 1056964608) (cl .f32 d) = fop .quo .f32 (cl .f32 d) (cl .f32 1073741824) := by
  have tt := tidy_lt (cl_tidy .f32 d)
  rw [c_half32, c_two32]
  generalize cl .f32 d = x at *
  cases x <;> simp only [isNum] at h <;> first | (cases h; done) | skip
  rename_i s m i
  have hm := tt _ _ _ rfl
  have e1 : fop .mul .f32 (.number false 8388608 (-24)) (.number s m i) = rd .f32 (.number (false ^^ s) (8388608 * m) (-24 + i)) := rfl
  have hL : m.log2 ≤ 23 := by
    by_cases h0 : m = 0
    · subst h0; decide
    · have := (Nat.log2_lt (n := m) (k := 24) h0).2 (by omega)
      omega
  have hq : (Datum.number s m i).quotient (FloatKind.f32.format.fractionBits + 2) (.number false 8388608 (-22)) = some (.number (s ^^ false) (2 * ((m <<< (25 + Nat.log2 8388608 - m.log2)) / 8388608) + ((m <<< (25 + Nat.log2 8388608 - m.log2)) % 8388608 != 0).toNat) (i - -22 - (25 + Nat.log2 8388608 - m.log2 : Nat) - 1)) := rfl
  have e2 : fop .quo .f32 (.number s m i) (.number false 8388608 (-22)) = rd .f32 (.number (s ^^ false) (2 * ((m <<< (25 + Nat.log2 8388608 - m.log2)) / 8388608) + ((m <<< (25 + Nat.log2 8388608 - m.log2)) % 8388608 != 0).toNat) (i - -22 - (25 + Nat.log2 8388608 - m.log2 : Nat) - 1)) := by
    simp only [fop, hq]
    rfl
  rw [e1, e2, show Nat.log2 8388608 = 23 from by decide]
  obtain ⟨c, hc⟩ : ∃ c : Nat, 25 + 23 - m.log2 = 23 + c := ⟨25 - m.log2, by omega⟩
  rw [hc, Nat.shiftLeft_eq, Nat.pow_add]
  have e3 : m * (2 ^ 23 * 2 ^ c) = m * 2 ^ c * 8388608 := by
    rw [show (2 : Nat) ^ 23 = 8388608 from rfl, Nat.mul_comm 8388608, Nat.mul_assoc]
  rw [e3, Nat.mul_div_cancel _ (by omega), Nat.mul_mod_left]
  simp only [bne_self_eq_false, Bool.toNat_false, Nat.add_zero, Bool.false_xor, Bool.xor_false]
  have hp : i - -22 - ((23 + c : Nat) : Int) - 1 = i - 2 - c := by omega
  rw [hp, rd_num, rd_num]
  congr 2
  have v1 : 8388608 * m * 2 ^ (-24 + i - (i - 24 - c)).toNat = 2 * (m * 2 ^ c) * 2 ^ (i - 2 - c - (i - 24 - c)).toNat := by
    have a1 : (-24 + i - (i - 24 - c)).toNat = c := by omega
    have a2 : (i - 2 - c - (i - 24 - c)).toNat = 22 := by omega
    rw [a1, a2, show (2 : Nat) ^ 22 = 4194304 from rfl]
    generalize 2 ^ c = q
    rw [Nat.mul_assoc 8388608]
    generalize m * q = u
    omega
  exact Nat.le_antisymm (rung_mono _ s s (i - 24 - c) (by omega) (by omega) (Nat.le_of_eq v1)) (rung_mono _ s s (i - 24 - c) (by omega) (by omega) (Nat.le_of_eq v1.symm))

end Go.Flt
