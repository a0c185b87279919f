/-
  PLAIN LAWS for the power of a disc: products, quotients and their bounds; a half.
-/
import Derived.Test.YtkippcjifikegaaGust
namespace Go.Flt
open Go Ieee
set_option linter.unusedVariables false

theorem iv_down {x : Datum} (hx : isNum x = true) (B C : Int) (h : C ≤ B) (px : place B x) : iv C x = iv B x * ((2 ^ (B - C).toNat : Nat) : Int) := by
  cases x with
  | nan s t => cases hx
  | infinity s => cases hx
  | number s m i => exact (iv_shift C s m i B h px).symm

theorem signed_eq (s : Bool) (m k : Nat) : signed s m k = (if s then -1 else 1) * ((m * 2 ^ k : Nat) : Int) := by
  unfold signed
  rw [Nat.shiftLeft_eq]
  generalize m * 2 ^ k = a
  cases s <;> simp

theorem mul_num {x y : Datum} (hx : isNum x = true) (hy : isNum y = true) : ∃ d, x.product y = some d ∧ isNum d = true ∧ ∀ B C, place B x → place C y → place (B + C) d ∧ iv (B + C) d = iv B x * iv C y := by
  cases x <;> simp only [isNum] at hx <;> first | (cases hx; done) | skip
  cases y <;> simp only [isNum] at hy <;> first | (cases hy; done) | skip
  rename_i s m i t n j
  refine ⟨.number (s ^^ t) (m * n) (i + j), rfl, rfl, fun B C h1 h2 => ?_⟩
  have h1 : B ≤ i := h1
  have h2 : C ≤ j := h2
  refine ⟨by show B + C ≤ i + j; omega, ?_⟩
  simp only [iv]
  have e : (i + j - (B + C)).toNat = (i - B).toNat + (j - C).toNat := by omega
  rw [signed_eq, signed_eq, signed_eq, e, Nat.pow_add]
  generalize 2 ^ (i - B).toNat = a
  generalize 2 ^ (j - C).toNat = b
  have e2 : ((m * n * (a * b) : Nat) : Int) = ((m * a : Nat) : Int) * ((n * b : Nat) : Int) := by
    rw [← Int.natCast_mul]
    congr 1
    rw [Nat.mul_mul_mul_comm]
  rw [e2]
  generalize ((m * a : Nat) : Int) = u
  generalize ((n * b : Nat) : Int) = v
  cases s <;> cases t <;> simp [Int.neg_mul, Int.mul_neg]

theorem fop_mul {k : FloatKind} {x y : Datum} (hx : isNum x = true) (hy : isNum y = true) : ∃ d, fop .mul k x y = rd k d ∧ isNum d = true ∧ ∀ B C, place B x → place C y → place (B + C) d ∧ iv (B + C) d = iv B x * iv C y := by
  obtain ⟨d, h1, h2, h3⟩ := mul_num hx hy
  exact ⟨d, by simp only [fop, h1]; rfl, h2, h3⟩

/-- What is not less than a word is not rounded to less than it. -/
theorem rd_ge {d : Datum} {c : Nat} (hd : isNum d = true) (hc : isNum (cl .f32 c) = true) (h : leF (cl .f32 c) d = true) : leF (cl .f32 c) (rd .f32 d) = true := by
  have := rd_mono .f32 hc hd h
  rwa [rd_fix .f32 c hc] at this

theorem add_ge {x y : Datum} {c : Nat} (hx : isNum x = true) (hy : isNum y = true) (hc : isNum (cl .f32 c) = true) (px : place (-149) x) (py : place (-149) y) (pc : place (-149) (cl .f32 c))
    (h : iv (-149) (cl .f32 c) ≤ iv (-149) x + iv (-149) y) : leF (cl .f32 c) (fop .add .f32 x y) = true := by
  obtain ⟨d, e, hd, hv⟩ := fop_add (k := .f32) hx hy
  obtain ⟨v1, v2⟩ := hv _ px py
  rw [e]
  refine rd_ge hd hc ?_
  rw [leF_num (-149) hc hd pc v1, v2]
  exact decide_eq_true h

theorem sub_ge {x y : Datum} {c : Nat} (hx : isNum x = true) (hy : isNum y = true) (hc : isNum (cl .f32 c) = true) (px : place (-149) x) (py : place (-149) y) (pc : place (-149) (cl .f32 c))
    (h : iv (-149) (cl .f32 c) ≤ iv (-149) x - iv (-149) y) : leF (cl .f32 c) (fop .sub .f32 x y) = true := by
  obtain ⟨d, e, hd, hv⟩ := fop_sub (k := .f32) hx hy
  obtain ⟨v1, v2⟩ := hv _ px py
  rw [e]
  refine rd_ge hd hc ?_
  rw [leF_num (-149) hc hd pc v1, v2]
  exact decide_eq_true h

def t149 : Int := ((tw 149 : Nat) : Int)

theorem t149_pos : 0 < t149 := by have := tw_pos 149; unfold t149; omega

theorem mul_ge {x y : Datum} {c : Nat} (hx : isNum x = true) (hy : isNum y = true) (hc : isNum (cl .f32 c) = true) (px : place (-149) x) (py : place (-149) y) (pc : place (-149) (cl .f32 c))
    (h : iv (-149) (cl .f32 c) * t149 ≤ iv (-149) x * iv (-149) y) : leF (cl .f32 c) (fop .mul .f32 x y) = true := by
  obtain ⟨d, e, hd, hv⟩ := fop_mul (k := .f32) hx hy
  obtain ⟨v1, v2⟩ := hv _ _ px py
  rw [e]
  refine rd_ge hd hc ?_
  have pc2 : place (-149 + -149) (cl .f32 c) := by
    cases hcc : cl .f32 c with
    | number s m i => rw [hcc] at pc; have pc : (-149 : Int) ≤ i := pc; show (-149 + -149 : Int) ≤ i; omega
    | nan s t => trivial
    | infinity s => trivial
  rw [leF_num (-149 + -149) hc hd pc2 v1, v2, iv_down hc (-149) (-149 + -149) (by omega) pc]
  exact decide_eq_true h

theorem pl32 (w : Nat) : place (-149) (cl .f32 w) := tidy_place (cl_tidy .f32 w)

theorem pl_rd (d : Datum) : place (-149) (rd .f32 d) := pl32 _

theorem pl_fop (op : BinOp) (x y : Datum) : place (-149) (fop op .f32 x y) := by
  have hr : ∀ o, place (-149) (rnd .f32 o) := by
    intro o
    cases o with
    | none => trivial
    | some d => exact pl32 _
  cases op <;> first | exact hr _ | trivial

/-- From a bound by order to a bound by value. -/
theorem ge_iv {x : Datum} {c : Nat} (hx : isNum x = true) (hc : isNum (cl .f32 c) = true) (px : place (-149) x) (h : leF (cl .f32 c) x = true) : iv (-149) (cl .f32 c) ≤ iv (-149) x := by
  rw [leF_num (-149) hc hx (pl32 c) px] at h
  exact of_decide_eq_true h

theorem iv149_of (s : Bool) (m : Nat) (i : Int) (k : Nat) (h : i + 149 = k) : iv (-149) (.number s m i) = if s then -((m * tw k : Nat) : Int) else ((m * tw k : Nat) : Int) := by
  have e : (i - -149).toNat = k := by omega
  simp only [iv, signed, e, Nat.shiftLeft_eq, tw_eq]

theorem c_mone32 : cl .f32 3212836864 = .number true 8388608 (-23) := by decide +kernel

theorem iv_one149 : iv (-149) (cl .f32 1065353216) = t149 := by
  rw [c_one32, iv149_of false _ _ 126 (by omega)]
  have e : tw 149 = tw 23 * tw 126 := tw_add 23 126
  have e2 : tw 23 = 8388608 := by decide
  unfold t149
  rw [e, e2]
  rfl

theorem iv_mone149 : iv (-149) (cl .f32 3212836864) = -t149 := by
  rw [c_mone32, iv149_of true _ _ 126 (by omega)]
  have e : tw 149 = tw 23 * tw 126 := tw_add 23 126
  have e2 : tw 23 = 8388608 := by decide
  unfold t149
  rw [e, e2]
  rfl

theorem iv_zero149 : iv (-149) (cl .f32 0) = 0 := by rw [cl_zero32]; exact sgn_zero _ _

/-- A quotient of a number that is not below minus the divisor. -/
theorem quo_ge {x y : Datum} (hx : isNum x = true) (hy : isNum y = true) (px : place (-149) x) (py : place (-149) y) (mx : ∀ s m i, x = .number s m i → m < 16777216) (h0 : 0 < iv (-149) y) (h : -iv (-149) y ≤ iv (-149) x) :
    leF (cl .f32 3212836864) (fop .quo .f32 x y) = true := by
  cases x <;> simp only [isNum] at hx <;> first | (cases hx; done) | skip
  cases y <;> simp only [isNum] at hy <;> first | (cases hy; done) | skip
  rename_i s m i t n j
  have hi : -149 ≤ i := px
  have hj : -149 ≤ j := py
  obtain ⟨a, ha⟩ : ∃ a : Nat, i + 149 = a := ⟨(i + 149).toNat, by omega⟩
  obtain ⟨b, hb⟩ : ∃ b : Nat, j + 149 = b := ⟨(j + 149).toNat, by omega⟩
  rw [iv149_of t n j b hb] at h0 h
  rw [iv149_of s m i a ha] at h
  have ht : t = false := by
    cases t
    · rfl
    · simp only [if_true] at h0; omega
  subst ht
  simp only [Bool.false_eq_true, if_false] at h0 h
  have hn : n ≠ 0 := by rintro rfl; simp at h0
  have hq : (Datum.number s m i).quotient (FloatKind.f32.format.fractionBits + 2) (.number false n j) = some (.number (s ^^ false) (2 * ((m <<< (25 + n.log2 - m.log2)) / n) + ((m <<< (25 + n.log2 - m.log2)) % n != 0).toNat) (i - j - (25 + n.log2 - m.log2 : Nat) - 1)) := by
    show (if n = 0 then _ else _) = _
    rw [if_neg hn]
    rfl
  have e : fop .quo .f32 (.number s m i) (.number false n j) = rd .f32 (.number (s ^^ false) (2 * ((m <<< (25 + n.log2 - m.log2)) / n) + ((m <<< (25 + n.log2 - m.log2)) % n != 0).toNat) (i - j - (25 + n.log2 - m.log2 : Nat) - 1)) := by
    show rnd .f32 _ = _
    rw [hq]
    rfl
  rw [e]
  refine rd_ge rfl (by rw [c_mone32]; rfl) ?_
  rw [c_mone32]
  generalize hD : m <<< (25 + n.log2 - m.log2) = D
  rw [Nat.shiftLeft_eq] at hD
  cases s
  · generalize 2 * (D / n) + (D % n != 0).toNat = M
    generalize i - j - ((25 + n.log2 - m.log2 : Nat) : Int) - 1 = E
    rw [leF_num (min (-23) E) rfl rfl (by show min (-23) E ≤ (-23 : Int); omega) (by show min (-23) E ≤ E; omega)]
    refine decide_eq_true ?_
    simp only [iv, Bool.xor_false]
    have := sgn_ge M (E - min (-23) E).toNat
    have := sgn_lt (m := 8388608) (-23 - min (-23) E).toNat (by omega)
    omega
  · simp only [if_true] at h
    have h : m * tw a ≤ n * tw b := by omega
    have hm := mx _ _ _ rfl
    by_cases hm0 : m = 0
    · subst hm0
      rw [Nat.zero_mul] at hD
      subst hD
      rw [leF_num (min (-23) (i - j - ((25 + n.log2 - Nat.log2 0 : Nat) : Int) - 1)) rfl rfl (by show min (-23) _ ≤ (-23 : Int); omega) (by show min (-23) (i - j - ((25 + n.log2 - Nat.log2 0 : Nat) : Int) - 1) ≤ _; omega)]
      refine decide_eq_true ?_
      simp only [Nat.zero_div, Nat.mul_zero, Nat.zero_mod, bne_self_eq_false, Bool.toNat_false, Nat.add_zero, iv, sgn_zero]
      have := sgn_lt (m := 8388608) (-23 - min (-23) (i - j - ((25 + n.log2 - Nat.log2 0 : Nat) : Int) - 1)).toNat (by omega)
      omega
    have hml : m.log2 ≤ 23 := by
      have := (Nat.log2_lt (n := m) (k := 24) hm0).2 (by omega)
      omega
    have hmlo : tw m.log2 ≤ m := Nat.log2_self_le hm0
    have hnlo : n < tw (n.log2 + 1) := Nat.lt_log2_self
    -- the greatest digit of the one is not above that of the other
    have hab : a + m.log2 < n.log2 + 1 + b := by
      refine Nat.lt_of_not_le fun hc => ?_
      have a1 := tw_le hc
      rw [tw_add (n.log2 + 1) b, tw_add a m.log2] at a1
      have a2 : tw a * tw m.log2 ≤ tw a * m := Nat.mul_le_mul_left _ hmlo
      have a3 : n * tw b < tw (n.log2 + 1) * tw b := Nat.mul_lt_mul_of_pos_right hnlo (tw_pos b)
      rw [Nat.mul_comm (tw a) m] at a2
      omega
    obtain ⟨T, hT⟩ : ∃ T : Nat, (25 + n.log2 - m.log2 : Nat) + b = T + a := ⟨25 + n.log2 - m.log2 + b - a, by omega⟩
    have hE : i - j - ((25 + n.log2 - m.log2 : Nat) : Int) - 1 = -((T : Int) + 1) := by omega
    rw [hE]
    have hT25 : 25 ≤ T := by omega
    have hDn : D ≤ n * tw T := by
      refine Nat.le_of_mul_le_mul_right ?_ (tw_pos a)
      rw [Nat.mul_assoc, ← tw_add, ← hT, tw_add, ← hD, ← Nat.mul_assoc, tw_eq, Nat.mul_right_comm, Nat.mul_right_comm n]
      exact Nat.mul_le_mul_right _ h
    clear hT hD hE
    have hM : 2 * (D / n) + (D % n != 0).toNat ≤ 2 * tw T := by
      have d1 := Nat.div_add_mod D n
      have hb : (D % n != 0).toNat ≤ 1 := by cases (D % n != 0) <;> simp
      rcases Nat.lt_or_ge (D / n) (tw T) with h1 | h1
      · omega
      · have h2 : n * tw T ≤ n * (D / n) := Nat.mul_le_mul_left _ h1
        have h3 : D / n ≤ tw T := Nat.div_le_of_le_mul (by omega)
        have h4 : D % n = 0 := by omega
        rw [h4]
        simp
        omega
    generalize 2 * (D / n) + (D % n != 0).toNat = M at hM ⊢
    rw [leF_num (-((T : Int) + 1)) rfl rfl (by show -((T : Int) + 1) ≤ (-23 : Int); omega) (by show -((T : Int) + 1) ≤ -((T : Int) + 1); omega)]
    refine decide_eq_true ?_
    simp only [iv, Bool.xor_false, signed, if_true, Nat.shiftLeft_eq]
    have e1 : (-((T : Int) + 1) - -((T : Int) + 1)).toNat = 0 := by omega
    have e2 : (-23 - -((T : Int) + 1)).toNat = T + 1 - 23 := by omega
    have e3 : 8388608 * 2 ^ (T + 1 - 23) = 2 * tw T := by
      have : tw 23 * tw (T + 1 - 23) = tw (T + 1) := by rw [← tw_add]; congr 1; omega
      rw [tw_eq, ← tw_succ, ← this]
      rfl
    rw [e1, e2, e3]
    omega

end Go.Flt
