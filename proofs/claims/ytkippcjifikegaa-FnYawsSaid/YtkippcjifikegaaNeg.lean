/-
  THE SIGN OF A FLOAT TURNED.
-/
import Derived.Test.YtkippcjifikegaaFlo
namespace Go.Flt
open Go Ieee

theorem xor_top (b n : Nat) (h : b < 2 ^ (n + 1)) : b ^^^ 2 ^ n = if b < 2 ^ n then 2 ^ n + b else b - 2 ^ n := by
  have hp := Nat.two_pow_pos n
  apply Nat.eq_of_testBit_eq
  intro i
  rw [Nat.testBit_xor, Nat.testBit_two_pow]
  split
  · rename_i hb
    by_cases hi : n = i
    · subst hi
      rw [Nat.testBit_two_pow_add_eq, Nat.testBit_lt_two_pow hb]
      simp
    · simp only [hi, decide_false, Bool.xor_false]
      rcases Nat.lt_or_ge i n with hlt | hge
      · rw [Nat.testBit_two_pow_add_gt hlt]
      · have h1 : b < 2 ^ i := Nat.lt_of_lt_of_le hb (Nat.pow_le_pow_right (by omega) hge)
        have h2 : 2 ^ n + b < 2 ^ i := by
          have : 2 ^ (n + 1) ≤ 2 ^ i := Nat.pow_le_pow_right (by omega) (by omega)
          rw [Nat.pow_succ] at this
          omega
        rw [Nat.testBit_lt_two_pow h1, Nat.testBit_lt_two_pow h2]
  · rename_i hb
    obtain ⟨c, rfl⟩ : ∃ c, b = 2 ^ n + c := ⟨b - 2 ^ n, by omega⟩
    rw [Nat.pow_succ] at h
    have hc : c < 2 ^ n := by omega
    rw [Nat.add_sub_cancel_left]
    by_cases hi : n = i
    · subst hi
      rw [Nat.testBit_two_pow_add_eq, Nat.testBit_lt_two_pow hc]
      simp
    · simp only [hi, decide_false, Bool.xor_false]
      rcases Nat.lt_or_ge i n with hlt | hge
      · rw [Nat.testBit_two_pow_add_gt hlt]
      · have h1 : c < 2 ^ i := Nat.lt_of_lt_of_le hc (Nat.pow_le_pow_right (by omega) hge)
        have h2 : 2 ^ n + c < 2 ^ i := by
          have : 2 ^ (n + 1) ≤ 2 ^ i := Nat.pow_le_pow_right (by omega) (by omega)
          rw [Nat.pow_succ] at this
          omega
        rw [Nat.testBit_lt_two_pow h1, Nat.testBit_lt_two_pow h2]

/-- The other sign; a NaN stays one. -/
def opp (x : Datum) : Datum := match x with
  | .nan _ _ => NaN
  | d => d.opposite

theorem read_flip (f : Format) (w : Nat) (h : w < 2 * f.signWeight) : f.read (if w < f.signWeight then f.signWeight + w else w - f.signWeight) = (f.read w).opposite := by
  have hs : 0 < f.signWeight := Nat.two_pow_pos _
  unfold Format.read
  dsimp only
  split
  · rename_i hw
    have e1 : (f.signWeight + w) % f.signWeight = w := by rw [Nat.add_mod_left, Nat.mod_eq_of_lt hw]
    have e2 : w % f.signWeight = w := Nat.mod_eq_of_lt hw
    have e3 : (f.signWeight + w) / f.signWeight = 1 := by rw [Nat.add_div_left _ hs, Nat.div_eq_of_lt hw]
    have e4 : w / f.signWeight = 0 := Nat.div_eq_of_lt hw
    rw [e1, e2, e3, e4]
    split
    · rfl
    · split
      · rfl
      · split <;> rfl
  · rename_i hw
    obtain ⟨c, rfl⟩ : ∃ c, w = f.signWeight + c := ⟨w - f.signWeight, by omega⟩
    have hc : c < f.signWeight := by omega
    rw [Nat.add_sub_cancel_left]
    have e1 : (f.signWeight + c) % f.signWeight = c := by rw [Nat.add_mod_left, Nat.mod_eq_of_lt hc]
    have e2 : c % f.signWeight = c := Nat.mod_eq_of_lt hc
    have e3 : (f.signWeight + c) / f.signWeight = 1 := by rw [Nat.add_div_left _ hs, Nat.div_eq_of_lt hc]
    have e4 : c / f.signWeight = 0 := Nat.div_eq_of_lt hc
    rw [e1, e2, e3, e4]
    split
    · rfl
    · split
      · rfl
      · split <;> rfl

theorem wf_lt {k : FloatKind} {w : Nat} (h : (Lit.float k w).wf = true) : w < 2 * k.format.signWeight := by
  cases k
  · have : w < 4294967296 := by simpa [Lit.wf] using h
    have e : (FloatKind.f32).format.signWeight = 2147483648 := single_weight
    omega
  · have : w < 18446744073709551616 := by simpa [Lit.wf] using h
    have e : (FloatKind.f64).format.signWeight = 9223372036854775808 := double_weight
    omega

theorem neg_eq (k : FloatKind) {w : Nat} (h : (Lit.float k w).wf = true) : Op.negFloat k w = if w < k.format.signWeight then k.format.signWeight + w else w - k.format.signWeight := by
  have h' := wf_lt h
  unfold Op.negFloat
  have e : 2 * k.format.signWeight = 2 ^ (k.format.exponentBits + k.format.fractionBits + 1) := by
    unfold Format.signWeight
    rw [Nat.pow_succ, Nat.mul_comm]
  rw [e] at h'
  exact xor_top w _ h'

theorem cl_neg (k : FloatKind) {w : Nat} (h : (Lit.float k w).wf = true) : cl k (Op.negFloat k w) = opp (cl k w) := by
  rw [neg_eq k h]
  have hr := read_flip k.format w (wf_lt h)
  unfold cl FloatKind.decode
  rw [hr]
  cases k.format.read w <;> rfl

theorem wf_neg (k : FloatKind) {w : Nat} (h : (Lit.float k w).wf = true) : (Lit.float k (Op.negFloat k w)).wf = true := by
  rw [neg_eq k h]
  have h' := wf_lt h
  refine wf_of_lt k _ ?_
  have e : 2 ^ k.format.width = 2 * k.format.signWeight := by
    unfold Format.width Format.signWeight
    rw [Nat.add_assoc, Nat.add_comm 1, Nat.pow_succ, Nat.mul_comm]
  rw [e]
  split <;> omega

@[go_sem] theorem run_neg_float (P : Program) (w : World) (k : FloatKind) (b : Nat) : (Op.unary .neg (.float k b)).run P w = .ok (.float k (Op.negFloat k b)) w := rfl

@[go_sem] theorem le_leF (x y : Datum) : (flt x y || feq x y) = leF x y := rfl

@[go_sem] theorem ge_leF (x y : Datum) : (flt y x || feq x y) = leF y x := by unfold leF; rw [feq_comm]

/-- The absolute value, as it is told by a test. -/
def absD (x : Datum) : Datum := if flt x (cl .f32 0) then opp x else x

theorem opp_opposite {x : Datum} (h : isNum x = true) : opp x = x.opposite := by
  cases x <;> simp only [isNum] at h <;> first | (cases h; done) | skip
  rfl

theorem cl_zero32 : cl .f32 0 = .number false 0 (-149) := by decide +kernel

/-- Not farther than n on either side. -/
theorem leF_abs {x n : Datum} (hx : isNum x = true) (hn : isNum n = true) : leF (absD x) n = (leF x n && leF (opp x) n) := by
  obtain ⟨B, p1, p2, p3⟩ := low_place x n (cl .f32 0)
  have h0 : isNum (cl .f32 0) = true := by rw [cl_zero32]; rfl
  obtain ⟨o1, o2⟩ := opp_num hx
  obtain ⟨q1, q2⟩ := o2 B p1
  have e0 : iv B (cl .f32 0) = 0 := by rw [cl_zero32]; simp [iv, signed]
  unfold absD
  rw [flt_num B hx h0 p1 p3, e0, opp_opposite hx, leF_num B hx hn p1 p2, leF_num B o1 hn q1 p2, q2]
  by_cases h : iv B x < 0
  · rw [if_pos (decide_eq_true h), leF_num B o1 hn q1 p2, q2]
    rw [Bool.eq_iff_iff]
    simp
    omega
  · rw [if_neg (by simpa using h), leF_num B hx hn p1 p2]
    rw [Bool.eq_iff_iff]
    simp
    omega

end Go.Flt
