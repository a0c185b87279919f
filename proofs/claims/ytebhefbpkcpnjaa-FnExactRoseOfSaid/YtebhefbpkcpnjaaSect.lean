/-
  CONTRACTS: sectors of turns.
-/
import Derived.Test.YtebhefbpkcpnjaaDisc2
import Derived.Test.YtebhefbpkcpnjaaBinsW
namespace Go.Flt
open Go Ieee
set_option linter.unusedVariables false

theorem whole17 : ∀ n : Fin 17, isNum (whole n.val) = true ∧ iv (-1074) (whole n.val) = ((n.val * tw 1074 : Nat) : Int) := by
  unfold whole tw
  decide +kernel

theorem c16k : cl .f64 4670232813583204352 = .number false 4503599627370496 (-38) := by decide +kernel
theorem cm16k : cl .f64 13893604850437980160 = .number true 4503599627370496 (-38) := by decide +kernel
theorem c32k : cl .f64 4674736413210574848 = .number false 4503599627370496 (-37) := by decide +kernel
theorem cm32k : cl .f64 13898108450065350656 = .number true 4503599627370496 (-37) := by decide +kernel
theorem c64k : cl .f64 4679240012837945344 = .number false 4503599627370496 (-36) := by decide +kernel
theorem cm64k : cl .f64 13902612049692721152 = .number true 4503599627370496 (-36) := by decide +kernel

def tT : Int := ((tw 1074 : Nat) : Int)

theorem tT_pos : 0 < tT := by have := tw_pos 1074; unfold tT; omega

theorem iv_pow (s : Bool) (k : Nat) (p : Int) (hp : p + 52 = k) : iv (-1074) (.number s 4503599627370496 p) = if s then -((2 ^ k : Nat) * tT) else (2 ^ k : Nat) * tT := by
  obtain ⟨a, ha⟩ : ∃ a : Nat, p + 1074 = a := ⟨(p + 1074).toNat, by omega⟩
  rw [iv_of s _ p a ha]
  have e1 : tw 52 * tw a = tw k * tw 1074 := by rw [← tw_add, ← tw_add]; congr 1; omega
  have e2 : ((4503599627370496 * tw a : Nat) : Int) = (2 ^ k : Nat) * tT := by
    rw [show (4503599627370496 : Nat) = tw 52 from rfl, e1]
    unfold tT
    rw [Int.natCast_mul]
    rfl
  rw [e2]

theorem v16k : iv (-1074) (cl .f64 4670232813583204352) = 16384 * tT := by rw [c16k, iv_pow false 14 _ (by omega)]; rfl
theorem vm16k : iv (-1074) (cl .f64 13893604850437980160) = -(16384 * tT) := by rw [cm16k, iv_pow true 14 _ (by omega)]; rfl
theorem v32k : iv (-1074) (cl .f64 4674736413210574848) = 32768 * tT := by rw [c32k, iv_pow false 15 _ (by omega)]; rfl
theorem vm32k : iv (-1074) (cl .f64 13898108450065350656) = -(32768 * tT) := by rw [cm32k, iv_pow true 15 _ (by omega)]; rfl
theorem v64k : iv (-1074) (cl .f64 4679240012837945344) = 65536 * tT := by rw [c64k, iv_pow false 16 _ (by omega)]; rfl
theorem vm64k : iv (-1074) (cl .f64 13902612049692721152) = -(65536 * tT) := by rw [cm64k, iv_pow true 16 _ (by omega)]; rfl

theorem rd_in {d : Datum} {lo hi : Nat} (hd : isNum d = true) (pd : place (-1074) d) (hl : isNum (cl .f64 lo) = true) (hh : isNum (cl .f64 hi) = true) (h1 : iv (-1074) (cl .f64 lo) ≤ iv (-1074) d) (h2 : iv (-1074) d ≤ iv (-1074) (cl .f64 hi)) :
    isNum (rd .f64 d) = true ∧ iv (-1074) (cl .f64 lo) ≤ iv (-1074) (rd .f64 d) ∧ iv (-1074) (rd .f64 d) ≤ iv (-1074) (cl .f64 hi) := by
  obtain ⟨n, d1, d2⟩ := rd_between .f64 hd hl hh ((leF_iv hl hd (place64 _) pd).2 h1) ((leF_iv hd hh pd (place64 _)).2 h2)
  exact ⟨n, (leF_iv hl n (place64 _) (place64 _)).1 d1, (leF_iv n hh (place64 _) (place64 _)).1 d2⟩

theorem rd_in2 {d : Datum} {lo hi : Nat} (hd : isNum d = true) (pd : place (-1074 + -1074) d) (hl : isNum (cl .f64 lo) = true) (hh : isNum (cl .f64 hi) = true) (h1 : iv (-1074) (cl .f64 lo) * tT ≤ iv (-1074 + -1074) d) (h2 : iv (-1074 + -1074) d ≤ iv (-1074) (cl .f64 hi) * tT) :
    isNum (rd .f64 d) = true ∧ iv (-1074) (cl .f64 lo) ≤ iv (-1074) (rd .f64 d) ∧ iv (-1074) (rd .f64 d) ≤ iv (-1074) (cl .f64 hi) := by
  have pw : ∀ w, place (-1074 + -1074) (cl .f64 w) := by
    intro w
    have := place64 w
    cases hc : cl .f64 w with
    | number s m i => rw [hc] at this; have this : (-1074 : Int) ≤ i := this; show (-1074 + -1074 : Int) ≤ i; omega
    | nan s t => trivial
    | infinity s => trivial
  have pd2 : ∀ w, isNum (cl .f64 w) = true → iv (-1074 + -1074) (cl .f64 w) = iv (-1074) (cl .f64 w) * tT := by
    intro w hw
    have e : ((-1074 : Int) - (-1074 + -1074)).toNat = 1074 := by omega
    have e2 : ∀ k : Nat, k = 1074 → ((2 ^ k : Nat) : Int) = tT := by intro k hk; unfold tT; rw [← hk]; rfl
    rw [iv_down hw (-1074) (-1074 + -1074) (by omega) (place64 w), e2 _ e]
  obtain ⟨n, d1, d2⟩ := rd_between .f64 hd hl hh (by rw [leF_num (-1074 + -1074) hl hd (pw _) pd, pd2 _ hl]; exact decide_eq_true h1) (by rw [leF_num (-1074 + -1074) hd hh pd (pw _), pd2 _ hh]; exact decide_eq_true h2)
  exact ⟨n, (leF_iv hl n (place64 _) (place64 _)).1 d1, (leF_iv n hh (place64 _) (place64 _)).1 d2⟩

/-- What a number of 64 bits is, cut to a whole number. -/
theorem toInt_any {z : Nat} (hn : isNum (cl .f64 z) = true) : ∃ (s : Bool) (j : Nat), (cl .f64 z).toInt .zero = some (if s then -(j : Int) else j) ∧ ((j : Int) * tT ≤ iv (-1074) (cl .f64 z) ∨ iv (-1074) (cl .f64 z) ≤ -((j : Int) * tT)) := by
  have hp := place64 z
  generalize cl .f64 z = d at *
  cases d with
  | nan s t => cases hn
  | infinity s => cases hn
  | number s m i =>
    have hi : -1074 ≤ i := hp
    have e0 : (Datum.number s m i).toInt .zero = some (signed s (Toward.zero.cut s (m <<< i.toNat) (-i).toNat) 0) := rfl
    obtain ⟨c1, c2⟩ := (cut_down false (m <<< i.toNat) (-i).toNat).1 rfl
    rw [← zero_cut s] at c1 c2
    have key : m * 2 ^ (i - -1074).toNat * 2 ^ (-i).toNat = m * 2 ^ i.toNat * tw 1074 := by
      have e1 : (i - -1074).toNat + (-i).toNat = i.toNat + 1074 := by omega
      rw [Nat.mul_assoc, ← Nat.pow_add, e1, tw_eq (i.toNat + 1074), tw_add, ← Nat.mul_assoc, tw_eq i.toNat]
    refine ⟨s, Toward.zero.cut s (m <<< i.toNat) (-i).toNat, ?_, ?_⟩
    · rw [e0]
      cases s <;> simp [signed]
    · generalize Toward.zero.cut s (m <<< i.toNat) (-i).toNat = j at *
      rw [Nat.shiftLeft_eq] at c1
      have h1 : j * tw 1074 ≤ m * 2 ^ (i - -1074).toNat := by
        refine Nat.le_of_mul_le_mul_right ?_ (Nat.two_pow_pos (-i).toNat)
        rw [key, Nat.mul_right_comm]
        exact Nat.mul_le_mul_right _ c1
      have h2 : (j : Int) * tT ≤ ((m * 2 ^ (i - -1074).toNat : Nat) : Int) := by
        unfold tT
        rw [← Int.natCast_mul]
        exact Int.ofNat_le.2 h1
      simp only [iv]
      rw [signed_eq]
      generalize ((m * 2 ^ (i - -1074).toNat : Nat) : Int) = v at *
      cases s
      · left; simp; exact h2
      · right; simp; exact h2

/-- The number of a sector, before it is brought into its range. -/
def secD (x : Datum) (c : Nat) : Datum := flo (fop .add .f64 (fop .mul .f64 (wid x) (whole c)) (cl .f64 4602678819172646912))

def secJ (x : Datum) (c : Nat) : Int := ((secD x c).toInt .zero).getD 0

theorem sect_ok {t c : Nat} (hc : c ≤ 16) (ht : isNum (cl .f32 t) = true) (h1 : -(1000 * t149) ≤ iv (-149) (cl .f32 t)) (h2 : iv (-149) (cl .f32 t) ≤ 1000 * t149) :
    isNum (fop .add .f64 (fop .mul .f64 (wid (cl .f32 t)) (whole c)) (cl .f64 4602678819172646912)) = true ∧ ∀ r, cl .f64 r = secD (cl .f32 t) c → floatToIntVal .f64 r .i64 = some (secJ (cl .f32 t) c) := by
  have tp := tT_pos
  have nw := wid_isNum t ht
  obtain ⟨w64, hw64⟩ := wid_fix t ht
  have pw : place (-1074) (wid (cl .f32 t)) := by rw [hw64]; exact place64 _
  have vw := wid_iv t
  have e925 : t149 * ((2 ^ 925 : Nat) : Int) = tT := by
    unfold t149 tT
    rw [← Int.natCast_mul, tw_eq 925, ← tw_add]
  rw [iv_down ht (-149) (-1074) (by omega) (pl32 t), show ((-149 : Int) - -1074).toNat = 925 from rfl] at vw
  obtain ⟨n1, n2⟩ := whole17 ⟨c, by omega⟩
  have n1 : isNum (whole c) = true := n1
  have n2 : iv (-1074) (whole c) = (c : Int) * tT := by
    have : iv (-1074) (whole c) = ((c * tw 1074 : Nat) : Int) := n2
    rw [this]; unfold tT; rw [Int.natCast_mul]
  obtain ⟨d, e, hd, hv⟩ := fop_mul (k := .f64) nw n1
  obtain ⟨v1, v2⟩ := hv (-1074) (-1074) pw (place64 _)
  have hp925 : (0 : Int) ≤ ((2 ^ 925 : Nat) : Int) := Int.natCast_nonneg _
  have a1 := Int.mul_le_mul_of_nonneg_right h1 hp925
  have a2 := Int.mul_le_mul_of_nonneg_right h2 hp925
  rw [← vw] at a1 a2
  rw [Int.neg_mul, Int.mul_assoc, e925] at a1
  rw [Int.mul_assoc, e925] at a2
  generalize iv (-1074) (wid (cl .f32 t)) = W at *
  have hct : (0 : Int) ≤ (c : Int) * tT := Int.mul_nonneg (by omega) (Int.le_of_lt tp)
  have hct2 : (c : Int) * tT ≤ 16 * tT := Int.mul_le_mul_of_nonneg_right (by omega) (Int.le_of_lt tp)
  have b1 := Int.mul_le_mul_of_nonneg_right a1 hct
  have b2 := Int.mul_le_mul_of_nonneg_right a2 hct
  have tt0 : 0 ≤ tT * tT := Int.mul_nonneg (Int.le_of_lt tp) (Int.le_of_lt tp)
  have c1 : tT * ((c : Int) * tT) ≤ 16 * (tT * tT) := by
    have := Int.mul_le_mul_of_nonneg_left hct2 (Int.le_of_lt tp)
    have e : tT * (16 * tT) = 16 * (tT * tT) := by rw [Int.mul_left_comm]
    omega
  have c2 : 1000 * tT * ((c : Int) * tT) = 1000 * (tT * ((c : Int) * tT)) := Int.mul_assoc _ _ _
  rw [Int.neg_mul, c2] at b1
  rw [c2] at b2
  generalize tT * ((c : Int) * tT) = X at *
  obtain ⟨m1, m2, m3⟩ := rd_in2 (lo := 13893604850437980160) (hi := 4670232813583204352) hd v1 (by rw [cm16k]; rfl) (by rw [c16k]; rfl)
    (by rw [vm16k, v2, n2, Int.neg_mul, Int.mul_assoc]; omega) (by rw [v16k, v2, n2, Int.mul_assoc]; omega)
  rw [← e, vm16k] at m2
  rw [← e, v16k] at m3
  rw [← e] at m1
  clear b1 b2 c1 c2 v2 hv
  have hsd : secD (cl .f32 t) c = flo (fop .add .f64 (fop .mul .f64 (wid (cl .f32 t)) (whole c)) (cl .f64 4602678819172646912)) := rfl
  have pm : place (-1074) (fop .mul .f64 (wid (cl .f32 t)) (whole c)) := by rw [e]; exact place64 _
  generalize fop .mul .f64 (wid (cl .f32 t)) (whole c) = M at *
  have nh : isNum (cl .f64 4602678819172646912) = true := by rw [c_half]; rfl
  have vh : 0 ≤ iv (-1074) (cl .f64 4602678819172646912) ∧ iv (-1074) (cl .f64 4602678819172646912) ≤ tT := by
    rw [c_half, iv_of false _ _ 1021 (by omega)]
    simp only [Bool.false_eq_true, if_false]
    have : tw 52 * tw 1021 = tw 1073 := by rw [← tw_add]
    have e : (4503599627370496 : Nat) = tw 52 := rfl
    rw [e, this]
    have := tw_le (a := 1073) (b := 1074) (by omega)
    unfold tT
    omega
  obtain ⟨d2, e2, hd2, hv2⟩ := fop_add (k := .f64) m1 nh
  obtain ⟨u1, u2⟩ := hv2 (-1074) pm (place64 _)
  obtain ⟨k1, k2, k3⟩ := rd_in (lo := 13898108450065350656) (hi := 4674736413210574848) hd2 u1 (by rw [cm32k]; rfl) (by rw [c32k]; rfl) (by rw [vm32k, u2]; omega) (by rw [v32k, u2]; omega)
  rw [← e2, vm32k] at k2
  rw [← e2, v32k] at k3
  rw [← e2] at k1
  have pa : place (-1074) (fop .add .f64 M (cl .f64 4602678819172646912)) := by rw [e2]; exact place64 _
  refine ⟨k1, fun r hr => ?_⟩
  rw [hsd] at hr
  generalize fop .add .f64 M (cl .f64 4602678819172646912) = A at *
  have hfl : flo A = rd .f64 (A.integral .down) := by cases A <;> simp only [isNum] at k1 <;> first | (cases k1; done) | rfl
  obtain ⟨i1, i2⟩ := floor_num k1
  obtain ⟨i3, i4, i5⟩ := i2 (-1074) (by omega) pa
  have e74 : ((tw (-(-1074 : Int)).toNat : Nat) : Int) = tT := rfl
  rw [e74] at i5
  obtain ⟨r1, r2, r3⟩ := rd_in (lo := 13902612049692721152) (hi := 4679240012837945344) i1 i3 (by rw [cm64k]; rfl) (by rw [c64k]; rfl) (by rw [vm64k]; omega) (by rw [v64k]; omega)
  rw [← hfl, ← hr, vm64k] at r2
  rw [← hfl, ← hr, v64k] at r3
  rw [← hfl, ← hr] at r1
  obtain ⟨sg, j, q1, q2⟩ := toInt_any r1
  have hj : j ≤ 65536 := by
    have hx : (j : Int) * tT ≤ 65536 * tT := by rcases q2 with h | h <;> omega
    have := Int.le_of_mul_le_mul_right hx tp
    omega
  have hJ : secJ (cl .f32 t) c = (if sg then -(j : Int) else j) := by
    unfold secJ
    rw [hsd, ← hr, q1]
    rfl
  rw [hJ]
  have ed : (FloatKind.f64.decode r).toInt .zero = some (if sg then -(j : Int) else j) := by
    rcases cl_or .f64 r with ⟨s, t, h1, h2⟩ | ⟨h1, _⟩
    · rw [h2] at r1; cases r1
    · rw [← h1]; exact q1
  unfold floatToIntVal
  rw [ed]
  have b1 : IntKind.i64.min = -9223372036854775808 := by decide
  have b2 : IntKind.i64.max = 9223372036854775807 := by decide
  exact if_pos ⟨by rw [b1]; split <;> omega, by rw [b2]; split <;> omega⟩

end Go.Flt
