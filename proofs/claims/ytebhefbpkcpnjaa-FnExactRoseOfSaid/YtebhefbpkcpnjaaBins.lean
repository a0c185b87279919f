/-
  FLOORS of quotients, as numbers of bins.
-/
import Derived.Test.YtebhefbpkcpnjaaGust
namespace Go.Flt
open Go Ieee
set_option linter.unusedVariables false

/-- No NaN, and not less than 0. -/
def upz (x : Datum) : Bool := match x with
  | .nan _ _ => false
  | .infinity s => !s
  | .number s m _ => !s || m == 0

theorem upz_of_up {x : Datum} (h : up x = true) : upz x = true := by
  cases x with
  | nan s t => simp [up, Datum.isNaN] at h
  | infinity s => cases s <;> simp [up, Datum.isNaN, Datum.neg, upz] at h ⊢
  | number s m p => cases s <;> simp [up, Datum.isNaN, Datum.neg, upz] at h ⊢

theorem rd64_zero (s : Bool) (p : Int) : rd .f64 (.number s 0 p) = .number s 0 (-1074) := by
  rw [rd_num]
  have : rung FloatKind.f64.format (.number s 0 p) = 0 := by simp [rung]
  rw [this]
  cases s <;> decide +kernel

theorem upz_rd64 {d : Datum} (h : upz d = true) (hn : isNum d = true) : upz (rd .f64 d) = true := by
  cases d with
  | nan s t => cases hn
  | infinity s => cases hn
  | number s m p =>
    cases s
    · rw [rd_num]
      have hr := rung_le FloatKind.f64.format (.number false m p)
      generalize rung FloatKind.f64.format (.number false m p) = r at hr
      by_cases hi : r = FloatKind.f64.format.infRung
      · subst hi; rw [read_inf _ (fmt_inf .f64)]; rfl
      · rw [read_rung _ _ (by omega)]
        split <;> rfl
    · have h0 : m = 0 := by simpa [upz] using h
      subst h0
      rw [rd64_zero]
      rfl

theorem upz_quo {x y : Datum} (hx : isNum x = true) (h0 : (flt (cl .f32 0) x || feq x (cl .f32 0)) = true) (hy : isNum y = true) (h1 : flt (cl .f32 0) y = true) : upz (fop .quo .f32 x y) = true := by
  obtain ⟨t, n, j, rfl, hz⟩ := least_num hy (by rw [h1]; rfl)
  have hn : t = false ∧ 0 < n := by
    have p1 : place (min (-149) j) (.number false 0 (-149)) := by show min (-149) j ≤ (-149 : Int); omega
    have p2 : place (min (-149) j) (.number t n j) := by show min (-149) j ≤ j; omega
    rw [cl_zero32, flt_num (min (-149) j) rfl rfl p1 p2] at h1
    simp only [iv, sgn_zero, decide_eq_true_eq] at h1
    have hn0 : n ≠ 0 := fun e => by rw [e, sgn_zero] at h1; omega
    refine ⟨?_, by omega⟩
    cases t
    · rfl
    · exact absurd (hz rfl) hn0
  obtain ⟨rfl, hn⟩ := hn
  obtain ⟨s, m, i, rfl, hz2⟩ := least_num hx h0
  cases s
  · exact upz_of_up (up_quo rfl hn)
  · have hm := hz2 rfl
    subst hm
    have e : (Datum.number true 0 i).quotient (FloatKind.f32.format.fractionBits + 2) (.number false n j) = some (.number true (2 * ((0 <<< (FloatKind.f32.format.fractionBits + 2 + n.log2 - Nat.log2 0)) / n) + ((0 <<< (FloatKind.f32.format.fractionBits + 2 + n.log2 - Nat.log2 0)) % n != 0).toNat) (i - j - (FloatKind.f32.format.fractionBits + 2 + n.log2 - Nat.log2 0 : Nat) - 1)) := by
      show (if n = 0 then _ else _) = _
      rw [if_neg (by omega)]
      rfl
    show upz (rnd .f32 _) = true
    rw [e]
    simp only [Nat.zero_shiftLeft, Nat.zero_div, Nat.mul_zero, Nat.zero_mod, bne_self_eq_false, Bool.toNat_false, Nat.add_zero]
    show upz (rd .f32 _) = true
    rw [rd_num]
    have : ∀ p, rung FloatKind.f32.format (.number true 0 p) = 0 := by intro p; simp [rung]
    rw [this]
    decide +kernel

theorem upz_wid (b : Nat) (h : upz (cl .f32 b) = true) : upz (wid (cl .f32 b)) = true := by
  cases hc : cl .f32 b with
  | nan s t => rw [hc] at h; cases h
  | infinity s =>
    rw [hc] at h
    cases s
    · decide +kernel
    · cases h
  | number s m e =>
    rw [← hc, wid_num b hc]
    rw [hc] at h
    split
    · simp [upz]
    · rename_i h0
      simp only [upz] at h ⊢
      cases s
      · rfl
      · simp at h; exact absurd h h0

theorem upz_flo {d : Datum} (h : upz d = true) : upz (flo d) = true := by
  cases d with
  | nan s t => cases h
  | infinity s =>
    cases s
    · decide +kernel
    · cases h
  | number s m i =>
    show upz (rd .f64 (.number s (Toward.down.cut s (m <<< i.toNat) (-i).toNat) 0)) = true
    refine upz_rd64 ?_ rfl
    simp only [upz] at h ⊢
    cases s
    · rfl
    · have hm : m = 0 := by simpa using h
      subst hm
      have := (cut_down true 0 (-i).toNat).2 rfl
      have hp := Nat.two_pow_pos (-i).toNat
      simp only [Nat.zero_shiftLeft, Bool.not_true, Bool.false_or, beq_iff_eq]
      rcases Nat.eq_zero_or_pos (Toward.down.cut true 0 (-i).toNat) with h | h
      · exact h
      · have := Nat.mul_le_mul_right (2 ^ (-i).toNat) h
        omega

theorem zero_cut (s : Bool) (n d : Nat) : Toward.zero.cut s n d = Toward.down.cut false n d := by
  unfold Toward.cut
  simp

/-- What a number of 64 bits that is at least 0 is, cut to a whole number. -/
theorem toInt_up {z : Nat} (h : upz (cl .f64 z) = true) (hn : isNum (cl .f64 z) = true) : ∃ j : Nat, (cl .f64 z).toInt .zero = some (j : Int) ∧ ((j * tw 1074 : Nat) : Int) ≤ iv (-1074) (cl .f64 z) ∧ iv (-1074) (cl .f64 z) < (((j + 1) * tw 1074 : Nat) : Int) := by
  have hp := place64 z
  generalize cl .f64 z = d at *
  cases d with
  | nan s t => cases hn
  | infinity s => cases hn
  | number s m i =>
    have hi : -1074 ≤ i := hp
    have e0 : (Datum.number s m i).toInt .zero = some (signed s (Toward.zero.cut s (m <<< i.toNat) (-i).toNat) 0) := rfl
    have hs : ∀ j k, (s = true → j = 0) → signed s j k = ((j * 2 ^ k : Nat) : Int) := by
      intro j k hj
      cases s
      · simp [signed, Nat.shiftLeft_eq]
      · rw [hj rfl, sgn_zero]; simp
    obtain ⟨c1, c2⟩ := (cut_down false (m <<< i.toNat) (-i).toNat).1 rfl
    rw [← zero_cut s] at c1 c2
    have hm : s = true → m = 0 := by
      intro hs; subst hs; simpa [upz] using h
    have hj : s = true → Toward.zero.cut s (m <<< i.toNat) (-i).toNat = 0 := by
      intro hs
      rw [hm hs, Nat.zero_shiftLeft] at c1 ⊢
      have hp := Nat.two_pow_pos (-i).toNat
      rcases Nat.eq_zero_or_pos (Toward.zero.cut s 0 (-i).toNat) with h | h
      · exact h
      · have := Nat.mul_le_mul_right (2 ^ (-i).toNat) h
        omega
    have key : m * 2 ^ (i - -1074).toNat * 2 ^ (-i).toNat = m * 2 ^ i.toNat * tw 1074 := by
      have e1 : (i - -1074).toNat + (-i).toNat = i.toNat + 1074 := by omega
      rw [Nat.mul_assoc, ← Nat.pow_add, e1, tw_eq (i.toNat + 1074), tw_add, ← Nat.mul_assoc, tw_eq i.toNat]
    refine ⟨Toward.zero.cut s (m <<< i.toNat) (-i).toNat, by rw [e0, hs _ _ hj, Nat.pow_zero, Nat.mul_one], ?_, ?_⟩
    · simp only [iv]
      rw [hs _ _ hm]
      generalize Toward.zero.cut s (m <<< i.toNat) (-i).toNat = j at *
      rw [Nat.shiftLeft_eq] at c1
      have : j * tw 1074 ≤ m * 2 ^ (i - -1074).toNat := by
        refine Nat.le_of_mul_le_mul_right ?_ (Nat.two_pow_pos (-i).toNat)
        rw [key, Nat.mul_right_comm]
        exact Nat.mul_le_mul_right _ c1
      exact Int.ofNat_le.2 this
    · simp only [iv]
      rw [hs _ _ hm]
      generalize Toward.zero.cut s (m <<< i.toNat) (-i).toNat = j at *
      rw [Nat.shiftLeft_eq] at c2
      have : m * 2 ^ (i - -1074).toNat < (j + 1) * tw 1074 := by
        refine Nat.lt_of_mul_lt_mul_right (a := 2 ^ (-i).toNat) ?_
        rw [key, Nat.mul_right_comm (j + 1)]
        exact Nat.mul_lt_mul_of_pos_right c2 (tw_pos 1074)
      exact Int.ofNat_lt.2 this

/-- A whole number as a float64. -/
def whole (n : Nat) : Datum := cl .f64 (floatOfInt .f64 n)

theorem whole_ok : ∀ n : Fin 16, isNum (whole n.val) = true ∧ (whole n.val).neg = false ∧ (whole n.val).toInt .zero = some (n.val : Int) ∧ iv (-1074) (whole n.val) = ((n.val * tw 1074 : Nat) : Int) := by
  unfold whole tw
  decide +kernel

/-- The bin of a floor, if there are n + 1. -/
def binK (d : Datum) (n : Nat) : Nat := if flt d (whole n) then ((d.toInt .zero).getD 0).toNat else n

theorem decode_toInt (z : Nat) {j : Nat} (h : (cl .f64 z).toInt .zero = some (j : Int)) (hj : j < 1048576) : floatToIntVal .f64 z .i64 = some (j : Int) := by
  have e : (FloatKind.f64.decode z).toInt .zero = some (j : Int) := by
    rcases cl_or .f64 z with ⟨s, t, h1, h2⟩ | ⟨h1, _⟩
    · rw [h2] at h; cases h
    · rw [← h1]; exact h
  unfold floatToIntVal
  rw [e]
  have b1 : IntKind.i64.min = -9223372036854775808 := by decide
  have b2 : IntKind.i64.max = 9223372036854775807 := by decide
  exact if_pos ⟨by rw [b1]; omega, by rw [b2]; omega⟩

theorem lt_num {x y : Datum} (h : upz x = true) (hy : isNum y = true) (hl : flt x y = true) : isNum x = true := by
  cases x with
  | nan s t => cases h
  | number s m p => rfl
  | infinity s =>
    cases s
    · cases y <;> simp only [isNum] at hy <;> first | (cases hy; done) | (simp [flt, Datum.order] at hl)
    · cases h

theorem bin_lt {z n : Nat} (hn : n < 16) (h : upz (cl .f64 z) = true) (hl : flt (cl .f64 z) (whole n) = true) : binK (cl .f64 z) n < n ∧ floatToIntVal .f64 z .i64 = some (binK (cl .f64 z) n : Int) := by
  obtain ⟨w1, w2, w3, w4⟩ := whole_ok ⟨n, hn⟩
  have hz := lt_num h w1 hl
  obtain ⟨j, j1, j2, j3⟩ := toInt_up h hz
  have hb : binK (cl .f64 z) n = j := by unfold binK; rw [if_pos hl, j1]; simp
  rw [hb]
  have hlt : j < n := by
    have e := hl
    unfold whole at e w1 w4
    rw [flt_num (-1074) hz w1 (place64 _) (place64 _), w4] at e
    have e := of_decide_eq_true e
    have : j * tw 1074 < n * tw 1074 := Int.ofNat_lt.1 (Int.lt_of_le_of_lt j2 e)
    exact Nat.lt_of_mul_lt_mul_right this
  exact ⟨hlt, decode_toInt z j1 (by omega)⟩

theorem bin_le {z n : Nat} (hn : n < 16) (h : upz (cl .f64 z) = true) : binK (cl .f64 z) n ≤ n := by
  cases hl : flt (cl .f64 z) (whole n)
  · unfold binK; rw [hl]; simp
  · exact Nat.le_of_lt (bin_lt hn h hl).1

theorem bin_min {z n : Nat} (hn : n < 16) (h : upz (cl .f64 z) = true) : floatToIntVal .f64 (if flt (whole n) (cl .f64 z) then floatOfInt .f64 n else z) .i64 = some (binK (cl .f64 z) n : Int) := by
  obtain ⟨w1, w2, w3, w4⟩ := whole_ok ⟨n, hn⟩
  cases hg : flt (whole n) (cl .f64 z)
  · have hz : isNum (cl .f64 z) = true := by
      cases hc : cl .f64 z with
      | nan s t => rw [hc] at h; cases h
      | number s m p => rfl
      | infinity s =>
        rw [hc] at h hg
        cases s
        · cases hw : whole n with
          | number s m p => rw [hw] at hg; simp [flt, Datum.order] at hg
          | nan s t => rw [show whole (⟨n, hn⟩ : Fin 16).val = whole n from rfl, hw] at w1; cases w1
          | infinity s => rw [show whole (⟨n, hn⟩ : Fin 16).val = whole n from rfl, hw] at w1; cases w1
        · cases h
    rw [if_neg (by simp)]
    cases hl : flt (cl .f64 z) (whole n)
    · obtain ⟨j, j1, j2, j3⟩ := toInt_up h hz
      have hb : binK (cl .f64 z) n = n := by unfold binK; rw [hl]; simp
      rw [hb]
      unfold whole at w1 w4 hl hg
      rw [flt_num (-1074) hz w1 (place64 _) (place64 _), w4] at hl
      rw [flt_num (-1074) w1 hz (place64 _) (place64 _), w4] at hg
      have hl := of_decide_eq_false hl
      have hg := of_decide_eq_false hg
      have e : iv (-1074) (cl .f64 z) = ((n * tw 1074 : Nat) : Int) := Int.le_antisymm (Int.not_lt.1 hg) (Int.not_lt.1 hl)
      rw [e] at j2 j3
      have a1 := Nat.le_of_mul_le_mul_right (Int.ofNat_le.1 j2) (tw_pos 1074)
      have a2 : n < j + 1 := Nat.lt_of_mul_lt_mul_right (Int.ofNat_lt.1 j3)
      obtain rfl : j = n := by omega
      exact decode_toInt z j1 (by omega)
    · exact (bin_lt hn h hl).2
  · rw [if_pos rfl]
    have hl : flt (cl .f64 z) (whole n) = false := by
      unfold flt at hg ⊢
      rw [order_swap]
      generalize (whole n).order (cl .f64 z) = o at *
      cases o with
      | none => rfl
      | some o => cases o <;> simp at hg ⊢
    have hb : binK (cl .f64 z) n = n := by unfold binK; rw [hl]; simp
    rw [hb]
    exact decode_toInt (floatOfInt .f64 n) w3 (by omega)

theorem run_min_float {P : Program} (w : World) (ts : Array TypeId) (t : TypeId) (n y : Nat) (hn : n < 16) (hy : upz (cl .f64 y) = true) :
    (Builtin.min_ ts t #[.float .f64 (floatOfInt .f64 n), .float .f64 y]).run P w = .ok (.float .f64 (if flt (whole n) (cl .f64 y) then floatOfInt .f64 n else y)) w := by
  obtain ⟨w1, w2, w3, w4⟩ := whole_ok ⟨n, hn⟩
  have hneg : (FloatKind.f64.decode (floatOfInt .f64 n)).neg = false := by
    rcases cl_or .f64 (floatOfInt .f64 n) with ⟨s, t, _, h⟩ | ⟨h, _⟩
    · rw [show whole (⟨n, hn⟩ : Fin 16).val = whole n from rfl, show whole n = cl .f64 (floatOfInt .f64 n) from rfl, h] at w1; cases w1
    · rw [← h]; exact w2
  have e : (Builtin.min_ ts t #[.float .f64 (floatOfInt .f64 n), .float .f64 y]).run P w = (Builtin.min2 (.float .f64 (floatOfInt .f64 n)) (.float .f64 y)).run P w := by simp [Builtin.min_]
  rw [e]
  show Sem.run P (match FloatKind.f64.format.order (floatOfInt .f64 n) y with
    | none => _
    | some .lt => _
    | some .gt => _
    | some .eq => _) w = _
  rw [order_cl]
  unfold flt
  have hw : whole n = cl .f64 (floatOfInt .f64 n) := rfl
  have w1 : isNum (whole n) = true := w1
  rw [hw] at w1 ⊢
  cases ho : (cl .f64 (floatOfInt .f64 n)).order (cl .f64 y) with
  | none =>
    exfalso
    cases hcx : cl .f64 (floatOfInt .f64 n) <;> rw [hcx] at w1 ho <;> first | (cases w1; done) | skip
    cases hcy : cl .f64 y <;> rw [hcy] at hy ho <;> first | (cases hy; done) | (simp [Datum.order] at ho)
  | some o => cases o <;> simp [hneg]

end Go.Flt
