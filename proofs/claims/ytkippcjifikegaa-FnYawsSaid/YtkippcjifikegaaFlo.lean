/-
  PLAIN LAWS OF FLOATS: words round to themselves; bounds; the floor; an angle without whole turns.
-/
import Derived.Test.YtkippcjifikegaaMono
namespace Go.Flt
open Go Ieee

theorem log2_lt {n k : Nat} (h : n < 2 ^ k) (hk : 0 < k) : n.log2 < k := by
  by_cases h0 : n = 0
  · subst h0; simp; omega
  · exact (Nat.log2_lt h0).2 h

theorem rung_read (f : Format) (w : Nat) (s : Bool) (m : Nat) (p : Int) (h : f.read w = .number s m p) (hfb : 0 < f.fractionBits) (hbi : f.binade ≤ f.infRung) :
    ∃ r, r < f.infRung ∧ f.read w = f.read (f.word s r) ∧ rung f (.number s m p) = r := by
  have hb : 0 < f.binade := Nat.two_pow_pos _
  have hbe : f.binade = 2 ^ f.fractionBits := rfl
  refine ⟨w % f.signWeight, ?_⟩
  unfold Format.read at h
  dsimp only at h
  generalize hr : w % f.signWeight = r at *
  by_cases h1 : r < f.binade
  · rw [if_pos h1] at h
    injection h with hs hm hp
    have hri : r < f.infRung := by omega
    refine ⟨hri, ?_, ?_⟩
    · rw [read_rung f s hri, if_pos h1]
      unfold Format.read
      dsimp only
      rw [hr, if_pos h1, hs]
    · subst hm hp
      by_cases h0 : r = 0
      · subst h0; simp [rung]
      · rw [rung_base f s h0 _ f.leastPlace (Int.le_refl _) (Int.le_refl _)]
        have : rgN f.fractionBits (f.leastPlace - f.leastPlace).toNat (r * 2 ^ (f.leastPlace - f.leastPlace).toNat) = r := by
          have hl : r.log2 < f.fractionBits := log2_lt (by rw [← hbe]; exact h1) hfb
          have e0 : (f.leastPlace - f.leastPlace).toNat = 0 := by omega
          rw [e0, Nat.pow_zero, Nat.mul_one]
          unfold rgN lastN
          have e1 : max (r.log2 - f.fractionBits) 0 = 0 := by omega
          rw [e1]
          unfold rne
          simp [Nat.mod_one]
        rw [this]
        omega
  · rw [if_neg h1] at h
    by_cases h2 : r < f.infRung
    · rw [if_pos h2] at h
      injection h with hs hm hp
      refine ⟨h2, ?_, ?_⟩
      · rw [read_rung f s h2, if_neg h1]
        unfold Format.read
        dsimp only
        rw [hr, if_neg h1, if_pos h2, hs]
      · subst hm hp
        have hmod := Nat.mod_lt r hb
        have hdm := Nat.div_add_mod r f.binade
        have hq : 0 < r / f.binade := Nat.div_pos (by omega) hb
        have hm0 : f.binade + r % f.binade ≠ 0 := by omega
        rw [rung_base f s hm0 _ f.leastPlace (by omega) (Int.le_refl _)]
        generalize hc : r / f.binade - 1 = c at *
        have e0 : (f.leastPlace - f.leastPlace).toNat = 0 := by omega
        have e1 : (f.leastPlace + (c : Int) - f.leastPlace).toNat = c := by omega
        have : rgN f.fractionBits (f.leastPlace - f.leastPlace).toNat ((f.binade + r % f.binade) * 2 ^ (f.leastPlace + (c : Int) - f.leastPlace).toNat) = r := by
          rw [e0, e1]
          have hl : (f.binade + r % f.binade).log2 = f.fractionBits := by
            have a1 : (f.binade + r % f.binade).log2 < f.fractionBits + 1 := log2_lt (by rw [Nat.pow_succ, ← hbe]; omega) (by omega)
            have a2 : f.fractionBits ≤ (f.binade + r % f.binade).log2 := (Nat.le_log2 hm0).2 (by rw [← hbe]; omega)
            omega
          unfold rgN lastN
          rw [log2_shift _ _ hm0, hl]
          have e2 : max (f.fractionBits + c - f.fractionBits) 0 = c := by omega
          rw [e2]
          have e3 := rne_scale (f.binade + r % f.binade) 1 (2 ^ c) (Nat.two_pow_pos _)
          rw [Nat.one_mul] at e3
          rw [e3]
          unfold rne
          simp [Nat.mod_one]
          rw [← hbe]
          have : r / f.binade = c + 1 := by omega
          rw [this, Nat.mul_add, Nat.mul_comm] at hdm
          omega
        rw [this]
        omega
    · rw [if_neg h2] at h
      split at h <;> cases h

theorem rd_fix (k : FloatKind) (w : Nat) (h : isNum (cl k w) = true) : rd k (cl k w) = cl k w := by
  rcases cl_or k w with ⟨s, t, _, h'⟩ | ⟨h', _⟩
  · rw [h'] at h; cases h
  · rw [h'] at h ⊢
    cases hd : k.decode w with
    | nan s t => rw [hd] at h; cases h
    | infinity s => rw [hd] at h; cases h
    | number s m p =>
      have hd' : k.format.read w = .number s m p := hd
      obtain ⟨r, h1, h2, h3⟩ := rung_read k.format w s m p hd' (by cases k <;> decide) (fmt_inf k)
      rw [rd_num, h3, ← h2, hd']

/-- A number lies between two: it is one. -/
theorem num_between {x a b : Datum} (ha : isNum a = true) (hb : isNum b = true) (h1 : leF a x = true) (h2 : leF x b = true) : isNum x = true := by
  cases x with
  | number s m p => rfl
  | nan s t => cases a <;> simp [leF, flt, feq, Datum.order] at h1
  | infinity s =>
    cases a <;> simp only [isNum] at ha <;> first | (cases ha; done) | skip
    cases b <;> simp only [isNum] at hb <;> first | (cases hb; done) | skip
    cases s <;> simp [leF, flt, feq, Datum.order] at h1 h2

theorem leF_trans {x y z : Datum} (hx : isNum x = true) (hy : isNum y = true) (hz : isNum z = true) (h1 : leF x y = true) (h2 : leF y z = true) : leF x z = true := by
  obtain ⟨B, p1, p2, p3⟩ := low_place x y z
  rw [leF_num B hx hy p1 p2] at h1
  rw [leF_num B hy hz p2 p3] at h2
  rw [leF_num B hx hz p1 p3]
  simp at *
  omega

/-- What lies between two words is rounded to something between them. -/
theorem rd_between (k : FloatKind) {x : Datum} {a b : Nat} (hx : isNum x = true) (ha : isNum (cl k a) = true) (hb : isNum (cl k b) = true) (h1 : leF (cl k a) x = true) (h2 : leF x (cl k b) = true) :
    isNum (rd k x) = true ∧ leF (cl k a) (rd k x) = true ∧ leF (rd k x) (cl k b) = true := by
  have m1 := rd_mono k ha hx h1
  have m2 := rd_mono k hx hb h2
  rw [rd_fix k a ha] at m1
  rw [rd_fix k b hb] at m2
  exact ⟨num_between ha hb m1 m2, m1, m2⟩

/-! ### Sums, as whole numbers -/
theorem iv_shift (B : Int) (s : Bool) (m : Nat) (i j : Int) (h1 : B ≤ j) (h2 : j ≤ i) : signed s m (i - j).toNat * ((2 ^ (j - B).toNat : Nat) : Int) = signed s m (i - B).toNat := by
  have e : (i - B).toNat = (i - j).toNat + (j - B).toNat := by omega
  unfold signed
  rw [e, Nat.shiftLeft_eq, Nat.shiftLeft_eq, Nat.pow_add, ← Nat.mul_assoc]
  generalize m * 2 ^ (i - j).toNat = a
  generalize 2 ^ (j - B).toNat = c
  cases s <;> simp [Int.neg_mul]

theorem sum_num {x y : Datum} (hx : isNum x = true) (hy : isNum y = true) : ∃ d, x.sum y = some d ∧ isNum d = true ∧ ∀ B, place B x → place B y → place B d ∧ iv B d = iv B x + iv B y := by
  cases x <;> simp only [isNum] at hx <;> first | (cases hx; done) | skip
  cases y <;> simp only [isNum] at hy <;> first | (cases hy; done) | skip
  rename_i s m i t n j
  refine ⟨_, rfl, rfl, fun B h1 h2 => ⟨?_, ?_⟩⟩
  · show B ≤ min i j
    have h1 : B ≤ i := h1
    have h2 : B ≤ j := h2
    omega
  · have h1 : B ≤ i := h1
    have h2 : B ≤ j := h2
    simp only [iv]
    have e1 := iv_shift B s m i (min i j) (by omega) (by omega)
    have e2 := iv_shift B t n j (min i j) (by omega) (by omega)
    rw [← e1, ← e2]
    generalize signed s m (i - min i j).toNat = a
    generalize signed t n (j - min i j).toNat = b
    have e3 : ∀ (c : Int) (q : Bool) (k : Nat), (c = 0 ∨ q = decide (c < 0)) → signed q c.natAbs k = c * ((2 ^ k : Nat) : Int) := by
      intro c q k hq
      unfold signed
      rw [Nat.shiftLeft_eq]
      rcases hq with rfl | rfl
      · simp
      · by_cases hc : c < 0
        · rw [decide_eq_true hc, if_pos rfl]
          obtain ⟨d, rfl⟩ : ∃ d : Nat, c = -(d : Int) := ⟨c.natAbs, by omega⟩
          simp [Int.neg_mul]
        · rw [decide_eq_false hc]
          obtain ⟨d, rfl⟩ : ∃ d : Nat, c = (d : Int) := ⟨c.natAbs, by omega⟩
          simp
    rw [e3 (a + b) _ _ (by
      by_cases h0 : a + b = 0
      · exact .inl h0
      · right; rw [if_neg h0]), Int.add_mul]

theorem fop_add {k : FloatKind} {x y : Datum} (hx : isNum x = true) (hy : isNum y = true) : ∃ d, fop .add k x y = rd k d ∧ isNum d = true ∧ ∀ B, place B x → place B y → place B d ∧ iv B d = iv B x + iv B y := by
  obtain ⟨d, h1, h2, h3⟩ := sum_num hx hy
  exact ⟨d, by simp only [fop, h1]; rfl, h2, h3⟩

theorem opp_num {y : Datum} (hy : isNum y = true) : isNum y.opposite = true ∧ ∀ B, place B y → place B y.opposite ∧ iv B y.opposite = -iv B y := by
  cases y <;> simp only [isNum] at hy <;> first | (cases hy; done) | skip
  refine ⟨rfl, fun B h => ⟨h, ?_⟩⟩
  rename_i s m i
  simp only [Datum.opposite, iv, signed]
  cases s <;> simp

theorem fop_sub {k : FloatKind} {x y : Datum} (hx : isNum x = true) (hy : isNum y = true) : ∃ d, fop .sub k x y = rd k d ∧ isNum d = true ∧ ∀ B, place B x → place B y → place B d ∧ iv B d = iv B x - iv B y := by
  obtain ⟨o1, o2⟩ := opp_num hy
  obtain ⟨d, h1, h2, h3⟩ := sum_num hx o1
  refine ⟨d, by simp only [fop, h1]; rfl, h2, fun B p1 p2 => ?_⟩
  obtain ⟨q1, q2⟩ := o2 B p2
  obtain ⟨r1, r2⟩ := h3 B p1 q1
  exact ⟨r1, by rw [r2, q2]; omega⟩

/-- Two to the power of k, not reckoned out. -/
def tw (k : Nat) : Nat := 2 ^ k

theorem tw_pos (k : Nat) : 0 < tw k := Nat.two_pow_pos k

theorem tw_succ (k : Nat) : tw (k + 1) = 2 * tw k := by unfold tw; rw [Nat.pow_succ, Nat.mul_comm]

theorem tw_add (a b : Nat) : tw (a + b) = tw a * tw b := Nat.pow_add 2 a b

theorem tw_le {a b : Nat} (h : a ≤ b) : tw a ≤ tw b := Nat.pow_le_pow_right (by omega) h

theorem tw_eq (k : Nat) : 2 ^ k = tw k := rfl

/-! ### The floor -/
theorem cut_down (s : Bool) (n drop : Nat) : (s = false → Toward.down.cut s n drop * 2 ^ drop ≤ n ∧ n < (Toward.down.cut s n drop + 1) * 2 ^ drop) ∧
    (s = true → n ≤ Toward.down.cut s n drop * 2 ^ drop ∧ Toward.down.cut s n drop * 2 ^ drop < n + 2 ^ drop) := by
  have hn : n < 2 ^ (n.log2 + 1) := Nat.lt_log2_self
  have hg : 0 < 2 ^ drop := Nat.two_pow_pos _
  unfold Toward.cut
  simp only [Nat.one_shiftLeft]
  by_cases h : drop ≤ n.log2 + 2
  · rw [Nat.min_eq_left h]
    have h1 := Nat.div_add_mod n (2 ^ drop)
    have h2 := Nat.mod_lt n hg
    rw [Nat.mul_comm] at h1
    constructor
    · rintro rfl
      simp only [Bool.false_and, Bool.toNat_false, Nat.add_zero, Nat.add_mul, Nat.one_mul]
      omega
    · rintro rfl
      by_cases h3 : n % 2 ^ drop = 0
      · simp only [h3, bne_self_eq_false, Bool.and_false, Bool.toNat_false, Nat.add_zero]
        omega
      · have : (n % 2 ^ drop != 0) = true := by simp [h3]
        simp only [this, Bool.and_true, Bool.toNat_true, Nat.add_mul, Nat.one_mul]
        omega
  · have h' : n.log2 + 2 ≤ drop := by omega
    rw [Nat.min_eq_right h']
    have e1 : 2 ^ (n.log2 + 2) = 2 * 2 ^ (n.log2 + 1) := by rw [Nat.pow_succ]; omega
    have e2 : 2 ^ (n.log2 + 2) ≤ 2 ^ drop := Nat.pow_le_pow_right (by omega) h'
    generalize 2 ^ (n.log2 + 1) = u at *
    generalize 2 ^ drop = g at *
    rw [e1] at e2 ⊢
    have d1 : n / (2 * u) = 0 := Nat.div_eq_of_lt (by omega)
    have m1 : n % (2 * u) = n := Nat.mod_eq_of_lt (by omega)
    rw [d1, m1]
    constructor
    · rintro rfl
      simp only [Bool.false_and, Bool.toNat_false, Nat.add_zero, Nat.zero_mul, Nat.zero_add, Nat.one_mul]
      omega
    · rintro rfl
      by_cases h3 : n = 0
      · subst h3; simp; omega
      · have : (n != 0) = true := by simp [h3]
        simp only [this, Bool.and_true, Bool.toNat_true, Nat.zero_add, Nat.one_mul]
        omega

/-- The floor of a number: at most it, and more than one less. -/
theorem floor_num {x : Datum} (hx : isNum x = true) : isNum (x.integral .down) = true ∧ ∀ B, B ≤ 0 → place B x → place B (x.integral .down) ∧ iv B (x.integral .down) ≤ iv B x ∧ iv B x < iv B (x.integral .down) + ((tw (-B).toNat : Nat) : Int) := by
  unfold tw
  cases x <;> simp only [isNum] at hx <;> first | (cases hx; done) | skip
  rename_i s m i
  refine ⟨rfl, fun B hB hp => ⟨hB, ?_⟩⟩
  have hp : B ≤ i := hp
  simp only [Datum.integral, iv, signed, Nat.shiftLeft_eq]
  have hc := cut_down s (m * 2 ^ i.toNat) (-i).toNat
  generalize hq : Toward.down.cut s (m * 2 ^ i.toNat) (-i).toNat = q at *
  have e0 : (0 - B).toNat = (-B).toNat := by omega
  rw [e0]
  by_cases hi : 0 ≤ i
  · have e1 : (-i).toNat = 0 := by omega
    rw [e1] at hc
    have e2 : (i - B).toNat = i.toNat + (-B).toNat := by omega
    rw [e2, Nat.pow_add, ← Nat.mul_assoc]
    generalize m * 2 ^ i.toNat = a at *
    have hqa : q = a := by cases s <;> simp at hc <;> omega
    subst hqa
    have := Nat.two_pow_pos (-B).toNat
    generalize 2 ^ (-B).toNat = c at *
    cases s <;> simp <;> omega
  · have e1 : i.toNat = 0 := by omega
    rw [e1, Nat.pow_zero, Nat.mul_one] at hc
    have e2 : (-B).toNat = (-i).toNat + (i - B).toNat := by omega
    rw [e2, Nat.pow_add, ← Nat.mul_assoc]
    have h0 := Nat.two_pow_pos (i - B).toNat
    generalize 2 ^ (i - B).toNat = c at *
    generalize 2 ^ (-i).toNat = g at *
    cases s
    · obtain ⟨c1, c2⟩ := hc.1 rfl
      have k1 := Nat.mul_le_mul_right c c1
      have k2 := Nat.mul_lt_mul_of_pos_right c2 h0
      rw [Nat.add_mul, Nat.one_mul, Nat.add_mul] at k2
      simp only [Bool.false_eq_true, if_false]
      omega
    · obtain ⟨c1, c2⟩ := hc.2 rfl
      have k1 := Nat.mul_le_mul_right c c1
      have k2 := Nat.mul_lt_mul_of_pos_right c2 h0
      rw [Nat.add_mul] at k2
      simp only [if_true]
      omega

/-! ### A number narrowed; an angle without whole turns -/
/-- float32(x) of a float64, where it is no number too great. -/
def nar (x : Datum) : Datum := match x with
  | .nan _ _ => NaN
  | d => cl .f32 (FloatKind.f32.encode d)

theorem nar_rd {x : Datum} (h : isNum x = true) : nar x = rd .f32 x := by
  cases x <;> simp only [isNum] at h <;> first | (cases h; done) | skip
  rfl

theorem wid_fix (b : Nat) (h : isNum (cl .f32 b) = true) : ∃ w, wid (cl .f32 b) = cl .f64 w := by
  cases hc : cl .f32 b <;> rw [hc] at h <;> simp only [isNum] at h <;> first | (cases h; done) | skip
  exact ⟨_, rfl⟩

theorem place64 (w : Nat) : place (-1074) (cl .f64 w) := tidy_place (cl_tidy .f64 w)

theorem place32 (w : Nat) : place (-1074) (cl .f32 w) := by
  have h := tidy_place (cl_tidy .f32 w)
  cases hc : cl .f32 w with
  | number s m i => rw [hc] at h; have h : (-149 : Int) ≤ i := h; show (-1074 : Int) ≤ i; omega
  | infinity s => trivial
  | nan s t => trivial

theorem leF_iv {x y : Datum} (hx : isNum x = true) (hy : isNum y = true) (px : place (-1074) x) (py : place (-1074) y) : leF x y = true ↔ iv (-1074) x ≤ iv (-1074) y := by
  rw [leF_num (-1074) hx hy px py, decide_eq_true_eq]

theorem iv_of (s : Bool) (m : Nat) (i : Int) (k : Nat) (h : i + 1074 = k) : iv (-1074) (.number s m i) = if s then -((m * tw k : Nat) : Int) else ((m * tw k : Nat) : Int) := by
  have e : (i - -1074).toNat = k := by omega
  simp only [iv, signed, Nat.shiftLeft_eq, e, tw_eq]

theorem wid_bound (b : Nat) (h : isNum (cl .f32 b) = true) : iv (-1074) (wid (cl .f32 b)) + (tw 1178 : Int) ≤ (tw 1202 : Int) ∧ -(tw 1202 : Int) + (tw 1178 : Int) ≤ iv (-1074) (wid (cl .f32 b)) := by
  rw [wid_iv]
  cases hc : cl .f32 b <;> rw [hc] at h <;> simp only [isNum] at h <;> first | (cases h; done) | skip
  rename_i s m e
  obtain ⟨h1, h2, h3⟩ := cl32_bounds b hc
  obtain ⟨k, hk⟩ : ∃ k : Nat, e + 1074 = k := ⟨(e + 1074).toNat, by omega⟩
  rw [iv_of s m e k hk]
  have a1 : m * tw k + tw 1178 ≤ tw 24 * tw 1178 := by
    have b1 : tw k ≤ tw 1178 := tw_le (by omega)
    have b3 : m + 1 ≤ tw 24 := h1
    have b4 := Nat.mul_le_mul_right (tw 1178) b3
    rw [Nat.add_mul, Nat.one_mul] at b4
    have b5 := Nat.mul_le_mul_left m b1
    omega
  rw [← tw_add] at a1
  have hP : tw (24 + 1178) = tw 1202 := rfl
  rw [hP] at a1
  generalize tw 1202 = P at *
  generalize tw 1178 = Q at *
  generalize m * tw k = a at *
  cases s <;> simp <;> omega

/-- The floor of a float64, as the machine gives it. -/
def flo (x : Datum) : Datum := match x with
  | .nan _ _ => NaN
  | d => cl .f64 (FloatKind.f64.encode (d.integral .down))

/-- An angle without whole turns: what is left behind the floor of it and a half. -/
def left (W : Datum) : Datum := fop .sub .f64 W (flo (fop .add .f64 W (cl .f64 4602678819172646912)))

theorem c_half : cl .f64 4602678819172646912 = .number false 4503599627370496 (-53) := by decide +kernel

theorem c_one : cl .f64 4607182418800017408 = .number false 4503599627370496 (-52) := by decide +kernel

theorem c_127 : cl .f64 5179139571476070400 = .number false 4503599627370496 75 := by decide +kernel

theorem c_128 : cl .f64 5183643171103440896 = .number false 4503599627370496 76 := by decide +kernel

theorem c_m126 : cl .f64 14398008008703475712 = .number true 4503599627370496 74 := by decide +kernel

theorem c_lo : cl .f64 14404763408144531456 = .number true 6755399441055744 75 := by decide +kernel

theorem c_p126 : cl .f64 5174635971848699904 = .number false 4503599627370496 74 := by decide +kernel

theorem c_m127 : cl .f64 14402511608330846208 = .number true 4503599627370496 75 := by decide +kernel

theorem c_m128 : cl .f64 14407015207958216704 = .number true 4503599627370496 76 := by decide +kernel

theorem c_hi : cl .f64 5181391371289755648 = .number false 6755399441055744 75 := by decide +kernel

theorem c_hi32 : cl .f32 2134900736 = .number false 12582912 104 := by decide +kernel

theorem c_nought : cl .f64 0 = .number false 0 (-1074) := by decide +kernel

theorem c_lo32 : cl .f32 4282384384 = .number true 12582912 104 := by decide +kernel

theorem c_one32 : cl .f32 1065353216 = .number false 8388608 (-23) := by decide +kernel

theorem tw53 : (4503599627370496 : Nat) = tw 52 := rfl

theorem left_ok (b : Nat) (h : isNum (cl .f32 b) = true) : isNum (fop .add .f64 (wid (cl .f32 b)) (cl .f64 4602678819172646912)) = true ∧ isNum (left (wid (cl .f32 b))) = true ∧ isNum (nar (left (wid (cl .f32 b)))) = true := by
  have hW := wid_isNum b h
  obtain ⟨ww, hww⟩ := wid_fix b h
  obtain ⟨hw1, hw2⟩ := wid_bound b h
  unfold left
  generalize wid (cl .f32 b) = W at *
  have pW : place (-1074) W := by rw [hww]; exact place64 ww
  have nh : isNum (cl .f64 4602678819172646912) = true := by rw [c_half]; rfl
  have ph : place (-1074) (cl .f64 4602678819172646912) := place64 _
  obtain ⟨d, hd, nd, hdB⟩ := fop_add (k := .f64) hW nh
  obtain ⟨pd, ed⟩ := hdB (-1074) pW ph
  have eh : iv (-1074) (cl .f64 4602678819172646912) = (tw 1073 : Int) := by
    rw [c_half, iv_of _ _ _ 1021 (by omega), if_neg (by simp), tw53, ← tw_add]
  rw [eh] at ed
  rw [hd]
  -- powers
  have t1 : tw 1074 = 2 * tw 1073 := tw_succ 1073
  have t2 : tw 1201 = 2 * tw 1200 := tw_succ 1200
  have t3 : tw 1202 = 2 * tw 1201 := tw_succ 1201
  have t4 : tw 1074 ≤ tw 1200 := tw_le (by omega)
  have t5 : 0 < tw 1073 := tw_pos _
  have t6 : tw 1073 ≤ tw 1178 := tw_le (by omega)
  have t7 : tw 1074 ≤ tw 1178 := tw_le (by omega)
  have cst : ∀ (w : Nat) (s : Bool) (m : Nat) (i : Int), cl .f64 w = .number s m i → isNum (cl .f64 w) = true := fun w s m i e => by rw [e]; rfl
  have i1 : iv (-1074) (cl .f64 4607182418800017408) = (tw 1074 : Int) := by rw [c_one, iv_of _ _ _ 1022 (by omega), if_neg (by simp), tw53, ← tw_add]
  have i127 : iv (-1074) (cl .f64 5179139571476070400) = (tw 1201 : Int) := by rw [c_127, iv_of _ _ _ 1149 (by omega), if_neg (by simp), tw53, ← tw_add]
  have i128 : iv (-1074) (cl .f64 5183643171103440896) = (tw 1202 : Int) := by rw [c_128, iv_of _ _ _ 1150 (by omega), if_neg (by simp), tw53, ← tw_add]
  have im126 : iv (-1074) (cl .f64 14398008008703475712) = -(tw 1200 : Int) := by rw [c_m126, iv_of _ _ _ 1148 (by omega), if_pos rfl, tw53, ← tw_add]
  have three : (6755399441055744 : Nat) = 3 * tw 51 := rfl
  have three32 : (12582912 : Nat) = 3 * tw 22 := rfl
  have ilo : iv (-1074) (cl .f64 14404763408144531456) = -(3 * tw 1200 : Int) := by
    rw [c_lo, iv_of _ _ _ 1149 (by omega), if_pos rfl, three, Nat.mul_assoc, ← tw_add]
    simp
  have ilo32 : iv (-1074) (cl .f32 4282384384) = -(3 * tw 1200 : Int) := by
    rw [c_lo32, iv_of _ _ _ 1178 (by omega), if_pos rfl, three32, Nat.mul_assoc, ← tw_add]
    simp
  have i32 : iv (-1074) (cl .f32 1065353216) = (tw 1074 : Int) := by
    have e8 : (8388608 : Nat) = tw 23 := rfl
    rw [c_one32, iv_of _ _ _ 1051 (by omega), if_neg (by simp), e8, ← tw_add]
  have n1 := cst _ _ _ _ c_one
  have n127 := cst _ _ _ _ c_127
  have n128 := cst _ _ _ _ c_128
  have nm126 := cst _ _ _ _ c_m126
  have nlo := cst _ _ _ _ c_lo
  -- the sum rounded
  have fixW : rd .f64 W = W := by rw [hww]; exact rd_fix .f64 ww (by rw [← hww]; exact hW)
  have up : ∀ w, isNum (cl .f64 w) = true → iv (-1074) d ≤ iv (-1074) (cl .f64 w) → leF (rd .f64 d) (cl .f64 w) = true := fun w hn hle => by
    have := rd_mono .f64 nd hn ((leF_iv nd hn pd (place64 w)).2 hle)
    rwa [rd_fix .f64 w hn] at this
  have lowS : leF W (rd .f64 d) = true := by
    have := rd_mono .f64 hW nd ((leF_iv hW nd pW pd).2 (by omega))
    rwa [fixW] at this
  have hiS := up _ n128 (by rw [i128]; omega)
  have nS := num_between hW n128 lowS hiS
  have pS : place (-1074) (rd .f64 d) := place64 _
  have s1 := (leF_iv hW nS pW pS).1 lowS
  have s2 := (leF_iv nS n128 pS (place64 _)).1 hiS
  rw [i128] at s2
  have up' : ∀ w, isNum (cl .f64 w) = true → iv (-1074) d ≤ iv (-1074) (cl .f64 w) → iv (-1074) (rd .f64 d) ≤ iv (-1074) (cl .f64 w) := fun w hn hle => (leF_iv nS hn pS (place64 w)).1 (up w hn hle)
  have u127 := up' _ n127
  have u1 := up' _ n1
  have um126 := up' _ nm126
  rw [i127] at u127
  rw [i1] at u1
  rw [im126] at um126
  have fixS : rd .f64 (rd .f64 d) = rd .f64 d := rd_fix .f64 _ nS
  generalize rd .f64 d = S at *
  obtain ⟨nG, hG⟩ := floor_num nS
  obtain ⟨pG, g1, g2⟩ := hG (-1074) (by omega) pS
  have e74 : (-(-1074) : Int).toNat = 1074 := rfl
  rw [e74] at g2
  have hflo : flo S = rd .f64 (S.integral .down) := by
    cases S <;> simp only [isNum] at nS <;> first | (cases nS; done) | skip
    rfl
  rw [hflo]
  generalize S.integral .down = G at *
  -- the floor, rounded: not above S; not below what lies below the floor
  have hGS : leF (rd .f64 G) S = true := by
    have := rd_mono .f64 nG nS ((leF_iv nG nS pG pS).2 g1)
    rwa [fixS] at this
  have ip126 : iv (-1074) (cl .f64 5174635971848699904) = (tw 1200 : Int) := by rw [c_p126, iv_of _ _ _ 1148 (by omega), if_neg (by simp), tw53, ← tw_add]
  have im127 : iv (-1074) (cl .f64 14402511608330846208) = -(tw 1201 : Int) := by rw [c_m127, iv_of _ _ _ 1149 (by omega), if_pos rfl, tw53, ← tw_add]
  have im128 : iv (-1074) (cl .f64 14407015207958216704) = -(tw 1202 : Int) := by rw [c_m128, iv_of _ _ _ 1150 (by omega), if_pos rfl, tw53, ← tw_add]
  have i0 : iv (-1074) (cl .f64 0) = 0 := by rw [c_nought]; rfl
  have ihi : iv (-1074) (cl .f64 5181391371289755648) = (3 * tw 1200 : Int) := by
    rw [c_hi, iv_of _ _ _ 1149 (by omega), if_neg (by simp), three, Nat.mul_assoc, ← tw_add]
    simp
  have ihi32 : iv (-1074) (cl .f32 2134900736) = (3 * tw 1200 : Int) := by
    rw [c_hi32, iv_of _ _ _ 1178 (by omega), if_neg (by simp), three32, Nat.mul_assoc, ← tw_add]
    simp
  have np126 := cst _ _ _ _ c_p126
  have nm127 := cst _ _ _ _ c_m127
  have nm128 := cst _ _ _ _ c_m128
  have n0 := cst _ _ _ _ c_nought
  have nhi := cst _ _ _ _ c_hi
  have dn : ∀ w, isNum (cl .f64 w) = true → iv (-1074) (cl .f64 w) ≤ iv (-1074) G → leF (cl .f64 w) (rd .f64 G) = true := fun w hn hle => by
    have := rd_mono .f64 hn nG ((leF_iv hn nG (place64 w) pG).2 hle)
    rwa [rd_fix .f64 w hn] at this
  have nF := num_between nm128 nS (dn _ nm128 (by rw [im128]; omega)) hGS
  have pF : place (-1074) (rd .f64 G) := place64 _
  have f1 := (leF_iv nF nS pF pS).1 hGS
  have dn' : ∀ w, isNum (cl .f64 w) = true → iv (-1074) (cl .f64 w) ≤ iv (-1074) G → iv (-1074) (cl .f64 w) ≤ iv (-1074) (rd .f64 G) := fun w hn hle => (leF_iv hn nF (place64 w) pF).1 (dn w hn hle)
  have v126 := dn' _ np126
  have v127 := dn' _ nm127
  have v128 := dn' _ nm128
  have v0 := dn' _ n0
  rw [ip126] at v126
  rw [im127] at v127
  rw [im128] at v128
  rw [i0] at v0
  generalize rd .f64 G = F at *
  obtain ⟨e, he, ne, heB⟩ := fop_sub (k := .f64) hW nF
  obtain ⟨pe, ee⟩ := heB (-1074) pW pF
  rw [he]
  have b1 : iv (-1074) e ≤ (3 * tw 1200 : Int) := by
    rw [ee]
    by_cases q1 : (tw 1201 : Int) ≤ iv (-1074) W
    · have := v126 (by omega); omega
    · by_cases q2 : (tw 1200 : Int) ≤ iv (-1074) W
      · have := v0 (by omega); omega
      · by_cases q3 : -(tw 1201 : Int) + (tw 1074 : Int) ≤ iv (-1074) W
        · have := v127 (by omega); omega
        · have := v128 (by omega); omega
  have b2 : -(3 * tw 1200 : Int) ≤ iv (-1074) e := by
    rw [ee]
    by_cases q1 : (tw 1200 : Int) ≤ iv (-1074) W
    · omega
    · by_cases q2 : -(tw 1200 : Int) ≤ iv (-1074) W
      · have := u127 (by omega); omega
      · by_cases q3 : -(tw 1201 : Int) ≤ iv (-1074) W
        · have := u1 (by omega); omega
        · have := um126 (by omega); omega
  obtain ⟨nD, d1, d2⟩ := rd_between .f64 ne nlo nhi ((leF_iv nlo ne (place64 _) pe).2 (by rw [ilo]; exact b2)) ((leF_iv ne nhi pe (place64 _)).2 (by rw [ihi]; exact b1))
  have pD : place (-1074) (rd .f64 e) := place64 _
  have d1 := (leF_iv nlo nD (place64 _) pD).1 d1
  have d2 := (leF_iv nD nhi pD (place64 _)).1 d2
  rw [ilo] at d1
  rw [ihi] at d2
  refine ⟨nS, nD, ?_⟩
  rw [nar_rd nD]
  have nlo32 : isNum (cl .f32 4282384384) = true := by rw [c_lo32]; rfl
  have nhi32 : isNum (cl .f32 2134900736) = true := by rw [c_hi32]; rfl
  exact (rd_between .f32 nD nlo32 nhi32 ((leF_iv nlo32 nD (place32 _) pD).2 (by rw [ilo32]; exact d1)) ((leF_iv nD nhi32 pD (place32 _)).2 (by rw [ihi32]; exact d2))).1

end Go.Flt
