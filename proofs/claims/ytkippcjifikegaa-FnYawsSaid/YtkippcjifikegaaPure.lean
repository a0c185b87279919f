/-
  PLAIN LAWS OF FLOATS: order, equality, signs, the conversion float32 to float64.
-/
import Derived.Test.YtkippcjifikegaaFree
namespace Go.Flt
open Go Ieee

def isNum : Datum → Bool
  | .number .. => true
  | _ => false

theorem order_base (s t : Bool) (m n : Nat) (i j B : Int) (hi : B ≤ i) (hj : B ≤ j) :
    (Datum.number s m i).order (.number t n j) = some (compare (signed s m (i - B).toNat) (signed t n (j - B).toNat)) := by
  unfold Datum.order
  simp only [Option.some.injEq]
  have hsh : ∀ (s : Bool) (m : Nat) (a c : Nat), signed s m (a + c) = signed s m a * ((2 ^ c : Nat) : Int) := by
    intro s m a c
    unfold signed
    cases s <;> simp [Nat.shiftLeft_eq, Int.neg_mul, Int.pow_add, Int.mul_assoc]
  obtain ⟨c, hc⟩ : ∃ c : Nat, min i j - B = c := ⟨(min i j - B).toNat, by omega⟩
  have e1 : (i - B).toNat = (i - min i j).toNat + c := by omega
  have e2 : (j - B).toNat = (j - min i j).toNat + c := by omega
  rw [e1, e2, hsh, hsh]
  have hp : (0 : Int) < ((2 ^ c : Nat) : Int) := by have := Nat.two_pow_pos c; omega
  generalize ((2 ^ c : Nat) : Int) = q at hp
  generalize signed s m _ = a
  generalize signed t n _ = b
  rcases Int.lt_trichotomy a b with h | h | h
  · rw [Int.compare_eq_lt.2 h, Int.compare_eq_lt.2 (Int.mul_lt_mul_of_pos_right h hp)]
  · subst h; simp
  · rw [Int.compare_eq_gt.2 h, Int.compare_eq_gt.2 (Int.mul_lt_mul_of_pos_right h hp)]

/-- A number as so many times 2 to the power of B. -/
def iv (B : Int) : Datum → Int
  | .number s m i => signed s m (i - B).toNat
  | _ => 0
def place (B : Int) : Datum → Prop
  | .number _ _ i => B ≤ i
  | _ => True

theorem cmp_lt (a b : Int) : (some (compare a b) == some Ordering.lt) = decide (a < b) := by
  rcases Int.lt_trichotomy a b with h | h | h
  · rw [Int.compare_eq_lt.2 h]; simp [h]
  · subst h; simp
  · rw [Int.compare_eq_gt.2 h]; simp; omega
theorem cmp_eq (a b : Int) : (some (compare a b) == some Ordering.eq) = decide (a = b) := by
  rcases Int.lt_trichotomy a b with h | h | h
  · rw [Int.compare_eq_lt.2 h]; simp; omega
  · subst h; simp
  · rw [Int.compare_eq_gt.2 h]; simp; omega
theorem flt_num {x y : Datum} (B : Int) (hx : isNum x = true) (hy : isNum y = true) (px : place B x) (py : place B y) : flt x y = decide (iv B x < iv B y) := by
  cases x <;> simp only [isNum] at hx <;> first | (cases hx; done) | skip
  cases y <;> simp only [isNum] at hy <;> first | (cases hy; done) | skip
  unfold flt
  rw [order_base _ _ _ _ _ _ B px py, cmp_lt]
  rfl
theorem feq_num {x y : Datum} (B : Int) (hx : isNum x = true) (hy : isNum y = true) (px : place B x) (py : place B y) : feq x y = decide (iv B x = iv B y) := by
  cases x <;> simp only [isNum] at hx <;> first | (cases hx; done) | skip
  cases y <;> simp only [isNum] at hy <;> first | (cases hy; done) | skip
  unfold feq
  rw [order_base _ _ _ _ _ _ B px py, cmp_eq]
  rfl

/-- A place below those of any three. -/
theorem low_place (x y z : Datum) : ∃ B, place B x ∧ place B y ∧ place B z := by
  have h : ∀ d : Datum, ∃ b : Int, ∀ B, B ≤ b → place B d := fun d => by
    cases d with
    | number s m i => exact ⟨i, fun B h => h⟩
    | infinity s => exact ⟨0, fun _ _ => trivial⟩
    | nan s t => exact ⟨0, fun _ _ => trivial⟩
  obtain ⟨a, ha⟩ := h x
  obtain ⟨b, hb⟩ := h y
  obtain ⟨c, hc⟩ := h z
  exact ⟨min a (min b c), ha _ (by omega), hb _ (by omega), hc _ (by omega)⟩

theorem not_fle {x y : Datum} (hx : isNum x = true) (hy : isNum y = true) : (!(flt x y || feq x y)) = flt y x := by
  obtain ⟨B, h1, h2, _⟩ := low_place x y x
  rw [flt_num B hx hy h1 h2, feq_num B hx hy h1 h2, flt_num B hy hx h2 h1]
  rcases Int.lt_trichotomy (iv B x) (iv B y) with h | h | h
  · simp [h]; omega
  · simp [h]
  · simp [h]; omega
theorem flt_trans_num {x y z : Datum} (hx : isNum x = true) (hy : isNum y = true) (hz : isNum z = true) (h1 : flt x y = true) (h2 : flt y z = true) : flt x z = true := by
  obtain ⟨B, p1, p2, p3⟩ := low_place x y z
  rw [flt_num B hx hy p1 p2] at h1
  rw [flt_num B hy hz p2 p3] at h2
  rw [flt_num B hx hz p1 p3]
  simp at *
  omega
theorem feq_comm (x y : Datum) : feq x y = feq y x := by
  unfold feq
  rw [order_swap x y]
  cases y.order x with
  | none => rfl
  | some o => cases o <;> rfl
theorem feq_self (x : Datum) : feq x x = !x.isNaN := by
  cases x with
  | nan s t => rfl
  | infinity s => cases s <;> rfl
  | number s m e =>
    obtain ⟨B, h1, _, _⟩ := low_place (.number s m e) (.number s m e) (.number s m e)
    rw [feq_num B rfl rfl h1 h1]
    simp [Datum.isNaN]

/-! ### What a word reads as -/
theorem read_neg (f : Format) (b : Nat) : (f.read b).neg = (b / f.signWeight % 2 == 1) := by
  unfold Format.read
  dsimp only
  split
  · rfl
  · split
    · rfl
    · split <;> rfl

theorem word_neg (f : Format) (neg : Bool) {rung : Nat} (h : rung < f.signWeight) : (f.word neg rung / f.signWeight % 2 == 1) = neg := by
  unfold Format.word
  cases neg
  · simp [Nat.div_eq_of_lt h]
  · have h0 : 0 < f.signWeight := by omega
    rw [if_pos rfl, Nat.add_comm, Nat.add_div_right _ h0, Nat.div_eq_of_lt h]
    rfl
theorem write_neg (f : Format) {d : Datum} : (f.read (f.write d)).neg = d.neg := by
  rw [read_neg]
  have hb : 0 < f.binade := Nat.two_pow_pos _
  have hs := f.infRung_lt
  cases d with
  | number neg mag place =>
    unfold Format.write Format.nearest
    dsimp only
    split
    · exact word_neg f neg (by omega)
    · exact word_neg f neg (Nat.lt_of_le_of_lt (Nat.min_le_right _ _) hs)
  | infinity neg => exact word_neg f neg hs
  | nan neg t =>
    unfold Format.write
    refine word_neg f neg ?_
    have := Nat.mod_lt t hb
    have := f.infRung_add_binade
    omega

theorem word_mod (f : Format) (neg : Bool) {rung : Nat} (h : rung < f.signWeight) : f.word neg rung % f.signWeight = rung := by
  unfold Format.word
  cases neg
  · simp [Nat.mod_eq_of_lt h]
  · rw [if_pos rfl, Nat.add_mod_left, Nat.mod_eq_of_lt h]

/-- The word of a rung below infinity reads as a number. -/
theorem read_rung (f : Format) (neg : Bool) {rung : Nat} (h : rung < f.infRung) :
    f.read (f.word neg rung) = if rung < f.binade then .number neg rung f.leastPlace else .number neg (f.binade + rung % f.binade) (f.leastPlace + (rung / f.binade - 1 : Nat)) := by
  have hs := f.infRung_lt
  unfold Format.read
  dsimp only
  rw [word_neg f neg (by omega), word_mod f neg (by omega)]
  split
  · rfl
  · rfl

theorem read_inf (f : Format) (hb : f.binade ≤ f.infRung) (neg : Bool) : f.read (f.word neg f.infRung) = .infinity neg := by
  have hs := f.infRung_lt
  unfold Format.read
  dsimp only
  rw [word_neg f neg (by omega), word_mod f neg (by omega), if_neg (by omega), if_neg (by omega), if_pos rfl]

/-! ### Words in their own form -/
/-- What a number that a word reads as looks like: below a binade at the least place; else a full digit. -/
def tidy (f : Format) : Datum → Prop
  | .number _ m i => (m < f.binade ∧ i = f.leastPlace) ∨ (f.binade ≤ m ∧ m < 2 * f.binade ∧ f.leastPlace ≤ i)
  | _ => True
theorem read_tidy (f : Format) (b : Nat) : tidy f (f.read b) := by
  unfold Format.read
  dsimp only
  split
  · rename_i h; exact .inl ⟨h, rfl⟩
  · split
    · have := Nat.mod_lt (b % f.signWeight) (show 0 < f.binade from Nat.two_pow_pos _)
      exact .inr ⟨by omega, by omega, by omega⟩
    · split <;> trivial
theorem cl_tidy (k : FloatKind) (b : Nat) : tidy k.format (cl k b) := by
  rcases cl_or k b with ⟨s, t, _, h⟩ | ⟨h, _⟩
  · rw [h]; trivial
  · rw [h]; exact read_tidy _ _
theorem tidy_place {f : Format} {d : Datum} (h : tidy f d) : place f.leastPlace d := by
  cases d with
  | number s m i => rcases h with ⟨_, h⟩ | ⟨_, _, h⟩ <;> (show f.leastPlace ≤ i) <;> omega
  | infinity s => trivial
  | nan s t => trivial

/-- Two numbers of that form that are as great and of one sign are one. -/
theorem tidy_eq {f : Format} {x y : Datum} (hx : tidy f x) (hy : tidy f y) (h : feq x y = true) (hn : x.neg = y.neg) : x = y := by
  cases x with
  | nan s t => simp [feq, Datum.order] at h
  | infinity s =>
    cases y with
    | nan t u => simp [feq, Datum.order] at h
    | infinity t => simp only [Datum.neg] at hn; rw [hn]
    | number t n j => cases s <;> simp [feq, Datum.order] at h
  | number s m i =>
    cases y with
    | nan t u => simp [feq, Datum.order] at h
    | infinity t => cases t <;> simp [feq, Datum.order] at h
    | number t n j =>
      simp only [Datum.neg] at hn
      subst hn
      have px := tidy_place hx
      have py := tidy_place hy
      rw [feq_num f.leastPlace rfl rfl px py] at h
      have h := of_decide_eq_true h
      simp only [iv] at h
      have hb : 0 < f.binade := Nat.two_pow_pos _
      have hm : m <<< (i - f.leastPlace).toNat = n <<< (j - f.leastPlace).toNat := by
        unfold signed at h
        cases s <;> simp only [Bool.false_eq_true, if_false, if_true] at h <;> omega
      have key : ∀ (m n a b : Nat), (a < b → f.binade ≤ n) → m < 2 * f.binade → a < b → m <<< a ≠ n <<< b := by
        intro m n a b h1 h2 h3 h4
        have h5 := h1 h3
        rw [Nat.shiftLeft_eq, Nat.shiftLeft_eq] at h4
        obtain ⟨c, rfl⟩ : ∃ c, b = a + 1 + c := ⟨b - a - 1, by omega⟩
        rw [Nat.pow_add, Nat.pow_succ] at h4
        have ha := Nat.two_pow_pos a
        have hc := Nat.two_pow_pos c
        have : m = n * (2 * 2 ^ c) := by
          refine Nat.eq_of_mul_eq_mul_right ha ?_
          rw [h4]
          simp only [Nat.mul_assoc, Nat.mul_comm, Nat.mul_left_comm]
        have h6 : n * 2 ≤ n * (2 * 2 ^ c) := Nat.mul_le_mul_left _ (by omega)
        omega
      have hij : i = j := by
        simp only [tidy] at hx hy
        have px' : f.leastPlace ≤ i := px
        have py' : f.leastPlace ≤ j := py
        rcases Int.lt_trichotomy i j with hlt | heq | hgt
        · exact absurd hm (key m n _ _ (fun _ => by omega) (by omega) (by omega))
        · exact heq
        · exact absurd hm.symm (key n m _ _ (fun _ => by omega) (by omega) (by omega))
      subst hij
      rw [Nat.shiftLeft_eq, Nat.shiftLeft_eq] at hm
      rw [Nat.eq_of_mul_eq_mul_right (Nat.two_pow_pos _) hm]

/-- A word that is no NaN is known by its datum. -/
theorem word_of_read (f : Format) {a b : Nat} (ha : a < 2 ^ f.width) (hb : b < 2 ^ f.width) (h : f.read a = f.read b) (hn : ∀ s t, f.read a ≠ .nan s t) : a = b := by
  have hw : 2 ^ f.width = 2 * f.signWeight := by
    unfold Format.width Format.signWeight
    rw [Nat.add_assoc, Nat.add_comm 1, Nat.pow_succ, Nat.mul_comm]
  rw [hw] at ha hb
  have hneg : (a / f.signWeight % 2 == 1) = (b / f.signWeight % 2 == 1) := by rw [← read_neg, ← read_neg, h]
  have hsw : 0 < f.signWeight := Nat.two_pow_pos _
  have da : a / f.signWeight < 2 := by rw [Nat.div_lt_iff_lt_mul hsw]; omega
  have db : b / f.signWeight < 2 := by rw [Nat.div_lt_iff_lt_mul hsw]; omega
  have hdiv : a / f.signWeight = b / f.signWeight := by
    have h1 : ∀ n, n < 2 → ((n % 2 == 1) = true ↔ n = 1) := fun n hn => by
      have : n = 0 ∨ n = 1 := by omega
      rcases this with rfl | rfl <;> simp
    generalize a / f.signWeight = u at *
    generalize b / f.signWeight = v at *
    by_cases h2 : u = 1
    · have := (h1 _ db).1 (by rw [← hneg]; exact (h1 _ da).2 h2)
      omega
    · by_cases h3 : v = 1
      · have := (h1 _ da).1 (by rw [hneg]; exact (h1 _ db).2 h3)
        omega
      · omega
  have hmod : a % f.signWeight = b % f.signWeight := by
    unfold Format.read at h hn
    dsimp only at h hn
    have hbp : 0 < f.binade := Nat.two_pow_pos _
    generalize a % f.signWeight = p at *
    generalize b % f.signWeight = q at *
    have hp := Nat.div_add_mod p f.binade
    have hq := Nat.div_add_mod q f.binade
    have hpm := Nat.mod_lt p hbp
    have hqm := Nat.mod_lt q hbp
    by_cases p1 : p < f.binade
    · rw [if_pos p1] at h
      by_cases q1 : q < f.binade
      · rw [if_pos q1] at h; injection h
      · rw [if_neg q1] at h
        by_cases q2 : q < f.infRung
        · rw [if_pos q2] at h; injection h; omega
        · rw [if_neg q2] at h
          split at h <;> cases h
    · rw [if_neg p1] at h hn
      by_cases p2 : p < f.infRung
      · rw [if_pos p2] at h
        by_cases q1 : q < f.binade
        · rw [if_pos q1] at h; injection h; omega
        · rw [if_neg q1] at h
          by_cases q2 : q < f.infRung
          · rw [if_pos q2] at h
            injection h with _ h1 h2
            have hp1 : 0 < p / f.binade := Nat.div_pos (by omega) hbp
            have hq1 : 0 < q / f.binade := Nat.div_pos (by omega) hbp
            have : p / f.binade = q / f.binade := by omega
            rw [this] at hp
            omega
          · rw [if_neg q2] at h
            split at h <;> cases h
      · rw [if_neg p2] at h hn
        by_cases p3 : p = f.infRung
        · rw [if_pos p3] at h
          by_cases q1 : q < f.binade
          · rw [if_pos q1] at h; cases h
          · rw [if_neg q1] at h
            by_cases q2 : q < f.infRung
            · rw [if_pos q2] at h; cases h
            · rw [if_neg q2] at h
              by_cases q3 : q = f.infRung
              · omega
              · rw [if_neg q3] at h; cases h
        · rw [if_neg p3] at hn
          exact absurd rfl (hn _ _)
  have h1 := Nat.div_add_mod a f.signWeight
  have h2 := Nat.div_add_mod b f.signWeight
  rw [hdiv, hmod] at h1
  omega

/-- A word, known by its datum: all NaNs alike. -/
def same (k : FloatKind) (a b : Nat) : Bool := decide (cl k a = cl k b)

theorem cl_nan_iff (k : FloatKind) (b : Nat) : cl k b = NaN ↔ (cl k b).isNaN = true := by
  rcases cl_or k b with ⟨s, t, _, h⟩ | ⟨h, h'⟩
  · rw [h]; simp [NaN, Datum.isNaN]
  · rw [h]
    cases hd : k.decode b with
    | nan s t => exact absurd hd (h' s t)
    | number s m e => simp [NaN, Datum.isNaN]
    | infinity s => simp [NaN, Datum.isNaN]

/-- Equal as numbers and of one sign: the same datum; a NaN is equal to nothing. -/
theorem cl_eq_of {k : FloatKind} {a b : Nat} (h : feq (cl k a) (cl k b) = true) (hn : (cl k a).neg = (cl k b).neg) : cl k a = cl k b :=
  tidy_eq (cl_tidy k a) (cl_tidy k b) h hn

/-! ### float64(x) of a float32 -/
def wid (x : Datum) : Datum := match x with
  | .nan _ _ => NaN
  | d => cl .f64 (FloatKind.f64.encode d)

theorem cut_zero (way : Toward) (neg : Bool) (n : Nat) : way.cut neg n 0 = n := by
  unfold Toward.cut
  cases way <;> simp [Nat.mod_one]

theorem double_least : double.leastPlace = -1074 := by decide
theorem single_least : single.leastPlace = -149 := by decide
theorem double_binade : double.binade = 4503599627370496 := by decide
theorem single_binade : single.binade = 8388608 := by decide

theorem wide_read (s : Bool) {m : Nat} {e : Int} (h0 : 0 < m) (hm : m < 16777216) (h1 : -149 ≤ e) (h2 : e ≤ 104) :
    double.read (double.nearest s m e) = .number s (m <<< (52 - m.log2)) (e + m.log2 - 52) := by
  have hL : m.log2 ≤ 23 := by
    have := (Nat.log2_lt (n := m) (k := 24) (by omega)).2 (by omega)
    omega
  have hlo : 2 ^ m.log2 ≤ m := Nat.log2_self_le (by omega)
  have hhi : m < 2 ^ (m.log2 + 1) := Nat.lt_log2_self
  unfold Format.nearest
  dsimp only
  rw [if_neg (by omega)]
  have hfb : ((double.fractionBits : Nat) : Int) = 52 := rfl
  have hlast : max (e + (m.log2 : Int) - (double.fractionBits : Int)) double.leastPlace = e + m.log2 - 52 := by rw [hfb, double_least]; omega
  rw [hlast]
  have e1 : (e - (e + (m.log2 : Int) - 52)).toNat = 52 - m.log2 := by omega
  have e2 : ((e + (m.log2 : Int) - 52) - e).toNat = 0 := by omega
  rw [e1, e2, cut_zero, double_least]
  have hk1 : 4503599627370496 ≤ m <<< (52 - m.log2) := by
    rw [Nat.shiftLeft_eq]
    have : 2 ^ m.log2 * 2 ^ (52 - m.log2) = 4503599627370496 := by rw [← Nat.pow_add, show m.log2 + (52 - m.log2) = 52 by omega]
    rw [← this]
    exact Nat.mul_le_mul_right _ hlo
  have hk2 : m <<< (52 - m.log2) < 9007199254740992 := by
    rw [Nat.shiftLeft_eq]
    have : 2 ^ (m.log2 + 1) * 2 ^ (52 - m.log2) = 9007199254740992 := by rw [← Nat.pow_add, show m.log2 + 1 + (52 - m.log2) = 53 by omega]
    rw [← this]
    exact Nat.mul_lt_mul_of_pos_right hhi (Nat.two_pow_pos _)
  generalize m <<< (52 - m.log2) = k at *
  obtain ⟨q, hq⟩ : ∃ q : Nat, e + (m.log2 : Int) - 52 - (-1074) = q := ⟨(e + (m.log2 : Int) - 52 - (-1074)).toNat, by omega⟩
  rw [hq, Int.toNat_natCast, double_binade, double_inf, Nat.min_eq_left (by omega), read_rung double s (by rw [double_inf]; omega), double_binade, double_least, if_neg (by omega)]
  have a1 : 4503599627370496 + (q * 4503599627370496 + k) % 4503599627370496 = k := by omega
  have a2 : (q * 4503599627370496 + k) / 4503599627370496 - 1 = q := by omega
  rw [a1, a2]
  congr 1
  omega

theorem cl32_bounds (b : Nat) {s : Bool} {m : Nat} {e : Int} (h : cl .f32 b = .number s m e) : m < 16777216 ∧ -149 ≤ e ∧ e ≤ 104 := by
  have ht := cl_tidy .f32 b
  rw [h] at ht
  have hb : (FloatKind.f32).format.binade = 8388608 := single_binade
  have hl : (FloatKind.f32).format.leastPlace = -149 := single_least
  have he : e ≤ 104 := by
    rcases cl_or .f32 b with ⟨s', t', _, h'⟩ | ⟨h', _⟩
    · rw [h'] at h; cases h
    · rw [h] at h'
      have h'' : single.read b = .number s m e := h'.symm
      unfold Format.read at h''
      dsimp only at h''
      rw [single_binade, single_inf, single_least] at h''
      split at h''
      · injection h'' with _ _ h3; omega
      · split at h''
        · injection h'' with _ _ h3; omega
        · split at h'' <;> cases h''
  simp only [tidy, hb, hl] at ht
  omega

theorem wid_num (b : Nat) {s : Bool} {m : Nat} {e : Int} (h : cl .f32 b = .number s m e) :
    wid (cl .f32 b) = if m = 0 then .number s 0 (-1074) else .number s (m <<< (52 - m.log2)) (e + m.log2 - 52) := by
  obtain ⟨h1, h2, h3⟩ := cl32_bounds b h
  rw [h]
  unfold wid
  simp only
  unfold cl FloatKind.decode
  by_cases h0 : m = 0
  · rw [if_pos h0, h0]
    have : FloatKind.f64.encode (.number s 0 e) = double.word s 0 := by
      unfold FloatKind.encode Format.write Format.nearest
      rfl
    rw [this]
    cases s <;> decide
  · rw [if_neg h0]
    have hr := wide_read s (by omega) h1 h2 h3
    have : (FloatKind.f64).format.read (FloatKind.f64.encode (.number s m e)) = .number s (m <<< (52 - m.log2)) (e + m.log2 - 52) := hr
    rw [this]

theorem wid_isNum (b : Nat) (h : isNum (cl .f32 b) = true) : isNum (wid (cl .f32 b)) = true := by
  cases hc : cl .f32 b with
  | number s m e => rw [← hc, wid_num b hc]; split <;> rfl
  | infinity s => rw [hc] at h; cases h
  | nan s t => rw [hc] at h; cases h

/-- The value is kept. -/
theorem wid_iv (b : Nat) : iv (-1074) (wid (cl .f32 b)) = iv (-1074) (cl .f32 b) := by
  cases hc : cl .f32 b with
  | nan s t => rfl
  | infinity s => cases s <;> rfl
  | number s m e =>
    obtain ⟨h1, h2, h3⟩ := cl32_bounds b hc
    rw [← hc, wid_num b hc, hc]
    by_cases h0 : m = 0
    · rw [if_pos h0, h0]
      simp [iv, signed]
    · rw [if_neg h0]
      have hL : m.log2 ≤ 23 := by
        have := (Nat.log2_lt (n := m) (k := 24) (by omega)).2 (by omega)
        omega
      simp only [iv]
      have e1 : (e - (-1074)).toNat = (52 - m.log2) + (e + (m.log2 : Int) - 52 - (-1074)).toNat := by omega
      rw [e1]
      unfold signed
      rw [Nat.shiftLeft_add]

theorem wid_neg (b : Nat) (h : (cl .f32 b).isNaN = false) : (wid (cl .f32 b)).neg = (cl .f32 b).neg := by
  cases hc : cl .f32 b with
  | nan s t => rw [hc] at h; cases h
  | infinity s => cases s <;> decide
  | number s m e => rw [← hc, wid_num b hc, hc]; split <;> rfl

theorem wid_nan (b : Nat) : (wid (cl .f32 b)).isNaN = (cl .f32 b).isNaN := by
  cases hc : cl .f32 b with
  | nan s t => rfl
  | infinity s => cases s <;> decide
  | number s m e => rw [← hc, wid_num b hc, hc]; split <;> rfl

section
variable {P : Program} (w : World)
theorem run_widen (src dst : TypeId) (x : Nat) (hs : (P.underlying src).isSome = true) (hd : P.underlying dst = some (.float .f64)) :
    ∃ z n, (convert src dst (.float .f32 x)).run P w = .ok (.float .f64 z) (w.drewN n) ∧ cl .f64 z = wid (cl .f32 x) ∧ (Lit.float .f64 z).wf = true := by
  obtain ⟨u, hs'⟩ := Option.isSome_iff_exists.1 hs
  have hrun : (convert src dst (.float .f32 x)).run P w = (Conv.floatToFloat .f32 x .f64).run P w := by
    cases u <;> simp [convert, run_underlying hs', run_underlying hd]
  rw [hrun]
  unfold Conv.floatToFloat
  rw [if_neg (by decide)]
  cases hd' : FloatKind.f32.decode x with
  | nan s t =>
    obtain ⟨r, h1, h2, h3⟩ := run_nanConv (P := P) w .f64 x
    refine ⟨r, 1, ?_, ?_, h3⟩
    · simp only [Sem.run_bind, h1, Result.andThen_ok, Sem.run_pure]
    · rw [h2]; unfold cl; rw [hd']; rfl
  | infinity s =>
    refine ⟨_, 0, rfl, ?_, encode_wf .f64 (.infinity s)⟩
    unfold cl; rw [hd']; cases s <;> decide
  | number s m e =>
    have hc : cl .f32 x = .number s m e := by unfold cl; rw [hd']
    have hn := wid_num x hc
    have hw : wid (cl .f32 x) = cl .f64 (FloatKind.f64.encode (.number s m e)) := by rw [hc]; rfl
    refine ⟨FloatKind.f64.encode (.number s m e), 0, ?_, hw.symm, encode_wf .f64 (.number s m e)⟩
    have : (FloatKind.f64.decode (FloatKind.f64.encode (.number s m e))).isInfinity = false := by
      rw [hw] at hn
      rcases cl_or .f64 (FloatKind.f64.encode (.number s m e)) with ⟨s', t', h', h''⟩ | ⟨h', _⟩
      · rw [h']; rfl
      · rw [← h', hn]; split <;> rfl
    simp only [this, Bool.false_eq_true, if_false]
    rfl
end
section
variable {P : Program} {o : Oper} {a : Act} {K : Act → World → Prop} {Q : Exit → Act → World → Prop} {w : World}
theorem upon_widen (src dst : TypeId) (x : Nat) (hs : (P.underlying src).isSome = true) (hd : P.underlying dst = some (.float .f64))
    (h : ∀ z n, cl .f64 z = wid (cl .f32 x) → (Lit.float .f64 z).wf = true → K (a.put o.dst (.float .f64 z)) (w.drewN n)) :
    Oper.upon P o a K Q (((convert src dst (.float .f32 x)).run P w).andThen fun v w' => .ok (.value v) w') := by
  obtain ⟨z, n, h1, h2, h3⟩ := run_widen (P := P) w src dst x hs hd
  rw [h1]
  exact h z n h2 h3
end
end Go.Flt
