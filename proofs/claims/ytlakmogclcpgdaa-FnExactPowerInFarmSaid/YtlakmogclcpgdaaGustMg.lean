/-
  CONTRACTS: winds made smooth, the greatest of numbers.
-/
import Derived.Lib.MinMax
import Derived.BigQuiet
import Derived.Deep.QuietTactic
import Derived.Test.YtlakmogclcpgdaaSpreadMg
import Derived.Test.YtlakmogclcpgdaaNegMg
namespace Go.Flt
open Go Ieee
set_option linter.unusedVariables false

theorem sgn_ge (m k : Nat) : 0 ≤ signed false m k := Int.natCast_nonneg _

theorem sgn_zero (s : Bool) (k : Nat) : signed s 0 k = 0 := by cases s <;> simp [signed]

theorem sgn_lt {m : Nat} (k : Nat) (h : 0 < m) : signed true m k < 0 := by
  have hp : 0 < m <<< k := by rw [Nat.shiftLeft_eq]; exact Nat.mul_pos h (Nat.two_pow_pos _)
  unfold signed
  generalize m <<< k = a at hp
  simp; omega

/-- No NaN, and its sign is plus. -/
def up (x : Datum) : Bool := !x.isNaN && !x.neg

theorem up_rnd {d : Datum} (h : up d = true) : up (rnd .f32 (some d)) = true := by
  have hn := write_neg single (d := d)
  have e : rnd .f32 (some d) = rd .f32 d := rfl
  cases d with
  | nan s t => simp [up, Datum.isNaN] at h
  | infinity s =>
    cases s
    · decide +kernel
    · simp [up, Datum.neg] at h
  | number s m p =>
    rw [e, rd_num]
    have e2 : FloatKind.f32.format.word s (rung FloatKind.f32.format (.number s m p)) = single.write (.number s m p) := (write_rung single s m p).symm
    rw [e2]
    simp only [up] at h ⊢
    rw [show FloatKind.f32.format = single from rfl, hn]
    have hr := rung_le single (.number s m p)
    have : (single.read (single.write (.number s m p))).isNaN = false := by
      rw [write_rung]
      generalize rung single (.number s m p) = r at hr
      by_cases hi : r = single.infRung
      · subst hi; rw [read_inf single (fmt_inf .f32)]; rfl
      · rw [read_rung _ s (by omega)]
        split <;> rfl
    rw [this]
    simpa [Datum.isNaN] using h

theorem least_num {y : Datum} (h : isNum y = true) (hg : (flt (cl .f32 0) y || feq y (cl .f32 0)) = true) : ∃ t n j, y = .number t n j ∧ (t = true → n = 0) := by
  cases y with
  | nan s t => cases h
  | infinity s => cases h
  | number t n j =>
    refine ⟨t, n, j, rfl, fun ht => ?_⟩
    subst ht
    rw [cl_zero32] at hg
    by_cases h0 : n = 0
    · exact h0
    · exfalso
      have p1 : place (min (-149) j) (.number false 0 (-149)) := by show min (-149) j ≤ (-149 : Int); omega
      have p2 : place (min (-149) j) (.number true n j) := by show min (-149) j ≤ j; omega
      have hp := sgn_lt (j - min (-149) j).toNat (Nat.pos_of_ne_zero h0)
      rw [flt_num (min (-149) j) rfl rfl p1 p2, feq_num (min (-149) j) rfl rfl p2 p1] at hg
      simp only [iv, sgn_zero, Bool.or_eq_true, decide_eq_true_eq] at hg
      omega

theorem up_add {x y : Datum} (hx : up x = true) (hy : isNum y = true) (hg : (flt (cl .f32 0) y || feq y (cl .f32 0)) = true) : up (fop .add .f32 x y) = true := by
  obtain ⟨t, n, j, rfl, hz⟩ := least_num hy hg
  cases x with
  | nan s t => simp [up, Datum.isNaN] at hx
  | infinity s => exact up_rnd hx
  | number s m i =>
    have hs : s = false := by simpa [up, Datum.isNaN, Datum.neg] using hx
    subst hs
    refine up_rnd ?_
    simp only [up, Datum.isNaN, Datum.neg, Bool.not_false, Bool.true_and, Bool.false_and, Bool.not_eq_true']
    split
    · rfl
    · rename_i h0
      refine decide_eq_false ?_
      cases t
      · have := sgn_ge m (i - min i j).toNat; have := sgn_ge n (j - min i j).toNat; omega
      · rw [hz rfl, sgn_zero]; have := sgn_ge m (i - min i j).toNat; omega

theorem up_quo {x : Datum} {n : Nat} {p : Int} (hx : up x = true) (hn : 0 < n) : up (fop .quo .f32 x (.number false n p)) = true := by
  cases x with
  | nan s t => simp [up, Datum.isNaN] at hx
  | infinity s =>
    refine up_rnd ?_
    simpa [up, Datum.isNaN, Datum.neg] using hx
  | number s m i =>
    have e : (Datum.number s m i).quotient (FloatKind.f32.format.fractionBits + 2) (.number false n p) = some (.number (s ^^ false) (2 * ((m <<< (FloatKind.f32.format.fractionBits + 2 + n.log2 - m.log2)) / n) + ((m <<< (FloatKind.f32.format.fractionBits + 2 + n.log2 - m.log2)) % n != 0).toNat) (i - p - (FloatKind.f32.format.fractionBits + 2 + n.log2 - m.log2 : Nat) - 1)) := by
      show (if n = 0 then _ else _) = _
      rw [if_neg (by omega)]
    show up (rnd .f32 _) = true
    rw [e]
    refine up_rnd ?_
    simpa [up, Datum.isNaN, Datum.neg] using hx

/-- The greater one. -/
def mx (x y : Datum) : Datum := if flt x y then y else x

theorem mx_zero {b : Nat} (h : up (cl .f32 b) = true) (hn : isNum (cl .f32 b) = true) : mx (cl .f32 0) (cl .f32 b) = cl .f32 b := by
  unfold mx
  split
  · rfl
  · rename_i h0
    have hneg : (cl .f32 b).neg = false := by simp [up] at h; exact h.2
    refine tidy_eq (cl_tidy .f32 0) (cl_tidy .f32 b) ?_ (by rw [hneg]; decide)
    have ht := cl_tidy .f32 b
    generalize cl .f32 b = d at *
    cases d with
    | nan s t => cases hn
    | infinity s => cases hn
    | number s m p =>
      obtain rfl : s = false := hneg
      rw [cl_zero32] at h0 ⊢
      have p1 : place (min (-149) p) (.number false 0 (-149)) := by show min (-149) p ≤ (-149 : Int); omega
      have p2 : place (min (-149) p) (.number false m p) := by show min (-149) p ≤ p; omega
      rw [flt_num (min (-149) p) rfl rfl p1 p2] at h0
      rw [feq_num (min (-149) p) rfl rfl p1 p2]
      simp only [iv, sgn_zero, decide_eq_true_eq] at h0 ⊢
      have := sgn_ge m (p - min (-149) p).toNat
      omega

theorem mx_up {x y : Datum} (hx : up x = true) (hy : up y = true) : up (mx x y) = true := by
  unfold mx; split <;> assumption

theorem mx_num {x y : Datum} (hx : isNum x = true) (hy : isNum y = true) : isNum (mx x y) = true := by
  unfold mx; split <;> assumption

/-- The greatest of the first k. -/
def mstTo (ds : List Datum) : Nat → Datum
  | 0 => cl .f32 0
  | k + 1 => mx (mstTo ds k) (ds.getD k NaN)

end Go.Flt

namespace Go.Proofs.Ytlakmogclcpgdaa
open Go.RowKit Go.Flt
set_option linter.unusedVariables false
set_option maxRecDepth 100000
set_option linter.unusedSimpArgs false

theorem floatOfInt_pos (n : Nat) (h0 : 0 < n) (h : n ≤ 1048576) : ∃ m p, cl .f32 (floatOfInt .f32 n) = .number false m p ∧ 0 < m := by
  have e : cl .f32 (floatOfInt .f32 n) = rd .f32 (.number false n 0) := by
    have : cl .f32 (floatOfInt .f32 n) = rd .f32 (.number (decide ((n : Int) < 0)) (n : Int).natAbs 0) := rfl
    rw [this]
    rw [decide_eq_false (by omega)]
    rfl
  obtain ⟨h1, h2, _⟩ := rd_between .f32 (x := .number false n 0) (a := 1065353216) (b := 2134900736) rfl (by rw [c_one32]; rfl) (by rw [c_hi32]; rfl)
    (by rw [c_one32, leF_num (-23) rfl rfl (by show (-23 : Int) ≤ -23; omega) (by show (-23 : Int) ≤ 0; omega)]; refine decide_eq_true ?_; simp only [iv, Ieee.signed, Bool.false_eq_true, if_false, Nat.shiftLeft_eq]; rw [show ((-23 : Int) - -23).toNat = 0 from rfl, show ((0 : Int) - -23).toNat = 23 from rfl]; omega)
    (by rw [c_hi32, leF_num (0) rfl rfl (by show (0 : Int) ≤ 0; omega) (by show (0 : Int) ≤ 104; omega)]; refine decide_eq_true ?_; simp only [iv, Ieee.signed, Bool.false_eq_true, if_false, Nat.shiftLeft_eq]; rw [show ((0 : Int) - 0).toNat = 0 from rfl, show ((104 : Int) - 0).toNat = 104 from rfl]; omega)
  rw [e]
  generalize rd .f32 (.number false n 0) = d at *
  cases d with
  | nan s t => cases h1
  | infinity s => cases h1
  | number s m p =>
    rw [c_one32, leF_num (min (-23) p) rfl rfl (by show min (-23) p ≤ (-23 : Int); omega) (by show min (-23) p ≤ p; omega)] at h2
    have h2 := of_decide_eq_true h2
    simp only [iv, Ieee.signed, Bool.false_eq_true, if_false, Nat.shiftLeft_eq] at h2
    have hp := Nat.two_pow_pos (-23 - min (-23) p).toNat
    have hq : 0 < 8388608 * 2 ^ (-23 - min (-23) p).toNat := Nat.mul_pos (by omega) hp
    cases s
    · simp only [Bool.false_eq_true, if_false] at h2
      refine ⟨m, p, rfl, ?_⟩
      rcases Nat.eq_zero_or_pos m with h0 | h0
      · rw [h0, Nat.zero_mul] at h2; omega
      · exact h0
    · simp only [if_true] at h2
      omega

theorem sum_up {xs : List Nat} (h : allLeast xs = true) : ∀ k, k ≤ xs.length → up (sumTo xs k) = true := by
  intro k
  induction k with
  | zero => intro _; show up (cl .f32 0) = true; decide
  | succ k ih =>
    intro hk
    have hx : least (cl .f32 (xs.getD k 0)) = true := by
      unfold allLeast at h
      rw [List.all_eq_true] at h
      have := h xs[k] (List.getElem_mem (by omega))
      simpa [List.getD, List.getElem?_eq_getElem (show k < xs.length by omega)] using this
    unfold least at hx
    rw [Bool.and_eq_true, fin_eq] at hx
    exact up_add (ih (by omega)) hx.1 hx.2

theorem mean_up {xs : List Nat} (h : allLeast xs = true) (h0 : 0 < xs.length) (hn : xs.length ≤ 1048576) : up (meanD xs) = true := by
  obtain ⟨m, p, e, hm⟩ := floatOfInt_pos xs.length h0 hn
  unfold meanD
  rw [e]
  exact up_quo (sum_up h _ (Nat.le_refl _)) hm

end Go.Proofs.Ytlakmogclcpgdaa

/-
  PLAIN LAWS for the power of a disc: products, quotients and their bounds; a half.
-/
namespace Go.Flt
open Go Ieee
set_option linter.unusedVariables false

theorem iv_down {x : Datum} (hx : isNum x = true) (B C : Int) (h : C ≤ B) (px : place B x) : iv C x = iv B x * ((2 ^ (B - C).toNat : Nat) : Int) := by
  cases x with
  | nan s t => cases hx
  | infinity s => cases hx
  | number s m i => exact (iv_shift C s m i B h px).symm

theorem signed_eq (s : Bool) (m k : Nat) : signed s m k = (if s then -1 else 1) * ((m * 2 ^ k : Nat) : Int) := by
  unfold signed
  rw [Nat.shiftLeft_eq]
  generalize m * 2 ^ k = a
  cases s <;> simp

theorem mul_num {x y : Datum} (hx : isNum x = true) (hy : isNum y = true) : ∃ d, x.product y = some d ∧ isNum d = true ∧ ∀ B C, place B x → place C y → place (B + C) d ∧ iv (B + C) d = iv B x * iv C y := by
  cases x <;> simp only [isNum] at hx <;> first | (cases hx; done) | skip
  cases y <;> simp only [isNum] at hy <;> first | (cases hy; done) | skip
  rename_i s m i t n j
  refine ⟨.number (s ^^ t) (m * n) (i + j), rfl, rfl, fun B C h1 h2 => ?_⟩
  have h1 : B ≤ i := h1
  have h2 : C ≤ j := h2
  refine ⟨by show B + C ≤ i + j; omega, ?_⟩
  simp only [iv]
  have e : (i + j - (B + C)).toNat = (i - B).toNat + (j - C).toNat := by omega
  rw [signed_eq, signed_eq, signed_eq, e, Nat.pow_add]
  generalize 2 ^ (i - B).toNat = a
  generalize 2 ^ (j - C).toNat = b
  have e2 : ((m * n * (a * b) : Nat) : Int) = ((m * a : Nat) : Int) * ((n * b : Nat) : Int) := by
    rw [← Int.natCast_mul]
    congr 1
    rw [Nat.mul_mul_mul_comm]
  rw [e2]
  generalize ((m * a : Nat) : Int) = u
  generalize ((n * b : Nat) : Int) = v
  cases s <;> cases t <;> simp [Int.neg_mul, Int.mul_neg]

theorem fop_mul {k : FloatKind} {x y : Datum} (hx : isNum x = true) (hy : isNum y = true) : ∃ d, fop .mul k x y = rd k d ∧ isNum d = true ∧ ∀ B C, place B x → place C y → place (B + C) d ∧ iv (B + C) d = iv B x * iv C y := by
  obtain ⟨d, h1, h2, h3⟩ := mul_num hx hy
  exact ⟨d, by simp only [fop, h1]; rfl, h2, h3⟩

/-- What is not less than a word is not rounded to less than it. -/
theorem rd_ge {d : Datum} {c : Nat} (hd : isNum d = true) (hc : isNum (cl .f32 c) = true) (h : leF (cl .f32 c) d = true) : leF (cl .f32 c) (rd .f32 d) = true := by
  have := rd_mono .f32 hc hd h
  rwa [rd_fix .f32 c hc] at this

theorem add_ge {x y : Datum} {c : Nat} (hx : isNum x = true) (hy : isNum y = true) (hc : isNum (cl .f32 c) = true) (px : place (-149) x) (py : place (-149) y) (pc : place (-149) (cl .f32 c))
    (h : iv (-149) (cl .f32 c) ≤ iv (-149) x + iv (-149) y) : leF (cl .f32 c) (fop .add .f32 x y) = true := by
  obtain ⟨d, e, hd, hv⟩ := fop_add (k := .f32) hx hy
  obtain ⟨v1, v2⟩ := hv _ px py
  rw [e]
  refine rd_ge hd hc ?_
  rw [leF_num (-149) hc hd pc v1, v2]
  exact decide_eq_true h

theorem sub_ge {x y : Datum} {c : Nat} (hx : isNum x = true) (hy : isNum y = true) (hc : isNum (cl .f32 c) = true) (px : place (-149) x) (py : place (-149) y) (pc : place (-149) (cl .f32 c))
    (h : iv (-149) (cl .f32 c) ≤ iv (-149) x - iv (-149) y) : leF (cl .f32 c) (fop .sub .f32 x y) = true := by
  obtain ⟨d, e, hd, hv⟩ := fop_sub (k := .f32) hx hy
  obtain ⟨v1, v2⟩ := hv _ px py
  rw [e]
  refine rd_ge hd hc ?_
  rw [leF_num (-149) hc hd pc v1, v2]
  exact decide_eq_true h

def t149 : Int := ((tw 149 : Nat) : Int)

theorem t149_pos : 0 < t149 := by have := tw_pos 149; unfold t149; omega

theorem mul_ge {x y : Datum} {c : Nat} (hx : isNum x = true) (hy : isNum y = true) (hc : isNum (cl .f32 c) = true) (px : place (-149) x) (py : place (-149) y) (pc : place (-149) (cl .f32 c))
    (h : iv (-149) (cl .f32 c) * t149 ≤ iv (-149) x * iv (-149) y) : leF (cl .f32 c) (fop .mul .f32 x y) = true := by
  obtain ⟨d, e, hd, hv⟩ := fop_mul (k := .f32) hx hy
  obtain ⟨v1, v2⟩ := hv _ _ px py
  rw [e]
  refine rd_ge hd hc ?_
  have pc2 : place (-149 + -149) (cl .f32 c) := by
    cases hcc : cl .f32 c with
    | number s m i => rw [hcc] at pc; have pc : (-149 : Int) ≤ i := pc; show (-149 + -149 : Int) ≤ i; omega
    | nan s t => trivial
    | infinity s => trivial
  rw [leF_num (-149 + -149) hc hd pc2 v1, v2, iv_down hc (-149) (-149 + -149) (by omega) pc]
  exact decide_eq_true h

theorem pl32 (w : Nat) : place (-149) (cl .f32 w) := tidy_place (cl_tidy .f32 w)

theorem pl_rd (d : Datum) : place (-149) (rd .f32 d) := pl32 _

theorem pl_fop (op : BinOp) (x y : Datum) : place (-149) (fop op .f32 x y) := by
  have hr : ∀ o, place (-149) (rnd .f32 o) := by
    intro o
    cases o with
    | none => trivial
    | some d => exact pl32 _
  cases op <;> first | exact hr _ | trivial

/-- From a bound by order to a bound by value. -/
theorem ge_iv {x : Datum} {c : Nat} (hx : isNum x = true) (hc : isNum (cl .f32 c) = true) (px : place (-149) x) (h : leF (cl .f32 c) x = true) : iv (-149) (cl .f32 c) ≤ iv (-149) x := by
  rw [leF_num (-149) hc hx (pl32 c) px] at h
  exact of_decide_eq_true h

theorem iv149_of (s : Bool) (m : Nat) (i : Int) (k : Nat) (h : i + 149 = k) : iv (-149) (.number s m i) = if s then -((m * tw k : Nat) : Int) else ((m * tw k : Nat) : Int) := by
  have e : (i - -149).toNat = k := by omega
  simp only [iv, signed, e, Nat.shiftLeft_eq, tw_eq]

theorem c_mone32 : cl .f32 3212836864 = .number true 8388608 (-23) := by decide +kernel

theorem iv_one149 : iv (-149) (cl .f32 1065353216) = t149 := by
  rw [c_one32, iv149_of false _ _ 126 (by omega)]
  have e : tw 149 = tw 23 * tw 126 := tw_add 23 126
  have e2 : tw 23 = 8388608 := by decide
  unfold t149
  rw [e, e2]
  rfl

theorem iv_mone149 : iv (-149) (cl .f32 3212836864) = -t149 := by
  rw [c_mone32, iv149_of true _ _ 126 (by omega)]
  have e : tw 149 = tw 23 * tw 126 := tw_add 23 126
  have e2 : tw 23 = 8388608 := by decide
  unfold t149
  rw [e, e2]
  rfl

theorem iv_zero149 : iv (-149) (cl .f32 0) = 0 := by rw [cl_zero32]; exact sgn_zero _ _

/-- A quotient of a number that is not below minus the divisor. -/
theorem quo_ge {x y : Datum} (hx : isNum x = true) (hy : isNum y = true) (px : place (-149) x) (py : place (-149) y) (mx : ∀ s m i, x = .number s m i → m < 16777216) (h0 : 0 < iv (-149) y) (h : -iv (-149) y ≤ iv (-149) x) :
    leF (cl .f32 3212836864) (fop .quo .f32 x y) = true := by
  cases x <;> simp only [isNum] at hx <;> first | (cases hx; done) | skip
  cases y <;> simp only [isNum] at hy <;> first | (cases hy; done) | skip
  rename_i s m i t n j
  have hi : -149 ≤ i := px
  have hj : -149 ≤ j := py
  obtain ⟨a, ha⟩ : ∃ a : Nat, i + 149 = a := ⟨(i + 149).toNat, by omega⟩
  obtain ⟨b, hb⟩ : ∃ b : Nat, j + 149 = b := ⟨(j + 149).toNat, by omega⟩
  rw [iv149_of t n j b hb] at h0 h
  rw [iv149_of s m i a ha] at h
  have ht : t = false := by
    cases t
    · rfl
    · simp only [if_true] at h0; omega
  subst ht
  simp only [Bool.false_eq_true, if_false] at h0 h
  have hn : n ≠ 0 := by rintro rfl; simp at h0
  have hq : (Datum.number s m i).quotient (FloatKind.f32.format.fractionBits + 2) (.number false n j) = some (.number (s ^^ false) (2 * ((m <<< (25 + n.log2 - m.log2)) / n) + ((m <<< (25 + n.log2 - m.log2)) % n != 0).toNat) (i - j - (25 + n.log2 - m.log2 : Nat) - 1)) := by
    show (if n = 0 then _ else _) = _
    rw [if_neg hn]
    rfl
  have e : fop .quo .f32 (.number s m i) (.number false n j) = rd .f32 (.number (s ^^ false) (2 * ((m <<< (25 + n.log2 - m.log2)) / n) + ((m <<< (25 + n.log2 - m.log2)) % n != 0).toNat) (i - j - (25 + n.log2 - m.log2 : Nat) - 1)) := by
    show rnd .f32 _ = _
    rw [hq]
    rfl
  rw [e]
  refine rd_ge rfl (by rw [c_mone32]; rfl) ?_
  rw [c_mone32]
  generalize hD : m <<< (25 + n.log2 - m.log2) = D
  rw [Nat.shiftLeft_eq] at hD
  cases s
  · generalize 2 * (D / n) + (D % n != 0).toNat = M
    generalize i - j - ((25 + n.log2 - m.log2 : Nat) : Int) - 1 = E
    rw [leF_num (min (-23) E) rfl rfl (by show min (-23) E ≤ (-23 : Int); omega) (by show min (-23) E ≤ E; omega)]
    refine decide_eq_true ?_
    simp only [iv, Bool.xor_false]
    have := sgn_ge M (E - min (-23) E).toNat
    have := sgn_lt (m := 8388608) (-23 - min (-23) E).toNat (by omega)
    omega
  · simp only [if_true] at h
    have h : m * tw a ≤ n * tw b := by omega
    have hm := mx _ _ _ rfl
    by_cases hm0 : m = 0
    · subst hm0
      rw [Nat.zero_mul] at hD
      subst hD
      rw [leF_num (min (-23) (i - j - ((25 + n.log2 - Nat.log2 0 : Nat) : Int) - 1)) rfl rfl (by show min (-23) _ ≤ (-23 : Int); omega) (by show min (-23) (i - j - ((25 + n.log2 - Nat.log2 0 : Nat) : Int) - 1) ≤ _; omega)]
      refine decide_eq_true ?_
      simp only [Nat.zero_div, Nat.mul_zero, Nat.zero_mod, bne_self_eq_false, Bool.toNat_false, Nat.add_zero, iv, sgn_zero]
      have := sgn_lt (m := 8388608) (-23 - min (-23) (i - j - ((25 + n.log2 - Nat.log2 0 : Nat) : Int) - 1)).toNat (by omega)
      omega
    have hml : m.log2 ≤ 23 := by
      have := (Nat.log2_lt (n := m) (k := 24) hm0).2 (by omega)
      omega
    have hmlo : tw m.log2 ≤ m := Nat.log2_self_le hm0
    have hnlo : n < tw (n.log2 + 1) := Nat.lt_log2_self
    -- the greatest digit of the one is not above that of the other
    have hab : a + m.log2 < n.log2 + 1 + b := by
      refine Nat.lt_of_not_le fun hc => ?_
      have a1 := tw_le hc
      rw [tw_add (n.log2 + 1) b, tw_add a m.log2] at a1
      have a2 : tw a * tw m.log2 ≤ tw a * m := Nat.mul_le_mul_left _ hmlo
      have a3 : n * tw b < tw (n.log2 + 1) * tw b := Nat.mul_lt_mul_of_pos_right hnlo (tw_pos b)
      rw [Nat.mul_comm (tw a) m] at a2
      omega
    obtain ⟨T, hT⟩ : ∃ T : Nat, (25 + n.log2 - m.log2 : Nat) + b = T + a := ⟨25 + n.log2 - m.log2 + b - a, by omega⟩
    have hE : i - j - ((25 + n.log2 - m.log2 : Nat) : Int) - 1 = -((T : Int) + 1) := by omega
    rw [hE]
    have hT25 : 25 ≤ T := by omega
    have hDn : D ≤ n * tw T := by
      refine Nat.le_of_mul_le_mul_right ?_ (tw_pos a)
      rw [Nat.mul_assoc, ← tw_add, ← hT, tw_add, ← hD, ← Nat.mul_assoc, tw_eq, Nat.mul_right_comm, Nat.mul_right_comm n]
      exact Nat.mul_le_mul_right _ h
    clear hT hD hE
    have hM : 2 * (D / n) + (D % n != 0).toNat ≤ 2 * tw T := by
      have d1 := Nat.div_add_mod D n
      have hb : (D % n != 0).toNat ≤ 1 := by cases (D % n != 0) <;> simp
      rcases Nat.lt_or_ge (D / n) (tw T) with h1 | h1
      · omega
      · have h2 : n * tw T ≤ n * (D / n) := Nat.mul_le_mul_left _ h1
        have h3 : D / n ≤ tw T := Nat.div_le_of_le_mul (by omega)
        have h4 : D % n = 0 := by omega
        rw [h4]
        simp
        omega
    generalize 2 * (D / n) + (D % n != 0).toNat = M at hM ⊢
    rw [leF_num (-((T : Int) + 1)) rfl rfl (by show -((T : Int) + 1) ≤ (-23 : Int); omega) (by show -((T : Int) + 1) ≤ -((T : Int) + 1); omega)]
    refine decide_eq_true ?_
    simp only [iv, Bool.xor_false, signed, if_true, Nat.shiftLeft_eq]
    have e1 : (-((T : Int) + 1) - -((T : Int) + 1)).toNat = 0 := by omega
    have e2 : (-23 - -((T : Int) + 1)).toNat = T + 1 - 23 := by omega
    have e3 : 8388608 * 2 ^ (T + 1 - 23) = 2 * tw T := by
      have : tw 23 * tw (T + 1 - 23) = tw (T + 1) := by rw [← tw_add]; congr 1; omega
      rw [tw_eq, ← tw_succ, ← this]
      rfl
    rw [e1, e2, e3]
    omega

end Go.Flt

/-
  PLAIN LAWS for the power of a disc: heights, speeds, a half.
-/
namespace Go.Flt
open Go Ieee
set_option linter.unusedVariables false

theorem tidy_lt {d : Datum} (h : tidy FloatKind.f32.format d) : ∀ s m i, d = .number s m i → m < 16777216 := by
  rintro s m i rfl
  have hb : FloatKind.f32.format.binade = 8388608 := by decide
  simp only [tidy, hb] at h
  omega

theorem tidy_fop (op : BinOp) (x y : Datum) : tidy FloatKind.f32.format (fop op .f32 x y) := by
  have hr : ∀ o, tidy FloatKind.f32.format (rnd .f32 o) := by
    intro o
    cases o with
    | none => trivial
    | some d => exact cl_tidy .f32 _
  cases op <;> first | exact hr _ | trivial

theorem small_ok : ∀ n : Fin 129, isNum (cl .f32 (floatOfInt .f32 ((n.val : Int) - 64))) = true ∧ iv (-149) (cl .f32 (floatOfInt .f32 ((n.val : Int) - 64))) = ((n.val : Int) - 64) * t149 := by
  unfold t149 tw
  decide +kernel

theorem small_iv (a : Int) (h1 : -64 ≤ a) (h2 : a ≤ 64) : isNum (cl .f32 (floatOfInt .f32 a)) = true ∧ iv (-149) (cl .f32 (floatOfInt .f32 a)) = a * t149 := by
  have := small_ok ⟨(a + 64).toNat, by omega⟩
  have e : (((⟨(a + 64).toNat, by omega⟩ : Fin 129).val : Int) - 64) = a := by show (((a + 64).toNat : Nat) : Int) - 64 = a; omega
  rwa [e] at this

theorem xk_ge {a p : Int} (h1 : 1 ≤ p) (h2 : p ≤ 64) (h3 : -p ≤ a) (h4 : a ≤ 64) : leF (cl .f32 3212836864) (fop .quo .f32 (cl .f32 (floatOfInt .f32 a)) (cl .f32 (floatOfInt .f32 p))) = true := by
  obtain ⟨a1, a2⟩ := small_iv a (by omega) h4
  obtain ⟨p1, p2⟩ := small_iv p (by omega) h2
  have ht := t149_pos
  refine quo_ge a1 p1 (pl32 _) (pl32 _) (tidy_lt (cl_tidy .f32 _)) ?_ ?_
  · rw [p2]; exact Int.mul_pos (by omega) ht
  · rw [p2, a2, ← Int.neg_mul]
    exact Int.mul_le_mul_of_nonneg_right h3 (Int.le_of_lt ht)

theorem iv_neg32 {w : Nat} (hw : (Lit.float .f32 w).wf = true) (h : isNum (cl .f32 w) = true) : isNum (cl .f32 (Op.negFloat .f32 w)) = true ∧ iv (-149) (cl .f32 (Op.negFloat .f32 w)) = -iv (-149) (cl .f32 w) := by
  rw [cl_neg .f32 hw, opp_opposite h]
  obtain ⟨o1, o2⟩ := opp_num h
  exact ⟨o1, (o2 _ (pl32 w)).2⟩

theorem num_one : isNum (cl .f32 1065353216) = true := by rw [c_one32]; rfl
theorem num_mone : isNum (cl .f32 3212836864) = true := by rw [c_mone32]; rfl
theorem num_zero : isNum (cl .f32 0) = true := by rw [cl_zero32]; rfl

/-- A height of a part of a disc. -/
theorem z_ge {ht r : Nat} {x : Datum} (hw : (Lit.float .f32 r).wf = true) (hr : isNum (cl .f32 r) = true) (hr0 : flt (cl .f32 0) (cl .f32 r) = true) (hh : isNum (cl .f32 ht) = true) (hle : flt (cl .f32 ht) (cl .f32 r) = false)
    (hx : leF (cl .f32 3212836864) x = true) (px : place (-149) x) (hz : isNum (fop .add .f32 (cl .f32 ht) (fop .mul .f32 (cl .f32 r) x)) = true) : leF (cl .f32 0) (fop .add .f32 (cl .f32 ht) (fop .mul .f32 (cl .f32 r) x)) = true := by
  obtain ⟨_, n1⟩ := num_add hz
  obtain ⟨_, n2⟩ := num_mul n1
  have x1 := ge_iv n2 num_mone px hx
  rw [iv_mone149] at x1
  obtain ⟨g1, g2⟩ := iv_neg32 hw hr
  rw [flt_num (-149) num_zero hr (pl32 _) (pl32 _), iv_zero149] at hr0
  have hr0 := of_decide_eq_true hr0
  rw [flt_num (-149) hh hr (pl32 _) (pl32 _)] at hle
  have hle := of_decide_eq_false hle
  have p1 := mul_ge (c := Op.negFloat .f32 r) hr n2 g1 (pl32 r) px (pl32 _) (by
    rw [g2, Int.neg_mul, ← Int.mul_neg]
    exact Int.mul_le_mul_of_nonneg_left x1 (Int.le_of_lt hr0))
  have p2 := ge_iv n1 g1 (pl_fop _ _ _) p1
  rw [g2] at p2
  exact add_ge hh n1 num_zero (pl32 _) (pl_fop _ _ _) (pl32 _) (by rw [iv_zero149]; omega)

/-- The speed at a height. -/
def spd (v s h : Nat) (z : Datum) : Datum :=
  fop .mul .f32 (cl .f32 v) (fop .add .f32 (cl .f32 1065353216) (fop .mul .f32 (cl .f32 s) (fop .quo .f32 (fop .sub .f32 z (cl .f32 h)) (fop .add .f32 z (cl .f32 h)))))

theorem spd_num {v s h : Nat} {z : Datum} (hn : isNum (spd v s h z) = true) : isNum z = true := by
  obtain ⟨_, n1⟩ := num_mul hn
  obtain ⟨_, n2⟩ := num_add n1
  obtain ⟨_, n3⟩ := num_mul n2
  exact (num_sub (num_quo n3)).1

theorem spd_ge {v s h : Nat} {z : Datum} (hw : (Lit.float .f32 h).wf = true) (pz : place (-149) z) (hz : leF (cl .f32 0) z = true) (hh : isNum (cl .f32 h) = true) (hh0 : flt (cl .f32 0) (cl .f32 h) = true)
    (s0 : leF (cl .f32 0) (cl .f32 s) = true) (s1 : leF (cl .f32 s) (cl .f32 1065353216) = true) (hv : leF (cl .f32 0) (cl .f32 v) = true) (hn : isNum (spd v s h z) = true) : leF (cl .f32 0) (spd v s h z) = true := by
  obtain ⟨nv, n1⟩ := num_mul hn
  obtain ⟨_, n2⟩ := num_add n1
  obtain ⟨ns, n3⟩ := num_mul n2
  have n4 := num_quo n3
  have nz := (num_sub n4).1
  have ht := t149_pos
  have z0 := ge_iv nz num_zero pz hz
  rw [iv_zero149] at z0
  rw [flt_num (-149) num_zero hh (pl32 _) (pl32 _), iv_zero149] at hh0
  have hh0 := of_decide_eq_true hh0
  obtain ⟨g1, g2⟩ := iv_neg32 hw hh
  have A1 := ge_iv n4 g1 (pl_fop _ _ _) (sub_ge (c := Op.negFloat .f32 h) nz hh g1 pz (pl32 _) (pl32 _) (by rw [g2]; omega))
  rw [g2] at A1
  have C1 := add_ge (c := h) nz hh hh pz (pl32 _) (pl32 _) (by omega)
  have Q1 : leF (cl .f32 3212836864) (fop .quo .f32 (fop .sub .f32 z (cl .f32 h)) (fop .add .f32 z (cl .f32 h))) = true := by
    have pC := pl_fop .add z (cl .f32 h)
    have pA := pl_fop .sub z (cl .f32 h)
    have tA := tidy_lt (tidy_fop .sub z (cl .f32 h))
    generalize fop .add .f32 z (cl .f32 h) = C at *
    generalize fop .sub .f32 z (cl .f32 h) = A at *
    cases hC : C with
    | number t n j =>
      rw [← hC]
      have nC : isNum C = true := by rw [hC]; rfl
      have C2 := ge_iv nC hh pC C1
      exact quo_ge n4 nC pA pC tA (by omega) (by omega)
    | infinity t =>
      cases A <;> simp only [isNum] at n4 <;> first | (cases n4; done) | skip
      rename_i sA mA iA
      show leF _ (rd .f32 (.number (sA ^^ t) 0 0)) = true
      refine rd_ge rfl num_mone ?_
      rw [c_mone32]
      cases (sA ^^ t) <;> decide +kernel
    | nan s t => rw [hC] at C1; cases hc : cl .f32 h <;> rw [hc] at C1 <;> simp [leF, flt, feq, Datum.order] at C1
  have q1 := ge_iv n3 num_mone (pl_fop _ _ _) Q1
  rw [iv_mone149] at q1
  have s0 := ge_iv ns num_zero (pl32 _) s0
  rw [iv_zero149] at s0
  have s1 : iv (-149) (cl .f32 s) ≤ t149 := by
    rw [leF_num (-149) ns num_one (pl32 _) (pl32 _), iv_one149] at s1
    exact of_decide_eq_true s1
  have m1 := ge_iv n2 num_mone (pl_fop _ _ _) (mul_ge (c := 3212836864) ns n3 num_mone (pl32 _) (pl_fop _ _ _) (pl32 _) (by
    rw [iv_mone149]
    have a1 := Int.mul_le_mul_of_nonneg_left q1 s0
    have a2 := Int.mul_le_mul_of_nonneg_right s1 (Int.le_of_lt ht)
    rw [Int.mul_neg] at a1
    rw [Int.neg_mul]
    omega))
  rw [iv_mone149] at m1
  have e1 := ge_iv n1 num_zero (pl_fop _ _ _) (add_ge (c := 0) num_one n2 num_zero (pl32 _) (pl_fop _ _ _) (pl32 _) (by rw [iv_zero149, iv_one149]; omega))
  rw [iv_zero149] at e1
  have v0 := ge_iv nv num_zero (pl32 _) hv
  rw [iv_zero149] at v0
  exact mul_ge (c := 0) nv n1 num_zero (pl32 _) (pl_fop _ _ _) (pl32 _) (by rw [iv_zero149, Int.zero_mul]; exact Int.mul_nonneg v0 e1)

theorem c_half32 : cl .f32 1056964608 = .number false 8388608 (-24) := by decide +kernel

theorem c_two32 : cl .f32 1073741824 = .number false 8388608 (-22) := by decide +kernel

/-- Half of a number. -/
theorem half_two (d : Nat) (h : isNum (cl .f32 d) = true) : fop .mul .f32 (cl .f32 1056964608) (cl .f32 d) = fop .quo .f32 (cl .f32 d) (cl .f32 1073741824) := by
  have tt := tidy_lt (cl_tidy .f32 d)
  rw [c_half32, c_two32]
  generalize cl .f32 d = x at *
  cases x <;> simp only [isNum] at h <;> first | (cases h; done) | skip
  rename_i s m i
  have hm := tt _ _ _ rfl
  have e1 : fop .mul .f32 (.number false 8388608 (-24)) (.number s m i) = rd .f32 (.number (false ^^ s) (8388608 * m) (-24 + i)) := rfl
  have hL : m.log2 ≤ 23 := by
    by_cases h0 : m = 0
    · subst h0; decide
    · have := (Nat.log2_lt (n := m) (k := 24) h0).2 (by omega)
      omega
  have hq : (Datum.number s m i).quotient (FloatKind.f32.format.fractionBits + 2) (.number false 8388608 (-22)) = some (.number (s ^^ false) (2 * ((m <<< (25 + Nat.log2 8388608 - m.log2)) / 8388608) + ((m <<< (25 + Nat.log2 8388608 - m.log2)) % 8388608 != 0).toNat) (i - -22 - (25 + Nat.log2 8388608 - m.log2 : Nat) - 1)) := rfl
  have e2 : fop .quo .f32 (.number s m i) (.number false 8388608 (-22)) = rd .f32 (.number (s ^^ false) (2 * ((m <<< (25 + Nat.log2 8388608 - m.log2)) / 8388608) + ((m <<< (25 + Nat.log2 8388608 - m.log2)) % 8388608 != 0).toNat) (i - -22 - (25 + Nat.log2 8388608 - m.log2 : Nat) - 1)) := by
    simp only [fop, hq]
    rfl
  rw [e1, e2, show Nat.log2 8388608 = 23 from by decide]
  obtain ⟨c, hc⟩ : ∃ c : Nat, 25 + 23 - m.log2 = 23 + c := ⟨25 - m.log2, by omega⟩
  rw [hc, Nat.shiftLeft_eq, Nat.pow_add]
  have e3 : m * (2 ^ 23 * 2 ^ c) = m * 2 ^ c * 8388608 := by
    rw [show (2 : Nat) ^ 23 = 8388608 from rfl, Nat.mul_comm 8388608, Nat.mul_assoc]
  rw [e3, Nat.mul_div_cancel _ (by omega), Nat.mul_mod_left]
  simp only [bne_self_eq_false, Bool.toNat_false, Nat.add_zero, Bool.false_xor, Bool.xor_false]
  have hp : i - -22 - ((23 + c : Nat) : Int) - 1 = i - 2 - c := by omega
  rw [hp, rd_num, rd_num]
  congr 2
  have v1 : 8388608 * m * 2 ^ (-24 + i - (i - 24 - c)).toNat = 2 * (m * 2 ^ c) * 2 ^ (i - 2 - c - (i - 24 - c)).toNat := by
    have a1 : (-24 + i - (i - 24 - c)).toNat = c := by omega
    have a2 : (i - 2 - c - (i - 24 - c)).toNat = 22 := by omega
    rw [a1, a2, show (2 : Nat) ^ 22 = 4194304 from rfl]
    generalize 2 ^ c = q
    rw [Nat.mul_assoc 8388608]
    generalize m * q = u
    omega
  exact Nat.le_antisymm (rung_mono _ s s (i - 24 - c) (by omega) (by omega) (Nat.le_of_eq v1)) (rung_mono _ s s (i - 24 - c) (by omega) (by omega) (Nat.le_of_eq v1.symm))

end Go.Flt

/-
  PLAIN LAWS for the nearest places: distances are finite; the running least.
-/
namespace Go.Flt
open Go Ieee
set_option linter.unusedVariables false

/-- The square root of a number that is not below 0 is a number. -/
theorem root_num0 (b : Nat) (hn : isNum (cl .f32 b) = true) (h0 : 0 ≤ iv (-149) (cl .f32 b)) : isNum (nar (sqD (wid (cl .f32 b)))) = true := by
  have h0 : 0 ≤ iv (-1074) (wid (cl .f32 b)) := by
    rw [wid_iv, iv_down hn (-149) (-1074) (by omega) (pl32 b)]
    exact Int.mul_nonneg h0 (Int.natCast_nonneg _)
  have key : ∀ d : Datum, isNum d = true → place (-1074) d → 0 ≤ iv (-1074) d → iv (-1074) d ≤ (tw 1144 : Int) → isNum (nar (rd .f64 d)) = true := by
    intro d nd pd h0 h1
    have nlo : isNum (cl .f64 14404763408144531456) = true := by rw [c_lo]; rfl
    have nhi : isNum (cl .f64 5181391371289755648) = true := by rw [c_hi]; rfl
    have ilo : iv (-1074) (cl .f64 14404763408144531456) = -(6755399441055744 * tw 1149 : Int) := by rw [c_lo, iv_of true _ 75 1149 (by omega)]; simp
    have ihi : iv (-1074) (cl .f64 5181391371289755648) = (6755399441055744 * tw 1149 : Int) := by rw [c_hi, iv_of false _ 75 1149 (by omega)]; simp
    have t1 : (tw 1144 : Int) ≤ (tw 1149 : Int) := by have := tw_le (a := 1144) (b := 1149) (by omega); omega
    have t2 : (0 : Int) < (tw 1149 : Int) := by have := tw_pos 1149; omega
    obtain ⟨nD, d1, d2⟩ := rd_between .f64 nd nlo nhi ((leF_iv nlo nd (place64 _) pd).2 (by rw [ilo]; omega)) ((leF_iv nd nhi pd (place64 _)).2 (by rw [ihi]; omega))
    have pD : place (-1074) (rd .f64 d) := place64 _
    have d1 := (leF_iv nlo nD (place64 _) pD).1 d1
    have d2 := (leF_iv nD nhi pD (place64 _)).1 d2
    rw [nar_rd nD]
    have nlo32 : isNum (cl .f32 4282384384) = true := by rw [c_lo32]; rfl
    have nhi32 : isNum (cl .f32 2134900736) = true := by rw [c_hi32]; rfl
    have ilo32 : iv (-1074) (cl .f32 4282384384) = -(12582912 * tw 1178 : Int) := by rw [c_lo32, iv_of true _ 104 1178 (by omega)]; simp
    have ihi32 : iv (-1074) (cl .f32 2134900736) = (12582912 * tw 1178 : Int) := by rw [c_hi32, iv_of false _ 104 1178 (by omega)]; simp
    have tt : tw 1178 = tw 29 * tw 1149 := tw_add 29 1149
    have t29 : tw 29 = 536870912 := by decide
    rw [t29] at tt
    exact (rd_between .f32 nD nlo32 nhi32 ((leF_iv nlo32 nD (place32 _) pD).2 (by rw [ilo32]; omega)) ((leF_iv nD nhi32 pD (place32 _)).2 (by rw [ihi32]; omega))).1
  have hb := wid_bound b hn
  have hw := wid_isNum b hn
  obtain ⟨w64, hw64⟩ := wid_fix b hn
  have hp : place (-1074) (wid (cl .f32 b)) := by rw [hw64]; exact place64 _
  generalize wid (cl .f32 b) = W at h0 hb hw hp ⊢
  cases W <;> simp only [isNum] at hw <;> first | (cases hw; done) | skip
  rename_i s m i
  by_cases hm : m = 0
  · subst hm
    have e : sqD (.number s 0 i) = rd .f64 (.number s 0 i) := by unfold sqD Datum.root; simp [rnd, rd]
    rw [e]
    refine key _ rfl hp ?_ ?_
    · simp [iv, signed]
    · have := tw_pos 1144; simp [iv, signed]
  · cases s
    · have hi : -1074 ≤ i := hp
      obtain ⟨k, hk⟩ : ∃ k : Nat, i + 1074 = k := ⟨(i + 1074).toNat, by omega⟩
      rw [iv_of false m i k hk] at hb
      have hb1 : m * tw k < tw 1202 := by have := tw_pos 1178; have := hb.1; simp at this; omega
      have hlog : m.log2 + k < 1202 := by
        refine Nat.lt_of_not_le fun hc => ?_
        have a1 := Nat.mul_le_mul_right (tw k) (tw_log hm)
        rw [← tw_add] at a1
        have a2 := tw_le hc
        omega
      obtain ⟨q, T, j, hr, hj, hq, hT⟩ := root_num m i hm hi (by omega)
      have e : sqD (.number false m i) = rd .f64 (.number false q j) := by unfold sqD; rw [hr]; rfl
      rw [e]
      obtain ⟨kj, hkj⟩ : ∃ kj : Nat, j + 1074 = kj := ⟨(j + 1074).toNat, by omega⟩
      refine key _ rfl hj ?_ ?_
      · rw [iv_of false q j kj hkj]; simp; exact Int.mul_nonneg (Int.natCast_nonneg _) (Int.natCast_nonneg _)
      · rw [iv_of false q j kj hkj]
        have a1 : q * tw kj ≤ tw T * tw kj := Nat.mul_le_mul_right _ (Nat.le_of_lt hq)
        rw [← tw_add] at a1
        have a2 := tw_le (a := T + kj) (b := 1144) (by omega)
        simp only [Bool.false_eq_true, if_false]
        omega
    · exfalso
      have hi : -1074 ≤ i := hp
      obtain ⟨k, hk⟩ : ∃ k : Nat, i + 1074 = k := ⟨(i + 1074).toNat, by omega⟩
      rw [iv_of true m i k hk] at h0
      simp only [if_true] at h0
      have : 0 < m * tw k := Nat.mul_pos (Nat.pos_of_ne_zero hm) (tw_pos k)
      omega

theorem add_le {x y : Datum} {c : Nat} (hx : isNum x = true) (hy : isNum y = true) (hc : isNum (cl .f32 c) = true) (px : place (-149) x) (py : place (-149) y) (pc : place (-149) (cl .f32 c))
    (h : iv (-149) x + iv (-149) y ≤ iv (-149) (cl .f32 c)) : leF (fop .add .f32 x y) (cl .f32 c) = true := by
  obtain ⟨d, e, hd, hv⟩ := fop_add (k := .f32) hx hy
  obtain ⟨v1, v2⟩ := hv _ px py
  rw [e]
  have := rd_mono .f32 hd hc (by rw [leF_num (-149) hd hc v1 pc, v2]; exact decide_eq_true h)
  rwa [rd_fix .f32 c hc] at this

theorem sub_le {x y : Datum} {c : Nat} (hx : isNum x = true) (hy : isNum y = true) (hc : isNum (cl .f32 c) = true) (px : place (-149) x) (py : place (-149) y) (pc : place (-149) (cl .f32 c))
    (h : iv (-149) x - iv (-149) y ≤ iv (-149) (cl .f32 c)) : leF (fop .sub .f32 x y) (cl .f32 c) = true := by
  obtain ⟨d, e, hd, hv⟩ := fop_sub (k := .f32) hx hy
  obtain ⟨v1, v2⟩ := hv _ px py
  rw [e]
  have := rd_mono .f32 hd hc (by rw [leF_num (-149) hd hc v1 pc, v2]; exact decide_eq_true h)
  rwa [rd_fix .f32 c hc] at this

theorem mul_le {x y : Datum} {c : Nat} (hx : isNum x = true) (hy : isNum y = true) (hc : isNum (cl .f32 c) = true) (px : place (-149) x) (py : place (-149) y) (pc : place (-149) (cl .f32 c))
    (h : iv (-149) x * iv (-149) y ≤ iv (-149) (cl .f32 c) * t149) : leF (fop .mul .f32 x y) (cl .f32 c) = true := by
  obtain ⟨d, e, hd, hv⟩ := fop_mul (k := .f32) hx hy
  obtain ⟨v1, v2⟩ := hv _ _ px py
  rw [e]
  have pc2 : place (-149 + -149) (cl .f32 c) := by
    cases hcc : cl .f32 c with
    | number s m i => rw [hcc] at pc; have pc : (-149 : Int) ≤ i := pc; show (-149 + -149 : Int) ≤ i; omega
    | nan s t => trivial
    | infinity s => trivial
  have := rd_mono .f32 hd hc (by
    rw [leF_num (-149 + -149) hd hc v1 pc2, v2, iv_down hc (-149) (-149 + -149) (by omega) pc]
    exact decide_eq_true h)
  rwa [rd_fix .f32 c hc] at this

theorem le_iv {x : Datum} {c : Nat} (hx : isNum x = true) (hc : isNum (cl .f32 c) = true) (px : place (-149) x) (h : leF x (cl .f32 c) = true) : iv (-149) x ≤ iv (-149) (cl .f32 c) := by
  rw [leF_num (-149) hx hc px (pl32 c)] at h
  exact of_decide_eq_true h

theorem c_p18 : cl .f32 1216348160 = .number false 8388608 (-5) := by decide +kernel
theorem c_m18 : cl .f32 3363831808 = .number true 8388608 (-5) := by decide +kernel
theorem c_p36 : cl .f32 1367343104 = .number false 8388608 13 := by decide +kernel
theorem c_p37 : cl .f32 1375731712 = .number false 8388608 14 := by decide +kernel

theorem iv149_pow (s : Bool) (k : Nat) (p : Int) (hp : p + 23 = k) : iv (-149) (.number s 8388608 p) = if s then -((2 ^ k : Nat) * t149) else (2 ^ k : Nat) * t149 := by
  obtain ⟨a, ha⟩ : ∃ a : Nat, p + 149 = a := ⟨(p + 149).toNat, by omega⟩
  rw [iv149_of s _ p a ha]
  have e1 : tw 23 * tw a = tw k * tw 149 := by rw [← tw_add, ← tw_add]; congr 1; omega
  have e2 : ((8388608 * tw a : Nat) : Int) = (2 ^ k : Nat) * t149 := by
    rw [show (8388608 : Nat) = tw 23 from rfl, e1]
    unfold t149
    rw [Int.natCast_mul]
    rfl
  rw [e2]

theorem v_p18 : iv (-149) (cl .f32 1216348160) = 262144 * t149 := by rw [c_p18, iv149_pow false 18 _ (by omega)]; rfl
theorem v_m18 : iv (-149) (cl .f32 3363831808) = -(262144 * t149) := by rw [c_m18, iv149_pow true 18 _ (by omega)]; rfl
theorem v_p36 : iv (-149) (cl .f32 1367343104) = 68719476736 * t149 := by rw [c_p36, iv149_pow false 36 _ (by omega)]; rfl
theorem v_p37 : iv (-149) (cl .f32 1375731712) = 137438953472 * t149 := by rw [c_p37, iv149_pow false 37 _ (by omega)]; rfl

/-- A difference of places, squared: from 0 to 2 to the power of 36. -/
theorem sq_bound {x y : Datum} (hx : isNum x = true) (hy : isNum y = true) (px : place (-149) x) (py : place (-149) y) (h1 : -(131072 * t149) ≤ iv (-149) x) (h2 : iv (-149) x ≤ 131072 * t149) (h3 : -(131072 * t149) ≤ iv (-149) y) (h4 : iv (-149) y ≤ 131072 * t149) :
    isNum (fop .mul .f32 (fop .sub .f32 x y) (fop .sub .f32 x y)) = true ∧ 0 ≤ iv (-149) (fop .mul .f32 (fop .sub .f32 x y) (fop .sub .f32 x y)) ∧ iv (-149) (fop .mul .f32 (fop .sub .f32 x y) (fop .sub .f32 x y)) ≤ 68719476736 * t149 := by
  have ht := t149_pos
  have n18 : isNum (cl .f32 1216348160) = true := by rw [c_p18]; rfl
  have m18 : isNum (cl .f32 3363831808) = true := by rw [c_m18]; rfl
  have n36 : isNum (cl .f32 1367343104) = true := by rw [c_p36]; rfl
  have a1 := sub_ge (c := 3363831808) hx hy m18 px py (pl32 _) (by rw [v_m18]; omega)
  have a2 := sub_le (c := 1216348160) hx hy n18 px py (pl32 _) (by rw [v_p18]; omega)
  have nu := num_between m18 n18 a1 a2
  have pu := pl_fop .sub x y
  generalize fop .sub .f32 x y = u at *
  have b1 := ge_iv nu m18 pu a1
  have b2 := le_iv nu n18 pu a2
  rw [v_m18] at b1
  rw [v_p18] at b2
  have s0 : 0 ≤ iv (-149) u * iv (-149) u := by
    rcases Int.le_total 0 (iv (-149) u) with h | h
    · exact Int.mul_nonneg h h
    · have := Int.mul_nonneg (Int.neg_nonneg_of_nonpos h) (Int.neg_nonneg_of_nonpos h)
      rwa [Int.neg_mul_neg] at this
  have s1 : iv (-149) u * iv (-149) u ≤ 68719476736 * t149 * t149 := by
    have key : ∀ v : Int, 0 ≤ v → v ≤ 262144 * t149 → v * v ≤ 68719476736 * t149 * t149 := by
      intro v h1 h2
      have c1 := Int.mul_le_mul_of_nonneg_right h2 h1
      have c2 := Int.mul_le_mul_of_nonneg_left h2 (show (0 : Int) ≤ 262144 * t149 by omega)
      have c3 : 262144 * t149 * (262144 * t149) = 68719476736 * t149 * t149 := by
        rw [Int.mul_assoc 262144, Int.mul_left_comm t149 262144 t149, Int.mul_assoc 68719476736]
        generalize t149 * t149 = T
        omega
      rw [c3] at c2
      omega
    rcases Int.le_total 0 (iv (-149) u) with h | h
    · exact key _ h b2
    · have := key (-iv (-149) u) (Int.neg_nonneg_of_nonpos h) (by omega)
      rwa [Int.neg_mul_neg] at this
  have d1 := mul_ge (c := 0) nu nu num_zero pu pu (pl32 _) (by rw [iv_zero149, Int.zero_mul]; exact s0)
  have d2 := mul_le (c := 1367343104) nu nu n36 pu pu (pl32 _) (by rw [v_p36]; exact s1)
  have nm := num_between num_zero n36 d1 d2
  have e1 := ge_iv nm num_zero (pl_fop _ _ _) d1
  have e2 := le_iv nm n36 (pl_fop _ _ _) d2
  rw [iv_zero149] at e1
  rw [v_p36] at e2
  exact ⟨nm, e1, e2⟩

theorem sum_bound {p q : Datum} (hp : isNum p = true) (hq : isNum q = true) (pp : place (-149) p) (pq : place (-149) q) (p0 : 0 ≤ iv (-149) p) (p1 : iv (-149) p ≤ 68719476736 * t149) (q0 : 0 ≤ iv (-149) q) (q1 : iv (-149) q ≤ 68719476736 * t149) :
    isNum (fop .add .f32 p q) = true ∧ 0 ≤ iv (-149) (fop .add .f32 p q) := by
  have n37 : isNum (cl .f32 1375731712) = true := by rw [c_p37]; rfl
  have d1 := add_ge (c := 0) hp hq num_zero pp pq (pl32 _) (by rw [iv_zero149]; omega)
  have d2 := add_le (c := 1375731712) hp hq n37 pp pq (pl32 _) (by rw [v_p37]; omega)
  have nm := num_between num_zero n37 d1 d2
  have e1 := ge_iv nm num_zero (pl_fop _ _ _) d1
  rw [iv_zero149] at e1
  exact ⟨nm, e1⟩

end Go.Flt

/-
  PLAIN LAWS: what rotors take from the wind lies from 0 to 1.
-/
namespace Go.Flt
open Go Ieee
set_option linter.unusedVariables false

theorem sgn_le (m k : Nat) : signed true m k ≤ 0 := by
  rw [signed_eq]
  have := Int.natCast_nonneg (m * 2 ^ k)
  simp only [if_true]
  omega

theorem rd_le {d : Datum} {c : Nat} (hd : isNum d = true) (hc : isNum (cl .f32 c) = true) (h : leF d (cl .f32 c) = true) : leF (rd .f32 d) (cl .f32 c) = true := by
  have := rd_mono .f32 hd hc h
  rwa [rd_fix .f32 c hc] at this

/-- A quotient of a number that is not above the divisor. -/
theorem quo_le {x y : Datum} (hx : isNum x = true) (hy : isNum y = true) (px : place (-149) x) (py : place (-149) y) (mx : ∀ s m i, x = .number s m i → m < 16777216) (h0 : 0 < iv (-149) y) (h : iv (-149) x ≤ iv (-149) y) :
    leF (fop .quo .f32 x y) (cl .f32 1065353216) = true := by
  cases x <;> simp only [isNum] at hx <;> first | (cases hx; done) | skip
  cases y <;> simp only [isNum] at hy <;> first | (cases hy; done) | skip
  rename_i s m i t n j
  have hi : -149 ≤ i := px
  have hj : -149 ≤ j := py
  obtain ⟨a, ha⟩ : ∃ a : Nat, i + 149 = a := ⟨(i + 149).toNat, by omega⟩
  obtain ⟨b, hb⟩ : ∃ b : Nat, j + 149 = b := ⟨(j + 149).toNat, by omega⟩
  rw [iv149_of t n j b hb] at h0 h
  rw [iv149_of s m i a ha] at h
  have ht : t = false := by
    cases t
    · rfl
    · simp only [if_true] at h0; omega
  subst ht
  simp only [Bool.false_eq_true, if_false] at h0 h
  have hn : n ≠ 0 := by rintro rfl; simp at h0
  have hq : (Datum.number s m i).quotient (FloatKind.f32.format.fractionBits + 2) (.number false n j) = some (.number (s ^^ false) (2 * ((m <<< (25 + n.log2 - m.log2)) / n) + ((m <<< (25 + n.log2 - m.log2)) % n != 0).toNat) (i - j - (25 + n.log2 - m.log2 : Nat) - 1)) := by
    show (if n = 0 then _ else _) = _
    rw [if_neg hn]
    rfl
  have e : fop .quo .f32 (.number s m i) (.number false n j) = rd .f32 (.number (s ^^ false) (2 * ((m <<< (25 + n.log2 - m.log2)) / n) + ((m <<< (25 + n.log2 - m.log2)) % n != 0).toNat) (i - j - (25 + n.log2 - m.log2 : Nat) - 1)) := by
    show rnd .f32 _ = _
    rw [hq]
    rfl
  rw [e]
  refine rd_le rfl (by rw [c_one32]; rfl) ?_
  rw [c_one32]
  generalize hD : m <<< (25 + n.log2 - m.log2) = D
  rw [Nat.shiftLeft_eq] at hD
  cases s
  case true =>
    generalize 2 * (D / n) + (D % n != 0).toNat = M
    generalize i - j - ((25 + n.log2 - m.log2 : Nat) : Int) - 1 = E
    rw [leF_num (min (-23) E) rfl rfl (by show min (-23) E ≤ E; omega) (by show min (-23) E ≤ (-23 : Int); omega)]
    refine decide_eq_true ?_
    simp only [iv, Bool.xor_false]
    have := sgn_le M (E - min (-23) E).toNat
    have := sgn_ge 8388608 (-23 - min (-23) E).toNat
    omega
  case false =>
    simp only [Bool.false_eq_true, if_false] at h
    have h : m * tw a ≤ n * tw b := by omega
    have hm := mx _ _ _ rfl
    by_cases hm0 : m = 0
    · subst hm0
      rw [Nat.zero_mul] at hD
      subst hD
      rw [leF_num (min (-23) (i - j - ((25 + n.log2 - Nat.log2 0 : Nat) : Int) - 1)) rfl rfl (by show min (-23) (i - j - ((25 + n.log2 - Nat.log2 0 : Nat) : Int) - 1) ≤ _; omega) (by show min (-23) _ ≤ (-23 : Int); omega)]
      refine decide_eq_true ?_
      simp only [Nat.zero_div, Nat.mul_zero, Nat.zero_mod, bne_self_eq_false, Bool.toNat_false, Nat.add_zero, iv, sgn_zero]
      exact sgn_ge _ _
    have hml : m.log2 ≤ 23 := by
      have := (Nat.log2_lt (n := m) (k := 24) hm0).2 (by omega)
      omega
    have hmlo : tw m.log2 ≤ m := Nat.log2_self_le hm0
    have hnlo : n < tw (n.log2 + 1) := Nat.lt_log2_self
    have hab : a + m.log2 < n.log2 + 1 + b := by
      refine Nat.lt_of_not_le fun hc => ?_
      have a1 := tw_le hc
      rw [tw_add (n.log2 + 1) b, tw_add a m.log2] at a1
      have a2 : tw a * tw m.log2 ≤ tw a * m := Nat.mul_le_mul_left _ hmlo
      have a3 : n * tw b < tw (n.log2 + 1) * tw b := Nat.mul_lt_mul_of_pos_right hnlo (tw_pos b)
      rw [Nat.mul_comm (tw a) m] at a2
      omega
    obtain ⟨T, hT⟩ : ∃ T : Nat, (25 + n.log2 - m.log2 : Nat) + b = T + a := ⟨25 + n.log2 - m.log2 + b - a, by omega⟩
    have hE : i - j - ((25 + n.log2 - m.log2 : Nat) : Int) - 1 = -((T : Int) + 1) := by omega
    rw [hE]
    have hT25 : 25 ≤ T := by omega
    have hDn : D ≤ n * tw T := by
      refine Nat.le_of_mul_le_mul_right ?_ (tw_pos a)
      rw [Nat.mul_assoc, ← tw_add, ← hT, tw_add, ← hD, ← Nat.mul_assoc, tw_eq, Nat.mul_right_comm, Nat.mul_right_comm n]
      exact Nat.mul_le_mul_right _ h
    clear hT hD hE
    have hM : 2 * (D / n) + (D % n != 0).toNat ≤ 2 * tw T := by
      have d1 := Nat.div_add_mod D n
      have hb : (D % n != 0).toNat ≤ 1 := by cases (D % n != 0) <;> simp
      rcases Nat.lt_or_ge (D / n) (tw T) with h1 | h1
      · omega
      · have h2 : n * tw T ≤ n * (D / n) := Nat.mul_le_mul_left _ h1
        have h3 : D / n ≤ tw T := Nat.div_le_of_le_mul (by omega)
        have h4 : D % n = 0 := by omega
        rw [h4]
        simp
        omega
    generalize 2 * (D / n) + (D % n != 0).toNat = M at hM ⊢
    rw [leF_num (-((T : Int) + 1)) rfl rfl (by show -((T : Int) + 1) ≤ -((T : Int) + 1); omega) (by show -((T : Int) + 1) ≤ (-23 : Int); omega)]
    refine decide_eq_true ?_
    simp only [iv, Bool.xor_false, signed, Bool.false_eq_true, if_false, Nat.shiftLeft_eq]
    have e1 : (-((T : Int) + 1) - -((T : Int) + 1)).toNat = 0 := by omega
    have e2 : (-23 - -((T : Int) + 1)).toNat = T + 1 - 23 := by omega
    have e3 : 8388608 * 2 ^ (T + 1 - 23) = 2 * tw T := by
      have : tw 23 * tw (T + 1 - 23) = tw (T + 1) := by rw [← tw_add]; congr 1; omega
      rw [tw_eq, ← tw_succ, ← this]
      rfl
    rw [e1, e2, e3]
    omega

/-- A quotient of two numbers, the one at least 0, the other above 0. -/
theorem quo_nn {x y : Datum} (hx : isNum x = true) (hy : isNum y = true) (px : place (-149) x) (py : place (-149) y) (h0 : 0 < iv (-149) y) (h : 0 ≤ iv (-149) x) : leF (cl .f32 0) (fop .quo .f32 x y) = true := by
  cases x <;> simp only [isNum] at hx <;> first | (cases hx; done) | skip
  cases y <;> simp only [isNum] at hy <;> first | (cases hy; done) | skip
  rename_i s m i t n j
  have hi : -149 ≤ i := px
  have hj : -149 ≤ j := py
  obtain ⟨a, ha⟩ : ∃ a : Nat, i + 149 = a := ⟨(i + 149).toNat, by omega⟩
  obtain ⟨b, hb⟩ : ∃ b : Nat, j + 149 = b := ⟨(j + 149).toNat, by omega⟩
  rw [iv149_of t n j b hb] at h0
  rw [iv149_of s m i a ha] at h
  have ht : t = false := by
    cases t
    · rfl
    · simp only [if_true] at h0; omega
  subst ht
  simp only [Bool.false_eq_true, if_false] at h0
  have hn : n ≠ 0 := by rintro rfl; simp at h0
  have hm : s = true → m = 0 := by
    rintro rfl
    simp only [if_true] at h
    have hp := tw_pos a
    rcases Nat.eq_zero_or_pos m with h | h'
    · exact h
    · have := Nat.mul_pos h' hp; omega
  have hq : (Datum.number s m i).quotient (FloatKind.f32.format.fractionBits + 2) (.number false n j) = some (.number (s ^^ false) (2 * ((m <<< (25 + n.log2 - m.log2)) / n) + ((m <<< (25 + n.log2 - m.log2)) % n != 0).toNat) (i - j - (25 + n.log2 - m.log2 : Nat) - 1)) := by
    show (if n = 0 then _ else _) = _
    rw [if_neg hn]
    rfl
  have e : fop .quo .f32 (.number s m i) (.number false n j) = rd .f32 (.number (s ^^ false) (2 * ((m <<< (25 + n.log2 - m.log2)) / n) + ((m <<< (25 + n.log2 - m.log2)) % n != 0).toNat) (i - j - (25 + n.log2 - m.log2 : Nat) - 1)) := by
    show rnd .f32 _ = _
    rw [hq]
    rfl
  rw [e]
  refine rd_ge rfl (by rw [cl_zero32]; rfl) ?_
  have hM : s = true → 2 * ((m <<< (25 + n.log2 - m.log2)) / n) + ((m <<< (25 + n.log2 - m.log2)) % n != 0).toNat = 0 := by
    intro hs
    rw [hm hs]
    simp
  generalize 2 * ((m <<< (25 + n.log2 - m.log2)) / n) + ((m <<< (25 + n.log2 - m.log2)) % n != 0).toNat = M at hM ⊢
  generalize i - j - ((25 + n.log2 - m.log2 : Nat) : Int) - 1 = E
  rw [cl_zero32, leF_num (min (-149) E) rfl rfl (by show min (-149) E ≤ (-149 : Int); omega) (by show min (-149) E ≤ E; omega)]
  refine decide_eq_true ?_
  simp only [iv, Bool.xor_false, sgn_zero]
  cases s
  · exact sgn_ge _ _
  · rw [hM rfl, sgn_zero]; omega

/-- A number from 0 to 1. -/
structure Un (x : Datum) : Prop where
  num : isNum x = true
  pl : place (-149) x
  lo : 0 ≤ iv (-149) x
  hi : iv (-149) x ≤ t149


theorem un_of {x : Datum} (px : place (-149) x) (h1 : leF (cl .f32 0) x = true) (h2 : leF x (cl .f32 1065353216) = true) : Un x := by
  have nm := num_between num_zero num_one h1 h2
  have e1 := ge_iv nm num_zero px h1
  have e2 := le_iv nm num_one px h2
  rw [iv_zero149] at e1
  rw [iv_one149] at e2
  exact ⟨nm, px, e1, e2⟩

theorem un_mul {x y : Datum} (hx : Un x) (hy : Un y) : Un (fop .mul .f32 x y) := by
  have ht := t149_pos
  refine un_of (pl_fop _ _ _) (mul_ge (c := 0) hx.num hy.num num_zero hx.pl hy.pl (pl32 _) ?_) (mul_le (c := 1065353216) hx.num hy.num num_one hx.pl hy.pl (pl32 _) ?_)
  · rw [iv_zero149, Int.zero_mul]; exact Int.mul_nonneg hx.lo hy.lo
  · rw [iv_one149]; exact Int.mul_le_mul hx.hi hy.hi hy.lo (Int.le_of_lt ht)

theorem un_zero : Un (cl .f32 0) := ⟨num_zero, pl32 _, by rw [iv_zero149]; omega, by rw [iv_zero149]; exact Int.le_of_lt t149_pos⟩

theorem un_one : Un (cl .f32 1065353216) := ⟨num_one, pl32 _, by rw [iv_one149]; exact Int.le_of_lt t149_pos, by rw [iv_one149]; omega⟩

theorem un_sub {x : Datum} (hx : Un x) : Un (fop .sub .f32 (cl .f32 1065353216) x) := by
  have h1 := hx.lo
  have h2 := hx.hi
  refine un_of (pl_fop _ _ _) (sub_ge (c := 0) num_one hx.num num_zero (pl32 _) hx.pl (pl32 _) ?_) (sub_le (c := 1065353216) num_one hx.num num_one (pl32 _) hx.pl (pl32 _) ?_)
  · rw [iv_zero149, iv_one149]; omega
  · rw [iv_one149]; omega

end Go.Flt

/-
  PLAIN LAWS for the sine: bounds of quotients of 64 bits.
-/
namespace Go.Flt
open Go Ieee
set_option linter.unusedVariables false

/-- A quotient is not greater than 2 to the power of c, if the number is not greater than so many times the divisor. -/
theorem quo_in {x y : Datum} {hi lo : Nat} (c : Nat) (hx : isNum x = true) (hy : isNum y = true) (px : place (-1074) x) (py : place (-1074) y) (mx : ∀ s m i, x = .number s m i → m < 9007199254740992) (h0 : 0 < iv (-1074) y)
    (h1 : -((tw c : Int) * iv (-1074) y) ≤ iv (-1074) x) (h2 : iv (-1074) x ≤ (tw c : Int) * iv (-1074) y) (nh : isNum (cl .f64 hi) = true) (nl : isNum (cl .f64 lo) = true)
    (vh : iv (-1074) (cl .f64 hi) = ((tw c * tw 1074 : Nat) : Int)) (vl : iv (-1074) (cl .f64 lo) = -((tw c * tw 1074 : Nat) : Int)) :
    isNum (fop .quo .f64 x y) = true ∧ iv (-1074) (cl .f64 lo) ≤ iv (-1074) (fop .quo .f64 x y) ∧ iv (-1074) (fop .quo .f64 x y) ≤ iv (-1074) (cl .f64 hi) := by
  cases x <;> simp only [isNum] at hx <;> first | (cases hx; done) | skip
  cases y <;> simp only [isNum] at hy <;> first | (cases hy; done) | skip
  rename_i s m i t n j
  have hi' : -1074 ≤ i := px
  have hj : -1074 ≤ j := py
  obtain ⟨a, ha⟩ : ∃ a : Nat, i + 1074 = a := ⟨(i + 1074).toNat, by omega⟩
  obtain ⟨b, hb⟩ : ∃ b : Nat, j + 1074 = b := ⟨(j + 1074).toNat, by omega⟩
  rw [iv_of t n j b hb] at h0 h1 h2
  rw [iv_of s m i a ha] at h1 h2
  have ht : t = false := by
    cases t
    · rfl
    · simp only [if_true] at h0; omega
  subst ht
  simp only [Bool.false_eq_true, if_false] at h0 h1 h2
  have hn : n ≠ 0 := by rintro rfl; simp at h0
  have habs : m * tw a ≤ tw c * (n * tw b) := by
    have e : ((tw c : Nat) : Int) * ((n * tw b : Nat) : Int) = ((tw c * (n * tw b) : Nat) : Int) := (Int.natCast_mul _ _).symm
    rw [e] at h1 h2
    cases s
    · simp only [Bool.false_eq_true, if_false] at h2; exact Int.ofNat_le.1 h2
    · simp only [if_true] at h1; exact Int.ofNat_le.1 (by omega)
  have hq : (Datum.number s m i).quotient (FloatKind.f64.format.fractionBits + 2) (.number false n j) = some (.number (s ^^ false) (2 * ((m <<< (54 + n.log2 - m.log2)) / n) + ((m <<< (54 + n.log2 - m.log2)) % n != 0).toNat) (i - j - (54 + n.log2 - m.log2 : Nat) - 1)) := by
    show (if n = 0 then _ else _) = _
    rw [if_neg hn]
    rfl
  have e : fop .quo .f64 (.number s m i) (.number false n j) = rd .f64 (.number (s ^^ false) (2 * ((m <<< (54 + n.log2 - m.log2)) / n) + ((m <<< (54 + n.log2 - m.log2)) % n != 0).toNat) (i - j - (54 + n.log2 - m.log2 : Nat) - 1)) := by
    simp only [fop, hq]
    rfl
  rw [e]
  generalize hD : m <<< (54 + n.log2 - m.log2) = D
  rw [Nat.shiftLeft_eq] at hD
  -- the size of the quotient
  generalize hE : i - j - ((54 + n.log2 - m.log2 : Nat) : Int) - 1 = E
  have hM : 2 * (D / n) + (D % n != 0).toNat = 0 ∨ ∃ T : Nat, 2 * (D / n) + (D % n != 0).toNat ≤ 2 * tw T ∧ E + T + 1 = c := by
    by_cases hm0 : m = 0
    · subst hm0
      rw [Nat.zero_mul] at hD
      subst hD
      left
      simp
    · have hml : m.log2 ≤ 52 := by
        have := (Nat.log2_lt (n := m) (k := 53) hm0).2 (by have := mx _ _ _ rfl; omega)
        omega
      have hmlo : tw m.log2 ≤ m := Nat.log2_self_le hm0
      have hnlo : n < tw (n.log2 + 1) := Nat.lt_log2_self
      have hab : a + m.log2 < c + (n.log2 + 1 + b) := by
        refine Nat.lt_of_not_le fun hc => ?_
        have a1 := tw_le hc
        rw [tw_add c (n.log2 + 1 + b), tw_add (n.log2 + 1) b, tw_add a m.log2] at a1
        have a2 : tw a * tw m.log2 ≤ tw a * m := Nat.mul_le_mul_left _ hmlo
        have a3 : n * tw b < tw (n.log2 + 1) * tw b := Nat.mul_lt_mul_of_pos_right hnlo (tw_pos b)
        have a4 : tw c * (n * tw b) < tw c * (tw (n.log2 + 1) * tw b) := Nat.mul_lt_mul_of_pos_left a3 (tw_pos c)
        rw [Nat.mul_comm (tw a) m] at a2
        omega
      obtain ⟨T, hT⟩ : ∃ T : Nat, (54 + n.log2 - m.log2 : Nat) + (b + c) = T + a := ⟨54 + n.log2 - m.log2 + (b + c) - a, by omega⟩
      have hDn : D ≤ n * tw T := by
        refine Nat.le_of_mul_le_mul_right ?_ (tw_pos a)
        have e1 : n * tw T * tw a = tw c * (n * tw b) * tw (54 + n.log2 - m.log2) := by
          rw [Nat.mul_assoc, ← tw_add, ← hT, tw_add, tw_add]
          generalize tw (54 + n.log2 - m.log2) = u
          generalize tw b = v
          generalize tw c = z
          rw [Nat.mul_left_comm n u, Nat.mul_comm u, Nat.mul_comm v z, Nat.mul_left_comm n z v]
        rw [e1, ← hD, tw_eq, Nat.mul_right_comm]
        exact Nat.mul_le_mul_right _ habs
      refine .inr ⟨T, ?_, by omega⟩
      have d1 := Nat.div_add_mod D n
      have hb : (D % n != 0).toNat ≤ 1 := by cases (D % n != 0) <;> simp
      rcases Nat.lt_or_ge (D / n) (tw T) with h1 | h1
      · omega
      · have h2 : n * tw T ≤ n * (D / n) := Nat.mul_le_mul_left _ h1
        have h3 : D / n ≤ tw T := Nat.div_le_of_le_mul (by omega)
        have h4 : D % n = 0 := by omega
        rw [h4]
        simp
        omega
  generalize 2 * (D / n) + (D % n != 0).toNat = M at hM ⊢
  obtain ⟨B, hB⟩ : ∃ B : Int, B = min E (-1074) := ⟨_, rfl⟩
  have key : M * 2 ^ (E - B).toNat ≤ tw c * tw 1074 * 2 ^ (-1074 - B).toNat := by
    rcases hM with h | ⟨T, h, hT⟩
    · rw [h, Nat.zero_mul]; exact Nat.zero_le _
    · rw [tw_eq, tw_eq, ← tw_add, ← tw_add]
      have e1 : c + 1074 + (-1074 - B).toNat = (T + 1) + (E - B).toNat := by omega
      rw [e1, tw_add, tw_succ]
      exact Nat.mul_le_mul_right _ h
  have pw : ∀ w, place B (cl .f64 w) := by
    intro w
    have := place64 w
    cases hc : cl .f64 w with
    | number s m i => rw [hc] at this; have this : (-1074 : Int) ≤ i := this; show B ≤ i; omega
    | nan s t => trivial
    | infinity s => trivial
  have pq : place B (.number (s ^^ false) M E) := by show B ≤ E; omega
  have hk2 : ((M * 2 ^ (E - B).toNat : Nat) : Int) ≤ ((tw c * tw 1074 : Nat) : Int) * ((2 ^ (-1074 - B).toNat : Nat) : Int) := by
    rw [← Int.natCast_mul]
    exact Int.ofNat_le.2 key
  have hnn : (0 : Int) ≤ ((M * 2 ^ (E - B).toNat : Nat) : Int) := Int.natCast_nonneg _
  obtain ⟨r1, r2, r3⟩ := rd_between .f64 (x := .number (s ^^ false) M E) rfl nl nh
    (by
      rw [leF_num B nl rfl (pw _) pq, iv_down nl (-1074) B (by omega) (place64 _), vl]
      refine decide_eq_true ?_
      simp only [iv]
      rw [signed_eq, Int.neg_mul]
      cases s <;> simp only [Bool.xor_false, Bool.false_eq_true, if_false, if_true] <;> omega)
    (by
      rw [leF_num B rfl nh pq (pw _), iv_down nh (-1074) B (by omega) (place64 _), vh]
      refine decide_eq_true ?_
      simp only [iv]
      rw [signed_eq]
      cases s <;> simp only [Bool.xor_false, Bool.false_eq_true, if_false, if_true] <;> omega)
  exact ⟨r1, (leF_iv nl r1 (place64 _) (place64 _)).1 r2, (leF_iv r1 nh (place64 _) (place64 _)).1 r3⟩

theorem wide_read2 (s : Bool) {m : Nat} {e : Int} (h0 : 0 < m) (hm : m < 9007199254740992) (h1 : -1000 ≤ e) (h2 : e ≤ 900) :
    double.read (double.nearest s m e) = .number s (m <<< (52 - m.log2)) (e + m.log2 - 52) := by
  have hL : m.log2 ≤ 52 := by
    have := (Nat.log2_lt (n := m) (k := 53) (by omega)).2 (by omega)
    omega
  have hlo : 2 ^ m.log2 ≤ m := Nat.log2_self_le (by omega)
  have hhi : m < 2 ^ (m.log2 + 1) := Nat.lt_log2_self
  unfold Format.nearest
  dsimp only
  rw [if_neg (by omega)]
  have hfb : ((double.fractionBits : Nat) : Int) = 52 := rfl
  have hlast : max (e + (m.log2 : Int) - (double.fractionBits : Int)) double.leastPlace = e + m.log2 - 52 := by rw [hfb, double_least]; omega
  rw [hlast]
  have e1 : (e - (e + (m.log2 : Int) - 52)).toNat = 52 - m.log2 := by omega
  have e2 : ((e + (m.log2 : Int) - 52) - e).toNat = 0 := by omega
  rw [e1, e2, cut_zero, double_least]
  have hk1 : 4503599627370496 ≤ m <<< (52 - m.log2) := by
    rw [Nat.shiftLeft_eq]
    have : 2 ^ m.log2 * 2 ^ (52 - m.log2) = 4503599627370496 := by rw [← Nat.pow_add, show m.log2 + (52 - m.log2) = 52 by omega]
    rw [← this]
    exact Nat.mul_le_mul_right _ hlo
  have hk2 : m <<< (52 - m.log2) < 9007199254740992 := by
    rw [Nat.shiftLeft_eq]
    have : 2 ^ (m.log2 + 1) * 2 ^ (52 - m.log2) = 9007199254740992 := by rw [← Nat.pow_add, show m.log2 + 1 + (52 - m.log2) = 53 by omega]
    rw [← this]
    exact Nat.mul_lt_mul_of_pos_right hhi (Nat.two_pow_pos _)
  generalize m <<< (52 - m.log2) = k at *
  obtain ⟨q, hq⟩ : ∃ q : Nat, e + (m.log2 : Int) - 52 - (-1074) = q := ⟨(e + (m.log2 : Int) - 52 - (-1074)).toNat, by omega⟩
  rw [hq, Int.toNat_natCast, double_binade, double_inf, Nat.min_eq_left (by omega), read_rung double s (by rw [double_inf]; omega), double_binade, double_least, if_neg (by omega)]
  have a1 : 4503599627370496 + (q * 4503599627370496 + k) % 4503599627370496 = k := by omega
  have a2 : (q * 4503599627370496 + k) / 4503599627370496 - 1 = q := by omega
  rw [a1, a2]
  congr 1
  omega

/-- A number of at most 53 digits, not too far out, is rounded to itself. -/
theorem rd_exact (s : Bool) {m : Nat} {e : Int} (hm : m < 9007199254740992) (h1 : -1000 ≤ e) (h2 : e ≤ 900) : isNum (rd .f64 (.number s m e)) = true ∧ iv (-1074) (rd .f64 (.number s m e)) = iv (-1074) (.number s m e) := by
  by_cases h0 : m = 0
  · subst h0
    have e0 : rd .f64 (.number s 0 e) = .number s 0 (-1074) := by
      rw [rd_num]
      have : rung FloatKind.f64.format (.number s 0 e) = 0 := by simp [rung]
      rw [this]
      cases s <;> decide +kernel
    rw [e0]
    exact ⟨rfl, by simp only [iv, sgn_zero]⟩
  · have hr := wide_read2 s (by omega) hm h1 h2
    have e1 : rd .f64 (.number s m e) = .number s (m <<< (52 - m.log2)) (e + m.log2 - 52) := by
      have : FloatKind.f64.decode (FloatKind.f64.encode (.number s m e)) = .number s (m <<< (52 - m.log2)) (e + m.log2 - 52) := hr
      unfold rd cl
      rw [this]
    rw [e1]
    refine ⟨rfl, ?_⟩
    have hL : m.log2 ≤ 52 := by
      have := (Nat.log2_lt (n := m) (k := 53) h0).2 (by omega)
      omega
    simp only [iv]
    rw [signed_eq, signed_eq, Nat.shiftLeft_eq, Nat.mul_assoc, ← Nat.pow_add]
    congr 5
    omega

end Go.Flt

/-
  PLAIN LAWS for the sine: what is left of turns behind the point.
-/
namespace Go.Flt
open Go Ieee
set_option linter.unusedVariables false

def tQ : Int := ((tw 1074 : Nat) : Int)

theorem tQ_pos : 0 < tQ := by have := tw_pos 1074; unfold tQ; omega

/-- A number cut to a whole one, as the machine gives it. -/
def trD (x : Datum) : Datum := match x with
  | .nan _ _ => NaN
  | d => cl .f64 (FloatKind.f64.encode (d.integral .zero))

theorem zcut (s : Bool) (n d : Nat) : Toward.zero.cut s n d = Toward.down.cut false n d := by
  unfold Toward.cut
  simp

/-- A number of 64 bits, less than 2 to the power of 52, and the whole number it is cut to. -/
theorem trunc_ok {w : Nat} (hn : isNum (cl .f64 w) = true) (h1 : -(4503599627370496 * tQ) < iv (-1074) (cl .f64 w)) (h2 : iv (-1074) (cl .f64 w) < 4503599627370496 * tQ) :
    isNum (trD (cl .f64 w)) = true ∧ -tQ ≤ iv (-1074) (cl .f64 w) - iv (-1074) (trD (cl .f64 w)) ∧ iv (-1074) (cl .f64 w) - iv (-1074) (trD (cl .f64 w)) ≤ tQ := by
  have hp := place64 w
  have tq := tQ_pos
  generalize cl .f64 w = d at *
  cases d with
  | nan s t => cases hn
  | infinity s => cases hn
  | number s m i =>
    have hi : -1074 ≤ i := hp
    have e0 : trD (.number s m i) = rd .f64 (.number s (Toward.zero.cut s (m <<< i.toNat) (-i).toNat) 0) := rfl
    obtain ⟨c1, c2⟩ := (cut_down false (m <<< i.toNat) (-i).toNat).1 rfl
    rw [← zcut s] at c1 c2
    have key : m * 2 ^ (i - -1074).toNat * 2 ^ (-i).toNat = m * 2 ^ i.toNat * tw 1074 := by
      have e1 : (i - -1074).toNat + (-i).toNat = i.toNat + 1074 := by omega
      rw [Nat.mul_assoc, ← Nat.pow_add, e1, tw_eq (i.toNat + 1074), tw_add, ← Nat.mul_assoc, tw_eq i.toNat]
    rw [e0]
    generalize Toward.zero.cut s (m <<< i.toNat) (-i).toNat = k at *
    rw [Nat.shiftLeft_eq] at c1 c2
    have b1 : k * tw 1074 ≤ m * 2 ^ (i - -1074).toNat := by
      refine Nat.le_of_mul_le_mul_right ?_ (Nat.two_pow_pos (-i).toNat)
      rw [key, Nat.mul_right_comm]
      exact Nat.mul_le_mul_right _ c1
    have b2 : m * 2 ^ (i - -1074).toNat < (k + 1) * tw 1074 := by
      refine Nat.lt_of_mul_lt_mul_right (a := 2 ^ (-i).toNat) ?_
      rw [key, Nat.mul_right_comm (k + 1)]
      exact Nat.mul_lt_mul_of_pos_right c2 (tw_pos 1074)
    have b1' : (k : Int) * tQ ≤ ((m * 2 ^ (i - -1074).toNat : Nat) : Int) := by unfold tQ; rw [← Int.natCast_mul]; exact Int.ofNat_le.2 b1
    have b2' : ((m * 2 ^ (i - -1074).toNat : Nat) : Int) < (k : Int) * tQ + tQ := by
      have : ((m * 2 ^ (i - -1074).toNat : Nat) : Int) < (((k + 1) * tw 1074 : Nat) : Int) := Int.ofNat_lt.2 b2
      rw [Nat.add_mul, Nat.one_mul] at this
      unfold tQ
      rw [← Int.natCast_mul]
      omega
    have hiv : iv (-1074) (.number s m i) = (if s then -1 else 1) * ((m * 2 ^ (i - -1074).toNat : Nat) : Int) := by simp only [iv]; rw [signed_eq]
    rw [hiv] at h1 h2 ⊢
    generalize ((m * 2 ^ (i - -1074).toNat : Nat) : Int) = V at *
    have hk : k < 9007199254740992 := by
      have : (k : Int) * tQ < 4503599627370496 * tQ := by cases s <;> simp at h1 h2 <;> omega
      have := Int.lt_of_mul_lt_mul_right this (Int.le_of_lt tq)
      omega
    obtain ⟨r1, r2⟩ := rd_exact s (m := k) (e := 0) hk (by omega) (by omega)
    have hv : iv (-1074) (.number s k 0) = (if s then -1 else 1) * ((k : Int) * tQ) := by
      have h3 := iv_of s k 0 1074 (by omega)
      rw [h3]
      unfold tQ
      rw [← Int.natCast_mul]
      cases s <;> simp
    rw [r2, hv]
    refine ⟨r1, ?_, ?_⟩ <;> (cases s <;> simp <;> omega)

end Go.Flt

/-
  PLAIN LAWS for the sine: sizes of numbers of 64 bits, by powers of two.
-/
namespace Go.Flt
open Go Ieee
set_option linter.unusedVariables false

/-- 2 to the power of a, as a word. -/
def pw (a : Nat) : Nat := FloatKind.f64.encode (.number false 1 a)
def mw (a : Nat) : Nat := FloatKind.f64.encode (.number true 1 a)

theorem pw_ok {a : Nat} (h : a ≤ 900) : isNum (cl .f64 (pw a)) = true ∧ iv (-1074) (cl .f64 (pw a)) = ((tw a * tw 1074 : Nat) : Int) := by
  obtain ⟨r1, r2⟩ := rd_exact false (m := 1) (e := (a : Int)) (by omega) (by omega) (by omega)
  refine ⟨r1, ?_⟩
  have : iv (-1074) (cl .f64 (pw a)) = iv (-1074) (.number false 1 (a : Int)) := r2
  rw [this, iv_of false 1 a (a + 1074) (by omega), tw_add]
  simp

theorem mw_ok {a : Nat} (h : a ≤ 900) : isNum (cl .f64 (mw a)) = true ∧ iv (-1074) (cl .f64 (mw a)) = -((tw a * tw 1074 : Nat) : Int) := by
  obtain ⟨r1, r2⟩ := rd_exact true (m := 1) (e := (a : Int)) (by omega) (by omega) (by omega)
  refine ⟨r1, ?_⟩
  have : iv (-1074) (cl .f64 (mw a)) = iv (-1074) (.number true 1 (a : Int)) := r2
  rw [this, iv_of true 1 a (a + 1074) (by omega), tw_add]
  simp

/-- A number whose size is at most 2 to the power of a. -/
structure Bd (x : Datum) (a : Nat) : Prop where
  num : isNum x = true
  pl : place (-1074) x
  lo : -((tw a * tw 1074 : Nat) : Int) ≤ iv (-1074) x
  hi : iv (-1074) x ≤ ((tw a * tw 1074 : Nat) : Int)

theorem Bd.mono {x : Datum} {a b : Nat} (h : Bd x a) (hab : a ≤ b) : Bd x b := by
  have : tw a * tw 1074 ≤ tw b * tw 1074 := Nat.mul_le_mul_right _ (tw_le hab)
  exact ⟨h.num, h.pl, by have := h.lo; omega, by have := h.hi; omega⟩

theorem bd_rd {d : Datum} {a : Nat} (ha : a ≤ 900) (hd : isNum d = true) (pd : place (-1074) d) (h1 : -((tw a * tw 1074 : Nat) : Int) ≤ iv (-1074) d) (h2 : iv (-1074) d ≤ ((tw a * tw 1074 : Nat) : Int)) : Bd (rd .f64 d) a := by
  obtain ⟨n1, v1⟩ := pw_ok ha
  obtain ⟨n2, v2⟩ := mw_ok ha
  obtain ⟨r1, r2, r3⟩ := rd_between .f64 hd n2 n1 ((leF_iv n2 hd (place64 _) pd).2 (by rw [v2]; exact h1)) ((leF_iv hd n1 pd (place64 _)).2 (by rw [v1]; exact h2))
  have q2 := (leF_iv n2 r1 (place64 _) (place64 _)).1 r2
  have q3 := (leF_iv r1 n1 (place64 _) (place64 _)).1 r3
  rw [v2] at q2
  rw [v1] at q3
  exact ⟨r1, place64 _, q2, q3⟩

theorem bd_add {x y : Datum} {a : Nat} (ha : a ≤ 899) (hx : Bd x a) (hy : Bd y a) : Bd (fop .add .f64 x y) (a + 1) := by
  obtain ⟨d, e, hd, hv⟩ := fop_add (k := .f64) hx.num hy.num
  obtain ⟨v1, v2⟩ := hv (-1074) hx.pl hy.pl
  rw [e]
  have := hx.lo; have := hx.hi; have := hy.lo; have := hy.hi
  have e2 : tw (a + 1) * tw 1074 = 2 * (tw a * tw 1074) := by rw [tw_succ, Nat.mul_assoc]
  exact bd_rd (by omega) hd v1 (by rw [v2, e2]; omega) (by rw [v2, e2]; omega)

theorem bd_sub {x y : Datum} {a : Nat} (ha : a ≤ 899) (hx : Bd x a) (hy : Bd y a) : Bd (fop .sub .f64 x y) (a + 1) := by
  obtain ⟨d, e, hd, hv⟩ := fop_sub (k := .f64) hx.num hy.num
  obtain ⟨v1, v2⟩ := hv (-1074) hx.pl hy.pl
  rw [e]
  have := hx.lo; have := hx.hi; have := hy.lo; have := hy.hi
  have e2 : tw (a + 1) * tw 1074 = 2 * (tw a * tw 1074) := by rw [tw_succ, Nat.mul_assoc]
  exact bd_rd (by omega) hd v1 (by rw [v2, e2]; omega) (by rw [v2, e2]; omega)

theorem bd_quo {x y : Datum} {a : Nat} (ha : a ≤ 900) (hx : Bd x a) (hy : isNum y = true) (py : place (-1074) y) (mx : ∀ s m i, x = .number s m i → m < 9007199254740992) (h1 : ((tw 1074 : Nat) : Int) ≤ iv (-1074) y) : Bd (fop .quo .f64 x y) a := by
  obtain ⟨n1, v1⟩ := pw_ok ha
  obtain ⟨n2, v2⟩ := mw_ok ha
  have t0 := tw_pos 1074
  have hm : ((tw a * tw 1074 : Nat) : Int) ≤ (tw a : Int) * iv (-1074) y := by
    rw [Int.natCast_mul]
    exact Int.mul_le_mul_of_nonneg_left h1 (Int.natCast_nonneg _)
  obtain ⟨r1, r2, r3⟩ := quo_in (hi := pw a) (lo := mw a) a hx.num hy hx.pl py mx (by omega) (by have := hx.lo; omega) (by have := hx.hi; omega) n1 n2 v1 v2
  rw [v2] at r2
  rw [v1] at r3
  refine ⟨r1, ?_, r2, r3⟩
  have hr : ∀ o, place (-1074) (rnd .f64 o) := by
    intro o
    cases o with
    | none => trivial
    | some d => exact place64 _
  exact hr _

theorem abs_mul {u v p q : Int} (hp : 0 ≤ p) (hq : 0 ≤ q) (u1 : -p ≤ u) (u2 : u ≤ p) (v1 : -q ≤ v) (v2 : v ≤ q) : -(p * q) ≤ u * v ∧ u * v ≤ p * q := by
  have hu : u.natAbs ≤ p.natAbs := by omega
  have hv : v.natAbs ≤ q.natAbs := by omega
  have h := Nat.mul_le_mul hu hv
  rw [← Int.natAbs_mul, ← Int.natAbs_mul] at h
  have hpq : 0 ≤ p * q := Int.mul_nonneg hp hq
  omega

theorem bd_mul {x y : Datum} {a b : Nat} (ha : a + b ≤ 900) (hx : Bd x a) (hy : Bd y b) : Bd (fop .mul .f64 x y) (a + b) := by
  obtain ⟨d, e, hd, hv⟩ := fop_mul (k := .f64) hx.num hy.num
  obtain ⟨v1, v2⟩ := hv (-1074) (-1074) hx.pl hy.pl
  obtain ⟨n1, w1⟩ := pw_ok ha
  obtain ⟨n2, w2⟩ := mw_ok ha
  obtain ⟨m1, m2⟩ := abs_mul (Int.natCast_nonneg _) (Int.natCast_nonneg _) hx.lo hx.hi hy.lo hy.hi
  rw [← v2] at m1 m2
  have pww : ∀ w, place (-1074 + -1074) (cl .f64 w) := by
    intro w
    have := place64 w
    cases hc : cl .f64 w with
    | number s m i => rw [hc] at this; have this : (-1074 : Int) ≤ i := this; show (-1074 + -1074 : Int) ≤ i; omega
    | nan s t => trivial
    | infinity s => trivial
  have pd2 : ∀ w, isNum (cl .f64 w) = true → iv (-1074 + -1074) (cl .f64 w) = iv (-1074) (cl .f64 w) * ((tw 1074 : Nat) : Int) := by
    intro w hw
    have e : ((-1074 : Int) - (-1074 + -1074)).toNat = 1074 := by omega
    have e2 : ∀ k : Nat, k = 1074 → ((2 ^ k : Nat) : Int) = ((tw 1074 : Nat) : Int) := by intro k hk; rw [← hk]; rfl
    rw [iv_down hw (-1074) (-1074 + -1074) (by omega) (place64 w), e2 _ e]
  have ee : ((tw a * tw 1074 : Nat) : Int) * ((tw b * tw 1074 : Nat) : Int) = ((tw (a + b) * tw 1074 : Nat) : Int) * ((tw 1074 : Nat) : Int) := by
    have en : ∀ p q r : Nat, p * r * (q * r) = p * q * r * r := by
      intro p q r
      rw [Nat.mul_mul_mul_comm, Nat.mul_assoc (p * q)]
    rw [← Int.natCast_mul, ← Int.natCast_mul, tw_add, en]
  rw [ee] at m1 m2
  rw [e]
  obtain ⟨r1, r2, r3⟩ := rd_between .f64 hd n2 n1
    (by rw [leF_num (-1074 + -1074) n2 hd (pww _) v1, pd2 _ n2, w2, Int.neg_mul]; exact decide_eq_true m1)
    (by rw [leF_num (-1074 + -1074) hd n1 v1 (pww _), pd2 _ n1, w1]; exact decide_eq_true m2)
  have q2 := (leF_iv n2 r1 (place64 _) (place64 _)).1 r2
  have q3 := (leF_iv r1 n1 (place64 _) (place64 _)).1 r3
  rw [w2] at q2
  rw [w1] at q3
  exact ⟨r1, place64 _, q2, q3⟩

theorem c_p100 : cl .f32 2071986176 = .number false 8388608 97 := by decide +kernel
theorem c_m100 : cl .f32 4219469824 = .number true 8388608 97 := by decide +kernel

/-- What is not beyond 2 to the power of 120 is narrowed to a number. -/
theorem bd_nar {x : Datum} {a : Nat} (h : Bd x a) (ha : a ≤ 120) : isNum (nar x) = true := by
  have h := h.mono ha
  rw [nar_rd h.num]
  have n1 : isNum (cl .f32 2071986176) = true := by rw [c_p100]; rfl
  have n2 : isNum (cl .f32 4219469824) = true := by rw [c_m100]; rfl
  have e : tw 23 * tw 1171 = tw 120 * tw 1074 := by rw [← tw_add, ← tw_add]
  have v1 : iv (-1074) (cl .f32 2071986176) = ((tw 120 * tw 1074 : Nat) : Int) := by
    rw [c_p100, iv_of false _ _ 1171 (by omega), show (8388608 : Nat) = tw 23 from rfl, e]; simp
  have v2 : iv (-1074) (cl .f32 4219469824) = -((tw 120 * tw 1074 : Nat) : Int) := by
    rw [c_m100, iv_of true _ _ 1171 (by omega), show (8388608 : Nat) = tw 23 from rfl, e]; simp
  exact (rd_between .f32 h.num n2 n1 ((leF_iv n2 h.num (place32 _) h.pl).2 (by rw [v2]; exact h.lo)) ((leF_iv h.num n1 h.pl (place32 _)).2 (by rw [v1]; exact h.hi))).1

end Go.Flt

/-
  PLAIN LAWS for the sine: its data, and their sizes.
-/
namespace Go.Flt
open Go Ieee
set_option linter.unusedVariables false

/-- What is left of turns behind the point, plus 1 if it is less than 0. -/
def frac0 (y : Datum) : Datum := fop .sub .f64 y (if feq (trD y) (cl .f64 0) then cl .f64 0 else trD y)

def fracD (y : Datum) : Datum := if flt (frac0 y) (cl .f64 0) then fop .add .f64 (frac0 y) (cl .f64 4607182418800017408) else frac0 y

def bel (y : Datum) : Bool := flt (cl .f64 4602678819172646912) (fracD y) || feq (fracD y) (cl .f64 4602678819172646912)

def fr1 (y : Datum) : Datum := if bel y then fop .sub .f64 (fracD y) (cl .f64 4602678819172646912) else fracD y

def fr2 (y : Datum) : Datum := if flt (cl .f64 4598175219545276416) (fr1 y) then fop .sub .f64 (cl .f64 4602678819172646912) (fr1 y) else fr1 y

def sZ (y : Datum) : Datum := fop .mul .f64 (fr2 y) (cl .f64 4618760256179416344)

def sU (y : Datum) : Datum := fop .mul .f64 (sZ y) (sZ y)

/-- The divisor of round j. -/
def sK (j : Nat) : Int := (2 * (8 - j) * (2 * (8 - j) + 1) : Nat)

def sP (y : Datum) : Nat → Datum
  | 0 => cl .f64 4607182418800017408
  | j + 1 => fop .sub .f64 (cl .f64 4607182418800017408) (fop .quo .f64 (fop .mul .f64 (sU y) (sP y j)) (cl .f64 (floatOfInt .f64 (sK j))))

def sR (y : Datum) : Datum := fop .mul .f64 (sZ y) (sP y 8)

def sinD (y : Datum) : Datum := if bel y then opp (sR y) else sR y

theorem bd_one : Bd (cl .f64 4607182418800017408) 0 := by
  have e : tw 52 * tw 1022 = tw 0 * tw 1074 := by rw [← tw_add, ← tw_add]
  have v : iv (-1074) (cl .f64 4607182418800017408) = ((tw 0 * tw 1074 : Nat) : Int) := by
    rw [c_one, iv_of false _ _ 1022 (by omega), show (4503599627370496 : Nat) = tw 52 from rfl, e]; simp
  exact ⟨by rw [c_one]; rfl, place64 _, by rw [v]; omega, by rw [v]; omega⟩

theorem bd_half : Bd (cl .f64 4602678819172646912) 0 := by
  have e : tw 52 * tw 1021 = tw 1073 := by rw [← tw_add]
  have e2 : tw 1074 = 2 * tw 1073 := tw_succ 1073
  have t0 : tw 0 = 1 := rfl
  have v : iv (-1074) (cl .f64 4602678819172646912) = ((tw 1073 : Nat) : Int) := by
    rw [c_half, iv_of false _ _ 1021 (by omega), show (4503599627370496 : Nat) = tw 52 from rfl, e]; simp
  have e3 : tw 0 * tw 1074 = 2 * tw 1073 := by rw [t0, Nat.one_mul, e2]
  exact ⟨by rw [c_half]; rfl, place64 _, by rw [v, e3]; omega, by rw [v, e3]; omega⟩

theorem bd_zero : Bd (cl .f64 0) 0 := by
  have v : iv (-1074) (cl .f64 0) = 0 := by rw [c_nought]; exact sgn_zero _ _
  exact ⟨by rw [c_nought]; rfl, place64 _, by rw [v]; omega, by rw [v]; omega⟩

theorem bd_near {y t : Datum} (hy : isNum y = true) (ht : isNum t = true) (py : place (-1074) y) (pt : place (-1074) t) (h1 : -tQ ≤ iv (-1074) y - iv (-1074) t) (h2 : iv (-1074) y - iv (-1074) t ≤ tQ) : Bd (fop .sub .f64 y t) 0 := by
  obtain ⟨d, e, hd, hv⟩ := fop_sub (k := .f64) hy ht
  obtain ⟨v1, v2⟩ := hv (-1074) py pt
  have t0 : tw 0 * tw 1074 = tw 1074 := by
    have t1 : tw 0 = 1 := rfl
    rw [t1, Nat.one_mul]
  rw [e]
  unfold tQ at h1 h2
  exact bd_rd (by omega) hd v1 (by rw [v2, t0]; omega) (by rw [v2, t0]; omega)

theorem bd_frac0 {w : Nat} (hn : isNum (cl .f64 w) = true) (h1 : -(4503599627370496 * tQ) < iv (-1074) (cl .f64 w)) (h2 : iv (-1074) (cl .f64 w) < 4503599627370496 * tQ) : Bd (frac0 (cl .f64 w)) 0 := by
  obtain ⟨t1, t2, t3⟩ := trunc_ok hn h1 h2
  have pt : place (-1074) (trD (cl .f64 w)) := by
    cases hc : cl .f64 w with
    | nan s t => rw [hc] at hn; cases hn
    | infinity s => rw [hc] at hn; cases hn
    | number s m i => exact place64 _
  have hz := bd_zero
  have v0 : iv (-1074) (cl .f64 0) = 0 := by rw [c_nought]; exact sgn_zero _ _
  unfold frac0
  split
  · rename_i h
    rw [feq_num (-1074) t1 hz.num pt hz.pl, v0] at h
    have h := of_decide_eq_true h
    rw [h] at t2 t3
    exact bd_near hn hz.num (place64 _) hz.pl (by rw [v0]; exact t2) (by rw [v0]; exact t3)
  · exact bd_near hn t1 (place64 _) pt t2 t3

theorem bd_fracD {w : Nat} (hn : isNum (cl .f64 w) = true) (h1 : -(4503599627370496 * tQ) < iv (-1074) (cl .f64 w)) (h2 : iv (-1074) (cl .f64 w) < 4503599627370496 * tQ) : Bd (fracD (cl .f64 w)) 1 := by
  have h := bd_frac0 hn h1 h2
  unfold fracD
  split
  · exact bd_add (by omega) h bd_one
  · exact h.mono (by omega)

theorem bd_fr2 {y : Datum} (h : Bd (fracD y) 1) : Bd (fr2 y) 3 := by
  have h1 : Bd (fr1 y) 2 := by
    unfold fr1
    split
    · exact bd_sub (by omega) h (bd_half.mono (by omega))
    · exact h.mono (by omega)
  unfold fr2
  split
  · exact bd_sub (by omega) (bd_half.mono (by omega)) h1
  · exact h1.mono (by omega)

theorem bd_twopi : Bd (cl .f64 4618760256179416344) 3 := by
  have e : ∃ m, cl .f64 4618760256179416344 = .number false m (-50) ∧ m < 9007199254740992 := by
    refine ⟨7074237752028440, by decide +kernel, by omega⟩
  obtain ⟨m, e, hm⟩ := e
  have v : iv (-1074) (cl .f64 4618760256179416344) = ((m * tw 1024 : Nat) : Int) := by rw [e, iv_of false _ _ 1024 (by omega)]; simp
  have h1 : m * tw 1024 ≤ tw 3 * tw 1074 := by
    have e2 : tw 3 * tw 1074 = tw 53 * tw 1024 := by rw [← tw_add, ← tw_add]
    rw [e2]
    exact Nat.mul_le_mul_right _ (by have : tw 53 = 9007199254740992 := rfl; omega)
  exact ⟨by rw [e]; rfl, place64 _, by rw [v]; omega, by rw [v]; exact Int.ofNat_le.2 h1⟩

theorem sK_ok : ∀ j : Fin 8, isNum (cl .f64 (floatOfInt .f64 (sK j.val))) = true ∧ ((tw 1074 : Nat) : Int) ≤ iv (-1074) (cl .f64 (floatOfInt .f64 (sK j.val))) := by
  unfold tw sK
  decide +kernel

theorem tidy64_lt {op : BinOp} {x y : Datum} : ∀ s m i, fop op .f64 x y = .number s m i → m < 9007199254740992 := by
  have ht : tidy FloatKind.f64.format (fop op .f64 x y) := by
    have hr : ∀ o, tidy FloatKind.f64.format (rnd .f64 o) := by
      intro o
      cases o with
      | none => trivial
      | some d => exact cl_tidy .f64 _
    cases op <;> first | exact hr _ | trivial
  intro s m i h
  rw [h] at ht
  have hb : FloatKind.f64.format.binade = 4503599627370496 := by decide
  simp only [tidy, hb] at ht
  omega

theorem bd_sR {y : Datum} (h : Bd (fracD y) 1) : Bd (sR y) 110 := by
  have hz : Bd (sZ y) 6 := bd_mul (by omega) (bd_fr2 h) bd_twopi
  have hu : Bd (sU y) 12 := bd_mul (by omega) hz hz
  have hp : ∀ j, j ≤ 8 → Bd (sP y j) (13 * j) := by
    intro j
    induction j with
    | zero => intro _; exact bd_one
    | succ j ih =>
      intro hj
      obtain ⟨k1, k2⟩ := sK_ok ⟨j, by omega⟩
      have hm := bd_mul (by omega) hu (ih (by omega))
      have hq := bd_quo (by omega) hm k1 (place64 _) tidy64_lt k2
      have := bd_sub (by omega) (bd_one.mono (Nat.zero_le (12 + 13 * j))) hq
      exact this.mono (by omega)
  exact (bd_mul (by omega) hz (hp 8 (by omega))).mono (by omega)

end Go.Flt

/-
  CONTRACTS: the sine, in the program: cut numbers.
-/
namespace Go.Proofs.Ytlakmogclcpgdaa
open Go.RowKit Go.Flt
set_option linter.unusedVariables false
set_option maxRecDepth 100000
set_option linter.unusedSimpArgs false

theorem ext_archTrunc (z : Nat) (w : World) (h : (cl .f64 z).isNaN = false) : (callFunc 103 #[.float .f64 z]).run Try.prog w = .ok (.value (.float .f64 (FloatKind.f64.encode ((FloatKind.f64.decode z).integral .zero)))) w := by
  rw [run_callFunc_extern Try.func103 (by kernel_rfl) (by kernel_rfl) (by kernel_rfl) (show Extern.find Try.f103 = some (Extern.MathFloor.toIntegral "math.archTrunc" .zero) by kernel_rfl)]
  obtain ⟨X, hX⟩ : ∃ X : Bool → Nat → Sem Value, Extern.MathFloor.toIntegral "math.archTrunc" .zero #[.float .f64 z] = (match FloatKind.f64.decode z with
    | .nan s t => X s t
    | d => pure (.float .f64 (FloatKind.f64.encode (d.integral .zero)))) := ⟨_, rfl⟩
  rw [hX]
  rcases cl_or .f64 z with ⟨s, t, _, h'⟩ | ⟨h', hn⟩
  · rw [h'] at h; cases h
  · cases hd : FloatKind.f64.decode z with
    | nan s t => exact absurd hd (hn s t)
    | infinity s => rfl
    | number s m e => rfl

theorem c_Trunc (z : Nat) (w : World) (h : (cl .f64 z).isNaN = false) : Calls Try.prog 102 #[.float .f64 z] w fun e w' => ∃ r, e = .returned (.float .f64 r) ∧ cl .f64 r = trD (cl .f64 z) ∧ ∃ n, w' = w.drewN n := by
  have hx := fun w => ext_archTrunc z w h
  have hf : Hid (cl .f64 (FloatKind.f64.encode ((FloatKind.f64.decode z).integral .zero)) = trD (cl .f64 z)) := by
    rcases cl_or .f64 z with ⟨s, t, _, h'⟩ | ⟨h', hn⟩
    · rw [h'] at h; cases h
    · show cl .f64 _ = trD _
      rw [h']
      cases hd : FloatKind.f64.decode z with
      | nan s t => exact absurd hd (hn s t)
      | infinity s => rfl
      | number s m e => rfl
  clear h
  go_enter Try.func102, Try.ntmps102
  go_wp2_with fail
  go_ret
  exact ⟨_, rfl, hf.out, 0, rfl⟩

theorem c_partOfTurn (z : Nat) (w : World) (h : isNum (cl .f64 z) = true) : Calls Try.prog 100 #[.float .f64 z] w fun e w' => ∃ r, e = .returned (.float .f64 r) ∧ cl .f64 r = fracD (cl .f64 z) ∧ ∃ n, w' = w.drewN n := by
  have hn : (cl .f64 z).isNaN = false := by cases hc : cl .f64 z <;> first | rfl | (rw [hc] at h; cases h)
  have HN := Lib.hid hn
  have HF := Lib.hid (show frac0 (cl .f64 z) = fop .sub .f64 (cl .f64 z) (if feq (trD (cl .f64 z)) (cl .f64 0) then cl .f64 0 else trD (cl .f64 z)) from rfl)
  have HD := Lib.hid (show fracD (cl .f64 z) = if flt (frac0 (cl .f64 z)) (cl .f64 0) then fop .add .f64 (frac0 (cl .f64 z)) (cl .f64 4607182418800017408) else frac0 (cl .f64 z) from rfl)
  clear h hn
  generalize fracD (cl .f64 z) = FD at *
  cases h1 : feq (trD (cl .f64 z)) (cl .f64 0)
  all_goals
    rw [h1] at HF
    have hF := HF.out
    simp only [Bool.false_eq_true, if_false, if_true] at hF
    generalize frac0 (cl .f64 z) = F0 at *
    have HF0 := Lib.hid hF
    cases h2 : flt F0 (cl .f64 0)
  all_goals
    rw [hF] at h2
    clear hF
    go_enter Try.func100, Try.ntmps100
    go_wp2_with (first | (refine upon_fbin rfl _ _ _ _ ?_; intro z n hz hzw) | (go_at_call 102; refine (c_Trunc _ _ HN.out).mono ?_; rintro e w' ⟨r, rfl, hr, nq, rfl⟩))
    go_ret
    refine ⟨_, rfl, ?_, by (first | exact ⟨_, rfl⟩ | exact ⟨0, rfl⟩ | exact ⟨_, World.drewN_drewN _ _ _⟩ | (simp only [World.drewN_drewN]; exact ⟨_, rfl⟩))⟩
    rw [HD.out, HF0.out, h2]
    simp [*]

end Go.Proofs.Ytlakmogclcpgdaa

/-
  PLAIN LAWS for the sine: the program's counter and divisors.
-/
namespace Go.Flt
open Go Ieee
set_option linter.unusedVariables false

/-- The program's counter in round j. -/
def sC (j : Nat) : Datum := cl .f64 (floatOfInt .f64 ((8 - j : Nat) : Int))

theorem sC_ok : ∀ j : Fin 8,
    fop .mul .f64 (fop .mul .f64 (cl .f64 4611686018427387904) (sC j.val)) (fop .add .f64 (fop .mul .f64 (cl .f64 4611686018427387904) (sC j.val)) (cl .f64 4607182418800017408)) = cl .f64 (floatOfInt .f64 (sK j.val)) ∧
    fop .sub .f64 (sC j.val) (cl .f64 4607182418800017408) = sC (j.val + 1) ∧ (flt (cl .f64 4607182418800017408) (sC j.val) || feq (sC j.val) (cl .f64 4607182418800017408)) = true := by
  unfold sC sK
  decide +kernel

theorem sC_start : cl .f64 4620693217682128896 = sC 0 := by decide +kernel

theorem sC_end : (flt (cl .f64 4607182418800017408) (sC 8) || feq (sC 8) (cl .f64 4607182418800017408)) = false := by decide +kernel

end Go.Flt

/-
  PLAIN LAWS for the sine: great numbers, whole numbers.
-/
namespace Go.Flt
open Go Ieee
set_option linter.unusedVariables false

theorem u64_top (z : Nat) (hz : z < 18446744073709551616) : bits .andNot .u64 (z : Int) 9223372036854775808 = ((z % 9223372036854775808 : Nat) : Int) := by
  show IntKind.u64.wrap ((BitVec.ofInt 64 (z : Int) &&& ~~~BitVec.ofInt 64 9223372036854775808).toNat : Int) = _
  have h1 : (BitVec.ofInt 64 9223372036854775808).toNat = 9223372036854775808 := by decide
  have h2 : (BitVec.ofInt 64 (z : Int)).toNat = z := by rw [BitVec.toNat_ofInt]; omega
  rw [BitVec.toNat_and, BitVec.toNat_not, h1, h2, show 2 ^ 64 - 1 - 9223372036854775808 = 2 ^ 63 - 1 by decide, Nat.and_two_pow_sub_one_eq_mod]
  have h3 : z % 2 ^ 63 < 9223372036854775808 := Nat.mod_lt _ (by decide)
  simp [IntKind.wrap, IntKind.bits, IntKind.signed]
  omega

theorem abs_word {z : Nat} (h : (Lit.float .f64 z).wf = true) : cl .f64 (z % 9223372036854775808) = (if z < 9223372036854775808 then cl .f64 z else opp (cl .f64 z)) ∧ (Lit.float .f64 (z % 9223372036854775808)).wf = true := by
  have hz : z < 18446744073709551616 := by simpa [Lit.wf] using h
  by_cases hb : z < 9223372036854775808
  · rw [if_pos hb, Nat.mod_eq_of_lt hb]
    exact ⟨rfl, h⟩
  · rw [if_neg hb, ← cl_neg .f64 h]
    have e : Op.negFloat .f64 z = z % 9223372036854775808 := by
      rw [neg_eq .f64 h]
      have e : (FloatKind.f64).format.signWeight = 9223372036854775808 := double_weight
      rw [e, if_neg hb]
      omega
    rw [← e]
    exact ⟨rfl, wf_neg .f64 h⟩

theorem c_big : cl .f64 4841369599423283200 = .number false 4503599627370496 0 := by decide +kernel
theorem c_mbig : cl .f64 14064741636278059008 = .number true 4503599627370496 0 := by decide +kernel

theorem v_big : iv (-1074) (cl .f64 4841369599423283200) = 4503599627370496 * tQ := by
  rw [c_big, iv_of false _ _ 1074 (by omega)]
  unfold tQ
  simp
theorem v_mbig : iv (-1074) (cl .f64 14064741636278059008) = -(4503599627370496 * tQ) := by
  rw [c_mbig, iv_of true _ _ 1074 (by omega)]
  unfold tQ
  simp

/-- At least 2 to the power of 52, or at most as much less than 0. -/
def hug (x : Datum) : Bool := leF (cl .f64 4841369599423283200) x || leF x (cl .f64 14064741636278059008)

theorem iv_sign {B : Int} {s : Bool} {m : Nat} {i : Int} : (s = false → 0 ≤ iv B (.number s m i)) ∧ (s = true → iv B (.number s m i) ≤ 0) := by
  have e : iv B (.number s m i) = (if s then -1 else 1) * ((m * 2 ^ (i - B).toNat : Nat) : Int) := by simp only [iv]; rw [signed_eq]
  rw [e]
  have := Int.natCast_nonneg (m * 2 ^ (i - B).toNat)
  constructor <;> (rintro rfl; simp only [if_true, Bool.false_eq_true, if_false]; omega)

theorem hug_abs {z : Nat} (h : (Lit.float .f64 z).wf = true) (hn : isNum (cl .f64 z) = true) : leF (cl .f64 4841369599423283200) (if z < 9223372036854775808 then cl .f64 z else opp (cl .f64 z)) = hug (cl .f64 z) := by
  have hz : z < 18446744073709551616 := by simpa [Lit.wf] using h
  have n1 : isNum (cl .f64 4841369599423283200) = true := by rw [c_big]; rfl
  have n2 : isNum (cl .f64 14064741636278059008) = true := by rw [c_mbig]; rfl
  have tq := tQ_pos
  have hneg : (cl .f64 z).neg = decide (¬ z < 9223372036854775808) := by
    rcases cl_or .f64 z with ⟨s, t, _, h'⟩ | ⟨h', _⟩
    · rw [h'] at hn; cases hn
    · rw [h']
      have h2 : (FloatKind.f64.decode z).neg = (z / 9223372036854775808 % 2 == 1) := by
        rw [← double_weight]
        exact read_neg Ieee.double z
      rw [h2]
      by_cases hb : z < 9223372036854775808
      · rw [Nat.div_eq_of_lt hb]; simp [hb]
      · have : z / 9223372036854775808 = 1 := by omega
        rw [this]; simp; omega
  unfold hug
  have hp := place64 z
  rw [leF_num (-1074) n1 hn (place64 _) hp, leF_num (-1074) hn n2 hp (place64 _), v_big, v_mbig]
  cases hc : cl .f64 z with
  | nan s t => rw [hc] at hn; cases hn
  | infinity s => rw [hc] at hn; cases hn
  | number s m i =>
    rw [hc] at hneg hp
    have hneg : s = decide (¬ z < 9223372036854775808) := hneg
    obtain ⟨i1, i2⟩ := @iv_sign (-1074) s m i
    by_cases hb : z < 9223372036854775808
    · have hs : s = false := by rw [hneg]; simp [hb]
      have i1 := i1 hs
      rw [if_pos hb, leF_num (-1074) n1 rfl (place64 _) hp, v_big]
      have : ¬ iv (-1074) (.number s m i) ≤ -(4503599627370496 * tQ) := by omega
      rw [decide_eq_false this, Bool.or_false]
    · have hs : s = true := by rw [hneg]; simp [hb]
      have i2 := i2 hs
      have e : opp (.number s m i) = .number (!s) m i := rfl
      have e2 : iv (-1074) (.number (!s) m i) = -iv (-1074) (.number s m i) := by
        simp only [iv]; rw [signed_eq, signed_eq]; cases s <;> simp
      rw [if_neg hb, e, leF_num (y := .number (!s) m i) (-1074) n1 rfl (place64 _) hp, v_big, e2]
      have : ¬ 4503599627370496 * tQ ≤ iv (-1074) (.number s m i) := by omega
      rw [decide_eq_false this, Bool.false_or]
      exact decide_eq_decide.2 (by omega)

theorem hug_not {z : Nat} (hn : isNum (cl .f64 z) = true) (h : hug (cl .f64 z) = false) : -(4503599627370496 * tQ) < iv (-1074) (cl .f64 z) ∧ iv (-1074) (cl .f64 z) < 4503599627370496 * tQ := by
  have n1 : isNum (cl .f64 4841369599423283200) = true := by rw [c_big]; rfl
  have n2 : isNum (cl .f64 14064741636278059008) = true := by rw [c_mbig]; rfl
  unfold hug at h
  rw [leF_num (-1074) n1 hn (place64 _) (place64 _), leF_num (-1074) hn n2 (place64 _) (place64 _), v_big, v_mbig] at h
  simp at h
  omega

theorem zero64 (s : Bool) (p : Int) : rd .f64 (.number s 0 p) = .number s 0 (-1074) := by
  rw [rd_num]
  have : rung FloatKind.f64.format (.number s 0 p) = 0 := by simp [rung]
  rw [this]
  cases s <;> decide +kernel

/-- The whole number that the reference cuts to. -/
theorem whole_cut {z : Nat} (hn : isNum (cl .f64 z) = true) (h1 : -(4503599627370496 * tQ) < iv (-1074) (cl .f64 z)) (h2 : iv (-1074) (cl .f64 z) < 4503599627370496 * tQ) :
    ∃ J, floatToIntVal .f64 z .i64 = some J ∧ cl .f64 (floatOfInt .f64 J) = if feq (trD (cl .f64 z)) (cl .f64 0) then cl .f64 0 else trD (cl .f64 z) := by
  have tq := tQ_pos
  have hp := place64 z
  have hdec : FloatKind.f64.decode z = cl .f64 z := by
    rcases cl_or .f64 z with ⟨s, t, _, h'⟩ | ⟨h', _⟩
    · rw [h'] at hn; cases hn
    · exact h'.symm
  unfold floatToIntVal
  rw [hdec]
  cases hc : cl .f64 z with
  | nan s t => rw [hc] at hn; cases hn
  | infinity s => rw [hc] at hn; cases hn
  | number s m i =>
    rw [hc] at hp h1 h2
    have hi : -1074 ≤ i := hp
    have e0 : (Datum.number s m i).toInt .zero = some (signed s (Toward.zero.cut s (m <<< i.toNat) (-i).toNat) 0) := rfl
    have e1 : trD (.number s m i) = rd .f64 (.number s (Toward.zero.cut s (m <<< i.toNat) (-i).toNat) 0) := rfl
    obtain ⟨c1, c2⟩ := (cut_down false (m <<< i.toNat) (-i).toNat).1 rfl
    rw [← zcut s] at c1 c2
    have key : m * 2 ^ (i - -1074).toNat * 2 ^ (-i).toNat = m * 2 ^ i.toNat * tw 1074 := by
      have e1 : (i - -1074).toNat + (-i).toNat = i.toNat + 1074 := by omega
      rw [Nat.mul_assoc, ← Nat.pow_add, e1, tw_eq (i.toNat + 1074), tw_add, ← Nat.mul_assoc, tw_eq i.toNat]
    rw [e0, e1]
    generalize Toward.zero.cut s (m <<< i.toNat) (-i).toNat = k at *
    rw [Nat.shiftLeft_eq] at c1 c2
    have b1 : k * tw 1074 ≤ m * 2 ^ (i - -1074).toNat := by
      refine Nat.le_of_mul_le_mul_right ?_ (Nat.two_pow_pos (-i).toNat)
      rw [key, Nat.mul_right_comm]
      exact Nat.mul_le_mul_right _ c1
    have b1' : (k : Int) * tQ ≤ ((m * 2 ^ (i - -1074).toNat : Nat) : Int) := by unfold tQ; rw [← Int.natCast_mul]; exact Int.ofNat_le.2 b1
    have hiv : iv (-1074) (.number s m i) = (if s then -1 else 1) * ((m * 2 ^ (i - -1074).toNat : Nat) : Int) := by simp only [iv]; rw [signed_eq]
    rw [hiv] at h1 h2
    generalize ((m * 2 ^ (i - -1074).toNat : Nat) : Int) = V at *
    have hk : k < 4503599627370496 := by
      have : (k : Int) * tQ < 4503599627370496 * tQ := by cases s <;> simp at h1 h2 <;> omega
      have := Int.lt_of_mul_lt_mul_right this (Int.le_of_lt tq)
      omega
    have hsg : signed s k 0 = if s then -(k : Int) else k := by cases s <;> simp [signed]
    refine ⟨signed s k 0, ?_, ?_⟩
    · have q1 : IntKind.i64.min = -9223372036854775808 := by decide
      have q2 : IntKind.i64.max = 9223372036854775807 := by decide
      dsimp only
      rw [if_pos]
      rw [hsg, q1, q2]
      cases s <;> simp <;> omega
    · by_cases h0 : k = 0
      · subst h0
        have z0 : signed s 0 0 = 0 := sgn_zero _ _
        rw [z0]
        have e2 : rd .f64 (.number s 0 0) = .number s 0 (-1074) := zero64 _ _
        have e3 : cl .f64 (floatOfInt .f64 0) = cl .f64 0 := by decide +kernel
        have e4 : feq (.number s 0 (-1074)) (cl .f64 0) = true := by cases s <;> decide +kernel
        rw [e2, e3, e4, if_pos rfl]
      · obtain ⟨r1, r2⟩ := rd_exact s (m := k) (e := 0) (by omega) (by omega) (by omega)
        have v0 : iv (-1074) (cl .f64 0) = 0 := by rw [c_nought]; exact sgn_zero _ _
        have hv : iv (-1074) (.number s k 0) = (if s then -1 else 1) * ((k : Int) * tQ) := by
          have h3 := iv_of s k 0 1074 (by omega)
          rw [h3]
          unfold tQ
          rw [← Int.natCast_mul]
          cases s <;> simp
        have hkt : 0 < (k : Int) * tQ := Int.mul_pos (by omega) tq
        have pr : place (-1074) (rd .f64 (.number s k 0)) := place64 _
        have e4 : feq (rd .f64 (.number s k 0)) (cl .f64 0) = false := by
          rw [feq_num (-1074) r1 (by rw [c_nought]; rfl) pr (place64 _), r2, hv, v0]
          refine decide_eq_false ?_
          cases s <;> simp <;> omega
        rw [e4]
        simp only [Bool.false_eq_true, if_false]
        have e5 : floatOfInt .f64 (signed s k 0) = FloatKind.f64.encode (.number s k 0) := by
          unfold floatOfInt FloatKind.nearest
          rw [hsg]
          cases s
          · have : ¬ (k : Int) < 0 := by omega
            simp [this]
          · have : 0 < k := by omega
            simp [this]
        rw [e5]
        rfl

end Go.Flt

/-
  CONTRACTS: winds made smooth, the greatest of numbers.
-/
namespace Go.Proofs.Ytlakmogclcpgdaa
open Go.RowKit Go.Flt
set_option linter.unusedVariables false
set_option maxRecDepth 100000
set_option linter.unusedSimpArgs false

theorem run_max_float {P : Program} (w : World) (ts : Array TypeId) (t : TypeId) (x y : Nat) (hu : up (cl .f32 x) = true) (hx : isNum (cl .f32 x) = true) (hy : isNum (cl .f32 y) = true) :
    (Builtin.max_ ts t #[.float .f32 x, .float .f32 y]).run P w = .ok (.float .f32 (if flt (cl .f32 x) (cl .f32 y) then y else x)) w := by
  have hn : (FloatKind.f32.decode x).neg = false := by
    rcases cl_or .f32 x with ⟨s, t, _, h⟩ | ⟨h, _⟩
    · rw [h] at hx; cases hx
    · rw [← h]; simp [up] at hu; exact hu.2
  have e : (Builtin.max_ ts t #[.float .f32 x, .float .f32 y]).run P w = (Builtin.max2 (.float .f32 x) (.float .f32 y)).run P w := by simp [Builtin.max_]
  rw [e]
  show Sem.run P (match FloatKind.f32.format.order x y with
    | none => _
    | some .lt => _
    | some .gt => _
    | some .eq => _) w = _
  rw [order_cl]
  unfold flt
  cases ho : (cl .f32 x).order (cl .f32 y) with
  | none =>
    exfalso
    cases hcx : cl .f32 x <;> rw [hcx] at hx ho <;> first | (cases hx; done) | skip
    cases hcy : cl .f32 y <;> rw [hcy] at hy ho <;> first | (cases hy; done) | skip
    simp [Ieee.Datum.order] at ho
  | some o => cases o <;> simp [hn]

theorem ds_at {α β : Type} (f : α → β) (xs : List α) (k : Nat) (a : α) (b : β) (h : k < xs.length) : (xs.map f).getD k b = f (xs.getD k a) := by
  simp [List.getD, List.getElem?_map, List.getElem?_eq_getElem h]

theorem getD_mem {α : Type} (xs : List α) (k : Nat) (a : α) (h : k < xs.length) : xs.getD k a ∈ xs := by
  simp [List.getD, List.getElem?_eq_getElem h]

end Go.Proofs.Ytlakmogclcpgdaa

/-
  CONTRACTS: winds made smooth.
-/
namespace Go.Proofs.Ytlakmogclcpgdaa
open Go.RowKit Go.Flt
set_option linter.unusedVariables false
set_option maxRecDepth 100000
set_option linter.unusedSimpArgs false

/-- The mean of m winds from place i on. -/
def smD (xs : List Nat) (m i : Nat) : Ieee.Datum := meanD ((xs.drop i).take m)

def smN (xs : List Nat) (m : Nat) : Nat := xs.length - m + 1

def smOk (xs : List Nat) (m : Nat) : Bool := (List.range (smN xs m)).all fun i => fin (smD xs m i)

def okSm (xs : List Nat) (q : Int) : Bool := winds xs && within q 1 xs.length && smOk xs q.toNat

def smL (xs : List Nat) (q : Int) : List Ieee.Datum := if okSm xs q then (List.range (smN xs q.toNat)).map (smD xs q.toNat) else []

/-- A slice's part. -/
theorem fl_sub {w : World} {K n : Nat} {b off : Nat} {xs : List Nat} (h : Fl w K (some ⟨b, off, none⟩) n xs) (k m : Nat) (hk : k + m ≤ n) (h0 : 0 < m) : Fl w K (some ⟨b, off + k, none⟩) m ((xs.drop k).take m) := by
  have hl := h.1
  obtain ⟨b', off', e, hb, hc⟩ := h.2 (by omega)
  simp only [Option.some.injEq, Ieee.Datum.number.injEq, Addr.mk.injEq, and_true] at e
  obtain ⟨rfl, rfl⟩ := e
  refine ⟨by simp; omega, fun _ => ⟨b, off + k, rfl, hb, fun i x hx => ?_⟩⟩
  have := hc (k + i) x (by
    rw [List.getElem?_take] at hx
    split at hx
    · rwa [List.getElem?_drop] at hx
    · cases hx)
  rwa [← Nat.add_assoc] at this

theorem c_checkedList (lo hi : Nat) (v : Value) (zs : List Nat) (w : World) (h : FRow w lo hi v zs) (hn : zs.length ≤ 1048576) :
    Calls Try.prog 68 #[v] w fun e w' => e = .returned (.tuple #[if zs.all (fun x => fin (cl .f32 x)) then v else .slice none 0 0, .bool (zs.all fun x => fin (cl .f32 x))]) ∧ ∃ n, w' = w.drewN n := by
  obtain ⟨A, c, rfl, h1⟩ := h.slc
  have HM : zs.length ≤ maxLen := by unfold maxLen; omega
  have HMX := Lib.hid HM
  have HX := Lib.hid (fun w' (hd : ∃ n, w' = w.drewN n) => c_impl.areFinite A zs.length c hi zs w' (by obtain ⟨n, rfl⟩ := hd; exact Slc.drewN (g := Value.float .f32) h1 n) HMX.out)
  clear h h1 HM
  cases hb : zs.all fun x => fin (cl .f32 x)
  all_goals
    have HB := Lib.hid hb
    go_enter Try.func68, Try.ntmps68
    go_wp2_with (go_at_call 59; refine (HX.out _ ⟨0, rfl⟩).mono ?_; rintro e w' ⟨rfl, nq, rfl⟩)
    go_ret2
    exact ⟨by simp, by (first | exact ⟨_, rfl⟩ | exact ⟨0, rfl⟩ | exact ⟨_, World.drewN_drewN _ _ _⟩ | (simp only [World.drewN_drewN]; exact ⟨_, rfl⟩))⟩

end Go.Proofs.Ytlakmogclcpgdaa

/-
  CONTRACTS: air: when it is valid, speeds at heights, powers.
-/
namespace Go.Proofs.Ytlakmogclcpgdaa
open Go.RowKit Go.Flt
set_option linter.unusedVariables false
set_option maxRecDepth 100000
set_option linter.unusedSimpArgs false

/-- The numbers of air lie in block b. -/
def AirAt (w : World) (b : Nat) (d h v s : Nat) : Prop :=
  w.cell? ⟨b, 0, none⟩ = some (.float .f32 d) ∧ w.cell? ⟨b, 1, none⟩ = some (.float .f32 h) ∧ w.cell? ⟨b, 2, none⟩ = some (.float .f32 v) ∧ w.cell? ⟨b, 3, none⟩ = some (.float .f32 s)

def vAir (d h v s : Nat) : Bool := above (cl .f32 d) && above (cl .f32 h) && least (cl .f32 v) && fromTo (cl .f32 s) (cl .f32 0) (cl .f32 1065353216)

def pwr (d : Nat) (u : Ieee.Datum) : Ieee.Datum := fop .mul .f32 (fop .mul .f32 (fop .mul .f32 (fop .mul .f32 (cl .f32 1056964608) (cl .f32 d)) u) u) u

theorem c_l04Power (d u : Nat) (w : World) : Calls Try.prog 86 #[.float .f32 d, .float .f32 u] w (RetF (pwr d (cl .f32 u)) (Drawn w)) := by
  have HE := Lib.hid (show pwr d (cl .f32 u) = fop .mul .f32 (fop .mul .f32 (fop .mul .f32 (fop .mul .f32 (cl .f32 1056964608) (cl .f32 d)) (cl .f32 u)) (cl .f32 u)) (cl .f32 u) from rfl)
  generalize pwr d (cl .f32 u) = SP at *
  go_enter Try.func86, Try.ntmps86
  go_wp2_with (refine upon_fbin rfl _ _ _ _ ?_; intro z n hz hzw)
  go_ret
  exact ⟨_, rfl, by rw [HE.out]; simp only [*], by assumption, by (first | exact ⟨_, rfl⟩ | exact ⟨0, rfl⟩ | exact ⟨_, World.drewN_drewN _ _ _⟩ | (simp only [World.drewN_drewN]; exact ⟨_, rfl⟩))⟩

theorem c_AirPower (d u : Nat) (w : World) (hd : above (cl .f32 d) = true) : Calls Try.prog 71 #[.float .f32 d, .float .f32 u] w
    (RetFB (num (least (cl .f32 u)) (pwr d (cl .f32 u))) (least (cl .f32 u) && fin (pwr d (cl .f32 u))) (Grew w)) := by
  have hdn : isNum (cl .f32 d) = true := by
    unfold above at hd
    rw [Bool.and_eq_true, fin_eq] at hd
    exact hd.1
  have HE := Lib.hid (show pwr d (cl .f32 u) = fop .mul .f32 (fop .mul .f32 (fop .mul .f32 (fop .quo .f32 (cl .f32 d) (cl .f32 1073741824)) (cl .f32 u)) (cl .f32 u)) (cl .f32 u) by
    unfold pwr
    rw [half_two d hdn])
  generalize pwr d (cl .f32 u) = SP at *
  have hld : least (cl .f32 d) = true := by
    unfold above at hd
    unfold least fge
    rw [Bool.and_eq_true] at hd ⊢
    exact ⟨hd.1, by rw [hd.2]; rfl⟩
  have hp : ∀ w cap b, Fl w (b + 1) (some ⟨b, 0, none⟩) [d, u].length [d, u] → Calls Try.prog 87 #[.slice (some ⟨b, 0, none⟩) 2 cap] w fun e w' => e = .returned (.bool (least (cl .f32 u))) ∧ ∃ n, w' = w.drewN n := by
    intro w cap b hh
    have := c_impl.areLeast _ 2 cap _ _ w hh (by simp [maxLen])
    simpa only [List.all_cons, List.all_nil, Bool.and_true, hld, Bool.true_and] using this
  have HP := Lib.hid hp
  clear hp hld hdn hd
  cases hl : least (cl .f32 u)
  all_goals
    go_enter Try.func71, Try.ntmps71
    go_wp2_with (first | (refine upon_fbin rfl _ _ _ _ ?_; intro z n hz hzw) | (go_at_call 87; refine (HP.out _ _ _ (fl_new _ [d, u] _ _ _ (by simp) rfl)).mono ?_; rintro e w' ⟨rfl, nq, rfl⟩) | (go_at_call 60; refine (c_checked _ _).mono ?_; rintro e w' ⟨rfl, nq, rfl⟩))
    go_ret2
    first
      | exact ⟨_, rfl, by simp [num], fits_zero, by (show Below _ _ _; (repeat (first | exact Below.refl _ _ | refine ext_below ?_ (by first | omega | (simp only [size_ext, heap_push, Array.size_push, World.heap_drewN]; omega) | (simp; omega)) _ _ | refine below_draws ?_ _ | refine Below.alloc ?_ (by first | omega | (simp; done) | (simp; omega)) _ | refine Below.setCell ?_ (by first | omega | (simp; done) | (simp; omega)) _ | refine below_then (by assumption) (by first | omega | (simp; done) | (simp; omega)) ?_)))⟩
      | exact ⟨chkW z, by rw [HE.out]; simp [*], by rw [HE.out, cl_chkW]; simp [chk, num, *], fits_chkW (by assumption), by (show Below _ _ _; (repeat (first | exact Below.refl _ _ | refine ext_below ?_ (by first | omega | (simp only [size_ext, heap_push, Array.size_push, World.heap_drewN]; omega) | (simp; omega)) _ _ | refine below_draws ?_ _ | refine Below.alloc ?_ (by first | omega | (simp; done) | (simp; omega)) _ | refine Below.setCell ?_ (by first | omega | (simp; done) | (simp; omega)) _ | refine below_then (by assumption) (by first | omega | (simp; done) | (simp; omega)) ?_)))⟩

end Go.Proofs.Ytlakmogclcpgdaa

