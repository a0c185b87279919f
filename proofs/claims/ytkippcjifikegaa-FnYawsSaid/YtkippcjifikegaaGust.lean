/-
  CONTRACTS: winds made smooth, the greatest of numbers.
-/
import Derived.Lib.MinMax
import Derived.Test.YtkippcjifikegaaSpread
import Derived.Test.YtkippcjifikegaaNeg
namespace Go.Flt
open Go Ieee
set_option linter.unusedVariables false

theorem sgn_ge (m k : Nat) : 0 ≤ signed false m k := Int.natCast_nonneg _

theorem sgn_zero (s : Bool) (k : Nat) : signed s 0 k = 0 := by cases s <;> simp [signed]

theorem sgn_lt {m : Nat} (k : Nat) (h : 0 < m) : signed true m k < 0 := by
  have hp : 0 < m <<< k := by rw [Nat.shiftLeft_eq]; exact Nat.mul_pos h (Nat.two_pow_pos _)
  unfold signed
  generalize m <<< k = a at hp
  simp; omega

/-- No NaN, and its sign is plus. -/
def up (x : Datum) : Bool := !x.isNaN && !x.neg

theorem up_rnd {d : Datum} (h : up d = true) : up (rnd .f32 (some d)) = true := by
  have hn := write_neg single (d := d)
  have e : rnd .f32 (some d) = rd .f32 d := rfl
  cases d with
  | nan s t => simp [up, Datum.isNaN] at h
  | infinity s =>
    cases s
    · decide +kernel
    · simp [up, Datum.neg] at h
  | number s m p =>
    rw [e, rd_num]
    have e2 : FloatKind.f32.format.word s (rung FloatKind.f32.format (.number s m p)) = single.write (.number s m p) := (write_rung single s m p).symm
    rw [e2]
    simp only [up] at h ⊢
    rw [show FloatKind.f32.format = single from rfl, hn]
    have hr := rung_le single (.number s m p)
    have : (single.read (single.write (.number s m p))).isNaN = false := by
      rw [write_rung]
      generalize rung single (.number s m p) = r at hr
      by_cases hi : r = single.infRung
      · subst hi; rw [read_inf single (fmt_inf .f32)]; rfl
      · rw [read_rung _ s (by omega)]
        split <;> rfl
    rw [this]
    simpa [Datum.isNaN] using h

theorem least_num {y : Datum} (h : isNum y = true) (hg : (flt (cl .f32 0) y || feq y (cl .f32 0)) = true) : ∃ t n j, y = .number t n j ∧ (t = true → n = 0) := by
  cases y with
  | nan s t => cases h
  | infinity s => cases h
  | number t n j =>
    refine ⟨t, n, j, rfl, fun ht => ?_⟩
    subst ht
    rw [cl_zero32] at hg
    by_cases h0 : n = 0
    · exact h0
    · exfalso
      have p1 : place (min (-149) j) (.number false 0 (-149)) := by show min (-149) j ≤ (-149 : Int); omega
      have p2 : place (min (-149) j) (.number true n j) := by show min (-149) j ≤ j; omega
      have hp := sgn_lt (j - min (-149) j).toNat (Nat.pos_of_ne_zero h0)
      rw [flt_num (min (-149) j) rfl rfl p1 p2, feq_num (min (-149) j) rfl rfl p2 p1] at hg
      simp only [iv, sgn_zero, Bool.or_eq_true, decide_eq_true_eq] at hg
      omega

theorem up_add {x y : Datum} (hx : up x = true) (hy : isNum y = true) (hg : (flt (cl .f32 0) y || feq y (cl .f32 0)) = true) : up (fop .add .f32 x y) = true := by
  obtain ⟨t, n, j, rfl, hz⟩ := least_num hy hg
  cases x with
  | nan s t => simp [up, Datum.isNaN] at hx
  | infinity s => exact up_rnd hx
  | number s m i =>
    have hs : s = false := by simpa [up, Datum.isNaN, Datum.neg] using hx
    subst hs
    refine up_rnd ?_
    simp only [up, Datum.isNaN, Datum.neg, Bool.not_false, Bool.true_and, Bool.false_and, Bool.not_eq_true']
    split
    · rfl
    · rename_i h0
      refine decide_eq_false ?_
      cases t
      · have := sgn_ge m (i - min i j).toNat; have := sgn_ge n (j - min i j).toNat; omega
      · rw [hz rfl, sgn_zero]; have := sgn_ge m (i - min i j).toNat; omega

theorem up_quo {x : Datum} {n : Nat} {p : Int} (hx : up x = true) (hn : 0 < n) : up (fop .quo .f32 x (.number false n p)) = true := by
  cases x with
  | nan s t => simp [up, Datum.isNaN] at hx
  | infinity s =>
    refine up_rnd ?_
    simpa [up, Datum.isNaN, Datum.neg] using hx
  | number s m i =>
    have e : (Datum.number s m i).quotient (FloatKind.f32.format.fractionBits + 2) (.number false n p) = some (.number (s ^^ false) (2 * ((m <<< (FloatKind.f32.format.fractionBits + 2 + n.log2 - m.log2)) / n) + ((m <<< (FloatKind.f32.format.fractionBits + 2 + n.log2 - m.log2)) % n != 0).toNat) (i - p - (FloatKind.f32.format.fractionBits + 2 + n.log2 - m.log2 : Nat) - 1)) := by
      show (if n = 0 then _ else _) = _
      rw [if_neg (by omega)]
    show up (rnd .f32 _) = true
    rw [e]
    refine up_rnd ?_
    simpa [up, Datum.isNaN, Datum.neg] using hx

/-- The greater one. -/
def mx (x y : Datum) : Datum := if flt x y then y else x

theorem mx_zero {b : Nat} (h : up (cl .f32 b) = true) (hn : isNum (cl .f32 b) = true) : mx (cl .f32 0) (cl .f32 b) = cl .f32 b := by
  unfold mx
  split
  · rfl
  · rename_i h0
    have hneg : (cl .f32 b).neg = false := by simp [up] at h; exact h.2
    refine tidy_eq (cl_tidy .f32 0) (cl_tidy .f32 b) ?_ (by rw [hneg]; decide)
    have ht := cl_tidy .f32 b
    generalize cl .f32 b = d at *
    cases d with
    | nan s t => cases hn
    | infinity s => cases hn
    | number s m p =>
      obtain rfl : s = false := hneg
      rw [cl_zero32] at h0 ⊢
      have p1 : place (min (-149) p) (.number false 0 (-149)) := by show min (-149) p ≤ (-149 : Int); omega
      have p2 : place (min (-149) p) (.number false m p) := by show min (-149) p ≤ p; omega
      rw [flt_num (min (-149) p) rfl rfl p1 p2] at h0
      rw [feq_num (min (-149) p) rfl rfl p1 p2]
      simp only [iv, sgn_zero, decide_eq_true_eq] at h0 ⊢
      have := sgn_ge m (p - min (-149) p).toNat
      omega

theorem mx_up {x y : Datum} (hx : up x = true) (hy : up y = true) : up (mx x y) = true := by
  unfold mx; split <;> assumption

theorem mx_num {x y : Datum} (hx : isNum x = true) (hy : isNum y = true) : isNum (mx x y) = true := by
  unfold mx; split <;> assumption

/-- The greatest of the first k. -/
def mstTo (ds : List Datum) : Nat → Datum
  | 0 => cl .f32 0
  | k + 1 => mx (mstTo ds k) (ds.getD k NaN)

end Go.Flt

namespace Go.Proofs.Ytkippcjifikegaa
open Go.RowKit Go.Flt
set_option linter.unusedVariables false
set_option maxRecDepth 100000
set_option linter.unusedSimpArgs false

theorem floatOfInt_pos (n : Nat) (h0 : 0 < n) (h : n ≤ 1048576) : ∃ m p, cl .f32 (floatOfInt .f32 n) = .number false m p ∧ 0 < m := by
  have e : cl .f32 (floatOfInt .f32 n) = rd .f32 (.number false n 0) := by
    have : cl .f32 (floatOfInt .f32 n) = rd .f32 (.number (decide ((n : Int) < 0)) (n : Int).natAbs 0) := rfl
    rw [this]
    rw [decide_eq_false (by omega)]
    rfl
  obtain ⟨h1, h2, _⟩ := rd_between .f32 (x := .number false n 0) (a := 1065353216) (b := 2134900736) rfl (by rw [c_one32]; rfl) (by rw [c_hi32]; rfl)
    (by rw [c_one32, leF_num (-23) rfl rfl (by show (-23 : Int) ≤ -23; omega) (by show (-23 : Int) ≤ 0; omega)]; refine decide_eq_true ?_; simp only [iv, Ieee.signed, Bool.false_eq_true, if_false, Nat.shiftLeft_eq]; rw [show ((-23 : Int) - -23).toNat = 0 from rfl, show ((0 : Int) - -23).toNat = 23 from rfl]; omega)
    (by rw [c_hi32, leF_num (0) rfl rfl (by show (0 : Int) ≤ 0; omega) (by show (0 : Int) ≤ 104; omega)]; refine decide_eq_true ?_; simp only [iv, Ieee.signed, Bool.false_eq_true, if_false, Nat.shiftLeft_eq]; rw [show ((0 : Int) - 0).toNat = 0 from rfl, show ((104 : Int) - 0).toNat = 104 from rfl]; omega)
  rw [e]
  generalize rd .f32 (.number false n 0) = d at *
  cases d with
  | nan s t => cases h1
  | infinity s => cases h1
  | number s m p =>
    rw [c_one32, leF_num (min (-23) p) rfl rfl (by show min (-23) p ≤ (-23 : Int); omega) (by show min (-23) p ≤ p; omega)] at h2
    have h2 := of_decide_eq_true h2
    simp only [iv, Ieee.signed, Bool.false_eq_true, if_false, Nat.shiftLeft_eq] at h2
    have hp := Nat.two_pow_pos (-23 - min (-23) p).toNat
    have hq : 0 < 8388608 * 2 ^ (-23 - min (-23) p).toNat := Nat.mul_pos (by omega) hp
    cases s
    · simp only [Bool.false_eq_true, if_false] at h2
      refine ⟨m, p, rfl, ?_⟩
      rcases Nat.eq_zero_or_pos m with h0 | h0
      · rw [h0, Nat.zero_mul] at h2; omega
      · exact h0
    · simp only [if_true] at h2
      omega

theorem sum_up {xs : List Nat} (h : allLeast xs = true) : ∀ k, k ≤ xs.length → up (sumTo xs k) = true := by
  intro k
  induction k with
  | zero => intro _; show up (cl .f32 0) = true; decide
  | succ k ih =>
    intro hk
    have hx : least (cl .f32 (xs.getD k 0)) = true := by
      unfold allLeast at h
      rw [List.all_eq_true] at h
      have := h xs[k] (List.getElem_mem (by omega))
      simpa [List.getD, List.getElem?_eq_getElem (show k < xs.length by omega)] using this
    unfold least at hx
    rw [Bool.and_eq_true, fin_eq] at hx
    exact up_add (ih (by omega)) hx.1 hx.2

theorem mean_up {xs : List Nat} (h : allLeast xs = true) (h0 : 0 < xs.length) (hn : xs.length ≤ 1048576) : up (meanD xs) = true := by
  obtain ⟨m, p, e, hm⟩ := floatOfInt_pos xs.length h0 hn
  unfold meanD
  rw [e]
  exact up_quo (sum_up h _ (Nat.le_refl _)) hm

end Go.Proofs.Ytkippcjifikegaa
