/-
  CONTRACTS: small functions of numbers.
-/
import Derived.Test.YtkippcjifikegaaChecked
import Derived.Lib.Hide
import Derived.Test.YtkippcjifikegaaPure
namespace Go.Proofs.Ytkippcjifikegaa
open Go.RowKit Go.Flt
set_option linter.unusedVariables false
set_option maxRecDepth 100000
set_option linter.unusedSimpArgs false

theorem some_f32 : (Try.prog.underlying 24).isSome = true := by rw [Try.underlying24]; rfl

theorem some_f64 : (Try.prog.underlying 29).isSome = true := by rw [Try.underlying29]; rfl

theorem calls_bool {P : Program} {f : FuncId} {args : Array Value} {w : World} {R : World → Prop} {b c : Bool} (h : b = c) (H : Calls P f args w fun e w' => e = .returned (.bool b) ∧ R w') :
    Calls P f args w fun e w' => e = .returned (.bool c) ∧ R w' := h ▸ H

/-- The eight numbers of a plant. -/
structure Pl where
  (i d r l m s c e : Nat)

def fits (x : Nat) : Prop := (Lit.float .f32 x).wf = true

def Pl.wf (p : Pl) : Prop := fits p.i ∧ fits p.d ∧ fits p.r ∧ fits p.l ∧ fits p.m ∧ fits p.s ∧ fits p.c ∧ fits p.e

/-- finite: what is taken from itself is zero then alone -/
def fin (x : Ieee.Datum) : Bool := feq (fop .sub .f32 x x) (cl .f32 0)

def fle (x y : Ieee.Datum) : Bool := flt x y || feq x y

def fge (x y : Ieee.Datum) : Bool := flt y x || feq x y

def least (x : Ieee.Datum) : Bool := fin x && fge x (cl .f32 0)

def above (x : Ieee.Datum) : Bool := fin x && flt (cl .f32 0) x

def fromTo (x lo hi : Ieee.Datum) : Bool := fge x lo && fle x hi

def within (n lo hi : Int) : Bool := decide (lo ≤ n) && decide (n ≤ hi)

theorem cl_zero : cl .f32 0 = .number false 0 (-149) := by decide

theorem rnd_zero (s : Bool) (p : Int) : rnd .f32 (some (.number s 0 p)) = .number s 0 (-149) := by
  have h : (FloatKind.f32).encode (.number s 0 p) = Ieee.single.word s 0 := by
    unfold FloatKind.encode Ieee.Format.write Ieee.Format.nearest
    rfl
  unfold rnd
  simp only [h]
  cases s <;> decide

theorem fin_eq (x : Ieee.Datum) : fin x = isNum x := by
  unfold fin
  cases x with
  | nan s t => simp [fop, Ieee.Datum.sum, rnd, isNum]; decide
  | infinity s => cases s <;> (simp [fop, Ieee.Datum.sum, rnd, isNum, Ieee.Datum.opposite]; decide)
  | number s m e =>
    have h : Ieee.signed s m (e - min e e).toNat + Ieee.signed (!s) m (e - min e e).toNat = 0 := by
      unfold Ieee.signed
      cases s <;> simp <;> omega
    simp only [fop, Ieee.Datum.sum, Ieee.Datum.opposite, h, isNum]
    simp only [if_true, Int.natAbs_zero, rnd_zero, cl_zero]
    cases s <;> decide

theorem not_fle {x y : Ieee.Datum} (hx : isNum x = true) (hy : isNum y = true) : (!fle x y) = flt y x := Go.Flt.not_fle hx hy

theorem above_not (x : Ieee.Datum) : (fin x && !fle x (cl .f32 0)) = above x := by
  unfold above
  cases h : fin x
  · rfl
  · rw [not_fle (by rw [← fin_eq]; exact h) (by decide)]

theorem c_IsFinite (x : Nat) (w : World) : Calls Try.prog 38 #[.float .f32 x] w fun e w' => e = .returned (.bool (fin (cl .f32 x))) ∧ ∃ n, w' = w.drewN n := by
  go_enter Try.func38, Try.ntmps38
  go_wp2_with (refine upon_fbin rfl _ _ _ _ ?_; intro z n hz hzw)
  go_ret
  exact ⟨rfl, _, rfl⟩

theorem c_l01Finite (x : Nat) (w : World) : Calls Try.prog 36 #[.float .f32 x] w fun e w' => e = .returned (.bool (fin (cl .f32 x))) ∧ ∃ n, w' = w.drewN n := by
  go_enter Try.func36, Try.ntmps36
  go_wp2_with (refine upon_fbin rfl _ _ _ _ ?_; intro z n hz hzw)
  go_ret
  exact ⟨rfl, _, rfl⟩

theorem c_isLeast (x : Nat) (w : World) : Calls Try.prog 56 #[.float .f32 x] w fun e w' => e = .returned (.bool (least (cl .f32 x))) ∧ ∃ n, w' = w.drewN n := by
  by_cases h : fin (cl .f32 x) = true
  all_goals
    go_enter Try.func56, Try.ntmps56
    go_wp2_with (go_at_call 38; refine (c_IsFinite _ _).mono ?_; rintro e w' ⟨rfl, nq, rfl⟩)
    go_ret
    exact ⟨by simp [least, h, fge], _, rfl⟩


theorem c_isFromTo (x lo hi : Nat) (w : World) : Calls Try.prog 74 #[.float .f32 x, .float .f32 lo, .float .f32 hi] w fun e w' => e = .returned (.bool (fromTo (cl .f32 x) (cl .f32 lo) (cl .f32 hi))) ∧ ∃ n, w' = w.drewN n := by
  go_enter Try.func74, Try.ntmps74
  go_wp2_with fail
  all_goals
    go_ret
    exact ⟨by simp [fromTo, fge, fle, *], 0, rfl⟩

theorem c_within (n lo hi : Int) (w : World) : Calls Try.prog 46 #[.int .i64 n, .int .i64 lo, .int .i64 hi] w fun e w' => e = .returned (.bool (within n lo hi)) ∧ ∃ n, w' = w.drewN n := by
  go_enter Try.func46, Try.ntmps46
  go_wp2_with fail
  all_goals
    go_ret
    exact ⟨by first | (simp [within, *]; done) | (simp [within, *]; omega), 0, rfl⟩



theorem c_arePositive1 (x : Nat) (w : World) : Calls Try.prog 71 #[.float .f32 x] w fun e w' => e = .returned (.bool (!fin (cl .f32 x) || fle (cl .f32 x) (cl .f32 0))) ∧ ∃ n, w' = w.drewN n := by
  by_cases h : fin (cl .f32 x) = true
  all_goals
    go_enter Try.func71, Try.ntmps71
    go_wp2_with (go_at_call 38; refine (c_IsFinite _ _).mono ?_; rintro e w' ⟨rfl, nq, rfl⟩)
    go_ret
    exact ⟨by simp [h, fle], _, rfl⟩


@[go_sem] theorem ext_Float64bits (z : Nat) (w : World) : (callFunc 91 #[.float .f64 z]).run Try.prog w = .ok (.value (.int .u64 z)) w := by
  rw [run_callFunc_extern Try.func91 (by kernel_rfl) (by kernel_rfl) (by kernel_rfl) (show Extern.find Try.f91 = some Extern.MathFloatBits.float64bits by kernel_rfl)]
  rfl

@[go_sem] theorem ext_Float32bits (z : Nat) (w : World) : (callFunc 82 #[.float .f32 z]).run Try.prog w = .ok (.value (.int .u32 z)) w := by
  rw [run_callFunc_extern Try.func82 (by kernel_rfl) (by kernel_rfl) (by kernel_rfl) (show Extern.find Try.f82 = some Extern.MathFloatBits.float32bits by kernel_rfl)]
  rfl

theorem fits_lt {x : Nat} (h : fits x) : x < 4294967296 := by
  unfold fits at h
  simpa [Lit.wf] using h

theorem wrap_neg {z : Nat} (h : (Lit.float .f64 z).wf = true) (hn : (cl .f64 z).isNaN = false) : decide (wrap64 (z : Int) < 0) = (cl .f64 z).neg := by
  have hz : z < 18446744073709551616 := by simpa [Lit.wf] using h
  rcases cl_or .f64 z with ⟨s, t, _, h'⟩ | ⟨h', _⟩
  · rw [h'] at hn; cases hn
  · rw [h']
    have h2 : (FloatKind.f64.decode z).neg = (z / 9223372036854775808 % 2 == 1) := by
      rw [← double_weight]
      exact read_neg Ieee.double z
    rw [h2]
    unfold wrap64
    by_cases hb : z < 9223372036854775808
    · rw [Nat.div_eq_of_lt hb]
      simp
      omega
    · have : z / 9223372036854775808 = 1 := by omega
      rw [this]
      simp
      omega


theorem c_Signbit (z : Nat) (w : World) (h : (Lit.float .f64 z).wf = true) (hn : (cl .f64 z).isNaN = false) :
    Calls Try.prog 80 #[.float .f64 z] w fun e w' => e = .returned (.bool (cl .f64 z).neg) ∧ ∃ n, w' = w.drewN n := by
  have H := Lib.hid (wrap_neg h hn)
  clear h hn
  go_enter Try.func80, Try.ntmps80
  go_wp2_with fail
  go_ret
  exact ⟨by rw [← H.out]; rfl, 0, rfl⟩

/-- The bits of a number, all NaNs alike. -/
def bitsOf (x : Nat) : Int := if (cl .f32 x).isNaN then 2143289344 else x


theorem c_l01Bits (x : Nat) (w : World) (hx : fits x) : Calls Try.prog 67 #[.float .f32 x] w fun e w' => e = .returned (.int .i64 (bitsOf x)) ∧ ∃ n, w' = w.drewN n := by
  have hx := fits_lt hx
  have hs := feq_self (cl .f32 x)
  cases hn : (cl .f32 x).isNaN
  all_goals
    have H := Lib.hid hn
    rw [hn] at hs
    clear hn
    go_enter Try.func67, Try.ntmps67
    go_wp2_with fail
    go_ret
    exact ⟨by unfold bitsOf; rw [H.out]; rfl, 0, rfl⟩

theorem bits_same {x y : Nat} (hx : fits x) (hy : fits y) : decide (bitsOf x = bitsOf y) = same .f32 x y := by
  unfold bitsOf same
  have hx' := fits_lt hx
  have hy' := fits_lt hy
  have nanbits : ∀ z : Nat, (z : Int) = 2143289344 → (cl .f32 z).isNaN = true := fun z hz => by
    obtain rfl : z = 2143289344 := by omega
    decide
  cases h1 : (cl .f32 x).isNaN <;> cases h2 : (cl .f32 y).isNaN
  · simp only [Bool.false_eq_true, if_false]
    rw [Bool.eq_iff_iff]
    simp only [decide_eq_true_eq]
    constructor
    · intro h
      obtain rfl : x = y := by omega
      rfl
    · intro h
      rcases cl_or .f32 x with ⟨s, t, _, h'⟩ | ⟨h', hn'⟩
      · rw [h'] at h1; cases h1
      · rcases cl_or .f32 y with ⟨s, t, _, h''⟩ | ⟨h'', hn''⟩
        · rw [h''] at h2; cases h2
        · rw [h', h''] at h
          have := word_of_read Ieee.single (a := x) (b := y) hx' hy' h hn'
          omega
  · simp only [Bool.false_eq_true, if_false, if_true]
    rw [Bool.eq_iff_iff]
    simp only [decide_eq_true_eq]
    constructor
    · intro h; rw [nanbits x h] at h1; cases h1
    · intro h; rw [h, h2] at h1; cases h1
  · simp only [Bool.false_eq_true, if_false, if_true]
    rw [Bool.eq_iff_iff]
    simp only [decide_eq_true_eq]
    constructor
    · intro h; rw [nanbits y h.symm] at h2; cases h2
    · intro h; rw [h, h2] at h1; cases h1
  · simp only [if_true]
    rw [(cl_nan_iff .f32 x).2 h1, (cl_nan_iff .f32 y).2 h2]
    simp

theorem c_l01Same (x y : Nat) (w : World) (hx : fits x) (hy : fits y) : Calls Try.prog 39 #[.float .f32 x, .float .f32 y] w fun e w' => e = .returned (.bool (same .f32 x y)) ∧ ∃ n, w' = w.drewN n := by
  have H := Lib.hid (bits_same hx hy)
  go_enter Try.func39, Try.ntmps39
  go_wp2_with (first | (go_at_call 67; refine (c_l01Bits _ _ (by assumption)).mono ?_; rintro e w' ⟨rfl, nq, rfl⟩))
  go_ret
  exact ⟨by rw [← H.out]; rfl, _, rfl⟩


theorem same_nan_left {x y : Nat} (h : (cl .f32 x).isNaN = true) : same .f32 x y = (cl .f32 y).isNaN := by
  unfold same
  rw [(cl_nan_iff .f32 x).2 h]
  cases h2 : (cl .f32 y).isNaN
  · simp; intro h3; rw [← h3] at h2; cases h2
  · rw [(cl_nan_iff .f32 y).2 h2]; simp

theorem same_comm (x y : Nat) : same .f32 x y = same .f32 y x := by
  unfold same
  rw [Bool.eq_iff_iff]
  simp only [decide_eq_true_eq]
  exact ⟨Eq.symm, Eq.symm⟩

set_option maxRecDepth 100000 in
theorem c_SameNumber (x y : Nat) (w : World) : Calls Try.prog 61 #[.float .f32 x, .float .f32 y] w fun e w' => e = .returned (.bool (same .f32 x y)) ∧ ∃ n, w' = w.drewN n := by
  have sx := feq_self (cl .f32 x)
  have sy := feq_self (cl .f32 y)
  cases hx : (cl .f32 x).isNaN <;> cases hy : (cl .f32 y).isNaN
  all_goals
    rw [hx] at sx
    rw [hy] at sy
  · have WX := Lib.hid (wid_neg x hx)
    have WY := Lib.hid (wid_neg y hy)
    have NX : Hid (∀ z, cl .f64 z = wid (cl .f32 x) → (cl .f64 z).isNaN = false) := fun z hz => by
      rw [hz]
      have := wid_nan x
      rw [hx] at this
      exact this
    have NY : Hid (∀ z, cl .f64 z = wid (cl .f32 y) → (cl .f64 z).isNaN = false) := fun z hz => by
      rw [hz]
      have := wid_nan y
      rw [hy] at this
      exact this
    have HX := Lib.hid hx
    have HY := Lib.hid hy
    clear hx hy
    cases hf : feq (cl .f32 x) (cl .f32 y)
    · go_enter Try.func61, Try.ntmps61
      go_wp2_with fail
      go_ret
      exact ⟨by
        have : same .f32 x y = false := by
          unfold same
          rw [decide_eq_false_iff_not]
          intro h
          rw [h, sy] at hf
          cases hf
        rw [this]; rfl, 0, rfl⟩
    · have HF := Lib.hid hf
      go_enter Try.func61, Try.ntmps61
      go_wp2_with (first | (refine upon_widen _ _ _ some_f32 Try.underlying29 ?_; intro z n hz hzw; have HZ := Lib.hid hz; clear hz; have HW := Lib.hid hzw; clear hzw) | (go_at_call 80; first | (refine (c_Signbit _ _ HW.out (NX.out _ HZ.out)).mono ?_; rintro e w' ⟨rfl, nq, rfl⟩) | (refine (c_Signbit _ _ HW.out (NY.out _ HZ.out)).mono ?_; rintro e w' ⟨rfl, nq, rfl⟩)))
      rename_i z1 n1 HZ1 HW1 nq1
      go_ret
      exact ⟨by
        have : same .f32 x y = ((cl .f64 z1).neg == (cl .f64 z).neg) := by
          rw [HZ1.out, HZ.out, WX.out, WY.out]
          unfold same
          rw [Bool.eq_iff_iff]
          simp only [decide_eq_true_eq, beq_iff_eq]
          exact ⟨fun h => by rw [h], fun h => cl_eq_of HF.out h⟩
        rw [this]; rfl, _, rfl⟩
  · have HS : Hid (same .f32 x y = false) := by rw [same_comm, same_nan_left hy, hx]; rfl
    clear hx hy
    go_enter Try.func61, Try.ntmps61
    go_wp2_with fail
    go_ret
    exact ⟨by rw [HS.out]; rfl, 0, rfl⟩
  · have HS : Hid (same .f32 x y = false) := by rw [same_nan_left hx, hy]; rfl
    clear hx hy
    go_enter Try.func61, Try.ntmps61
    go_wp2_with fail
    go_ret
    exact ⟨by rw [HS.out]; rfl, 0, rfl⟩
  · have HS : Hid (same .f32 x y = true) := by rw [same_nan_left hx, hy]; rfl
    clear hx hy
    go_enter Try.func61, Try.ntmps61
    go_wp2_with fail
    go_ret
    exact ⟨by rw [HS.out]; rfl, 0, rfl⟩

end Go.Proofs.Ytkippcjifikegaa
