/-
  CONTRACTS: small functions of numbers.
-/
import Derived.Test.YtlakmogclcpgdaaChecked
import Derived.Lib.Hide
import Derived.Test.YtlakmogclcpgdaaFreeMg
namespace Go.Proofs.Ytlakmogclcpgdaa
open Go.RowKit Go.Flt
set_option linter.unusedVariables false
set_option maxRecDepth 100000
set_option linter.unusedSimpArgs false

theorem some_f32 : (Try.prog.underlying 22).isSome = true := by rw [Try.underlying22]; rfl

theorem some_f64 : (Try.prog.underlying 43).isSome = true := by rw [Try.underlying43]; rfl

theorem calls_bool {P : Program} {f : FuncId} {args : Array Value} {w : World} {R : World → Prop} {b c : Bool} (h : b = c) (H : Calls P f args w fun e w' => e = .returned (.bool b) ∧ R w') :
    Calls P f args w fun e w' => e = .returned (.bool c) ∧ R w' := h ▸ H

/-- The eight numbers of a plant. -/
structure Pl where
  (i d r l m s c e : Nat)

def fits (x : Nat) : Prop := (Lit.float .f32 x).wf = true

def Pl.wf (p : Pl) : Prop := fits p.i ∧ fits p.d ∧ fits p.r ∧ fits p.l ∧ fits p.m ∧ fits p.s ∧ fits p.c ∧ fits p.e

/-- finite: what is taken from itself is zero then alone -/
def fin (x : Ieee.Datum) : Bool := feq (fop .sub .f32 x x) (cl .f32 0)

def fle (x y : Ieee.Datum) : Bool := flt x y || feq x y

def fge (x y : Ieee.Datum) : Bool := flt y x || feq x y

def least (x : Ieee.Datum) : Bool := fin x && fge x (cl .f32 0)

def above (x : Ieee.Datum) : Bool := fin x && flt (cl .f32 0) x

def fromTo (x lo hi : Ieee.Datum) : Bool := fge x lo && fle x hi

def within (n lo hi : Int) : Bool := decide (lo ≤ n) && decide (n ≤ hi)

theorem cl_zero : cl .f32 0 = .number false 0 (-149) := by decide

theorem rnd_zero (s : Bool) (p : Int) : rnd .f32 (some (.number s 0 p)) = .number s 0 (-149) := by
  have h : (FloatKind.f32).encode (.number s 0 p) = Ieee.single.word s 0 := by
    unfold FloatKind.encode Ieee.Format.write Ieee.Format.nearest
    rfl
  unfold rnd
  simp only [h]
  cases s <;> decide

theorem fin_eq (x : Ieee.Datum) : fin x = isNum x := by
  unfold fin
  cases x with
  | nan s t => simp [fop, Ieee.Datum.sum, rnd, isNum]; decide
  | infinity s => cases s <;> (simp [fop, Ieee.Datum.sum, rnd, isNum, Ieee.Datum.opposite]; decide)
  | number s m e =>
    have h : Ieee.signed s m (e - min e e).toNat + Ieee.signed (!s) m (e - min e e).toNat = 0 := by
      unfold Ieee.signed
      cases s <;> simp <;> omega
    simp only [fop, Ieee.Datum.sum, Ieee.Datum.opposite, h, isNum]
    simp only [if_true, Int.natAbs_zero, rnd_zero, cl_zero]
    cases s <;> decide

theorem not_fle {x y : Ieee.Datum} (hx : isNum x = true) (hy : isNum y = true) : (!fle x y) = flt y x := Go.Flt.not_fle hx hy

theorem above_not (x : Ieee.Datum) : (fin x && !fle x (cl .f32 0)) = above x := by
  unfold above
  cases h : fin x
  · rfl
  · rw [not_fle (by rw [← fin_eq]; exact h) (by decide)]

theorem c_IsFinite (x : Nat) (w : World) : Calls Try.prog 66 #[.float .f32 x] w fun e w' => e = .returned (.bool (fin (cl .f32 x))) ∧ ∃ n, w' = w.drewN n := by
  go_enter Try.func66, Try.ntmps66
  go_wp2_with (refine upon_fbin rfl _ _ _ _ ?_; intro z n hz hzw)
  go_ret
  exact ⟨rfl, _, rfl⟩

theorem c_l01Finite (x : Nat) (w : World) : Calls Try.prog 54 #[.float .f32 x] w fun e w' => e = .returned (.bool (fin (cl .f32 x))) ∧ ∃ n, w' = w.drewN n := by
  go_enter Try.func54, Try.ntmps54
  go_wp2_with (refine upon_fbin rfl _ _ _ _ ?_; intro z n hz hzw)
  go_ret
  exact ⟨rfl, _, rfl⟩

theorem c_isLeast (x : Nat) (w : World) : Calls Try.prog 67 #[.float .f32 x] w fun e w' => e = .returned (.bool (least (cl .f32 x))) ∧ ∃ n, w' = w.drewN n := by
  by_cases h : fin (cl .f32 x) = true
  all_goals
    go_enter Try.func67, Try.ntmps67
    go_wp2_with (go_at_call 66; refine (c_IsFinite _ _).mono ?_; rintro e w' ⟨rfl, nq, rfl⟩)
    go_ret
    exact ⟨by simp [least, h, fge], _, rfl⟩

theorem c_l02Least (x : Nat) (w : World) : Calls Try.prog 69 #[.float .f32 x] w fun e w' => e = .returned (.bool (least (cl .f32 x))) ∧ ∃ n, w' = w.drewN n := by
  by_cases h : fin (cl .f32 x) = true
  all_goals
    go_enter Try.func69, Try.ntmps69
    go_wp2_with (go_at_call 54; refine (c_l01Finite _ _).mono ?_; rintro e w' ⟨rfl, nq, rfl⟩)
    go_ret
    exact ⟨by simp [least, h, fge], _, rfl⟩

theorem c_l02Above (x : Nat) (w : World) : Calls Try.prog 72 #[.float .f32 x] w fun e w' => e = .returned (.bool (above (cl .f32 x))) ∧ ∃ n, w' = w.drewN n := by
  by_cases h : fin (cl .f32 x) = true
  all_goals
    go_enter Try.func72, Try.ntmps72
    go_wp2_with (go_at_call 54; refine (c_l01Finite _ _).mono ?_; rintro e w' ⟨rfl, nq, rfl⟩)
    go_ret
    exact ⟨by simp [above, h], _, rfl⟩


theorem c_isFromTo (x lo hi : Nat) (w : World) : Calls Try.prog 75 #[.float .f32 x, .float .f32 lo, .float .f32 hi] w fun e w' => e = .returned (.bool (fromTo (cl .f32 x) (cl .f32 lo) (cl .f32 hi))) ∧ ∃ n, w' = w.drewN n := by
  go_enter Try.func75, Try.ntmps75
  go_wp2_with fail
  all_goals
    go_ret
    exact ⟨by simp [fromTo, fge, fle, *], 0, rfl⟩

theorem c_within (n lo hi : Int) (w : World) : Calls Try.prog 42 #[.int .i64 n, .int .i64 lo, .int .i64 hi] w fun e w' => e = .returned (.bool (within n lo hi)) ∧ ∃ n, w' = w.drewN n := by
  go_enter Try.func42, Try.ntmps42
  go_wp2_with fail
  all_goals
    go_ret
    exact ⟨by first | (simp [within, *]; done) | (simp [within, *]; omega), 0, rfl⟩

theorem c_l00In (n lo hi : Int) (w : World) : Calls Try.prog 39 #[.int .i64 n, .int .i64 lo, .int .i64 hi] w fun e w' => e = .returned (.bool (within n lo hi)) ∧ ∃ n, w' = w.drewN n := by
  go_enter Try.func39, Try.ntmps39
  go_wp2_with fail
  all_goals
    go_ret
    exact ⟨by first | (simp [within, *]; done) | (simp [within, *]; omega), 0, rfl⟩



theorem c_arePositive1 (x : Nat) (w : World) : Calls Try.prog 88 #[.float .f32 x] w fun e w' => e = .returned (.bool (!fin (cl .f32 x) || fle (cl .f32 x) (cl .f32 0))) ∧ ∃ n, w' = w.drewN n := by
  by_cases h : fin (cl .f32 x) = true
  all_goals
    go_enter Try.func88, Try.ntmps88
    go_wp2_with (go_at_call 66; refine (c_IsFinite _ _).mono ?_; rintro e w' ⟨rfl, nq, rfl⟩)
    go_ret
    exact ⟨by simp [h, fle], _, rfl⟩


@[go_sem] theorem ext_Float64bits (z : Nat) (w : World) : (callFunc 101 #[.float .f64 z]).run Try.prog w = .ok (.value (.int .u64 z)) w := by
  rw [run_callFunc_extern Try.func101 (by kernel_rfl) (by kernel_rfl) (by kernel_rfl) (show Extern.find Try.f101 = some Extern.MathFloatBits.float64bits by kernel_rfl)]
  rfl

theorem fits_lt {x : Nat} (h : fits x) : x < 4294967296 := by
  unfold fits at h
  simpa [Lit.wf] using h

theorem wrap_neg {z : Nat} (h : (Lit.float .f64 z).wf = true) (hn : (cl .f64 z).isNaN = false) : decide (wrap64 (z : Int) < 0) = (cl .f64 z).neg := by
  have hz : z < 18446744073709551616 := by simpa [Lit.wf] using h
  rcases cl_or .f64 z with ⟨s, t, _, h'⟩ | ⟨h', _⟩
  · rw [h'] at hn; cases hn
  · rw [h']
    have h2 : (FloatKind.f64.decode z).neg = (z / 9223372036854775808 % 2 == 1) := by
      rw [← double_weight]
      exact read_neg Ieee.double z
    rw [h2]
    unfold wrap64
    by_cases hb : z < 9223372036854775808
    · rw [Nat.div_eq_of_lt hb]
      simp
      omega
    · have : z / 9223372036854775808 = 1 := by omega
      rw [this]
      simp
      omega


/-- The bits of a number, all NaNs alike. -/
def bitsOf (x : Nat) : Int := if (cl .f32 x).isNaN then 2143289344 else x



end Go.Proofs.Ytlakmogclcpgdaa

