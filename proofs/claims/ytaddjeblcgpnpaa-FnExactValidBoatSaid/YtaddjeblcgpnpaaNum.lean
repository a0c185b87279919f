/-
  CONTRACTS: small functions of numbers.
-/
import Derived.Test.YtaddjeblcgpnpaaChecked
import Derived.Test.YtaddjeblcgpnpaaFree
namespace Go.Proofs.Ytaddjeblcgpnpaa
open Go.RowKit Go.Flt

/-- The eight numbers of a plant. -/
structure Pl where
  (i d r l m s c e : Nat)
def fits (x : Nat) : Prop := (Lit.float .f32 x).wf = true
def Pl.wf (p : Pl) : Prop := fits p.i ∧ fits p.d ∧ fits p.r ∧ fits p.l ∧ fits p.m ∧ fits p.s ∧ fits p.c ∧ fits p.e

/-- finite: what is taken from itself is zero then alone -/
def fin (x : Ieee.Datum) : Bool := feq (fop .sub .f32 x x) (cl .f32 0)
def fle (x y : Ieee.Datum) : Bool := flt x y || feq x y
def fge (x y : Ieee.Datum) : Bool := flt y x || feq x y
def least (x : Ieee.Datum) : Bool := fin x && fge x (cl .f32 0)
def above (x : Ieee.Datum) : Bool := fin x && flt (cl .f32 0) x
def fromTo (x lo hi : Ieee.Datum) : Bool := fge x lo && fle x hi
def within (n lo hi : Int) : Bool := decide (lo ≤ n) && decide (n ≤ hi)

theorem cl_zero : cl .f32 0 = .number false 0 (-149) := by decide
theorem rnd_zero (s : Bool) (p : Int) : rnd .f32 (some (.number s 0 p)) = .number s 0 (-149) := by
  have h : (FloatKind.f32).encode (.number s 0 p) = Ieee.single.word s 0 := by
    unfold FloatKind.encode Ieee.Format.write Ieee.Format.nearest
    rfl
  unfold rnd
  simp only [h]
  cases s <;> decide
def isNum : Ieee.Datum → Bool
  | .number .. => true
  | _ => false
theorem fin_eq (x : Ieee.Datum) : fin x = isNum x := by
  unfold fin
  cases x with
  | nan s t => simp [fop, Ieee.Datum.sum, rnd, isNum]; decide
  | infinity s => cases s <;> (simp [fop, Ieee.Datum.sum, rnd, isNum, Ieee.Datum.opposite]; decide)
  | number s m e =>
    have h : Ieee.signed s m (e - min e e).toNat + Ieee.signed (!s) m (e - min e e).toNat = 0 := by
      unfold Ieee.signed
      cases s <;> simp <;> omega
    simp only [fop, Ieee.Datum.sum, Ieee.Datum.opposite, h, isNum]
    simp only [if_true, Int.natAbs_zero, rnd_zero, cl_zero]
    cases s <;> decide
theorem not_fle {x y : Ieee.Datum} (hx : isNum x = true) (hy : isNum y = true) : (!fle x y) = flt y x := by
  cases x <;> simp only [isNum] at hx <;> first | (cases hx; done) | skip
  cases y <;> simp only [isNum] at hy <;> first | (cases hy; done) | skip
  rename_i s m e t n f
  unfold fle flt feq
  rw [order_swap (.number t n f)]
  unfold Ieee.Datum.order
  simp only [Option.map_some]
  generalize (compare (α := Int) _ _) = o
  cases o <;> rfl
theorem above_not (x : Ieee.Datum) : (fin x && !fle x (cl .f32 0)) = above x := by
  unfold above
  cases h : fin x
  · rfl
  · rw [not_fle (by rw [← fin_eq]; exact h) (by decide)]

theorem c_IsFinite (x : Nat) (w : World) : Calls Try.prog 57 #[.float .f32 x] w fun e w' => e = .returned (.bool (fin (cl .f32 x))) ∧ ∃ n, w' = w.drewN n := by
  go_enter Try.func57, Try.ntmps57
  go_wp2_with (refine upon_fbin rfl _ _ _ _ ?_; intro z n hz hzw)
  go_ret
  exact ⟨rfl, _, rfl⟩

theorem c_l01Finite (x : Nat) (w : World) : Calls Try.prog 70 #[.float .f32 x] w fun e w' => e = .returned (.bool (fin (cl .f32 x))) ∧ ∃ n, w' = w.drewN n := by
  go_enter Try.func70, Try.ntmps70
  go_wp2_with (refine upon_fbin rfl _ _ _ _ ?_; intro z n hz hzw)
  go_ret
  exact ⟨rfl, _, rfl⟩

theorem c_isLeast (x : Nat) (w : World) : Calls Try.prog 48 #[.float .f32 x] w fun e w' => e = .returned (.bool (least (cl .f32 x))) ∧ ∃ n, w' = w.drewN n := by
  by_cases h : fin (cl .f32 x) = true
  all_goals
    go_enter Try.func48, Try.ntmps48
    go_wp2_with (go_at_call 57; refine (c_IsFinite _ _).mono ?_; rintro e w' ⟨rfl, nq, rfl⟩)
    go_ret
    exact ⟨by simp [least, h, fge], _, rfl⟩

theorem c_l02Least (x : Nat) (w : World) : Calls Try.prog 67 #[.float .f32 x] w fun e w' => e = .returned (.bool (least (cl .f32 x))) ∧ ∃ n, w' = w.drewN n := by
  by_cases h : fin (cl .f32 x) = true
  all_goals
    go_enter Try.func67, Try.ntmps67
    go_wp2_with (go_at_call 70; refine (c_l01Finite _ _).mono ?_; rintro e w' ⟨rfl, nq, rfl⟩)
    go_ret
    exact ⟨by simp [least, h, fge], _, rfl⟩

theorem c_l02Above (x : Nat) (w : World) : Calls Try.prog 64 #[.float .f32 x] w fun e w' => e = .returned (.bool (above (cl .f32 x))) ∧ ∃ n, w' = w.drewN n := by
  by_cases h : fin (cl .f32 x) = true
  all_goals
    go_enter Try.func64, Try.ntmps64
    go_wp2_with (go_at_call 70; refine (c_l01Finite _ _).mono ?_; rintro e w' ⟨rfl, nq, rfl⟩)
    go_ret
    exact ⟨by simp [above, h], _, rfl⟩

theorem c_isFromTo (x lo hi : Nat) (w : World) : Calls Try.prog 56 #[.float .f32 x, .float .f32 lo, .float .f32 hi] w fun e w' => e = .returned (.bool (fromTo (cl .f32 x) (cl .f32 lo) (cl .f32 hi))) ∧ ∃ n, w' = w.drewN n := by
  go_enter Try.func56, Try.ntmps56
  go_wp2_with fail
  all_goals
    go_ret
    exact ⟨by simp [fromTo, fge, fle, *], 0, rfl⟩

theorem c_within (n lo hi : Int) (w : World) : Calls Try.prog 77 #[.int .i64 n, .int .i64 lo, .int .i64 hi] w fun e w' => e = .returned (.bool (within n lo hi)) ∧ ∃ n, w' = w.drewN n := by
  go_enter Try.func77, Try.ntmps77
  go_wp2_with fail
  all_goals
    go_ret
    exact ⟨by first | (simp [within, *]; done) | (simp [within, *]; omega), 0, rfl⟩

theorem c_l00In (n lo hi : Int) (w : World) : Calls Try.prog 62 #[.int .i64 n, .int .i64 lo, .int .i64 hi] w fun e w' => e = .returned (.bool (within n lo hi)) ∧ ∃ n, w' = w.drewN n := by
  go_enter Try.func62, Try.ntmps62
  go_wp2_with fail
  all_goals
    go_ret
    exact ⟨by first | (simp [within, *]; done) | (simp [within, *]; omega), 0, rfl⟩

theorem c_isState (n : Int) (w : World) : Calls Try.prog 55 #[.int .i64 n] w fun e w' => e = .returned (.bool (within n 0 4)) ∧ ∃ n, w' = w.drewN n := by
  go_enter Try.func55, Try.ntmps55
  go_wp2_with (go_at_call 77; refine (c_within _ _ _ _).mono ?_; rintro e w' ⟨rfl, nq, rfl⟩)
  go_ret
  exact ⟨rfl, _, rfl⟩

theorem c_arePositive1 (x : Nat) (w : World) : Calls Try.prog 74 #[.float .f32 x] w fun e w' => e = .returned (.bool (!fin (cl .f32 x) || fle (cl .f32 x) (cl .f32 0))) ∧ ∃ n, w' = w.drewN n := by
  by_cases h : fin (cl .f32 x) = true
  all_goals
    go_enter Try.func74, Try.ntmps74
    go_wp2_with (go_at_call 57; refine (c_IsFinite _ _).mono ?_; rintro e w' ⟨rfl, nq, rfl⟩)
    go_ret
    exact ⟨by simp [h, fle], _, rfl⟩

end Go.Proofs.Ytaddjeblcgpnpaa
