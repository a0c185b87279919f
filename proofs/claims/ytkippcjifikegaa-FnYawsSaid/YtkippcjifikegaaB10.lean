/-
  CONTRACTS: how a law reads its bytes; gaps of numbers of 64 bits.
-/
import Derived.Test.YtkippcjifikegaaDyI
namespace Go.Proofs.Ytkippcjifikegaa
open Go.RowKit Go.Flt
set_option linter.unusedVariables false
set_option maxRecDepth 100000
set_option linter.unusedSimpArgs false

/-- The slice holds bytes. -/
def Bys (w : World) (K : Nat) (A : Option Addr) (n : Nat) (xs : List Nat) : Prop := Slc (fun n : Nat => Value.int .u8 (n : Int)) w K A n xs ∧ ∀ x ∈ xs, x < 256

theorem c_b10Long (A B : Option Addr) (n m c e : Nat) (w : World) : Calls Try.prog 6 #[.slice A n c, .slice B m e] w fun e w' => e = .returned (.bool (decide (1048576 < n) || decide (1048576 < m))) ∧ ∃ n, w' = w.drewN n := by
  by_cases h1 : 1048576 < n
  · have i1 : (1048576 : Int) < (n : Int) := by omega
    go_enter Try.func6, Try.ntmps6
    go_wp2_with fail
    go_ret
    exact ⟨by simp [h1], 0, rfl⟩
  · have i1 : ¬ (1048576 : Int) < (n : Int) := by omega
    go_enter Try.func6, Try.ntmps6
    go_wp2_with fail
    go_ret
    refine ⟨?_, 0, rfl⟩
    simp [h1]
    omega

/-- A whole number below k. -/
def RetAt (k : Nat) (R : World → Prop) (e : Ending) (w' : World) : Prop := ∃ m : Nat, e = .returned (.int .i64 (m : Int)) ∧ m < k ∧ R w'

theorem c_b10At (A : Option Addr) (n c K i k : Nat) (xs : List Nat) (w : World) (h : Bys w K A n xs) (hi : i ≤ 1000) (hk : 2 ≤ k) (hk2 : k ≤ 1000) : Calls Try.prog 7 #[.slice A n c, .int .i64 (i : Int), .int .i64 (k : Int)] w (RetAt k (Drawn w)) := by
  obtain ⟨hs, hb⟩ := h
  obtain rfl := hs.1
  have j1 : ¬ (k : Int) ≤ 1 := by omega
  have j2 : (k : Int) ≠ 0 := by omega
  by_cases hlt : i < xs.length
  · obtain ⟨bx, ox, rfl, hbx, hc⟩ := hs.2 (by omega)
    have c1 := hc i (xs.getD i 0) (by simp [hlt])
    have hx : xs.getD i 0 < 256 := hb _ (by simp [List.getD, List.getElem?_eq_getElem hlt])
    have i3 : (0 : Int) ≤ (i : Int) := by omega
    have i4 : (i : Int) < (xs.length : Int) := by omega
    have i6 : IntKind.i64.wrap (i : Int) = (i : Int) := by rw [IntKind.wrap_i64]; omega
    generalize xs.getD i 0 = b at *
    have i7 : IntKind.i64.wrap (b : Int) = (b : Int) := by rw [IntKind.wrap_i64]; omega
    have hm : ((b : Int).tmod (k : Int)) = ((b % k : Nat) : Int) := rfl
    have hml : b % k < k := Nat.mod_lt _ (by omega)
    have i8 : IntKind.i64.wrap ((b % k : Nat) : Int) = ((b % k : Nat) : Int) := by rw [IntKind.wrap_i64]; omega
    clear hs hb hc
    go_enter Try.func7, Try.ntmps7
    go_wp2_with fail
    go_ret
    exact ⟨b % k, by simp, hml, 0, rfl⟩
  · have i4 : ¬ (i : Int) < (xs.length : Int) := by omega
    have i5 : IntKind.i64.wrap ((i : Int) * 37) = (i : Int) * 37 := by rw [IntKind.wrap_i64]; omega
    have i6 : IntKind.i64.wrap ((i : Int) * 37 + 11) = (i : Int) * 37 + 11 := by rw [IntKind.wrap_i64]; omega
    clear hs hb
    go_enter Try.func7, Try.ntmps7
    go_wp2_with fail
    go_ret
    exact ⟨(i * 37 + 11) % k, by simp, Nat.mod_lt _ (by omega), 0, rfl⟩

def gapD (x y : Ieee.Datum) : Ieee.Datum := if flt x y then fop .sub .f64 y x else fop .sub .f64 x y

/-- A number of 64 bits, whose datum is told. -/
def RetG (d : Ieee.Datum) (R : World → Prop) (e : Ending) (w' : World) : Prop := ∃ r, e = .returned (.float .f64 r) ∧ cl .f64 r = d ∧ (Lit.float .f64 r).wf = true ∧ R w'

theorem c_b10Gap (x y : Nat) (w : World) : Calls Try.prog 10 #[.float .f64 x, .float .f64 y] w (RetG (gapD (cl .f64 x) (cl .f64 y)) (Drawn w)) := by
  cases h : flt (cl .f64 x) (cl .f64 y)
  all_goals
    have HD := Lib.hid (show gapD (cl .f64 x) (cl .f64 y) = if flt (cl .f64 x) (cl .f64 y) then fop .sub .f64 (cl .f64 y) (cl .f64 x) else fop .sub .f64 (cl .f64 x) (cl .f64 y) from rfl)
    rw [h] at HD
    go_enter Try.func10, Try.ntmps10
    go_wp2_with (refine upon_fbin rfl _ _ _ _ ?_; intro z n hz hzw)
    go_ret
    exact ⟨_, rfl, by rw [HD.out]; assumption, by assumption, by (first | exact ⟨_, rfl⟩ | exact ⟨0, rfl⟩ | exact ⟨_, World.drewN_drewN _ _ _⟩ | (simp only [World.drewN_drewN]; exact ⟨_, rfl⟩))⟩

theorem c_specWrapAngle (x : Nat) (w : World) (h : fin (cl .f32 x) = true) : Calls Try.prog 9 #[.float .f32 x] w (RetFB (wrp (cl .f32 x)) true (Drawn w)) := by
  have HW := Lib.hid (fun w => c_l02Wrap x w h)
  go_enter Try.func9, Try.ntmps9
  go_wp2_with (first | (go_at_call 36; refine (c_l01Finite _ _).mono ?_; rintro e w' ⟨rfl, nq, rfl⟩) | (go_at_call 37; refine (HW.out _).mono ?_; rintro e w' ⟨r, rfl, hr, hrf, nq, rfl⟩))
  go_ret2
  exact ⟨_, rfl, hr, hrf, by (first | exact ⟨_, rfl⟩ | exact ⟨0, rfl⟩ | exact ⟨_, World.drewN_drewN _ _ _⟩ | (simp only [World.drewN_drewN]; exact ⟨_, rfl⟩))⟩

theorem c_specSame (x y : Nat) (w : World) (hx : fits x) (hy : fits y) (h : cl .f32 x = cl .f32 y) : Calls Try.prog 12 #[.float .f32 x, .float .f32 y] w fun e w' => e = .returned (.bool true) ∧ ∃ n, w' = w.drewN n := by
  have hs : same .f32 x y = true := by unfold same; rw [h]; simp
  have HW := Lib.hid (fun w => hs ▸ c_l01Same x y w hx hy)
  clear h hs
  go_enter Try.func12, Try.ntmps12
  go_wp2_with (go_at_call 39; refine (HW.out _).mono ?_; rintro e w' ⟨rfl, nq, rfl⟩)
  go_ret
  exact ⟨rfl, by (first | exact ⟨_, rfl⟩ | exact ⟨0, rfl⟩ | exact ⟨_, World.drewN_drewN _ _ _⟩ | (simp only [World.drewN_drewN]; exact ⟨_, rfl⟩))⟩

/-- The greater one of 0 and a number of 64 bits. -/
theorem run_max0 {P : Program} (w : World) (ts : Array TypeId) (t : TypeId) (y : Nat) (hy : isNum (cl .f64 y) = true) :
    (Builtin.max_ ts t #[.float .f64 0, .float .f64 y]).run P w = .ok (.float .f64 (if flt (cl .f64 0) (cl .f64 y) then y else 0)) w := by
  have hn : (FloatKind.f64.decode 0).neg = false := by decide +kernel
  have hx : isNum (cl .f64 0) = true := by rw [c_nought]; rfl
  have e : (Builtin.max_ ts t #[.float .f64 0, .float .f64 y]).run P w = (Builtin.max2 (.float .f64 0) (.float .f64 y)).run P w := by simp [Builtin.max_]
  rw [e]
  show Sem.run P (match FloatKind.f64.format.order 0 y with
    | none => _
    | some .lt => _
    | some .gt => _
    | some .eq => _) w = _
  rw [order_cl]
  unfold flt
  cases ho : (cl .f64 0).order (cl .f64 y) with
  | none =>
    exfalso
    cases hcx : cl .f64 0 <;> rw [hcx] at hx ho <;> first | (cases hx; done) | skip
    cases hcy : cl .f64 y <;> rw [hcy] at hy ho <;> first | (cases hy; done) | skip
    simp [Ieee.Datum.order] at ho
  | some o => cases o <;> simp [hn]

/-- A byte's 64ths. -/
theorem byteQ : ∀ n : Fin 129, okQ (-149) 143 (fop .quo .f32 (cl .f32 (floatOfInt .f32 ((n.val : Int) - 64))) (cl .f32 1115684864)) ((n.val : Int) - 64) = true := by
  decide +kernel

theorem byte_Q {a : Int} (h1 : -64 ≤ a) (h2 : a ≤ 64) : Q (fop .quo .f32 (cl .f32 (floatOfInt .f32 a)) (cl .f32 1115684864)) a := by
  have := Q.of (byteQ ⟨(a + 64).toNat, by omega⟩)
  have e : (((a + 64).toNat : Nat) : Int) - 64 = a := by omega
  simp only [e] at this
  exact this

theorem Q64.gap {x y : Ieee.Datum} {a b : Int} (hx : Q64 x a) (hy : Q64 y b) (a1 : -200 ≤ a) (a2 : a ≤ 200) (b1 : -200 ≤ b) (b2 : b ≤ 200) : Q64 (gapD x y) ((a - b).natAbs : Int) := by
  unfold gapD
  rw [hx.lt hy]
  by_cases h : a < b
  · rw [decide_eq_true h, if_pos rfl]
    have := hy.sub hx (by omega) (by omega)
    have e : (((a - b).natAbs : Nat) : Int) = b - a := by omega
    rw [e]; exact this
  · rw [decide_eq_false h, if_neg Bool.false_ne_true]
    have := hx.sub hy (by omega) (by omega)
    have e : (((a - b).natAbs : Nat) : Int) = a - b := by omega
    rw [e]; exact this

/-- What a run may turn by, and a little more. -/
theorem rates_ok : ∀ n : Fin 9, isNum (fop .add .f64 (fop .mul .f64 (cl .f64 4617315517961601024) (cl .f64 (wdW (n.val : Int)))) (cl .f64 4562254508917369340)) = true ∧
    ((n.val : Int) * 5) * ((tw 1068 : Nat) : Int) ≤ iv (-1074) (fop .add .f64 (fop .mul .f64 (cl .f64 4617315517961601024) (cl .f64 (wdW (n.val : Int)))) (cl .f64 4562254508917369340)) := by
  unfold tw
  decide +kernel

end Go.Proofs.Ytkippcjifikegaa
