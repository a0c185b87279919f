/-
  FLOATS IN A WALK, A NaN's BITS LEFT OPEN: a word is looked at through its datum, all NaNs alike ('cl'); what + - * / give as such a datum ('fop'); the walk's laws for them.
-/
import Derived.WalkKit
import Derived.Laws.Cover2
import Derived.Laws.FloatArith
import Derived.Laws.Entries
import Derived.Deep.Draws
import Derived.Deep.Quiet
namespace Go.Flt
open Go Ieee Go.RowKit

/-- The one NaN. -/
def NaN : Datum := .nan false 1

/-- What a word stands for, all NaNs alike. -/
def cl (k : FloatKind) (b : Nat) : Datum := match k.decode b with
  | .nan _ _ => NaN
  | d => d

def rnd (k : FloatKind) : Option Datum → Datum
  | none => NaN
  | some d => cl k (k.encode d)

def fop (op : BinOp) (k : FloatKind) (x y : Datum) : Datum := match op with
  | .add => rnd k (x.sum y)
  | .sub => rnd k (x.sum y.opposite)
  | .mul => rnd k (x.product y)
  | .quo => rnd k (x.quotient (k.format.fractionBits + 2) y)
  | _ => NaN

def arith : BinOp → Bool
  | .add | .sub | .mul | .quo => true
  | _ => false

theorem cl_or (k : FloatKind) (b : Nat) : (∃ s t, k.decode b = .nan s t ∧ cl k b = NaN) ∨ (cl k b = k.decode b ∧ ∀ s t, k.decode b ≠ .nan s t) := by
  unfold cl
  cases h : k.decode b with
  | nan s t => exact .inl ⟨s, t, rfl, rfl⟩
  | number s m e => exact .inr ⟨rfl, fun _ _ => by simp⟩
  | infinity s => exact .inr ⟨rfl, fun _ _ => by simp⟩

theorem fop_of_bits {op : BinOp} {k : FloatKind} {x y r : Nat} (h : floatBits op k x y = some r) : cl k r = fop op k (cl k x) (cl k y) := by
  unfold floatBits at h
  rcases cl_or k x with ⟨s, t, hx, hx'⟩ | ⟨hx, hx'⟩ <;> rcases cl_or k y with ⟨s', t', hy, hy'⟩ | ⟨hy, hy'⟩
  all_goals unfold FloatKind.decode at *
  · cases op <;> simp_all [Format.add, Format.sub, Format.mul, Format.div, Datum.sum, Datum.product, Datum.quotient]
  · cases op <;> simp_all [Format.add, Format.sub, Format.mul, Format.div, Datum.sum, Datum.product, Datum.quotient]
  · cases op <;> cases hd : k.format.read x <;> simp_all [Format.add, Format.sub, Format.mul, Format.div, Datum.sum, Datum.product, Datum.quotient, Datum.opposite]
  · cases op <;> simp only [Format.add, Format.sub, Format.mul, Format.div, Option.map_eq_some_iff] at h <;> first | (cases h; done) | skip
    all_goals obtain ⟨d, h1, h2⟩ := h
    all_goals subst h2
    all_goals simp only [fop, hx, hy, h1, rnd]
    all_goals rfl

theorem fop_of_none {op : BinOp} {k : FloatKind} {x y : Nat} (h : floatBits op k x y = none) : fop op k (cl k x) (cl k y) = NaN := by
  unfold floatBits at h
  rcases cl_or k x with ⟨s, t, hx, hx'⟩ | ⟨hx, hx'⟩ <;> rcases cl_or k y with ⟨s', t', hy, hy'⟩ | ⟨hy, hy'⟩
  all_goals unfold FloatKind.decode at *
  · cases op <;> simp_all [fop, NaN, Datum.sum, Datum.product, Datum.quotient, rnd, Datum.opposite]
  · cases op <;> simp_all [fop, NaN, Datum.sum, Datum.product, Datum.quotient, rnd, Datum.opposite]
  · cases op <;> cases hd : k.format.read x <;> simp_all [fop, NaN, Datum.sum, Datum.product, Datum.quotient, rnd, Datum.opposite]
  · cases op <;> simp only [Format.add, Format.sub, Format.mul, Format.div, Option.map_eq_none_iff] at h <;> simp only [fop, hx, hy] <;> first | rfl | (rw [h]; rfl)

theorem read_nan (f : Format) (h0 : f.binade ≤ f.infRung) {a b : Nat} (hb : f.infRung < b) (hb2 : b < f.signWeight) : ∃ s t, f.read (a * f.signWeight + b) = .nan s t := by
  unfold Format.read
  have h1 : (a * f.signWeight + b) % f.signWeight = b := by rw [Nat.mul_comm, Nat.mul_add_mod]; exact Nat.mod_eq_of_lt hb2
  simp only [h1]
  rw [if_neg (by omega), if_neg (by omega), if_neg (by omega)]
  exact ⟨_, _, rfl⟩

theorem cl_of_nan {k : FloatKind} {b : Nat} (h : ∃ s t, k.format.read b = .nan s t) : cl k b = NaN := by
  obtain ⟨s, t, h⟩ := h
  unfold cl FloatKind.decode
  rw [h]

theorem single_weight : single.signWeight = 2147483648 := by decide
theorem single_inf : single.infRung = 2139095040 := by decide
theorem double_weight : double.signWeight = 9223372036854775808 := by decide
theorem double_inf : double.infRung = 9218868437227405312 := by decide

/-- The words that a question about a NaN brings stand for a NaN, and fit. -/
theorem cl_nan32 (s t : Nat) : cl .f32 ((s % 2) * 2147483648 + (2139095041 + t % 8388607)) = NaN ∧ (Lit.float .f32 ((s % 2) * 2147483648 + (2139095041 + t % 8388607))).wf = true := by
  have hs := Nat.mod_lt s (show 0 < 2 by omega)
  have ht := Nat.mod_lt t (show 0 < 8388607 by omega)
  refine ⟨?_, wf_of_lt .f32 _ (show _ < 2 ^ 32 by omega)⟩
  rw [← single_weight]
  exact cl_of_nan (read_nan single (by decide) (by rw [single_inf]; omega) (by rw [single_weight]; omega))

theorem cl_nan64 (s t : Nat) : cl .f64 ((s % 2) * 9223372036854775808 + (9218868437227405313 + t % 4503599627370495)) = NaN ∧ (Lit.float .f64 ((s % 2) * 9223372036854775808 + (9218868437227405313 + t % 4503599627370495))).wf = true := by
  have hs := Nat.mod_lt s (show 0 < 2 by omega)
  have ht := Nat.mod_lt t (show 0 < 4503599627370495 by omega)
  refine ⟨?_, wf_of_lt .f64 _ (show _ < 2 ^ 64 by omega)⟩
  rw [← double_weight]
  exact cl_of_nan (read_nan double (by decide) (by rw [double_inf]; omega) (by rw [double_weight]; omega))

section
variable {P : Program} (w : World)

theorem cut_nan32 {x y : Nat} (q : Question) (h : q = .nanBits .f32 x y ∨ q = .nanConv .f32 x) (t : Nat) : q.cut t = (t % 2) * 2147483648 + (2139095041 + (t / 2) % 8388607) := by
  rcases h with rfl | rfl <;> (show t % 2 * 2 ^ 31 + 2139095040 + 1 + t / 2 % (2 ^ 23 - 1) = _; omega)

theorem cut_nan64 {x y : Nat} (q : Question) (h : q = .nanBits .f64 x y ∨ q = .nanConv .f64 x) (t : Nat) : q.cut t = (t % 2) * 9223372036854775808 + (9218868437227405313 + (t / 2) % 4503599627370495) := by
  rcases h with rfl | rfl <;> (show t % 2 * 2 ^ 63 + 9218868437227405312 + 1 + t / 2 % (2 ^ 52 - 1) = _; omega)

theorem run_ask (q : Question) (h : q.forced = false) : (choose q : Sem Nat).run P w = .ok (q.cut (w.tape w.drawn q)) (w.drewN 1) := by
  show (if q.forced then _ else _) = _
  rw [h]
  rfl

theorem run_nanBits (k : FloatKind) (x y : Nat) : ∃ r, (choose (.nanBits k x y) : Sem Nat).run P w = .ok r (w.drewN 1) ∧ cl k r = NaN ∧ (Lit.float k r).wf = true := by
  cases k
  · exact ⟨_, run_ask w _ rfl, by rw [cut_nan32 _ (.inl rfl)]; exact cl_nan32 _ _⟩
  · exact ⟨_, run_ask w _ rfl, by rw [cut_nan64 _ (.inl rfl)]; exact cl_nan64 _ _⟩

theorem run_nanConv (k : FloatKind) (x : Nat) : ∃ r, (choose (.nanConv k x) : Sem Nat).run P w = .ok r (w.drewN 1) ∧ cl k r = NaN ∧ (Lit.float k r).wf = true := by
  cases k
  · exact ⟨_, run_ask w _ rfl, by rw [cut_nan32 (y := 0) _ (.inr rfl)]; exact cl_nan32 _ _⟩
  · exact ⟨_, run_ask w _ rfl, by rw [cut_nan64 (y := 0) _ (.inr rfl)]; exact cl_nan64 _ _⟩

/-- + - * / ON FLOATS: some word, whose datum is told; it fits; some draws. -/
theorem run_fbin {op : BinOp} (ho : arith op = true) (t : TypeId) (k : FloatKind) (x y : Nat) :
    ∃ r n, (binOp op t (.float k x) (.float k y)).run P w = .ok (.float k r) (w.drewN n) ∧ cl k r = fop op k (cl k x) (cl k y) ∧ (Lit.float k r).wf = true := by
  cases h : floatBits op k x y with
  | some r => exact ⟨r, 0, by rw [run_float_arith w op t k x y r h]; rfl, fop_of_bits h, floatBits_wf h⟩
  | none =>
    obtain ⟨r, h1, h2, h3⟩ := run_nanBits (P := P) w k x y
    refine ⟨r, 1, ?_, by rw [h2, fop_of_none h], h3⟩
    unfold floatBits at h
    cases op <;> simp only [arith] at ho <;> first | (cases ho; done) | skip
    all_goals simp only at h
    all_goals simp only [binOp, Op.floatArith, h, Sem.run_bind, h1, Result.andThen_ok, Sem.run_pure, pure_bind, ne_eq, not_true, if_false]
end

theorem run_eqGuard {P : Program} {op : BinOp} (ho : arith op = true) (t : TypeId) (x y : Operand) (a b : Value) (w : World) : (eqGuard op t x y a b).run P w = .ok () w := by
  cases op <;> simp only [arith] at ho <;> first | (cases ho; done) | rfl

section
variable {P : Program} {o : Oper} {a : Act} {K : Act → World → Prop} {Q : Exit → Act → World → Prop} {w : World}

/-- THE WALK's LAW for + - * / on floats: where the walk stands at the operation. -/
theorem upon_fbin {op : BinOp} (ho : arith op = true) (t : TypeId) (k : FloatKind) (x y : Nat)
    (h : ∀ z n, cl k z = fop op k (cl k x) (cl k y) → (Lit.float k z).wf = true → K (a.put o.dst (.float k z)) (w.drewN n)) :
    Oper.upon P o a K Q (((binOp op t (.float k x) (.float k y)).run P w).andThen fun v w' => .ok (.value v) w') := by
  obtain ⟨z, n, h1, h2, h3⟩ := run_fbin (P := P) w ho t k x y
  rw [h1]
  exact h z n h2 h3
end

@[go_sem] theorem run_store_float (P : Program) (w : World) (a : Addr) (m : Mode) (k : FloatKind) (b : Nat) : (store a (.float k b) m).run P w = stored P w a (.float k b) m := run_store P w a _ m rfl
@[go_sem] theorem run_store_complex (P : Program) (w : World) (a : Addr) (m : Mode) (k : FloatKind) (x y : Nat) : (store a (.complex k x y) m).run P w = stored P w a (.complex k x y) m := run_store P w a _ m rfl

/-! ### Tests -/
def flt (x y : Datum) : Bool := x.order y == some .lt
def feq (x y : Datum) : Bool := x.order y == some .eq

theorem order_cl (k : FloatKind) (x y : Nat) : k.format.order x y = (cl k x).order (cl k y) := by
  unfold Format.order
  rcases cl_or k x with ⟨s, t, hx, hx'⟩ | ⟨hx, hx'⟩ <;> rcases cl_or k y with ⟨s', t', hy, hy'⟩ | ⟨hy, hy'⟩
  all_goals unfold FloatKind.decode at *
  · simp_all [Datum.order, NaN]
  · simp_all [Datum.order, NaN]
  · cases hd : k.format.read x <;> simp_all [Datum.order, NaN]
  · rw [hx, hy]

theorem order_swap (x y : Datum) : x.order y = (y.order x).map Ordering.swap := by
  cases x <;> cases y <;> simp [Datum.order, Int.compare_swap, Nat.compare_swap]
  · rw [Int.min_comm]
  · split <;> rfl
  · split <;> rfl

@[go_sem] theorem order_lt (k : FloatKind) (x y : Nat) : (k.format.order x y == some .lt) = flt (cl k x) (cl k y) := by rw [order_cl]; rfl
@[go_sem] theorem order_eq (k : FloatKind) (x y : Nat) : (k.format.order x y == some .eq) = feq (cl k x) (cl k y) := by rw [order_cl]; rfl
@[go_sem] theorem order_ne (k : FloatKind) (x y : Nat) : (k.format.order x y != some .eq) = !feq (cl k x) (cl k y) := by rw [order_cl]; rfl
@[go_sem] theorem order_gt (k : FloatKind) (x y : Nat) : (k.format.order x y == some .gt) = flt (cl k y) (cl k x) := by
  rw [order_cl, order_swap]
  unfold flt
  cases (cl k y).order (cl k x) with
  | none => rfl
  | some o => cases o <;> rfl

end Go.Flt
