/-
  CONTRACTS: the nearest places.
-/
import Derived.Test.YtlakmogclcpgdaaNear
import Derived.Test.YtlakmogclcpgdaaMove
namespace Go.Proofs.Ytlakmogclcpgdaa
open Go.RowKit Go.Flt
set_option linter.unusedVariables false
set_option maxRecDepth 100000
set_option linter.unusedSimpArgs false

theorem c_p100k : cl .f32 1203982336 = .number false 12800000 (-7) := by decide +kernel
theorem c_m100k : cl .f32 3351465984 = .number true 12800000 (-7) := by decide +kernel

theorem near_parts {x : Ieee.Datum} (px : Go.Flt.place (-149) x) (h : nearD x = true) : isNum x = true ∧ -(131072 * t149) ≤ iv (-149) x ∧ iv (-149) x ≤ 131072 * t149 := by
  have ht := t149_pos
  have n1 : isNum (cl .f32 1203982336) = true := by rw [c_p100k]; rfl
  have n2 : isNum (cl .f32 3351465984) = true := by rw [c_m100k]; rfl
  have e149 : (t149 : Int) = 128 * ((tw 142 : Nat) : Int) := by
    unfold t149
    have e : tw 149 = tw 7 * tw 142 := tw_add 7 142
    have e2 : tw 7 = 128 := by decide
    rw [e, e2, Int.natCast_mul]
    rfl
  have v1 : iv (-149) (cl .f32 1203982336) = 12800000 * ((tw 142 : Nat) : Int) := by
    rw [c_p100k, iv149_of false _ _ 142 (by omega), Int.natCast_mul]; rfl
  have v2 : iv (-149) (cl .f32 3351465984) = -(12800000 * ((tw 142 : Nat) : Int)) := by
    rw [c_m100k, iv149_of true _ _ 142 (by omega), Int.natCast_mul]; rfl
  have h' := h
  unfold nearD fromTo at h
  rw [Bool.and_eq_true] at h
  have h1 : leF (cl .f32 3351465984) x = true := by
    have := h.1
    unfold fge at this
    unfold leF
    rw [Bool.or_eq_true] at this ⊢
    rcases this with h | h
    · exact .inl h
    · refine .inr ?_
      unfold feq at h ⊢
      rw [order_swap]
      generalize x.order (cl .f32 3351465984) = o at *
      cases o with
      | none => simp at h
      | some o => cases o <;> simp at h ⊢
  have h2 : leF x (cl .f32 1203982336) = true := h.2
  have hn := num_between n2 n1 h1 h2
  have a1 := ge_iv hn n2 px h1
  have a2 := le_iv hn n1 px h2
  rw [v2] at a1
  rw [v1] at a2
  exact ⟨hn, by omega, by omega⟩

/-- How far two places are from one another. -/
def dist (xs ys : List Nat) (i k : Nat) : Ieee.Datum :=
  rootD (fop .add .f32 (fop .mul .f32 (fop .sub .f32 (cl .f32 (xs.getD k 0)) (cl .f32 (xs.getD i 0))) (fop .sub .f32 (cl .f32 (xs.getD k 0)) (cl .f32 (xs.getD i 0))))
    (fop .mul .f32 (fop .sub .f32 (cl .f32 (ys.getD k 0)) (cl .f32 (ys.getD i 0))) (fop .sub .f32 (cl .f32 (ys.getD k 0)) (cl .f32 (ys.getD i 0)))))

theorem fop_word (op : BinOp) (x y : Ieee.Datum) : ∃ w, cl .f32 w = fop op .f32 x y := by
  have hnan : cl .f32 2143289344 = NaN := by decide +kernel
  have hr : ∀ o, ∃ w, cl .f32 w = rnd .f32 o := by
    intro o
    cases o with
    | none => exact ⟨_, hnan⟩
    | some d => exact ⟨_, rfl⟩
  cases op <;> first | exact hr _ | exact ⟨_, hnan⟩

theorem dist_num {xs ys : List Nat} {i k : Nat} (hx : ∀ x, x ∈ xs → nearD (cl .f32 x) = true) (hy : ∀ y, y ∈ ys → nearD (cl .f32 y) = true) (hl : ys.length = xs.length) (hi : i < xs.length) (hk : k < xs.length) : isNum (dist xs ys i k) = true := by
  have g : ∀ (zs : List Nat), (∀ x, x ∈ zs → nearD (cl .f32 x) = true) → ∀ j, j < zs.length → isNum (cl .f32 (zs.getD j 0)) = true ∧ -(131072 * t149) ≤ iv (-149) (cl .f32 (zs.getD j 0)) ∧ iv (-149) (cl .f32 (zs.getD j 0)) ≤ 131072 * t149 := fun zs hz j hj =>
    near_parts (pl32 _) (hz _ (by simp [List.getD, List.getElem?_eq_getElem hj]))
  obtain ⟨a1, a2, a3⟩ := g xs hx k hk
  obtain ⟨b1, b2, b3⟩ := g xs hx i hi
  obtain ⟨c1, c2, c3⟩ := g ys hy k (by omega)
  obtain ⟨d1, d2, d3⟩ := g ys hy i (by omega)
  obtain ⟨p1, p2, p3⟩ := sq_bound a1 b1 (pl32 _) (pl32 _) a2 a3 b2 b3
  obtain ⟨q1, q2, q3⟩ := sq_bound c1 d1 (pl32 _) (pl32 _) c2 c3 d2 d3
  obtain ⟨s1, s2⟩ := sum_bound p1 q1 (pl_fop _ _ _) (pl_fop _ _ _) p2 p3 q2 q3
  unfold dist rootD
  obtain ⟨w, hw⟩ := fop_word .add (fop .mul .f32 (fop .sub .f32 (cl .f32 (xs.getD k 0)) (cl .f32 (xs.getD i 0))) (fop .sub .f32 (cl .f32 (xs.getD k 0)) (cl .f32 (xs.getD i 0)))) (fop .mul .f32 (fop .sub .f32 (cl .f32 (ys.getD k 0)) (cl .f32 (ys.getD i 0))) (fop .sub .f32 (cl .f32 (ys.getD k 0)) (cl .f32 (ys.getD i 0))))
  rw [← hw] at s1 s2 ⊢
  exact root_num0 w s1 s2

/-- The running least. -/
def stp (D : Nat → Nat → Ieee.Datum) (st : Int × Int × Ieee.Datum) (i k : Nat) : Int × Int × Ieee.Datum := if st.1 < 0 ∨ flt (D i k) st.2.2 = true then ((i : Int), (k : Int), D i k) else st

def nIn (D : Nat → Nat → Ieee.Datum) (i : Nat) (st : Int × Int × Ieee.Datum) : Nat → Int × Int × Ieee.Datum
  | 0 => st
  | m + 1 => stp D (nIn D i st m) i (i + 1 + m)

def nOut (D : Nat → Nat → Ieee.Datum) (n : Nat) : Nat → Int × Int × Ieee.Datum
  | 0 => (-1, -1, cl .f32 0)
  | i + 1 => nIn D i (nOut D n i) (n - (i + 1))

theorem nIn_pos (D : Nat → Nat → Ieee.Datum) (i : Nat) (st : Int × Int × Ieee.Datum) (m : Nat) : 0 ≤ (nIn D i st (m + 1)).1 := by
  show 0 ≤ (stp D (nIn D i st m) i (i + 1 + m)).1
  unfold stp
  split
  · simp
  · rename_i h
    exact Int.not_lt.1 fun h2 => h (.inl h2)

theorem nOut_pos (D : Nat → Nat → Ieee.Datum) (n : Nat) (hn : 2 ≤ n) : ∀ i, 1 ≤ i → i ≤ n → 0 ≤ (nOut D n i).1 := by
  intro i
  induction i with
  | zero => intro h; omega
  | succ i ih =>
    intro _ hi
    show 0 ≤ (nIn D i (nOut D n i) (n - (i + 1))).1
    cases hm : n - (i + 1) with
    | zero => exact ih (by omega) (by omega)
    | succ m => exact nIn_pos _ _ _ _

theorem nIn_num (D : Nat → Nat → Ieee.Datum) (n i : Nat) (hD : ∀ i k, i < n → k < n → isNum (D i k) = true) (hi : i < n) (st : Int × Int × Ieee.Datum) (hs : isNum st.2.2 = true) : ∀ m, i + 1 + m ≤ n → isNum (nIn D i st m).2.2 = true := by
  intro m
  induction m with
  | zero => intro _; exact hs
  | succ m ih =>
    intro hm
    show isNum (stp D (nIn D i st m) i (i + 1 + m)).2.2 = true
    unfold stp
    split
    · exact hD _ _ hi (by omega)
    · exact ih (by omega)

theorem nOut_num (D : Nat → Nat → Ieee.Datum) (n : Nat) (hD : ∀ i k, i < n → k < n → isNum (D i k) = true) : ∀ i, i ≤ n → isNum (nOut D n i).2.2 = true := by
  intro i
  induction i with
  | zero => intro _; exact num_zero
  | succ i ih =>
    intro hi
    exact nIn_num D n i hD (by omega) _ (ih (by omega)) _ (by omega)

end Go.Proofs.Ytlakmogclcpgdaa
