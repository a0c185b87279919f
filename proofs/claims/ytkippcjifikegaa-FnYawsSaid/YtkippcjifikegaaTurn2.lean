/-
  PLAIN LAWS: sums of sizes.
-/
import Derived.Test.YtkippcjifikegaaTurn
namespace Go.Flt
open Go Ieee
attribute [local irreducible] tw

theorem mag_of {s : Bool} {m : Nat} {p B : Int} (h : iv B (.number s m p) = 0) : m = 0 := by
  simp only [iv, signed, Nat.shiftLeft_eq] at h
  have := Nat.two_pow_pos (p - B).toNat
  have h' : m * 2 ^ (p - B).toNat = 0 := by cases s <;> simp only [Bool.false_eq_true, if_true, if_false] at h <;> omega
  rcases Nat.mul_eq_zero.1 h' with h | h
  · exact h
  · omega

theorem rd_val (k : FloatKind) {s t : Bool} {m n : Nat} {p q : Int} (h1 : -1074 ≤ p) (h2 : -1074 ≤ q) (hv : iv (-1074) (.number s m p) = iv (-1074) (.number t n q)) (hs : m = 0 → s = t) :
    rd k (.number s m p) = rd k (.number t n q) := by
  rw [rd_num, rd_num]
  have hL : -1074 ≤ k.format.leastPlace := by cases k <;> decide
  by_cases hm : m = 0
  · have hn : n = 0 := mag_of (hv.symm.trans (by subst hm; cases s <;> simp [iv, signed]))
    have := hs hm
    subst hm hn this
    simp [rung]
  · have hn : n ≠ 0 := by
      rintro rfl
      exact hm (mag_of (hv.trans (by cases t <;> simp [iv, signed])))
    rw [rung_base k.format s hm p (-1074) h1 hL, rung_base k.format t hn q (-1074) h2 hL]
    simp only [iv, signed, Nat.shiftLeft_eq] at hv
    have e1 : 0 < m * 2 ^ (p - -1074).toNat := Nat.mul_pos (by omega) (Nat.two_pow_pos _)
    have e2 : 0 < n * 2 ^ (q - -1074).toNat := Nat.mul_pos (by omega) (Nat.two_pow_pos _)
    generalize m * 2 ^ (p - -1074).toNat = a at *
    generalize n * 2 ^ (q - -1074).toNat = b at *
    have : s = t ∧ a = b := by
      cases s <;> cases t <;> simp only [Bool.false_eq_true, if_true, if_false] at hv
      · exact ⟨rfl, by omega⟩
      · omega
      · omega
      · exact ⟨rfl, by omega⟩
    rw [this.1, this.2]

/-- A number that is not below nought, nor nought with a sign. -/
def nn (x : Datum) : Prop := ∃ m i, x = .number false m i

theorem nn_num {x : Datum} (h : nn x) : isNum x = true := by
  obtain ⟨m, i, rfl⟩ := h
  rfl

theorem rd_nn (k : FloatKind) (m : Nat) (p : Int) (h : isNum (rd k (.number false m p)) = true) : nn (rd k (.number false m p)) := by
  rw [rd_num] at h ⊢
  have hl := rung_le k.format (.number false m p)
  have hr2 : rung k.format (.number false m p) ≠ k.format.infRung := by
    intro h'
    rw [h', read_inf _ (fmt_inf k)] at h
    cases h
  rw [read_rung _ _ (by omega)]
  split
  · exact ⟨_, _, rfl⟩
  · exact ⟨_, _, rfl⟩

theorem add_same (k : FloatKind) {x y z : Datum} (hx : nn x) (hy : isNum y = true) (hz : isNum z = true) (px : place (-1074) x) (py : place (-1074) y) (pz : place (-1074) z) (h : iv (-1074) y = iv (-1074) z) :
    fop .add k x y = fop .add k x z := by
  obtain ⟨d, e1, n1, b1⟩ := fop_add (k := k) (nn_num hx) hy
  obtain ⟨p1, v1⟩ := b1 _ px py
  obtain ⟨m, i, rfl⟩ := hx
  cases y <;> simp only [isNum] at hy <;> first | (cases hy; done) | skip
  cases z <;> simp only [isNum] at hz <;> first | (cases hz; done) | skip
  rename_i t n j u o l
  show rd k _ = rd k _
  obtain ⟨d1, s1, _, w1⟩ := sum_num (x := .number false m i) (y := .number t n j) rfl rfl
  obtain ⟨d2, s2, _, w2⟩ := sum_num (x := .number false m i) (y := .number u o l) rfl rfl
  obtain ⟨q1, i1⟩ := w1 _ px py
  obtain ⟨q2, i2⟩ := w2 _ px pz
  cases s1
  cases s2
  refine rd_val k q1 q2 (by rw [i1, i2, h]) ?_
  intro hm
  have hz1 := i1.symm.trans (by rw [hm]; simp [iv, signed] : _ = (0 : Int))
  have hz2 : iv (-1074) (Datum.number false m i) + iv (-1074) (Datum.number u o l) = 0 := by rw [← h]; exact hz1
  have k1 := mag_of (i1.trans hz1)
  have k2 := mag_of (i2.trans hz2)
  rw [Int.natAbs_eq_zero] at k1 k2
  rw [if_pos k1, if_pos k2]
  rfl

theorem rd_zero (k : FloatKind) (s : Bool) (p B : Int) : iv B (rd k (.number s 0 p)) = 0 ∧ isNum (rd k (.number s 0 p)) = true ∧ place k.format.leastPlace (rd k (.number s 0 p)) := by
  rw [rd_num]
  have h0 : rung k.format (.number s 0 p) = 0 := by simp [rung]
  have hlt : 0 < k.format.infRung := by cases k <;> decide
  have hb : 0 < k.format.binade := Nat.two_pow_pos _
  rw [h0, read_rung _ _ hlt, if_pos hb]
  refine ⟨?_, rfl, ?_⟩
  · cases s <;> simp [iv, signed]
  · show k.format.leastPlace ≤ k.format.leastPlace
    omega

/-- The reference's size of a number. -/
def sizeD (x : Datum) : Datum := if leF x (cl .f32 0) then fop .sub .f32 (cl .f32 0) x else x

theorem iv_zero32 : iv (-1074) (cl .f32 0) = 0 := by
  rw [cl_zero32]
  simp [iv, signed]

theorem abs_iv {b : Nat} (_hb : (Lit.float .f32 b).wf = true) (hx : isNum (cl .f32 b) = true) :
    isNum (absD (cl .f32 b)) = true ∧ place (-1074) (absD (cl .f32 b)) ∧ iv (-1074) (absD (cl .f32 b)) = (iv (-1074) (cl .f32 b)).natAbs := by
  have hz : isNum (cl .f32 0) = true := by rw [cl_zero32]; rfl
  have p0 : place (-1074) (cl .f32 0) := place32 _
  have px : place (-1074) (cl .f32 b) := place32 _
  have hlt := flt_num (-1074) hx hz px p0
  rw [iv_zero32] at hlt
  unfold absD
  rw [hlt]
  by_cases h : iv (-1074) (cl .f32 b) < 0
  · rw [decide_eq_true h, if_pos rfl, opp_opposite hx]
    obtain ⟨o1, o2⟩ := opp_num hx
    obtain ⟨o3, o4⟩ := o2 _ px
    exact ⟨o1, o3, by rw [o4]; omega⟩
  · rw [decide_eq_false h, if_neg (by simp)]
    exact ⟨hx, px, by omega⟩

theorem size_iv {b : Nat} (hb : (Lit.float .f32 b).wf = true) (hx : isNum (cl .f32 b) = true) :
    isNum (sizeD (cl .f32 b)) = true ∧ place (-1074) (sizeD (cl .f32 b)) ∧ iv (-1074) (sizeD (cl .f32 b)) = (iv (-1074) (cl .f32 b)).natAbs := by
  have hz : isNum (cl .f32 0) = true := by rw [cl_zero32]; rfl
  have p0 : place (-1074) (cl .f32 0) := place32 _
  have px : place (-1074) (cl .f32 b) := place32 _
  have hle := leF_num (-1074) hx hz px p0
  rw [iv_zero32] at hle
  unfold sizeD
  rw [hle]
  by_cases h : iv (-1074) (cl .f32 b) ≤ 0
  · rw [decide_eq_true h, if_pos rfl]
    obtain ⟨d, e, nd, hB⟩ := fop_sub (k := .f32) hz hx
    obtain ⟨pd, ed⟩ := hB _ p0 px
    rw [iv_zero32] at ed
    rw [e]
    have hfix : rd .f32 (opp (cl .f32 b)) = opp (cl .f32 b) := by
      rw [← cl_neg .f32 hb]
      refine rd_fix .f32 _ ?_
      rw [cl_neg .f32 hb, opp_opposite hx]
      exact (opp_num hx).1
    rw [opp_opposite hx] at hfix
    obtain ⟨o1, o2⟩ := opp_num hx
    obtain ⟨o3, o4⟩ := o2 _ px
    generalize (cl .f32 b).opposite = y at *
    cases d <;> simp only [isNum] at nd <;> first | (cases nd; done) | skip
    cases y <;> simp only [isNum] at o1 <;> first | (cases o1; done) | skip
    rename_i s m p t n q
    by_cases hm : m = 0
    · subst hm
      obtain ⟨z1, z2, z3⟩ := rd_zero .f32 s p (-1074)
      have z4 : iv (-1074) (Datum.number s 0 p) = 0 := by cases s <;> simp [iv, signed]
      refine ⟨z2, ?_, by rw [z1]; omega⟩
      cases hr : rd .f32 (.number s 0 p) <;> rw [hr] at z2 z3 <;> simp only [isNum] at z2 <;> first | (cases z2; done) | skip
      rename_i i
      have z5 : FloatKind.f32.format.leastPlace ≤ i := z3
      have : FloatKind.f32.format.leastPlace = -149 := by decide
      show -1074 ≤ i
      omega
    · rw [rd_val .f32 pd o3 (by rw [ed, o4]; omega) (fun h => absurd h hm), hfix]
      exact ⟨rfl, o3, by rw [o4]; omega⟩
  · rw [decide_eq_false h, if_neg (by simp)]
    exact ⟨hx, px, by omega⟩

/-- What a sum of so many sizes keeps. -/
def Sum (k : Nat) (T : Datum) : Prop := nn T ∧ place (-1074) T ∧ (iv (-1074) T).natAbs ≤ 2 * k * tw 1155

theorem sum_none : Sum 0 (cl .f32 0) := by
  refine ⟨⟨0, -149, cl_zero32⟩, place32 _, ?_⟩
  rw [iv_zero32]
  simp

theorem sum_fin {k : Nat} {T : Datum} (h : Sum k T) : isNum T = true := nn_num h.1

theorem sum_step {k : Nat} {T : Datum} {r : Nat} (hk : k < 128) (h : Sum k T) (hr : (Lit.float .f32 r).wf = true) (hn : isNum (cl .f32 r) = true) (hs : (iv (-1074) (cl .f32 r)).natAbs ≤ tw 1155) :
    Sum (k + 1) (fop .add .f32 T (absD (cl .f32 r))) ∧ fop .add .f32 T (sizeD (cl .f32 r)) = fop .add .f32 T (absD (cl .f32 r)) := by
  obtain ⟨a1, a2, a3⟩ := abs_iv hr hn
  obtain ⟨b1, b2, b3⟩ := size_iv hr hn
  obtain ⟨h1, h2, h3⟩ := h
  refine ⟨?_, add_same .f32 h1 b1 a1 h2 b2 a2 (by rw [a3, b3])⟩
  have a4 : 0 ≤ iv (-1074) (absD (cl .f32 r)) := by omega
  have a5 : (iv (-1074) (absD (cl .f32 r))).natAbs ≤ tw 1155 := by omega
  generalize absD (cl .f32 r) = y at *
  have h4 : 0 ≤ iv (-1074) T := by
    obtain ⟨m, i, rfl⟩ := h1
    simp only [iv, signed, Nat.shiftLeft_eq, Bool.false_eq_true, if_false]
    omega
  obtain ⟨m, i, rfl⟩ := h1
  cases y <;> simp only [isNum] at a1 <;> first | (cases a1; done) | skip
  rename_i t n j
  obtain ⟨d, s1, nd, w1⟩ := sum_num (x := .number false m i) (y := .number t n j) rfl rfl
  obtain ⟨q1, i1⟩ := w1 _ h2 a2
  have e0 : fop .add .f32 (.number false m i) (.number t n j) = rd .f32 d := by simp only [fop, s1]; rfl
  have hd : ∃ u p, d = .number false u p := by
    cases d <;> simp only [isNum] at nd <;> first | (cases nd; done) | skip
    rename_i s u p
    cases s
    · exact ⟨_, _, rfl⟩
    · exfalso
      have hu : u ≠ 0 := by
        rintro rfl
        simp only [Datum.sum, Option.some.injEq, Datum.number.injEq] at s1
        obtain ⟨t1, t2, _⟩ := s1
        rw [Int.natAbs_eq_zero] at t2
        rw [if_pos t2] at t1
        simp at t1
      have hp := Nat.two_pow_pos (p - -1074).toNat
      have : 0 < u * 2 ^ (p - -1074).toNat := Nat.mul_pos (by omega) hp
      have h5 : 0 ≤ iv (-1074) (Datum.number true u p) := by omega
      simp only [iv, signed, Nat.shiftLeft_eq, if_true] at h5
      omega
  obtain ⟨u, p, rfl⟩ := hd
  rw [e0]
  -- the bounds
  have q0 : 0 < tw 1155 := tw_pos _
  have q1' : 2 * (k + 1) * tw 1155 = 2 * k * tw 1155 + 2 * tw 1155 := by rw [Nat.mul_add, Nat.add_mul]
  have q2 : 2 * k * tw 1155 ≤ 254 * tw 1155 := Nat.mul_le_mul_right _ (by omega)
  have q3 : 254 * tw 1155 ≤ tw 1163 := by
    have : tw 1163 = tw 8 * tw 1155 := tw_add 8 1155
    rw [this]
    exact Nat.mul_le_mul_right _ (by unfold tw; decide)
  have q4 : tw 1164 = 2 * tw 1163 := tw_succ 1163
  have q5 : tw 1164 ≤ tw 1200 := tw_le (by omega)
  have q6 : tw 1155 ≤ tw 1163 := tw_le (by omega)
  have three32 : (12582912 : Nat) = 3 * tw 22 := by unfold tw; rfl
  have ilo32 : iv (-1074) (cl .f32 4282384384) = -(3 * tw 1200 : Int) := by
    rw [c_lo32, iv_of _ _ _ 1178 (by omega), if_pos rfl, three32, Nat.mul_assoc, ← tw_add]
    simp
  have ihi32 : iv (-1074) (cl .f32 2134900736) = (3 * tw 1200 : Int) := by
    rw [c_hi32, iv_of _ _ _ 1178 (by omega), if_neg (by simp), three32, Nat.mul_assoc, ← tw_add]
    simp
  have nlo : isNum (cl .f32 4282384384) = true := by rw [c_lo32]; rfl
  have nhi : isNum (cl .f32 2134900736) = true := by rw [c_hi32]; rfl
  obtain ⟨r1, _, _⟩ := rd_between .f32 (x := .number false u p) (a := 4282384384) (b := 2134900736) rfl nlo nhi ((leF_iv nlo rfl (place32 _) q1).2 (by omega)) ((leF_iv rfl nhi q1 (place32 _)).2 (by omega))
  obtain ⟨r2, r3⟩ := err32 (d := .number false u p) rfl q1 r1
  refine ⟨rd_nn _ _ _ r1, r2, ?_⟩
  have q7 : tw 1155 * tw 24 = tw 1179 := (tw_add 1155 24).symm
  have q8 : tw 1164 ≤ tw 1179 := tw_le (by omega)
  have q9 : tw 948 ≤ tw 1179 := tw_le (by omega)
  have q10 : (iv (-1074) (rd .f32 (.number false u p)) - iv (-1074) (.number false u p)).natAbs ≤ tw 1155 := by
    refine Nat.le_of_mul_le_mul_right ?_ (tw_pos 24)
    rw [q7]
    refine Nat.le_trans r3 (Nat.max_le.2 ⟨?_, q9⟩)
    omega
  omega

end Go.Flt
