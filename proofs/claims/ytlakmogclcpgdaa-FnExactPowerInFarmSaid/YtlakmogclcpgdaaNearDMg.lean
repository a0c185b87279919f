/-
  CONTRACTS: the nearest places.
-/
import Derived.Test.YtlakmogclcpgdaaGustMg
import Derived.Test.YtlakmogclcpgdaaMoveMg
namespace Go.Proofs.Ytlakmogclcpgdaa
open Go.RowKit Go.Flt
set_option linter.unusedVariables false
set_option maxRecDepth 100000
set_option linter.unusedSimpArgs false

theorem c_p100k : cl .f32 1203982336 = .number false 12800000 (-7) := by decide +kernel
theorem c_m100k : cl .f32 3351465984 = .number true 12800000 (-7) := by decide +kernel

theorem near_parts {x : Ieee.Datum} (px : Go.Flt.place (-149) x) (h : nearD x = true) : isNum x = true ∧ -(131072 * t149) ≤ iv (-149) x ∧ iv (-149) x ≤ 131072 * t149 := by
  have ht := t149_pos
  have n1 : isNum (cl .f32 1203982336) = true := by rw [c_p100k]; rfl
  have n2 : isNum (cl .f32 3351465984) = true := by rw [c_m100k]; rfl
  have e149 : (t149 : Int) = 128 * ((tw 142 : Nat) : Int) := by
    unfold t149
    have e : tw 149 = tw 7 * tw 142 := tw_add 7 142
    have e2 : tw 7 = 128 := by decide
    rw [e, e2, Int.natCast_mul]
    rfl
  have v1 : iv (-149) (cl .f32 1203982336) = 12800000 * ((tw 142 : Nat) : Int) := by
    rw [c_p100k, iv149_of false _ _ 142 (by omega), Int.natCast_mul]; rfl
  have v2 : iv (-149) (cl .f32 3351465984) = -(12800000 * ((tw 142 : Nat) : Int)) := by
    rw [c_m100k, iv149_of true _ _ 142 (by omega), Int.natCast_mul]; rfl
  have h' := h
  unfold nearD fromTo at h
  rw [Bool.and_eq_true] at h
  have h1 : leF (cl .f32 3351465984) x = true := by
    have := h.1
    unfold fge at this
    unfold leF
    rw [Bool.or_eq_true] at this ⊢
    rcases this with h | h
    · exact .inl h
    · refine .inr ?_
      unfold feq at h ⊢
      rw [order_swap]
      generalize x.order (cl .f32 3351465984) = o at *
      cases o with
      | none => simp at h
      | some o => cases o <;> simp at h ⊢
  have h2 : leF x (cl .f32 1203982336) = true := h.2
  have hn := num_between n2 n1 h1 h2
  have a1 := ge_iv hn n2 px h1
  have a2 := le_iv hn n1 px h2
  rw [v2] at a1
  rw [v1] at a2
  exact ⟨hn, by omega, by omega⟩

/-- How far two places are from one another. -/
def dist (xs ys : List Nat) (i k : Nat) : Ieee.Datum :=
  rootD (fop .add .f32 (fop .mul .f32 (fop .sub .f32 (cl .f32 (xs.getD k 0)) (cl .f32 (xs.getD i 0))) (fop .sub .f32 (cl .f32 (xs.getD k 0)) (cl .f32 (xs.getD i 0))))
    (fop .mul .f32 (fop .sub .f32 (cl .f32 (ys.getD k 0)) (cl .f32 (ys.getD i 0))) (fop .sub .f32 (cl .f32 (ys.getD k 0)) (cl .f32 (ys.getD i 0)))))

theorem fop_word (op : BinOp) (x y : Ieee.Datum) : ∃ w, cl .f32 w = fop op .f32 x y := by
  have hnan : cl .f32 2143289344 = NaN := by decide +kernel
  have hr : ∀ o, ∃ w, cl .f32 w = rnd .f32 o := by
    intro o
    cases o with
    | none => exact ⟨_, hnan⟩
    | some d => exact ⟨_, rfl⟩
  cases op <;> first | exact hr _ | exact ⟨_, hnan⟩

theorem dist_num {xs ys : List Nat} {i k : Nat} (hx : ∀ x, x ∈ xs → nearD (cl .f32 x) = true) (hy : ∀ y, y ∈ ys → nearD (cl .f32 y) = true) (hl : ys.length = xs.length) (hi : i < xs.length) (hk : k < xs.length) : isNum (dist xs ys i k) = true := by
  have g : ∀ (zs : List Nat), (∀ x, x ∈ zs → nearD (cl .f32 x) = true) → ∀ j, j < zs.length → isNum (cl .f32 (zs.getD j 0)) = true ∧ -(131072 * t149) ≤ iv (-149) (cl .f32 (zs.getD j 0)) ∧ iv (-149) (cl .f32 (zs.getD j 0)) ≤ 131072 * t149 := fun zs hz j hj =>
    near_parts (pl32 _) (hz _ (by simp [List.getD, List.getElem?_eq_getElem hj]))
  obtain ⟨a1, a2, a3⟩ := g xs hx k hk
  obtain ⟨b1, b2, b3⟩ := g xs hx i hi
  obtain ⟨c1, c2, c3⟩ := g ys hy k (by omega)
  obtain ⟨d1, d2, d3⟩ := g ys hy i (by omega)
  obtain ⟨p1, p2, p3⟩ := sq_bound a1 b1 (pl32 _) (pl32 _) a2 a3 b2 b3
  obtain ⟨q1, q2, q3⟩ := sq_bound c1 d1 (pl32 _) (pl32 _) c2 c3 d2 d3
  obtain ⟨s1, s2⟩ := sum_bound p1 q1 (pl_fop _ _ _) (pl_fop _ _ _) p2 p3 q2 q3
  unfold dist rootD
  obtain ⟨w, hw⟩ := fop_word .add (fop .mul .f32 (fop .sub .f32 (cl .f32 (xs.getD k 0)) (cl .f32 (xs.getD i 0))) (fop .sub .f32 (cl .f32 (xs.getD k 0)) (cl .f32 (xs.getD i 0)))) (fop .mul .f32 (fop .sub .f32 (cl .f32 (ys.getD k 0)) (cl .f32 (ys.getD i 0))) (fop .sub .f32 (cl .f32 (ys.getD k 0)) (cl .f32 (ys.getD i 0))))
  rw [← hw] at s1 s2 ⊢
  exact root_num0 w s1 s2

/-- The running least. -/
def stp (D : Nat → Nat → Ieee.Datum) (st : Int × Int × Ieee.Datum) (i k : Nat) : Int × Int × Ieee.Datum := if st.1 < 0 ∨ flt (D i k) st.2.2 = true then ((i : Int), (k : Int), D i k) else st

def nIn (D : Nat → Nat → Ieee.Datum) (i : Nat) (st : Int × Int × Ieee.Datum) : Nat → Int × Int × Ieee.Datum
  | 0 => st
  | m + 1 => stp D (nIn D i st m) i (i + 1 + m)

def nOut (D : Nat → Nat → Ieee.Datum) (n : Nat) : Nat → Int × Int × Ieee.Datum
  | 0 => (-1, -1, cl .f32 0)
  | i + 1 => nIn D i (nOut D n i) (n - (i + 1))

theorem nIn_pos (D : Nat → Nat → Ieee.Datum) (i : Nat) (st : Int × Int × Ieee.Datum) (m : Nat) : 0 ≤ (nIn D i st (m + 1)).1 := by
  show 0 ≤ (stp D (nIn D i st m) i (i + 1 + m)).1
  unfold stp
  split
  · simp
  · rename_i h
    exact Int.not_lt.1 fun h2 => h (.inl h2)

theorem nOut_pos (D : Nat → Nat → Ieee.Datum) (n : Nat) (hn : 2 ≤ n) : ∀ i, 1 ≤ i → i ≤ n → 0 ≤ (nOut D n i).1 := by
  intro i
  induction i with
  | zero => intro h; omega
  | succ i ih =>
    intro _ hi
    show 0 ≤ (nIn D i (nOut D n i) (n - (i + 1))).1
    cases hm : n - (i + 1) with
    | zero => exact ih (by omega) (by omega)
    | succ m => exact nIn_pos _ _ _ _

theorem nIn_num (D : Nat → Nat → Ieee.Datum) (n i : Nat) (hD : ∀ i k, i < n → k < n → isNum (D i k) = true) (hi : i < n) (st : Int × Int × Ieee.Datum) (hs : isNum st.2.2 = true) : ∀ m, i + 1 + m ≤ n → isNum (nIn D i st m).2.2 = true := by
  intro m
  induction m with
  | zero => intro _; exact hs
  | succ m ih =>
    intro hm
    show isNum (stp D (nIn D i st m) i (i + 1 + m)).2.2 = true
    unfold stp
    split
    · exact hD _ _ hi (by omega)
    · exact ih (by omega)

theorem nOut_num (D : Nat → Nat → Ieee.Datum) (n : Nat) (hD : ∀ i k, i < n → k < n → isNum (D i k) = true) : ∀ i, i ≤ n → isNum (nOut D n i).2.2 = true := by
  intro i
  induction i with
  | zero => intro _; exact num_zero
  | succ i ih =>
    intro hi
    exact nIn_num D n i hD (by omega) _ (ih (by omega)) _ (by omega)

end Go.Proofs.Ytlakmogclcpgdaa

/-
  CONTRACTS: the nearest places: the reference's search.
-/
namespace Go.Proofs.Ytlakmogclcpgdaa
open Go.RowKit Go.Flt
set_option linter.unusedVariables false
set_option maxRecDepth 100000
set_option linter.unusedSimpArgs false

/-- Two whole numbers, a float whose datum is told, and a bool. -/
def RetN (a b : Int) (D : Ieee.Datum) (ok : Bool) (R : World → Prop) (e : Ending) (w' : World) : Prop :=
  ∃ r, e = .returned (.tuple #[.int .i64 a, .int .i64 b, .float .f32 r, .bool ok]) ∧ cl .f32 r = D ∧ fits r ∧ R w'

def nrst (xs ys : List Nat) : Int × Int × Ieee.Datum := nOut (dist xs ys) xs.length xs.length

set_option maxHeartbeats 2000000 in
theorem c_l06Nearest (b : Nat) (A C : Option Addr) (n cA m cC K : Nat) (xs ys : List Nat) (r d s : Nat) (w : World) (hf : FmAt w b (.slice A n cA) (.slice C m cC) r d s) (hx : Fl w K A n xs) (hy : Fl w K C m ys) (hn : n ≤ 12) (hm : m = n) :
    Calls Try.prog 53 #[.pointer (some ⟨b, 0, none⟩)] w (RetN (nrst xs ys).1 (nrst xs ys).2.1 (nrst xs ys).2.2 (decide (0 ≤ (nrst xs ys).1)) (Drawn w)) := by
  obtain rfl := hx.1
  obtain hl := hy.1
  subst hm
  have HX := Lib.hid hx
  have HY := Lib.hid hy
  have HF := Lib.hid hf
  have NN := Lib.hid (And.intro hn hl)
  obtain ⟨p0, p1, p2, p3, p4⟩ := hf
  have HR := Lib.hid (show nrst xs ys = nOut (dist xs ys) xs.length xs.length from rfl)
  generalize nrst xs ys = R at *
  clear hx hy hn hl
  go_enter Try.func53, Try.ntmps53
  go_wp2_with fail
  go_loopw [6, 7, 8, 9] (fun sa sb sd si wr => ∃ (i : Nat) (a b' : Int) (z : Nat), i ≤ xs.length ∧ si = .int .i64 i ∧ sa = .int .i64 a ∧ sb = .int .i64 b' ∧ sd = .float .f32 z ∧ Hid (nOut (dist xs ys) xs.length i = (a, b', cl .f32 z)) ∧ Hid (fits z) ∧ Hid (Drawn w wr)) (fun _ _ _ si _ => xs.length - (intOf si).toNat)
  case atStart => exact ⟨0, -1, -1, 0, Nat.zero_le _, rfl, rfl, rfl, rfl, rfl, fits_zero, ⟨0, rfl⟩⟩
  case round =>
    obtain ⟨i, a, b', z, hi, rfl, rfl, rfl, rfl, hst, hzf, hDr⟩ := hrel
    have q0 : wr.cell? ⟨b, 0, none⟩ = some (.slice A xs.length cA) := by obtain ⟨q, rfl⟩ := hDr.out; exact p0
    by_cases hlt : i < xs.length
    · have i3 : (0 : Int) ≤ (i : Int) := by omega
      have i4 : (i : Int) < (xs.length : Int) := by omega
      have i5 : IntKind.i64.wrap ((i : Int) + 1) = (i : Int) + 1 := by rw [IntKind.wrap_i64]; have := NN.out; omega
      go_wp2_with fail
      have HST := hst
      go_loopw [6, 7, 8, 10] (fun sa sb sd sk wr => ∃ (k : Nat) (a b' : Int) (z : Nat), i + 1 ≤ k ∧ k ≤ xs.length ∧ sk = .int .i64 (k : Int) ∧ sa = .int .i64 a ∧ sb = .int .i64 b' ∧ sd = .float .f32 z ∧ Hid (nIn (dist xs ys) i (nOut (dist xs ys) xs.length i) (k - (i + 1)) = (a, b', cl .f32 z)) ∧ Hid (fits z) ∧ Hid (Drawn w wr)) (fun _ _ _ sk _ => xs.length - (intOf sk).toNat)
      case atStart => exact ⟨i + 1, a, b', z, by omega, by omega, rfl, rfl, rfl, rfl, (show nIn _ _ _ _ = _ by rw [Nat.sub_self]; exact hst.out), hzf, hDr⟩
      case round =>
        obtain ⟨k, a, b', z, hk1, hm, rfl, rfl, rfl, rfl, hst, hzf, hDr⟩ := hrel
        have cellD : ∀ a, wr.cell? a = w.cell? a := by obtain ⟨q, rfl⟩ := hDr.out; intro a; rfl
        have q0 := (cellD _).trans p0
        have q1 := (cellD _).trans p1
        by_cases hlk : k < xs.length
        · have i6 : (0 : Int) ≤ (k : Int) := by omega
          have i7 : (k : Int) < (xs.length : Int) := by omega
          have i8 : (i : Int) < (ys.length : Int) := by have := NN.out; omega
          have i9 : (k : Int) < (ys.length : Int) := by have := NN.out; omega
          have iw : IntKind.i64.wrap (k : Int) = (k : Int) := by rw [IntKind.wrap_i64]; have := NN.out; omega
          have iv : IntKind.i64.wrap (i : Int) = (i : Int) := by rw [IntKind.wrap_i64]; have := NN.out; omega
          have HW := Lib.hid (show wrap64 ((k : Int) + 1) = (k : Int) + 1 by have := NN.out; unfold wrap64; omega)
          obtain ⟨bx, ox, rfl, hbx, hcx⟩ := HX.out.2 (by omega)
          obtain ⟨by', oy, rfl, hby, hcy⟩ := HY.out.2 (by have := NN.out; omega)
          have c1 := (cellD _).trans (hcx k (xs.getD k 0) (by simp [hlk]))
          have c2 := (cellD _).trans (hcx i (xs.getD i 0) (by simp [hlt]))
          have c3 := (cellD _).trans (hcy k (ys.getD k 0) (by have := NN.out; simp [show k < ys.length by omega]))
          have c4 := (cellD _).trans (hcy i (ys.getD i 0) (by have := NN.out; simp [show i < ys.length by omega]))
          have HDD := Lib.hid (show dist xs ys i k = rootD (fop .add .f32 (fop .mul .f32 (fop .sub .f32 (cl .f32 (xs.getD k 0)) (cl .f32 (xs.getD i 0))) (fop .sub .f32 (cl .f32 (xs.getD k 0)) (cl .f32 (xs.getD i 0)))) (fop .mul .f32 (fop .sub .f32 (cl .f32 (ys.getD k 0)) (cl .f32 (ys.getD i 0))) (fop .sub .f32 (cl .f32 (ys.getD k 0)) (cl .f32 (ys.getD i 0))))) from rfl)
          have HN := Lib.hid (show nIn (dist xs ys) i (nOut (dist xs ys) xs.length i) (k + 1 - (i + 1)) = stp (dist xs ys) (a, b', cl .f32 z) i k by
            rw [show k + 1 - (i + 1) = (k - (i + 1)) + 1 by omega, ← hst.out]
            show stp _ _ _ (i + 1 + (k - (i + 1))) = _
            rw [show i + 1 + (k - (i + 1)) = k by omega])
          clear hcx hcy cellD
          generalize xs.getD k 0 = x1 at *
          generalize xs.getD i 0 = x0 at *
          generalize ys.getD k 0 = y1 at *
          generalize ys.getD i 0 = y0 at *
          by_cases ha : a < 0
          · have hda : decide (a < 0) = true := decide_eq_true ha
            go_wp2_with fail
            try simp only [List.append_eq, List.cons_append, List.nil_append]
            refine wp_region_drawnC (by kernel_rfl) (by kernel_rfl) ?_
            repeat (first | (refine wpFree_skip rfl ?_; try go_simp) | (refine wpFree_want rfl (fun K hK => ?_); first | (refine free_fbin drawn_draw rfl rfl _ _ _ rfl rfl ?_; intro z hz hzw; go_simp; refine hK _ ?_; clear hK K) | (intro wq hq; obtain ⟨hqc, hqf, hqh⟩ := drawn_cells hq; go_simp; first | (refine hK _ ?_; clear hK K; try clear hqc hqf; try clear hqh; try clear hq; try clear wq) | fail)))
            refine wpFree_nil ?_
            intro wq hq
            obtain ⟨nq, rfl⟩ := hq
            go_wp2_with fail
            try simp only [List.append_eq, List.cons_append, List.nil_append]
            refine wp_region_drawnC (by kernel_rfl) (by kernel_rfl) ?_
            repeat (first | (refine wpFree_skip rfl ?_; try go_simp) | (refine wpFree_want rfl (fun K hK => ?_); first | (refine free_fbin drawn_draw rfl rfl _ _ _ rfl rfl ?_; intro z hz hzw; go_simp; refine hK _ ?_; clear hK K) | (intro wq hq; obtain ⟨hqc, hqf, hqh⟩ := drawn_cells hq; go_simp; first | (refine hK _ ?_; clear hK K; try clear hqc hqf; try clear hqh; try clear hq; try clear wq) | fail)))
            refine wpFree_nil ?_
            intro wq hq
            obtain ⟨nq, rfl⟩ := hq
            go_wp2_with (first | (refine upon_fbin rfl _ _ _ _ ?_; intro z n hz hzw) | (go_at_call 80; refine (c_l01Sqrt _ _).mono ?_; rintro e w' ⟨r, rfl, hr, hrf, nq, rfl⟩))
            go_roundw
            case rel => exact ⟨k + 1, _, _, _, by omega, by omega, by have e := HW.out; simp [e], rfl, rfl, rfl, by
              show nIn _ _ _ _ = _
              rw [HN.out]
              unfold stp; rw [if_pos (.inl ha), HDD.out]; simp only [*], by assumption, drawn_trans hDr.out ⟨_, rfl⟩⟩
            case measure => have e := HW.out; exact meas_less hlk e
          · have hda : decide (a < 0) = false := decide_eq_false ha
            cases hfl : flt (rootD (fop .add .f32 (fop .mul .f32 (fop .sub .f32 (cl .f32 x1) (cl .f32 x0)) (fop .sub .f32 (cl .f32 x1) (cl .f32 x0))) (fop .mul .f32 (fop .sub .f32 (cl .f32 y1) (cl .f32 y0)) (fop .sub .f32 (cl .f32 y1) (cl .f32 y0))))) (cl .f32 z)
            · have HFL := Lib.hid hfl
              go_wp2_with fail
              try simp only [List.append_eq, List.cons_append, List.nil_append]
              refine wp_region_drawnC (by kernel_rfl) (by kernel_rfl) ?_
              repeat (first | (refine wpFree_skip rfl ?_; try go_simp) | (refine wpFree_want rfl (fun K hK => ?_); first | (refine free_fbin drawn_draw rfl rfl _ _ _ rfl rfl ?_; intro z hz hzw; go_simp; refine hK _ ?_; clear hK K) | (intro wq hq; obtain ⟨hqc, hqf, hqh⟩ := drawn_cells hq; go_simp; first | (refine hK _ ?_; clear hK K; try clear hqc hqf; try clear hqh; try clear hq; try clear wq) | fail)))
              refine wpFree_nil ?_
              intro wq hq
              obtain ⟨nq, rfl⟩ := hq
              go_wp2_with fail
              try simp only [List.append_eq, List.cons_append, List.nil_append]
              refine wp_region_drawnC (by kernel_rfl) (by kernel_rfl) ?_
              repeat (first | (refine wpFree_skip rfl ?_; try go_simp) | (refine wpFree_want rfl (fun K hK => ?_); first | (refine free_fbin drawn_draw rfl rfl _ _ _ rfl rfl ?_; intro z hz hzw; go_simp; refine hK _ ?_; clear hK K) | (intro wq hq; obtain ⟨hqc, hqf, hqh⟩ := drawn_cells hq; go_simp; first | (refine hK _ ?_; clear hK K; try clear hqc hqf; try clear hqh; try clear hq; try clear wq) | fail)))
              refine wpFree_nil ?_
              intro wq hq
              obtain ⟨nq, rfl⟩ := hq
              go_wp2_with (first | (refine upon_fbin rfl _ _ _ _ ?_; intro z n hz hzw) | (go_at_call 80; refine (c_l01Sqrt _ _).mono ?_; rintro e w' ⟨r, rfl, hr, hrf, nq, rfl⟩))
              go_roundw
              case rel => exact ⟨k + 1, _, _, _, by omega, by omega, by have e := HW.out; simp [e], rfl, rfl, rfl, by
                show nIn _ _ _ _ = _
                rw [HN.out]
                unfold stp; rw [if_neg (by rintro (h | h); (have h : a < 0 := h; omega); (rw [HDD.out] at h; have h2 := HFL.out; rw [h2] at h; cases h))], hzf, drawn_trans hDr.out ⟨_, rfl⟩⟩
              case measure => have e := HW.out; exact meas_less hlk e
            · have HFL := Lib.hid hfl
              go_wp2_with fail
              try simp only [List.append_eq, List.cons_append, List.nil_append]
              refine wp_region_drawnC (by kernel_rfl) (by kernel_rfl) ?_
              repeat (first | (refine wpFree_skip rfl ?_; try go_simp) | (refine wpFree_want rfl (fun K hK => ?_); first | (refine free_fbin drawn_draw rfl rfl _ _ _ rfl rfl ?_; intro z hz hzw; go_simp; refine hK _ ?_; clear hK K) | (intro wq hq; obtain ⟨hqc, hqf, hqh⟩ := drawn_cells hq; go_simp; first | (refine hK _ ?_; clear hK K; try clear hqc hqf; try clear hqh; try clear hq; try clear wq) | fail)))
              refine wpFree_nil ?_
              intro wq hq
              obtain ⟨nq, rfl⟩ := hq
              go_wp2_with fail
              try simp only [List.append_eq, List.cons_append, List.nil_append]
              refine wp_region_drawnC (by kernel_rfl) (by kernel_rfl) ?_
              repeat (first | (refine wpFree_skip rfl ?_; try go_simp) | (refine wpFree_want rfl (fun K hK => ?_); first | (refine free_fbin drawn_draw rfl rfl _ _ _ rfl rfl ?_; intro z hz hzw; go_simp; refine hK _ ?_; clear hK K) | (intro wq hq; obtain ⟨hqc, hqf, hqh⟩ := drawn_cells hq; go_simp; first | (refine hK _ ?_; clear hK K; try clear hqc hqf; try clear hqh; try clear hq; try clear wq) | fail)))
              refine wpFree_nil ?_
              intro wq hq
              obtain ⟨nq, rfl⟩ := hq
              go_wp2_with (first | (refine upon_fbin rfl _ _ _ _ ?_; intro z n hz hzw) | (go_at_call 80; refine (c_l01Sqrt _ _).mono ?_; rintro e w' ⟨r, rfl, hr, hrf, nq, rfl⟩))
              go_roundw
              case rel => exact ⟨k + 1, _, _, _, by omega, by omega, by have e := HW.out; simp [e], rfl, rfl, rfl, by
                show nIn _ _ _ _ = _
                rw [HN.out]
                unfold stp; rw [if_pos (.inr (by rw [HDD.out]; exact HFL.out)), HDD.out]; simp only [*], by assumption, drawn_trans hDr.out ⟨_, rfl⟩⟩
              case measure => have e := HW.out; exact meas_less hlk e
        · obtain rfl : k = xs.length := by omega
          have i6 : ¬ (xs.length : Int) < (xs.length : Int) := by omega
          have HW := Lib.hid (show wrap64 ((i : Int) + 1) = (i : Int) + 1 by have := NN.out; unfold wrap64; omega)
          go_wp2_with fail
          go_roundw
          case rel => exact ⟨i + 1, a, b', z, by omega, by have e := HW.out; simp [e], rfl, rfl, rfl, hst, hzf, hDr⟩
          case measure => simp only [intOf]; omega
    · obtain rfl : i = xs.length := by omega
      have i4 : ¬ (xs.length : Int) < (xs.length : Int) := by omega
      have hR : R = (a, b', cl .f32 z) := HR.out.trans hst.out
      have HRR := Lib.hid hR
      clear hR
      go_wp2_with fail
      refine bodyPost_ret (v := .tuple #[.int .i64 a, .int .i64 b', .float .f32 z, .bool (decide (0 ≤ a))]) (by simp [results, Try.results53, go_sem]) rfl ?_
      exact ⟨z, by rw [HRR.out], by rw [HRR.out], hzf.out, hDr.out⟩

end Go.Proofs.Ytlakmogclcpgdaa

/-
  CONTRACTS: the nearest places, in the reference.
-/
namespace Go.Proofs.Ytlakmogclcpgdaa
open Go.RowKit Go.Flt
set_option linter.unusedVariables false
set_option maxRecDepth 100000
set_option linter.unusedSimpArgs false

def okN (xs ys : List Nat) (r d s : Nat) : Bool := vFarm xs ys r d s && decide (2 ≤ xs.length)

def aN (xs ys : List Nat) (r d s : Nat) : Int := if okN xs ys r d s then (nrst xs ys).1 else 0
def bN (xs ys : List Nat) (r d s : Nat) : Int := if okN xs ys r d s then (nrst xs ys).2.1 else 0
def dN (xs ys : List Nat) (r d s : Nat) : Ieee.Datum := if okN xs ys r d s then (nrst xs ys).2.2 else cl .f32 0

theorem vFarm_near {xs ys : List Nat} {r d s : Nat} (h : vFarm xs ys r d s = true) : 1 ≤ xs.length ∧ xs.length ≤ 12 ∧ ys.length = xs.length ∧ (∀ x, x ∈ xs → nearD (cl .f32 x) = true) ∧ ∀ y, y ∈ ys → nearD (cl .f32 y) = true := by
  unfold vFarm at h
  simp only [Bool.and_eq_true, decide_eq_true_eq, List.all_eq_true] at h
  obtain ⟨⟨⟨⟨⟨⟨⟨⟨h1, h2⟩, h3⟩, _⟩, _⟩, _⟩, _⟩, h4⟩, h5⟩ := h
  exact ⟨h1, h2, h3, h4, h5⟩

theorem nrst_fin {xs ys : List Nat} {r d s : Nat} (h : vFarm xs ys r d s = true) : fin (nrst xs ys).2.2 = true := by
  obtain ⟨_, _, h3, h4, h5⟩ := vFarm_near h
  rw [fin_eq]
  exact nOut_num _ _ (fun i k hi hk => dist_num h4 h5 h3 hi hk) _ (Nat.le_refl _)

theorem nrst_pos {xs ys : List Nat} (h : 2 ≤ xs.length) : 0 ≤ (nrst xs ys).1 := nOut_pos _ _ h _ (by omega) (Nat.le_refl _)

theorem nrst_one {xs ys : List Nat} (h : xs.length = 1) : (nrst xs ys).1 = -1 := by
  unfold nrst
  rw [h]
  rfl

set_option maxHeartbeats 2000000 in
theorem c_specNear (lo hi : Nat) (v : Value) (xs ys : List Nat) (r d s : Nat) (w : World) (h : FarmAt w lo hi v xs ys r d s) (hK : hi ≤ w.heap.size) (hn : xs.length ≤ 1048576) (hm : ys.length ≤ 1048576) :
    Calls Try.prog 25 #[v] w (RetN (aN xs ys r d s) (bN xs ys r d s) (dN xs ys r d s) (okN xs ys r d s) (Grew w)) := by
  obtain ⟨A, cA, C, cC, rfl, hx, hy⟩ := h.parts
  have HX := Lib.hid (fun w' (hg : Grew w w') => Slc.grew (g := Value.float .f32) (w' := w') hx hK hg)
  have HY := Lib.hid (fun w' (hg : Grew w w') => Slc.grew (g := Value.float .f32) (w' := w') hy hK hg)
  have V1 := Lib.hid (fun w' b hf (hg : Grew w w') => c_l06Is b A C xs.length cA ys.length cC hi xs ys r d s w' hf (HX.out w' hg) (HY.out w' hg) (by unfold maxLen; omega) (by unfold maxLen; omega))
  clear h hx hy hn hm
  cases k1 : vFarm xs ys r d s
  · have HO := Lib.hid (show okN xs ys r d s = false by simp [okN, k1])
    rw [k1] at V1
    go_enter Try.func25, Try.ntmps25
    go_wp2_with (go_at_call 45; refine (V1.out _ _ (by unfold FmAt; simp [go_sem]) (by (show Below _ _ _; (repeat (first | exact Below.refl _ _ | refine ext_below ?_ (by first | omega | (simp only [size_ext, heap_push, Array.size_push, World.heap_drewN]; omega) | (simp; omega)) _ _ | refine below_draws ?_ _ | refine Below.alloc ?_ (by first | omega | (simp; done) | (simp; omega)) _ | refine Below.setCell ?_ (by first | omega | (simp; done) | (simp; omega)) _ | refine below_then (by assumption) (by first | omega | (simp; done) | (simp; omega)) ?_))))).mono ?_; rintro e w' ⟨rfl, nq, rfl⟩)
    refine bodyPost_ret (v := .tuple #[.int .i64 0, .int .i64 0, .float .f32 0, .bool false]) (by simp [results, Try.results25, go_sem]) rfl ?_
    exact ⟨0, by rw [aN, bN, HO.out]; rfl, by rw [dN, HO.out]; rfl, fits_zero, by (show Below _ _ _; (repeat (first | exact Below.refl _ _ | refine ext_below ?_ (by first | omega | (simp only [size_ext, heap_push, Array.size_push, World.heap_drewN]; omega) | (simp; omega)) _ _ | refine below_draws ?_ _ | refine Below.alloc ?_ (by first | omega | (simp; done) | (simp; omega)) _ | refine Below.setCell ?_ (by first | omega | (simp; done) | (simp; omega)) _ | refine below_then (by assumption) (by first | omega | (simp; done) | (simp; omega)) ?_)))⟩
  · obtain ⟨n1, n2, n3, _, _⟩ := vFarm_near k1
    have hfin := nrst_fin k1
    rw [k1] at V1
    have V2 := Lib.hid (fun w' b hf (hg : Grew w w') => c_l06Nearest b A C xs.length cA ys.length cC hi xs ys r d s w' hf (HX.out w' hg) (HY.out w' hg) n2 n3)
    clear n3
    by_cases h2 : 2 ≤ xs.length
    · have hpos := nrst_pos (ys := ys) h2
      have HO := Lib.hid (show okN xs ys r d s = true by simp [okN, k1, h2])
      have HA := Lib.hid (show aN xs ys r d s = (nrst xs ys).1 by rw [aN, HO.out]; rfl)
      have HB := Lib.hid (show bN xs ys r d s = (nrst xs ys).2.1 by rw [bN, HO.out]; rfl)
      have HD := Lib.hid (show dN xs ys r d s = (nrst xs ys).2.2 by rw [dN, HO.out]; rfl)
      rw [decide_eq_true hpos] at V2
      generalize nrst xs ys = R at *
      have HFI := Lib.hid hfin
      clear hfin hpos k1
      go_enter Try.func25, Try.ntmps25
      go_wp2_with (first | (go_at_call 45; refine (V1.out _ _ (by unfold FmAt; simp [go_sem]) (by (show Below _ _ _; (repeat (first | exact Below.refl _ _ | refine ext_below ?_ (by first | omega | (simp only [size_ext, heap_push, Array.size_push, World.heap_drewN]; omega) | (simp; omega)) _ _ | refine below_draws ?_ _ | refine Below.alloc ?_ (by first | omega | (simp; done) | (simp; omega)) _ | refine Below.setCell ?_ (by first | omega | (simp; done) | (simp; omega)) _ | refine below_then (by assumption) (by first | omega | (simp; done) | (simp; omega)) ?_))))).mono ?_; rintro e w' ⟨rfl, nq, rfl⟩) | (go_at_call 53; refine (V2.out _ _ (by unfold FmAt; simp [go_sem]) (by (show Below _ _ _; (repeat (first | exact Below.refl _ _ | refine ext_below ?_ (by first | omega | (simp only [size_ext, heap_push, Array.size_push, World.heap_drewN]; omega) | (simp; omega)) _ _ | refine below_draws ?_ _ | refine Below.alloc ?_ (by first | omega | (simp; done) | (simp; omega)) _ | refine Below.setCell ?_ (by first | omega | (simp; done) | (simp; omega)) _ | refine below_then (by assumption) (by first | omega | (simp; done) | (simp; omega)) ?_))))).mono ?_; rintro e w' ⟨z, rfl, hz, hzf, nz, rfl⟩; have hfz := HFI.out; rw [← hz] at hfz; have HZ := Lib.hid hz; clear hz) | (go_at_call 54; refine (c_l01Finite _ _).mono ?_; rintro e w' ⟨rfl, nq, rfl⟩))
      refine bodyPost_ret (v := .tuple #[.int .i64 R.1, .int .i64 R.2.1, .float .f32 z, .bool true]) (by simp [results, Try.results25, go_sem]) rfl ?_
      exact ⟨z, by rw [HA.out, HB.out, HO.out], by rw [HD.out]; exact HZ.out, hzf, by (show Below _ _ _; (repeat (first | exact Below.refl _ _ | refine ext_below ?_ (by first | omega | (simp only [size_ext, heap_push, Array.size_push, World.heap_drewN]; omega) | (simp; omega)) _ _ | refine below_draws ?_ _ | refine Below.alloc ?_ (by first | omega | (simp; done) | (simp; omega)) _ | refine Below.setCell ?_ (by first | omega | (simp; done) | (simp; omega)) _ | refine below_then (by assumption) (by first | omega | (simp; done) | (simp; omega)) ?_)))⟩
    · have hneg := nrst_one (xs := xs) (ys := ys) (by omega)
      have HO := Lib.hid (show okN xs ys r d s = false by simp [okN, h2])
      rw [hneg] at V2
      generalize nrst xs ys = R at *
      clear hfin hneg k1
      go_enter Try.func25, Try.ntmps25
      go_wp2_with (first | (go_at_call 45; refine (V1.out _ _ (by unfold FmAt; simp [go_sem]) (by (show Below _ _ _; (repeat (first | exact Below.refl _ _ | refine ext_below ?_ (by first | omega | (simp only [size_ext, heap_push, Array.size_push, World.heap_drewN]; omega) | (simp; omega)) _ _ | refine below_draws ?_ _ | refine Below.alloc ?_ (by first | omega | (simp; done) | (simp; omega)) _ | refine Below.setCell ?_ (by first | omega | (simp; done) | (simp; omega)) _ | refine below_then (by assumption) (by first | omega | (simp; done) | (simp; omega)) ?_))))).mono ?_; rintro e w' ⟨rfl, nq, rfl⟩) | (go_at_call 53; refine (V2.out _ _ (by unfold FmAt; simp [go_sem]) (by (show Below _ _ _; (repeat (first | exact Below.refl _ _ | refine ext_below ?_ (by first | omega | (simp only [size_ext, heap_push, Array.size_push, World.heap_drewN]; omega) | (simp; omega)) _ _ | refine below_draws ?_ _ | refine Below.alloc ?_ (by first | omega | (simp; done) | (simp; omega)) _ | refine Below.setCell ?_ (by first | omega | (simp; done) | (simp; omega)) _ | refine below_then (by assumption) (by first | omega | (simp; done) | (simp; omega)) ?_))))).mono ?_; rintro e w' ⟨z, rfl, hz, hzf, nz, rfl⟩; clear hz))
      refine bodyPost_ret (v := .tuple #[.int .i64 0, .int .i64 0, .float .f32 0, .bool false]) (by simp [results, Try.results25, go_sem]) rfl ?_
      exact ⟨0, by rw [aN, bN, HO.out]; rfl, by rw [dN, HO.out]; rfl, fits_zero, by (show Below _ _ _; (repeat (first | exact Below.refl _ _ | refine ext_below ?_ (by first | omega | (simp only [size_ext, heap_push, Array.size_push, World.heap_drewN]; omega) | (simp; omega)) _ _ | refine below_draws ?_ _ | refine Below.alloc ?_ (by first | omega | (simp; done) | (simp; omega)) _ | refine Below.setCell ?_ (by first | omega | (simp; done) | (simp; omega)) _ | refine below_then (by assumption) (by first | omega | (simp; done) | (simp; omega)) ?_)))⟩

end Go.Proofs.Ytlakmogclcpgdaa

