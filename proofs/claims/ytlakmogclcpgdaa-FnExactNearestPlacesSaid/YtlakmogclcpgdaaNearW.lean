/-
  CONTRACTS: the nearest places: the reference's search.
-/
import Derived.Test.YtlakmogclcpgdaaNearD
namespace Go.Proofs.Ytlakmogclcpgdaa
open Go.RowKit Go.Flt
set_option linter.unusedVariables false
set_option maxRecDepth 100000
set_option linter.unusedSimpArgs false

/-- Two whole numbers, a float whose datum is told, and a bool. -/
def RetN (a b : Int) (D : Ieee.Datum) (ok : Bool) (R : World → Prop) (e : Ending) (w' : World) : Prop :=
  ∃ r, e = .returned (.tuple #[.int .i64 a, .int .i64 b, .float .f32 r, .bool ok]) ∧ cl .f32 r = D ∧ fits r ∧ R w'

def nrst (xs ys : List Nat) : Int × Int × Ieee.Datum := nOut (dist xs ys) xs.length xs.length

set_option maxHeartbeats 2000000 in
theorem c_l06Nearest (b : Nat) (A C : Option Addr) (n cA m cC K : Nat) (xs ys : List Nat) (r d s : Nat) (w : World) (hf : FmAt w b (.slice A n cA) (.slice C m cC) r d s) (hx : Fl w K A n xs) (hy : Fl w K C m ys) (hn : n ≤ 12) (hm : m = n) :
    Calls Try.prog 53 #[.pointer (some ⟨b, 0, none⟩)] w (RetN (nrst xs ys).1 (nrst xs ys).2.1 (nrst xs ys).2.2 (decide (0 ≤ (nrst xs ys).1)) (Drawn w)) := by
  obtain rfl := hx.1
  obtain hl := hy.1
  subst hm
  have HX := Lib.hid hx
  have HY := Lib.hid hy
  have HF := Lib.hid hf
  have NN := Lib.hid (And.intro hn hl)
  obtain ⟨p0, p1, p2, p3, p4⟩ := hf
  have HR := Lib.hid (show nrst xs ys = nOut (dist xs ys) xs.length xs.length from rfl)
  generalize nrst xs ys = R at *
  clear hx hy hn hl
  go_enter Try.func53, Try.ntmps53
  go_wp2_with fail
  go_loopw [6, 7, 8, 9] (fun sa sb sd si wr => ∃ (i : Nat) (a b' : Int) (z : Nat), i ≤ xs.length ∧ si = .int .i64 i ∧ sa = .int .i64 a ∧ sb = .int .i64 b' ∧ sd = .float .f32 z ∧ Hid (nOut (dist xs ys) xs.length i = (a, b', cl .f32 z)) ∧ Hid (fits z) ∧ Hid (Drawn w wr)) (fun _ _ _ si _ => xs.length - (intOf si).toNat)
  case atStart => exact ⟨0, -1, -1, 0, Nat.zero_le _, rfl, rfl, rfl, rfl, rfl, fits_zero, ⟨0, rfl⟩⟩
  case round =>
    obtain ⟨i, a, b', z, hi, rfl, rfl, rfl, rfl, hst, hzf, hDr⟩ := hrel
    have q0 : wr.cell? ⟨b, 0, none⟩ = some (.slice A xs.length cA) := by obtain ⟨q, rfl⟩ := hDr.out; exact p0
    by_cases hlt : i < xs.length
    · have i3 : (0 : Int) ≤ (i : Int) := by omega
      have i4 : (i : Int) < (xs.length : Int) := by omega
      have i5 : IntKind.i64.wrap ((i : Int) + 1) = (i : Int) + 1 := by rw [IntKind.wrap_i64]; have := NN.out; omega
      go_wp2_with fail
      have HST := hst
      go_loopw [6, 7, 8, 10] (fun sa sb sd sk wr => ∃ (k : Nat) (a b' : Int) (z : Nat), i + 1 ≤ k ∧ k ≤ xs.length ∧ sk = .int .i64 (k : Int) ∧ sa = .int .i64 a ∧ sb = .int .i64 b' ∧ sd = .float .f32 z ∧ Hid (nIn (dist xs ys) i (nOut (dist xs ys) xs.length i) (k - (i + 1)) = (a, b', cl .f32 z)) ∧ Hid (fits z) ∧ Hid (Drawn w wr)) (fun _ _ _ sk _ => xs.length - (intOf sk).toNat)
      case atStart => exact ⟨i + 1, a, b', z, by omega, by omega, rfl, rfl, rfl, rfl, (show nIn _ _ _ _ = _ by rw [Nat.sub_self]; exact hst.out), hzf, hDr⟩
      case round =>
        obtain ⟨k, a, b', z, hk1, hm, rfl, rfl, rfl, rfl, hst, hzf, hDr⟩ := hrel
        have cellD : ∀ a, wr.cell? a = w.cell? a := by obtain ⟨q, rfl⟩ := hDr.out; intro a; rfl
        have q0 := (cellD _).trans p0
        have q1 := (cellD _).trans p1
        by_cases hlk : k < xs.length
        · have i6 : (0 : Int) ≤ (k : Int) := by omega
          have i7 : (k : Int) < (xs.length : Int) := by omega
          have i8 : (i : Int) < (ys.length : Int) := by have := NN.out; omega
          have i9 : (k : Int) < (ys.length : Int) := by have := NN.out; omega
          have iw : IntKind.i64.wrap (k : Int) = (k : Int) := by rw [IntKind.wrap_i64]; have := NN.out; omega
          have iv : IntKind.i64.wrap (i : Int) = (i : Int) := by rw [IntKind.wrap_i64]; have := NN.out; omega
          have HW := Lib.hid (show wrap64 ((k : Int) + 1) = (k : Int) + 1 by have := NN.out; unfold wrap64; omega)
          obtain ⟨bx, ox, rfl, hbx, hcx⟩ := HX.out.2 (by omega)
          obtain ⟨by', oy, rfl, hby, hcy⟩ := HY.out.2 (by have := NN.out; omega)
          have c1 := (cellD _).trans (hcx k (xs.getD k 0) (by simp [hlk]))
          have c2 := (cellD _).trans (hcx i (xs.getD i 0) (by simp [hlt]))
          have c3 := (cellD _).trans (hcy k (ys.getD k 0) (by have := NN.out; simp [show k < ys.length by omega]))
          have c4 := (cellD _).trans (hcy i (ys.getD i 0) (by have := NN.out; simp [show i < ys.length by omega]))
          have HDD := Lib.hid (show dist xs ys i k = rootD (fop .add .f32 (fop .mul .f32 (fop .sub .f32 (cl .f32 (xs.getD k 0)) (cl .f32 (xs.getD i 0))) (fop .sub .f32 (cl .f32 (xs.getD k 0)) (cl .f32 (xs.getD i 0)))) (fop .mul .f32 (fop .sub .f32 (cl .f32 (ys.getD k 0)) (cl .f32 (ys.getD i 0))) (fop .sub .f32 (cl .f32 (ys.getD k 0)) (cl .f32 (ys.getD i 0))))) from rfl)
          have HN := Lib.hid (show nIn (dist xs ys) i (nOut (dist xs ys) xs.length i) (k + 1 - (i + 1)) = stp (dist xs ys) (a, b', cl .f32 z) i k by
            rw [show k + 1 - (i + 1) = (k - (i + 1)) + 1 by omega, ← hst.out]
            show stp _ _ _ (i + 1 + (k - (i + 1))) = _
            rw [show i + 1 + (k - (i + 1)) = k by omega])
          clear hcx hcy cellD
          generalize xs.getD k 0 = x1 at *
          generalize xs.getD i 0 = x0 at *
          generalize ys.getD k 0 = y1 at *
          generalize ys.getD i 0 = y0 at *
          by_cases ha : a < 0
          · have hda : decide (a < 0) = true := decide_eq_true ha
            go_wp2_with fail
            try simp only [List.append_eq, List.cons_append, List.nil_append]
            refine wp_region_drawnC (by kernel_rfl) (by kernel_rfl) ?_
            repeat (first | (refine wpFree_skip rfl ?_; try go_simp) | (refine wpFree_want rfl (fun K hK => ?_); first | (refine free_fbin drawn_draw rfl rfl _ _ _ rfl rfl ?_; intro z hz hzw; go_simp; refine hK _ ?_; clear hK K) | (intro wq hq; obtain ⟨hqc, hqf, hqh⟩ := drawn_cells hq; go_simp; first | (refine hK _ ?_; clear hK K; try clear hqc hqf; try clear hqh; try clear hq; try clear wq) | fail)))
            refine wpFree_nil ?_
            intro wq hq
            obtain ⟨nq, rfl⟩ := hq
            go_wp2_with fail
            try simp only [List.append_eq, List.cons_append, List.nil_append]
            refine wp_region_drawnC (by kernel_rfl) (by kernel_rfl) ?_
            repeat (first | (refine wpFree_skip rfl ?_; try go_simp) | (refine wpFree_want rfl (fun K hK => ?_); first | (refine free_fbin drawn_draw rfl rfl _ _ _ rfl rfl ?_; intro z hz hzw; go_simp; refine hK _ ?_; clear hK K) | (intro wq hq; obtain ⟨hqc, hqf, hqh⟩ := drawn_cells hq; go_simp; first | (refine hK _ ?_; clear hK K; try clear hqc hqf; try clear hqh; try clear hq; try clear wq) | fail)))
            refine wpFree_nil ?_
            intro wq hq
            obtain ⟨nq, rfl⟩ := hq
            go_wp2_with (first | (refine upon_fbin rfl _ _ _ _ ?_; intro z n hz hzw) | (go_at_call 80; refine (c_l01Sqrt _ _).mono ?_; rintro e w' ⟨r, rfl, hr, hrf, nq, rfl⟩))
            go_roundw
            case rel => exact ⟨k + 1, _, _, _, by omega, by omega, by have e := HW.out; simp [e], rfl, rfl, rfl, by
              show nIn _ _ _ _ = _
              rw [HN.out]
              unfold stp; rw [if_pos (.inl ha), HDD.out]; simp only [*], by assumption, drawn_trans hDr.out ⟨_, rfl⟩⟩
            case measure => have e := HW.out; exact meas_less hlk e
          · have hda : decide (a < 0) = false := decide_eq_false ha
            cases hfl : flt (rootD (fop .add .f32 (fop .mul .f32 (fop .sub .f32 (cl .f32 x1) (cl .f32 x0)) (fop .sub .f32 (cl .f32 x1) (cl .f32 x0))) (fop .mul .f32 (fop .sub .f32 (cl .f32 y1) (cl .f32 y0)) (fop .sub .f32 (cl .f32 y1) (cl .f32 y0))))) (cl .f32 z)
            · have HFL := Lib.hid hfl
              go_wp2_with fail
              try simp only [List.append_eq, List.cons_append, List.nil_append]
              refine wp_region_drawnC (by kernel_rfl) (by kernel_rfl) ?_
              repeat (first | (refine wpFree_skip rfl ?_; try go_simp) | (refine wpFree_want rfl (fun K hK => ?_); first | (refine free_fbin drawn_draw rfl rfl _ _ _ rfl rfl ?_; intro z hz hzw; go_simp; refine hK _ ?_; clear hK K) | (intro wq hq; obtain ⟨hqc, hqf, hqh⟩ := drawn_cells hq; go_simp; first | (refine hK _ ?_; clear hK K; try clear hqc hqf; try clear hqh; try clear hq; try clear wq) | fail)))
              refine wpFree_nil ?_
              intro wq hq
              obtain ⟨nq, rfl⟩ := hq
              go_wp2_with fail
              try simp only [List.append_eq, List.cons_append, List.nil_append]
              refine wp_region_drawnC (by kernel_rfl) (by kernel_rfl) ?_
              repeat (first | (refine wpFree_skip rfl ?_; try go_simp) | (refine wpFree_want rfl (fun K hK => ?_); first | (refine free_fbin drawn_draw rfl rfl _ _ _ rfl rfl ?_; intro z hz hzw; go_simp; refine hK _ ?_; clear hK K) | (intro wq hq; obtain ⟨hqc, hqf, hqh⟩ := drawn_cells hq; go_simp; first | (refine hK _ ?_; clear hK K; try clear hqc hqf; try clear hqh; try clear hq; try clear wq) | fail)))
              refine wpFree_nil ?_
              intro wq hq
              obtain ⟨nq, rfl⟩ := hq
              go_wp2_with (first | (refine upon_fbin rfl _ _ _ _ ?_; intro z n hz hzw) | (go_at_call 80; refine (c_l01Sqrt _ _).mono ?_; rintro e w' ⟨r, rfl, hr, hrf, nq, rfl⟩))
              go_roundw
              case rel => exact ⟨k + 1, _, _, _, by omega, by omega, by have e := HW.out; simp [e], rfl, rfl, rfl, by
                show nIn _ _ _ _ = _
                rw [HN.out]
                unfold stp; rw [if_neg (by rintro (h | h); (have h : a < 0 := h; omega); (rw [HDD.out] at h; have h2 := HFL.out; rw [h2] at h; cases h))], hzf, drawn_trans hDr.out ⟨_, rfl⟩⟩
              case measure => have e := HW.out; exact meas_less hlk e
            · have HFL := Lib.hid hfl
              go_wp2_with fail
              try simp only [List.append_eq, List.cons_append, List.nil_append]
              refine wp_region_drawnC (by kernel_rfl) (by kernel_rfl) ?_
              repeat (first | (refine wpFree_skip rfl ?_; try go_simp) | (refine wpFree_want rfl (fun K hK => ?_); first | (refine free_fbin drawn_draw rfl rfl _ _ _ rfl rfl ?_; intro z hz hzw; go_simp; refine hK _ ?_; clear hK K) | (intro wq hq; obtain ⟨hqc, hqf, hqh⟩ := drawn_cells hq; go_simp; first | (refine hK _ ?_; clear hK K; try clear hqc hqf; try clear hqh; try clear hq; try clear wq) | fail)))
              refine wpFree_nil ?_
              intro wq hq
              obtain ⟨nq, rfl⟩ := hq
              go_wp2_with fail
              try simp only [List.append_eq, List.cons_append, List.nil_append]
              refine wp_region_drawnC (by kernel_rfl) (by kernel_rfl) ?_
              repeat (first | (refine wpFree_skip rfl ?_; try go_simp) | (refine wpFree_want rfl (fun K hK => ?_); first | (refine free_fbin drawn_draw rfl rfl _ _ _ rfl rfl ?_; intro z hz hzw; go_simp; refine hK _ ?_; clear hK K) | (intro wq hq; obtain ⟨hqc, hqf, hqh⟩ := drawn_cells hq; go_simp; first | (refine hK _ ?_; clear hK K; try clear hqc hqf; try clear hqh; try clear hq; try clear wq) | fail)))
              refine wpFree_nil ?_
              intro wq hq
              obtain ⟨nq, rfl⟩ := hq
              go_wp2_with (first | (refine upon_fbin rfl _ _ _ _ ?_; intro z n hz hzw) | (go_at_call 80; refine (c_l01Sqrt _ _).mono ?_; rintro e w' ⟨r, rfl, hr, hrf, nq, rfl⟩))
              go_roundw
              case rel => exact ⟨k + 1, _, _, _, by omega, by omega, by have e := HW.out; simp [e], rfl, rfl, rfl, by
                show nIn _ _ _ _ = _
                rw [HN.out]
                unfold stp; rw [if_pos (.inr (by rw [HDD.out]; exact HFL.out)), HDD.out]; simp only [*], by assumption, drawn_trans hDr.out ⟨_, rfl⟩⟩
              case measure => have e := HW.out; exact meas_less hlk e
        · obtain rfl : k = xs.length := by omega
          have i6 : ¬ (xs.length : Int) < (xs.length : Int) := by omega
          have HW := Lib.hid (show wrap64 ((i : Int) + 1) = (i : Int) + 1 by have := NN.out; unfold wrap64; omega)
          go_wp2_with fail
          go_roundw
          case rel => exact ⟨i + 1, a, b', z, by omega, by have e := HW.out; simp [e], rfl, rfl, rfl, hst, hzf, hDr⟩
          case measure => simp only [intOf]; omega
    · obtain rfl : i = xs.length := by omega
      have i4 : ¬ (xs.length : Int) < (xs.length : Int) := by omega
      have hR : R = (a, b', cl .f32 z) := HR.out.trans hst.out
      have HRR := Lib.hid hR
      clear hR
      go_wp2_with fail
      refine bodyPost_ret (v := .tuple #[.int .i64 a, .int .i64 b', .float .f32 z, .bool (decide (0 ≤ a))]) (by simp [results, Try.results53, go_sem]) rfl ?_
      exact ⟨z, by rw [HRR.out], by rw [HRR.out], hzf.out, hDr.out⟩

end Go.Proofs.Ytlakmogclcpgdaa
