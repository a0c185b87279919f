/-
  CONTRACTS: the nearest places, in the program.
-/
import Derived.Test.YtlakmogclcpgdaaNearC
namespace Go.Proofs.Ytlakmogclcpgdaa
open Go.RowKit Go.Flt
set_option linter.unusedVariables false
set_option maxRecDepth 100000
set_option linter.unusedSimpArgs false

set_option maxHeartbeats 4000000 in
theorem c_implNear (lo hi : Nat) (v : Value) (xs ys : List Nat) (r d s : Nat) (w : World) (h : FarmAt w lo hi v xs ys r d s) (hK : hi ≤ w.heap.size) (hn : xs.length ≤ 1048576) (hm : ys.length ≤ 1048576) :
    Calls Try.prog 26 #[v] w (RetN (aN xs ys r d s) (bN xs ys r d s) (dN xs ys r d s) (okN xs ys r d s) (Grew w)) := by
  have V1 := Lib.hid (fun w' (hg : Grew w w') => c_implValidFarm' lo hi v xs ys r d s w' (h.grew hK hg) (Nat.le_trans hK (Below.size hg)))
  obtain ⟨A, cA, C, cC, rfl, hx, hy⟩ := h.parts
  have HX0 := Lib.hid (fun w' (hg : Grew w w') => Slc.grew (g := Value.float .f32) (w' := w') hx hK hg)
  have HY0 := Lib.hid (fun w' (hg : Grew w w') => Slc.grew (g := Value.float .f32) (w' := w') hy hK hg)
  clear h hx hy hn hm
  cases k1 : vFarm xs ys r d s
  · have HO := Lib.hid (show okN xs ys r d s = false by simp [okN, k1])
    rw [k1] at V1
    go_enter Try.func26, Try.ntmps26
    go_wp2_with (go_at_call 48; refine (V1.out _ (by (show Below _ _ _; (repeat (first | exact Below.refl _ _ | refine ext_below ?_ (by first | omega | (simp only [size_ext, heap_push, Array.size_push, World.heap_drewN]; omega) | (simp; omega)) _ _ | refine below_draws ?_ _ | refine Below.alloc ?_ (by first | omega | (simp; done) | (simp; omega)) _ | refine Below.setCell ?_ (by first | omega | (simp; done) | (simp; omega)) _ | refine below_then (by assumption) (by first | omega | (simp; done) | (simp; omega)) ?_))))).mono ?_; rintro e w' ⟨rfl, hg1⟩)
    refine bodyPost_ret (v := .tuple #[.int .i64 0, .int .i64 0, .float .f32 0, .bool false]) (by simp [results, Try.results26, go_sem]) rfl ?_
    exact ⟨0, by rw [aN, bN, HO.out]; rfl, by rw [dN, HO.out]; rfl, fits_zero, by (show Below _ _ _; (repeat (first | exact Below.refl _ _ | refine ext_below ?_ (by first | omega | (simp only [size_ext, heap_push, Array.size_push, World.heap_drewN]; omega) | (simp; omega)) _ _ | refine below_draws ?_ _ | refine Below.alloc ?_ (by first | omega | (simp; done) | (simp; omega)) _ | refine Below.setCell ?_ (by first | omega | (simp; done) | (simp; omega)) _ | refine below_then (by assumption) (by first | omega | (simp; done) | (simp; omega)) ?_)))⟩
  · obtain ⟨n1, n2, n3, _, _⟩ := vFarm_near k1
    rw [k1] at V1
    have NN := Lib.hid (And.intro n2 n3)
    clear n3
    by_cases h2 : 2 ≤ xs.length
    · have HO := Lib.hid (show okN xs ys r d s = true by simp [okN, k1, h2])
      have HA := Lib.hid (show aN xs ys r d s = (nrst xs ys).1 by rw [aN, HO.out]; rfl)
      have HB := Lib.hid (show bN xs ys r d s = (nrst xs ys).2.1 by rw [bN, HO.out]; rfl)
      have HD := Lib.hid (show dN xs ys r d s = (nrst xs ys).2.2 by rw [dN, HO.out]; rfl)
      have HR := Lib.hid (show nrst xs ys = nOut (dist xs ys) xs.length xs.length from rfl)
      generalize nrst xs ys = R at *
      have hne : decide ((xs.length : Int) = 1) = false := decide_eq_false (by omega)
      have hne2 : ((xs.length : Int) == 1) = false := by simp; omega
      have hne3 : ¬ (xs.length : Int) = 1 := by omega
      clear k1 n1 n2
      go_enter Try.func26, Try.ntmps26
      go_upto_region 3 with (go_at_call 48; refine (V1.out _ (by (show Below _ _ _; (repeat (first | exact Below.refl _ _ | refine ext_below ?_ (by first | omega | (simp only [size_ext, heap_push, Array.size_push, World.heap_drewN]; omega) | (simp; omega)) _ _ | refine below_draws ?_ _ | refine Below.alloc ?_ (by first | omega | (simp; done) | (simp; omega)) _ | refine Below.setCell ?_ (by first | omega | (simp; done) | (simp; omega)) _ | refine below_then (by assumption) (by first | omega | (simp; done) | (simp; omega)) ?_))))).mono ?_; rintro e w1 ⟨rfl, hg1⟩; have G1 := Lib.hid (grew_trans (show Grew w _ by (show Below _ _ _; (repeat (first | exact Below.refl _ _ | refine ext_below ?_ (by first | omega | (simp only [size_ext, heap_push, Array.size_push, World.heap_drewN]; omega) | (simp; omega)) _ _ | refine below_draws ?_ _ | refine Below.alloc ?_ (by first | omega | (simp; done) | (simp; omega)) _ | refine Below.setCell ?_ (by first | omega | (simp; done) | (simp; omega)) _ | refine below_then (by assumption) (by first | omega | (simp; done) | (simp; omega)) ?_)))) hg1); have A1 : Hid (FmAt w1 w.heap.size (.slice A xs.length cA) (.slice C ys.length cC) r d s) := Lib.hid (FmAt.grew (by unfold FmAt; simp [go_sem]) (by simp <;> omega) hg1); clear hg1; obtain ⟨p0, p1, p2, p3, p4⟩ := A1.out)
      have HX := Lib.hid (HX0.out w1 G1.out)
      have HY := Lib.hid (HY0.out w1 G1.out)
      clear hne hne2 hne3 V1 HX0 HY0
      go_wp2_with fail
      go_loopw [6, 7, 8, 26] (fun sa sb sd si wr => ∃ (i : Nat) (a b' : Int) (z : Nat), i ≤ xs.length ∧ si = .int .i64 i ∧ sa = .int .i64 a ∧ sb = .int .i64 b' ∧ sd = .float .f32 z ∧ Hid (nOut (dist xs ys) xs.length i = (a, b', cl .f32 z)) ∧ Hid (fits z) ∧ Hid (Drawn w1 wr)) (fun _ _ _ si _ => xs.length - (intOf si).toNat)
      case atStart => exact ⟨0, -1, -1, 0, Nat.zero_le _, rfl, rfl, rfl, rfl, rfl, fits_zero, ⟨0, rfl⟩⟩
      case round =>
        obtain ⟨i, a, b', z, hi, rfl, rfl, rfl, rfl, hst, hzf, hDr⟩ := hrel
        have q0 : wr.cell? ⟨w.heap.size, 0, none⟩ = some (.slice A xs.length cA) := by obtain ⟨q, rfl⟩ := hDr.out; exact p0
        by_cases hlt : i < xs.length
        · have i3 : (0 : Int) ≤ (i : Int) := by omega
          have i4 : (i : Int) < (xs.length : Int) := by omega
          have i5 : IntKind.i64.wrap ((i : Int) + 1) = (i : Int) + 1 := by rw [IntKind.wrap_i64]; have := NN.out; omega
          go_wp2_with fail
          have HST := hst
          go_loopw [6, 7, 8, 10] (fun sa sb sd sk wr => ∃ (k : Nat) (a b' : Int) (z : Nat), i + 1 ≤ k ∧ k ≤ xs.length ∧ sk = .int .i64 (k : Int) ∧ sa = .int .i64 a ∧ sb = .int .i64 b' ∧ sd = .float .f32 z ∧ Hid (nIn (dist xs ys) i (nOut (dist xs ys) xs.length i) (k - (i + 1)) = (a, b', cl .f32 z)) ∧ Hid (fits z) ∧ Hid (Drawn w1 wr)) (fun _ _ _ sk _ => xs.length - (intOf sk).toNat)
          case atStart => exact ⟨i + 1, a, b', z, by omega, by omega, rfl, rfl, rfl, rfl, (show nIn _ _ _ _ = _ by rw [Nat.sub_self]; exact hst.out), hzf, hDr⟩
          case round =>
            obtain ⟨k, a, b', z, hk1, hm, rfl, rfl, rfl, rfl, hst, hzf, hDr⟩ := hrel
            have cellD : ∀ a, wr.cell? a = w1.cell? a := by obtain ⟨q, rfl⟩ := hDr.out; intro a; rfl
            have q0 := (cellD _).trans p0
            have q1 := (cellD _).trans p1
            by_cases hlk : k < xs.length
            · have i6 : (0 : Int) ≤ (k : Int) := by omega
              have i7 : (k : Int) < (xs.length : Int) := by omega
              have i8 : (i : Int) < (ys.length : Int) := by have := NN.out; omega
              have i9 : (k : Int) < (ys.length : Int) := by have := NN.out; omega
              have iw : IntKind.i64.wrap (k : Int) = (k : Int) := by rw [IntKind.wrap_i64]; have := NN.out; omega
              have iv : IntKind.i64.wrap (i : Int) = (i : Int) := by rw [IntKind.wrap_i64]; have := NN.out; omega
              have HW := Lib.hid (show wrap64 ((k : Int) + 1) = (k : Int) + 1 by have := NN.out; unfold wrap64; omega)
              obtain ⟨bx, ox, rfl, hbx, hcx⟩ := HX.out.2 (by omega)
              obtain ⟨by', oy, rfl, hby, hcy⟩ := HY.out.2 (by have := NN.out; omega)
              have c1 := (cellD _).trans (hcx k (xs.getD k 0) (by simp [hlk]))
              have c2 := (cellD _).trans (hcx i (xs.getD i 0) (by simp [hlt]))
              have c3 := (cellD _).trans (hcy k (ys.getD k 0) (by have := NN.out; simp [show k < ys.length by omega]))
              have c4 := (cellD _).trans (hcy i (ys.getD i 0) (by have := NN.out; simp [show i < ys.length by omega]))
              have HDD := Lib.hid (show dist xs ys i k = rootD (fop .add .f32 (fop .mul .f32 (fop .sub .f32 (cl .f32 (xs.getD k 0)) (cl .f32 (xs.getD i 0))) (fop .sub .f32 (cl .f32 (xs.getD k 0)) (cl .f32 (xs.getD i 0)))) (fop .mul .f32 (fop .sub .f32 (cl .f32 (ys.getD k 0)) (cl .f32 (ys.getD i 0))) (fop .sub .f32 (cl .f32 (ys.getD k 0)) (cl .f32 (ys.getD i 0))))) from rfl)
              have HN := Lib.hid (show nIn (dist xs ys) i (nOut (dist xs ys) xs.length i) (k + 1 - (i + 1)) = stp (dist xs ys) (a, b', cl .f32 z) i k by
                rw [show k + 1 - (i + 1) = (k - (i + 1)) + 1 by omega, ← hst.out]
                show stp _ _ _ (i + 1 + (k - (i + 1))) = _
                rw [show i + 1 + (k - (i + 1)) = k by omega])
              clear hcx hcy cellD
              generalize xs.getD k 0 = x1 at *
              generalize xs.getD i 0 = x0 at *
              generalize ys.getD k 0 = y1 at *
              generalize ys.getD i 0 = y0 at *
              by_cases ha : a < 0
              · have hda : decide (a < 0) = true := decide_eq_true ha
                go_wp2_with fail
                try simp only [List.append_eq, List.cons_append, List.nil_append]
                refine wp_region_drawnC (by kernel_rfl) (by kernel_rfl) ?_
                repeat (first | (refine wpFree_skip rfl ?_; try go_simp) | (refine wpFree_want rfl (fun K hK => ?_); first | (refine free_fbin drawn_draw rfl rfl _ _ _ rfl rfl ?_; intro z hz hzw; go_simp; refine hK _ ?_; clear hK K) | (intro wq hq; obtain ⟨hqc, hqf, hqh⟩ := drawn_cells hq; go_simp; first | (refine hK _ ?_; clear hK K; try clear hqc hqf; try clear hqh; try clear hq; try clear wq) | fail)))
                refine wpFree_nil ?_
                intro wq hq
                obtain ⟨nq, rfl⟩ := hq
                go_wp2_with (first | (refine upon_fbin rfl _ _ _ _ ?_; intro z n hz hzw) | (go_at_call 55; refine (c_RootNumber _ _).mono ?_; rintro e w' ⟨r, rfl, hr, hrf, nq, rfl⟩))
                go_roundw
                case rel => exact ⟨k + 1, _, _, _, by omega, by omega, by have e := HW.out; simp [e], rfl, rfl, rfl, by
                  show nIn _ _ _ _ = _
                  rw [HN.out]
                  unfold stp; rw [if_pos (.inl ha), HDD.out]; simp only [*], by assumption, drawn_trans hDr.out ⟨_, rfl⟩⟩
                case measure => have e := HW.out; exact meas_less hlk e
              · have hda : decide (a < 0) = false := decide_eq_false ha
                cases hfl : flt (rootD (fop .add .f32 (fop .mul .f32 (fop .sub .f32 (cl .f32 x1) (cl .f32 x0)) (fop .sub .f32 (cl .f32 x1) (cl .f32 x0))) (fop .mul .f32 (fop .sub .f32 (cl .f32 y1) (cl .f32 y0)) (fop .sub .f32 (cl .f32 y1) (cl .f32 y0))))) (cl .f32 z)
                · have HFL := Lib.hid hfl
                  go_wp2_with fail
                  try simp only [List.append_eq, List.cons_append, List.nil_append]
                  refine wp_region_drawnC (by kernel_rfl) (by kernel_rfl) ?_
                  repeat (first | (refine wpFree_skip rfl ?_; try go_simp) | (refine wpFree_want rfl (fun K hK => ?_); first | (refine free_fbin drawn_draw rfl rfl _ _ _ rfl rfl ?_; intro z hz hzw; go_simp; refine hK _ ?_; clear hK K) | (intro wq hq; obtain ⟨hqc, hqf, hqh⟩ := drawn_cells hq; go_simp; first | (refine hK _ ?_; clear hK K; try clear hqc hqf; try clear hqh; try clear hq; try clear wq) | fail)))
                  refine wpFree_nil ?_
                  intro wq hq
                  obtain ⟨nq, rfl⟩ := hq
                  go_wp2_with (first | (refine upon_fbin rfl _ _ _ _ ?_; intro z n hz hzw) | (go_at_call 55; refine (c_RootNumber _ _).mono ?_; rintro e w' ⟨r, rfl, hr, hrf, nq, rfl⟩))
                  go_roundw
                  case rel => exact ⟨k + 1, _, _, _, by omega, by omega, by have e := HW.out; simp [e], rfl, rfl, rfl, by
                    show nIn _ _ _ _ = _
                    rw [HN.out]
                    unfold stp; rw [if_neg (by rintro (h | h); (have h : a < 0 := h; omega); (rw [HDD.out] at h; have h2 := HFL.out; rw [h2] at h; cases h))], hzf, drawn_trans hDr.out ⟨_, rfl⟩⟩
                  case measure => have e := HW.out; exact meas_less hlk e
                · have HFL := Lib.hid hfl
                  go_wp2_with fail
                  try simp only [List.append_eq, List.cons_append, List.nil_append]
                  refine wp_region_drawnC (by kernel_rfl) (by kernel_rfl) ?_
                  repeat (first | (refine wpFree_skip rfl ?_; try go_simp) | (refine wpFree_want rfl (fun K hK => ?_); first | (refine free_fbin drawn_draw rfl rfl _ _ _ rfl rfl ?_; intro z hz hzw; go_simp; refine hK _ ?_; clear hK K) | (intro wq hq; obtain ⟨hqc, hqf, hqh⟩ := drawn_cells hq; go_simp; first | (refine hK _ ?_; clear hK K; try clear hqc hqf; try clear hqh; try clear hq; try clear wq) | fail)))
                  refine wpFree_nil ?_
                  intro wq hq
                  obtain ⟨nq, rfl⟩ := hq
                  go_wp2_with (first | (refine upon_fbin rfl _ _ _ _ ?_; intro z n hz hzw) | (go_at_call 55; refine (c_RootNumber _ _).mono ?_; rintro e w' ⟨r, rfl, hr, hrf, nq, rfl⟩))
                  go_roundw
                  case rel => exact ⟨k + 1, _, _, _, by omega, by omega, by have e := HW.out; simp [e], rfl, rfl, rfl, by
                    show nIn _ _ _ _ = _
                    rw [HN.out]
                    unfold stp; rw [if_pos (.inr (by rw [HDD.out]; exact HFL.out)), HDD.out]; simp only [*], by assumption, drawn_trans hDr.out ⟨_, rfl⟩⟩
                  case measure => have e := HW.out; exact meas_less hlk e
            · obtain rfl : k = xs.length := by omega
              have i6 : ¬ (xs.length : Int) < (xs.length : Int) := by omega
              have HW := Lib.hid (show wrap64 ((i : Int) + 1) = (i : Int) + 1 by have := NN.out; unfold wrap64; omega)
              go_wp2_with fail
              go_roundw
              case rel => exact ⟨i + 1, a, b', z, by omega, by have e := HW.out; simp [e], rfl, rfl, rfl, hst, hzf, hDr⟩
              case measure => simp only [intOf]; omega
        · obtain rfl : i = xs.length := by omega
          have i4 : ¬ (xs.length : Int) < (xs.length : Int) := by omega
          have hR : R = (a, b', cl .f32 z) := HR.out.trans hst.out
          have HRR := Lib.hid hR
          clear hR
          go_wp2_with fail
          refine bodyPost_ret (v := .tuple #[.int .i64 a, .int .i64 b', .float .f32 z, .bool true]) (by simp [results, Try.results26, go_sem]) rfl ?_
          exact ⟨z, by rw [HA.out, HB.out, HO.out, HRR.out], by rw [HD.out, HRR.out], hzf.out, grew_trans G1.out (grew_of_drawn hDr.out)⟩
    · have HO := Lib.hid (show okN xs ys r d s = false by simp [okN, h2])
      have h1 : xs.length = 1 := by omega
      have hne2 : ((xs.length : Int) == 1) = true := by simp; omega
      have hne3 : (xs.length : Int) = 1 := by omega
      clear k1 n1 n2 h1
      go_enter Try.func26, Try.ntmps26
      go_wp2_with (go_at_call 48; refine (V1.out _ (by (show Below _ _ _; (repeat (first | exact Below.refl _ _ | refine ext_below ?_ (by first | omega | (simp only [size_ext, heap_push, Array.size_push, World.heap_drewN]; omega) | (simp; omega)) _ _ | refine below_draws ?_ _ | refine Below.alloc ?_ (by first | omega | (simp; done) | (simp; omega)) _ | refine Below.setCell ?_ (by first | omega | (simp; done) | (simp; omega)) _ | refine below_then (by assumption) (by first | omega | (simp; done) | (simp; omega)) ?_))))).mono ?_; rintro e w' ⟨rfl, hg1⟩; obtain ⟨hvc, hvf⟩ := bcell hg1; have hvs := Below.size hg1; simp at hvs)
      refine bodyPost_ret (v := .tuple #[.int .i64 0, .int .i64 0, .float .f32 0, .bool false]) (by simp [results, Try.results26, go_sem]) rfl ?_
      exact ⟨0, by rw [aN, bN, HO.out]; rfl, by rw [dN, HO.out]; rfl, fits_zero, by (show Below _ _ _; (repeat (first | exact Below.refl _ _ | refine ext_below ?_ (by first | omega | (simp only [size_ext, heap_push, Array.size_push, World.heap_drewN]; omega) | (simp; omega)) _ _ | refine below_draws ?_ _ | refine Below.alloc ?_ (by first | omega | (simp; done) | (simp; omega)) _ | refine Below.setCell ?_ (by first | omega | (simp; done) | (simp; omega)) _ | refine below_then (by assumption) (by first | omega | (simp; done) | (simp; omega)) ?_)))⟩

end Go.Proofs.Ytlakmogclcpgdaa
