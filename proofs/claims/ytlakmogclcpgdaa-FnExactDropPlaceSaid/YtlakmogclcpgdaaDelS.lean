/-
  CONTRACTS: a place that is dropped, by the reference.
-/
import Derived.Test.YtlakmogclcpgdaaDelI
namespace Go.Proofs.Ytlakmogclcpgdaa
open Go.RowKit Go.Flt
set_option linter.unusedVariables false
set_option maxRecDepth 100000
set_option linter.unusedSimpArgs false

/-- The first k values, but for the j-th. -/
def dropL (xs : List Nat) (j k : Nat) : List Ieee.Datum := ((xs.map (cl .f32)).take k).eraseIdx j

theorem dropL_succ {xs : List Nat} {j k : Nat} (h : k < xs.length) (hj : k ≠ j) : dropL xs j (k + 1) = dropL xs j k ++ [cl .f32 (xs.getD k 0)] := by
  have e : (xs.map (cl .f32)).take (k + 1) = (xs.map (cl .f32)).take k ++ [cl .f32 (xs.getD k 0)] := by
    rw [List.take_add_one]; simp [h]
  unfold dropL
  rw [e]
  rcases Nat.lt_or_gt_of_ne hj with h1 | h1
  · rw [List.eraseIdx_of_length_le (by simp; omega), List.eraseIdx_of_length_le (by simp; omega)]
  · rw [List.eraseIdx_append_of_lt_length (by simp; omega)]

theorem dropL_same {xs : List Nat} {j : Nat} (h : j < xs.length) : dropL xs j (j + 1) = dropL xs j j := by
  have e : (xs.map (cl .f32)).take (j + 1) = (xs.map (cl .f32)).take j ++ [cl .f32 (xs.getD j 0)] := by
    rw [List.take_add_one]; simp [h]
  have hl : ((xs.map (cl .f32)).take j).length = j := by rw [List.length_take, List.length_map]; exact Nat.min_eq_left (Nat.le_of_lt h)
  unfold dropL
  rw [e, List.eraseIdx_append_of_length_le (Nat.le_of_eq hl), List.eraseIdx_of_length_le (Nat.le_of_eq hl), hl, Nat.sub_self]
  rw [List.eraseIdx_cons_zero, List.append_nil]

theorem dropL_all (xs : List Nat) (j k : Nat) (h : k = xs.length) : dropL xs j k = (xs.map (cl .f32)).eraseIdx j := by
  unfold dropL
  rw [List.take_of_length_le (by simp; omega)]

theorem dropL_len (xs : List Nat) (j k : Nat) : (dropL xs j k).length ≤ k := by
  unfold dropL
  exact Nat.le_trans (List.length_eraseIdx_le _ _) (by simp; omega)

set_option maxHeartbeats 4000000 in
theorem c_specDrop (A C : Option Addr) (cA cC K : Nat) (xs ys : List Nat) (r d s : Nat) (i : Int) (w : World) (hx : Fl w K A xs.length xs) (hy : Fl w K C ys.length ys) (hK : K ≤ w.heap.size) (hn : xs.length ≤ 1048576) (hm : ys.length ≤ 1048576) (fx : ∀ x ∈ xs, fits x) (fy : ∀ x ∈ ys, fits x) :
    Calls Try.prog 23 #[.agg #[.slice A xs.length cA, .slice C ys.length cC, .float .f32 r, .float .f32 d, .float .f32 s], .int .i64 i] w
      (RetFm (yesL (isDrop xs ys r d s i) ((xs.map (cl .f32)).eraseIdx i.toNat)) (yesL (isDrop xs ys r d s i) ((ys.map (cl .f32)).eraseIdx i.toNat)) (yesN (isDrop xs ys r d s i) r) (yesN (isDrop xs ys r d s i) d) (yesN (isDrop xs ys r d s i) s) (isDrop xs ys r d s i) w) := by
  have V1 := Lib.hid (fun w' b hf h => c_l06Has b A C _ cA _ cC K xs ys r d s i w' hf (Slc.grew (g := Value.float .f32) (w' := w') hx hK h) (Slc.grew (g := Value.float .f32) (w' := w') hy hK h) hn hm)
  cases k1 : hasR xs ys r d s i
  · have e : isDrop xs ys r d s i = false := by simp [isDrop, k1]
    rw [e]
    rw [k1] at V1
    clear hx hy hK hn hm k1
    go_enter Try.func23, Try.ntmps23
    go_wp2_with fail
    refine (V1.out _ _ (by unfold FmAt; simp [go_sem]) (by (show Below _ _ _; (repeat (first | exact Below.refl _ _ | refine ext_below ?_ (by first | omega | (simp only [size_ext, heap_push, Array.size_push, World.heap_drewN]; omega) | (simp; omega)) _ _ | refine below_draws ?_ _ | refine Below.alloc ?_ (by first | omega | (simp; done) | (simp; omega)) _ | refine Below.setCell ?_ (by first | omega | (simp; done) | (simp; omega)) _ | refine below_then (by assumption) (by first | omega | (simp; done) | (simp; omega)) ?_))))).mono ?_
    rintro e w1 ⟨rfl, nq, rfl⟩
    go_wp2_with fail
    refine bodyPost_ret (v := .tuple #[ZFM, .bool false]) (by simp [results, Try.results23, go_sem, ZFM]) rfl ?_
    exact ⟨_, [], [], rfl, farm_nil _ _ _, rfl, rfl, by (show Below _ _ _; (repeat (first | exact Below.refl _ _ | refine ext_below ?_ (by first | omega | (simp only [size_ext, heap_push, Array.size_push, World.heap_drewN]; omega) | (simp; omega)) _ _ | refine below_draws ?_ _ | refine Below.alloc ?_ (by first | omega | (simp; done) | (simp; omega)) _ | refine Below.setCell ?_ (by first | omega | (simp; done) | (simp; omega)) _ | refine below_then (by assumption) (by first | omega | (simp; done) | (simp; omega)) ?_)))⟩
  · have hk : isDrop xs ys r d s i = vFarmD ((xs.map (cl .f32)).eraseIdx i.toNat) ((ys.map (cl .f32)).eraseIdx i.toNat) r d s := by unfold isDrop; rw [k1]; rfl
    rw [hk]
    rw [k1] at V1
    obtain ⟨j, rfl, hkx, hky, h12, hxy⟩ := has_parts k1
    obtain ⟨i, hi, hz0, hz1, hz2⟩ := info_parts info_float32
    have HI := Lib.hid hi
    have HI0 := Lib.hid hz0
    have HI1 := Lib.hid hz1
    have HI2 := Lib.hid hz2
    have HX := Lib.hid (fun w' h => Slc.grew (g := Value.float .f32) (w' := w') hx hK h)
    have HY := Lib.hid (fun w' h => Slc.grew (g := Value.float .f32) (w' := w') hy hK h)
    have FX := Lib.hid (And.intro fx fy)
    have NN := Lib.hid (And.intro hkx (And.intro hky (And.intro h12 hxy)))
    simp only [Int.toNat_natCast]
    generalize hB : vFarmD ((xs.map (cl .f32)).eraseIdx j) ((ys.map (cl .f32)).eraseIdx j) r d s = BB
    generalize hD : yesL BB ((xs.map (cl .f32)).eraseIdx j) = DD
    generalize hE : yesL BB ((ys.map (cl .f32)).eraseIdx j) = EE
    generalize h1 : yesN BB r = RR
    generalize h2 : yesN BB d = RD
    generalize h3 : yesN BB s = RS
    have HB := Lib.hid hB
    have HD := Lib.hid hD
    have HE := Lib.hid hE
    have H1 := Lib.hid h1
    have H2 := Lib.hid h2
    have H3 := Lib.hid h3
    have KK := Lib.hid hK
    clear hB hD hE h1 h2 h3 hk hx hy hK hn hm k1 hkx hky h12 hxy fx fy hi hz0 hz1 hz2
    go_enter Try.func23, Try.ntmps23
    go_wp2_with fail
    refine (V1.out _ _ (by unfold FmAt; simp [go_sem]) (by (show Below _ _ _; (repeat (first | exact Below.refl _ _ | refine ext_below ?_ (by first | omega | (simp only [size_ext, heap_push, Array.size_push, World.heap_drewN]; omega) | (simp; omega)) _ _ | refine below_draws ?_ _ | refine Below.alloc ?_ (by first | omega | (simp; done) | (simp; omega)) _ | refine Below.setCell ?_ (by first | omega | (simp; done) | (simp; omega)) _ | refine below_then (by assumption) (by first | omega | (simp; done) | (simp; omega)) ?_))))).mono ?_
    rintro e w1 ⟨rfl, nq, hw1⟩
    have G1 : Hid (Grew w w1) := Lib.hid (by rw [hw1]; show Grew w _; (show Below _ _ _; (repeat (first | exact Below.refl _ _ | refine ext_below ?_ (by first | omega | (simp only [size_ext, heap_push, Array.size_push, World.heap_drewN]; omega) | (simp; omega)) _ _ | refine below_draws ?_ _ | refine Below.alloc ?_ (by first | omega | (simp; done) | (simp; omega)) _ | refine Below.setCell ?_ (by first | omega | (simp; done) | (simp; omega)) _ | refine below_then (by assumption) (by first | omega | (simp; done) | (simp; omega)) ?_))))
    have A1 : Hid (FmAt w1 w.heap.size (.slice A xs.length cA) (.slice C ys.length cC) r d s) := Lib.hid (by rw [hw1]; unfold FmAt; simp [go_sem])
    have R1 : Hid (BoxF w1 (w.heap.size + 1)) := Lib.hid (by rw [hw1]; exact ⟨by unfold FmAt; simp [go_sem], fun o => by simp [go_sem]⟩)
    have z1 : w.heap.size + 1 < w1.heap.size := by rw [hw1]; simp
    have z0 : w.heap.size < w1.heap.size := by omega
    clear hw1 V1
    obtain ⟨p0, p1, p2, p3, p4⟩ := A1.out
    go_upto_region 4 with fail
    have m1 := row_made (g := Value.float .f32) (t := 22) w1 (grw_refl w1)
    have m2 := row_made (g := Value.float .f32) (t := 22) (w1.alloc (.cells #[] 22)) m1.2
    have M0 := Lib.hid (mix_boxedF (w0 := w1) (lo := w1.heap.size) (zs := []) (us := []) (S1 := .slice (some ⟨w1.heap.size, 0, none⟩) 0 0) (S2 := .slice (some ⟨w1.heap.size + 1, 0, none⟩) 0 0) r d s (RowAt.mono (m1.1.alloc (.cells #[] 22)) (Nat.le_refl _) (by simp)) (by have h := m2.1; rw [size_al] at h; exact RowAt.mono h (Nat.le_refl _) (by simp)) (fun k h e => by simp [Value.ownBlock] at h e; omega) (Nat.le_refl _) (by simp <;> omega) m2.2)
    have e2 : ((w1.alloc (.cells #[] 22)).alloc (.cells #[] 22)).heap.size = w1.heap.size + 1 + 1 := by simp
    rw [e2] at M0
    clear m1 m2 e2 p0 p1 p2 p3 p4
    go_wp2_with fail
    go_loopw [7] (fun n wr => ∃ (k : Nat) (v1 v2 : Value) (zs us : List Nat), k ≤ xs.length ∧ n = .int .i64 k ∧ Hid (zs.length ≤ k) ∧ Hid (us.length ≤ k) ∧ Hid (MixAt w1 wr w1.heap.size (w1.heap.size + 1 + 1) v1 v2 zs us (dropL xs j k) (dropL ys j k) ∧ FmBox wr (w1.heap.size + 1 + 1) r d s)) (fun n _ => xs.length - (intOf n).toNat)
    case atStart => exact ⟨0, _, _, [], [], Nat.zero_le _, rfl, Nat.le_refl _, Nat.le_refl _, M0⟩
    case round =>
      obtain ⟨k, v1, v2, zs, us, hk, rfl, hzl, hul, hMF⟩ := hrel
      have hM := Lib.hid hMF.out.1
      have hF := Lib.hid hMF.out.2
      have GR : Hid (Grew w1 wr) := Lib.hid hM.out.gr
      have s2 : w1.heap.size + 1 + 1 < wr.heap.size := hM.out.lt
      have s1 : w1.heap.size ≤ wr.heap.size := by omega
      have s0 : w.heap.size < wr.heap.size := by omega
      obtain ⟨p0, p1, p2, p3, p4⟩ := A1.out.grew z0 GR.out
      have r0 := hM.out.c0
      have f0 := hM.out.f0
      clear hMF
      by_cases hlt : k < xs.length
      · have i3 : (0 : Int) ≤ (k : Int) := by omega
        have i4 : (k : Int) < (xs.length : Int) := by omega
        have HW := Lib.hid (show wrap64 ((k : Int) + 1) = (k : Int) + 1 by have := NN.out; unfold wrap64; omega)
        by_cases hkj : k = j
        · subst hkj
          have HL1 := Lib.hid (dropL_same (xs := xs) (j := k) hlt)
          have HL2 := Lib.hid (dropL_same (xs := ys) (j := k) (by have := NN.out; omega))
          go_wp2_with fail
          rw [← HL1.out, ← HL2.out] at hM
          go_roundw
          case rel => exact ⟨k + 1, v1, v2, zs, us, by omega, by have e := HW.out; simp [e], Nat.le_succ_of_le hzl.out, Nat.le_succ_of_le hul.out, ⟨hM.out, hF.out⟩⟩
          case measure =>
            have e := HW.out
            exact meas_less hlt e
        · have HL1 := Lib.hid (dropL_succ (xs := xs) hlt hkj)
          have HL2 := Lib.hid (dropL_succ (xs := ys) (by have := NN.out; omega) hkj)
          have nkj : ¬ (k : Int) = (j : Int) := by omega
          obtain ⟨bA, oA, rfl, hbA, hc⟩ := (HX.out _ (grew_trans G1.out GR.out)).2 (by omega)
          have hc1 := hc k (xs.getD k 0) (by simp [hlt])
          have hfx := FX.out.1 (xs.getD k 0) (by rw [show xs.getD k 0 = xs[k] by simp [hlt]]; exact List.getElem_mem _)
          have s3 : bA < wr.heap.size := by have := KK.out; omega
          clear hc
          generalize xs.getD k 0 = x at *
          go_wp2_with fail
          try simp only [List.append_eq, List.cons_append, List.nil_append]
          refine wp_region_any (by kernel_rfl) ?_
          refine wpAny_tail'' [38] [(38, W2 <| OneF wr.heap.size (cl .f32 x))] [0, 1, 2, 3, 4, 5, 6, 7] [8, 9, 10] (by kernel_rfl) (by kernel_rfl) (by kernel_rfl) (by kernel_rfl) (by kernel_rfl) (by kernel_rfl) (by kernel_rfl) (by kernel_rfl) (by simp) (by kernel_rfl) (by kernel_rfl) (by kernel_rfl) ?_
          simp only [picks, List.filterMap_cons, List.filterMap_nil, List.getElem?_cons_zero, List.getElem?_cons_succ]
          try go_simp
          repeat (first | (refine wpG_skip rfl ?_; try go_simp) | (refine wpG_want rfl (fun K hK => ?_); first | (refine gG_fbin rfl rfl _ _ _ rfl rfl rfl ?_; intro z hz hzw; go_simp; refine hK _ ?_; clear hK K) | (intro wq hq hp; obtain ⟨hqc, hqf⟩ := bcell hq; go_simp; first | (refine hK _ ?_; clear hK K; try clear hp; try clear hqc hqf; try clear hq; try clear wq) | (refine ⟨oneF_new (Below.size hq) rfl hfx, ?_⟩; refine hK _ ?_; clear hK K; try clear hp; try clear hqc hqf; try clear hq))))
          refine wpG_nil ?_
          intro wq hq hal hap
          obtain ⟨hqc, hqf⟩ := bcell hq
          have hqs := Below.size hq
          try simp at hqs
          clear hap
          have h38 := OneF.get (hal 38 (by simp)) (by simp [undef]) rfl
          obtain ⟨b1, r1, e1, hB1, hl1, hcell1, hcl1, hft1⟩ := h38
          simp at e1
          obtain rfl := e1
          have RQ := Lib.hid (hM.out.r1.grew (Nat.le_refl _) hq)
          refine wpList_append_own_at _ rfl _ _ 23 rfl w1.heap.size 22 i (.float .f32 0) 1 4 Try.underlying23 HI.out HI0.out HI1.out HI2.out rfl (by decide) _ _ _ rfl RQ.out.1 ⟨_, 0, none⟩ 1 _ [.float .f32 r1] rfl rfl (one_news hcell1) (by simp [Value.oneCell']) (by have := hzl.out; have := NN.out; unfold maxLen; omega) (by have := hzl.out; have := NN.out; omega) (by omega) ?_
          rintro v' w2' hown hgr _ hat
          have hP := Lib.hid (mix_push1 hM.out hq hown hgr hat hcl1)
          have hB := Lib.hid (hF.out.keep (mix_same hM.out hq hgr (.inl rfl)))
          clear hown hgr hat
          obtain ⟨A9, n9, c9, rfl⟩ := hP.out.1.r1.sl
          have c9' := hP.out.2.1
          have f9' := hP.out.2.2
          simp only [Act.put, List.setIfInBounds_toArray, List.set_cons_zero, List.set_cons_succ]
          go_wp2_with fail
          clear c9' f9' RQ hcell1 hqc hqf hal hc1
          have hM3 := Lib.hid hP.out.1
          have hF3 := Lib.hid (hB.out.set 0 (by omega) (.slice A9 n9 c9))
          rw [← HL1.out] at hM3
          generalize hws : w2'.setCell ⟨w1.heap.size + 1 + 1, 0, none⟩ (.slice A9 n9 c9) = ws at *
          clear hP hB hws hq hqs p0 p1 p2 p3 p4 r0 f0 s0 s1 s2 s3 hM hF GR HL1
          have GS : Hid (Grew w1 ws) := Lib.hid hM3.out.gr
          have s2 : w1.heap.size + 1 + 1 < ws.heap.size := hM3.out.lt
          have s1 : w1.heap.size ≤ ws.heap.size := by omega
          have s0 : w.heap.size < ws.heap.size := by omega
          obtain ⟨p0, p1, p2, p3, p4⟩ := A1.out.grew z0 GS.out
          have r1' := hM3.out.c1
          have f1 := hM3.out.f1
          have hky : k < ys.length := by have := NN.out; omega
          obtain ⟨bC, oC, rfl, hbC, hc⟩ := (HY.out _ (grew_trans G1.out GS.out)).2 (by omega)
          have hc1 := hc k (ys.getD k 0) (by simp [hky])
          have hfy := FX.out.2 (ys.getD k 0) (by rw [show ys.getD k 0 = ys[k] by simp [hky]]; exact List.getElem_mem _)
          have s3 : bC < ws.heap.size := by have := KK.out; omega
          have i4 : (k : Int) < (ys.length : Int) := by omega
          clear hc
          generalize ys.getD k 0 = y at *
          try simp only [List.append_eq, List.cons_append, List.nil_append]
          refine wp_region_any (by kernel_rfl) ?_
          refine wpAny_tail'' [48] [(48, W2 <| OneF ws.heap.size (cl .f32 y))] [0, 1, 2, 3, 4, 5, 6, 7] [8, 9, 10] (by kernel_rfl) (by kernel_rfl) (by kernel_rfl) (by kernel_rfl) (by kernel_rfl) (by kernel_rfl) (by kernel_rfl) (by kernel_rfl) (by simp) (by kernel_rfl) (by kernel_rfl) (by kernel_rfl) ?_
          simp only [picks, List.filterMap_cons, List.filterMap_nil, List.getElem?_cons_zero, List.getElem?_cons_succ]
          try go_simp
          repeat (first | (refine wpG_skip rfl ?_; try go_simp) | (refine wpG_want rfl (fun K hK => ?_); first | (refine gG_fbin rfl rfl _ _ _ rfl rfl rfl ?_; intro z hz hzw; go_simp; refine hK _ ?_; clear hK K) | (intro wq hq hp; obtain ⟨hqc, hqf⟩ := bcell hq; go_simp; first | (refine hK _ ?_; clear hK K; try clear hp; try clear hqc hqf; try clear hq; try clear wq) | (refine ⟨oneF_new (Below.size hq) rfl hfy, ?_⟩; refine hK _ ?_; clear hK K; try clear hp; try clear hqc hqf; try clear hq))))
          refine wpG_nil ?_
          intro wq hq hal hap
          obtain ⟨hqc, hqf⟩ := bcell hq
          have hqs := Below.size hq
          try simp at hqs
          clear hap
          have h48 := OneF.get (hal 48 (by simp)) (by simp [undef]) rfl
          obtain ⟨b1, r1, e1, hB1, hl1, hcell1, hcl1, hft1⟩ := h48
          simp at e1
          obtain rfl := e1
          have RQ := Lib.hid (hM3.out.r2.grew (Nat.le_refl _) hq)
          refine wpList_append_own_at _ rfl _ _ 23 rfl w1.heap.size 22 i (.float .f32 0) 1 4 Try.underlying23 HI.out HI0.out HI1.out HI2.out rfl (by decide) _ _ _ rfl RQ.out.1 ⟨_, 0, none⟩ 1 _ [.float .f32 r1] rfl rfl (one_news hcell1) (by simp [Value.oneCell']) (by have := hul.out; have := NN.out; unfold maxLen; omega) (by have := hul.out; have := NN.out; omega) (by omega) ?_
          rintro v' w2' hown hgr _ hat
          have hP := Lib.hid (mix_push2 hM3.out hq hown hgr hat hcl1)
          have hB := Lib.hid (hF3.out.keep (mix_same hM3.out hq hgr (.inr rfl)))
          clear hown hgr hat
          obtain ⟨A9, n9, c9, rfl⟩ := hP.out.1.r2.sl
          have c9' := hP.out.2.1
          have f9' := hP.out.2.2
          simp only [Act.put, List.setIfInBounds_toArray, List.set_cons_zero, List.set_cons_succ]
          go_wp2_with fail
          have hM4 := Lib.hid hP.out.1
          have hF4 := Lib.hid (hB.out.set 1 (by omega) (.slice A9 n9 c9))
          rw [← HL2.out] at hM4
          go_roundw
          case rel => exact ⟨k + 1, _, _, zs ++ [_], us ++ [_], by omega, by have e := HW.out; simp [e], by show (zs ++ [_]).length ≤ _; have := hzl.out; simp; omega, by show (us ++ [_]).length ≤ _; have := hul.out; simp; omega, ⟨hM4.out, hF4.out⟩⟩
          case measure =>
            have e := HW.out
            exact meas_less hlt e
      · obtain rfl : k = xs.length := by omega
        have D1 := Lib.hid (dropL_all xs j xs.length rfl)
        have D2 := Lib.hid (dropL_all ys j xs.length (by have := NN.out; omega))
        rw [D1.out, D2.out] at hM
        obtain ⟨a1, n1, m1, rfl⟩ := hM.out.r1.sl
        obtain ⟨a2, n2, m2, rfl⟩ := hM.out.r2.sl
        have r1 := hM.out.c1
        obtain ⟨q2, q3, q4⟩ := hF.out
        go_wp2_with fail
        have hRo : FarmAt wr w1.heap.size wr.heap.size (.agg #[.slice a1 n1 m1, .slice a2 n2 m2, .float .f32 r, .float .f32 d, .float .f32 s]) zs us r d s := ⟨_, _, rfl, hM.out.r1, hM.out.r2, hM.out.ap⟩
        have hGR : Grew w1 wr := hM.out.gr
        have hlo : w.heap.size + 1 + 1 ≤ w1.heap.size := by omega
        have hzs : zs.length ≤ 1048576 := by have := NN.out; have := hzl.out; omega
        have hus : us.length ≤ 1048576 := by have := NN.out; have := hul.out; omega
        have d1 := Lib.hid hM.out.d1
        have d2 := Lib.hid hM.out.d2
        have hbv : vFarm zs us r d s = BB := by rw [vFarm_D, d1.out, d2.out]; exact HB.out
        clear r0 r1 q2 q3 q4 f0 hM hF p0 p1 p2 p3 p4
        have hG := Lib.hid (grew_trans G1.out hGR)
        refine (c_l06Give _ _ _ _ _ r d s _ hRo (Nat.le_refl _) hzs hus).mono ?_
        rintro e w4 ⟨rfl, hg4⟩
        rw [hbv]
        have hRo4 := Lib.hid (hRo.grew (Nat.le_refl _) hg4)
        have hG4 := Lib.hid (grew_trans hG.out hg4)
        have R4 := Lib.hid ((R1.out.grew z1 hGR).grew (Nat.lt_of_lt_of_le z1 (Below.size hGR)) hg4)
        have hsz4 : wr.heap.size ≤ w4.heap.size := Below.size hg4
        have hw1 : w1.heap.size ≤ wr.heap.size := Below.size hGR
        have z4 : w.heap.size + 1 < w4.heap.size := by omega
        clear hg4 hRo hGR hbv
        obtain ⟨⟨b0, b1, b2, b3, b4⟩, bf⟩ := R4.out
        cases BB
        · simp only [Bool.false_eq_true, if_false, ZFM]
          go_wp2_with fail
          refine bodyPost_ret (v := .tuple #[ZFM, .bool false]) (by simp [results, Try.results23, go_sem, b0, b1, b2, b3, b4, ZFM]) rfl ?_
          have hr1 : (0 : Nat) = RR := H1.out
          have hr2 : (0 : Nat) = RD := H2.out
          have hr3 : (0 : Nat) = RS := H3.out
          rw [← hr1, ← hr2, ← hr3]
          exact ⟨_, [], [], rfl, farm_nil _ _ _, HD.out, HE.out, (by repeat (first | (with_reducible exact hG4.out) | (with_reducible exact grw_refl _) | (with_reducible refine grew_draw _ _ ?_) | (with_reducible refine grew_al ?_ _) | (with_reducible refine grew_set ?_ ?_; rotate_left; omega)))⟩
        · simp only [if_true]
          go_wp2_with fail
          have hst := st5_at R4.out.1 (.slice a1 n1 m1) (.slice a2 n2 m2) r d s
          have hW := st5_wrote w4 (w.heap.size + 1) (.slice a1 n1 m1) (.slice a2 n2 m2) r d s
          obtain ⟨X, Y, he, h1, h2, h3⟩ := hRo4.out
          have hz3 : w.heap.size ≤ w1.heap.size := by have := Below.size G1.out; omega
          have hG5 : Grew w (st5 w4 (w.heap.size + 1) (.slice a1 n1 m1) (.slice a2 n2 m2) r d s) := Wrote.below hG4.out hW (by have := Below.size hG4.out; omega) (by omega)
          have hsz5 : wr.heap.size ≤ (st5 w4 (w.heap.size + 1) (.slice a1 n1 m1) (.slice a2 n2 m2) r d s).heap.size := Nat.le_trans hsz4 hW.size
          have hRo5 : FarmAt (st5 w4 (w.heap.size + 1) (.slice a1 n1 m1) (.slice a2 n2 m2) r d s) w.heap.size _ (.agg #[.slice a1 n1 m1, .slice a2 n2 m2, .float .f32 r, .float .f32 d, .float .f32 s]) zs us r d s :=
            ⟨X, Y, he, (h1.wrote hsz4 hW (.inr (by omega))).mono hz3 hsz5, (h2.wrote hsz4 hW (.inr (by omega))).mono hz3 hsz5, h3⟩
          show bodyPost _ _ _ _ _ (st5 w4 (w.heap.size + 1) (.slice a1 n1 m1) (.slice a2 n2 m2) r d s)
          generalize (st5 w4 (w.heap.size + 1) (.slice a1 n1 m1) (.slice a2 n2 m2) r d s) = w5 at *
          obtain ⟨e0, e1, e2, e3, e4⟩ := hst
          refine bodyPost_ret (v := .tuple #[.agg #[.slice a1 n1 m1, .slice a2 n2 m2, .float .f32 r, .float .f32 d, .float .f32 s], .bool true]) (by simp [results, Try.results23, go_sem, e0, e1, e2, e3, e4]) rfl ?_
          have hr1 : r = RR := H1.out
          have hr2 : d = RD := H2.out
          have hr3 : s = RS := H3.out
          rw [← hr1, ← hr2, ← hr3]
          exact ⟨_, zs, us, rfl, hRo5, by first | exact d1.out.trans HD.out | exact HD.out, by first | exact d2.out.trans HE.out | exact HE.out, hG5⟩

end Go.Proofs.Ytlakmogclcpgdaa
