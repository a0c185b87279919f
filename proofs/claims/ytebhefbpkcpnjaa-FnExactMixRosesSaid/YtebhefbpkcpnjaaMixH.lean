/-
  CONTRACT: mixes of roses in the reference, where the roses fit.
-/
import Derived.Test.YtebhefbpkcpnjaaMixG
import Derived.Test.YtebhefbpkcpnjaaMixS
namespace Go.Proofs.Ytebhefbpkcpnjaa
open Go.RowKit Go.Flt
set_option linter.unusedVariables false
set_option maxRecDepth 100000
set_option linter.unusedSimpArgs false

set_option maxHeartbeats 4000000 in
theorem c_smixGood (A C A' C' : Option Addr) (n cA m cC n' cA' m' cC' K : Nat) (xs ys xs' ys' : List Nat) (s : Nat) (w : World) (hx : Fl w K A n xs) (hy : Fl w K C m ys) (hx' : Fl w K A' n' xs') (hy' : Fl w K C' m' ys') (hK : K ≤ w.heap.size) (k1 : vRose xs ys = true) (k2 : vRose xs' ys' = true) (k3 : ((xs.length : Int) != (xs'.length : Int)) = false) (k4 : fromTo (cl .f32 s) (cl .f32 0) (cl .f32 1065353216) = true) :
    Calls Try.prog 17 #[.agg #[.slice A n cA, .slice C m cC], .agg #[.slice A' n' cA', .slice C' m' cC'], .float .f32 s] w (RetR (if isMix xs ys xs' ys' s then mixL xs xs' s xs.length else []) (if isMix xs ys xs' ys' s then mixL ys ys' s xs.length else []) (isMix xs ys xs' ys' s) w) := by
  obtain rfl := hx.1
  obtain rfl := hy.1
  obtain rfl := hx'.1
  obtain rfl := hy'.1
  have HX := Lib.hid (fun w' h => Slc.grew (g := Value.float .f32) (w' := w') hx hK h)
  have HY := Lib.hid (fun w' h => Slc.grew (g := Value.float .f32) (w' := w') hy hK h)
  have HX' := Lib.hid (fun w' h => Slc.grew (g := Value.float .f32) (w' := w') hx' hK h)
  have HY' := Lib.hid (fun w' h => Slc.grew (g := Value.float .f32) (w' := w') hy' hK h)
  have V1 := Lib.hid (fun w' b hf (h : Grew w w') => c_l04Rose b A C _ cA _ cC K xs ys w' hf (HX.out w' h) (HY.out w' h))
  have V2 := Lib.hid (fun w' b hf (h : Grew w w') => c_l04Rose b A' C' _ cA' _ cC' K xs' ys' w' hf (HX'.out w' h) (HY'.out w' h))
  clear hx hy hx' hy'
  rw [k1] at V1
  rw [k2] at V2
  have hkk : okMix xs ys xs' ys' s = true ∧ xs.length = xs'.length := by
    have l3 : xs.length = xs'.length := by simp at k3; omega
    exact ⟨by simp [okMix, k1, k2, l3, k4], l3⟩
  have hk : isMix xs ys xs' ys' s = vRoseD (mixL xs xs' s xs.length) (mixL ys ys' s xs.length) := by unfold isMix; rw [hkk.1]; rfl
  rw [hk]
  generalize hB : vRoseD (mixL xs xs' s xs.length) (mixL ys ys' s xs.length) = BB
  generalize hD : (if BB then mixL xs xs' s xs.length else []) = DD
  generalize hE : (if BB then mixL ys ys' s xs.length else []) = EE
  have HB := Lib.hid hB
  have HD := Lib.hid hD
  have HE := Lib.hid hE
  clear hB hD hE
  have NN : Hid (1 ≤ xs.length ∧ xs.length ≤ 16 ∧ ys.length = xs.length ∧ xs'.length = xs.length ∧ ys'.length = xs.length) := by
    show _ ∧ _
    have V1l := k1
    rw [vRose_eq] at V1l
    have V2l := k2
    rw [vRose_eq] at V2l
    simp only [Bool.and_eq_true, decide_eq_true_eq] at V1l V2l
    have := hkk.2
    omega
  obtain ⟨i, hi, hz0, hz1, hz2⟩ := info_parts info_float32
  have HI := Lib.hid hi
  have HI0 := Lib.hid hz0
  have HI1 := Lib.hid hz1
  have HI2 := Lib.hid hz2
  clear hi hz0 hz1 hz2 hk hkk k1 k2
  go_enter Try.func17, Try.ntmps17
  go_wp2_with fail
  refine (V1.out _ _ (by refine ⟨?_, ?_⟩ <;> simp [go_sem]) (by (show Below _ _ _; (repeat (first | exact Below.refl _ _ | refine ext_below ?_ (by first | omega | (simp only [size_ext, heap_push, Array.size_push, World.heap_drewN]; omega) | (simp; omega)) _ _ | refine below_draws ?_ _ | refine Below.alloc ?_ (by first | omega | (simp; done) | (simp; omega)) _ | refine Below.setCell ?_ (by first | omega | (simp; done) | (simp; omega)) _ | refine below_then (by assumption) (by first | omega | (simp; done) | (simp; omega)) ?_))))).mono ?_
  rintro e w1 ⟨rfl, nq, rfl⟩
  go_wp2_with fail
  refine (V2.out _ _ (by refine ⟨?_, ?_⟩ <;> simp [go_sem]) (by (show Below _ _ _; (repeat (first | exact Below.refl _ _ | refine ext_below ?_ (by first | omega | (simp only [size_ext, heap_push, Array.size_push, World.heap_drewN]; omega) | (simp; omega)) _ _ | refine below_draws ?_ _ | refine Below.alloc ?_ (by first | omega | (simp; done) | (simp; omega)) _ | refine Below.setCell ?_ (by first | omega | (simp; done) | (simp; omega)) _ | refine below_then (by assumption) (by first | omega | (simp; done) | (simp; omega)) ?_))))).mono ?_
  rintro e w1 ⟨rfl, nq2, rfl⟩
  go_wp2_with fail
  refine (c_l04Share _ _).mono ?_
  rintro e w3 ⟨rfl, nq3, hw3⟩
  have G3 : Hid (Grew w w3) := by rw [hw3]; show Grew w _; (show Below _ _ _; (repeat (first | exact Below.refl _ _ | refine ext_below ?_ (by first | omega | (simp only [size_ext, heap_push, Array.size_push, World.heap_drewN]; omega) | (simp; omega)) _ _ | refine below_draws ?_ _ | refine Below.alloc ?_ (by first | omega | (simp; done) | (simp; omega)) _ | refine Below.setCell ?_ (by first | omega | (simp; done) | (simp; omega)) _ | refine below_then (by assumption) (by first | omega | (simp; done) | (simp; omega)) ?_)))
  have A3 : Hid (RoAt w3 w.heap.size (.slice A xs.length cA) (.slice C ys.length cC)) := by rw [hw3]; refine ⟨?_, ?_⟩ <;> simp [go_sem]
  have B3 : Hid (RoAt w3 (w.heap.size + 1) (.slice A' xs'.length cA') (.slice C' ys'.length cC')) := by rw [hw3]; refine ⟨?_, ?_⟩ <;> simp [go_sem]
  have R3 : Hid (BoxR w3 (w.heap.size + 1 + 1) (.slice none 0 0) (.slice none 0 0)) := by rw [hw3]; refine ⟨⟨?_, ?_⟩, ?_, ?_⟩ <;> simp [go_sem]
  have z3 : w.heap.size + 1 + 1 < w3.heap.size := by rw [hw3]; simp
  have y3 : w.heap.size < w3.heap.size := by omega
  have x3 : w.heap.size + 1 < w3.heap.size := by omega
  clear hw3
  obtain ⟨p0, p1⟩ := A3.out
  obtain ⟨q0, q1⟩ := B3.out
  go_wp2_with fail
  have m1 := row_made (g := Value.float .f32) (t := 23) w3 (grw_refl w3)
  have m2 := row_made (g := Value.float .f32) (t := 23) (w3.alloc (.cells #[] 23)) m1.2
  have M0 : Hid (MixAt w3 (((w3.alloc (.cells #[] 23)).alloc (.cells #[] 23)).alloc (.cells #[.slice (some ⟨w3.heap.size, 0, none⟩) 0 0, .slice (some ⟨w3.heap.size + 1, 0, none⟩) 0 0] 34)) w3.heap.size (w3.heap.size + 1 + 1) (.slice (some ⟨w3.heap.size, 0, none⟩) 0 0) (.slice (some ⟨w3.heap.size + 1, 0, none⟩) 0 0) [] [] [] []) :=
    { r1 := RowAt.mono ((m1.1.alloc _).alloc _) (Nat.le_refl _) (by simp), r2 := by have h := RowAt.mono (m2.1.alloc (.cells #[.slice (some ⟨w3.heap.size, 0, none⟩) 0 0, .slice (some ⟨w3.heap.size + 1, 0, none⟩) 0 0] 34)) (Nat.le_refl _) (hi' := w3.heap.size + 1 + 1 + 1) (by simp); simpa using h
      ap := fun k h e => by simp [Value.ownBlock] at h e; omega, n1 := by simp [Value.ownBlock]; omega, n2 := by simp [Value.ownBlock], c0 := by simp [go_sem], c1 := by simp [go_sem], f0 := by simp [go_sem], f1 := by simp [go_sem], d1 := rfl, d2 := rfl
      gr := grew_al m2.2 _, hb := by omega, hl := Nat.le_refl _, ll := by simp; omega, lt := by simp }
  clear m1 m2
  clear p0 p1 q0 q1
  go_loopw [9] (fun i wr => ∃ (k : Nat) (v1 v2 : Value) (zs us : List Nat), k ≤ xs.length ∧ i = .int .i64 k ∧ Hid (zs.length = k) ∧ Hid (us.length = k) ∧ Hid (MixAt w3 wr w3.heap.size (w3.heap.size + 1 + 1) v1 v2 zs us (mixL xs xs' s k) (mixL ys ys' s k))) (fun i _ => xs.length - (intOf i).toNat)
  case atStart => exact ⟨0, _, _, [], [], Nat.zero_le _, rfl, rfl, rfl, M0⟩
  case round =>
    obtain ⟨k, v1, v2, zs, us, hk, rfl, hzl, hul, hM⟩ := hrel
    have hgr : Grew w3 wr := hM.out.gr
    have s2 : w3.heap.size + 1 + 1 < wr.heap.size := hM.out.lt
    have s0 : w.heap.size < wr.heap.size := by omega
    have s1 : w.heap.size + 1 < wr.heap.size := by omega
    have GR := Lib.hid hgr
    obtain ⟨p0, p1⟩ := A3.out.grew y3 hgr
    obtain ⟨q0, q1⟩ := B3.out.grew x3 hgr
    have r0 := hM.out.c0
    have f0 := hM.out.f0
    clear hgr
    by_cases hlt : k < xs.length
    · obtain ⟨bx, ox, rfl, hbx, hc⟩ := (HX.out _ (grew_trans G3.out GR.out)).2 (by omega)
      obtain ⟨bz, oz, rfl, hbz, hc'⟩ := (HX'.out _ (grew_trans G3.out GR.out)).2 (by have := NN.out; omega)
      have hc1 := hc k (xs.getD k 0) (by simp [hlt])
      have hc2 := hc' k (xs'.getD k 0) (by simp [show k < xs'.length by have := NN.out; omega])
      clear hc hc'
      have i3 : (0 : Int) ≤ (k : Int) := by omega
      have i4 : (k : Int) < (xs.length : Int) := by omega
      have i5 : (k : Int) < (xs'.length : Int) := by have := NN.out; omega
      have i6 : IntKind.i64.wrap (k : Int) = (k : Int) := by rw [IntKind.wrap_i64]; have := NN.out; omega
      have HW := Lib.hid (show wrap64 ((k : Int) + 1) = (k : Int) + 1 by have := NN.out; unfold wrap64; omega)
      have s3 : bx < wr.heap.size := by omega
      have s4 : bz < wr.heap.size := by omega
      have HL1 := Lib.hid (mixL_succ xs xs' s k)
      have HL2 := Lib.hid (mixL_succ ys ys' s k)
      generalize hxk : xs.getD k 0 = x at *
      generalize hzk : xs'.getD k 0 = z0 at *
      clear hxk hzk
      go_wp2_with fail
      try simp only [List.append_eq, List.cons_append, List.nil_append]
      refine wp_region_any (by kernel_rfl) ?_
      refine wpAny_tail'' [62] [(62, OneF wr.heap.size (mixD (cl .f32 x) (cl .f32 z0) (cl .f32 s)))] [0, 1, 2, 3, 4, 5, 6, 7, 8, 9, 10, 11, 12, 13, 14, 15, 16, 17, 18, 19, 20, 21] [22, 23, 24] (by kernel_rfl) (by kernel_rfl) (by kernel_rfl) (by kernel_rfl) (by kernel_rfl) (by kernel_rfl) (by kernel_rfl) (by kernel_rfl) (by simp) (by kernel_rfl) (by kernel_rfl) (by kernel_rfl) ?_
      simp only [picks, List.filterMap_cons, List.filterMap_nil, List.getElem?_cons_zero, List.getElem?_cons_succ]
      try go_simp
      repeat (first | (refine wpG_skip rfl ?_; try go_simp) | (refine wpG_want rfl (fun K hK => ?_); first | (refine gG_fbin rfl rfl _ _ _ rfl rfl rfl ?_; intro z hz hzw; go_simp; refine hK _ ?_; clear hK K) | (intro wq hq hp; obtain ⟨hqc, hqf⟩ := bcell hq; go_simp; first | (refine hK _ ?_; clear hK K; try clear hp; try clear hqc hqf; try clear hq; try clear wq) | (refine ⟨oneF_new (Below.size hq) (by unfold mixD; simp only [*]) (by assumption), ?_⟩; refine hK _ ?_; clear hK K; try clear hp; try clear hqc hqf; try clear hq))))
      refine wpG_nil ?_
      intro wq hq hal
      obtain ⟨hqc, hqf⟩ := bcell hq
      have hqs := Below.size hq
      try simp at hqs
      have h54 := OneF.get (hal 62 (by simp)) (by simp [undef]) rfl
      obtain ⟨b1, r1, e1, hB1, hl1, hcell1, hcl1, hft1⟩ := h54
      simp at e1
      obtain rfl := e1
      have RQ := Lib.hid (hM.out.r1.grew (Nat.le_refl _) hq)
      refine wpList_append_own_at _ rfl _ _ 22 rfl w3.heap.size 23 i (.float .f32 0) 1 4 Try.underlying22 HI.out HI0.out HI1.out HI2.out rfl (by decide) _ _ _ rfl RQ.out.1 ⟨_, 0, none⟩ 1 _ [.float .f32 r1] rfl rfl (one_news hcell1) (by simp [Value.oneCell']) (by have := hzl.out; have := NN.out; unfold maxLen; omega) (by have := hzl.out; have := NN.out; omega) (by omega) ?_
      rintro v' w2' hown hgr _ hat
      have hP := Lib.hid (mix_push1 hM.out hq hown hgr hat hcl1)
      clear hown hgr hat
      obtain ⟨A9, n9, c9, rfl⟩ := hP.out.1.r1.sl
      have c9' := hP.out.2.1
      have f9' := hP.out.2.2
      simp only [Act.put, List.setIfInBounds_toArray, List.set_cons_zero, List.set_cons_succ]
      go_wp2_with fail
      clear c9' f9' RQ hcell1 hqc hqf hal hc1 hc2
      have hM2 := Lib.hid hP.out.1
      rw [← HL1.out] at hM2
      generalize hws : w2'.setCell ⟨w3.heap.size + 1 + 1, 0, none⟩ (.slice A9 n9 c9) = ws at *
      have hM3 := hM2
      clear hM2 hP hws hq hqs p0 p1 q0 q1 r0 f0 s0 s1 s2 s3 s4 hM GR HL1
      have hgr : Grew w3 ws := hM3.out.gr
      have s2 : w3.heap.size + 1 + 1 < ws.heap.size := hM3.out.lt
      have s0 : w.heap.size < ws.heap.size := by omega
      have s1 : w.heap.size + 1 < ws.heap.size := by omega
      obtain ⟨p0, p1⟩ := A3.out.grew y3 hgr
      obtain ⟨q0, q1⟩ := B3.out.grew x3 hgr
      have r1' := hM3.out.c1
      have f1 := hM3.out.f1
      obtain ⟨by1, oy, rfl, hby, hc⟩ := (HY.out _ (grew_trans G3.out hgr)).2 (by have := NN.out; omega)
      obtain ⟨by2, oy2, rfl, hby2, hc'⟩ := (HY'.out _ (grew_trans G3.out hgr)).2 (by have := NN.out; omega)
      have hc1 := hc k (ys.getD k 0) (by simp [show k < ys.length by have := NN.out; omega])
      have hc2 := hc' k (ys'.getD k 0) (by simp [show k < ys'.length by have := NN.out; omega])
      clear hc hc' hgr
      have i4 : (k : Int) < (ys.length : Int) := by have := NN.out; omega
      have i5 : (k : Int) < (ys'.length : Int) := by have := NN.out; omega
      have s3 : by1 < ws.heap.size := by omega
      have s4 : by2 < ws.heap.size := by omega
      generalize hyk : ys.getD k 0 = y at *
      generalize huk : ys'.getD k 0 = u0 at *
      clear hyk huk
      try simp only [List.append_eq, List.cons_append, List.nil_append]
      refine wp_region_any (by kernel_rfl) ?_
      refine wpAny_tail'' [86] [(86, OneF ws.heap.size (mixD (cl .f32 y) (cl .f32 u0) (cl .f32 s)))] [0, 1, 2, 3, 4, 5, 6, 7, 8, 9, 10, 11, 12, 13, 14, 15, 16, 17, 18, 19, 20, 21] [22, 23, 24] (by kernel_rfl) (by kernel_rfl) (by kernel_rfl) (by kernel_rfl) (by kernel_rfl) (by kernel_rfl) (by kernel_rfl) (by kernel_rfl) (by simp) (by kernel_rfl) (by kernel_rfl) (by kernel_rfl) ?_
      simp only [picks, List.filterMap_cons, List.filterMap_nil, List.getElem?_cons_zero, List.getElem?_cons_succ]
      try go_simp
      repeat (first | (refine wpG_skip rfl ?_; try go_simp) | (refine wpG_want rfl (fun K hK => ?_); first | (refine gG_fbin rfl rfl _ _ _ rfl rfl rfl ?_; intro z hz hzw; go_simp; refine hK _ ?_; clear hK K) | (intro wq hq hp; obtain ⟨hqc, hqf⟩ := bcell hq; go_simp; first | (refine hK _ ?_; clear hK K; try clear hp; try clear hqc hqf; try clear hq; try clear wq) | (refine ⟨oneF_new (Below.size hq) (by unfold mixD; simp only [*]) (by assumption), ?_⟩; refine hK _ ?_; clear hK K; try clear hp; try clear hqc hqf; try clear hq))))
      refine wpG_nil ?_
      intro wq hq hal
      obtain ⟨hqc, hqf⟩ := bcell hq
      have hqs := Below.size hq
      try simp at hqs
      have h71 := OneF.get (hal 86 (by simp)) (by simp [undef]) rfl
      obtain ⟨b1, r1, e1, hB1, hl1, hcell1, hcl1, hft1⟩ := h71
      simp at e1
      obtain rfl := e1
      have RQ := Lib.hid (hM3.out.r2.grew (Nat.le_refl _) hq)
      refine wpList_append_own_at _ rfl _ _ 22 rfl w3.heap.size 23 i (.float .f32 0) 1 4 Try.underlying22 HI.out HI0.out HI1.out HI2.out rfl (by decide) _ _ _ rfl RQ.out.1 ⟨_, 0, none⟩ 1 _ [.float .f32 r1] rfl rfl (one_news hcell1) (by simp [Value.oneCell']) (by have := hul.out; have := NN.out; unfold maxLen; omega) (by have := hul.out; have := NN.out; omega) (by omega) ?_
      rintro v' w2' hown hgr _ hat
      have hP := Lib.hid (mix_push2 hM3.out hq hown hgr hat hcl1)
      clear hown hgr hat
      obtain ⟨A9, n9, c9, rfl⟩ := hP.out.1.r2.sl
      have c9' := hP.out.2.1
      have f9' := hP.out.2.2
      simp only [Act.put, List.setIfInBounds_toArray, List.set_cons_zero, List.set_cons_succ]
      go_wp2_with fail
      clear c9' f9' RQ hcell1 hqc hqf hal hc1 hc2
      have hM4 := Lib.hid hP.out.1
      rw [← HL2.out] at hM4
      go_roundw
      case rel => exact ⟨k + 1, _, _, zs ++ [_], us ++ [_], by have := NN.out; omega, by have e := HW.out; simp [e], by show (zs ++ [_]).length = _; simp [hzl.out], by show (us ++ [_]).length = _; simp [hul.out], hM4⟩
      case measure =>
        have e := HW.out
        have hkx : k < xs.length := by have := NN.out; omega
        exact meas_less hkx e
    · have hlk : k = xs.length := by omega
      subst hlk
      have i4 : ¬ (xs.length : Int) < (xs.length : Int) := by omega
      have r1 := hM.out.c1
      go_wp2_with fail
      have hRo : RoseAt wr w3.heap.size wr.heap.size (.agg #[v1, v2]) zs us := ⟨_, _, rfl, hM.out.r1, hM.out.r2, hM.out.ap⟩
      have hzs : zs.length ≤ 1048576 := by have := NN.out; have := hzl.out; omega
      have hus : us.length ≤ 1048576 := by have := NN.out; have := hul.out; omega
      have hG := Lib.hid (grew_trans G3.out hM.out.gr)
      have hbv : vRose zs us = BB := by rw [← HB.out, ← hM.out.d1, ← hM.out.d2]; rfl
      have d1 := Lib.hid hM.out.d1
      have d2 := Lib.hid hM.out.d2
      obtain ⟨a1, n1, m1, rfl⟩ := hM.out.r1.sl
      obtain ⟨a2, n2, m2, rfl⟩ := hM.out.r2.sl
      refine (c_l04Give _ _ _ _ _ _ hRo (Nat.le_refl _)).mono ?_
      rintro e w4 ⟨rfl, hg4⟩
      rw [hbv]
      have hRo4 := Lib.hid (hRo.grew (Nat.le_refl _) hg4)
      have hG4 := Lib.hid (grew_trans hG.out hg4)
      have R4 := Lib.hid ((R3.out.grew z3 hM.out.gr).grew (by omega) hg4)
      have z4 : w.heap.size + 1 + 1 < w4.heap.size := by have := Below.size hg4; omega
      have hg4' := Lib.hid hg4
      clear hg4 hRo hM p0 p1 q0 q1 r0 r1 f0 hbv
      obtain ⟨⟨b0, b1⟩, b2, b3⟩ := R4.out
      cases BB
      · simp only [Bool.false_eq_true, if_false, ZRO]
        go_wp2_with fail
        refine bodyPost_ret (v := .tuple #[ZRO, .bool false]) (by simp [results, Try.results17, go_sem, b0, b1, ZRO]) rfl ?_
        exact ⟨_, [], [], rfl, rose_nil _ _ _, HD.out, HE.out, (by repeat (first | (with_reducible exact hG4.out) | (with_reducible exact grw_refl _) | (with_reducible refine grew_draw _ _ ?_) | (with_reducible refine grew_al ?_ _) | (with_reducible refine grew_set ?_ ?_; rotate_left; omega)))⟩
      · simp only [if_true]
        go_wp2_with fail
        have hne : w.heap.size + 1 + 1 + 1 ≤ w3.heap.size := by omega
        have e0 := (cell_set_other _ _ 1 0 (.slice a2 n2 m2) (by omega)).trans (cell_set_own _ _ 0 (.slice a1 n1 m1) _ b0)
        have e1 := cell_set_own _ _ 1 (.slice a2 n2 m2) _ ((cell_set_other _ _ 0 1 (.slice a1 n1 m1) (by omega)).trans b1)
        have hW : Wrote (w.heap.size + 1 + 1) (w.heap.size + 1 + 1 + 1) w4 ((w4.setCell ⟨w.heap.size + 1 + 1, 0, none⟩ (.slice a1 n1 m1)).setCell ⟨w.heap.size + 1 + 1, 1, none⟩ (.slice a2 n2 m2)) := (Wrote.of_outside (outside_set _ _ _ _)).trans (Wrote.of_outside (outside_set _ _ _ _))
        obtain ⟨X, Y, he, h1, h2, h3⟩ := hRo4.out
        have hsz4 : wr.heap.size ≤ w4.heap.size := by have := Below.size hg4'.out; exact this
        have hz3 : w.heap.size ≤ w3.heap.size := by omega
        have hG5 : Grew w ((w4.setCell ⟨w.heap.size + 1 + 1, 0, none⟩ (.slice a1 n1 m1)).setCell ⟨w.heap.size + 1 + 1, 1, none⟩ (.slice a2 n2 m2)) := grew_set (grew_set hG4.out (by omega)) (by omega)
        have hsz5 : wr.heap.size ≤ ((w4.setCell ⟨w.heap.size + 1 + 1, 0, none⟩ (.slice a1 n1 m1)).setCell ⟨w.heap.size + 1 + 1, 1, none⟩ (.slice a2 n2 m2)).heap.size := Nat.le_trans hsz4 hW.size
        have hRo5 : RoseAt ((w4.setCell ⟨w.heap.size + 1 + 1, 0, none⟩ (.slice a1 n1 m1)).setCell ⟨w.heap.size + 1 + 1, 1, none⟩ (.slice a2 n2 m2)) w.heap.size _ (.agg #[.slice a1 n1 m1, .slice a2 n2 m2]) zs us :=
          ⟨X, Y, he, (h1.wrote hsz4 hW (.inr (by omega))).mono hz3 hsz5, (h2.wrote hsz4 hW (.inr (by omega))).mono hz3 hsz5, h3⟩
        generalize (w4.setCell ⟨w.heap.size + 1 + 1, 0, none⟩ (.slice a1 n1 m1)).setCell ⟨w.heap.size + 1 + 1, 1, none⟩ (.slice a2 n2 m2) = w5 at *
        refine bodyPost_ret (v := .tuple #[.agg #[.slice a1 n1 m1, .slice a2 n2 m2], .bool true]) (by simp [results, Try.results17, go_sem, e0, e1]) rfl ?_
        exact ⟨_, zs, us, rfl, hRo5, d1.out.trans HD.out, d2.out.trans HE.out, hG5⟩



end Go.Proofs.Ytebhefbpkcpnjaa
