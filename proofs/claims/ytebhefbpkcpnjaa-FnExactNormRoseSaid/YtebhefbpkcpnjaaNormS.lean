/-
  CONTRACT: the rose with shares that sum to one, in the reference.
-/
import Derived.Test.YtebhefbpkcpnjaaNorm
namespace Go.Proofs.Ytebhefbpkcpnjaa
open Go.RowKit Go.Flt
set_option linter.unusedVariables false
set_option maxRecDepth 100000
set_option linter.unusedSimpArgs false

set_option maxHeartbeats 4000000 in
theorem c_snormBad1 (A C : Option Addr) (n cA m cC K0 : Nat) (xs ys : List Nat) (w : World) (hx : Fl w K0 A n xs) (hy : Fl w K0 C m ys) (hK : K0 ≤ w.heap.size) (k1 : vRose xs ys = false) :
    Calls Try.prog 25 #[.agg #[.slice A n cA, .slice C m cC]] w (RetR [] [] false w) := by
  obtain rfl := hx.1
  obtain rfl := hy.1
  have V1 := Lib.hid (fun w' b hf (h : Grew w w') => c_l04Rose b A C _ cA _ cC K0 xs ys w' hf (Slc.grew (g := Value.float .f32) hx hK h) (Slc.grew (g := Value.float .f32) hy hK h))
  clear hx hy
  rw [k1] at V1
  go_enter Try.func25, Try.ntmps25
  go_wp2_with fail
  refine (V1.out _ _ (by refine ⟨?_, ?_⟩ <;> simp [go_sem]) (by (show Below _ _ _; (repeat (first | exact Below.refl _ _ | refine ext_below ?_ (by first | omega | (simp only [size_ext, heap_push, Array.size_push, World.heap_drewN]; omega) | (simp; omega)) _ _ | refine below_draws ?_ _ | refine Below.alloc ?_ (by first | omega | (simp; done) | (simp; omega)) _ | refine Below.setCell ?_ (by first | omega | (simp; done) | (simp; omega)) _ | refine below_then (by assumption) (by first | omega | (simp; done) | (simp; omega)) ?_))))).mono ?_
  rintro e w1 ⟨rfl, nq, rfl⟩
  go_wp2_with fail
  refine bodyPost_ret (v := .tuple #[ZRO, .bool false]) (by simp [results, Try.results25, go_sem, ZRO]) rfl ?_
  exact ⟨_, [], [], rfl, rose_nil _ _ _, rfl, rfl, by (show Below _ _ _; (repeat (first | exact Below.refl _ _ | refine ext_below ?_ (by first | omega | (simp only [size_ext, heap_push, Array.size_push, World.heap_drewN]; omega) | (simp; omega)) _ _ | refine below_draws ?_ _ | refine Below.alloc ?_ (by first | omega | (simp; done) | (simp; omega)) _ | refine Below.setCell ?_ (by first | omega | (simp; done) | (simp; omega)) _ | refine below_then (by assumption) (by first | omega | (simp; done) | (simp; omega)) ?_)))⟩

set_option maxHeartbeats 4000000 in
theorem c_snormGood (A C : Option Addr) (n cA m cC K0 : Nat) (xs ys : List Nat) (w : World) (hx : Fl w K0 A n xs) (hy : Fl w K0 C m ys) (hK : K0 ≤ w.heap.size) (k1 : vRose xs ys = true) :
    Calls Try.prog 25 #[.agg #[.slice A n cA, .slice C m cC]] w (RetR (if isNorm xs ys then quoL xs (sumTo xs xs.length) xs.length else []) (if isNorm xs ys then ys.map (cl .f32) else []) (isNorm xs ys) w) := by
  obtain rfl := hx.1
  obtain rfl := hy.1
  have HX := Lib.hid (fun w' h => Slc.grew (g := Value.float .f32) (w' := w') hx hK h)
  have HY := Lib.hid (fun w' h => Slc.grew (g := Value.float .f32) (w' := w') hy hK h)
  have V1 := Lib.hid (fun w' b hf (h : Grew w w') => c_l04Rose b A C _ cA _ cC K0 xs ys w' hf (HX.out w' h) (HY.out w' h))
  have NN : Hid (1 ≤ xs.length ∧ xs.length ≤ 16 ∧ ys.length = xs.length) := by
    show _ ∧ _
    have V1l := k1
    rw [vRose_eq] at V1l
    simp only [Bool.and_eq_true, decide_eq_true_eq] at V1l
    omega
  have V2 := Lib.hid (fun w' b hf (h : Grew w w') => c_l04Shares b A C _ cA ys.length cC K0 xs ys w' hf (HX.out w' h) (by have := NN.out; unfold maxLen; omega))
  have hk : isNorm xs ys = (flt (cl .f32 0) (sumTo xs xs.length) && vRoseD (quoL xs (sumTo xs xs.length) xs.length) (ys.map (cl .f32))) := by unfold isNorm okNorm; rw [k1]; rfl
  rw [hk]
  rw [k1] at V1
  generalize hS : sumTo xs xs.length = S at V2 ⊢
  have HS := Lib.hid hS
  clear hS
  generalize hF : flt (cl .f32 0) S = FF
  generalize hB : vRoseD (quoL xs S xs.length) (ys.map (cl .f32)) = BB
  generalize hD : (if (FF && BB) then quoL xs S xs.length else []) = DD
  generalize hE : (if (FF && BB) then ys.map (cl .f32) else []) = EE
  have HF := Lib.hid hF
  have HB := Lib.hid hB
  have HD := Lib.hid hD
  have HE := Lib.hid hE
  obtain ⟨i, hi, hz0, hz1, hz2⟩ := info_parts info_float32
  have HI := Lib.hid hi
  have HI0 := Lib.hid hz0
  have HI1 := Lib.hid hz1
  have HI2 := Lib.hid hz2
  have KK := Lib.hid hK
  clear hx hy hF hB hD hE hk k1 hi hz0 hz1 hz2 hK
  go_enter Try.func25, Try.ntmps25
  go_wp2_with fail
  refine (V1.out _ _ (by refine ⟨?_, ?_⟩ <;> simp [go_sem]) (by (show Below _ _ _; (repeat (first | exact Below.refl _ _ | refine ext_below ?_ (by first | omega | (simp only [size_ext, heap_push, Array.size_push, World.heap_drewN]; omega) | (simp; omega)) _ _ | refine below_draws ?_ _ | refine Below.alloc ?_ (by first | omega | (simp; done) | (simp; omega)) _ | refine Below.setCell ?_ (by first | omega | (simp; done) | (simp; omega)) _ | refine below_then (by assumption) (by first | omega | (simp; done) | (simp; omega)) ?_))))).mono ?_
  rintro e w1 ⟨rfl, nq, rfl⟩
  go_wp2_with fail
  refine (V2.out _ _ (by refine ⟨?_, ?_⟩ <;> simp [go_sem]) (by (show Below _ _ _; (repeat (first | exact Below.refl _ _ | refine ext_below ?_ (by first | omega | (simp only [size_ext, heap_push, Array.size_push, World.heap_drewN]; omega) | (simp; omega)) _ _ | refine below_draws ?_ _ | refine Below.alloc ?_ (by first | omega | (simp; done) | (simp; omega)) _ | refine Below.setCell ?_ (by first | omega | (simp; done) | (simp; omega)) _ | refine below_then (by assumption) (by first | omega | (simp; done) | (simp; omega)) ?_))))).mono ?_
  rintro e w1 ⟨r, rfl, hr, hrf, nq2, hw1⟩
  have G1 : Hid (Grew w w1) := by rw [hw1]; show Grew w _; (show Below _ _ _; (repeat (first | exact Below.refl _ _ | refine ext_below ?_ (by first | omega | (simp only [size_ext, heap_push, Array.size_push, World.heap_drewN]; omega) | (simp; omega)) _ _ | refine below_draws ?_ _ | refine Below.alloc ?_ (by first | omega | (simp; done) | (simp; omega)) _ | refine Below.setCell ?_ (by first | omega | (simp; done) | (simp; omega)) _ | refine below_then (by assumption) (by first | omega | (simp; done) | (simp; omega)) ?_)))
  have A1 : Hid (RoAt w1 w.heap.size (.slice A xs.length cA) (.slice C ys.length cC)) := by rw [hw1]; refine ⟨?_, ?_⟩ <;> simp [go_sem]
  have R1 : Hid (BoxR w1 (w.heap.size + 1) (.slice none 0 0) (.slice none 0 0)) := by rw [hw1]; refine ⟨⟨?_, ?_⟩, ?_, ?_⟩ <;> simp [go_sem]
  have z1 : w.heap.size + 1 < w1.heap.size := by rw [hw1]; simp
  have z0 : w.heap.size < w1.heap.size := by omega
  clear hw1 V1 V2
  have hR := Lib.hid hr
  have hfl : flt (cl .f32 0) (cl .f32 r) = FF := by rw [hR.out]; exact HF.out
  clear hr
  cases FF
  · obtain ⟨⟨r0, r1⟩, r2, r3⟩ := R1.out
    go_wp2_with fail
    refine bodyPost_ret (v := .tuple #[ZRO, .bool false]) (by simp [results, Try.results25, go_sem, r0, r1, ZRO]) rfl ?_
    exact ⟨_, [], [], rfl, rose_nil _ _ _, HD.out, HE.out, (by repeat (first | (with_reducible exact G1.out) | (with_reducible exact grw_refl _) | (with_reducible refine grew_draw _ _ ?_) | (with_reducible refine grew_al ?_ _) | (with_reducible refine grew_set ?_ ?_; rotate_left; omega)))⟩
  · obtain ⟨p0, p1⟩ := A1.out
    obtain ⟨bC, oC, rfl, hbC, _⟩ := (HY.out _ G1.out).2 (by have := NN.out; omega)
    have m1 := row_made (g := Value.float .f32) (t := 23) w1 (grw_refl w1)
    have m2 := row_made (g := Value.float .f32) (t := 23) (w1.alloc (.cells #[] 23)) m1.2
    have M1 := Lib.hid (m1.1.alloc (.cells #[] 23))
    have M2 : Hid (FRow ((w1.alloc (.cells #[] 23)).alloc (.cells #[] 23)) w1.heap.size (w1.heap.size + 1 + 1) (.slice (some ⟨w1.heap.size + 1, 0, none⟩) 0 0) []) := by have h := m2.1; rw [size_al] at h; exact h
    have MG := Lib.hid m2.2
    have HC := Lib.hid (fun w' hg => fl_cells (HY.out w' (grew_trans G1.out hg)))
    clear m1 m2
    go_wp2_with (at_builtin; (refine wpList_append_own_at _ rfl _ _ 22 rfl w1.heap.size 23 i (.float .f32 0) 1 4 Try.underlying22 HI.out HI0.out HI1.out HI2.out rfl (by decide) (.slice (some ⟨w1.heap.size + 1, 0, none⟩) 0 0) 0 [] rfl M2.out.1 ⟨bC, oC, none⟩ ys.length _ (ys.map (Value.float .f32)) rfl (by simp) (HC.out _ MG.out) (one_cells ys) (by have := NN.out; unfold maxLen; omega) (by have := NN.out; omega) (by simp <;> omega) ?_; rintro v2 w2 hown hgr _ hat; have hra := Lib.hid (row_app2 (xs := []) (rs := ys) (RowAt.mono M2.out (Nat.le_refl _) (by simp)) (RowAt.mono M1.out (Nat.le_refl _) (by simp <;> omega)) (fun k h e => by simp [Value.ownBlock] at h e <;> omega) (by simp <;> omega) (by simpa using hown) hgr hat); clear hown hgr hat; obtain ⟨A2, n2, c2, rfl⟩ := hra.out.1.sl))
    have hg2 := Lib.hid (grew_trans' MG.out hra.out.2.2.2 (Nat.le_refl _))
    have M0 := Lib.hid (mix_boxed (w0 := w1) (lo := w1.heap.size) (zs := []) (us := ys) hra.out.2.1 hra.out.1 (fun k h1 h2 => hra.out.2.2.1 k h2 h1) (Nat.le_refl _) (Below.size hg2.out) hg2.out)
    have hb2 : w1.heap.size ≤ w2.heap.size := Below.size hg2.out
    generalize hbx : w2.heap.size = bx at *
    clear hra hg2 M1 M2 MG HC p0 p1 hbC
    go_loopw [6] (fun i wr => ∃ (k : Nat) (v1 : Value) (zs : List Nat), k ≤ xs.length ∧ i = .int .i64 k ∧ Hid (zs.length = k) ∧ Hid (MixAt w1 wr w1.heap.size bx v1 (.slice A2 n2 c2) zs ys (quoL xs S k) (ys.map (cl .f32)))) (fun i _ => xs.length - (intOf i).toNat)
    case atStart => exact ⟨0, _, [], Nat.zero_le _, rfl, rfl, M0⟩
    case round =>
      obtain ⟨k, v1, zs, hk, rfl, hzl, hM⟩ := hrel
      have hgr : Grew w1 wr := hM.out.gr
      have s2 : bx < wr.heap.size := hM.out.lt
      have s1 : w1.heap.size ≤ wr.heap.size := Below.size hgr
      have s0 : w.heap.size < wr.heap.size := by omega
      have GR := Lib.hid hgr
      obtain ⟨p0, p1⟩ := A1.out.grew z0 hgr
      have r0 := hM.out.c0
      have f0 := hM.out.f0
      clear hgr
      by_cases hlt : k < xs.length
      · obtain ⟨bx1, ox, rfl, hbx1, hc⟩ := (HX.out _ (grew_trans G1.out GR.out)).2 (by omega)
        have hc1 := hc k (xs.getD k 0) (by simp [hlt])
        clear hc
        have i3 : (0 : Int) ≤ (k : Int) := by omega
        have i4 : (k : Int) < (xs.length : Int) := by omega
        have i6 : IntKind.i64.wrap (k : Int) = (k : Int) := by rw [IntKind.wrap_i64]; have := NN.out; omega
        have HW := Lib.hid (show wrap64 ((k : Int) + 1) = (k : Int) + 1 by have := NN.out; unfold wrap64; omega)
        have s3 : bx1 < wr.heap.size := by have := KK.out; omega
        have HL1 := Lib.hid (quoL_succ xs S k)
        generalize hxk : xs.getD k 0 = x at *
        clear hxk
        have HQ := Lib.hid (fun z (hz : cl .f32 z = fop .quo .f32 (cl .f32 x) (cl .f32 r)) => hz.trans (by rw [hR.out] : _ = fop .quo .f32 (cl .f32 x) S))
        go_wp2_with fail
        try simp only [List.append_eq, List.cons_append, List.nil_append]
        refine wp_region_any (by kernel_rfl) ?_
        refine wpAny_tail'' [37] [(37, W2 <| OneF wr.heap.size (fop .quo .f32 (cl .f32 x) S))] [0, 1, 2, 3, 4, 5, 6, 7, 8, 9] [10, 11, 12] (by kernel_rfl) (by kernel_rfl) (by kernel_rfl) (by kernel_rfl) (by kernel_rfl) (by kernel_rfl) (by kernel_rfl) (by kernel_rfl) (by simp) (by kernel_rfl) (by kernel_rfl) (by kernel_rfl) ?_
        simp only [picks, List.filterMap_cons, List.filterMap_nil, List.getElem?_cons_zero, List.getElem?_cons_succ]
        try go_simp
        repeat (first | (refine wpG_skip rfl ?_; try go_simp) | (refine wpG_want rfl (fun K hK => ?_); first | (refine gG_fbin rfl rfl _ _ _ rfl rfl rfl ?_; intro z hz hzw; go_simp; refine hK _ ?_; clear hK K) | (intro wq hq hp; obtain ⟨hqc, hqf⟩ := bcell hq; go_simp; first | (refine hK _ ?_; clear hK K; try clear hp; try clear hqc hqf; try clear hq; try clear wq) | (refine ⟨oneF_new (Below.size hq) (HQ.out _ (by assumption)) (by assumption), ?_⟩; refine hK _ ?_; clear hK K; try clear hp; try clear hqc hqf; try clear hq))))
        refine wpG_nil ?_
        intro wq hq hal hap
        obtain ⟨hqc, hqf⟩ := bcell hq
        have hqs := Below.size hq
        try simp at hqs
        clear hap
        have h54 := OneF.get (hal 37 (by simp)) (by simp [undef]) rfl
        obtain ⟨b1, r1, e1, hB1, hl1, hcell1, hcl1, hft1⟩ := h54
        simp at e1
        obtain rfl := e1
        have RQ := Lib.hid (hM.out.r1.grew (Nat.le_refl _) hq)
        refine wpList_append_own_at _ rfl _ _ 22 rfl w1.heap.size 23 i (.float .f32 0) 1 4 Try.underlying22 HI.out HI0.out HI1.out HI2.out rfl (by decide) _ _ _ rfl RQ.out.1 ⟨_, 0, none⟩ 1 _ [.float .f32 r1] rfl rfl (one_news hcell1) (by simp [Value.oneCell']) (by have := hzl.out; have := NN.out; unfold maxLen; omega) (by have := hzl.out; have := NN.out; omega) (by omega) ?_
        rintro v' w2' hown hgr _ hat
        have hP := Lib.hid (mix_push1 hM.out hq hown hgr hat hcl1)
        clear hown hgr hat
        obtain ⟨A9, n9, c9, rfl⟩ := hP.out.1.r1.sl
        have c9' := hP.out.2.1
        have f9' := hP.out.2.2
        simp only [Act.put, List.setIfInBounds_toArray, List.set_cons_zero, List.set_cons_succ]
        go_wp2_with fail
        clear c9' f9' RQ hcell1 hqc hqf hal hc1
        have hM2 := Lib.hid hP.out.1
        rw [← HL1.out] at hM2
        go_roundw
        case rel => exact ⟨k + 1, _, zs ++ [_], by omega, by have e := HW.out; simp [e], by show (zs ++ [_]).length = _; simp [hzl.out], hM2⟩
        case measure =>
          have e := HW.out
          exact meas_less hlt e
      · obtain rfl : k = xs.length := by omega
        have i4 : ¬ (xs.length : Int) < (xs.length : Int) := by omega
        have r1 := hM.out.c1
        go_wp2_with fail
        have hbv : vRose zs ys = BB := by rw [← HB.out, ← hM.out.d1]; rfl
        have d1 := Lib.hid hM.out.d1
        clear p0 p1 r0 r1 f0
        have hRo : RoseAt wr w1.heap.size wr.heap.size (.agg #[_, _]) zs ys := ⟨_, _, rfl, hM.out.r1, hM.out.r2, hM.out.ap⟩
        have hG := Lib.hid (grew_trans G1.out hM.out.gr)
        obtain ⟨a1, n1, m1, ea1⟩ := hM.out.r1.sl
        obtain ⟨a2, n2, m2, ea2⟩ := hM.out.r2.sl
        simp only [ea1, ea2] at hRo ⊢
        refine (c_l04Give _ _ _ _ _ _ hRo (Nat.le_refl _)).mono ?_
        rintro e w4 ⟨rfl, hg4⟩
        rw [hbv]
        have hRo4 := Lib.hid (hRo.grew (Nat.le_refl _) hg4)
        have hG4 := Lib.hid (grew_trans hG.out hg4)
        have R4 := Lib.hid ((R1.out.grew z1 hM.out.gr).grew (Nat.lt_of_lt_of_le z1 (Below.size hM.out.gr)) hg4)
        have hsz4 : wr.heap.size ≤ w4.heap.size := Below.size hg4
        have hw1 : w1.heap.size ≤ wr.heap.size := Below.size hM.out.gr
        have hlo : w1.heap.size ≤ w1.heap.size := hM.out.hl
        have z4 : w.heap.size + 1 < w4.heap.size := by omega
        clear hg4 hRo hM hbv ea1 ea2
        obtain ⟨⟨b0, b1⟩, b2, b3⟩ := R4.out
        cases BB
        · simp only [Bool.false_eq_true, if_false, ZRO]
          go_wp2_with fail
          refine bodyPost_ret (v := .tuple #[ZRO, .bool false]) (by simp [results, Try.results25, go_sem, b0, b1, ZRO]) rfl ?_
          exact ⟨_, [], [], rfl, rose_nil _ _ _, HD.out, HE.out, (by repeat (first | (with_reducible exact hG4.out) | (with_reducible exact grw_refl _) | (with_reducible refine grew_draw _ _ ?_) | (with_reducible refine grew_al ?_ _) | (with_reducible refine grew_set ?_ ?_; rotate_left; omega)))⟩
        · simp only [if_true]
          go_wp2_with fail
          have e0 := (cell_set_other _ _ 1 0 (.slice a2 n2 m2) (by omega)).trans (cell_set_own _ _ 0 (.slice a1 n1 m1) _ b0)
          have e1 := cell_set_own _ _ 1 (.slice a2 n2 m2) _ ((cell_set_other _ _ 0 1 (.slice a1 n1 m1) (by omega)).trans b1)
          have hW : Wrote (w.heap.size + 1) (w.heap.size + 1 + 1) w4 ((w4.setCell ⟨w.heap.size + 1, 0, none⟩ (.slice a1 n1 m1)).setCell ⟨w.heap.size + 1, 1, none⟩ (.slice a2 n2 m2)) := (Wrote.of_outside (outside_set _ _ _ _)).trans (Wrote.of_outside (outside_set _ _ _ _))
          obtain ⟨X, Y, he, h1, h2, h3⟩ := hRo4.out
          have hz3 : w.heap.size ≤ w1.heap.size := by have := Below.size G1.out; omega
          have hG5 : Grew w ((w4.setCell ⟨w.heap.size + 1, 0, none⟩ (.slice a1 n1 m1)).setCell ⟨w.heap.size + 1, 1, none⟩ (.slice a2 n2 m2)) := grew_set (grew_set hG4.out (by omega)) (by omega)
          have hsz5 : wr.heap.size ≤ ((w4.setCell ⟨w.heap.size + 1, 0, none⟩ (.slice a1 n1 m1)).setCell ⟨w.heap.size + 1, 1, none⟩ (.slice a2 n2 m2)).heap.size := Nat.le_trans hsz4 hW.size
          have hRo5 : RoseAt ((w4.setCell ⟨w.heap.size + 1, 0, none⟩ (.slice a1 n1 m1)).setCell ⟨w.heap.size + 1, 1, none⟩ (.slice a2 n2 m2)) w.heap.size _ (.agg #[.slice a1 n1 m1, .slice a2 n2 m2]) zs ys :=
            ⟨X, Y, he, (h1.wrote hsz4 hW (.inr (by omega))).mono hz3 hsz5, (h2.wrote hsz4 hW (.inr (by omega))).mono hz3 hsz5, h3⟩
          generalize ((w4.setCell ⟨w.heap.size + 1, 0, none⟩ (.slice a1 n1 m1)).setCell ⟨w.heap.size + 1, 1, none⟩ (.slice a2 n2 m2)) = w5 at *
          refine bodyPost_ret (v := .tuple #[.agg #[.slice a1 n1 m1, .slice a2 n2 m2], .bool true]) (by simp [results, Try.results25, go_sem, e0, e1]) rfl ?_
          exact ⟨_, zs, ys, rfl, hRo5, by first | exact d1.out.trans HD.out | exact HD.out, by first | exact d2.out.trans HE.out | exact HE.out, hG5⟩

theorem c_specNorm' (lo hi : Nat) (v : Value) (xs ys : List Nat) (w : World) (h : RoseAt w lo hi v xs ys) (hs : hi ≤ w.heap.size) :
    Calls Try.prog 25 #[v] w (RetR (if isNorm xs ys then quoL xs (sumTo xs xs.length) xs.length else []) (if isNorm xs ys then ys.map (cl .f32) else []) (isNorm xs ys) w) := by
  obtain ⟨A, a, B, b, rfl, hx, hy⟩ := h.parts
  cases k1 : vRose xs ys
  · have e : isNorm xs ys = false := by simp [isNorm, okNorm, k1]
    rw [e]
    exact c_snormBad1 A B _ a _ b w.heap.size xs ys w (Slc.mono hx hs) (Slc.mono hy hs) (Nat.le_refl _) k1
  · exact c_snormGood A B _ a _ b w.heap.size xs ys w (Slc.mono hx hs) (Slc.mono hy hs) (Nat.le_refl _) k1

theorem c_implNorm' (lo hi : Nat) (v : Value) (xs ys : List Nat) (w : World) (h : RoseAt w lo hi v xs ys) (hs : hi ≤ w.heap.size) (l1 : xs.length ≤ 1048576) (l2 : ys.length ≤ 1048576) :
    Calls Try.prog 26 #[v] w (RetR (if isNorm xs ys then quoL xs (sumTo xs xs.length) xs.length else []) (if isNorm xs ys then ys.map (cl .f32) else []) (isNorm xs ys) w) := by
  obtain ⟨A, a, B, b, rfl, hx, hy⟩ := h.parts
  cases k1 : vRose xs ys
  · have e : isNorm xs ys = false := by simp [isNorm, okNorm, k1]
    rw [e]
    exact c_normBad1 A B _ a _ b w.heap.size xs ys w (Slc.mono hx hs) (Slc.mono hy hs) (Nat.le_refl _) (by unfold maxLen; omega) (by unfold maxLen; omega) k1
  · exact c_normGood A B _ a _ b w.heap.size xs ys w (Slc.mono hx hs) (Slc.mono hy hs) (Nat.le_refl _) (by unfold maxLen; omega) (by unfold maxLen; omega) k1

end Go.Proofs.Ytebhefbpkcpnjaa
