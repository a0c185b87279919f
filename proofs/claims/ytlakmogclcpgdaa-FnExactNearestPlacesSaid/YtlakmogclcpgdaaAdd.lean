/-
  CONTRACTS: a place that is added, by the reference.
-/
import Derived.Test.YtlakmogclcpgdaaMove
namespace Go.Proofs.Ytlakmogclcpgdaa
open Go.RowKit Go.Flt
set_option linter.unusedVariables false
set_option maxRecDepth 100000
set_option linter.unusedSimpArgs false

def isAdd (xs ys : List Nat) (r d s : Nat) (x y : Nat) : Bool := vFarm xs ys r d s && vFarmD (xs.map (cl .f32) ++ [cl .f32 x]) (ys.map (cl .f32) ++ [cl .f32 y]) r d s

theorem vFarm_len {xs ys : List Nat} {r d s : Nat} (h : vFarm xs ys r d s = true) : 0 < xs.length ∧ 0 < ys.length ∧ xs.length ≤ 12 ∧ ys.length ≤ 12 := by
  unfold vFarm at h
  simp only [Bool.and_eq_true, decide_eq_true_eq] at h
  omega

set_option maxHeartbeats 4000000 in
theorem c_specAdd (lo hi : Nat) (v : Value) (xs ys : List Nat) (r d s : Nat) (x y : Nat) (w : World) (h : FarmAt w lo hi v xs ys r d s) (hK : hi ≤ w.heap.size) (hn : xs.length ≤ 1048576) (hm : ys.length ≤ 1048576) (fx : fits x) (fy : fits y) :
    Calls Try.prog 18 #[v, .float .f32 x, .float .f32 y] w
      (RetFm (yesL (isAdd xs ys r d s x y) (xs.map (cl .f32) ++ [cl .f32 x])) (yesL (isAdd xs ys r d s x y) (ys.map (cl .f32) ++ [cl .f32 y])) (yesN (isAdd xs ys r d s x y) r) (yesN (isAdd xs ys r d s x y) d) (yesN (isAdd xs ys r d s x y) s) (isAdd xs ys r d s x y) w) := by
  obtain ⟨A, cA, C, cC, rfl, hx, hy⟩ := h.parts
  clear h
  have V1 := Lib.hid (fun w' b hf h => c_l06Is b A C _ cA _ cC hi xs ys r d s w' hf (Slc.grew (g := Value.float .f32) (w' := w') hx hK h) (Slc.grew (g := Value.float .f32) (w' := w') hy hK h) (by unfold maxLen; omega) (by unfold maxLen; omega))
  cases k1 : vFarm xs ys r d s
  · have e : isAdd xs ys r d s x y = false := by simp [isAdd, k1]
    rw [e]
    rw [k1] at V1
    clear hx hy hK hn hm k1
    go_enter Try.func18, Try.ntmps18
    go_wp2_with fail
    refine (V1.out _ _ (by unfold FmAt; simp [go_sem]) (by (show Below _ _ _; (repeat (first | exact Below.refl _ _ | refine ext_below ?_ (by first | omega | (simp only [size_ext, heap_push, Array.size_push, World.heap_drewN]; omega) | (simp; omega)) _ _ | refine below_draws ?_ _ | refine Below.alloc ?_ (by first | omega | (simp; done) | (simp; omega)) _ | refine Below.setCell ?_ (by first | omega | (simp; done) | (simp; omega)) _ | refine below_then (by assumption) (by first | omega | (simp; done) | (simp; omega)) ?_))))).mono ?_
    rintro e w1 ⟨rfl, nq, rfl⟩
    go_wp2_with fail
    refine bodyPost_ret (v := .tuple #[ZFM, .bool false]) (by simp [results, Try.results18, go_sem, ZFM]) rfl ?_
    exact ⟨_, [], [], rfl, farm_nil _ _ _, rfl, rfl, by (show Below _ _ _; (repeat (first | exact Below.refl _ _ | refine ext_below ?_ (by first | omega | (simp only [size_ext, heap_push, Array.size_push, World.heap_drewN]; omega) | (simp; omega)) _ _ | refine below_draws ?_ _ | refine Below.alloc ?_ (by first | omega | (simp; done) | (simp; omega)) _ | refine Below.setCell ?_ (by first | omega | (simp; done) | (simp; omega)) _ | refine below_then (by assumption) (by first | omega | (simp; done) | (simp; omega)) ?_)))⟩
  · have hk : isAdd xs ys r d s x y = vFarmD (xs.map (cl .f32) ++ [cl .f32 x]) (ys.map (cl .f32) ++ [cl .f32 y]) r d s := by unfold isAdd; rw [k1]; rfl
    rw [hk]
    obtain ⟨hkx, hky, h12, h13⟩ := vFarm_len k1
    rw [k1] at V1
    have V2 := Lib.hid (fun w' b hf hb h => c_l06Own b A C cA cC hi xs ys r d s w' hf (Slc.grew (g := Value.float .f32) (w' := w') hx hK h) (Slc.grew (g := Value.float .f32) (w' := w') hy hK h) (Nat.le_trans hK (Below.size h)) hb hkx hky hn hm)
    have NN := Lib.hid (And.intro hkx (And.intro hky (And.intro h12 h13)))
    have FX := Lib.hid (And.intro fx fy)
    generalize hB : vFarmD (xs.map (cl .f32) ++ [cl .f32 x]) (ys.map (cl .f32) ++ [cl .f32 y]) r d s = BB
    generalize hD : yesL BB (xs.map (cl .f32) ++ [cl .f32 x]) = DD
    generalize hE : yesL BB (ys.map (cl .f32) ++ [cl .f32 y]) = EE
    generalize h1 : yesN BB r = RR
    generalize h2 : yesN BB d = RD
    generalize h3 : yesN BB s = RS
    have HB := Lib.hid hB
    have HD := Lib.hid hD
    have HE := Lib.hid hE
    have H1 := Lib.hid h1
    have H2 := Lib.hid h2
    have H3 := Lib.hid h3
    obtain ⟨i, hi, hz0, hz1, hz2⟩ := info_parts info_float32
    have HI := Lib.hid hi
    have HI0 := Lib.hid hz0
    have HI1 := Lib.hid hz1
    have HI2 := Lib.hid hz2
    clear hB hD hE h1 h2 h3 hk hx hy hK hn hm k1 hkx hky h12 h13 fx fy hi hz0 hz1 hz2
    go_enter Try.func18, Try.ntmps18
    go_wp2_with fail
    refine (V1.out _ _ (by unfold FmAt; simp [go_sem]) (by (show Below _ _ _; (repeat (first | exact Below.refl _ _ | refine ext_below ?_ (by first | omega | (simp only [size_ext, heap_push, Array.size_push, World.heap_drewN]; omega) | (simp; omega)) _ _ | refine below_draws ?_ _ | refine Below.alloc ?_ (by first | omega | (simp; done) | (simp; omega)) _ | refine Below.setCell ?_ (by first | omega | (simp; done) | (simp; omega)) _ | refine below_then (by assumption) (by first | omega | (simp; done) | (simp; omega)) ?_))))).mono ?_
    rintro e w1 ⟨rfl, nq, hw1⟩
    have G1 : Hid (Grew w w1) := Lib.hid (by rw [hw1]; show Grew w _; (show Below _ _ _; (repeat (first | exact Below.refl _ _ | refine ext_below ?_ (by first | omega | (simp only [size_ext, heap_push, Array.size_push, World.heap_drewN]; omega) | (simp; omega)) _ _ | refine below_draws ?_ _ | refine Below.alloc ?_ (by first | omega | (simp; done) | (simp; omega)) _ | refine Below.setCell ?_ (by first | omega | (simp; done) | (simp; omega)) _ | refine below_then (by assumption) (by first | omega | (simp; done) | (simp; omega)) ?_))))
    have A1 : Hid (FmAt w1 w.heap.size (.slice A xs.length cA) (.slice C ys.length cC) r d s) := Lib.hid (by rw [hw1]; unfold FmAt; simp [go_sem])
    have R1 : Hid (BoxF w1 (w.heap.size + 1)) := Lib.hid (by rw [hw1]; exact ⟨by unfold FmAt; simp [go_sem], fun o => by simp [go_sem]⟩)
    have z1 : w.heap.size + 1 < w1.heap.size := by rw [hw1]; simp
    have z0 : w.heap.size < w1.heap.size := by omega
    clear hw1 V1
    go_wp2_with fail
    refine (V2.out _ _ A1.out z0 G1.out).mono ?_
    rintro e w2 ⟨v, rfl, hf, hg2⟩
    obtain ⟨X, Y, rfl, hx, hy, hp⟩ := hf
    obtain ⟨a1, n1, m1, rfl⟩ := hx.sl
    obtain ⟨a2, n2, m2, rfl⟩ := hy.sl
    have hsz2 : w1.heap.size + 1 ≤ w2.heap.size := by
      obtain ⟨bq, _, _, hq1, hq2, _⟩ := RowAt.row hx (fun e => by have := NN.out.1; rw [e] at this; simp at this)
      omega
    have M0 := Lib.hid (mix_boxedF (w0 := w1) (lo := w1.heap.size + 1) r d s hx hy hp (by omega) hsz2 hg2)
    clear hx hy hp hg2 V2 hsz2
    go_upto_region 4 with fail
    generalize w2.alloc (.cells #[.slice a1 n1 m1, .slice a2 n2 m2, .float .f32 r, .float .f32 d, .float .f32 s] 25) = w3 at *
    generalize w2.heap.size = bx at *
    have r0 := M0.out.1.c0
    have f0 := M0.out.1.f0
    have zb : bx < w3.heap.size := M0.out.1.lt
    go_upto_region 5 with (at_builtin; refine wpList_append_own_at _ rfl _ _ 23 rfl (w1.heap.size + 1) 22 i (.float .f32 0) 1 4 Try.underlying23 HI.out HI0.out HI1.out HI2.out rfl (by decide) (.slice a1 n1 m1) xs.length _ rfl (RowAt.grew M0.out.1.r1 (Nat.le_refl _) (grew_al (grew_refl w3) _)).1 ⟨_, 0, none⟩ 1 _ [.float .f32 x] rfl rfl (cell_one_new _ _ _) (by simp [Value.oneCell']) (by have := NN.out; unfold maxLen; omega) (by have := NN.out; omega) (by have := M0.out.1.ll; simp; omega) ?_; rintro v4 w4 hown hgr _ hat; have hP := Lib.hid (mix_push1 M0.out.1 (grew_al (grew_refl w3) _) hown hgr hat (rfl : cl .f32 x = _)); have hB := Lib.hid (M0.out.2.keep (mix_same M0.out.1 (grew_al (grew_refl w3) _) hgr (.inl rfl))); clear hown hgr hat; obtain ⟨A9, n9, c9, rfl⟩ := hP.out.1.r1.sl; have c9' := hP.out.2.1; have f9' := hP.out.2.2; clear r0 f0)
    have M1 := Lib.hid (And.intro hP.out.1 (hB.out.set 0 (by omega) (.slice A9 n9 c9)))
    clear hP hB c9' f9' M0 zb
    generalize w4.setCell ⟨bx, 0, none⟩ (.slice A9 n9 c9) = w5 at *
    have r0 := M1.out.1.c1
    have f0 := M1.out.1.f1
    have zb : bx < w5.heap.size := M1.out.1.lt
    go_upto_region 6 with (at_builtin; refine wpList_append_own_at _ rfl _ _ 23 rfl (w1.heap.size + 1) 22 i (.float .f32 0) 1 4 Try.underlying23 HI.out HI0.out HI1.out HI2.out rfl (by decide) (.slice a2 n2 m2) ys.length _ rfl (RowAt.grew M1.out.1.r2 (Nat.le_refl _) (grew_al (grew_refl w5) _)).1 ⟨_, 0, none⟩ 1 _ [.float .f32 y] rfl rfl (cell_one_new _ _ _) (by simp [Value.oneCell']) (by have := NN.out; unfold maxLen; omega) (by have := NN.out; omega) (by have := M1.out.1.ll; simp; omega) ?_; rintro v6 w6 hown hgr _ hat; have hP := Lib.hid (mix_push2 M1.out.1 (grew_al (grew_refl w5) _) hown hgr hat (rfl : cl .f32 y = _)); have hB := Lib.hid (M1.out.2.keep (mix_same M1.out.1 (grew_al (grew_refl w5) _) hgr (.inr rfl))); clear hown hgr hat; obtain ⟨A8, n8, c8, rfl⟩ := hP.out.1.r2.sl; have c9' := hP.out.2.1; have f9' := hP.out.2.2; clear r0 f0)
    have M2 := Lib.hid (And.intro hP.out.1 (hB.out.set 1 (by omega) (.slice A8 n8 c8)))
    clear hP hB c9' f9' M1 zb
    generalize w6.setCell ⟨bx, 1, none⟩ (.slice A8 n8 c8) = wr at *
    have r0 := M2.out.1.c0
    have r1 := M2.out.1.c1
    obtain ⟨q2, q3, q4⟩ := M2.out.2
    go_wp2_with fail
    have hRo : FarmAt wr (w1.heap.size + 1) wr.heap.size (.agg #[.slice A9 n9 c9, .slice A8 n8 c8, .float .f32 r, .float .f32 d, .float .f32 s]) (xs ++ [x]) (ys ++ [y]) r d s := ⟨_, _, rfl, M2.out.1.r1, M2.out.1.r2, M2.out.1.ap⟩
    have hGR : Grew w1 wr := M2.out.1.gr
    have hlo : w.heap.size + 1 + 1 ≤ w1.heap.size + 1 := by omega
    have hzs : (xs ++ [x]).length ≤ 1048576 := by have := NN.out; simp; omega
    have hus : (ys ++ [y]).length ≤ 1048576 := by have := NN.out; simp; omega
    have d1 := Lib.hid M2.out.1.d1
    have d2 := Lib.hid M2.out.1.d2
    have hbv : vFarm (xs ++ [x]) (ys ++ [y]) r d s = BB := by rw [vFarm_D, d1.out, d2.out]; exact HB.out
    clear r0 r1 q2 q3 q4 M2
    generalize hzz : xs ++ [x] = zs at *
    generalize hyy : ys ++ [y] = us at *
    clear hzz hyy
    generalize A9 = a1, n9 = n1, c9 = m1, A8 = a2, n8 = n2, c8 = m2 at *
    have hG := Lib.hid (grew_trans G1.out hGR)
    refine (c_l06Give _ _ _ _ _ r d s _ hRo (Nat.le_refl _) hzs hus).mono ?_
    rintro e w4 ⟨rfl, hg4⟩
    rw [hbv]
    have hRo4 := Lib.hid (hRo.grew (Nat.le_refl _) hg4)
    have hG4 := Lib.hid (grew_trans hG.out hg4)
    have R4 := Lib.hid ((R1.out.grew z1 hGR).grew (Nat.lt_of_lt_of_le z1 (Below.size hGR)) hg4)
    have hsz4 : wr.heap.size ≤ w4.heap.size := Below.size hg4
    have hw1 : w1.heap.size ≤ wr.heap.size := Below.size hGR
    have z4 : w.heap.size + 1 < w4.heap.size := by omega
    clear hg4 hRo hGR hbv
    obtain ⟨⟨b0, b1, b2, b3, b4⟩, bf⟩ := R4.out
    cases BB
    · simp only [Bool.false_eq_true, if_false, ZFM]
      go_wp2_with fail
      refine bodyPost_ret (v := .tuple #[ZFM, .bool false]) (by simp [results, Try.results18, go_sem, b0, b1, b2, b3, b4, ZFM]) rfl ?_
      have hr1 : (0 : Nat) = RR := H1.out
      have hr2 : (0 : Nat) = RD := H2.out
      have hr3 : (0 : Nat) = RS := H3.out
      rw [← hr1, ← hr2, ← hr3]
      exact ⟨_, [], [], rfl, farm_nil _ _ _, HD.out, HE.out, (by repeat (first | (with_reducible exact hG4.out) | (with_reducible exact grw_refl _) | (with_reducible refine grew_draw _ _ ?_) | (with_reducible refine grew_al ?_ _) | (with_reducible refine grew_set ?_ ?_; rotate_left; omega)))⟩
    · simp only [if_true]
      go_wp2_with fail
      have hst := st5_at R4.out.1 (.slice a1 n1 m1) (.slice a2 n2 m2) r d s
      have hW := st5_wrote w4 (w.heap.size + 1) (.slice a1 n1 m1) (.slice a2 n2 m2) r d s
      obtain ⟨X, Y, he, h1, h2, h3⟩ := hRo4.out
      have hz3 : w.heap.size ≤ w1.heap.size + 1 := by have := Below.size G1.out; omega
      have hG5 : Grew w (st5 w4 (w.heap.size + 1) (.slice a1 n1 m1) (.slice a2 n2 m2) r d s) := Wrote.below hG4.out hW (by have := Below.size hG4.out; omega) (by omega)
      have hsz5 : wr.heap.size ≤ (st5 w4 (w.heap.size + 1) (.slice a1 n1 m1) (.slice a2 n2 m2) r d s).heap.size := Nat.le_trans hsz4 hW.size
      have hRo5 : FarmAt (st5 w4 (w.heap.size + 1) (.slice a1 n1 m1) (.slice a2 n2 m2) r d s) w.heap.size _ (.agg #[.slice a1 n1 m1, .slice a2 n2 m2, .float .f32 r, .float .f32 d, .float .f32 s]) zs us r d s :=
        ⟨X, Y, he, (h1.wrote hsz4 hW (.inr (by omega))).mono hz3 hsz5, (h2.wrote hsz4 hW (.inr (by omega))).mono hz3 hsz5, h3⟩
      show bodyPost _ _ _ _ _ (st5 w4 (w.heap.size + 1) (.slice a1 n1 m1) (.slice a2 n2 m2) r d s)
      generalize (st5 w4 (w.heap.size + 1) (.slice a1 n1 m1) (.slice a2 n2 m2) r d s) = w5 at *
      obtain ⟨e0, e1, e2, e3, e4⟩ := hst
      refine bodyPost_ret (v := .tuple #[.agg #[.slice a1 n1 m1, .slice a2 n2 m2, .float .f32 r, .float .f32 d, .float .f32 s], .bool true]) (by simp [results, Try.results18, go_sem, e0, e1, e2, e3, e4]) rfl ?_
      have hr1 : r = RR := H1.out
      have hr2 : d = RD := H2.out
      have hr3 : s = RS := H3.out
      rw [← hr1, ← hr2, ← hr3]
      exact ⟨_, zs, us, rfl, hRo5, by first | exact d1.out.trans HD.out | exact HD.out, by first | exact d2.out.trans HE.out | exact HE.out, hG5⟩

end Go.Proofs.Ytlakmogclcpgdaa
