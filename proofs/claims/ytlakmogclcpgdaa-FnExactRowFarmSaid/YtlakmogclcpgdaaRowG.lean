/-
  CONTRACTS: rotors in a row.
-/
import Derived.Test.YtlakmogclcpgdaaRowF
namespace Go.Proofs.Ytlakmogclcpgdaa
open Go.RowKit Go.Flt
set_option linter.unusedVariables false
set_option maxRecDepth 100000
set_option linter.unusedSimpArgs false

set_option maxHeartbeats 4000000 in
theorem c_specRowF (n : Int) (g r d s : Nat) (w : World) :
    Calls Try.prog 12 #[.int .i64 n, .float .f32 g, .float .f32 r, .float .f32 d, .float .f32 s] w
      (RetFm (yesL (isRowF n g r d s) (rowL (cl .f32 g) n.toNat)) (yesL (isRowF n g r d s) (List.replicate n.toNat (cl .f32 0))) (yesN (isRowF n g r d s) r) (yesN (isRowF n g r d s) d) (yesN (isRowF n g r d s) s) (isRowF n g r d s) w) := by
  cases k1 : within n 1 12
  · have e : isRowF n g r d s = false := by simp [isRowF, k1]
    rw [e]
    go_enter Try.func12, Try.ntmps12
    go_wp2_with (go_at_call 39; refine (c_l00In _ _ _ _).mono ?_; rintro e w' ⟨rfl, nq, rfl⟩)
    refine bodyPost_ret (v := .tuple #[ZFM, .bool false]) (by simp [results, Try.results12, go_sem, ZFM]) rfl ?_
    exact ⟨_, [], [], rfl, farm_nil _ _ _, rfl, rfl, by (show Below _ _ _; (repeat (first | exact Below.refl _ _ | refine ext_below ?_ (by first | omega | (simp only [size_ext, heap_push, Array.size_push, World.heap_drewN]; omega) | (simp; omega)) _ _ | refine below_draws ?_ _ | refine Below.alloc ?_ (by first | omega | (simp; done) | (simp; omega)) _ | refine Below.setCell ?_ (by first | omega | (simp; done) | (simp; omega)) _ | refine below_then (by assumption) (by first | omega | (simp; done) | (simp; omega)) ?_)))⟩
  · have hk : isRowF n g r d s = vFarmD (rowL (cl .f32 g) n.toNat) (List.replicate n.toNat (cl .f32 0)) r d s := by unfold isRowF; rw [k1]; rfl
    rw [hk]
    obtain ⟨c, rfl⟩ : ∃ c : Nat, n = c := ⟨n.toNat, by simp [within] at k1; omega⟩
    have hc : 1 ≤ c ∧ c ≤ 12 := by simp [within] at k1; omega
    have NN := Lib.hid hc
    simp only [Int.toNat_natCast]
    generalize hB : vFarmD (rowL (cl .f32 g) c) (List.replicate c (cl .f32 0)) r d s = BB
    generalize hD : yesL BB (rowL (cl .f32 g) c) = DD
    generalize hE : yesL BB (List.replicate c (cl .f32 0)) = EE
    generalize h1 : yesN BB r = RR
    generalize h2 : yesN BB d = RD
    generalize h3 : yesN BB s = RS
    have HB := Lib.hid hB
    have HD := Lib.hid hD
    have HE := Lib.hid hE
    have H1 := Lib.hid h1
    have H2 := Lib.hid h2
    have H3 := Lib.hid h3
    clear hB hD hE h1 h2 h3 hk hc
    go_enter Try.func12, Try.ntmps12
    go_wp2_with fail
    refine (c_l00In _ _ _ _).mono ?_
    rintro e w1 ⟨rfl, nq, hw1⟩
    rw [k1]
    have G1 : Hid (Grew w w1) := by rw [hw1]; show Grew w _; (show Below _ _ _; (repeat (first | exact Below.refl _ _ | refine ext_below ?_ (by first | omega | (simp only [size_ext, heap_push, Array.size_push, World.heap_drewN]; omega) | (simp; omega)) _ _ | refine below_draws ?_ _ | refine Below.alloc ?_ (by first | omega | (simp; done) | (simp; omega)) _ | refine Below.setCell ?_ (by first | omega | (simp; done) | (simp; omega)) _ | refine below_then (by assumption) (by first | omega | (simp; done) | (simp; omega)) ?_)))
    have R1 : Hid (BoxF w1 w.heap.size) := by rw [hw1]; refine ⟨by unfold FmAt; simp [go_sem], fun o => by simp [go_sem]⟩
    have z1 : w.heap.size < w1.heap.size := by rw [hw1]; simp
    clear hw1 k1
    go_wp2_with fail
    refine (c_l06Row c g r d s _ NN.out.2).mono ?_
    rintro e wr ⟨v, zs, us, rfl, hf, hz, hu, hg⟩
    obtain ⟨X, Y, rfl, hx, hy, hp⟩ := hf
    have HX := Lib.hid hx
    have HY := Lib.hid hy
    have HP := Lib.hid hp
    obtain ⟨a1, n1, m1, rfl⟩ := hx.sl
    obtain ⟨a2, n2, m2, rfl⟩ := hy.sl
    have HG := Lib.hid hg
    have d1 := Lib.hid hz
    have d2 := Lib.hid hu
    clear hx hy hp hz hu hg
    go_wp2_with fail
    have hRo : FarmAt wr (w1.heap.size + 1) wr.heap.size (.agg #[.slice a1 n1 m1, .slice a2 n2 m2, .float .f32 r, .float .f32 d, .float .f32 s]) zs us r d s := ⟨_, _, rfl, HX.out, HY.out, HP.out⟩
    have hGR := HG.out
    have hlo : w.heap.size + 1 ≤ w1.heap.size + 1 := by omega
    have hzs : zs.length ≤ 1048576 := by rw [len_of_map d1.out]; simp [rowL]; have := NN.out; omega
    have hus : us.length ≤ 1048576 := by rw [len_of_map d2.out]; simp; have := NN.out; omega
    have hbv : vFarm zs us r d s = BB := by rw [vFarm_D, d1.out, d2.out]; exact HB.out
    clear HX HY HP HG
    have hG := Lib.hid (grew_trans G1.out hGR)
    refine (c_l06Give _ _ _ _ _ r d s _ hRo (Nat.le_refl _) hzs hus).mono ?_
    rintro e w4 ⟨rfl, hg4⟩
    rw [hbv]
    have hRo4 := Lib.hid (hRo.grew (Nat.le_refl _) hg4)
    have hG4 := Lib.hid (grew_trans hG.out hg4)
    have R4 := Lib.hid ((R1.out.grew z1 hGR).grew (Nat.lt_of_lt_of_le z1 (Below.size hGR)) hg4)
    have hsz4 : wr.heap.size ≤ w4.heap.size := Below.size hg4
    have hw1 : w1.heap.size ≤ wr.heap.size := Below.size hGR
    have z4 : w.heap.size < w4.heap.size := by omega
    clear hg4 hRo hGR hbv
    obtain ⟨⟨b0, b1, b2, b3, b4⟩, bf⟩ := R4.out
    cases BB
    · simp only [Bool.false_eq_true, if_false, ZFM]
      go_wp2_with fail
      refine bodyPost_ret (v := .tuple #[ZFM, .bool false]) (by simp [results, Try.results12, go_sem, b0, b1, b2, b3, b4, ZFM]) rfl ?_
      have hr1 : (0 : Nat) = RR := H1.out
      have hr2 : (0 : Nat) = RD := H2.out
      have hr3 : (0 : Nat) = RS := H3.out
      rw [← hr1, ← hr2, ← hr3]
      exact ⟨_, [], [], rfl, farm_nil _ _ _, HD.out, HE.out, (by repeat (first | (with_reducible exact hG4.out) | (with_reducible exact grw_refl _) | (with_reducible refine grew_draw _ _ ?_) | (with_reducible refine grew_al ?_ _) | (with_reducible refine grew_set ?_ ?_; rotate_left; omega)))⟩
    · simp only [if_true]
      go_wp2_with fail
      have hst := st5_at R4.out.1 (.slice a1 n1 m1) (.slice a2 n2 m2) r d s
      have hW := st5_wrote w4 (w.heap.size) (.slice a1 n1 m1) (.slice a2 n2 m2) r d s
      obtain ⟨X, Y, he, h1, h2, h3⟩ := hRo4.out
      have hz3 : w.heap.size ≤ w1.heap.size + 1 := by have := Below.size G1.out; omega
      have hG5 : Grew w (st5 w4 (w.heap.size) (.slice a1 n1 m1) (.slice a2 n2 m2) r d s) := Wrote.below hG4.out hW (by have := Below.size hG4.out; omega) (by omega)
      have hsz5 : wr.heap.size ≤ (st5 w4 (w.heap.size) (.slice a1 n1 m1) (.slice a2 n2 m2) r d s).heap.size := Nat.le_trans hsz4 hW.size
      have hRo5 : FarmAt (st5 w4 (w.heap.size) (.slice a1 n1 m1) (.slice a2 n2 m2) r d s) w.heap.size _ (.agg #[.slice a1 n1 m1, .slice a2 n2 m2, .float .f32 r, .float .f32 d, .float .f32 s]) zs us r d s :=
        ⟨X, Y, he, (h1.wrote hsz4 hW (.inr (by omega))).mono hz3 hsz5, (h2.wrote hsz4 hW (.inr (by omega))).mono hz3 hsz5, h3⟩
      show bodyPost _ _ _ _ _ (st5 w4 (w.heap.size) (.slice a1 n1 m1) (.slice a2 n2 m2) r d s)
      generalize (st5 w4 (w.heap.size) (.slice a1 n1 m1) (.slice a2 n2 m2) r d s) = w5 at *
      obtain ⟨e0, e1, e2, e3, e4⟩ := hst
      refine bodyPost_ret (v := .tuple #[.agg #[.slice a1 n1 m1, .slice a2 n2 m2, .float .f32 r, .float .f32 d, .float .f32 s], .bool true]) (by simp [results, Try.results12, go_sem, e0, e1, e2, e3, e4]) rfl ?_
      have hr1 : r = RR := H1.out
      have hr2 : d = RD := H2.out
      have hr3 : s = RS := H3.out
      rw [← hr1, ← hr2, ← hr3]
      exact ⟨_, zs, us, rfl, hRo5, by first | exact d1.out.trans HD.out | exact HD.out, by first | exact d2.out.trans HE.out | exact HE.out, hG5⟩

set_option maxHeartbeats 4000000 in
theorem c_implRowF (n : Int) (g r d s : Nat) (w : World) :
    Calls Try.prog 13 #[.int .i64 n, .float .f32 g, .float .f32 r, .float .f32 d, .float .f32 s] w
      (RetFm (yesL (isRowF n g r d s) (rowL (cl .f32 g) n.toNat)) (yesL (isRowF n g r d s) (List.replicate n.toNat (cl .f32 0))) (yesN (isRowF n g r d s) r) (yesN (isRowF n g r d s) d) (yesN (isRowF n g r d s) s) (isRowF n g r d s) w) := by
  cases k1 : within n 1 12
  · have e : isRowF n g r d s = false := by simp [isRowF, k1]
    rw [e]
    go_enter Try.func13, Try.ntmps13
    go_wp2_with (go_at_call 42; refine (c_within _ _ _ _).mono ?_; rintro e w' ⟨rfl, nq, rfl⟩)
    refine bodyPost_ret (v := .tuple #[ZFM, .bool false]) (by simp [results, Try.results13, go_sem, ZFM]) rfl ?_
    exact ⟨_, [], [], rfl, farm_nil _ _ _, rfl, rfl, by (show Below _ _ _; (repeat (first | exact Below.refl _ _ | refine ext_below ?_ (by first | omega | (simp only [size_ext, heap_push, Array.size_push, World.heap_drewN]; omega) | (simp; omega)) _ _ | refine below_draws ?_ _ | refine Below.alloc ?_ (by first | omega | (simp; done) | (simp; omega)) _ | refine Below.setCell ?_ (by first | omega | (simp; done) | (simp; omega)) _ | refine below_then (by assumption) (by first | omega | (simp; done) | (simp; omega)) ?_)))⟩
  · have hk : isRowF n g r d s = vFarmD (rowL (cl .f32 g) n.toNat) (List.replicate n.toNat (cl .f32 0)) r d s := by unfold isRowF; rw [k1]; rfl
    rw [hk]
    obtain ⟨c, rfl⟩ : ∃ c : Nat, n = c := ⟨n.toNat, by simp [within] at k1; omega⟩
    have hc : 1 ≤ c ∧ c ≤ 12 := by simp [within] at k1; omega
    have NN := Lib.hid hc
    simp only [Int.toNat_natCast]
    generalize hB : vFarmD (rowL (cl .f32 g) c) (List.replicate c (cl .f32 0)) r d s = BB
    generalize hD : yesL BB (rowL (cl .f32 g) c) = DD
    generalize hE : yesL BB (List.replicate c (cl .f32 0)) = EE
    generalize h1 : yesN BB r = RR
    generalize h2 : yesN BB d = RD
    generalize h3 : yesN BB s = RS
    have HB := Lib.hid hB
    have HD := Lib.hid hD
    have HE := Lib.hid hE
    have H1 := Lib.hid h1
    have H2 := Lib.hid h2
    have H3 := Lib.hid h3
    have HM := mk_float32 c (by omega)
    have i2 : IntKind.i64.wrap (c : Int) = (c : Int) := by rw [IntKind.wrap_i64]; omega
    obtain ⟨i, hi, hz0, hz1, hz2⟩ := info_parts info_float32
    have HI := Lib.hid hi
    have HI0 := Lib.hid hz0
    have HI1 := Lib.hid hz1
    have HI2 := Lib.hid hz2
    clear hB hD hE h1 h2 h3 hk hc hi hz0 hz1 hz2
    go_enter Try.func13, Try.ntmps13
    go_wp2_with fail
    refine (c_within _ _ _ _).mono ?_
    rintro e w1 ⟨rfl, nq, hw1⟩
    rw [k1]
    have G1 : Hid (Grew w w1) := by rw [hw1]; show Grew w _; (show Below _ _ _; (repeat (first | exact Below.refl _ _ | refine ext_below ?_ (by first | omega | (simp only [size_ext, heap_push, Array.size_push, World.heap_drewN]; omega) | (simp; omega)) _ _ | refine below_draws ?_ _ | refine Below.alloc ?_ (by first | omega | (simp; done) | (simp; omega)) _ | refine Below.setCell ?_ (by first | omega | (simp; done) | (simp; omega)) _ | refine below_then (by assumption) (by first | omega | (simp; done) | (simp; omega)) ?_)))
    have R1 : Hid (BoxF w1 w.heap.size) := by rw [hw1]; refine ⟨by unfold FmAt; simp [go_sem], fun o => by simp [go_sem]⟩
    have z1 : w.heap.size < w1.heap.size := by rw [hw1]; simp
    clear hw1 k1
    go_wp2_with fail
    have hown : Own (Value.float .f32) 22 (w1.alloc (.cells (Array.replicate c (Value.float .f32 0)) 22)) w1.heap.size (List.replicate c 0) := by
      unfold Own
      simp [heap_push, Array.getElem?_push]
    have hrow := hown.rowAt (lo := w1.heap.size) (hi := w1.heap.size + 1) (Nat.le_refl _) (by omega) (by simp; have := NN.out; unfold maxLen; omega)
    rw [List.length_replicate] at hrow
    have hga : Grew w1 (w1.alloc (.cells (Array.replicate c (Value.float .f32 0)) 22)) := grew_al (grew_refl _) _
    have M0 := Lib.hid (mix_boxedF (w0 := w1) (lo := w1.heap.size) (zs := []) (us := List.replicate c 0) (S1 := .slice none 0 0) (S2 := .slice (some ⟨w1.heap.size, 0, none⟩) c c) r d s (rowAt_nil _ _ _) (RowAt.mono hrow (Nat.le_refl _) (by simp)) (fun k h => by simp [Value.ownBlock] at h) (Nat.le_refl _) (by simp) hga)
    rw [size_al] at M0
    have HE0 : Hid ((List.replicate c 0).map (cl .f32) = List.replicate c (cl .f32 0)) := by show _ = _; rw [List.map_replicate]
    rw [HE0.out] at M0
    clear hown hrow hga HM i2 HE0
    go_loopw [25] (fun i wr => ∃ (k : Nat) (v1 : Value) (zs : List Nat), k ≤ c ∧ i = .int .i64 k ∧ Hid (zs.length = k) ∧ Hid (MixAt w1 wr w1.heap.size (w1.heap.size + 1) v1 (.slice (some ⟨w1.heap.size, 0, none⟩) c c) zs (List.replicate c 0) (rowL (cl .f32 g) k) (List.replicate c (cl .f32 0)) ∧ FmBox wr (w1.heap.size + 1) r d s)) (fun i _ => c - (intOf i).toNat)
    case atStart => exact ⟨0, _, [], Nat.zero_le _, rfl, rfl, M0⟩
    case round =>
      obtain ⟨k, v1, zs, hk, rfl, hzl, hMF⟩ := hrel
      have hM := Lib.hid hMF.out.1
      have hF := Lib.hid hMF.out.2
      have s2 : w1.heap.size + 1 < wr.heap.size := hM.out.lt
      have s1 : w1.heap.size ≤ wr.heap.size := by omega
      have r0 := hM.out.c0
      have f0 := hM.out.f0
      clear hMF
      by_cases hlt : k < c
      · have i4 : (k : Int) < (c : Int) := by omega
        have HW := Lib.hid (show wrap64 ((k : Int) + 1) = (k : Int) + 1 by have := NN.out; unfold wrap64; omega)
        have HL1 := Lib.hid (rowL_succ (cl .f32 g) k)
        have HQ : Hid (fop .mul .f32 (cl .f32 (floatOfInt .f32 (k : Int))) (cl .f32 g) = rowD (cl .f32 g) k) := rfl
        go_wp2_with (first | (refine upon_fbin rfl _ _ _ _ ?_; intro z n hz hzw) | (at_builtin; refine wpList_append_own_at _ rfl (.tmp 29) (.tmp 34) 23 rfl w1.heap.size 22 i (.float .f32 0) 1 4 Try.underlying23 HI.out HI0.out HI1.out HI2.out rfl (by decide) v1 zs.length _ rfl (RowAt.grew hM.out.r1 (Nat.le_refl _) (grew_al (grew_draw _ _ (grew_refl wr)) _)).1 ⟨_, 0, none⟩ 1 _ [.float .f32 z] rfl rfl (cell_one_new _ _ _) (by simp [Value.oneCell']) (by have := hzl.out; have := NN.out; unfold maxLen; omega) (by have := hzl.out; have := NN.out; omega) (by simp; omega) ?_; rintro v3 w3 hown hgr _ hat; have hP := Lib.hid (mix_push1 hM.out (grew_al (grew_draw _ _ (grew_refl wr)) _) hown hgr hat (hz.trans HQ.out)); have hB := Lib.hid (hF.out.keep (mix_same hM.out (grew_al (grew_draw _ _ (grew_refl wr)) _) hgr (.inl rfl))); clear hown hgr hat; obtain ⟨A9, n9, c9, rfl⟩ := hP.out.1.r1.sl; have c9' := hP.out.2.1; have f9' := hP.out.2.2))
        have hM4 := Lib.hid hP.out.1
        have hF4 := Lib.hid (hB.out.set 0 (by omega) (.slice A9 n9 c9))
        rw [← HL1.out] at hM4
        go_roundw
        case rel => exact ⟨k + 1, _, zs ++ [_], by omega, by have e := HW.out; simp [e], by show (zs ++ [_]).length = _; simp [hzl.out], ⟨hM4.out, hF4.out⟩⟩
        case measure =>
          have e := HW.out
          exact meas_less hlt e
      · obtain rfl : k = c := by omega
        have r1 := hM.out.c1
        obtain ⟨q2, q3, q4⟩ := hF.out
        obtain ⟨a1, n1, m1, rfl⟩ := hM.out.r1.sl
        have i4 : ¬ (k : Int) < (k : Int) := by omega
        obtain ⟨us, hus0⟩ : ∃ us, us = List.replicate k 0 := ⟨_, rfl⟩
        rw [← hus0] at hM
        have HU := Lib.hid hus0
        clear hus0
        obtain ⟨a2, n2, m2, e2⟩ : ∃ a2 n2 m2, Value.slice (some ⟨w1.heap.size, 0, none⟩) k k = Value.slice a2 n2 m2 := ⟨_, _, _, rfl⟩
        rw [e2] at hM r1
        have E2 := Lib.hid e2
        clear e2
        go_wp2_with fail
        have hRo : FarmAt wr w1.heap.size wr.heap.size (.agg #[.slice a1 n1 m1, .slice a2 n2 m2, .float .f32 r, .float .f32 d, .float .f32 s]) zs us r d s := ⟨_, _, rfl, hM.out.r1, hM.out.r2, hM.out.ap⟩
        have hGR : Grew w1 wr := hM.out.gr
        have hlo : w.heap.size + 1 ≤ w1.heap.size := by omega
        have hzs : zs.length ≤ 1048576 := by have := hzl.out; have := NN.out; omega
        have hus : us.length ≤ 1048576 := by rw [HU.out]; simp; have := NN.out; omega
        have d1 := Lib.hid hM.out.d1
        have d2 := Lib.hid hM.out.d2
        have hbv : vFarm zs us r d s = BB := by rw [vFarm_D, d1.out, d2.out]; exact HB.out
        clear r0 r1 q2 q3 q4 f0 hM hF
        have hG := Lib.hid (grew_trans G1.out hGR)
        refine (c_checkedFarm _ _ _ _ _ r d s _ hRo (Nat.le_refl _)).mono ?_
        rintro e w4 ⟨rfl, hg4⟩
        rw [hbv]
        have hRo4 := Lib.hid (hRo.grew (Nat.le_refl _) hg4)
        have hG4 := Lib.hid (grew_trans hG.out hg4)
        have R4 := Lib.hid ((R1.out.grew z1 hGR).grew (Nat.lt_of_lt_of_le z1 (Below.size hGR)) hg4)
        have hsz4 : wr.heap.size ≤ w4.heap.size := Below.size hg4
        have hw1 : w1.heap.size ≤ wr.heap.size := Below.size hGR
        have z4 : w.heap.size < w4.heap.size := by omega
        clear hg4 hRo hGR hbv
        obtain ⟨⟨b0, b1, b2, b3, b4⟩, bf⟩ := R4.out
        cases BB
        · simp only [Bool.false_eq_true, if_false, ZFM]
          go_wp2_with fail
          refine bodyPost_ret (v := .tuple #[ZFM, .bool false]) (by simp [results, Try.results13, go_sem, b0, b1, b2, b3, b4, ZFM]) rfl ?_
          have hr1 : (0 : Nat) = RR := H1.out
          have hr2 : (0 : Nat) = RD := H2.out
          have hr3 : (0 : Nat) = RS := H3.out
          rw [← hr1, ← hr2, ← hr3]
          exact ⟨_, [], [], rfl, farm_nil _ _ _, HD.out, HE.out, (by repeat (first | (with_reducible exact hG4.out) | (with_reducible exact grw_refl _) | (with_reducible refine grew_draw _ _ ?_) | (with_reducible refine grew_al ?_ _) | (with_reducible refine grew_set ?_ ?_; rotate_left; omega)))⟩
        · simp only [if_true]
          go_wp2_with fail
          have hst := st5_at R4.out.1 (.slice a1 n1 m1) (.slice a2 n2 m2) r d s
          have hW := st5_wrote w4 (w.heap.size) (.slice a1 n1 m1) (.slice a2 n2 m2) r d s
          obtain ⟨X, Y, he, h1, h2, h3⟩ := hRo4.out
          have hz3 : w.heap.size ≤ w1.heap.size := by have := Below.size G1.out; omega
          have hG5 : Grew w (st5 w4 (w.heap.size) (.slice a1 n1 m1) (.slice a2 n2 m2) r d s) := Wrote.below hG4.out hW (by have := Below.size hG4.out; omega) (by omega)
          have hsz5 : wr.heap.size ≤ (st5 w4 (w.heap.size) (.slice a1 n1 m1) (.slice a2 n2 m2) r d s).heap.size := Nat.le_trans hsz4 hW.size
          have hRo5 : FarmAt (st5 w4 (w.heap.size) (.slice a1 n1 m1) (.slice a2 n2 m2) r d s) w.heap.size _ (.agg #[.slice a1 n1 m1, .slice a2 n2 m2, .float .f32 r, .float .f32 d, .float .f32 s]) zs us r d s :=
            ⟨X, Y, he, (h1.wrote hsz4 hW (.inr (by omega))).mono hz3 hsz5, (h2.wrote hsz4 hW (.inr (by omega))).mono hz3 hsz5, h3⟩
          show bodyPost _ _ _ _ _ (st5 w4 (w.heap.size) (.slice a1 n1 m1) (.slice a2 n2 m2) r d s)
          generalize (st5 w4 (w.heap.size) (.slice a1 n1 m1) (.slice a2 n2 m2) r d s) = w5 at *
          obtain ⟨e0, e1, e2, e3, e4⟩ := hst
          refine bodyPost_ret (v := .tuple #[.agg #[.slice a1 n1 m1, .slice a2 n2 m2, .float .f32 r, .float .f32 d, .float .f32 s], .bool true]) (by simp [results, Try.results13, go_sem, e0, e1, e2, e3, e4]) rfl ?_
          have hr1 : r = RR := H1.out
          have hr2 : d = RD := H2.out
          have hr3 : s = RS := H3.out
          rw [← hr1, ← hr2, ← hr3]
          exact ⟨_, zs, us, rfl, hRo5, by first | exact d1.out.trans HD.out | exact HD.out, by first | exact d2.out.trans HE.out | exact HE.out, hG5⟩

end Go.Proofs.Ytlakmogclcpgdaa
