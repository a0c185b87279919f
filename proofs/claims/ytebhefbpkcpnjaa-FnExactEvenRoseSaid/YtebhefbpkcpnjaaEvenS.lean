/-
  CONTRACT: the even rose, in the reference.
-/
import Derived.Test.YtebhefbpkcpnjaaEven
namespace Go.Proofs.Ytebhefbpkcpnjaa
open Go.RowKit Go.Flt
set_option linter.unusedVariables false
set_option maxRecDepth 100000
set_option linter.unusedSimpArgs false

theorem cell_one_new' (w : World) (x : Value) (t : TypeId) (b : Nat) (h : b = w.heap.size) : ∀ j u, [x][j]? = some u → (w.alloc (.cells #[x] t)).cell? ((⟨b, 0, none⟩ : Addr).add j) = some u := h ▸ cell_one_new w x t

theorem repD_succ {α : Type} (k : Nat) (x : α) : List.replicate (k + 1) x = List.replicate k x ++ [x] := List.replicate_succ'

set_option maxHeartbeats 4000000 in
theorem c_specEven (n : Int) (s : Nat) (w : World) (fs : fits s) :
    Calls Try.prog 23 #[.int .i64 n, .float .f32 s] w (RetR (if isEven n s then List.replicate n.toNat (evenD n) else []) (if isEven n s then List.replicate n.toNat (cl .f32 s) else []) (isEven n s) w) := by
  cases k1 : okSec n
  · have e : isEven n s = false := by simp [isEven, k1]
    rw [e]
    have k2 : within n 1 16 = false := k1
    go_enter Try.func23, Try.ntmps23
    go_wp2_with (go_at_call 57; refine (c_l00In _ _ _ _).mono ?_; rintro e w' ⟨rfl, nq, rfl⟩)
    refine bodyPost_ret (v := .tuple #[ZRO, .bool false]) (by simp [results, Try.results23, go_sem, ZRO]) rfl ?_
    exact ⟨_, [], [], rfl, rose_nil _ _ _, rfl, rfl, by (show Below _ _ _; (repeat (first | exact Below.refl _ _ | refine ext_below ?_ (by first | omega | (simp only [size_ext, heap_push, Array.size_push, World.heap_drewN]; omega) | (simp; omega)) _ _ | refine below_draws ?_ _ | refine Below.alloc ?_ (by first | omega | (simp; done) | (simp; omega)) _ | refine Below.setCell ?_ (by first | omega | (simp; done) | (simp; omega)) _ | refine below_then (by assumption) (by first | omega | (simp; done) | (simp; omega)) ?_)))⟩
  · have hk : isEven n s = vRoseD (List.replicate n.toNat (evenD n)) (List.replicate n.toNat (cl .f32 s)) := by unfold isEven; rw [k1]; rfl
    rw [hk]
    obtain ⟨c, rfl⟩ : ∃ c : Nat, n = c := ⟨n.toNat, by simp [okSec, within] at k1; omega⟩
    have hc : 1 ≤ c ∧ c ≤ 16 := by simp [okSec, within] at k1; omega
    have k2 : within (c : Int) 1 16 = true := k1
    have NN := Lib.hid hc
    simp only [Int.toNat_natCast]
    have hE1 : fop .quo .f32 (cl .f32 1065353216) (cl .f32 (floatOfInt .f32 (c : Int))) = evenD (c : Int) := rfl
    have HQ := Lib.hid hE1
    generalize hV : evenD (c : Int) = V at *
    generalize hB : vRoseD (List.replicate c V) (List.replicate c (cl .f32 s)) = BB
    generalize hD : (if BB then List.replicate c V else []) = DD
    generalize hE : (if BB then List.replicate c (cl .f32 s) else []) = EE
    have HB := Lib.hid hB
    have HD := Lib.hid hD
    have HE := Lib.hid hE
    have FS := Lib.hid fs
    obtain ⟨i, hi, hz0, hz1, hz2⟩ := info_parts info_float32
    have HI := Lib.hid hi
    have HI0 := Lib.hid hz0
    have HI1 := Lib.hid hz1
    have HI2 := Lib.hid hz2
    clear hV hB hD hE hk hc hi hz0 hz1 hz2 hE1 k1 fs
    go_enter Try.func23, Try.ntmps23
    go_wp2_with fail
    refine (c_l00In _ _ _ _).mono ?_
    rintro e w1 ⟨rfl, nq, hw1⟩
    rw [k2]
    have G1 : Hid (Grew w w1) := by rw [hw1]; show Grew w _; (show Below _ _ _; (repeat (first | exact Below.refl _ _ | refine ext_below ?_ (by first | omega | (simp only [size_ext, heap_push, Array.size_push, World.heap_drewN]; omega) | (simp; omega)) _ _ | refine below_draws ?_ _ | refine Below.alloc ?_ (by first | omega | (simp; done) | (simp; omega)) _ | refine Below.setCell ?_ (by first | omega | (simp; done) | (simp; omega)) _ | refine below_then (by assumption) (by first | omega | (simp; done) | (simp; omega)) ?_)))
    have R1 : Hid (BoxR w1 w.heap.size (.slice none 0 0) (.slice none 0 0)) := by rw [hw1]; refine ⟨⟨?_, ?_⟩, ?_, ?_⟩ <;> simp [go_sem]
    have z1 : w.heap.size < w1.heap.size := by rw [hw1]; simp
    clear hw1 k2
    go_wp2_with fail
    have m1 := row_made (g := Value.float .f32) (t := 23) w1 (grw_refl w1)
    have m2 := row_made (g := Value.float .f32) (t := 23) (w1.alloc (.cells #[] 23)) m1.2
    have M0 := Lib.hid (mix_boxed (w0 := w1) (lo := w1.heap.size) (zs := []) (us := []) (S1 := .slice (some ⟨w1.heap.size, 0, none⟩) 0 0) (S2 := .slice (some ⟨w1.heap.size + 1, 0, none⟩) 0 0) (RowAt.mono (m1.1.alloc (.cells #[] 23)) (Nat.le_refl _) (by simp)) (by have h := m2.1; rw [size_al] at h; exact RowAt.mono h (Nat.le_refl _) (by simp)) (fun k h e => by simp [Value.ownBlock] at h e; omega) (Nat.le_refl _) (by simp <;> omega) m2.2)
    have e2 : ((w1.alloc (.cells #[] 23)).alloc (.cells #[] 23)).heap.size = w1.heap.size + 1 + 1 := by simp
    rw [e2] at M0
    clear m1 m2 e2
    go_loopw [7] (fun i wr => ∃ (k : Nat) (v1 v2 : Value) (zs us : List Nat), k ≤ c ∧ i = .int .i64 k ∧ Hid (zs.length = k) ∧ Hid (us.length = k) ∧ Hid (MixAt w1 wr w1.heap.size (w1.heap.size + 1 + 1) v1 v2 zs us (List.replicate k V) (List.replicate k (cl .f32 s)))) (fun i _ => c - (intOf i).toNat)
    case atStart => exact ⟨0, _, _, [], [], Nat.zero_le _, rfl, rfl, rfl, M0⟩
    case round =>
      obtain ⟨k, v1, v2, zs, us, hk, rfl, hzl, hul, hM⟩ := hrel
      have s2 : w1.heap.size + 1 + 1 < wr.heap.size := hM.out.lt
      have s1 : w1.heap.size ≤ wr.heap.size := by omega
      have r0 := hM.out.c0
      have f0 := hM.out.f0
      by_cases hlt : k < c
      · have i4 : (k : Int) < (c : Int) := by omega
        have HW := Lib.hid (show wrap64 ((k : Int) + 1) = (k : Int) + 1 by have := NN.out; unfold wrap64; omega)
        have HL1 := Lib.hid (repD_succ k V)
        have HL2 := Lib.hid (repD_succ k (cl .f32 s))
        go_wp2_with (first | (refine upon_fbin rfl _ _ _ _ ?_; intro z n hz hzw) | (at_builtin; (refine wpList_append_own_at _ rfl (.tmp 21) (.tmp 25) 22 rfl w1.heap.size 23 i (.float .f32 0) 1 4 Try.underlying22 HI.out HI0.out HI1.out HI2.out rfl (by decide) v1 zs.length _ rfl (RowAt.grew hM.out.r1 (Nat.le_refl _) (grew_al (grew_draw _ _ (grew_refl wr)) _)).1 ⟨_, 0, none⟩ 1 _ [.float .f32 z] rfl rfl (cell_one_new _ _ _) (by simp [Value.oneCell']) (by have := hzl.out; have := NN.out; unfold maxLen; omega) (by have := hzl.out; have := NN.out; omega) (by simp; omega) ?_; rintro v3 w3 hown hgr _ hat; have hP := Lib.hid (mix_push1 hM.out (grew_al (grew_draw _ _ (grew_refl wr)) _) hown hgr hat (hz.trans HQ.out)); clear hown hgr hat; obtain ⟨A9, n9, c9, rfl⟩ := hP.out.1.r1.sl; have c9' := hP.out.2.1; have f9' := hP.out.2.2; have c8w := (cell_set_other w3 _ 0 1 _ (by omega)).symm.trans hP.out.1.c1; have f8w := (frozen_set w3 _ 0 1 _ _).symm.trans hP.out.1.f1; have hQ := Lib.hid hP.out.1)) | (at_builtin; (refine wpList_append_own_at _ rfl (.tmp 29) (.tmp 31) 22 rfl w1.heap.size 23 i (.float .f32 0) 1 4 Try.underlying22 HI.out HI0.out HI1.out HI2.out rfl (by decide) v2 us.length _ rfl (RowAt.grew hQ.out.r2 (Nat.le_refl _) (grew_al (grew_refl _) _)).1 ⟨_, 0, none⟩ 1 _ [.float .f32 s] rfl rfl (cell_one_new' _ _ _ _ (by simp [World.setCell])) (by simp [Value.oneCell']) (by have := hul.out; have := NN.out; unfold maxLen; omega) (by have := hul.out; have := NN.out; omega) (by have := hQ.out.ll; simp at this; simp; omega) ?_; rintro v4 w4 hown hgr _ hat; have hP2 := Lib.hid (mix_push2 hQ.out (grew_al (grew_refl _) _) hown hgr hat rfl); clear hown hgr hat; obtain ⟨A8, n8, c8, rfl⟩ := hP2.out.1.r2.sl; have c8' := hP2.out.2.1; have f8' := hP2.out.2.2)))
        have hM4 := Lib.hid hP2.out.1
        rw [← HL1.out, ← HL2.out] at hM4
        go_roundw
        case rel => exact ⟨k + 1, _, _, zs ++ [_], us ++ [_], by omega, by have e := HW.out; simp [e], by show (zs ++ [_]).length = _; simp [hzl.out], by show (us ++ [_]).length = _; simp [hul.out], hM4⟩
        case measure =>
          have e := HW.out
          exact meas_less hlt e
      · obtain rfl : k = c := by omega
        have r1 := hM.out.c1
        go_wp2_with fail
        have hzs : zs.length ≤ 1048576 := by have := NN.out; have := hzl.out; omega
        have hus : us.length ≤ 1048576 := by have := NN.out; have := hul.out; omega
        have hbv : vRose zs us = BB := by rw [← HB.out, ← hM.out.d1, ← hM.out.d2]; rfl
        have d1 := Lib.hid hM.out.d1
        have d2 := Lib.hid hM.out.d2
        clear r0 r1 f0
        have hRo : RoseAt wr w1.heap.size wr.heap.size (.agg #[_, _]) zs us := ⟨_, _, rfl, hM.out.r1, hM.out.r2, hM.out.ap⟩
        have hGR : Grew w1 wr := hM.out.gr
        obtain ⟨a1, n1, m1, ea1⟩ := hM.out.r1.sl
        obtain ⟨a2, n2, m2, ea2⟩ := hM.out.r2.sl
        simp only [ea1, ea2] at hRo ⊢
        have hlo : w1.heap.size ≤ w1.heap.size := hM.out.hl
        clear hM ea1 ea2
        have hG := Lib.hid (grew_trans G1.out hGR)
        refine (c_l04Give _ _ _ _ _ _ hRo (Nat.le_refl _)).mono ?_
        rintro e w4 ⟨rfl, hg4⟩
        rw [hbv]
        have hRo4 := Lib.hid (hRo.grew (Nat.le_refl _) hg4)
        have hG4 := Lib.hid (grew_trans hG.out hg4)
        have R4 := Lib.hid ((R1.out.grew z1 hGR).grew (Nat.lt_of_lt_of_le z1 (Below.size hGR)) hg4)
        have hsz4 : wr.heap.size ≤ w4.heap.size := Below.size hg4
        have hw1 : w1.heap.size ≤ wr.heap.size := Below.size hGR
        have z4 : w.heap.size < w4.heap.size := by omega
        clear hg4 hRo hGR hbv
        obtain ⟨⟨b0, b1⟩, b2, b3⟩ := R4.out
        cases BB
        · simp only [Bool.false_eq_true, if_false, ZRO]
          go_wp2_with fail
          refine bodyPost_ret (v := .tuple #[ZRO, .bool false]) (by simp [results, Try.results23, go_sem, b0, b1, ZRO]) rfl ?_
          exact ⟨_, [], [], rfl, rose_nil _ _ _, HD.out, HE.out, (by repeat (first | (with_reducible exact hG4.out) | (with_reducible exact grw_refl _) | (with_reducible refine grew_draw _ _ ?_) | (with_reducible refine grew_al ?_ _) | (with_reducible refine grew_set ?_ ?_; rotate_left; omega)))⟩
        · simp only [if_true]
          go_wp2_with fail
          have e0 := (cell_set_other _ _ 1 0 (.slice a2 n2 m2) (by omega)).trans (cell_set_own _ _ 0 (.slice a1 n1 m1) _ b0)
          have e1 := cell_set_own _ _ 1 (.slice a2 n2 m2) _ ((cell_set_other _ _ 0 1 (.slice a1 n1 m1) (by omega)).trans b1)
          have hW : Wrote (w.heap.size) (w.heap.size + 1) w4 ((w4.setCell ⟨w.heap.size, 0, none⟩ (.slice a1 n1 m1)).setCell ⟨w.heap.size, 1, none⟩ (.slice a2 n2 m2)) := (Wrote.of_outside (outside_set _ _ _ _)).trans (Wrote.of_outside (outside_set _ _ _ _))
          obtain ⟨X, Y, he, h1, h2, h3⟩ := hRo4.out
          have hz3 : w.heap.size ≤ w1.heap.size := by have := Below.size G1.out; omega
          have hG5 : Grew w ((w4.setCell ⟨w.heap.size, 0, none⟩ (.slice a1 n1 m1)).setCell ⟨w.heap.size, 1, none⟩ (.slice a2 n2 m2)) := grew_set (grew_set hG4.out (by omega)) (by omega)
          have hsz5 : wr.heap.size ≤ ((w4.setCell ⟨w.heap.size, 0, none⟩ (.slice a1 n1 m1)).setCell ⟨w.heap.size, 1, none⟩ (.slice a2 n2 m2)).heap.size := Nat.le_trans hsz4 hW.size
          have hRo5 : RoseAt ((w4.setCell ⟨w.heap.size, 0, none⟩ (.slice a1 n1 m1)).setCell ⟨w.heap.size, 1, none⟩ (.slice a2 n2 m2)) w.heap.size _ (.agg #[.slice a1 n1 m1, .slice a2 n2 m2]) zs us :=
            ⟨X, Y, he, (h1.wrote hsz4 hW (.inr (by omega))).mono hz3 hsz5, (h2.wrote hsz4 hW (.inr (by omega))).mono hz3 hsz5, h3⟩
          generalize ((w4.setCell ⟨w.heap.size, 0, none⟩ (.slice a1 n1 m1)).setCell ⟨w.heap.size, 1, none⟩ (.slice a2 n2 m2)) = w5 at *
          refine bodyPost_ret (v := .tuple #[.agg #[.slice a1 n1 m1, .slice a2 n2 m2], .bool true]) (by simp [results, Try.results23, go_sem, e0, e1]) rfl ?_
          exact ⟨_, zs, us, rfl, hRo5, by first | exact d1.out.trans HD.out | exact HD.out, by first | exact d2.out.trans HE.out | exact HE.out, hG5⟩

end Go.Proofs.Ytebhefbpkcpnjaa
