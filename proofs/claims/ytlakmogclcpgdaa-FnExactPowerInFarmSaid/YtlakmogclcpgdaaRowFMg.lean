/-
  CONTRACTS: rotors in a row, in the reference.
-/
import Derived.Test.YtlakmogclcpgdaaConcatMg
import Derived.Test.YtlakmogclcpgdaaLedRMg
namespace Go.Proofs.Ytlakmogclcpgdaa
open Go.RowKit Go.Flt
set_option linter.unusedVariables false
set_option maxRecDepth 100000
set_option linter.unusedSimpArgs false

theorem cell_one_new' (w : World) (x : Value) (t : TypeId) (b : Nat) (h : b = w.heap.size) : ∀ j u, [x][j]? = some u → (w.alloc (.cells #[x] t)).cell? ((⟨b, 0, none⟩ : Addr).add j) = some u := h ▸ cell_one_new w x t

theorem repD_succ {α : Type} (k : Nat) (x : α) : List.replicate (k + 1) x = List.replicate k x ++ [x] := List.replicate_succ'

def rowD (gap : Ieee.Datum) (j : Nat) : Ieee.Datum := fop .mul .f32 (cl .f32 (floatOfInt .f32 j)) gap

def rowL (gap : Ieee.Datum) (k : Nat) : List Ieee.Datum := (List.range k).map (rowD gap)

theorem rowL_succ (gap : Ieee.Datum) (k : Nat) : rowL gap (k + 1) = rowL gap k ++ [rowD gap k] := by simp [rowL, List.range_succ]

def isRowF (n : Int) (g r d s : Nat) : Bool := within n 1 12 && vFarmD (rowL (cl .f32 g) n.toNat) (List.replicate n.toNat (cl .f32 0)) r d s

set_option maxHeartbeats 4000000 in
theorem c_l06Row (c g r d s : Nat) (w : World) (hc : c ≤ 12) :
    Calls Try.prog 41 #[.int .i64 c, .float .f32 g, .float .f32 r, .float .f32 d, .float .f32 s] w fun e w' => ∃ v zs us, e = .returned v ∧ FarmAt w' (w.heap.size + 1) w'.heap.size v zs us r d s ∧ zs.map (cl .f32) = rowL (cl .f32 g) c ∧ us.map (cl .f32) = List.replicate c (cl .f32 0) ∧ Grew w w' := by
  have NN := Lib.hid hc
  obtain ⟨i, hi, hz0, hz1, hz2⟩ := info_parts info_float32
  have HI := Lib.hid hi
  have HI0 := Lib.hid hz0
  have HI1 := Lib.hid hz1
  have HI2 := Lib.hid hz2
  obtain ⟨w1, hw1⟩ : ∃ w1, w1 = w.alloc (.cells #[.slice none 0 0, .slice none 0 0, .float .f32 0, .float .f32 0, .float .f32 0] 25) := ⟨_, rfl⟩
  have G1 : Hid (Grew w w1) := by rw [hw1]; show Grew w _; (show Below _ _ _; (repeat (first | exact Below.refl _ _ | refine ext_below ?_ (by first | omega | (simp only [size_ext, heap_push, Array.size_push, World.heap_drewN]; omega) | (simp; omega)) _ _ | refine below_draws ?_ _ | refine Below.alloc ?_ (by first | omega | (simp; done) | (simp; omega)) _ | refine Below.setCell ?_ (by first | omega | (simp; done) | (simp; omega)) _ | refine below_then (by assumption) (by first | omega | (simp; done) | (simp; omega)) ?_)))
  have R1 : Hid (BoxF w1 w.heap.size) := by rw [hw1]; refine ⟨by unfold FmAt; simp, fun o => by simp [go_sem]⟩
  have z1 : w.heap.size < w1.heap.size := by rw [hw1]; simp
  have HW1 := Lib.hid hw1.symm
  clear hc hi hz0 hz1 hz2 hw1
  go_enter Try.func41, Try.ntmps41
  go_wp2_with fail
  rw [HW1.out]
  have e1 : w.heap.size + 1 = w1.heap.size := by rw [← HW1.out]; simp
  rw [e1]
  have m1 := row_made (g := Value.float .f32) (t := 22) w1 (grw_refl w1)
  have m2 := row_made (g := Value.float .f32) (t := 22) (w1.alloc (.cells #[] 22)) m1.2
  have M0 := Lib.hid (mix_boxedF (w0 := w1) (lo := w1.heap.size) (zs := []) (us := []) (S1 := .slice (some ⟨w1.heap.size, 0, none⟩) 0 0) (S2 := .slice (some ⟨w1.heap.size + 1, 0, none⟩) 0 0) r d s (RowAt.mono (m1.1.alloc (.cells #[] 22)) (Nat.le_refl _) (by simp)) (by have h := m2.1; rw [size_al] at h; exact RowAt.mono h (Nat.le_refl _) (by simp)) (fun k h e => by simp [Value.ownBlock] at h e; omega) (Nat.le_refl _) (by simp <;> omega) m2.2)
  have e2 : ((w1.alloc (.cells #[] 22)).alloc (.cells #[] 22)).heap.size = w1.heap.size + 1 + 1 := by simp
  rw [e2] at M0
  have E1 := Lib.hid e1
  clear m1 m2 e2 HW1 e1
  go_loopw [12] (fun i wr => ∃ (k : Nat) (v1 v2 : Value) (zs us : List Nat), k ≤ c ∧ i = .int .i64 k ∧ Hid (zs.length = k) ∧ Hid (us.length = k) ∧ Hid (MixAt w1 wr w1.heap.size (w1.heap.size + 1 + 1) v1 v2 zs us (rowL (cl .f32 g) k) (List.replicate k (cl .f32 0)) ∧ FmBox wr (w1.heap.size + 1 + 1) r d s)) (fun i _ => c - (intOf i).toNat)
  case atStart => exact ⟨0, _, _, [], [], Nat.zero_le _, rfl, rfl, rfl, M0⟩
  case round =>
    obtain ⟨k, v1, v2, zs, us, hk, rfl, hzl, hul, hMF⟩ := hrel
    have hM := Lib.hid hMF.out.1
    have hF := Lib.hid hMF.out.2
    have s2 : w1.heap.size + 1 + 1 < wr.heap.size := hM.out.lt
    have s1 : w1.heap.size ≤ wr.heap.size := by omega
    have r0 := hM.out.c0
    have f0 := hM.out.f0
    clear hMF
    by_cases hlt : k < c
    · have i4 : (k : Int) < (c : Int) := by omega
      have HW := Lib.hid (show wrap64 ((k : Int) + 1) = (k : Int) + 1 by have := NN.out; unfold wrap64; omega)
      have HL1 := Lib.hid (rowL_succ (cl .f32 g) k)
      have HL2 := Lib.hid (repD_succ k (cl .f32 0))
      have HQ : Hid (fop .mul .f32 (cl .f32 (floatOfInt .f32 (k : Int))) (cl .f32 g) = rowD (cl .f32 g) k) := rfl
      go_wp2_with (first | (refine upon_fbin rfl _ _ _ _ ?_; intro z n hz hzw) | (at_builtin; refine wpList_append_own_at _ rfl (.tmp 25) (.tmp 30) 23 rfl w1.heap.size 22 i (.float .f32 0) 1 4 Try.underlying23 HI.out HI0.out HI1.out HI2.out rfl (by decide) v1 zs.length _ rfl (RowAt.grew hM.out.r1 (Nat.le_refl _) (grew_al (grew_draw _ _ (grew_refl wr)) _)).1 ⟨_, 0, none⟩ 1 _ [.float .f32 z] rfl rfl (cell_one_new _ _ _) (by simp [Value.oneCell']) (by have := hzl.out; have := NN.out; unfold maxLen; omega) (by have := hzl.out; have := NN.out; omega) (by simp; omega) ?_; rintro v3 w3 hown hgr _ hat; have hP := Lib.hid (mix_push1 hM.out (grew_al (grew_draw _ _ (grew_refl wr)) _) hown hgr hat (hz.trans HQ.out)); have hB := Lib.hid (hF.out.keep (mix_same hM.out (grew_al (grew_draw _ _ (grew_refl wr)) _) hgr (.inl rfl))); clear hown hgr hat; obtain ⟨A9, n9, c9, rfl⟩ := hP.out.1.r1.sl; have c9' := hP.out.2.1; have f9' := hP.out.2.2; have c8w := (cell_set_other w3 _ 0 1 _ (by omega)).symm.trans hP.out.1.c1; have f8w := (frozen_set w3 _ 0 1 _ _).symm.trans hP.out.1.f1; have hB2 := Lib.hid (hB.out.set 0 (by omega) (.slice A9 n9 c9)); have hQ := Lib.hid hP.out.1) | (at_builtin; refine wpList_append_own_at _ rfl (.tmp 34) (.tmp 35) 23 rfl w1.heap.size 22 i (.float .f32 0) 1 4 Try.underlying23 HI.out HI0.out HI1.out HI2.out rfl (by decide) v2 us.length _ rfl (RowAt.grew hQ.out.r2 (Nat.le_refl _) (grew_al (grew_refl _) _)).1 ⟨_, 0, none⟩ 1 _ [.float .f32 0] rfl rfl (cell_one_new' _ _ _ _ (by simp [World.setCell])) (by simp [Value.oneCell']) (by have := hul.out; have := NN.out; unfold maxLen; omega) (by have := hul.out; have := NN.out; omega) (by have := hQ.out.ll; simp at this; simp; omega) ?_; rintro v4 w4 hown hgr _ hat; have hP2 := Lib.hid (mix_push2 hQ.out (grew_al (grew_refl _) _) hown hgr hat rfl); have hB3 := Lib.hid (hB2.out.keep (mix_same hQ.out (grew_al (grew_refl _) _) hgr (.inr rfl))); clear hown hgr hat; obtain ⟨A8, n8, c8, rfl⟩ := hP2.out.1.r2.sl; have c8' := hP2.out.2.1; have f8' := hP2.out.2.2))
      have hM4 := Lib.hid hP2.out.1
      have hF4 := Lib.hid (hB3.out.set 1 (by omega) (.slice A8 n8 c8))
      rw [← HL1.out, ← HL2.out] at hM4
      go_roundw
      case rel => exact ⟨k + 1, _, _, zs ++ [_], us ++ [_], by omega, by have e := HW.out; simp [e], by show (zs ++ [_]).length = _; simp [hzl.out], by show (us ++ [_]).length = _; simp [hul.out], ⟨hM4.out, hF4.out⟩⟩
      case measure =>
        have e := HW.out
        exact meas_less hlt e
    · obtain rfl : k = c := by omega
      have r1 := hM.out.c1
      obtain ⟨q2, q3, q4⟩ := hF.out
      obtain ⟨a1, n1, m1, rfl⟩ := hM.out.r1.sl
      obtain ⟨a2, n2, m2, rfl⟩ := hM.out.r2.sl
      have R2 := Lib.hid (R1.out.grew z1 hM.out.gr)
      obtain ⟨⟨b0, b1, b2, b3, b4⟩, bf⟩ := R2.out
      have i4 : ¬ (k : Int) < (k : Int) := by omega
      go_wp2_with fail
      have hst := st5_at R2.out.1 (.slice a1 n1 m1) (.slice a2 n2 m2) r d s
      have hW := st5_wrote wr w.heap.size (.slice a1 n1 m1) (.slice a2 n2 m2) r d s
      have hG := grew_trans G1.out hM.out.gr
      have hsz : wr.heap.size ≤ (st5 wr w.heap.size (.slice a1 n1 m1) (.slice a2 n2 m2) r d s).heap.size := hW.size
      have hRo : FarmAt (st5 wr w.heap.size (.slice a1 n1 m1) (.slice a2 n2 m2) r d s) (w.heap.size + 1) _ (.agg #[.slice a1 n1 m1, .slice a2 n2 m2, .float .f32 r, .float .f32 d, .float .f32 s]) zs us r d s :=
        ⟨_, _, rfl, (hM.out.r1.wrote (Nat.le_refl _) hW (.inr (by have := E1.out; omega))).mono (by have := E1.out; omega) hsz, (hM.out.r2.wrote (Nat.le_refl _) hW (.inr (by have := E1.out; omega))).mono (by have := E1.out; omega) hsz, hM.out.ap⟩
      have hG5 : Grew w (st5 wr w.heap.size (.slice a1 n1 m1) (.slice a2 n2 m2) r d s) := Wrote.below hG hW (by have := Below.size hG; omega) (by omega)
      show bodyPost _ _ _ _ _ (st5 wr w.heap.size (.slice a1 n1 m1) (.slice a2 n2 m2) r d s)
      have d1 := Lib.hid hM.out.d1
      have d2 := Lib.hid hM.out.d2
      generalize st5 wr w.heap.size (.slice a1 n1 m1) (.slice a2 n2 m2) r d s = w5 at *
      obtain ⟨e0, e1, e2, e3, e4⟩ := hst
      refine bodyPost_ret (v := .agg #[.slice a1 n1 m1, .slice a2 n2 m2, .float .f32 r, .float .f32 d, .float .f32 s]) (by simp [results, Try.results41, go_sem, e0, e1, e2, e3, e4]) rfl ?_
      exact ⟨_, rfl, zs, us, hRo, d1.out, d2.out, hG5⟩

end Go.Proofs.Ytlakmogclcpgdaa

