/-
  PLAIN LAWS: an angle without whole turns is small.
-/
import Derived.Test.YtkippcjifikegaaErr
import Derived.Test.YtkippcjifikegaaWrap
import Derived.Test.YtkippcjifikegaaNeg
namespace Go.Flt
open Go Ieee

theorem sub_num {x y : Datum} (hx : isNum x = true) (h : isNum (fop .sub .f64 x y) = true) : isNum y = true := by
  cases x <;> simp only [isNum] at hx <;> first | (cases hx; done) | skip
  rename_i s m i
  cases y with
  | number => rfl
  | infinity t =>
    exfalso
    rw [show fop .sub .f64 (.number s m i) (.infinity t) = fop .sub .f64 (.number false 0 0) (.infinity t) from rfl] at h
    cases t <;> revert h <;> decide
  | nan s' t =>
    exfalso
    rw [show fop .sub .f64 (.number s m i) (.nan s' t) = fop .sub .f64 (.number false 0 0) (.nan false 0) from rfl] at h
    revert h
    decide

attribute [local irreducible] tw

set_option maxHeartbeats 1000000 in
theorem left_small (b : Nat) (h : isNum (cl .f32 b) = true) : (iv (-1074) (left (wid (cl .f32 b)))).natAbs ≤ tw 1154 ∧ place (-1074) (nar (left (wid (cl .f32 b)))) ∧ (iv (-1074) (nar (left (wid (cl .f32 b))))).natAbs ≤ tw 1155 := by
  obtain ⟨o1, o2, o3⟩ := left_ok b h
  have hW := wid_isNum b h
  obtain ⟨ww, hww⟩ := wid_fix b h
  obtain ⟨hw1, hw2⟩ := wid_bound b h
  rw [nar_rd o2] at o3 ⊢
  have hF : isNum (flo (fop .add .f64 (wid (cl .f32 b)) (cl .f64 4602678819172646912))) = true := sub_num hW o2
  unfold left at *
  generalize wid (cl .f32 b) = W at *
  have pW : place (-1074) W := by rw [hww]; exact place64 ww
  have nh : isNum (cl .f64 4602678819172646912) = true := by rw [c_half]; rfl
  have ph : place (-1074) (cl .f64 4602678819172646912) := place64 _
  obtain ⟨d, hd, nd, hdB⟩ := fop_add (k := .f64) hW nh
  obtain ⟨pd, ed⟩ := hdB (-1074) pW ph
  have eh : iv (-1074) (cl .f64 4602678819172646912) = (tw 1073 : Int) := by
    rw [c_half, iv_of _ _ _ 1021 (by omega), if_neg (by simp), tw53, ← tw_add]
  rw [eh] at ed
  rw [hd] at o1 o2 o3 hF ⊢
  have E1 := err64 nd pd o1
  have pS : place (-1074) (rd .f64 d) := place64 _
  generalize rd .f64 d = S at *
  obtain ⟨nG, hG⟩ := floor_num o1
  obtain ⟨pG, g1, g2⟩ := hG (-1074) (by omega) pS
  have e74 : (-(-1074) : Int).toNat = 1074 := rfl
  rw [e74] at g2
  have hflo : flo S = rd .f64 (S.integral .down) := by
    cases S <;> simp only [isNum] at o1 <;> first | (cases o1; done) | skip
    rfl
  rw [hflo] at o2 o3 hF ⊢
  generalize S.integral .down = G at *
  have E2 := err64 nG pG hF
  have pF : place (-1074) (rd .f64 G) := place64 _
  generalize rd .f64 G = F at *
  obtain ⟨e, he, ne, heB⟩ := fop_sub (k := .f64) hW hF
  obtain ⟨pe, ee⟩ := heB (-1074) pW pF
  rw [he] at o2 o3 ⊢
  have E3 := err64 ne pe o2
  have pL : place (-1074) (rd .f64 e) := place64 _
  generalize rd .f64 e = L at *
  obtain ⟨pN, E4⟩ := err32 o2 pL o3
  generalize rd .f32 L = N at *
  -- powers
  have q1 : tw 1202 = tw 1149 * tw 53 := tw_add 1149 53
  have q2 : tw 1150 = 2 * tw 1149 := tw_succ 1149
  have q3 : tw 1151 = 2 * tw 1150 := tw_succ 1150
  have q4 : tw 1152 = 2 * tw 1151 := tw_succ 1151
  have q5 : tw 1153 = 2 * tw 1152 := tw_succ 1152
  have q6 : tw 1154 = 2 * tw 1153 := tw_succ 1153
  have q7 : tw 1155 = 2 * tw 1154 := tw_succ 1154
  have q8 : tw 1074 = 2 * tw 1073 := tw_succ 1073
  have q9 : tw 1074 ≤ tw 1149 := tw_le (by omega)
  have q10 : tw 52 ≤ tw 1149 := tw_le (by omega)
  have q11 : tw 948 ≤ tw 1149 := tw_le (by omega)
  have q12 : 0 < tw 53 := tw_pos _
  have q13 : tw 1150 * tw 53 = 2 * tw 1202 := by rw [q2, Nat.mul_assoc, ← q1]
  have q14 : tw 1151 * tw 53 = 4 * tw 1202 := by rw [q3, Nat.mul_assoc, q13]; omega
  have q15 : tw 1178 ≤ tw 1202 := tw_le (by omega)
  have q16 : tw 1074 ≤ tw 1178 := tw_le (by omega)
  have q17 : tw 1155 ≤ tw 1202 := tw_le (by omega)
  have A1 : (iv (-1074) S - iv (-1074) d).natAbs ≤ tw 1150 := by
    refine Nat.le_of_mul_le_mul_right ?_ q12
    rw [q13]; omega
  have A2 : (iv (-1074) F - iv (-1074) G).natAbs ≤ tw 1151 := by
    refine Nat.le_of_mul_le_mul_right ?_ q12
    rw [q14]; omega
  have A0 : (iv (-1074) e).natAbs ≤ tw 1153 := by omega
  have A3 : (iv (-1074) L - iv (-1074) e).natAbs ≤ tw 1150 := by
    refine Nat.le_of_mul_le_mul_right ?_ q12
    rw [q13]; omega
  have B1 : (iv (-1074) L).natAbs ≤ tw 1154 := by omega
  have A4 : (iv (-1074) N - iv (-1074) L).natAbs ≤ tw 1154 := by
    have q18 : 0 < tw 24 := tw_pos _
    refine Nat.le_of_mul_le_mul_right ?_ q18
    have q19 : tw 1154 ≤ tw 1154 * tw 24 := Nat.le_mul_of_pos_right (tw 1154) q18
    have q20 : max (iv (-1074) L).natAbs (tw 948) ≤ tw 1154 := Nat.max_le.2 ⟨B1, by omega⟩
    exact Nat.le_trans E4 (Nat.le_trans q20 q19)
  exact ⟨B1, pN, by omega⟩

theorem c_mhalf32 : cl .f32 3204448256 = .number true 8388608 (-24) := by decide +kernel

end Go.Flt
namespace Go.Proofs.Ytkippcjifikegaa
open Go.RowKit Go.Flt
attribute [local irreducible] tw

theorem wrp_small (b : Nat) (h : isNum (cl .f32 b) = true) : place (-1074) (wrp (cl .f32 b)) ∧ (iv (-1074) (wrp (cl .f32 b))).natAbs ≤ tw 1155 := by
  obtain ⟨_, h1, h2⟩ := left_small b h
  unfold wrp
  split
  · refine ⟨place32 _, ?_⟩
    have e8 : (8388608 : Nat) = tw 23 := by unfold tw; rfl
    rw [c_mhalf32, iv_of _ _ _ 1050 (by omega), if_pos rfl, e8, ← tw_add]
    have : tw (23 + 1050) ≤ tw 1155 := tw_le (by omega)
    omega
  · exact ⟨h1, h2⟩

end Go.Proofs.Ytkippcjifikegaa
