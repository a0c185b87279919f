/-
  WALK: the law of RowFarm.
-/
import Derived.Test.YtlakmogclcpgdaaRowG
namespace Go.Proofs.Ytlakmogclcpgdaa
open Go.RowKit Go.Flt
set_option linter.unusedVariables false
set_option maxRecDepth 100000
set_option linter.unusedSimpArgs false

theorem rowf_len (n : Int) (g r d s : Nat) : (yesL (isRowF n g r d s) (rowL (cl .f32 g) n.toNat)).length ≤ 1048576 ∧ (yesL (isRowF n g r d s) (List.replicate n.toNat (cl .f32 0))).length ≤ 1048576 := by
  cases h : within n 1 12
  · have e : isRowF n g r d s = false := by simp [isRowF, h]
    simp [e, yesL]
  · simp [within] at h
    unfold yesL
    constructor <;> (split <;> simp [rowL]; try omega)

set_option maxHeartbeats 4000000 in
theorem walk_RowFarm_ok (a0 : Int) (a1 : Nat) (a2 : Nat) (a3 : Nat) (a4 : Nat) (w : World) (fa0 : (Lit.int .i64 a0).wf = true) (fa1 : fits a1) (fa2 : fits a2) (fa3 : fits a3) (fa4 : fits a4)  :
    Calls Try.prog 3 #[.int .i64 a0, .float .f32 a1, .float .f32 a2, .float .f32 a3, .float .f32 a4] w fun e w' => e = .returned (.bool true) ∧ Below w.heap.size w w' := by
  have CS := Lib.hid (fun (w : World) => c_specRowF a0 a1 a2 a3 a4 w)
  have CI := Lib.hid (fun (w : World) => c_implRowF a0 a1 a2 a3 a4 w)
  have LD : Hid ((yesL (isRowF a0 a1 a2 a3 a4) (rowL (cl .f32 a1) a0.toNat)).length ≤ 1048576 ∧ (yesL (isRowF a0 a1 a2 a3 a4) (List.replicate a0.toNat (cl .f32 0))).length ≤ 1048576) := by show _ ∧ _; exact rowf_len a0 a1 a2 a3 a4
  generalize (yesL (isRowF a0 a1 a2 a3 a4) (rowL (cl .f32 a1) a0.toNat)) = D at CS CI LD
  generalize (yesL (isRowF a0 a1 a2 a3 a4) (List.replicate a0.toNat (cl .f32 0))) = E at CS CI LD
  generalize (yesN (isRowF a0 a1 a2 a3 a4) a2) = RR at CS CI
  generalize (yesN (isRowF a0 a1 a2 a3 a4) a3) = RD at CS CI
  generalize (yesN (isRowF a0 a1 a2 a3 a4) a4) = RS at CS CI
  generalize (isRowF a0 a1 a2 a3 a4) = S at CS CI
  clear fa0 fa1 fa2 fa3 fa4
  have G : Hid (Grew w w) := grew_refl w
  go_enter Try.func3, Try.ntmps3
  go_wp2_with fail
  refine (CS.out  _ ).mono ?_
  rintro e w1 ⟨v, zF, uF, rfl, hr, hz, hu, hg0⟩
  have hg : Grew w w1 := hg0
  replace G := Lib.hid (grew_trans G.out hg)
  have N1 : Hid (w.heap.size ≤ w1.heap.size) := by have := Below.size hg0; (try simp at this); show _ ≤ _; omega
  try rw [size_al] at hr
  clear hg hg0
  obtain ⟨XF, xF, YF, yF, rfl, _, _⟩ := hr.parts
  have F := Lib.hid (Loc.farm hr (Nat.le_refl _))
  have ZF := Lib.hid hz
  have UF := Lib.hid hu
  have LF : Hid (zF.length ≤ 1048576 ∧ uF.length ≤ 1048576) := by show _ ∧ _; exact ⟨by rw [len_of_map ZF.out]; exact LD.out.1, by rw [len_of_map UF.out]; exact LD.out.2⟩
  clear hr hz hu
  go_wp2_with fail
  have hal : Grew w1 (w1.alloc (.cells #[.slice XF zF.length xF, .slice YF uF.length yF, .float .f32 RR, .float .f32 RD, .float .f32 RS] 25)) := grew_al (grew_refl _) _
  refine (CI.out  _ ).mono ?_
  rintro e w2 ⟨v, zV, uV, rfl, hr, hz, hu, hg0⟩
  have hg : Grew w1 w2 := grew_trans hal hg0
  replace F := Lib.hid (F.out.grew hg)
  replace G := Lib.hid (grew_trans G.out hg)
  have P := Lib.hid ((Loc.fm (w := (w1.alloc (.cells #[.slice XF zF.length xF, .slice YF uF.length yF, .float .f32 RR, .float .f32 RD, .float .f32 RS] 25))) (b := w1.heap.size) (X := .slice XF zF.length xF) (Y := .slice YF uF.length yF) (r := RR) (d := RD) (s := RS) (by unfold FmAt; simp) (by simp <;> omega)).grew hg0)
  have N2 : Hid (w1.heap.size + 1 ≤ w2.heap.size) := by have := Below.size hg0; (try simp at this); show _ ≤ _; omega
  try rw [size_al] at hr
  clear hg hg0 hal
  obtain ⟨XV, xV, YV, yV, rfl, _, _⟩ := hr.parts
  have V := Lib.hid (Loc.farm hr (Nat.le_refl _))
  have ZV := Lib.hid hz
  have UV := Lib.hid hu
  have LV : Hid (zV.length ≤ 1048576 ∧ uV.length ≤ 1048576) := by show _ ∧ _; exact ⟨by rw [len_of_map ZV.out]; exact LD.out.1, by rw [len_of_map UV.out]; exact LD.out.2⟩
  clear hr hz hu
  have ss : (S != S) = false := by simp
  obtain ⟨p_0, p_1, p_2, p_3, p_4⟩ := P.out.now
  have p_b := P.out.lt
  go_wp2_with fail
  have hal : Grew w2 (w2.alloc (.cells #[.slice XV zV.length xV, .slice YV uV.length yV, .float .f32 RR, .float .f32 RD, .float .f32 RS] 25)) := grew_al (grew_refl _) _
  refine (c_eqFarm _ _ _ _ _ _ zV uV zF uF RR RD RS RR RD RS _ (V.out.grew hal).now (F.out.grew hal).now (ZV.out.trans ZF.out.symm) (UV.out.trans UF.out.symm) rfl rfl rfl LV.out.1 LV.out.2).mono ?_
  rintro e w3 ⟨rfl, hg0⟩
  clear p_0 p_1 p_2 p_3 p_4 p_b
  have hg : Grew w2 w3 := grew_trans hal hg0
  replace F := Lib.hid (F.out.grew hg)
  replace P := Lib.hid (P.out.grew hg)
  replace V := Lib.hid (V.out.grew hg)
  replace G := Lib.hid (grew_trans G.out hg)
  have W := Lib.hid ((Loc.fm (w := (w2.alloc (.cells #[.slice XV zV.length xV, .slice YV uV.length yV, .float .f32 RR, .float .f32 RD, .float .f32 RS] 25))) (b := w2.heap.size) (X := .slice XV zV.length xV) (Y := .slice YV uV.length yV) (r := RR) (d := RD) (s := RS) (by unfold FmAt; simp) (by simp <;> omega)).grew hg0)
  have N3 : Hid (w2.heap.size + 1 ≤ w3.heap.size) := by have := Below.size hg0; (try simp at this); show _ ≤ _; omega
  clear hg hg0 hal
  obtain ⟨w_0, w_1, w_2, w_3, w_4⟩ := W.out.now
  have w_b := W.out.lt
  go_wp2_with fail
  refine (c_markFarm _ _ _ zV uV RR RD RS 1 _ V.out.now V.out.le LV.out.1 LV.out.2 (by omega) (by omega)).mono ?_
  rintro e w4 ⟨rfl, hr, ho⟩
  clear w_0 w_1 w_2 w_3 w_4 w_b
  have nn : _ ∧ _ ∧ _ := ⟨N1.out, N2.out, N3.out⟩
  replace F := Lib.hid (F.out.wrote ho (.inl (by omega)))
  replace P := Lib.hid (P.out.wrote ho (.inl (by omega)))
  replace W := Lib.hid (W.out.wrote ho (.inr (by omega)))
  replace G := Lib.hid (Wrote.below G.out ho (Nat.le_refl _) (by omega))
  have N4 : Hid (w3.heap.size ≤ w4.heap.size) := ho.size
  clear nn
  replace V := Lib.hid (Loc.farm hr (Nat.le_trans V.out.le ho.size))
  clear hr ho
  have dm : decide (1 + (zV.length : Int) + (uV.length : Int) < 0) = false := by simp; omega
  obtain ⟨w_0, w_1, w_2, w_3, w_4⟩ := W.out.now
  have w_b := W.out.lt
  go_wp2_with fail
  refine (c_heldFarm _ _ zV.length uV.length _ _ _ _ 1 _ V.out.now LV.out.1 LV.out.2 (by omega) (by omega)).mono ?_
  rintro e w5 ⟨rfl, hg0⟩
  clear w_0 w_1 w_2 w_3 w_4 w_b
  have hg : Grew w4 w5 := hg0
  replace F := Lib.hid (F.out.grew hg)
  replace P := Lib.hid (P.out.grew hg)
  replace V := Lib.hid (V.out.grew hg)
  replace W := Lib.hid (W.out.grew hg)
  replace G := Lib.hid (grew_trans G.out hg)
  have N5 : Hid (w4.heap.size ≤ w5.heap.size) := by have := Below.size hg0; (try simp at this); show _ ≤ _; omega
  clear hg hg0
  go_wp2_with fail
  refine (CI.out  _ ).mono ?_
  rintro e w6 ⟨v, zH, uH, rfl, hr, hz, hu, hg0⟩
  have hg : Grew w5 w6 := hg0
  replace F := Lib.hid (F.out.grew hg)
  replace P := Lib.hid (P.out.grew hg)
  replace V := Lib.hid (V.out.grew hg)
  replace W := Lib.hid (W.out.grew hg)
  replace G := Lib.hid (grew_trans G.out hg)
  have N6 : Hid (w5.heap.size ≤ w6.heap.size) := by have := Below.size hg0; (try simp at this); show _ ≤ _; omega
  try rw [size_al] at hr
  clear hg hg0
  obtain ⟨XH, xH, YH, yH, rfl, _, _⟩ := hr.parts
  have H := Lib.hid (Loc.farm hr (Nat.le_refl _))
  have ZH := Lib.hid hz
  have UH := Lib.hid hu
  have LH : Hid (zH.length ≤ 1048576 ∧ uH.length ≤ 1048576) := by show _ ∧ _; exact ⟨by rw [len_of_map ZH.out]; exact LD.out.1, by rw [len_of_map UH.out]; exact LD.out.2⟩
  clear hr hz hu
  obtain ⟨p_0, p_1, p_2, p_3, p_4⟩ := P.out.now
  have p_b := P.out.lt
  go_wp2_with fail
  have hal : Grew w6 (w6.alloc (.cells #[.slice XH zH.length xH, .slice YH uH.length yH, .float .f32 RR, .float .f32 RD, .float .f32 RS] 25)) := grew_al (grew_refl _) _
  refine (c_eqFarm _ _ _ _ _ _ zH uH zF uF RR RD RS RR RD RS _ (H.out.grew hal).now (F.out.grew hal).now (ZH.out.trans ZF.out.symm) (UH.out.trans UF.out.symm) rfl rfl rfl LH.out.1 LH.out.2).mono ?_
  rintro e w7 ⟨rfl, hg0⟩
  clear p_0 p_1 p_2 p_3 p_4 p_b
  have hg : Grew w6 w7 := grew_trans hal hg0
  replace F := Lib.hid (F.out.grew hg)
  replace P := Lib.hid (P.out.grew hg)
  replace V := Lib.hid (V.out.grew hg)
  replace W := Lib.hid (W.out.grew hg)
  replace H := Lib.hid (H.out.grew hg)
  replace G := Lib.hid (grew_trans G.out hg)
  have T := Lib.hid ((Loc.fm (w := (w6.alloc (.cells #[.slice XH zH.length xH, .slice YH uH.length yH, .float .f32 RR, .float .f32 RD, .float .f32 RS] 25))) (b := w6.heap.size) (X := .slice XH zH.length xH) (Y := .slice YH uH.length yH) (r := RR) (d := RD) (s := RS) (by unfold FmAt; simp) (by simp <;> omega)).grew hg0)
  have N7 : Hid (w6.heap.size + 1 ≤ w7.heap.size) := by have := Below.size hg0; (try simp at this); show _ ≤ _; omega
  clear hg hg0 hal
  obtain ⟨w_0, w_1, w_2, w_3, w_4⟩ := W.out.now
  have w_b := W.out.lt
  go_wp2_with fail
  refine (c_heldFarm _ _ zV.length uV.length _ _ _ _ 1 _ V.out.now LV.out.1 LV.out.2 (by omega) (by omega)).mono ?_
  rintro e w8 ⟨rfl, hg0⟩
  clear w_0 w_1 w_2 w_3 w_4 w_b
  have hg : Grew w7 w8 := hg0
  replace F := Lib.hid (F.out.grew hg)
  replace P := Lib.hid (P.out.grew hg)
  replace V := Lib.hid (V.out.grew hg)
  replace W := Lib.hid (W.out.grew hg)
  replace H := Lib.hid (H.out.grew hg)
  replace T := Lib.hid (T.out.grew hg)
  replace G := Lib.hid (grew_trans G.out hg)
  have N8 : Hid (w7.heap.size ≤ w8.heap.size) := by have := Below.size hg0; (try simp at this); show _ ≤ _; omega
  clear hg hg0
  go_wp2_with fail
  go_ret
  exact ⟨rfl, G.out⟩

set_option maxHeartbeats 4000000 in
theorem walk_RowFarm (a0 : Int) (a1 : Nat) (a2 : Nat) (a3 : Nat) (a4 : Nat) (w : World) (fa0 : (Lit.int .i64 a0).wf = true) (fa1 : fits a1) (fa2 : fits a2) (fa3 : fits a3) (fa4 : fits a4)  :
    Calls Try.prog 3 #[.int .i64 a0, .float .f32 a1, .float .f32 a2, .float .f32 a3, .float .f32 a4] w fun e w' => e = .returned (.bool true) ∧ Below w.heap.size w w' := by
  exact walk_RowFarm_ok a0 a1 a2 a3 a4 w fa0 fa1 fa2 fa3 fa4 


end Go.Proofs.Ytlakmogclcpgdaa
