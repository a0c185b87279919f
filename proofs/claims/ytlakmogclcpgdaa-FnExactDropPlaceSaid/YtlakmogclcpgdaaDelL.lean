/-
  WALK: the law of DropPlace.
-/
import Derived.Test.YtlakmogclcpgdaaDelS
namespace Go.Proofs.Ytlakmogclcpgdaa
open Go.RowKit Go.Flt
set_option linter.unusedVariables false
set_option maxRecDepth 100000
set_option linter.unusedSimpArgs false

theorem c_specDrop' (lo hi : Nat) (v : Value) (xs ys : List Nat) (r d s : Nat) (i : Int) (w : World) (h : FarmAt w lo hi v xs ys r d s) (hK : hi ≤ w.heap.size) (hn : xs.length ≤ 1048576) (hm : ys.length ≤ 1048576) (fx : ∀ x ∈ xs, fits x) (fy : ∀ x ∈ ys, fits x) :
    Calls Try.prog 23 #[v, .int .i64 i] w
      (RetFm (yesL (isDrop xs ys r d s i) ((xs.map (cl .f32)).eraseIdx i.toNat)) (yesL (isDrop xs ys r d s i) ((ys.map (cl .f32)).eraseIdx i.toNat)) (yesN (isDrop xs ys r d s i) r) (yesN (isDrop xs ys r d s i) d) (yesN (isDrop xs ys r d s i) s) (isDrop xs ys r d s i) w) := by
  obtain ⟨A, cA, C, cC, rfl, hx, hy⟩ := h.parts
  exact c_specDrop A C cA cC hi xs ys r d s i w hx hy hK hn hm fx fy

theorem drop_len (b : Bool) (xs ys : List Nat) (i : Nat) (h : xs.length ≤ 1048576) (h' : ys.length ≤ 1048576) : (yesL b ((xs.map (cl .f32)).eraseIdx i)).length ≤ 1048576 ∧ (yesL b ((ys.map (cl .f32)).eraseIdx i)).length ≤ 1048576 := by
  have h1 := List.length_eraseIdx_le (xs.map (cl .f32)) i
  have h2 := List.length_eraseIdx_le (ys.map (cl .f32)) i
  rw [List.length_map] at h1 h2
  cases b
  · simp [yesL]
  · exact ⟨Nat.le_trans h1 h, Nat.le_trans h2 h'⟩

set_option maxHeartbeats 4000000 in
theorem walk_DropPlace_ok (A0 : Option Addr) (n0 c0 : Nat) (xs0 : List Nat) (B0 : Option Addr) (m0 e0 : Nat) (ys0 : List Nat) (r0 d0 s0 : Nat) (a1 : Int) (w : World) (hx0 : Slc (Value.float .f32) w w.heap.size A0 n0 xs0) (hn0 : n0 ≤ maxLen) (fx0 : ∀ x ∈ xs0, fits x) (hy0 : Slc (Value.float .f32) w w.heap.size B0 m0 ys0) (hm0 : m0 ≤ maxLen) (fy0 : ∀ x ∈ ys0, fits x) (fr0 : fits r0) (fd0 : fits d0) (fs0 : fits s0) (fa1 : (Lit.int .i64 a1).wf = true) (g0 : ((n0 + m0 : Nat) : Int) ≤ 1048576) :
    Calls Try.prog 6 #[.agg #[.slice A0 n0 c0, .slice B0 m0 e0, .float .f32 r0, .float .f32 d0, .float .f32 s0], .int .i64 a1] w fun e w' => e = .returned (.bool true) ∧ Below w.heap.size w w' := by
  obtain rfl := hx0.1
  obtain rfl := hy0.1
  have lx0 : Hid (xs0.length ≤ 1048576) := by show _ ≤ _; omega
  have ly0 : Hid (ys0.length ≤ 1048576) := by show _ ≤ _; omega
  have SA0 := Lib.hid (fun w => c_szFarm' A0 B0 _ c0 _ e0 r0 d0 s0 1048576 w hn0 hm0 (by omega) (by omega))
  rw [sz_ok g0] at SA0
  generalize hleft0 : ((1048576 : Int) - ((xs0.length + ys0.length : Nat) : Int)) = left0 at *
  have dl0 : decide (left0 < 0) = false := by simp; omega
  have TA0 := Lib.hid (fun w' (hg : Grew w w') => c_toFarm A0 B0 _ c0 _ e0 r0 d0 s0 xs0 ys0 w' (Slc.mono (Slc.grew hx0 (Nat.le_refl _) hg) (Below.size hg)) (Slc.mono (Slc.grew hy0 (Nat.le_refl _) hg) (Below.size hg)) lx0.out ly0.out)
  have CS := Lib.hid (fun lo0 hi0 v0 (w : World) (h0 : FarmAt w lo0 hi0 v0 xs0 ys0 r0 d0 s0) (k0 : hi0 ≤ w.heap.size) => c_specDrop' lo0 hi0 v0 xs0 ys0 r0 d0 s0 a1 w h0 k0 lx0.out ly0.out fx0 fy0)
  have CI := Lib.hid (fun lo0 hi0 v0 (w : World) (h0 : FarmAt w lo0 hi0 v0 xs0 ys0 r0 d0 s0) (k0 : hi0 ≤ w.heap.size) => c_implDrop lo0 hi0 v0 xs0 ys0 r0 d0 s0 a1 w h0 k0 lx0.out ly0.out)
  have LD : Hid ((yesL (isDrop xs0 ys0 r0 d0 s0 a1) ((xs0.map (cl .f32)).eraseIdx a1.toNat)).length ≤ 1048576 ∧ (yesL (isDrop xs0 ys0 r0 d0 s0 a1) ((ys0.map (cl .f32)).eraseIdx a1.toNat)).length ≤ 1048576) := by show _ ∧ _; exact drop_len _ xs0 ys0 _ lx0.out ly0.out
  generalize (yesL (isDrop xs0 ys0 r0 d0 s0 a1) ((xs0.map (cl .f32)).eraseIdx a1.toNat)) = D at CS CI LD
  generalize (yesL (isDrop xs0 ys0 r0 d0 s0 a1) ((ys0.map (cl .f32)).eraseIdx a1.toNat)) = E at CS CI LD
  generalize (yesN (isDrop xs0 ys0 r0 d0 s0 a1) r0) = RR at CS CI
  generalize (yesN (isDrop xs0 ys0 r0 d0 s0 a1) d0) = RD at CS CI
  generalize (yesN (isDrop xs0 ys0 r0 d0 s0 a1) s0) = RS at CS CI
  generalize (isDrop xs0 ys0 r0 d0 s0 a1) = S at CS CI
  clear hx0 hn0 fx0 hy0 hm0 fy0 fr0 fd0 fs0 fa1 g0
  have G : Hid (Grew w w) := grew_refl w
  have W0 : Hid (Grew w (w.alloc (.cells #[.slice A0 xs0.length c0, .slice B0 ys0.length e0, .float .f32 r0, .float .f32 d0, .float .f32 s0] 31))) := by show Grew _ _; (show Below _ _ _; (repeat (first | exact Below.refl _ _ | refine ext_below ?_ (by first | omega | (simp only [size_ext, heap_push, Array.size_push, World.heap_drewN]; omega) | (simp; omega)) _ _ | refine below_draws ?_ _ | refine Below.alloc ?_ (by first | omega | (simp; done) | (simp; omega)) _ | refine Below.setCell ?_ (by first | omega | (simp; done) | (simp; omega)) _ | refine below_then (by assumption) (by first | omega | (simp; done) | (simp; omega)) ?_)))
  clear hleft0
  go_enter Try.func6, Try.ntmps6
  go_wp2_with fail
  refine (SA0.out _).mono ?_
  rintro e w1 ⟨rfl, hg0⟩
  have hg : Grew w w1 := grew_trans W0.out hg0
  replace G := Lib.hid (grew_trans G.out hg)
  have A0b := Lib.hid ((Loc.fm (w := (w.alloc (.cells #[.slice A0 xs0.length c0, .slice B0 ys0.length e0, .float .f32 r0, .float .f32 d0, .float .f32 s0] 31))) (b := w.heap.size) (X := .slice A0 xs0.length c0) (Y := .slice B0 ys0.length e0) (r := r0) (d := d0) (s := s0) (by unfold FmAt; simp) (by simp <;> omega)).grew hg0)
  have N1 : Hid (w.heap.size + 1 ≤ w1.heap.size) := by have := Below.size hg0; (try simp at this); show _ ≤ _; omega
  clear hg hg0
  clear W0
  clear SA0
  obtain ⟨a0b_0, a0b_1, a0b_2, a0b_3, a0b_4⟩ := A0b.out.now
  have a0b_b := A0b.out.lt
  go_wp2_with fail
  refine (TA0.out _ G.out).mono ?_
  rintro e w2 ⟨v, rfl, hr, hg0⟩
  clear a0b_0 a0b_1 a0b_2 a0b_3 a0b_4 a0b_b
  have hg : Grew w1 w2 := hg0
  replace A0b := Lib.hid (A0b.out.grew hg)
  replace G := Lib.hid (grew_trans G.out hg)
  have N2 : Hid (w1.heap.size ≤ w2.heap.size) := by have := Below.size hg0; (try simp at this); show _ ≤ _; omega
  try rw [size_al] at hr
  clear hg hg0
  obtain ⟨XT0, xT0, YT0, yT0, rfl, _, _⟩ := hr.parts
  have T0 := Lib.hid (Loc.farm hr (Nat.le_refl _))
  clear hr
  go_wp2_with fail
  refine (CS.out _ _ _ _ T0.out.now T0.out.le).mono ?_
  rintro e w3 ⟨v, zF, uF, rfl, hr, hz, hu, hg0⟩
  have hg : Grew w2 w3 := hg0
  replace A0b := Lib.hid (A0b.out.grew hg)
  replace T0 := Lib.hid (T0.out.grew hg)
  replace G := Lib.hid (grew_trans G.out hg)
  have N3 : Hid (w2.heap.size ≤ w3.heap.size) := by have := Below.size hg0; (try simp at this); show _ ≤ _; omega
  try rw [size_al] at hr
  clear hg hg0
  clear T0
  obtain ⟨XF, xF, YF, yF, rfl, _, _⟩ := hr.parts
  have F := Lib.hid (Loc.farm hr (Nat.le_refl _))
  have ZF := Lib.hid hz
  have UF := Lib.hid hu
  have LF : Hid (zF.length ≤ 1048576 ∧ uF.length ≤ 1048576) := by show _ ∧ _; exact ⟨by rw [len_of_map ZF.out]; exact LD.out.1, by rw [len_of_map UF.out]; exact LD.out.2⟩
  clear hr hz hu
  obtain ⟨a0b_0, a0b_1, a0b_2, a0b_3, a0b_4⟩ := A0b.out.now
  have a0b_b := A0b.out.lt
  go_wp2_with fail
  have hal : Grew w3 (w3.alloc (.cells #[.slice XF zF.length xF, .slice YF uF.length yF, .float .f32 RR, .float .f32 RD, .float .f32 RS] 25)) := grew_al (grew_refl _) _
  refine (TA0.out _ (grew_trans G.out hal)).mono ?_
  rintro e w4 ⟨v, rfl, hr, hg0⟩
  clear a0b_0 a0b_1 a0b_2 a0b_3 a0b_4 a0b_b
  have hg : Grew w3 w4 := grew_trans hal hg0
  replace A0b := Lib.hid (A0b.out.grew hg)
  replace F := Lib.hid (F.out.grew hg)
  replace G := Lib.hid (grew_trans G.out hg)
  have P := Lib.hid ((Loc.fm (w := (w3.alloc (.cells #[.slice XF zF.length xF, .slice YF uF.length yF, .float .f32 RR, .float .f32 RD, .float .f32 RS] 25))) (b := w3.heap.size) (X := .slice XF zF.length xF) (Y := .slice YF uF.length yF) (r := RR) (d := RD) (s := RS) (by unfold FmAt; simp) (by simp <;> omega)).grew hg0)
  have N4 : Hid (w3.heap.size + 1 ≤ w4.heap.size) := by have := Below.size hg0; (try simp at this); show _ ≤ _; omega
  try rw [size_al] at hr
  clear hg hg0 hal
  obtain ⟨XC0, xC0, YC0, yC0, rfl, _, _⟩ := hr.parts
  have C0 := Lib.hid (Loc.farm hr (Nat.le_refl _))
  clear hr
  go_wp2_with fail
  have hal : Grew w4 (w4.alloc (.cells #[.slice XC0 xs0.length xC0, .slice YC0 ys0.length yC0, .float .f32 r0, .float .f32 d0, .float .f32 s0] 25)) := grew_al (grew_refl _) _
  refine (CI.out _ _ _ _ (C0.out.grew hal).now (C0.out.grew hal).le).mono ?_
  rintro e w5 ⟨v, zV, uV, rfl, hr, hz, hu, hg0⟩
  have hg : Grew w4 w5 := grew_trans hal hg0
  replace A0b := Lib.hid (A0b.out.grew hg)
  replace F := Lib.hid (F.out.grew hg)
  replace P := Lib.hid (P.out.grew hg)
  replace C0 := Lib.hid (C0.out.grew hg)
  replace G := Lib.hid (grew_trans G.out hg)
  have Q0 := Lib.hid ((Loc.fm (w := (w4.alloc (.cells #[.slice XC0 xs0.length xC0, .slice YC0 ys0.length yC0, .float .f32 r0, .float .f32 d0, .float .f32 s0] 25))) (b := w4.heap.size) (X := .slice XC0 xs0.length xC0) (Y := .slice YC0 ys0.length yC0) (r := r0) (d := d0) (s := s0) (by unfold FmAt; simp) (by simp <;> omega)).grew hg0)
  have N5 : Hid (w4.heap.size + 1 ≤ w5.heap.size) := by have := Below.size hg0; (try simp at this); show _ ≤ _; omega
  try rw [size_al] at hr
  clear hg hg0 hal
  obtain ⟨XV, xV, YV, yV, rfl, _, _⟩ := hr.parts
  have V := Lib.hid (Loc.farm hr (Nat.le_refl _))
  have ZV := Lib.hid hz
  have UV := Lib.hid hu
  have LV : Hid (zV.length ≤ 1048576 ∧ uV.length ≤ 1048576) := by show _ ∧ _; exact ⟨by rw [len_of_map ZV.out]; exact LD.out.1, by rw [len_of_map UV.out]; exact LD.out.2⟩
  clear hr hz hu
  have ss : (S != S) = false := by simp
  obtain ⟨p_0, p_1, p_2, p_3, p_4⟩ := P.out.now
  have p_b := P.out.lt
  go_wp2_with fail
  have hal : Grew w5 (w5.alloc (.cells #[.slice XV zV.length xV, .slice YV uV.length yV, .float .f32 RR, .float .f32 RD, .float .f32 RS] 25)) := grew_al (grew_refl _) _
  refine (c_eqFarm _ _ _ _ _ _ zV uV zF uF RR RD RS RR RD RS _ (V.out.grew hal).now (F.out.grew hal).now (ZV.out.trans ZF.out.symm) (UV.out.trans UF.out.symm) rfl rfl rfl LV.out.1 LV.out.2).mono ?_
  rintro e w6 ⟨rfl, hg0⟩
  clear p_0 p_1 p_2 p_3 p_4 p_b
  have hg : Grew w5 w6 := grew_trans hal hg0
  replace A0b := Lib.hid (A0b.out.grew hg)
  replace F := Lib.hid (F.out.grew hg)
  replace P := Lib.hid (P.out.grew hg)
  replace C0 := Lib.hid (C0.out.grew hg)
  replace Q0 := Lib.hid (Q0.out.grew hg)
  replace V := Lib.hid (V.out.grew hg)
  replace G := Lib.hid (grew_trans G.out hg)
  have W := Lib.hid ((Loc.fm (w := (w5.alloc (.cells #[.slice XV zV.length xV, .slice YV uV.length yV, .float .f32 RR, .float .f32 RD, .float .f32 RS] 25))) (b := w5.heap.size) (X := .slice XV zV.length xV) (Y := .slice YV uV.length yV) (r := RR) (d := RD) (s := RS) (by unfold FmAt; simp) (by simp <;> omega)).grew hg0)
  have N6 : Hid (w5.heap.size + 1 ≤ w6.heap.size) := by have := Below.size hg0; (try simp at this); show _ ≤ _; omega
  clear hg hg0 hal
  obtain ⟨a0b_0, a0b_1, a0b_2, a0b_3, a0b_4⟩ := A0b.out.now
  have a0b_b := A0b.out.lt
  obtain ⟨q0_0, q0_1, q0_2, q0_3, q0_4⟩ := Q0.out.now
  have q0_b := Q0.out.lt
  go_wp2_with fail
  try simp only [List.append_eq, List.cons_append, List.nil_append]
  refine wp_region_grow [47] [(47, W2 <| FarmBy w6.heap.size xs0 ys0 r0 d0 s0), (48, W2 <| Is (.bool true))] (by kernel_rfl) (by kernel_rfl) (by kernel_rfl) (by kernel_rfl) ?_
  repeat (first | (refine wpG_skip rfl ?_; try go_simp) | (refine wpG_want rfl (fun K hK => ?_); first | (refine gG_fbin rfl rfl _ _ _ rfl rfl rfl ?_; intro z hz hzw; go_simp; refine hK _ ?_; clear hK K) | (intro wq hq hp; obtain ⟨hqc, hqf⟩ := bcell hq; go_simp; first | (refine hK _ ?_; clear hK K; try clear hp; try clear hqc hqf; try clear hq; try clear wq) | ((with_reducible refine g_at 19 ?_); refine ⟨(TA0.out wq (grew_trans G.out hq)).mono fun e w3 ⟨v, he, h, hg⟩ => ⟨v, he, ⟨_, Below.size hq, h⟩, hg⟩, ?_⟩; rintro v w3 hg3 hfa; refine hK _ ?_; clear hK K; try clear hp; try clear hqc hqf; try clear hq; try clear wq) | ((with_reducible refine g_at 14 ?_); obtain ⟨lo, hi, _, hs, h1⟩ := FarmBy.get (hp 47 (by simp) (by decide)) hfa.ne rfl; refine ⟨(c_eqFarm _ _ lo hi _ _ xs0 ys0 xs0 ys0 r0 d0 s0 r0 d0 s0 wq (C0.out.grew hq).now h1 rfl rfl rfl rfl rfl lx0.out ly0.out).mono fun e w3 ⟨he, hg⟩ => ⟨_, he, rfl, hg⟩, ?_⟩; rintro v w3 hg3 rfl; refine hK _ ?_; clear hK K; try clear hp; try clear hqc hqf; try clear hq; try clear wq))))
  refine wpG_nil ?_
  intro w7 hq hal hap
  obtain ⟨hqc, hqf⟩ := bcell hq
  have hqs := Below.size hq
  try simp at hqs
  clear hap
  clear a0b_0 a0b_1 a0b_2 a0b_3 a0b_4 a0b_b q0_0 q0_1 q0_2 q0_3 q0_4 q0_b
  clear hqc hqf hal
  replace A0b := Lib.hid (A0b.out.grew hq)
  replace F := Lib.hid (F.out.grew hq)
  replace P := Lib.hid (P.out.grew hq)
  replace C0 := Lib.hid (C0.out.grew hq)
  replace Q0 := Lib.hid (Q0.out.grew hq)
  replace V := Lib.hid (V.out.grew hq)
  replace W := Lib.hid (W.out.grew hq)
  replace G := Lib.hid (grew_trans G.out hq)
  have N7 : Hid (w6.heap.size ≤ w7.heap.size) := Below.size hq
  clear hq hqs
  obtain ⟨q0_0, q0_1, q0_2, q0_3, q0_4⟩ := Q0.out.now
  have q0_b := Q0.out.lt
  go_wp2_with fail
  refine (c_markFarm _ _ _ xs0 ys0 _ _ _ (1) _ C0.out.now C0.out.le lx0.out ly0.out (by have := lx0.out; have := lx0.out; have := ly0.out;  omega) (by have := lx0.out; have := lx0.out; have := ly0.out;  omega)).mono ?_
  rintro e w8 ⟨rfl, _, ho⟩
  clear q0_0 q0_1 q0_2 q0_3 q0_4 q0_b
  have nn : _ ∧ _ ∧ _ ∧ _ ∧ _ ∧ _ ∧ _ := ⟨N1.out, N2.out, N3.out, N4.out, N5.out, N6.out, N7.out⟩
  replace A0b := Lib.hid (A0b.out.wrote ho (.inl (by omega)))
  replace F := Lib.hid (F.out.wrote ho (.inl (by omega)))
  replace P := Lib.hid (P.out.wrote ho (.inl (by omega)))
  replace Q0 := Lib.hid (Q0.out.wrote ho (.inr (by omega)))
  replace V := Lib.hid (V.out.wrote ho (.inr (by omega)))
  replace W := Lib.hid (W.out.wrote ho (.inr (by omega)))
  replace G := Lib.hid (Wrote.below G.out ho (Nat.le_refl _) (by omega))
  have N8 : Hid (w7.heap.size ≤ w8.heap.size) := ho.size
  clear nn
  clear C0 ho
  clear Q0
  have dk : decide (1 + (xs0.length : Int) + (ys0.length : Int) < 0) = false := by simp; omega
  obtain ⟨p_0, p_1, p_2, p_3, p_4⟩ := P.out.now
  have p_b := P.out.lt
  obtain ⟨w_0, w_1, w_2, w_3, w_4⟩ := W.out.now
  have w_b := W.out.lt
  go_wp2_with fail
  refine (c_eqFarm _ _ _ _ _ _ zV uV zF uF RR RD RS RR RD RS _ V.out.now F.out.now (ZV.out.trans ZF.out.symm) (UV.out.trans UF.out.symm) rfl rfl rfl LV.out.1 LV.out.2).mono ?_
  rintro e w9 ⟨rfl, hg0⟩
  clear p_0 p_1 p_2 p_3 p_4 p_b w_0 w_1 w_2 w_3 w_4 w_b
  have hg : Grew w8 w9 := hg0
  replace A0b := Lib.hid (A0b.out.grew hg)
  replace F := Lib.hid (F.out.grew hg)
  replace P := Lib.hid (P.out.grew hg)
  replace V := Lib.hid (V.out.grew hg)
  replace W := Lib.hid (W.out.grew hg)
  replace G := Lib.hid (grew_trans G.out hg)
  have N9 : Hid (w8.heap.size ≤ w9.heap.size) := by have := Below.size hg0; (try simp at this); show _ ≤ _; omega
  clear hg hg0
  clear dk
  obtain ⟨w_0, w_1, w_2, w_3, w_4⟩ := W.out.now
  have w_b := W.out.lt
  go_wp2_with fail
  refine (c_markFarm _ _ _ zV uV RR RD RS 1 _ V.out.now V.out.le LV.out.1 LV.out.2 (by omega) (by omega)).mono ?_
  rintro e w10 ⟨rfl, hr, ho⟩
  clear w_0 w_1 w_2 w_3 w_4 w_b
  have nn : _ ∧ _ ∧ _ ∧ _ ∧ _ ∧ _ ∧ _ ∧ _ ∧ _ := ⟨N1.out, N2.out, N3.out, N4.out, N5.out, N6.out, N7.out, N8.out, N9.out⟩
  replace A0b := Lib.hid (A0b.out.wrote ho (.inl (by omega)))
  replace F := Lib.hid (F.out.wrote ho (.inl (by omega)))
  replace P := Lib.hid (P.out.wrote ho (.inl (by omega)))
  replace W := Lib.hid (W.out.wrote ho (.inr (by omega)))
  replace G := Lib.hid (Wrote.below G.out ho (Nat.le_refl _) (by omega))
  have N10 : Hid (w9.heap.size ≤ w10.heap.size) := ho.size
  clear nn
  replace V := Lib.hid (Loc.farm hr (Nat.le_trans V.out.le ho.size))
  clear hr ho
  have dm : decide (1 + (zV.length : Int) + (uV.length : Int) < 0) = false := by simp; omega
  obtain ⟨w_0, w_1, w_2, w_3, w_4⟩ := W.out.now
  have w_b := W.out.lt
  go_wp2_with fail
  refine (c_heldFarm _ _ zV.length uV.length _ _ _ _ 1 _ V.out.now LV.out.1 LV.out.2 (by omega) (by omega)).mono ?_
  rintro e w11 ⟨rfl, hg0⟩
  clear w_0 w_1 w_2 w_3 w_4 w_b
  have hg : Grew w10 w11 := hg0
  replace A0b := Lib.hid (A0b.out.grew hg)
  replace F := Lib.hid (F.out.grew hg)
  replace P := Lib.hid (P.out.grew hg)
  replace V := Lib.hid (V.out.grew hg)
  replace W := Lib.hid (W.out.grew hg)
  replace G := Lib.hid (grew_trans G.out hg)
  have N11 : Hid (w10.heap.size ≤ w11.heap.size) := by have := Below.size hg0; (try simp at this); show _ ≤ _; omega
  clear hg hg0
  obtain ⟨a0b_0, a0b_1, a0b_2, a0b_3, a0b_4⟩ := A0b.out.now
  have a0b_b := A0b.out.lt
  go_wp2_with fail
  refine (TA0.out _ G.out).mono ?_
  rintro e w12 ⟨v, rfl, hr, hg0⟩
  clear a0b_0 a0b_1 a0b_2 a0b_3 a0b_4 a0b_b
  have hg : Grew w11 w12 := hg0
  replace A0b := Lib.hid (A0b.out.grew hg)
  replace F := Lib.hid (F.out.grew hg)
  replace P := Lib.hid (P.out.grew hg)
  replace V := Lib.hid (V.out.grew hg)
  replace W := Lib.hid (W.out.grew hg)
  replace G := Lib.hid (grew_trans G.out hg)
  have N12 : Hid (w11.heap.size ≤ w12.heap.size) := by have := Below.size hg0; (try simp at this); show _ ≤ _; omega
  try rw [size_al] at hr
  clear hg hg0
  obtain ⟨XT0, xT0, YT0, yT0, rfl, _, _⟩ := hr.parts
  have T0 := Lib.hid (Loc.farm hr (Nat.le_refl _))
  clear hr
  go_wp2_with fail
  refine (CI.out _ _ _ _ T0.out.now T0.out.le).mono ?_
  rintro e w13 ⟨v, zH, uH, rfl, hr, hz, hu, hg0⟩
  have hg : Grew w12 w13 := hg0
  replace A0b := Lib.hid (A0b.out.grew hg)
  replace F := Lib.hid (F.out.grew hg)
  replace P := Lib.hid (P.out.grew hg)
  replace V := Lib.hid (V.out.grew hg)
  replace W := Lib.hid (W.out.grew hg)
  replace T0 := Lib.hid (T0.out.grew hg)
  replace G := Lib.hid (grew_trans G.out hg)
  have N13 : Hid (w12.heap.size ≤ w13.heap.size) := by have := Below.size hg0; (try simp at this); show _ ≤ _; omega
  try rw [size_al] at hr
  clear hg hg0
  clear T0
  obtain ⟨XH, xH, YH, yH, rfl, _, _⟩ := hr.parts
  have H := Lib.hid (Loc.farm hr (Nat.le_refl _))
  have ZH := Lib.hid hz
  have UH := Lib.hid hu
  have LH : Hid (zH.length ≤ 1048576 ∧ uH.length ≤ 1048576) := by show _ ∧ _; exact ⟨by rw [len_of_map ZH.out]; exact LD.out.1, by rw [len_of_map UH.out]; exact LD.out.2⟩
  clear hr hz hu
  obtain ⟨p_0, p_1, p_2, p_3, p_4⟩ := P.out.now
  have p_b := P.out.lt
  go_wp2_with fail
  have hal : Grew w13 (w13.alloc (.cells #[.slice XH zH.length xH, .slice YH uH.length yH, .float .f32 RR, .float .f32 RD, .float .f32 RS] 25)) := grew_al (grew_refl _) _
  refine (c_eqFarm _ _ _ _ _ _ zH uH zF uF RR RD RS RR RD RS _ (H.out.grew hal).now (F.out.grew hal).now (ZH.out.trans ZF.out.symm) (UH.out.trans UF.out.symm) rfl rfl rfl LH.out.1 LH.out.2).mono ?_
  rintro e w14 ⟨rfl, hg0⟩
  clear p_0 p_1 p_2 p_3 p_4 p_b
  have hg : Grew w13 w14 := grew_trans hal hg0
  replace A0b := Lib.hid (A0b.out.grew hg)
  replace F := Lib.hid (F.out.grew hg)
  replace P := Lib.hid (P.out.grew hg)
  replace V := Lib.hid (V.out.grew hg)
  replace W := Lib.hid (W.out.grew hg)
  replace H := Lib.hid (H.out.grew hg)
  replace G := Lib.hid (grew_trans G.out hg)
  have T := Lib.hid ((Loc.fm (w := (w13.alloc (.cells #[.slice XH zH.length xH, .slice YH uH.length yH, .float .f32 RR, .float .f32 RD, .float .f32 RS] 25))) (b := w13.heap.size) (X := .slice XH zH.length xH) (Y := .slice YH uH.length yH) (r := RR) (d := RD) (s := RS) (by unfold FmAt; simp) (by simp <;> omega)).grew hg0)
  have N14 : Hid (w13.heap.size + 1 ≤ w14.heap.size) := by have := Below.size hg0; (try simp at this); show _ ≤ _; omega
  clear hg hg0 hal
  obtain ⟨w_0, w_1, w_2, w_3, w_4⟩ := W.out.now
  have w_b := W.out.lt
  go_wp2_with fail
  refine (c_heldFarm _ _ zV.length uV.length _ _ _ _ 1 _ V.out.now LV.out.1 LV.out.2 (by omega) (by omega)).mono ?_
  rintro e w15 ⟨rfl, hg0⟩
  clear w_0 w_1 w_2 w_3 w_4 w_b
  have hg : Grew w14 w15 := hg0
  replace A0b := Lib.hid (A0b.out.grew hg)
  replace F := Lib.hid (F.out.grew hg)
  replace P := Lib.hid (P.out.grew hg)
  replace V := Lib.hid (V.out.grew hg)
  replace W := Lib.hid (W.out.grew hg)
  replace H := Lib.hid (H.out.grew hg)
  replace T := Lib.hid (T.out.grew hg)
  replace G := Lib.hid (grew_trans G.out hg)
  have N15 : Hid (w14.heap.size ≤ w15.heap.size) := by have := Below.size hg0; (try simp at this); show _ ≤ _; omega
  clear hg hg0
  go_wp2_with fail
  go_ret
  exact ⟨rfl, G.out⟩

set_option maxHeartbeats 4000000 in
theorem walk_DropPlace_bad0 (A0 : Option Addr) (n0 c0 : Nat) (xs0 : List Nat) (B0 : Option Addr) (m0 e0 : Nat) (ys0 : List Nat) (r0 d0 s0 : Nat) (a1 : Int) (w : World) (hx0 : Slc (Value.float .f32) w w.heap.size A0 n0 xs0) (hn0 : n0 ≤ maxLen) (fx0 : ∀ x ∈ xs0, fits x) (hy0 : Slc (Value.float .f32) w w.heap.size B0 m0 ys0) (hm0 : m0 ≤ maxLen) (fy0 : ∀ x ∈ ys0, fits x) (fr0 : fits r0) (fd0 : fits d0) (fs0 : fits s0) (fa1 : (Lit.int .i64 a1).wf = true)  (g0 : ¬ (((n0 + m0 : Nat) : Int) ≤ 1048576)) :
    Calls Try.prog 6 #[.agg #[.slice A0 n0 c0, .slice B0 m0 e0, .float .f32 r0, .float .f32 d0, .float .f32 s0], .int .i64 a1] w fun e w' => e = .returned (.bool true) ∧ Below w.heap.size w w' := by
  obtain rfl := hx0.1
  obtain rfl := hy0.1
  have SA0 := Lib.hid (fun w => c_szFarm' A0 B0 _ c0 _ e0 r0 d0 s0 1048576 w hn0 hm0 (by omega) (by omega))
  rw [sz_no g0] at SA0
  have G : Hid (Grew w w) := grew_refl w
  clear hx0 hy0
  have W0 : Hid (Grew w (w.alloc (.cells #[.slice A0 xs0.length c0, .slice B0 ys0.length e0, .float .f32 r0, .float .f32 d0, .float .f32 s0] 31))) := by show Grew _ _; (show Below _ _ _; (repeat (first | exact Below.refl _ _ | refine ext_below ?_ (by first | omega | (simp only [size_ext, heap_push, Array.size_push, World.heap_drewN]; omega) | (simp; omega)) _ _ | refine below_draws ?_ _ | refine Below.alloc ?_ (by first | omega | (simp; done) | (simp; omega)) _ | refine Below.setCell ?_ (by first | omega | (simp; done) | (simp; omega)) _ | refine below_then (by assumption) (by first | omega | (simp; done) | (simp; omega)) ?_)))
  clear g0
  go_enter Try.func6, Try.ntmps6
  go_wp2_with fail
  refine (SA0.out _).mono ?_
  rintro e w1 ⟨rfl, hg0⟩
  have hg : Grew w w1 := grew_trans W0.out hg0
  replace G := Lib.hid (grew_trans G.out hg)
  have A0b := Lib.hid ((Loc.fm (w := (w.alloc (.cells #[.slice A0 xs0.length c0, .slice B0 ys0.length e0, .float .f32 r0, .float .f32 d0, .float .f32 s0] 31))) (b := w.heap.size) (X := .slice A0 xs0.length c0) (Y := .slice B0 ys0.length e0) (r := r0) (d := d0) (s := s0) (by unfold FmAt; simp) (by simp <;> omega)).grew hg0)
  have N1 : Hid (w.heap.size + 1 ≤ w1.heap.size) := by have := Below.size hg0; (try simp at this); show _ ≤ _; omega
  clear hg hg0
  go_wp2_with fail
  go_ret
  exact ⟨rfl, G.out⟩

set_option maxHeartbeats 4000000 in
theorem walk_DropPlace (A0 : Option Addr) (n0 c0 : Nat) (xs0 : List Nat) (B0 : Option Addr) (m0 e0 : Nat) (ys0 : List Nat) (r0 d0 s0 : Nat) (a1 : Int) (w : World) (hx0 : Slc (Value.float .f32) w w.heap.size A0 n0 xs0) (hn0 : n0 ≤ maxLen) (fx0 : ∀ x ∈ xs0, fits x) (hy0 : Slc (Value.float .f32) w w.heap.size B0 m0 ys0) (hm0 : m0 ≤ maxLen) (fy0 : ∀ x ∈ ys0, fits x) (fr0 : fits r0) (fd0 : fits d0) (fs0 : fits s0) (fa1 : (Lit.int .i64 a1).wf = true)  :
    Calls Try.prog 6 #[.agg #[.slice A0 n0 c0, .slice B0 m0 e0, .float .f32 r0, .float .f32 d0, .float .f32 s0], .int .i64 a1] w fun e w' => e = .returned (.bool true) ∧ Below w.heap.size w w' := by
  by_cases g0 : ((n0 + m0 : Nat) : Int) ≤ 1048576
  case neg => exact walk_DropPlace_bad0 A0 n0 c0 xs0 B0 m0 e0 ys0 r0 d0 s0 a1 w hx0 hn0 fx0 hy0 hm0 fy0 fr0 fd0 fs0 fa1  g0
  exact walk_DropPlace_ok A0 n0 c0 xs0 B0 m0 e0 ys0 r0 d0 s0 a1 w hx0 hn0 fx0 hy0 hm0 fy0 fr0 fd0 fs0 fa1 g0


end Go.Proofs.Ytlakmogclcpgdaa
