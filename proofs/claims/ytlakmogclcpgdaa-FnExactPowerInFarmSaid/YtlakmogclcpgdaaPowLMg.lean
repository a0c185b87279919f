/-
  WALK: the law of PowerInFarm.
-/
import Derived.Test.YtlakmogclcpgdaaWakeIMg
namespace Go.Proofs.Ytlakmogclcpgdaa
open Go.RowKit Go.Flt
set_option linter.unusedVariables false
set_option maxRecDepth 100000
set_option linter.unusedSimpArgs false

set_option maxHeartbeats 4000000 in
theorem walk_PowerInFarm_ok (A0 : Option Addr) (n0 c0 : Nat) (xs0 : List Nat) (B0 : Option Addr) (m0 e0 : Nat) (ys0 : List Nat) (r0 d0 s0 : Nat) (a1 : Nat) (a2 : Nat) (a3 : Nat) (w : World) (hx0 : Slc (Value.float .f32) w w.heap.size A0 n0 xs0) (hn0 : n0 ≤ maxLen) (fx0 : ∀ x ∈ xs0, fits x) (hy0 : Slc (Value.float .f32) w w.heap.size B0 m0 ys0) (hm0 : m0 ≤ maxLen) (fy0 : ∀ x ∈ ys0, fits x) (fr0 : fits r0) (fd0 : fits d0) (fs0 : fits s0) (fa1 : fits a1) (fa2 : fits a2) (fa3 : fits a3) (g0 : ((n0 + m0 : Nat) : Int) ≤ 1048576) :
    Calls Try.prog 11 #[.agg #[.slice A0 n0 c0, .slice B0 m0 e0, .float .f32 r0, .float .f32 d0, .float .f32 s0], .float .f32 a1, .float .f32 a2, .float .f32 a3] w fun e w' => e = .returned (.bool true) ∧ Below w.heap.size w w' := by
  obtain rfl := hx0.1
  obtain rfl := hy0.1
  have lx0 : Hid (xs0.length ≤ 1048576) := by show _ ≤ _; omega
  have ly0 : Hid (ys0.length ≤ 1048576) := by show _ ≤ _; omega
  have SA0 := Lib.hid (fun w => c_szFarm' A0 B0 _ c0 _ e0 r0 d0 s0 1048576 w hn0 hm0 (by omega) (by omega))
  rw [sz_ok g0] at SA0
  generalize hleft0 : ((1048576 : Int) - ((xs0.length + ys0.length : Nat) : Int)) = left0 at *
  have dl0 : decide (left0 < 0) = false := by simp; omega
  have TA0 := Lib.hid (fun w' (hg : Grew w w') => c_toFarm A0 B0 _ c0 _ e0 r0 d0 s0 xs0 ys0 w' (Slc.mono (Slc.grew hx0 (Nat.le_refl _) hg) (Below.size hg)) (Slc.mono (Slc.grew hy0 (Nat.le_refl _) hg) (Below.size hg)) lx0.out ly0.out)
  have CS := Lib.hid (fun lo0 hi0 v0 (w : World) (h0 : FarmAt w lo0 hi0 v0 xs0 ys0 r0 d0 s0) (k0 : hi0 ≤ w.heap.size) => c_specPow lo0 hi0 v0 xs0 ys0 r0 d0 s0 a1 a2 a3 w h0 k0 lx0.out ly0.out)
  have CI := Lib.hid (fun lo0 hi0 v0 (w : World) (h0 : FarmAt w lo0 hi0 v0 xs0 ys0 r0 d0 s0) (k0 : hi0 ≤ w.heap.size) => c_implPow lo0 hi0 v0 xs0 ys0 r0 d0 s0 a1 a2 a3 w h0 k0 lx0.out ly0.out)
  generalize (num (okP xs0 ys0 r0 d0 s0 a1 a2 a3) (powD xs0 ys0 r0 d0 s0 a1 a2 a3)) = D at CS CI
  generalize (okP xs0 ys0 r0 d0 s0 a1 a2 a3 && fin (powD xs0 ys0 r0 d0 s0 a1 a2 a3)) = S at CS CI
  clear hx0 hn0 fx0 hy0 hm0 fy0 fr0 fd0 fs0 fa1 fa2 fa3 g0
  have G : Hid (Grew w w) := grew_refl w
  have W0 : Hid (Grew w (w.alloc (.cells #[.slice A0 xs0.length c0, .slice B0 ys0.length e0, .float .f32 r0, .float .f32 d0, .float .f32 s0] 31))) := by show Grew _ _; (show Below _ _ _; (repeat (first | exact Below.refl _ _ | refine ext_below ?_ (by first | omega | (simp only [size_ext, heap_push, Array.size_push, World.heap_drewN]; omega) | (simp; omega)) _ _ | refine below_draws ?_ _ | refine Below.alloc ?_ (by first | omega | (simp; done) | (simp; omega)) _ | refine Below.setCell ?_ (by first | omega | (simp; done) | (simp; omega)) _ | refine below_then (by assumption) (by first | omega | (simp; done) | (simp; omega)) ?_)))
  clear hleft0
  go_enter Try.func11, Try.ntmps11
  go_wp2_with fail
  refine (SA0.out _).mono ?_
  rintro e w1 ⟨rfl, hg0⟩
  have hg : Grew w w1 := grew_trans W0.out hg0
  replace G := Lib.hid (grew_trans G.out hg)
  have A0b := Lib.hid ((Loc.fm (w := (w.alloc (.cells #[.slice A0 xs0.length c0, .slice B0 ys0.length e0, .float .f32 r0, .float .f32 d0, .float .f32 s0] 31))) (b := w.heap.size) (X := .slice A0 xs0.length c0) (Y := .slice B0 ys0.length e0) (r := r0) (d := d0) (s := s0) (by unfold FmAt; simp) (by simp <;> omega)).grew hg0)
  have N1 : Hid (w.heap.size + 1 ≤ w1.heap.size) := by have := Below.size hg0; (try simp at this); show _ ≤ _; omega
  clear hg hg0
  clear W0
  clear SA0
  obtain ⟨a0b_0, a0b_1, a0b_2, a0b_3, a0b_4⟩ := A0b.out.now
  have a0b_b := A0b.out.lt
  go_wp2_with fail
  refine (TA0.out _ G.out).mono ?_
  rintro e w2 ⟨v, rfl, hr, hg0⟩
  clear a0b_0 a0b_1 a0b_2 a0b_3 a0b_4 a0b_b
  have hg : Grew w1 w2 := hg0
  replace A0b := Lib.hid (A0b.out.grew hg)
  replace G := Lib.hid (grew_trans G.out hg)
  have N2 : Hid (w1.heap.size ≤ w2.heap.size) := by have := Below.size hg0; (try simp at this); show _ ≤ _; omega
  try rw [size_al] at hr
  clear hg hg0
  obtain ⟨XT0, xT0, YT0, yT0, rfl, _, _⟩ := hr.parts
  have T0 := Lib.hid (Loc.farm hr (Nat.le_refl _))
  clear hr
  go_wp2_with fail
  refine (CS.out _ _ _ _ T0.out.now T0.out.le).mono ?_
  rintro e w3 ⟨rF, rfl, hz, hfit, hg0⟩
  have hg : Grew w2 w3 := hg0
  replace A0b := Lib.hid (A0b.out.grew hg)
  replace T0 := Lib.hid (T0.out.grew hg)
  replace G := Lib.hid (grew_trans G.out hg)
  have N3 : Hid (w2.heap.size ≤ w3.heap.size) := by have := Below.size hg0; (try simp at this); show _ ≤ _; omega
  clear hg hg0
  clear T0
  have ZF := Lib.hid hz
  have IF := Lib.hid hfit
  clear hz hfit
  obtain ⟨a0b_0, a0b_1, a0b_2, a0b_3, a0b_4⟩ := A0b.out.now
  have a0b_b := A0b.out.lt
  go_wp2_with fail
  refine (TA0.out _ G.out).mono ?_
  rintro e w4 ⟨v, rfl, hr, hg0⟩
  clear a0b_0 a0b_1 a0b_2 a0b_3 a0b_4 a0b_b
  have hg : Grew w3 w4 := hg0
  replace A0b := Lib.hid (A0b.out.grew hg)
  replace G := Lib.hid (grew_trans G.out hg)
  have N4 : Hid (w3.heap.size ≤ w4.heap.size) := by have := Below.size hg0; (try simp at this); show _ ≤ _; omega
  try rw [size_al] at hr
  clear hg hg0
  obtain ⟨XC0, xC0, YC0, yC0, rfl, _, _⟩ := hr.parts
  have C0 := Lib.hid (Loc.farm hr (Nat.le_refl _))
  clear hr
  go_wp2_with fail
  have hal : Grew w4 (w4.alloc (.cells #[.slice XC0 xs0.length xC0, .slice YC0 ys0.length yC0, .float .f32 r0, .float .f32 d0, .float .f32 s0] 25)) := grew_al (grew_refl _) _
  refine (CI.out _ _ _ _ (C0.out.grew hal).now (C0.out.grew hal).le).mono ?_
  rintro e w5 ⟨rV, rfl, hz, hfit, hg0⟩
  have hg : Grew w4 w5 := grew_trans hal hg0
  replace A0b := Lib.hid (A0b.out.grew hg)
  replace C0 := Lib.hid (C0.out.grew hg)
  replace G := Lib.hid (grew_trans G.out hg)
  have Q0 := Lib.hid ((Loc.fm (w := (w4.alloc (.cells #[.slice XC0 xs0.length xC0, .slice YC0 ys0.length yC0, .float .f32 r0, .float .f32 d0, .float .f32 s0] 25))) (b := w4.heap.size) (X := .slice XC0 xs0.length xC0) (Y := .slice YC0 ys0.length yC0) (r := r0) (d := d0) (s := s0) (by unfold FmAt; simp) (by simp <;> omega)).grew hg0)
  have N5 : Hid (w4.heap.size + 1 ≤ w5.heap.size) := by have := Below.size hg0; (try simp at this); show _ ≤ _; omega
  clear hg hg0 hal
  have ZV := Lib.hid hz
  have IV := Lib.hid hfit
  clear hz hfit
  have ss : (S != S) = false := by simp
  have sf : cl .f32 rV = cl .f32 rF := ZV.out.trans ZF.out.symm
  go_wp2_with (first | (refine upon_widen _ _ _ some_f32 Try.underlying43 ?_; intro z n hz hzw) | (go_at_call 27; refine (c_sameFloat _ _ _ (by simp only [*])).mono ?_; rintro e w6 ⟨rfl, hw⟩; have hg : Grew w5 w6 := grew_trans (grew_draw _ _ (grew_refl _)) (grew_drawn' hw); replace A0b := Lib.hid (A0b.out.grew hg); replace C0 := Lib.hid (C0.out.grew hg); replace Q0 := Lib.hid (Q0.out.grew hg); replace G := Lib.hid (grew_trans G.out hg); have N6 : Hid (w5.heap.size ≤ w6.heap.size) := Below.size hg; clear hw hg sf; obtain ⟨a0b_0, a0b_1, a0b_2, a0b_3, a0b_4⟩ := A0b.out.now; have a0b_b := A0b.out.lt; obtain ⟨q0_0, q0_1, q0_2, q0_3, q0_4⟩ := Q0.out.now; have q0_b := Q0.out.lt))
  try simp only [List.append_eq, List.cons_append, List.nil_append]
  refine wp_region_grow [52] [(52, W2 <| FarmBy w6.heap.size xs0 ys0 r0 d0 s0), (53, W2 <| Is (.bool true))] (by kernel_rfl) (by kernel_rfl) (by kernel_rfl) (by kernel_rfl) ?_
  repeat (first | (refine wpG_skip rfl ?_; try go_simp) | (refine wpG_want rfl (fun K hK => ?_); first | (refine gG_fbin rfl rfl _ _ _ rfl rfl rfl ?_; intro z hz hzw; go_simp; refine hK _ ?_; clear hK K) | (intro wq hq hp; obtain ⟨hqc, hqf⟩ := bcell hq; go_simp; first | (refine hK _ ?_; clear hK K; try clear hp; try clear hqc hqf; try clear hq; try clear wq) | ((with_reducible refine g_at 19 ?_); refine ⟨(TA0.out wq (grew_trans G.out hq)).mono fun e w3 ⟨v, he, h, hg⟩ => ⟨v, he, ⟨_, Below.size hq, h⟩, hg⟩, ?_⟩; rintro v w3 hg3 hfa; refine hK _ ?_; clear hK K; try clear hp; try clear hqc hqf; try clear hq; try clear wq) | ((with_reducible refine g_at 14 ?_); obtain ⟨lo, hi, _, hs, h1⟩ := FarmBy.get (hp 52 (by simp) (by decide)) hfa.ne rfl; refine ⟨(c_eqFarm _ _ lo hi _ _ xs0 ys0 xs0 ys0 r0 d0 s0 r0 d0 s0 wq (C0.out.grew hq).now h1 rfl rfl rfl rfl rfl lx0.out ly0.out).mono fun e w3 ⟨he, hg⟩ => ⟨_, he, rfl, hg⟩, ?_⟩; rintro v w3 hg3 rfl; refine hK _ ?_; clear hK K; try clear hp; try clear hqc hqf; try clear hq; try clear wq))))
  refine wpG_nil ?_
  intro w7 hq hal hap
  obtain ⟨hqc, hqf⟩ := bcell hq
  have hqs := Below.size hq
  try simp at hqs
  clear hap
  clear a0b_0 a0b_1 a0b_2 a0b_3 a0b_4 a0b_b q0_0 q0_1 q0_2 q0_3 q0_4 q0_b
  clear hqc hqf hal
  replace A0b := Lib.hid (A0b.out.grew hq)
  replace C0 := Lib.hid (C0.out.grew hq)
  replace Q0 := Lib.hid (Q0.out.grew hq)
  replace G := Lib.hid (grew_trans G.out hq)
  have N7 : Hid (w6.heap.size ≤ w7.heap.size) := Below.size hq
  clear hq hqs
  go_wp2_with fail
  go_ret
  exact ⟨rfl, G.out⟩

set_option maxHeartbeats 4000000 in
theorem walk_PowerInFarm_bad0 (A0 : Option Addr) (n0 c0 : Nat) (xs0 : List Nat) (B0 : Option Addr) (m0 e0 : Nat) (ys0 : List Nat) (r0 d0 s0 : Nat) (a1 : Nat) (a2 : Nat) (a3 : Nat) (w : World) (hx0 : Slc (Value.float .f32) w w.heap.size A0 n0 xs0) (hn0 : n0 ≤ maxLen) (fx0 : ∀ x ∈ xs0, fits x) (hy0 : Slc (Value.float .f32) w w.heap.size B0 m0 ys0) (hm0 : m0 ≤ maxLen) (fy0 : ∀ x ∈ ys0, fits x) (fr0 : fits r0) (fd0 : fits d0) (fs0 : fits s0) (fa1 : fits a1) (fa2 : fits a2) (fa3 : fits a3)  (g0 : ¬ (((n0 + m0 : Nat) : Int) ≤ 1048576)) :
    Calls Try.prog 11 #[.agg #[.slice A0 n0 c0, .slice B0 m0 e0, .float .f32 r0, .float .f32 d0, .float .f32 s0], .float .f32 a1, .float .f32 a2, .float .f32 a3] w fun e w' => e = .returned (.bool true) ∧ Below w.heap.size w w' := by
  obtain rfl := hx0.1
  obtain rfl := hy0.1
  have SA0 := Lib.hid (fun w => c_szFarm' A0 B0 _ c0 _ e0 r0 d0 s0 1048576 w hn0 hm0 (by omega) (by omega))
  rw [sz_no g0] at SA0
  have G : Hid (Grew w w) := grew_refl w
  clear hx0 hy0
  have W0 : Hid (Grew w (w.alloc (.cells #[.slice A0 xs0.length c0, .slice B0 ys0.length e0, .float .f32 r0, .float .f32 d0, .float .f32 s0] 31))) := by show Grew _ _; (show Below _ _ _; (repeat (first | exact Below.refl _ _ | refine ext_below ?_ (by first | omega | (simp only [size_ext, heap_push, Array.size_push, World.heap_drewN]; omega) | (simp; omega)) _ _ | refine below_draws ?_ _ | refine Below.alloc ?_ (by first | omega | (simp; done) | (simp; omega)) _ | refine Below.setCell ?_ (by first | omega | (simp; done) | (simp; omega)) _ | refine below_then (by assumption) (by first | omega | (simp; done) | (simp; omega)) ?_)))
  clear g0
  go_enter Try.func11, Try.ntmps11
  go_wp2_with fail
  refine (SA0.out _).mono ?_
  rintro e w1 ⟨rfl, hg0⟩
  have hg : Grew w w1 := grew_trans W0.out hg0
  replace G := Lib.hid (grew_trans G.out hg)
  have A0b := Lib.hid ((Loc.fm (w := (w.alloc (.cells #[.slice A0 xs0.length c0, .slice B0 ys0.length e0, .float .f32 r0, .float .f32 d0, .float .f32 s0] 31))) (b := w.heap.size) (X := .slice A0 xs0.length c0) (Y := .slice B0 ys0.length e0) (r := r0) (d := d0) (s := s0) (by unfold FmAt; simp) (by simp <;> omega)).grew hg0)
  have N1 : Hid (w.heap.size + 1 ≤ w1.heap.size) := by have := Below.size hg0; (try simp at this); show _ ≤ _; omega
  clear hg hg0
  go_wp2_with fail
  go_ret
  exact ⟨rfl, G.out⟩

set_option maxHeartbeats 4000000 in
theorem walk_PowerInFarm (A0 : Option Addr) (n0 c0 : Nat) (xs0 : List Nat) (B0 : Option Addr) (m0 e0 : Nat) (ys0 : List Nat) (r0 d0 s0 : Nat) (a1 : Nat) (a2 : Nat) (a3 : Nat) (w : World) (hx0 : Slc (Value.float .f32) w w.heap.size A0 n0 xs0) (hn0 : n0 ≤ maxLen) (fx0 : ∀ x ∈ xs0, fits x) (hy0 : Slc (Value.float .f32) w w.heap.size B0 m0 ys0) (hm0 : m0 ≤ maxLen) (fy0 : ∀ x ∈ ys0, fits x) (fr0 : fits r0) (fd0 : fits d0) (fs0 : fits s0) (fa1 : fits a1) (fa2 : fits a2) (fa3 : fits a3)  :
    Calls Try.prog 11 #[.agg #[.slice A0 n0 c0, .slice B0 m0 e0, .float .f32 r0, .float .f32 d0, .float .f32 s0], .float .f32 a1, .float .f32 a2, .float .f32 a3] w fun e w' => e = .returned (.bool true) ∧ Below w.heap.size w w' := by
  by_cases g0 : ((n0 + m0 : Nat) : Int) ≤ 1048576
  case neg => exact walk_PowerInFarm_bad0 A0 n0 c0 xs0 B0 m0 e0 ys0 r0 d0 s0 a1 a2 a3 w hx0 hn0 fx0 hy0 hm0 fy0 fr0 fd0 fs0 fa1 fa2 fa3  g0
  exact walk_PowerInFarm_ok A0 n0 c0 xs0 B0 m0 e0 ys0 r0 d0 s0 a1 a2 a3 w hx0 hn0 fx0 hy0 hm0 fy0 fr0 fd0 fs0 fa1 fa2 fa3 g0


end Go.Proofs.Ytlakmogclcpgdaa

