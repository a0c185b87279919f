/-
  WALK: the law of BinsOfWinds.
-/
import Derived.Test.YtebhefbpkcpnjaaBinsI
namespace Go.Proofs.Ytebhefbpkcpnjaa
open Go.RowKit Go.Flt
set_option linter.unusedVariables false
set_option maxRecDepth 100000
set_option linter.unusedSimpArgs false

theorem bn_len (xs : List Nat) (wd : Nat) (c : Int) : (bn xs wd c).length ≤ 1048576 := by
  cases h : bnOk xs wd c
  · rw [bn, h]; simp
  · obtain ⟨n, _, hn, _, _, _, e⟩ := bnOk_parts h
    rw [e, bnTo_len]; omega

theorem c_specBins' (lo hi : Nat) (v : Value) (xs : List Nat) (wd : Nat) (c : Int) (w : World) (h : FRow w lo hi v xs) (hs : hi ≤ w.heap.size) (hn : xs.length ≤ 1048576) :
    Calls Try.prog 32 #[v, .float .f32 wd, .int .i64 c] w (RetRow (Value.int .i64) 2 id (bn xs wd c) (bnOk xs wd c) w) := by
  obtain ⟨A, cp, rfl, h1⟩ := h.slc
  exact c_specBins A _ cp w.heap.size xs wd c w (h1.mono hs) (Nat.le_refl _) hn

theorem c_implBins' (lo hi : Nat) (v : Value) (xs : List Nat) (wd : Nat) (c : Int) (w : World) (h : FRow w lo hi v xs) (hs : hi ≤ w.heap.size) (hn : xs.length ≤ 1048576) :
    Calls Try.prog 33 #[v, .float .f32 wd, .int .i64 c] w (RetRow (Value.int .i64) 2 id (bn xs wd c) (bnOk xs wd c) w) := by
  obtain ⟨A, cp, rfl, h1⟩ := h.slc
  exact c_implBins A _ cp w.heap.size xs wd c w (h1.mono hs) (Nat.le_refl _) hn

set_option maxHeartbeats 4000000 in
theorem walk_BinsOfWinds_ok (A0 : Option Addr) (n0 c0 : Nat) (xs0 : List Nat) (a1 : Nat) (a2 : Int) (w : World) (hx0 : Slc (Value.float .f32) w w.heap.size A0 n0 xs0) (hn0 : n0 ≤ maxLen) (fx0 : ∀ x ∈ xs0, fits x) (fa1 : fits a1) (fa2 : (Lit.int .i64 a2).wf = true) (g0 : n0 ≤ 1048576) :
    Calls Try.prog 9 #[.slice A0 n0 c0, .float .f32 a1, .int .i64 a2] w fun e w' => e = .returned (.bool true) ∧ Below w.heap.size w w' := by
  obtain rfl := hx0.1
  have lx0 : Hid (xs0.length ≤ 1048576) := by show _ ≤ _; omega
  have dl0 : decide ((1048576 : Int) < (xs0.length : Int)) = false := by simp; omega
  have TA0 := Lib.hid (fun w' (hg : Grew w w') => c_toF A0 _ c0 w.heap.size xs0 w' (Slc.grew hx0 (Nat.le_refl _) hg) (Below.size hg) lx0.out)
  have CS := Lib.hid (fun lo0 hi0 v0 (w : World) (h0 : RowAt (Value.float .f32) 23 w lo0 hi0 v0 xs0) (s0 : hi0 ≤ w.heap.size) => c_specBins' lo0 hi0 v0 xs0 a1 a2 w h0 s0 lx0.out)
  have CI := Lib.hid (fun lo0 hi0 v0 (w : World) (h0 : RowAt (Value.float .f32) 23 w lo0 hi0 v0 xs0) (s0 : hi0 ≤ w.heap.size) => c_implBins' lo0 hi0 v0 xs0 a1 a2 w h0 s0 lx0.out)
  have LD : Hid ((bn xs0 a1 a2).length ≤ 1048576) := by show _ ≤ _; exact bn_len xs0 a1 a2
  generalize (bn xs0 a1 a2) = D at CS CI LD
  generalize (bnOk xs0 a1 a2) = S at CS CI
  clear hx0 hn0 fx0 fa1 fa2 g0
  have G : Hid (Grew w w) := grew_refl w
  go_enter Try.func9, Try.ntmps9
  go_wp2_with fail
  refine (TA0.out _ G.out).mono ?_
  rintro e w1 ⟨v, rfl, hr, hg0⟩
  have hg : Grew w w1 := hg0
  replace G := Lib.hid (grew_trans G.out hg)
  have N1 : Hid (w.heap.size ≤ w1.heap.size) := by have := Below.size hg0; (try simp at this); show _ ≤ _; omega
  try rw [size_al] at hr
  clear hg hg0
  obtain ⟨XT0, xT0, rfl, _⟩ := hr.slc
  have T0 := Lib.hid (Loc.row hr (Nat.le_refl _))
  clear hr
  go_wp2_with fail
  refine (CS.out _ _ _ _ T0.out.now T0.out.le).mono ?_
  rintro e w2 ⟨v, zF, rfl, hr, hz, hg0⟩
  have hg : Grew w1 w2 := hg0
  replace T0 := Lib.hid (T0.out.grew hg)
  replace G := Lib.hid (grew_trans G.out hg)
  have N2 : Hid (w1.heap.size ≤ w2.heap.size) := by have := Below.size hg0; (try simp at this); show _ ≤ _; omega
  try rw [size_al] at hr
  clear hg hg0
  clear T0
  obtain ⟨XF, xF, rfl, _⟩ := hr.slc
  have F := Lib.hid (Loc.row hr (Nat.le_refl _))
  have ZF := Lib.hid hz
  have LF : Hid (zF.length ≤ 1048576) := by show _ ≤ _; rw [len_of_map ZF.out]; exact LD.out
  clear hr hz
  go_wp2_with fail
  refine (TA0.out _ G.out).mono ?_
  rintro e w3 ⟨v, rfl, hr, hg0⟩
  have hg : Grew w2 w3 := hg0
  replace F := Lib.hid (F.out.grew hg)
  replace G := Lib.hid (grew_trans G.out hg)
  have N3 : Hid (w2.heap.size ≤ w3.heap.size) := by have := Below.size hg0; (try simp at this); show _ ≤ _; omega
  try rw [size_al] at hr
  clear hg hg0
  obtain ⟨XC0, xC0, rfl, _⟩ := hr.slc
  have C0 := Lib.hid (Loc.row hr (Nat.le_refl _))
  clear hr
  go_wp2_with fail
  refine (CI.out _ _ _ _ C0.out.now C0.out.le).mono ?_
  rintro e w4 ⟨v, zV, rfl, hr, hz, hg0⟩
  have hg : Grew w3 w4 := hg0
  replace F := Lib.hid (F.out.grew hg)
  replace C0 := Lib.hid (C0.out.grew hg)
  replace G := Lib.hid (grew_trans G.out hg)
  have N4 : Hid (w3.heap.size ≤ w4.heap.size) := by have := Below.size hg0; (try simp at this); show _ ≤ _; omega
  try rw [size_al] at hr
  clear hg hg0
  obtain ⟨XV, xV, rfl, _⟩ := hr.slc
  have V := Lib.hid (Loc.row hr (Nat.le_refl _))
  have ZV := Lib.hid hz
  have LV : Hid (zV.length ≤ 1048576) := by show _ ≤ _; rw [len_of_map ZV.out]; exact LD.out
  clear hr hz
  have ss : (S != S) = false := by simp
  go_wp2_with fail
  refine (c_eqI' _ _ _ _ _ _ zV zF _ V.out.now F.out.now (ZV.out.trans ZF.out.symm) LV.out).mono ?_
  rintro e w5 ⟨rfl, hg0⟩
  have hg : Grew w4 w5 := hg0
  replace F := Lib.hid (F.out.grew hg)
  replace C0 := Lib.hid (C0.out.grew hg)
  replace V := Lib.hid (V.out.grew hg)
  replace G := Lib.hid (grew_trans G.out hg)
  have N5 : Hid (w4.heap.size ≤ w5.heap.size) := by have := Below.size hg0; (try simp at this); show _ ≤ _; omega
  clear hg hg0
  go_wp2_with fail
  refine (TA0.out _ G.out).mono ?_
  rintro e w6 ⟨v, rfl, hr, hg0⟩
  have hg : Grew w5 w6 := hg0
  replace F := Lib.hid (F.out.grew hg)
  replace C0 := Lib.hid (C0.out.grew hg)
  replace V := Lib.hid (V.out.grew hg)
  replace G := Lib.hid (grew_trans G.out hg)
  have N6 : Hid (w5.heap.size ≤ w6.heap.size) := by have := Below.size hg0; (try simp at this); show _ ≤ _; omega
  try rw [size_al] at hr
  clear hg hg0
  obtain ⟨XT, xT, rfl, _⟩ := hr.slc
  have T := Lib.hid (Loc.row hr (Nat.le_refl _))
  clear hr
  go_wp2_with fail
  refine (c_eqF' _ _ _ _ _ _ xs0 xs0 _ C0.out.now T.out.now rfl lx0.out).mono ?_
  rintro e w7 ⟨rfl, hg0⟩
  have hg : Grew w6 w7 := hg0
  replace F := Lib.hid (F.out.grew hg)
  replace C0 := Lib.hid (C0.out.grew hg)
  replace V := Lib.hid (V.out.grew hg)
  replace T := Lib.hid (T.out.grew hg)
  replace G := Lib.hid (grew_trans G.out hg)
  have N7 : Hid (w6.heap.size ≤ w7.heap.size) := by have := Below.size hg0; (try simp at this); show _ ≤ _; omega
  clear hg hg0
  clear T
  go_wp2_with fail
  refine (c_markF' _ _ _ xs0 (1) _ C0.out.now (by have := lx0.out; have := lx0.out;  omega) (by have := lx0.out; have := lx0.out;  omega) (by have := lx0.out; have := lx0.out;  omega)).mono ?_
  rintro e w8 ⟨rfl, _, ho⟩
  have nn : _ ∧ _ ∧ _ ∧ _ ∧ _ ∧ _ ∧ _ := ⟨N1.out, N2.out, N3.out, N4.out, N5.out, N6.out, N7.out⟩
  replace F := Lib.hid (F.out.wrote ho (.inl (by omega)))
  replace V := Lib.hid (V.out.wrote ho (.inr (by omega)))
  replace G := Lib.hid (Wrote.below G.out ho (Nat.le_refl _) (by omega))
  have N8 : Hid (w7.heap.size ≤ w8.heap.size) := ho.size
  clear nn
  clear C0 ho
  have dk : decide (1 + (xs0.length : Int) < 0) = false := by simp; omega
  go_wp2_with fail
  refine (c_eqI' _ _ _ _ _ _ zV zF _ V.out.now F.out.now (ZV.out.trans ZF.out.symm) LV.out).mono ?_
  rintro e w9 ⟨rfl, hg0⟩
  have hg : Grew w8 w9 := hg0
  replace F := Lib.hid (F.out.grew hg)
  replace V := Lib.hid (V.out.grew hg)
  replace G := Lib.hid (grew_trans G.out hg)
  have N9 : Hid (w8.heap.size ≤ w9.heap.size) := by have := Below.size hg0; (try simp at this); show _ ≤ _; omega
  clear hg hg0
  clear dk
  go_wp2_with fail
  refine (c_markI' _ _ _ zV 1 _ V.out.now (by have := LV.out; omega) (by omega) (by omega)).mono ?_
  rintro e w10 ⟨rfl, hr, ho⟩
  have nn : _ ∧ _ ∧ _ ∧ _ ∧ _ ∧ _ ∧ _ ∧ _ ∧ _ := ⟨N1.out, N2.out, N3.out, N4.out, N5.out, N6.out, N7.out, N8.out, N9.out⟩
  replace F := Lib.hid (F.out.wrote ho (.inl (by omega)))
  replace G := Lib.hid (Wrote.below G.out ho (Nat.le_refl _) (by omega))
  have N10 : Hid (w9.heap.size ≤ w10.heap.size) := ho.size
  clear nn
  replace V := Lib.hid (Loc.row hr (Nat.le_trans V.out.le ho.size))
  clear hr ho
  have dm : decide (1 + (zV.length : Int) < 0) = false := by simp; omega
  go_wp2_with fail
  refine (c_heldI' _ _ _ zV.length 1 _ V.out.now (by have := LV.out; omega) (by omega) (by omega)).mono ?_
  rintro e w11 ⟨rfl, hg0⟩
  have hg : Grew w10 w11 := hg0
  replace F := Lib.hid (F.out.grew hg)
  replace V := Lib.hid (V.out.grew hg)
  replace G := Lib.hid (grew_trans G.out hg)
  have N11 : Hid (w10.heap.size ≤ w11.heap.size) := by have := Below.size hg0; (try simp at this); show _ ≤ _; omega
  clear hg hg0
  go_wp2_with fail
  refine (TA0.out _ G.out).mono ?_
  rintro e w12 ⟨v, rfl, hr, hg0⟩
  have hg : Grew w11 w12 := hg0
  replace F := Lib.hid (F.out.grew hg)
  replace V := Lib.hid (V.out.grew hg)
  replace G := Lib.hid (grew_trans G.out hg)
  have N12 : Hid (w11.heap.size ≤ w12.heap.size) := by have := Below.size hg0; (try simp at this); show _ ≤ _; omega
  try rw [size_al] at hr
  clear hg hg0
  obtain ⟨XT0, xT0, rfl, _⟩ := hr.slc
  have T0 := Lib.hid (Loc.row hr (Nat.le_refl _))
  clear hr
  go_wp2_with fail
  refine (CI.out _ _ _ _ T0.out.now T0.out.le).mono ?_
  rintro e w13 ⟨v, zH, rfl, hr, hz, hg0⟩
  have hg : Grew w12 w13 := hg0
  replace F := Lib.hid (F.out.grew hg)
  replace V := Lib.hid (V.out.grew hg)
  replace T0 := Lib.hid (T0.out.grew hg)
  replace G := Lib.hid (grew_trans G.out hg)
  have N13 : Hid (w12.heap.size ≤ w13.heap.size) := by have := Below.size hg0; (try simp at this); show _ ≤ _; omega
  try rw [size_al] at hr
  clear hg hg0
  clear T0
  obtain ⟨XH, xH, rfl, _⟩ := hr.slc
  have H := Lib.hid (Loc.row hr (Nat.le_refl _))
  have ZH := Lib.hid hz
  have LH : Hid (zH.length ≤ 1048576) := by show _ ≤ _; rw [len_of_map ZH.out]; exact LD.out
  clear hr hz
  go_wp2_with fail
  refine (c_eqI' _ _ _ _ _ _ zH zF _ H.out.now F.out.now (ZH.out.trans ZF.out.symm) LH.out).mono ?_
  rintro e w14 ⟨rfl, hg0⟩
  have hg : Grew w13 w14 := hg0
  replace F := Lib.hid (F.out.grew hg)
  replace V := Lib.hid (V.out.grew hg)
  replace H := Lib.hid (H.out.grew hg)
  replace G := Lib.hid (grew_trans G.out hg)
  have N14 : Hid (w13.heap.size ≤ w14.heap.size) := by have := Below.size hg0; (try simp at this); show _ ≤ _; omega
  clear hg hg0
  go_wp2_with fail
  refine (c_heldI' _ _ _ zV.length 1 _ V.out.now (by have := LV.out; omega) (by omega) (by omega)).mono ?_
  rintro e w15 ⟨rfl, hg0⟩
  have hg : Grew w14 w15 := hg0
  replace F := Lib.hid (F.out.grew hg)
  replace V := Lib.hid (V.out.grew hg)
  replace H := Lib.hid (H.out.grew hg)
  replace G := Lib.hid (grew_trans G.out hg)
  have N15 : Hid (w14.heap.size ≤ w15.heap.size) := by have := Below.size hg0; (try simp at this); show _ ≤ _; omega
  clear hg hg0
  go_wp2_with fail
  go_ret
  exact ⟨rfl, G.out⟩

set_option maxHeartbeats 4000000 in
theorem walk_BinsOfWinds_bad0 (A0 : Option Addr) (n0 c0 : Nat) (xs0 : List Nat) (a1 : Nat) (a2 : Int) (w : World) (hx0 : Slc (Value.float .f32) w w.heap.size A0 n0 xs0) (hn0 : n0 ≤ maxLen) (fx0 : ∀ x ∈ xs0, fits x) (fa1 : fits a1) (fa2 : (Lit.int .i64 a2).wf = true)  (g0 : ¬ (n0 ≤ 1048576)) :
    Calls Try.prog 9 #[.slice A0 n0 c0, .float .f32 a1, .int .i64 a2] w fun e w' => e = .returned (.bool true) ∧ Below w.heap.size w w' := by
  obtain rfl := hx0.1
  have dl0 : decide ((1048576 : Int) < (xs0.length : Int)) = true := by simp; omega
  have G : Hid (Grew w w) := grew_refl w
  clear hx0
  clear g0
  go_enter Try.func9, Try.ntmps9
  go_wp2_with fail
  go_ret
  exact ⟨rfl, by (repeat (first | exact Below.refl _ _ | refine ext_below ?_ (by first | omega | (simp only [size_ext, heap_push, Array.size_push, World.heap_drewN]; omega) | (simp; omega)) _ _ | refine below_draws ?_ _ | refine Below.alloc ?_ (by first | omega | (simp; done) | (simp; omega)) _ | refine Below.setCell ?_ (by first | omega | (simp; done) | (simp; omega)) _ | refine below_then (by assumption) (by first | omega | (simp; done) | (simp; omega)) ?_))⟩

set_option maxHeartbeats 4000000 in
theorem walk_BinsOfWinds (A0 : Option Addr) (n0 c0 : Nat) (xs0 : List Nat) (a1 : Nat) (a2 : Int) (w : World) (hx0 : Slc (Value.float .f32) w w.heap.size A0 n0 xs0) (hn0 : n0 ≤ maxLen) (fx0 : ∀ x ∈ xs0, fits x) (fa1 : fits a1) (fa2 : (Lit.int .i64 a2).wf = true)  :
    Calls Try.prog 9 #[.slice A0 n0 c0, .float .f32 a1, .int .i64 a2] w fun e w' => e = .returned (.bool true) ∧ Below w.heap.size w w' := by
  by_cases g0 : n0 ≤ 1048576
  case neg => exact walk_BinsOfWinds_bad0 A0 n0 c0 xs0 a1 a2 w hx0 hn0 fx0 fa1 fa2  g0
  exact walk_BinsOfWinds_ok A0 n0 c0 xs0 a1 a2 w hx0 hn0 fx0 fa1 fa2 g0


end Go.Proofs.Ytebhefbpkcpnjaa
