/-
  WALK: the law of GustFactor.
-/
import Derived.Test.YtebhefbpkcpnjaaGustI
namespace Go.Proofs.Ytebhefbpkcpnjaa
open Go.RowKit Go.Flt
set_option linter.unusedVariables false
set_option maxRecDepth 100000
set_option linter.unusedSimpArgs false

/-- What the slice is, what it reads, and how much room it has. -/
theorem RowAt.slcc {α : Type} {g : α → Value} {t : TypeId} {w : World} {lo hi : Nat} {v : Value} {xs : List α} (h : RowAt g t w lo hi v xs) : ∃ A cap, v = .slice A xs.length cap ∧ Slc g w hi A xs.length xs ∧ xs.length ≤ cap ∧ cap ≤ 9223372036854775807 := by
  obtain ⟨A, c, e, hs⟩ := h.slc
  refine ⟨A, c, e, hs, ?_⟩
  rcases h.1.2 with ⟨rfl, hn⟩ | ⟨b, cap, cur, rfl, hb, hgg, h1, h2, h3, h4⟩
  · simp only [Value.slice.injEq] at e
    omega
  · simp only [Value.slice.injEq] at e
    unfold maxLen at h2
    omega

theorem c_specGust' (lo hi : Nat) (v : Value) (xs : List Nat) (q : Int) (w : World) (h : FRow w lo hi v xs) (hs : hi ≤ w.heap.size) (hn : xs.length ≤ 1048576) :
    Calls Try.prog 11 #[v, .int .i64 q] w (RetFB (num (gOk xs q) (gD xs q)) (gOk xs q && fin (gD xs q)) (Grew w)) := by
  obtain ⟨A, c, rfl, h1, h2, h3⟩ := h.slcc
  exact c_specGust A _ c w.heap.size xs q w (h1.mono hs) (Nat.le_refl _) hn h2 h3

theorem c_implGust' (lo hi : Nat) (v : Value) (xs : List Nat) (q : Int) (w : World) (h : FRow w lo hi v xs) (hs : hi ≤ w.heap.size) (hn : xs.length ≤ 1048576) :
    Calls Try.prog 13 #[v, .int .i64 q] w (RetFB (num (gOk xs q) (gD xs q)) (gOk xs q && fin (gD xs q)) (Grew w)) := by
  obtain ⟨A, c, rfl, h1, h2, h3⟩ := h.slcc
  exact c_implGust A _ c w.heap.size xs q w (h1.mono hs) (Nat.le_refl _) hn h2 h3

set_option maxHeartbeats 4000000 in
theorem walk_GustFactor_ok (A0 : Option Addr) (n0 c0 : Nat) (xs0 : List Nat) (a1 : Int) (w : World) (hx0 : Slc (Value.float .f32) w w.heap.size A0 n0 xs0) (hn0 : n0 ≤ maxLen) (fx0 : ∀ x ∈ xs0, fits x) (fa1 : (Lit.int .i64 a1).wf = true) (g0 : n0 ≤ 1048576) :
    Calls Try.prog 3 #[.slice A0 n0 c0, .int .i64 a1] w fun e w' => e = .returned (.bool true) ∧ Below w.heap.size w w' := by
  obtain rfl := hx0.1
  have lx0 : Hid (xs0.length ≤ 1048576) := by show _ ≤ _; omega
  have dl0 : decide ((1048576 : Int) < (xs0.length : Int)) = false := by simp; omega
  have TA0 := Lib.hid (fun w' (hg : Grew w w') => c_toF A0 _ c0 w.heap.size xs0 w' (Slc.grew hx0 (Nat.le_refl _) hg) (Below.size hg) lx0.out)
  have CS := Lib.hid (fun lo0 hi0 v0 (w : World) (h0 : RowAt (Value.float .f32) 23 w lo0 hi0 v0 xs0) (s0 : hi0 ≤ w.heap.size) => c_specGust' lo0 hi0 v0 xs0 a1 w h0 s0 lx0.out)
  have CI := Lib.hid (fun lo0 hi0 v0 (w : World) (h0 : RowAt (Value.float .f32) 23 w lo0 hi0 v0 xs0) (s0 : hi0 ≤ w.heap.size) => c_implGust' lo0 hi0 v0 xs0 a1 w h0 s0 lx0.out)
  generalize (num (gOk xs0 a1) (gD xs0 a1)) = D at CS CI
  generalize (gOk xs0 a1 && fin (gD xs0 a1)) = S at CS CI
  clear hx0 hn0 fx0 fa1 g0
  have G : Hid (Grew w w) := grew_refl w
  go_enter Try.func3, Try.ntmps3
  go_wp2_with fail
  refine (TA0.out _ G.out).mono ?_
  rintro e w1 ⟨v, rfl, hr, hg0⟩
  have hg : Grew w w1 := hg0
  replace G := Lib.hid (grew_trans G.out hg)
  have N1 : Hid (w.heap.size ≤ w1.heap.size) := by have := Below.size hg0; (try simp at this); show _ ≤ _; omega
  try rw [size_al] at hr
  clear hg hg0
  obtain ⟨XT0, xT0, rfl, _⟩ := hr.slc
  have T0 := Lib.hid (Loc.row hr (Nat.le_refl _))
  clear hr
  go_wp2_with fail
  refine (CS.out _ _ _ _ T0.out.now T0.out.le).mono ?_
  rintro e w2 ⟨rF, rfl, hz, hfit, hg0⟩
  have hg : Grew w1 w2 := hg0
  replace T0 := Lib.hid (T0.out.grew hg)
  replace G := Lib.hid (grew_trans G.out hg)
  have N2 : Hid (w1.heap.size ≤ w2.heap.size) := by have := Below.size hg0; (try simp at this); show _ ≤ _; omega
  clear hg hg0
  clear T0
  have ZF := Lib.hid hz
  have IF := Lib.hid hfit
  clear hz hfit
  go_wp2_with fail
  refine (TA0.out _ G.out).mono ?_
  rintro e w3 ⟨v, rfl, hr, hg0⟩
  have hg : Grew w2 w3 := hg0
  replace G := Lib.hid (grew_trans G.out hg)
  have N3 : Hid (w2.heap.size ≤ w3.heap.size) := by have := Below.size hg0; (try simp at this); show _ ≤ _; omega
  try rw [size_al] at hr
  clear hg hg0
  obtain ⟨XC0, xC0, rfl, _⟩ := hr.slc
  have C0 := Lib.hid (Loc.row hr (Nat.le_refl _))
  clear hr
  go_wp2_with fail
  refine (CI.out _ _ _ _ C0.out.now C0.out.le).mono ?_
  rintro e w4 ⟨rV, rfl, hz, hfit, hg0⟩
  have hg : Grew w3 w4 := hg0
  replace C0 := Lib.hid (C0.out.grew hg)
  replace G := Lib.hid (grew_trans G.out hg)
  have N4 : Hid (w3.heap.size ≤ w4.heap.size) := by have := Below.size hg0; (try simp at this); show _ ≤ _; omega
  clear hg hg0
  have ZV := Lib.hid hz
  have IV := Lib.hid hfit
  clear hz hfit
  have ss : (S != S) = false := by simp
  have sf : cl .f32 rV = cl .f32 rF := ZV.out.trans ZF.out.symm
  go_wp2_with (first | (refine upon_widen _ _ _ some_f32 Try.underlying28 ?_; intro z n hz hzw) | (go_at_call 14; refine (c_sameFloat _ _ _ (by simp only [*])).mono ?_; rintro e w5 ⟨rfl, hw⟩; have hg : Grew w4 w5 := grew_trans (grew_draw _ _ (grew_refl _)) (grew_drawn' hw); replace C0 := Lib.hid (C0.out.grew hg); replace G := Lib.hid (grew_trans G.out hg); have N5 : Hid (w4.heap.size ≤ w5.heap.size) := Below.size hg; clear hw hg sf))
  refine (TA0.out _ G.out).mono ?_
  rintro e w6 ⟨v, rfl, hr, hg0⟩
  have hg : Grew w5 w6 := hg0
  replace C0 := Lib.hid (C0.out.grew hg)
  replace G := Lib.hid (grew_trans G.out hg)
  have N6 : Hid (w5.heap.size ≤ w6.heap.size) := by have := Below.size hg0; (try simp at this); show _ ≤ _; omega
  try rw [size_al] at hr
  clear hg hg0
  obtain ⟨XT, xT, rfl, _⟩ := hr.slc
  have T := Lib.hid (Loc.row hr (Nat.le_refl _))
  clear hr
  go_wp2_with fail
  refine (c_eqF' _ _ _ _ _ _ xs0 xs0 _ C0.out.now T.out.now rfl lx0.out).mono ?_
  rintro e w7 ⟨rfl, hg0⟩
  have hg : Grew w6 w7 := hg0
  replace C0 := Lib.hid (C0.out.grew hg)
  replace T := Lib.hid (T.out.grew hg)
  replace G := Lib.hid (grew_trans G.out hg)
  have N7 : Hid (w6.heap.size ≤ w7.heap.size) := by have := Below.size hg0; (try simp at this); show _ ≤ _; omega
  clear hg hg0
  clear T
  go_wp2_with fail
  go_ret
  exact ⟨rfl, G.out⟩

set_option maxHeartbeats 4000000 in
theorem walk_GustFactor_bad0 (A0 : Option Addr) (n0 c0 : Nat) (xs0 : List Nat) (a1 : Int) (w : World) (hx0 : Slc (Value.float .f32) w w.heap.size A0 n0 xs0) (hn0 : n0 ≤ maxLen) (fx0 : ∀ x ∈ xs0, fits x) (fa1 : (Lit.int .i64 a1).wf = true)  (g0 : ¬ (n0 ≤ 1048576)) :
    Calls Try.prog 3 #[.slice A0 n0 c0, .int .i64 a1] w fun e w' => e = .returned (.bool true) ∧ Below w.heap.size w w' := by
  obtain rfl := hx0.1
  have dl0 : decide ((1048576 : Int) < (xs0.length : Int)) = true := by simp; omega
  have G : Hid (Grew w w) := grew_refl w
  clear hx0
  clear g0
  go_enter Try.func3, Try.ntmps3
  go_wp2_with fail
  go_ret
  exact ⟨rfl, by (repeat (first | exact Below.refl _ _ | refine ext_below ?_ (by first | omega | (simp only [size_ext, heap_push, Array.size_push, World.heap_drewN]; omega) | (simp; omega)) _ _ | refine below_draws ?_ _ | refine Below.alloc ?_ (by first | omega | (simp; done) | (simp; omega)) _ | refine Below.setCell ?_ (by first | omega | (simp; done) | (simp; omega)) _ | refine below_then (by assumption) (by first | omega | (simp; done) | (simp; omega)) ?_))⟩

set_option maxHeartbeats 4000000 in
theorem walk_GustFactor (A0 : Option Addr) (n0 c0 : Nat) (xs0 : List Nat) (a1 : Int) (w : World) (hx0 : Slc (Value.float .f32) w w.heap.size A0 n0 xs0) (hn0 : n0 ≤ maxLen) (fx0 : ∀ x ∈ xs0, fits x) (fa1 : (Lit.int .i64 a1).wf = true)  :
    Calls Try.prog 3 #[.slice A0 n0 c0, .int .i64 a1] w fun e w' => e = .returned (.bool true) ∧ Below w.heap.size w w' := by
  by_cases g0 : n0 ≤ 1048576
  case neg => exact walk_GustFactor_bad0 A0 n0 c0 xs0 a1 w hx0 hn0 fx0 fa1  g0
  exact walk_GustFactor_ok A0 n0 c0 xs0 a1 w hx0 hn0 fx0 fa1 g0


end Go.Proofs.Ytebhefbpkcpnjaa
