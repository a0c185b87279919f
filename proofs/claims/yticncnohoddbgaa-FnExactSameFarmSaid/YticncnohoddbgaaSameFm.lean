/-
  CONTRACTS: farms that are the same.
-/
import Derived.BigQuiet
import Derived.Test.YticncnohoddbgaaSameFs
import Derived.Test.YticncnohoddbgaaFarm
namespace Go.Proofs.Yticncnohoddbgaa
open Go.RowKit Go.Flt
set_option linter.unusedVariables false
set_option maxRecDepth 100000
set_option linter.unusedSimpArgs false

def sameFm (xs ys : List Nat) (r d s : Nat) (xs' ys' : List Nat) (r' d' s' : Nat) : Bool := sameFs xs xs' && sameFs ys ys' && same .f32 r r' && same .f32 d d' && same .f32 s s'

set_option maxHeartbeats 2000000 in
theorem c_l06Same (b b' K : Nat) (A C A' C' : Option Addr) (n cA m cC n' cA' m' cC' : Nat) (xs ys xs' ys' : List Nat) (r d s r' d' s' : Nat) (w : World)
    (h : FmAt w b (.slice A n cA) (.slice C m cC) r d s) (h' : FmAt w b' (.slice A' n' cA') (.slice C' m' cC') r' d' s')
    (hx : LIn w K A n xs) (hy : LIn w K C m ys) (hx' : LIn w K A' n' xs') (hy' : LIn w K C' m' ys')
    (f1 : fits r) (f2 : fits d) (f3 : fits s) (g1 : fits r') (g2 : fits d') (g3 : fits s') :
    Calls Try.prog 67 #[.pointer (some ⟨b, 0, none⟩), .pointer (some ⟨b', 0, none⟩)] w fun e w' => e = .returned (.bool (sameFm xs ys r d s xs' ys' r' d' s')) ∧ ∃ n, w' = w.drewN n := by
  obtain ⟨h0, h1, h2, h3, h4⟩ := h
  obtain ⟨k0, k1, k2, k3, k4⟩ := h'
  have HX := Lib.hid hx
  have HY := Lib.hid hy
  have HX' := Lib.hid hx'
  have HY' := Lib.hid hy'
  clear hx hy hx' hy'
  go_enter Try.func67, Try.ntmps67
  go_wp2_with fail
  try simp only [List.append_eq, List.cons_append, List.nil_append]
  refine wp_region_quiet_lit (by kernel_rfl) (by kernel_rfl) ?_
  repeat (go_big_quiet_step ((first | (go_at_call 87; exact Calls.quiet_of (c_l01SameAll' _ _ _ _ _ _ K _ _ _ (by first | exact HX.out | exact HY.out) (by first | exact HX'.out | exact HY'.out))) | (go_at_call 88; exact Calls.quiet_of (c_l01Same _ _ _ (by assumption) (by assumption))))))
  cases qc0 : sameFs xs xs'
  case false =>
    repeat (go_big_quiet_step ((first | (go_at_call 87; exact Calls.quiet_of (c_l01SameAll' _ _ _ _ _ _ K _ _ _ (by first | exact HX.out | exact HY.out) (by first | exact HX'.out | exact HY'.out))) | (go_at_call 88; exact Calls.quiet_of (c_l01Same _ _ _ (by assumption) (by assumption))))))
    refine wpQuiet_nil ?_
    intro _ hw'
    obtain ⟨nq, hw''⟩ := hw'
    subst hw''
    go_wp2_with fail
    go_ret
    exact ⟨by simp [sameFm, *], _, rfl⟩
  repeat (go_big_quiet_step ((first | (go_at_call 87; exact Calls.quiet_of (c_l01SameAll' _ _ _ _ _ _ K _ _ _ (by first | exact HX.out | exact HY.out) (by first | exact HX'.out | exact HY'.out))) | (go_at_call 88; exact Calls.quiet_of (c_l01Same _ _ _ (by assumption) (by assumption))))))
  cases qc1 : sameFs ys ys'
  case false =>
    repeat (go_big_quiet_step ((first | (go_at_call 87; exact Calls.quiet_of (c_l01SameAll' _ _ _ _ _ _ K _ _ _ (by first | exact HX.out | exact HY.out) (by first | exact HX'.out | exact HY'.out))) | (go_at_call 88; exact Calls.quiet_of (c_l01Same _ _ _ (by assumption) (by assumption))))))
    refine wpQuiet_nil ?_
    intro _ hw'
    obtain ⟨nq, hw''⟩ := hw'
    subst hw''
    go_wp2_with fail
    go_ret
    exact ⟨by simp [sameFm, *], _, rfl⟩
  repeat (go_big_quiet_step ((first | (go_at_call 87; exact Calls.quiet_of (c_l01SameAll' _ _ _ _ _ _ K _ _ _ (by first | exact HX.out | exact HY.out) (by first | exact HX'.out | exact HY'.out))) | (go_at_call 88; exact Calls.quiet_of (c_l01Same _ _ _ (by assumption) (by assumption))))))
  cases qc2 : same .f32 r r'
  case false =>
    repeat (go_big_quiet_step ((first | (go_at_call 87; exact Calls.quiet_of (c_l01SameAll' _ _ _ _ _ _ K _ _ _ (by first | exact HX.out | exact HY.out) (by first | exact HX'.out | exact HY'.out))) | (go_at_call 88; exact Calls.quiet_of (c_l01Same _ _ _ (by assumption) (by assumption))))))
    refine wpQuiet_nil ?_
    intro _ hw'
    obtain ⟨nq, hw''⟩ := hw'
    subst hw''
    go_wp2_with fail
    go_ret
    exact ⟨by simp [sameFm, *], _, rfl⟩
  repeat (go_big_quiet_step ((first | (go_at_call 87; exact Calls.quiet_of (c_l01SameAll' _ _ _ _ _ _ K _ _ _ (by first | exact HX.out | exact HY.out) (by first | exact HX'.out | exact HY'.out))) | (go_at_call 88; exact Calls.quiet_of (c_l01Same _ _ _ (by assumption) (by assumption))))))
  cases qc3 : same .f32 d d'
  case false =>
    repeat (go_big_quiet_step ((first | (go_at_call 87; exact Calls.quiet_of (c_l01SameAll' _ _ _ _ _ _ K _ _ _ (by first | exact HX.out | exact HY.out) (by first | exact HX'.out | exact HY'.out))) | (go_at_call 88; exact Calls.quiet_of (c_l01Same _ _ _ (by assumption) (by assumption))))))
    refine wpQuiet_nil ?_
    intro _ hw'
    obtain ⟨nq, hw''⟩ := hw'
    subst hw''
    go_wp2_with fail
    go_ret
    exact ⟨by simp [sameFm, *], _, rfl⟩
  repeat (go_big_quiet_step ((first | (go_at_call 87; exact Calls.quiet_of (c_l01SameAll' _ _ _ _ _ _ K _ _ _ (by first | exact HX.out | exact HY.out) (by first | exact HX'.out | exact HY'.out))) | (go_at_call 88; exact Calls.quiet_of (c_l01Same _ _ _ (by assumption) (by assumption))))))
  refine wpQuiet_nil ?_
  intro _ hw'
  obtain ⟨nq, hw''⟩ := hw'
  subst hw''
  go_wp2_with fail
  go_ret
  exact ⟨by simp [sameFm, *], _, rfl⟩

theorem c_specSameFarm (K : Nat) (A C A' C' : Option Addr) (n cA m cC n' cA' m' cC' : Nat) (xs ys xs' ys' : List Nat) (r d s r' d' s' : Nat) (w : World) (hK : K ≤ w.heap.size)
    (hx : LIn w K A n xs) (hy : LIn w K C m ys) (hx' : LIn w K A' n' xs') (hy' : LIn w K C' m' ys') (f1 : fits r) (f2 : fits d) (f3 : fits s) (g1 : fits r') (g2 : fits d') (g3 : fits s') :
    Calls Try.prog 38 #[.agg #[.slice A n cA, .slice C m cC, .float .f32 r, .float .f32 d, .float .f32 s], .agg #[.slice A' n' cA', .slice C' m' cC', .float .f32 r', .float .f32 d', .float .f32 s']] w fun e w' => e = .returned (.bool (sameFm xs ys r d s xs' ys' r' d' s')) ∧ Grew w w' := by
  have HX := Lib.hid (fun w' h => hx.grew (w' := w') hK h)
  have HY := Lib.hid (fun w' h => hy.grew (w' := w') hK h)
  have HX' := Lib.hid (fun w' h => hx'.grew (w' := w') hK h)
  have HY' := Lib.hid (fun w' h => hy'.grew (w' := w') hK h)
  clear hx hy hx' hy'
  go_enter Try.func38, Try.ntmps38
  go_wp2_with fail
  refine (c_l06Same _ _ K A C A' C' n cA m cC n' cA' m' cC' xs ys xs' ys' r d s r' d' s' _ (by unfold FmAt; simp) (by unfold FmAt; simp) (HX.out _ (by (show Below _ _ _; (repeat (first | exact Below.refl _ _ | refine ext_below ?_ (by first | omega | (simp only [size_ext, heap_push, Array.size_push, World.heap_drewN]; omega) | (simp; omega)) _ _ | refine below_draws ?_ _ | refine Below.alloc ?_ (by first | omega | (simp; done) | (simp; omega)) _ | refine Below.setCell ?_ (by first | omega | (simp; done) | (simp; omega)) _ | refine below_then (by assumption) (by first | omega | (simp; done) | (simp; omega)) ?_))))) (HY.out _ (by (show Below _ _ _; (repeat (first | exact Below.refl _ _ | refine ext_below ?_ (by first | omega | (simp only [size_ext, heap_push, Array.size_push, World.heap_drewN]; omega) | (simp; omega)) _ _ | refine below_draws ?_ _ | refine Below.alloc ?_ (by first | omega | (simp; done) | (simp; omega)) _ | refine Below.setCell ?_ (by first | omega | (simp; done) | (simp; omega)) _ | refine below_then (by assumption) (by first | omega | (simp; done) | (simp; omega)) ?_))))) (HX'.out _ (by (show Below _ _ _; (repeat (first | exact Below.refl _ _ | refine ext_below ?_ (by first | omega | (simp only [size_ext, heap_push, Array.size_push, World.heap_drewN]; omega) | (simp; omega)) _ _ | refine below_draws ?_ _ | refine Below.alloc ?_ (by first | omega | (simp; done) | (simp; omega)) _ | refine Below.setCell ?_ (by first | omega | (simp; done) | (simp; omega)) _ | refine below_then (by assumption) (by first | omega | (simp; done) | (simp; omega)) ?_))))) (HY'.out _ (by (show Below _ _ _; (repeat (first | exact Below.refl _ _ | refine ext_below ?_ (by first | omega | (simp only [size_ext, heap_push, Array.size_push, World.heap_drewN]; omega) | (simp; omega)) _ _ | refine below_draws ?_ _ | refine Below.alloc ?_ (by first | omega | (simp; done) | (simp; omega)) _ | refine Below.setCell ?_ (by first | omega | (simp; done) | (simp; omega)) _ | refine below_then (by assumption) (by first | omega | (simp; done) | (simp; omega)) ?_))))) f1 f2 f3 g1 g2 g3).mono ?_
  rintro e w' ⟨rfl, nq, rfl⟩
  go_wp2_with fail
  go_ret
  exact ⟨rfl, by (show Below _ _ _; (repeat (first | exact Below.refl _ _ | refine ext_below ?_ (by first | omega | (simp only [size_ext, heap_push, Array.size_push, World.heap_drewN]; omega) | (simp; omega)) _ _ | refine below_draws ?_ _ | refine Below.alloc ?_ (by first | omega | (simp; done) | (simp; omega)) _ | refine Below.setCell ?_ (by first | omega | (simp; done) | (simp; omega)) _ | refine below_then (by assumption) (by first | omega | (simp; done) | (simp; omega)) ?_)))⟩

set_option maxHeartbeats 2000000 in
theorem c_implSameFarm (K : Nat) (A C A' C' : Option Addr) (n cA m cC n' cA' m' cC' : Nat) (xs ys xs' ys' : List Nat) (r d s r' d' s' : Nat) (w : World) (hK : K ≤ w.heap.size)
    (hx : LIn w K A n xs) (hy : LIn w K C m ys) (hx' : LIn w K A' n' xs') (hy' : LIn w K C' m' ys') :
    Calls Try.prog 40 #[.agg #[.slice A n cA, .slice C m cC, .float .f32 r, .float .f32 d, .float .f32 s], .agg #[.slice A' n' cA', .slice C' m' cC', .float .f32 r', .float .f32 d', .float .f32 s']] w fun e w' => e = .returned (.bool (sameFm xs ys r d s xs' ys' r' d' s')) ∧ Grew w w' := by
  have HX := Lib.hid (fun w' h => hx.grew (w' := w') hK h)
  have HY := Lib.hid (fun w' h => hy.grew (w' := w') hK h)
  have HX' := Lib.hid (fun w' h => hx'.grew (w' := w') hK h)
  have HY' := Lib.hid (fun w' h => hy'.grew (w' := w') hK h)
  clear hx hy hx' hy'
  cases cc0 : sameFs xs xs'
  case false =>
    go_enter Try.func40, Try.ntmps40
    go_wp2_with (first | (go_at_call 68; refine (c_sameNumbers' _ _ _ _ _ _ K _ _ _ (by first | exact HX.out _ (by (show Below _ _ _; (repeat (first | exact Below.refl _ _ | refine ext_below ?_ (by first | omega | (simp only [size_ext, heap_push, Array.size_push, World.heap_drewN]; omega) | (simp; omega)) _ _ | refine below_draws ?_ _ | refine Below.alloc ?_ (by first | omega | (simp; done) | (simp; omega)) _ | refine Below.setCell ?_ (by first | omega | (simp; done) | (simp; omega)) _ | refine below_then (by assumption) (by first | omega | (simp; done) | (simp; omega)) ?_)))) | exact HY.out _ (by (show Below _ _ _; (repeat (first | exact Below.refl _ _ | refine ext_below ?_ (by first | omega | (simp only [size_ext, heap_push, Array.size_push, World.heap_drewN]; omega) | (simp; omega)) _ _ | refine below_draws ?_ _ | refine Below.alloc ?_ (by first | omega | (simp; done) | (simp; omega)) _ | refine Below.setCell ?_ (by first | omega | (simp; done) | (simp; omega)) _ | refine below_then (by assumption) (by first | omega | (simp; done) | (simp; omega)) ?_))))) (by first | exact HX'.out _ (by (show Below _ _ _; (repeat (first | exact Below.refl _ _ | refine ext_below ?_ (by first | omega | (simp only [size_ext, heap_push, Array.size_push, World.heap_drewN]; omega) | (simp; omega)) _ _ | refine below_draws ?_ _ | refine Below.alloc ?_ (by first | omega | (simp; done) | (simp; omega)) _ | refine Below.setCell ?_ (by first | omega | (simp; done) | (simp; omega)) _ | refine below_then (by assumption) (by first | omega | (simp; done) | (simp; omega)) ?_)))) | exact HY'.out _ (by (show Below _ _ _; (repeat (first | exact Below.refl _ _ | refine ext_below ?_ (by first | omega | (simp only [size_ext, heap_push, Array.size_push, World.heap_drewN]; omega) | (simp; omega)) _ _ | refine below_draws ?_ _ | refine Below.alloc ?_ (by first | omega | (simp; done) | (simp; omega)) _ | refine Below.setCell ?_ (by first | omega | (simp; done) | (simp; omega)) _ | refine below_then (by assumption) (by first | omega | (simp; done) | (simp; omega)) ?_)))))).mono ?_; rintro e w' ⟨rfl, nq, rfl⟩) | (go_at_call 69; refine (c_SameNumber _ _ _).mono ?_; rintro e w' ⟨rfl, nq, rfl⟩))
    go_ret
    exact ⟨by simp [sameFm, *], by (show Below _ _ _; (repeat (first | exact Below.refl _ _ | refine ext_below ?_ (by first | omega | (simp only [size_ext, heap_push, Array.size_push, World.heap_drewN]; omega) | (simp; omega)) _ _ | refine below_draws ?_ _ | refine Below.alloc ?_ (by first | omega | (simp; done) | (simp; omega)) _ | refine Below.setCell ?_ (by first | omega | (simp; done) | (simp; omega)) _ | refine below_then (by assumption) (by first | omega | (simp; done) | (simp; omega)) ?_)))⟩
  cases cc1 : sameFs ys ys'
  case false =>
    go_enter Try.func40, Try.ntmps40
    go_wp2_with (first | (go_at_call 68; refine (c_sameNumbers' _ _ _ _ _ _ K _ _ _ (by first | exact HX.out _ (by (show Below _ _ _; (repeat (first | exact Below.refl _ _ | refine ext_below ?_ (by first | omega | (simp only [size_ext, heap_push, Array.size_push, World.heap_drewN]; omega) | (simp; omega)) _ _ | refine below_draws ?_ _ | refine Below.alloc ?_ (by first | omega | (simp; done) | (simp; omega)) _ | refine Below.setCell ?_ (by first | omega | (simp; done) | (simp; omega)) _ | refine below_then (by assumption) (by first | omega | (simp; done) | (simp; omega)) ?_)))) | exact HY.out _ (by (show Below _ _ _; (repeat (first | exact Below.refl _ _ | refine ext_below ?_ (by first | omega | (simp only [size_ext, heap_push, Array.size_push, World.heap_drewN]; omega) | (simp; omega)) _ _ | refine below_draws ?_ _ | refine Below.alloc ?_ (by first | omega | (simp; done) | (simp; omega)) _ | refine Below.setCell ?_ (by first | omega | (simp; done) | (simp; omega)) _ | refine below_then (by assumption) (by first | omega | (simp; done) | (simp; omega)) ?_))))) (by first | exact HX'.out _ (by (show Below _ _ _; (repeat (first | exact Below.refl _ _ | refine ext_below ?_ (by first | omega | (simp only [size_ext, heap_push, Array.size_push, World.heap_drewN]; omega) | (simp; omega)) _ _ | refine below_draws ?_ _ | refine Below.alloc ?_ (by first | omega | (simp; done) | (simp; omega)) _ | refine Below.setCell ?_ (by first | omega | (simp; done) | (simp; omega)) _ | refine below_then (by assumption) (by first | omega | (simp; done) | (simp; omega)) ?_)))) | exact HY'.out _ (by (show Below _ _ _; (repeat (first | exact Below.refl _ _ | refine ext_below ?_ (by first | omega | (simp only [size_ext, heap_push, Array.size_push, World.heap_drewN]; omega) | (simp; omega)) _ _ | refine below_draws ?_ _ | refine Below.alloc ?_ (by first | omega | (simp; done) | (simp; omega)) _ | refine Below.setCell ?_ (by first | omega | (simp; done) | (simp; omega)) _ | refine below_then (by assumption) (by first | omega | (simp; done) | (simp; omega)) ?_)))))).mono ?_; rintro e w' ⟨rfl, nq, rfl⟩) | (go_at_call 69; refine (c_SameNumber _ _ _).mono ?_; rintro e w' ⟨rfl, nq, rfl⟩))
    go_ret
    exact ⟨by simp [sameFm, *], by (show Below _ _ _; (repeat (first | exact Below.refl _ _ | refine ext_below ?_ (by first | omega | (simp only [size_ext, heap_push, Array.size_push, World.heap_drewN]; omega) | (simp; omega)) _ _ | refine below_draws ?_ _ | refine Below.alloc ?_ (by first | omega | (simp; done) | (simp; omega)) _ | refine Below.setCell ?_ (by first | omega | (simp; done) | (simp; omega)) _ | refine below_then (by assumption) (by first | omega | (simp; done) | (simp; omega)) ?_)))⟩
  cases cc2 : same .f32 r r'
  case false =>
    go_enter Try.func40, Try.ntmps40
    go_wp2_with (first | (go_at_call 68; refine (c_sameNumbers' _ _ _ _ _ _ K _ _ _ (by first | exact HX.out _ (by (show Below _ _ _; (repeat (first | exact Below.refl _ _ | refine ext_below ?_ (by first | omega | (simp only [size_ext, heap_push, Array.size_push, World.heap_drewN]; omega) | (simp; omega)) _ _ | refine below_draws ?_ _ | refine Below.alloc ?_ (by first | omega | (simp; done) | (simp; omega)) _ | refine Below.setCell ?_ (by first | omega | (simp; done) | (simp; omega)) _ | refine below_then (by assumption) (by first | omega | (simp; done) | (simp; omega)) ?_)))) | exact HY.out _ (by (show Below _ _ _; (repeat (first | exact Below.refl _ _ | refine ext_below ?_ (by first | omega | (simp only [size_ext, heap_push, Array.size_push, World.heap_drewN]; omega) | (simp; omega)) _ _ | refine below_draws ?_ _ | refine Below.alloc ?_ (by first | omega | (simp; done) | (simp; omega)) _ | refine Below.setCell ?_ (by first | omega | (simp; done) | (simp; omega)) _ | refine below_then (by assumption) (by first | omega | (simp; done) | (simp; omega)) ?_))))) (by first | exact HX'.out _ (by (show Below _ _ _; (repeat (first | exact Below.refl _ _ | refine ext_below ?_ (by first | omega | (simp only [size_ext, heap_push, Array.size_push, World.heap_drewN]; omega) | (simp; omega)) _ _ | refine below_draws ?_ _ | refine Below.alloc ?_ (by first | omega | (simp; done) | (simp; omega)) _ | refine Below.setCell ?_ (by first | omega | (simp; done) | (simp; omega)) _ | refine below_then (by assumption) (by first | omega | (simp; done) | (simp; omega)) ?_)))) | exact HY'.out _ (by (show Below _ _ _; (repeat (first | exact Below.refl _ _ | refine ext_below ?_ (by first | omega | (simp only [size_ext, heap_push, Array.size_push, World.heap_drewN]; omega) | (simp; omega)) _ _ | refine below_draws ?_ _ | refine Below.alloc ?_ (by first | omega | (simp; done) | (simp; omega)) _ | refine Below.setCell ?_ (by first | omega | (simp; done) | (simp; omega)) _ | refine below_then (by assumption) (by first | omega | (simp; done) | (simp; omega)) ?_)))))).mono ?_; rintro e w' ⟨rfl, nq, rfl⟩) | (go_at_call 69; refine (c_SameNumber _ _ _).mono ?_; rintro e w' ⟨rfl, nq, rfl⟩))
    go_ret
    exact ⟨by simp [sameFm, *], by (show Below _ _ _; (repeat (first | exact Below.refl _ _ | refine ext_below ?_ (by first | omega | (simp only [size_ext, heap_push, Array.size_push, World.heap_drewN]; omega) | (simp; omega)) _ _ | refine below_draws ?_ _ | refine Below.alloc ?_ (by first | omega | (simp; done) | (simp; omega)) _ | refine Below.setCell ?_ (by first | omega | (simp; done) | (simp; omega)) _ | refine below_then (by assumption) (by first | omega | (simp; done) | (simp; omega)) ?_)))⟩
  cases cc3 : same .f32 d d'
  case false =>
    go_enter Try.func40, Try.ntmps40
    go_wp2_with (first | (go_at_call 68; refine (c_sameNumbers' _ _ _ _ _ _ K _ _ _ (by first | exact HX.out _ (by (show Below _ _ _; (repeat (first | exact Below.refl _ _ | refine ext_below ?_ (by first | omega | (simp only [size_ext, heap_push, Array.size_push, World.heap_drewN]; omega) | (simp; omega)) _ _ | refine below_draws ?_ _ | refine Below.alloc ?_ (by first | omega | (simp; done) | (simp; omega)) _ | refine Below.setCell ?_ (by first | omega | (simp; done) | (simp; omega)) _ | refine below_then (by assumption) (by first | omega | (simp; done) | (simp; omega)) ?_)))) | exact HY.out _ (by (show Below _ _ _; (repeat (first | exact Below.refl _ _ | refine ext_below ?_ (by first | omega | (simp only [size_ext, heap_push, Array.size_push, World.heap_drewN]; omega) | (simp; omega)) _ _ | refine below_draws ?_ _ | refine Below.alloc ?_ (by first | omega | (simp; done) | (simp; omega)) _ | refine Below.setCell ?_ (by first | omega | (simp; done) | (simp; omega)) _ | refine below_then (by assumption) (by first | omega | (simp; done) | (simp; omega)) ?_))))) (by first | exact HX'.out _ (by (show Below _ _ _; (repeat (first | exact Below.refl _ _ | refine ext_below ?_ (by first | omega | (simp only [size_ext, heap_push, Array.size_push, World.heap_drewN]; omega) | (simp; omega)) _ _ | refine below_draws ?_ _ | refine Below.alloc ?_ (by first | omega | (simp; done) | (simp; omega)) _ | refine Below.setCell ?_ (by first | omega | (simp; done) | (simp; omega)) _ | refine below_then (by assumption) (by first | omega | (simp; done) | (simp; omega)) ?_)))) | exact HY'.out _ (by (show Below _ _ _; (repeat (first | exact Below.refl _ _ | refine ext_below ?_ (by first | omega | (simp only [size_ext, heap_push, Array.size_push, World.heap_drewN]; omega) | (simp; omega)) _ _ | refine below_draws ?_ _ | refine Below.alloc ?_ (by first | omega | (simp; done) | (simp; omega)) _ | refine Below.setCell ?_ (by first | omega | (simp; done) | (simp; omega)) _ | refine below_then (by assumption) (by first | omega | (simp; done) | (simp; omega)) ?_)))))).mono ?_; rintro e w' ⟨rfl, nq, rfl⟩) | (go_at_call 69; refine (c_SameNumber _ _ _).mono ?_; rintro e w' ⟨rfl, nq, rfl⟩))
    go_ret
    exact ⟨by simp [sameFm, *], by (show Below _ _ _; (repeat (first | exact Below.refl _ _ | refine ext_below ?_ (by first | omega | (simp only [size_ext, heap_push, Array.size_push, World.heap_drewN]; omega) | (simp; omega)) _ _ | refine below_draws ?_ _ | refine Below.alloc ?_ (by first | omega | (simp; done) | (simp; omega)) _ | refine Below.setCell ?_ (by first | omega | (simp; done) | (simp; omega)) _ | refine below_then (by assumption) (by first | omega | (simp; done) | (simp; omega)) ?_)))⟩
  go_enter Try.func40, Try.ntmps40
  go_wp2_with (first | (go_at_call 68; refine (c_sameNumbers' _ _ _ _ _ _ K _ _ _ (by first | exact HX.out _ (by (show Below _ _ _; (repeat (first | exact Below.refl _ _ | refine ext_below ?_ (by first | omega | (simp only [size_ext, heap_push, Array.size_push, World.heap_drewN]; omega) | (simp; omega)) _ _ | refine below_draws ?_ _ | refine Below.alloc ?_ (by first | omega | (simp; done) | (simp; omega)) _ | refine Below.setCell ?_ (by first | omega | (simp; done) | (simp; omega)) _ | refine below_then (by assumption) (by first | omega | (simp; done) | (simp; omega)) ?_)))) | exact HY.out _ (by (show Below _ _ _; (repeat (first | exact Below.refl _ _ | refine ext_below ?_ (by first | omega | (simp only [size_ext, heap_push, Array.size_push, World.heap_drewN]; omega) | (simp; omega)) _ _ | refine below_draws ?_ _ | refine Below.alloc ?_ (by first | omega | (simp; done) | (simp; omega)) _ | refine Below.setCell ?_ (by first | omega | (simp; done) | (simp; omega)) _ | refine below_then (by assumption) (by first | omega | (simp; done) | (simp; omega)) ?_))))) (by first | exact HX'.out _ (by (show Below _ _ _; (repeat (first | exact Below.refl _ _ | refine ext_below ?_ (by first | omega | (simp only [size_ext, heap_push, Array.size_push, World.heap_drewN]; omega) | (simp; omega)) _ _ | refine below_draws ?_ _ | refine Below.alloc ?_ (by first | omega | (simp; done) | (simp; omega)) _ | refine Below.setCell ?_ (by first | omega | (simp; done) | (simp; omega)) _ | refine below_then (by assumption) (by first | omega | (simp; done) | (simp; omega)) ?_)))) | exact HY'.out _ (by (show Below _ _ _; (repeat (first | exact Below.refl _ _ | refine ext_below ?_ (by first | omega | (simp only [size_ext, heap_push, Array.size_push, World.heap_drewN]; omega) | (simp; omega)) _ _ | refine below_draws ?_ _ | refine Below.alloc ?_ (by first | omega | (simp; done) | (simp; omega)) _ | refine Below.setCell ?_ (by first | omega | (simp; done) | (simp; omega)) _ | refine below_then (by assumption) (by first | omega | (simp; done) | (simp; omega)) ?_)))))).mono ?_; rintro e w' ⟨rfl, nq, rfl⟩) | (go_at_call 69; refine (c_SameNumber _ _ _).mono ?_; rintro e w' ⟨rfl, nq, rfl⟩))
  go_ret
  exact ⟨by simp [sameFm, *], by (show Below _ _ _; (repeat (first | exact Below.refl _ _ | refine ext_below ?_ (by first | omega | (simp only [size_ext, heap_push, Array.size_push, World.heap_drewN]; omega) | (simp; omega)) _ _ | refine below_draws ?_ _ | refine Below.alloc ?_ (by first | omega | (simp; done) | (simp; omega)) _ | refine Below.setCell ?_ (by first | omega | (simp; done) | (simp; omega)) _ | refine below_then (by assumption) (by first | omega | (simp; done) | (simp; omega)) ?_)))⟩


theorem c_specSameFarm' (lo hi lo' hi' : Nat) (v v' : Value) (xs ys xs' ys' : List Nat) (r d s r' d' s' : Nat) (w : World) (h : FarmAt w lo hi v xs ys r d s) (h' : FarmAt w lo' hi' v' xs' ys' r' d' s') (hs : hi ≤ w.heap.size) (hs' : hi' ≤ w.heap.size)
    (n1 : xs.length ≤ 1048576) (n2 : ys.length ≤ 1048576) (n3 : xs'.length ≤ 1048576) (n4 : ys'.length ≤ 1048576) (fx : ∀ x ∈ xs, fits x) (fy : ∀ x ∈ ys, fits x) (fx' : ∀ x ∈ xs', fits x) (fy' : ∀ x ∈ ys', fits x)
    (f1 : fits r) (f2 : fits d) (f3 : fits s) (g1 : fits r') (g2 : fits d') (g3 : fits s') :
    Calls Try.prog 38 #[v, v'] w fun e w' => e = .returned (.bool (sameFm xs ys r d s xs' ys' r' d' s')) ∧ Grew w w' := by
  obtain ⟨A, c, C, e, rfl, hx, hy⟩ := h.parts
  obtain ⟨A', c', C', e', rfl, hx', hy'⟩ := h'.parts
  exact c_specSameFarm w.heap.size A C A' C' _ c _ e _ c' _ e' xs ys xs' ys' r d s r' d' s' w (Nat.le_refl _) ⟨Slc.mono (g := Value.float .f32) hx hs, n1, fx⟩ ⟨Slc.mono (g := Value.float .f32) hy hs, n2, fy⟩ ⟨Slc.mono (g := Value.float .f32) hx' hs', n3, fx'⟩ ⟨Slc.mono (g := Value.float .f32) hy' hs', n4, fy'⟩ f1 f2 f3 g1 g2 g3

theorem c_implSameFarm' (lo hi lo' hi' : Nat) (v v' : Value) (xs ys xs' ys' : List Nat) (r d s r' d' s' : Nat) (w : World) (h : FarmAt w lo hi v xs ys r d s) (h' : FarmAt w lo' hi' v' xs' ys' r' d' s') (hs : hi ≤ w.heap.size) (hs' : hi' ≤ w.heap.size)
    (n1 : xs.length ≤ 1048576) (n2 : ys.length ≤ 1048576) (n3 : xs'.length ≤ 1048576) (n4 : ys'.length ≤ 1048576) (fx : ∀ x ∈ xs, fits x) (fy : ∀ x ∈ ys, fits x) (fx' : ∀ x ∈ xs', fits x) (fy' : ∀ x ∈ ys', fits x)
    (f1 : fits r) (f2 : fits d) (f3 : fits s) (g1 : fits r') (g2 : fits d') (g3 : fits s') :
    Calls Try.prog 40 #[v, v'] w fun e w' => e = .returned (.bool (sameFm xs ys r d s xs' ys' r' d' s')) ∧ Grew w w' := by
  obtain ⟨A, c, C, e, rfl, hx, hy⟩ := h.parts
  obtain ⟨A', c', C', e', rfl, hx', hy'⟩ := h'.parts
  exact c_implSameFarm w.heap.size A C A' C' _ c _ e _ c' _ e' xs ys xs' ys' r d s r' d' s' w (Nat.le_refl _) ⟨Slc.mono (g := Value.float .f32) hx hs, n1, fx⟩ ⟨Slc.mono (g := Value.float .f32) hy hs, n2, fy⟩ ⟨Slc.mono (g := Value.float .f32) hx' hs', n3, fx'⟩ ⟨Slc.mono (g := Value.float .f32) hy' hs', n4, fy'⟩ 

end Go.Proofs.Yticncnohoddbgaa
