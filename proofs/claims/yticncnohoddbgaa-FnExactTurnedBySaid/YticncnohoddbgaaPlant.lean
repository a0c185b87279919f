/-
  CONTRACTS: plants: when they are valid.
-/
import Derived.BigQuiet
import Derived.Deep.QuietTactic
import Derived.Test.YticncnohoddbgaaSl
namespace Go.Proofs.Yticncnohoddbgaa
open Go.RowKit Go.Flt
set_option linter.unusedVariables false
set_option maxRecDepth 100000
set_option linter.unusedSimpArgs false

/-- The numbers of a plant lie from here on. -/
def PlAt (w : World) (b off : Nat) (p : Pl) : Prop :=
  w.cell? ⟨b, off, none⟩ = some (.float .f32 p.i) ∧ w.cell? ⟨b, off + 1, none⟩ = some (.float .f32 p.d) ∧ w.cell? ⟨b, off + 2, none⟩ = some (.float .f32 p.r) ∧ w.cell? ⟨b, off + 3, none⟩ = some (.float .f32 p.l) ∧
  w.cell? ⟨b, off + 4, none⟩ = some (.float .f32 p.m) ∧ w.cell? ⟨b, off + 5, none⟩ = some (.float .f32 p.s) ∧ w.cell? ⟨b, off + 6, none⟩ = some (.float .f32 p.c) ∧ w.cell? ⟨b, off + 7, none⟩ = some (.float .f32 p.e)

def vPlant (p : Pl) : Bool :=
  above (cl .f32 p.i) && least (cl .f32 p.d) && above (cl .f32 p.r) && above (cl .f32 p.l) && fin (cl .f32 p.m) && flt (cl .f32 p.l) (cl .f32 p.m) && above (cl .f32 p.s) && fin (cl .f32 p.c) && flt (cl .f32 p.s) (cl .f32 p.c) && above (cl .f32 p.e)

set_option maxHeartbeats 2000000 in
theorem c_l05Plant (p : Pl) (b off : Nat) (w : World) (hp : PlAt w b off p) : Calls Try.prog 44 #[.pointer (some ⟨b, off, none⟩)] w fun e w' => e = .returned (.bool (vPlant p)) ∧ ∃ n, w' = w.drewN n := by
  obtain ⟨h0, h1, h2, h3, h4, h5, h6, h7⟩ := hp
  go_enter Try.func44, Try.ntmps44
  go_wp2_with fail
  try simp only [List.append_eq, List.cons_append, List.nil_append]
  refine wp_region_quiet_lit (by kernel_rfl) (by kernel_rfl) ?_
  repeat (go_big_quiet_step ((first | (go_at_call 55; exact Calls.quiet_of (c_l02Least _ _)) | (go_at_call 76; exact Calls.quiet_of (c_l02Above _ _)) | (go_at_call 48; exact Calls.quiet_of (c_l01Finite _ _)))))
  cases qc0 : above (cl .f32 p.i)
  case false =>
    repeat (go_big_quiet_step ((first | (go_at_call 55; exact Calls.quiet_of (c_l02Least _ _)) | (go_at_call 76; exact Calls.quiet_of (c_l02Above _ _)) | (go_at_call 48; exact Calls.quiet_of (c_l01Finite _ _)))))
    refine wpQuiet_nil ?_
    intro _ hw'
    obtain ⟨nq, hw''⟩ := hw'
    subst hw''
    go_wp2_with fail
    go_ret
    exact ⟨by simp [vPlant, *], _, rfl⟩
  repeat (go_big_quiet_step ((first | (go_at_call 55; exact Calls.quiet_of (c_l02Least _ _)) | (go_at_call 76; exact Calls.quiet_of (c_l02Above _ _)) | (go_at_call 48; exact Calls.quiet_of (c_l01Finite _ _)))))
  cases qc1 : least (cl .f32 p.d)
  case false =>
    repeat (go_big_quiet_step ((first | (go_at_call 55; exact Calls.quiet_of (c_l02Least _ _)) | (go_at_call 76; exact Calls.quiet_of (c_l02Above _ _)) | (go_at_call 48; exact Calls.quiet_of (c_l01Finite _ _)))))
    refine wpQuiet_nil ?_
    intro _ hw'
    obtain ⟨nq, hw''⟩ := hw'
    subst hw''
    go_wp2_with fail
    go_ret
    exact ⟨by simp [vPlant, *], _, rfl⟩
  repeat (go_big_quiet_step ((first | (go_at_call 55; exact Calls.quiet_of (c_l02Least _ _)) | (go_at_call 76; exact Calls.quiet_of (c_l02Above _ _)) | (go_at_call 48; exact Calls.quiet_of (c_l01Finite _ _)))))
  cases qc2 : above (cl .f32 p.r)
  case false =>
    repeat (go_big_quiet_step ((first | (go_at_call 55; exact Calls.quiet_of (c_l02Least _ _)) | (go_at_call 76; exact Calls.quiet_of (c_l02Above _ _)) | (go_at_call 48; exact Calls.quiet_of (c_l01Finite _ _)))))
    refine wpQuiet_nil ?_
    intro _ hw'
    obtain ⟨nq, hw''⟩ := hw'
    subst hw''
    go_wp2_with fail
    go_ret
    exact ⟨by simp [vPlant, *], _, rfl⟩
  repeat (go_big_quiet_step ((first | (go_at_call 55; exact Calls.quiet_of (c_l02Least _ _)) | (go_at_call 76; exact Calls.quiet_of (c_l02Above _ _)) | (go_at_call 48; exact Calls.quiet_of (c_l01Finite _ _)))))
  cases qc3 : above (cl .f32 p.l)
  case false =>
    repeat (go_big_quiet_step ((first | (go_at_call 55; exact Calls.quiet_of (c_l02Least _ _)) | (go_at_call 76; exact Calls.quiet_of (c_l02Above _ _)) | (go_at_call 48; exact Calls.quiet_of (c_l01Finite _ _)))))
    refine wpQuiet_nil ?_
    intro _ hw'
    obtain ⟨nq, hw''⟩ := hw'
    subst hw''
    go_wp2_with fail
    go_ret
    exact ⟨by simp [vPlant, *], _, rfl⟩
  repeat (go_big_quiet_step ((first | (go_at_call 55; exact Calls.quiet_of (c_l02Least _ _)) | (go_at_call 76; exact Calls.quiet_of (c_l02Above _ _)) | (go_at_call 48; exact Calls.quiet_of (c_l01Finite _ _)))))
  cases qc4 : fin (cl .f32 p.m)
  case false =>
    repeat (go_big_quiet_step ((first | (go_at_call 55; exact Calls.quiet_of (c_l02Least _ _)) | (go_at_call 76; exact Calls.quiet_of (c_l02Above _ _)) | (go_at_call 48; exact Calls.quiet_of (c_l01Finite _ _)))))
    refine wpQuiet_nil ?_
    intro _ hw'
    obtain ⟨nq, hw''⟩ := hw'
    subst hw''
    go_wp2_with fail
    go_ret
    exact ⟨by simp [vPlant, *], _, rfl⟩
  repeat (go_big_quiet_step ((first | (go_at_call 55; exact Calls.quiet_of (c_l02Least _ _)) | (go_at_call 76; exact Calls.quiet_of (c_l02Above _ _)) | (go_at_call 48; exact Calls.quiet_of (c_l01Finite _ _)))))
  cases qc5 : flt (cl .f32 p.l) (cl .f32 p.m)
  case false =>
    repeat (go_big_quiet_step ((first | (go_at_call 55; exact Calls.quiet_of (c_l02Least _ _)) | (go_at_call 76; exact Calls.quiet_of (c_l02Above _ _)) | (go_at_call 48; exact Calls.quiet_of (c_l01Finite _ _)))))
    refine wpQuiet_nil ?_
    intro _ hw'
    obtain ⟨nq, hw''⟩ := hw'
    subst hw''
    go_wp2_with fail
    go_ret
    exact ⟨by simp [vPlant, *], _, rfl⟩
  repeat (go_big_quiet_step ((first | (go_at_call 55; exact Calls.quiet_of (c_l02Least _ _)) | (go_at_call 76; exact Calls.quiet_of (c_l02Above _ _)) | (go_at_call 48; exact Calls.quiet_of (c_l01Finite _ _)))))
  cases qc6 : above (cl .f32 p.s)
  case false =>
    repeat (go_big_quiet_step ((first | (go_at_call 55; exact Calls.quiet_of (c_l02Least _ _)) | (go_at_call 76; exact Calls.quiet_of (c_l02Above _ _)) | (go_at_call 48; exact Calls.quiet_of (c_l01Finite _ _)))))
    refine wpQuiet_nil ?_
    intro _ hw'
    obtain ⟨nq, hw''⟩ := hw'
    subst hw''
    go_wp2_with fail
    go_ret
    exact ⟨by simp [vPlant, *], _, rfl⟩
  repeat (go_big_quiet_step ((first | (go_at_call 55; exact Calls.quiet_of (c_l02Least _ _)) | (go_at_call 76; exact Calls.quiet_of (c_l02Above _ _)) | (go_at_call 48; exact Calls.quiet_of (c_l01Finite _ _)))))
  cases qc7 : fin (cl .f32 p.c)
  case false =>
    repeat (go_big_quiet_step ((first | (go_at_call 55; exact Calls.quiet_of (c_l02Least _ _)) | (go_at_call 76; exact Calls.quiet_of (c_l02Above _ _)) | (go_at_call 48; exact Calls.quiet_of (c_l01Finite _ _)))))
    refine wpQuiet_nil ?_
    intro _ hw'
    obtain ⟨nq, hw''⟩ := hw'
    subst hw''
    go_wp2_with fail
    go_ret
    exact ⟨by simp [vPlant, *], _, rfl⟩
  repeat (go_big_quiet_step ((first | (go_at_call 55; exact Calls.quiet_of (c_l02Least _ _)) | (go_at_call 76; exact Calls.quiet_of (c_l02Above _ _)) | (go_at_call 48; exact Calls.quiet_of (c_l01Finite _ _)))))
  cases qc8 : flt (cl .f32 p.s) (cl .f32 p.c)
  case false =>
    repeat (go_big_quiet_step ((first | (go_at_call 55; exact Calls.quiet_of (c_l02Least _ _)) | (go_at_call 76; exact Calls.quiet_of (c_l02Above _ _)) | (go_at_call 48; exact Calls.quiet_of (c_l01Finite _ _)))))
    refine wpQuiet_nil ?_
    intro _ hw'
    obtain ⟨nq, hw''⟩ := hw'
    subst hw''
    go_wp2_with fail
    go_ret
    exact ⟨by simp [vPlant, *], _, rfl⟩
  repeat (go_big_quiet_step ((first | (go_at_call 55; exact Calls.quiet_of (c_l02Least _ _)) | (go_at_call 76; exact Calls.quiet_of (c_l02Above _ _)) | (go_at_call 48; exact Calls.quiet_of (c_l01Finite _ _)))))
  refine wpQuiet_nil ?_
  intro _ hw'
  obtain ⟨nq, hw''⟩ := hw'
  subst hw''
  go_wp2_with fail
  go_ret
  exact ⟨by simp [vPlant, *], _, rfl⟩

theorem c_toPlant' (p : Pl) (w : World) : Calls Try.prog 14 #[.agg #[.float .f32 p.i, .float .f32 p.d, .float .f32 p.r, .float .f32 p.l, .float .f32 p.m, .float .f32 p.s, .float .f32 p.c, .float .f32 p.e]] w fun e w' => e = .returned (.agg #[.float .f32 p.i, .float .f32 p.d, .float .f32 p.r, .float .f32 p.l, .float .f32 p.m, .float .f32 p.s, .float .f32 p.c, .float .f32 p.e]) ∧
    w' = ((w.alloc (.cells #[.float .f32 p.i, .float .f32 p.d, .float .f32 p.r, .float .f32 p.l, .float .f32 p.m, .float .f32 p.s, .float .f32 p.c, .float .f32 p.e] 24)).alloc (.cells #[.float .f32 p.i, .float .f32 p.d, .float .f32 p.r, .float .f32 p.l, .float .f32 p.m, .float .f32 p.s, .float .f32 p.c, .float .f32 p.e] 25)).alloc (.cells #[.float .f32 p.i, .float .f32 p.d, .float .f32 p.r, .float .f32 p.l, .float .f32 p.m, .float .f32 p.s, .float .f32 p.c, .float .f32 p.e] 25) := by
  go_enter Try.func14, Try.ntmps14
  go_wp2_with fail
  exact bodyPost_ret (v := .agg #[.float .f32 p.i, .float .f32 p.d, .float .f32 p.r, .float .f32 p.l, .float .f32 p.m, .float .f32 p.s, .float .f32 p.c, .float .f32 p.e]) (by simp [results, Try.results14, go_sem]) rfl ⟨rfl, rfl⟩

theorem c_toPlant (p : Pl) (w : World) : Calls Try.prog 14 #[.agg #[.float .f32 p.i, .float .f32 p.d, .float .f32 p.r, .float .f32 p.l, .float .f32 p.m, .float .f32 p.s, .float .f32 p.c, .float .f32 p.e]] w fun e w' => e = .returned (.agg #[.float .f32 p.i, .float .f32 p.d, .float .f32 p.r, .float .f32 p.l, .float .f32 p.m, .float .f32 p.s, .float .f32 p.c, .float .f32 p.e]) ∧ Below w.heap.size w w' :=
  (c_toPlant' p w).mono fun e w' ⟨he, hw⟩ => ⟨he, by subst hw; (repeat (first | exact Below.refl _ _ | refine ext_below ?_ (by first | omega | (simp only [size_ext, heap_push, Array.size_push, World.heap_drewN]; omega) | (simp; omega)) _ _ | refine below_draws ?_ _ | refine Below.alloc ?_ (by first | omega | (simp; done) | (simp; omega)) _ | refine Below.setCell ?_ (by first | omega | (simp; done) | (simp; omega)) _ | refine below_then (by assumption) (by first | omega | (simp; done) | (simp; omega)) ?_))⟩

theorem vPlant_list (p : Pl) : (!([p.i, p.r, p.l, p.m, p.s, p.c, p.e].any fun x => !fin (cl .f32 x) || fle (cl .f32 x) (cl .f32 0))) =
    (above (cl .f32 p.i) && above (cl .f32 p.r) && above (cl .f32 p.l) && above (cl .f32 p.m) && above (cl .f32 p.s) && above (cl .f32 p.c) && above (cl .f32 p.e)) := by
  simp only [List.any_cons, List.any_nil, Bool.or_false, Bool.not_or, Bool.not_not, above_not, Bool.and_assoc]

theorem above_more {x y : Ieee.Datum} (hx : above x = true) (hy : fin y = true) (h : flt x y = true) : above y = true := by
  unfold above at *
  simp only [Bool.and_eq_true] at hx ⊢
  exact ⟨hy, flt_trans_num (by decide) (by rw [← fin_eq]; exact hx.1) (by rw [← fin_eq]; exact hy) hx.2 h⟩

theorem above_fin {x : Ieee.Datum} (hx : above x = true) : fin x = true := by
  unfold above at hx
  simp only [Bool.and_eq_true] at hx
  exact hx.1

theorem vPlant_impl (p : Pl) : (above (cl .f32 p.i) && above (cl .f32 p.r) && above (cl .f32 p.l) && above (cl .f32 p.m) && above (cl .f32 p.s) && above (cl .f32 p.c) && above (cl .f32 p.e)
    && least (cl .f32 p.d) && flt (cl .f32 p.l) (cl .f32 p.m) && flt (cl .f32 p.s) (cl .f32 p.c)) = vPlant p := by
  unfold vPlant
  rw [Bool.eq_iff_iff]
  simp only [Bool.and_eq_true]
  constructor
  · rintro ⟨⟨⟨⟨⟨⟨⟨⟨⟨a, b⟩, c⟩, d⟩, e⟩, f⟩, g⟩, h⟩, i⟩, j⟩
    exact ⟨⟨⟨⟨⟨⟨⟨⟨⟨a, h⟩, b⟩, c⟩, above_fin d⟩, i⟩, e⟩, above_fin f⟩, j⟩, g⟩
  · rintro ⟨⟨⟨⟨⟨⟨⟨⟨⟨a, h⟩, b⟩, c⟩, d⟩, i⟩, e⟩, f⟩, j⟩, g⟩
    exact ⟨⟨⟨⟨⟨⟨⟨⟨⟨a, b⟩, c⟩, above_more c d i⟩, e⟩, above_more e f j⟩, g⟩, h⟩, i⟩, j⟩

theorem c_implValidPlant (p : Pl) (w : World) : Calls Try.prog 79 #[.agg #[.float .f32 p.i, .float .f32 p.d, .float .f32 p.r, .float .f32 p.l, .float .f32 p.m, .float .f32 p.s, .float .f32 p.c, .float .f32 p.e]] w fun e w' => e = .returned (.bool (vPlant p)) ∧ Below w.heap.size w w' := by
  have HL := Lib.hid (vPlant_list p)
  have HV := Lib.hid (vPlant_impl p)
  generalize hA : (!([p.i, p.r, p.l, p.m, p.s, p.c, p.e].any fun x => !fin (cl .f32 x) || fle (cl .f32 x) (cl .f32 0))) = A at HL
  have HA : ∀ w cap b, Fl w (b + 1) (some ⟨b, 0, none⟩) [p.i, p.r, p.l, p.m, p.s, p.c, p.e].length [p.i, p.r, p.l, p.m, p.s, p.c, p.e] → Calls Try.prog 71 #[.slice (some ⟨b, 0, none⟩) 7 cap] w fun e w' => e = .returned (.bool A) ∧ ∃ n, w' = w.drewN n := by
    intro w cap b h
    rw [← hA]
    exact c_arePositive _ cap _ _ w h (by simp [maxLen])
  have HA := Lib.hid HA
  clear hA
  cases cc0 : A
  case false =>
    go_enter Try.func79, Try.ntmps79
    go_wp2_with (first | (go_at_call 57; refine (c_isLeast _ _).mono ?_; rintro e w' ⟨rfl, nq, rfl⟩) | (go_at_call 71; refine (HA.out _ _ _ (fl_new _ [p.i, p.r, p.l, p.m, p.s, p.c, p.e] _ _ _ (by simp) rfl)).mono ?_; rintro e w' ⟨rfl, nq, rfl⟩))
    go_ret
    exact ⟨by rw [← HV.out, ← HL.out]; simp [*], by (repeat (first | exact Below.refl _ _ | refine ext_below ?_ (by first | omega | (simp only [size_ext, heap_push, Array.size_push, World.heap_drewN]; omega) | (simp; omega)) _ _ | refine below_draws ?_ _ | refine Below.alloc ?_ (by first | omega | (simp; done) | (simp; omega)) _ | refine Below.setCell ?_ (by first | omega | (simp; done) | (simp; omega)) _ | refine below_then (by assumption) (by first | omega | (simp; done) | (simp; omega)) ?_))⟩
  cases cc1 : least (cl .f32 p.d)
  case false =>
    go_enter Try.func79, Try.ntmps79
    go_wp2_with (first | (go_at_call 57; refine (c_isLeast _ _).mono ?_; rintro e w' ⟨rfl, nq, rfl⟩) | (go_at_call 71; refine (HA.out _ _ _ (fl_new _ [p.i, p.r, p.l, p.m, p.s, p.c, p.e] _ _ _ (by simp) rfl)).mono ?_; rintro e w' ⟨rfl, nq, rfl⟩))
    go_ret
    exact ⟨by rw [← HV.out, ← HL.out]; simp [*], by (repeat (first | exact Below.refl _ _ | refine ext_below ?_ (by first | omega | (simp only [size_ext, heap_push, Array.size_push, World.heap_drewN]; omega) | (simp; omega)) _ _ | refine below_draws ?_ _ | refine Below.alloc ?_ (by first | omega | (simp; done) | (simp; omega)) _ | refine Below.setCell ?_ (by first | omega | (simp; done) | (simp; omega)) _ | refine below_then (by assumption) (by first | omega | (simp; done) | (simp; omega)) ?_))⟩
  cases cc2 : flt (cl .f32 p.l) (cl .f32 p.m)
  case false =>
    go_enter Try.func79, Try.ntmps79
    go_wp2_with (first | (go_at_call 57; refine (c_isLeast _ _).mono ?_; rintro e w' ⟨rfl, nq, rfl⟩) | (go_at_call 71; refine (HA.out _ _ _ (fl_new _ [p.i, p.r, p.l, p.m, p.s, p.c, p.e] _ _ _ (by simp) rfl)).mono ?_; rintro e w' ⟨rfl, nq, rfl⟩))
    go_ret
    exact ⟨by rw [← HV.out, ← HL.out]; simp [*], by (repeat (first | exact Below.refl _ _ | refine ext_below ?_ (by first | omega | (simp only [size_ext, heap_push, Array.size_push, World.heap_drewN]; omega) | (simp; omega)) _ _ | refine below_draws ?_ _ | refine Below.alloc ?_ (by first | omega | (simp; done) | (simp; omega)) _ | refine Below.setCell ?_ (by first | omega | (simp; done) | (simp; omega)) _ | refine below_then (by assumption) (by first | omega | (simp; done) | (simp; omega)) ?_))⟩
  go_enter Try.func79, Try.ntmps79
  go_wp2_with (first | (go_at_call 57; refine (c_isLeast _ _).mono ?_; rintro e w' ⟨rfl, nq, rfl⟩) | (go_at_call 71; refine (HA.out _ _ _ (fl_new _ [p.i, p.r, p.l, p.m, p.s, p.c, p.e] _ _ _ (by simp) rfl)).mono ?_; rintro e w' ⟨rfl, nq, rfl⟩))
  go_ret
  exact ⟨by rw [← HV.out, ← HL.out]; simp [*], by (repeat (first | exact Below.refl _ _ | refine ext_below ?_ (by first | omega | (simp only [size_ext, heap_push, Array.size_push, World.heap_drewN]; omega) | (simp; omega)) _ _ | refine below_draws ?_ _ | refine Below.alloc ?_ (by first | omega | (simp; done) | (simp; omega)) _ | refine Below.setCell ?_ (by first | omega | (simp; done) | (simp; omega)) _ | refine below_then (by assumption) (by first | omega | (simp; done) | (simp; omega)) ?_))⟩

end Go.Proofs.Yticncnohoddbgaa
