/-
  WALK: the law of DiscPower.
-/
import Derived.Test.YtebhefbpkcpnjaaDiscI
namespace Go.Proofs.Ytebhefbpkcpnjaa
open Go.RowKit Go.Flt
set_option linter.unusedVariables false
set_option maxRecDepth 100000
set_option linter.unusedSimpArgs false

theorem walk_DiscPower (d h v s ht ra : Nat) (p : Int) (w : World) (_ : fits d) (fh : fits h) (_ : fits v) (_ : fits s) (_ : fits ht) (fr : fits ra) (_ : (Lit.int .i64 p).wf = true) :
    Calls Try.prog 8 #[.agg #[.float .f32 d, .float .f32 h, .float .f32 v, .float .f32 s], .float .f32 ht, .float .f32 ra, .int .i64 p] w fun e w' => e = .returned (.bool true) ∧ Below w.heap.size w w' := by
  have HS := Lib.hid (fun w => c_specDisc d h v s ht ra p w)
  have HI := Lib.hid (fun w => c_implDisc d h v s ht ra p w fh fr)
  generalize num (dpOk d h v s ht ra p) (dpD d h v s ht ra p) = D at *
  generalize (dpOk d h v s ht ra p && fin (dpD d h v s ht ra p)) = B at *
  go_enter Try.func8, Try.ntmps8
  go_wp2_with (first | (go_at_call 30; refine (c_toAir _ _ _ _ _).mono ?_; rintro e w' ⟨rfl, hbw⟩; obtain ⟨hbc, hbf⟩ := bcell hbw; have hbs := hbw.size; try simp at hbs; try (have hz0 : w.heap.size < w'.heap.size := by omega); try (have hz1 : w.heap.size + 1 < w'.heap.size := by omega); try (have hz2 : w.heap.size + 1 + 1 < w'.heap.size := by omega)) | (go_at_call 29; refine (HS.out _).mono ?_; rintro e w' ⟨r, rfl, hr, hrf, hbw⟩; obtain ⟨hbc, hbf⟩ := bcell hbw; have hbs := Below.size hbw; try simp at hbs; try (have hz0 : w.heap.size < w'.heap.size := by omega); try (have hz1 : w.heap.size + 1 < w'.heap.size := by omega); try (have hz2 : w.heap.size + 1 + 1 < w'.heap.size := by omega)) | (go_at_call 31; refine (HI.out _).mono ?_; rintro e w' ⟨r, rfl, hr, hrf, hbw⟩; obtain ⟨hbc, hbf⟩ := bcell hbw; have hbs := Below.size hbw; try simp at hbs; try (have hz0 : w.heap.size < w'.heap.size := by omega); try (have hz1 : w.heap.size + 1 < w'.heap.size := by omega); try (have hz2 : w.heap.size + 1 + 1 < w'.heap.size := by omega)) | (refine upon_widen _ _ _ some_f32 Try.underlying28 ?_; intro z n hz hzw) | (go_at_call 14; refine (c_sameFloat _ _ _ (by simp only [*])).mono ?_; rintro e w' ⟨rfl, nq, rfl⟩))
  go_ret
  exact ⟨rfl, by (repeat (first | exact Below.refl _ _ | refine ext_below ?_ (by first | omega | (simp only [size_ext, heap_push, Array.size_push, World.heap_drewN]; omega) | (simp; omega)) _ _ | refine below_draws ?_ _ | refine Below.alloc ?_ (by first | omega | (simp; done) | (simp; omega)) _ | refine Below.setCell ?_ (by first | omega | (simp; done) | (simp; omega)) _ | refine below_then (by assumption) (by first | omega | (simp; done) | (simp; omega)) ?_))⟩

end Go.Proofs.Ytebhefbpkcpnjaa
