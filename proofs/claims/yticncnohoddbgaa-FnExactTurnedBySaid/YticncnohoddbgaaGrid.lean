/-
  CONTRACTS: what the grid takes.
-/
import Derived.Test.YticncnohoddbgaaDrive
import Derived.Test.YticncnohoddbgaaSameF
namespace Go.Proofs.Yticncnohoddbgaa
open Go.RowKit Go.Flt
set_option linter.unusedVariables false
set_option maxRecDepth 100000
set_option linter.unusedSimpArgs false

def grid (p : Pl) (s : Int) (v : Nat) : Ieee.Datum :=
  if s = 2 then if fle (cl .f32 v) (cl .f32 p.m) then fop .quo .f32 (fop .mul .f32 (cl .f32 p.r) (cl .f32 v)) (fop .mul .f32 (cl .f32 p.m) (cl .f32 p.m)) else fop .quo .f32 (cl .f32 p.r) (cl .f32 v)
  else cl .f32 0

theorem c_l05Grid (p : Pl) (s : Int) (v q n b off : Nat) (w : World) (hd : DrAt w b off p s v q n) :
    Calls Try.prog 78 #[.pointer (some ⟨b, off, none⟩)] w (RetF (grid p s v) (Drawn w)) := by
  obtain ⟨⟨h0, h1, h2, h3, h4, h5, h6, h7⟩, h8, h9, h10, h11⟩ := hd
  by_cases hs : s = 2
  · subst hs
    cases hf : (flt (cl .f32 v) (cl .f32 p.m) || feq (cl .f32 v) (cl .f32 p.m))
    all_goals
      go_enter Try.func78, Try.ntmps78
      go_wp2_with fail
      try simp only [List.append_eq, List.cons_append, List.nil_append]
      refine wp_region_drawnC (by kernel_rfl) (by kernel_rfl) ?_
      repeat (first | (refine wpFree_skip rfl ?_; try go_simp) | (refine wpFree_want rfl (fun K hK => ?_); first | (refine free_fbin drawn_draw rfl rfl _ _ _ rfl rfl ?_; intro z hz hzw; go_simp; refine hK _ ?_; clear hK K) | (intro wq hq; obtain ⟨hqc, hqf, hqh⟩ := drawn_cells hq; go_simp; first | (refine hK _ ?_; clear hK K; try clear hqc hqf; try clear hqh; try clear hq; try clear wq) | fail)))
      refine wpFree_nil ?_
      intro wq hq
      obtain ⟨nq, rfl⟩ := hq
      go_wp2_with fail
      try simp only [List.append_eq, List.cons_append, List.nil_append]
      refine wp_region_drawnC (by kernel_rfl) (by kernel_rfl) ?_
      repeat (first | (refine wpFree_skip rfl ?_; try go_simp) | (refine wpFree_want rfl (fun K hK => ?_); first | (refine free_fbin drawn_draw rfl rfl _ _ _ rfl rfl ?_; intro z hz hzw; go_simp; refine hK _ ?_; clear hK K) | (intro wq hq; obtain ⟨hqc, hqf, hqh⟩ := drawn_cells hq; go_simp; first | (refine hK _ ?_; clear hK K; try clear hqc hqf; try clear hqh; try clear hq; try clear wq) | fail)))
      refine wpFree_nil ?_
      intro wq hq
      obtain ⟨nq, rfl⟩ := hq
      go_wp2_with fail
      go_ret
      exact ⟨_, rfl, by simp [grid, fle, *], by assumption, by (first | exact ⟨_, rfl⟩ | exact ⟨0, rfl⟩ | exact ⟨_, World.drewN_drewN _ _ _⟩ | (simp only [World.drewN_drewN]; exact ⟨_, rfl⟩))⟩
  · go_enter Try.func78, Try.ntmps78
    go_wp2_with fail
    go_ret
    exact ⟨_, rfl, by simp [grid, hs], fits_zero, 0, rfl⟩

theorem c_gridTorque (p : Pl) (s : Int) (v q n : Nat) (w : World) : Calls Try.prog 81 #[.agg #[.float .f32 p.i, .float .f32 p.d, .float .f32 p.r, .float .f32 p.l, .float .f32 p.m, .float .f32 p.s, .float .f32 p.c, .float .f32 p.e, .int .i64 s, .float .f32 v, .float .f32 q, .float .f32 n]] w (RetF (grid p s v) (Grew w)) := by
  by_cases hs : s = 2
  · subst hs
    cases hf : (flt (cl .f32 v) (cl .f32 p.m) || feq (cl .f32 v) (cl .f32 p.m))
    all_goals
      go_enter Try.func81, Try.ntmps81
      go_wp2_with (refine upon_fbin rfl _ _ _ _ ?_; intro z n hz hzw)
      go_ret
      exact ⟨_, rfl, by simp [grid, fle, *], by assumption, by (show Below _ _ _; (repeat (first | exact Below.refl _ _ | refine ext_below ?_ (by first | omega | (simp only [size_ext, heap_push, Array.size_push, World.heap_drewN]; omega) | (simp; omega)) _ _ | refine below_draws ?_ _ | refine Below.alloc ?_ (by first | omega | (simp; done) | (simp; omega)) _ | refine Below.setCell ?_ (by first | omega | (simp; done) | (simp; omega)) _ | refine below_then (by assumption) (by first | omega | (simp; done) | (simp; omega)) ?_)))⟩
  · go_enter Try.func81, Try.ntmps81
    go_wp2_with fail
    go_ret
    exact ⟨_, rfl, by simp [grid, hs], fits_zero, by (show Below _ _ _; (repeat (first | exact Below.refl _ _ | refine ext_below ?_ (by first | omega | (simp only [size_ext, heap_push, Array.size_push, World.heap_drewN]; omega) | (simp; omega)) _ _ | refine below_draws ?_ _ | refine Below.alloc ?_ (by first | omega | (simp; done) | (simp; omega)) _ | refine Below.setCell ?_ (by first | omega | (simp; done) | (simp; omega)) _ | refine below_then (by assumption) (by first | omega | (simp; done) | (simp; omega)) ?_)))⟩

theorem c_checked (x : Nat) (w : World) : Calls Try.prog 53 #[.float .f32 x] w fun e w' => e = .returned (.tuple #[.float .f32 (chkW x), .bool (fin (cl .f32 x))]) ∧ ∃ n, w' = w.drewN n := by
  cases h : fin (cl .f32 x)
  all_goals
    go_enter Try.func53, Try.ntmps53
    go_wp2_with (go_at_call 52; refine (c_IsFinite _ _).mono ?_; rintro e w' ⟨rfl, nq, rfl⟩)
    go_ret2
    exact ⟨by simp [chkW, h], _, rfl⟩

theorem c_l03Number (x : Nat) (w : World) : Calls Try.prog 49 #[.float .f32 x] w fun e w' => e = .returned (.tuple #[.float .f32 (chkW x), .bool (fin (cl .f32 x))]) ∧ ∃ n, w' = w.drewN n := by
  cases h : fin (cl .f32 x)
  all_goals
    go_enter Try.func49, Try.ntmps49
    go_wp2_with (go_at_call 48; refine (c_l01Finite _ _).mono ?_; rintro e w' ⟨rfl, nq, rfl⟩)
    go_ret2
    exact ⟨by simp [chkW, h], _, rfl⟩


end Go.Proofs.Yticncnohoddbgaa
