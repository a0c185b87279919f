/-
  CONTRACTS: the torque that is left.
-/
import Derived.Test.YticncnohoddbgaaGrid
import Derived.Test.YticncnohoddbgaaSameF
namespace Go.Proofs.Yticncnohoddbgaa
open Go.RowKit Go.Flt
set_option linter.unusedVariables false
set_option maxRecDepth 100000
set_option linter.unusedSimpArgs false

theorem dr_drawn {w wr : World} {p : Pl} {s : Int} {v q u b off : Nat} (h : DrAt w b off p s v q u) (hr : Drawn w wr) : DrAt wr b off p s v q u := by
  obtain ⟨_, rfl⟩ := hr
  exact h

def net (p : Pl) (s : Int) (v q t : Nat) : Ieee.Datum :=
  fop .sub .f32 (fop .sub .f32 (fop .mul .f32 (cl .f32 t) (fop .sub .f32 (cl .f32 1065353216) (cl .f32 q))) (grid p s v)) (fop .mul .f32 (cl .f32 p.d) (cl .f32 v))

set_option maxHeartbeats 1000000 in
theorem c_l05Net (p : Pl) (s : Int) (v q u t : Nat) (b off : Nat) (w : World) (hd : DrAt w b off p s v q u) :
    Calls Try.prog 50 #[.pointer (some ⟨b, off, none⟩), .float .f32 t] w (RetF (net p s v q t) (Drawn w)) := by
  have HD := Lib.hid hd
  obtain ⟨⟨h0, h1, h2, h3, h4, h5, h6, h7⟩, h8, h9, h10, h11⟩ := hd
  go_enter Try.func50, Try.ntmps50
  go_wp2_with fail
  try simp only [List.append_eq, List.cons_append, List.nil_append]
  refine wp_region_drawnC (by kernel_rfl) (by kernel_rfl) ?_
  repeat (first | (refine wpFree_skip rfl ?_; try go_simp) | (refine wpFree_want rfl (fun K hK => ?_); first | (refine free_fbin drawn_draw rfl rfl _ _ _ rfl rfl ?_; intro z hz hzw; go_simp; refine hK _ ?_; clear hK K) | (intro wq hq; obtain ⟨hqc, hqf, hqh⟩ := drawn_cells hq; go_simp; first | (refine hK _ ?_; clear hK K; try clear hqc hqf; try clear hqh; try clear hq; try clear wq) | ((with_reducible refine free_at 78 ?_); refine free_f _ (by kernel_rfl) (fun wr hr => (c_l05Grid p s v q u _ _ _ (dr_drawn HD.out hr)).mono fun e w'' ⟨r, he, h1, h2, hw⟩ => ⟨r, he, h1, h2, drawn_trans hr hw⟩) ?_; intro r hr hrf; refine hK _ ?_; clear hK K; try clear hqc hqf; try clear hqh; try clear hq; try clear wq))))
  refine wpFree_nil ?_
  intro wq hq
  obtain ⟨nq, rfl⟩ := hq
  go_wp2_with fail
  go_ret
  exact ⟨_, rfl, by simp [net, *], by assumption, by (first | exact ⟨_, rfl⟩ | exact ⟨0, rfl⟩ | exact ⟨_, World.drewN_drewN _ _ _⟩ | (simp only [World.drewN_drewN]; exact ⟨_, rfl⟩))⟩

set_option maxHeartbeats 1000000 in
theorem c_netTorque (p : Pl) (s : Int) (v q u t : Nat) (w : World) :
    Calls Try.prog 54 #[.agg #[.float .f32 p.i, .float .f32 p.d, .float .f32 p.r, .float .f32 p.l, .float .f32 p.m, .float .f32 p.s, .float .f32 p.c, .float .f32 p.e, .int .i64 s, .float .f32 v, .float .f32 q, .float .f32 u], .float .f32 t] w (RetF (net p s v q t) (Grew w)) := by
  go_enter Try.func54, Try.ntmps54
  go_wp2_with fail
  try simp only [List.append_eq, List.cons_append, List.nil_append]
  refine wp_region_grewC (by kernel_rfl) (by kernel_rfl) ?_
  repeat (first | (refine wpFree_skip rfl ?_; try go_simp) | (refine wpFree_want rfl (fun K hK => ?_); first | (refine free_fbin grew_draw rfl rfl _ _ _ rfl rfl ?_; intro z hz hzw; go_simp; refine hK _ ?_; clear hK K) | (intro wq hq; obtain ⟨hqc, hqf⟩ := bcell hq; go_simp; first | (refine hK _ ?_; clear hK K; try clear hqc hqf; try clear hqh; try clear hq; try clear wq) | ((with_reducible refine free_at 81 ?_); refine free_f _ (by kernel_rfl) (fun wr hr => (c_gridTorque p s v q u _).mono fun e w'' ⟨r, he, h1, h2, hw⟩ => ⟨r, he, h1, h2, grew_trans hr hw⟩) ?_; intro r hr hrf; refine hK _ ?_; clear hK K; try clear hqc hqf; try clear hqh; try clear hq; try clear wq))))
  refine wpFree_nil ?_
  intro wq hq
  obtain ⟨hqc, hqf⟩ := bcell hq
  have hqs := hq.size
  try simp at hqs
  try (have hz0 : w.heap.size < wq.heap.size := by omega)
  try (have hz1 : w.heap.size + 1 < wq.heap.size := by omega)
  try (have hz2 : w.heap.size + 1 + 1 < wq.heap.size := by omega)
  go_wp2_with fail
  go_ret
  exact ⟨_, rfl, by simp [net, *], by assumption, by (show Below _ _ _; (repeat (first | exact Below.refl _ _ | refine ext_below ?_ (by first | omega | (simp only [size_ext, heap_push, Array.size_push, World.heap_drewN]; omega) | (simp; omega)) _ _ | refine below_draws ?_ _ | refine Below.alloc ?_ (by first | omega | (simp; done) | (simp; omega)) _ | refine Below.setCell ?_ (by first | omega | (simp; done) | (simp; omega)) _ | refine below_then (by assumption) (by first | omega | (simp; done) | (simp; omega)) ?_)))⟩

def netOk (p : Pl) (s : Int) (v q u t : Nat) : Bool := vDrive p s v q u && fin (cl .f32 t)

theorem c_specNetTorque (p : Pl) (s : Int) (v q u t : Nat) (w : World) : Calls Try.prog 17 #[.agg #[.float .f32 p.i, .float .f32 p.d, .float .f32 p.r, .float .f32 p.l, .float .f32 p.m, .float .f32 p.s, .float .f32 p.c, .float .f32 p.e, .int .i64 s, .float .f32 v, .float .f32 q, .float .f32 u], .float .f32 t] w
    (RetFB (num (netOk p s v q u t) (net p s v q t)) (netOk p s v q u t && fin (net p s v q t)) (Grew w)) := by
  unfold netOk
  cases hv : vDrive p s v q u
  case' true => cases ha : fin (cl .f32 t)
  all_goals
    go_enter Try.func17, Try.ntmps17
    go_wp2_with (first | (go_at_call 47; refine (c_l05Is p s v q u _ _ _ (by unfold DrAt PlAt; simp [*])).mono ?_; rintro e w' ⟨rfl, nq, rfl⟩) | (go_at_call 48; refine (c_l01Finite _ _).mono ?_; rintro e w' ⟨rfl, nq, rfl⟩) | (go_at_call 50; refine (c_l05Net p s v q u t _ _ _ (by unfold DrAt PlAt; simp [*])).mono ?_; rintro e w' ⟨r, rfl, hr, hrf, nq, rfl⟩) | (go_at_call 49; refine (c_l03Number _ _).mono ?_; rintro e w' ⟨rfl, nq, rfl⟩))
    go_ret2
    first | exact ⟨_, rfl, by simp [num, *], fits_zero, by (show Below _ _ _; (repeat (first | exact Below.refl _ _ | refine ext_below ?_ (by first | omega | (simp only [size_ext, heap_push, Array.size_push, World.heap_drewN]; omega) | (simp; omega)) _ _ | refine below_draws ?_ _ | refine Below.alloc ?_ (by first | omega | (simp; done) | (simp; omega)) _ | refine Below.setCell ?_ (by first | omega | (simp; done) | (simp; omega)) _ | refine below_then (by assumption) (by first | omega | (simp; done) | (simp; omega)) ?_)))⟩ | exact ⟨chkW r, by simp [*], by simp [cl_chkW, num, chk, *], fits_chkW (by assumption), by (show Below _ _ _; (repeat (first | exact Below.refl _ _ | refine ext_below ?_ (by first | omega | (simp only [size_ext, heap_push, Array.size_push, World.heap_drewN]; omega) | (simp; omega)) _ _ | refine below_draws ?_ _ | refine Below.alloc ?_ (by first | omega | (simp; done) | (simp; omega)) _ | refine Below.setCell ?_ (by first | omega | (simp; done) | (simp; omega)) _ | refine below_then (by assumption) (by first | omega | (simp; done) | (simp; omega)) ?_)))⟩

theorem c_implNetTorque (p : Pl) (s : Int) (v q u t : Nat) (w : World) : Calls Try.prog 19 #[.agg #[.float .f32 p.i, .float .f32 p.d, .float .f32 p.r, .float .f32 p.l, .float .f32 p.m, .float .f32 p.s, .float .f32 p.c, .float .f32 p.e, .int .i64 s, .float .f32 v, .float .f32 q, .float .f32 u], .float .f32 t] w
    (RetFB (num (netOk p s v q u t) (net p s v q t)) (netOk p s v q u t && fin (net p s v q t)) (Grew w)) := by
  unfold netOk
  cases hv : vDrive p s v q u
  case' true => cases ha : fin (cl .f32 t)
  all_goals
    go_enter Try.func19, Try.ntmps19
    go_wp2_with (first | (go_at_call 51; refine (c_implValidDrive p s v q u _).mono ?_; rintro e w' ⟨rfl, hbw⟩; obtain ⟨hbc, hbf⟩ := bcell hbw; have hbs := hbw.size; try simp at hbs; try (have hz0 : w.heap.size < w'.heap.size := by omega); try (have hz1 : w.heap.size + 1 < w'.heap.size := by omega); try (have hz2 : w.heap.size + 1 + 1 < w'.heap.size := by omega)) | (go_at_call 52; refine (c_IsFinite _ _).mono ?_; rintro e w' ⟨rfl, nq, rfl⟩) | (go_at_call 54; refine (c_netTorque p s v q u t _).mono ?_; rintro e w' ⟨r, rfl, hr, hrf, hbw⟩; obtain ⟨hbc, hbf⟩ := bcell hbw; have hbs := Below.size hbw; try simp at hbs; try (have hz0 : w.heap.size < w'.heap.size := by omega); try (have hz1 : w.heap.size + 1 < w'.heap.size := by omega); try (have hz2 : w.heap.size + 1 + 1 < w'.heap.size := by omega)) | (go_at_call 53; refine (c_checked _ _).mono ?_; rintro e w' ⟨rfl, nq, rfl⟩))
    go_ret2
    first | exact ⟨_, rfl, by simp [num, *], fits_zero, by (show Below _ _ _; (repeat (first | exact Below.refl _ _ | refine ext_below ?_ (by first | omega | (simp only [size_ext, heap_push, Array.size_push, World.heap_drewN]; omega) | (simp; omega)) _ _ | refine below_draws ?_ _ | refine Below.alloc ?_ (by first | omega | (simp; done) | (simp; omega)) _ | refine Below.setCell ?_ (by first | omega | (simp; done) | (simp; omega)) _ | refine below_then (by assumption) (by first | omega | (simp; done) | (simp; omega)) ?_)))⟩ | exact ⟨chkW r, by simp [*], by simp [cl_chkW, num, chk, *], fits_chkW (by assumption), by (show Below _ _ _; (repeat (first | exact Below.refl _ _ | refine ext_below ?_ (by first | omega | (simp only [size_ext, heap_push, Array.size_push, World.heap_drewN]; omega) | (simp; omega)) _ _ | refine below_draws ?_ _ | refine Below.alloc ?_ (by first | omega | (simp; done) | (simp; omega)) _ | refine Below.setCell ?_ (by first | omega | (simp; done) | (simp; omega)) _ | refine below_then (by assumption) (by first | omega | (simp; done) | (simp; omega)) ?_)))⟩

theorem walk_NetTorque (p : Pl) (s : Int) (v q u t : Nat) (w : World) (_ : p.wf) (_ : (Lit.int .i64 s).wf = true) (_ : fits v) (_ : fits q) (_ : fits u) (_ : fits t) :
    Calls Try.prog 4 #[.agg #[.float .f32 p.i, .float .f32 p.d, .float .f32 p.r, .float .f32 p.l, .float .f32 p.m, .float .f32 p.s, .float .f32 p.c, .float .f32 p.e, .int .i64 s, .float .f32 v, .float .f32 q, .float .f32 u], .float .f32 t] w fun e w' => e = .returned (.bool true) ∧ Below w.heap.size w w' := by
  go_enter Try.func4, Try.ntmps4
  go_wp2_with (first | (go_at_call 18; refine (c_toDrive _ _ _ _ _ _).mono ?_; rintro e w' ⟨rfl, hbw⟩; obtain ⟨hbc, hbf⟩ := bcell hbw; have hbs := hbw.size; try simp at hbs; try (have hz0 : w.heap.size < w'.heap.size := by omega); try (have hz1 : w.heap.size + 1 < w'.heap.size := by omega); try (have hz2 : w.heap.size + 1 + 1 < w'.heap.size := by omega)) | (go_at_call 17; refine (c_specNetTorque p s v q u t _).mono ?_; rintro e w' ⟨r, rfl, hr, hrf, hbw⟩; obtain ⟨hbc, hbf⟩ := bcell hbw; have hbs := Below.size hbw; try simp at hbs; try (have hz0 : w.heap.size < w'.heap.size := by omega); try (have hz1 : w.heap.size + 1 < w'.heap.size := by omega); try (have hz2 : w.heap.size + 1 + 1 < w'.heap.size := by omega)) | (go_at_call 19; refine (c_implNetTorque p s v q u t _).mono ?_; rintro e w' ⟨r, rfl, hr, hrf, hbw⟩; obtain ⟨hbc, hbf⟩ := bcell hbw; have hbs := Below.size hbw; try simp at hbs; try (have hz0 : w.heap.size < w'.heap.size := by omega); try (have hz1 : w.heap.size + 1 < w'.heap.size := by omega); try (have hz2 : w.heap.size + 1 + 1 < w'.heap.size := by omega)) | (refine upon_widen _ _ _ some_f32 Try.underlying39 ?_; intro z n hz hzw) | (go_at_call 20; refine (c_sameFloat _ _ _ (by simp only [*])).mono ?_; rintro e w' ⟨rfl, nq, rfl⟩))
  go_ret
  exact ⟨rfl, by (repeat (first | exact Below.refl _ _ | refine ext_below ?_ (by first | omega | (simp only [size_ext, heap_push, Array.size_push, World.heap_drewN]; omega) | (simp; omega)) _ _ | refine below_draws ?_ _ | refine Below.alloc ?_ (by first | omega | (simp; done) | (simp; omega)) _ | refine Below.setCell ?_ (by first | omega | (simp; done) | (simp; omega)) _ | refine below_then (by assumption) (by first | omega | (simp; done) | (simp; omega)) ?_))⟩

end Go.Proofs.Yticncnohoddbgaa
