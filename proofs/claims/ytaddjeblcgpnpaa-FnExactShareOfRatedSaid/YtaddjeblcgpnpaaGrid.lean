/-
  CONTRACTS: what the grid takes.
-/
import Derived.Test.YtaddjeblcgpnpaaDrive
import Derived.Test.YtaddjeblcgpnpaaSameF
namespace Go.Proofs.Ytaddjeblcgpnpaa
open Go.RowKit Go.Flt
set_option linter.unusedVariables false
set_option linter.unusedSimpArgs false

def grid (p : Pl) (s : Int) (v : Nat) : Ieee.Datum :=
  if s = 2 then if fle (cl .f32 v) (cl .f32 p.m) then fop .quo .f32 (fop .mul .f32 (cl .f32 p.r) (cl .f32 v)) (fop .mul .f32 (cl .f32 p.m) (cl .f32 p.m)) else fop .quo .f32 (cl .f32 p.r) (cl .f32 v)
  else cl .f32 0

theorem c_l05Grid (p : Pl) (s : Int) (v q n b off : Nat) (w : World) (hd : DrAt w b off p s v q n) :
    Calls Try.prog 71 #[.pointer (some ⟨b, off, none⟩)] w (RetF (grid p s v) (Drawn w)) := by
  obtain ⟨⟨h0, h1, h2, h3, h4, h5, h6, h7⟩, h8, h9, h10, h11⟩ := hd
  by_cases hs : s = 2
  · subst hs
    cases hf : (flt (cl .f32 v) (cl .f32 p.m) || feq (cl .f32 v) (cl .f32 p.m))
    all_goals
      go_enter Try.func71, Try.ntmps71
      go_wp2_with fail
      try simp only [List.append_eq, List.cons_append, List.nil_append]
      refine wp_region_drawnC (by kernel_rfl) (by kernel_rfl) ?_
      repeat (first | refine wpFree_skip rfl ?_ | (refine wpFree_want rfl (fun K hK => ?_); first | (refine free_fbin drawn_draw rfl rfl _ _ _ rfl rfl ?_; intro z hz hzw; go_simp; refine hK _ ?_; clear hK K) | (intro wq hq; obtain ⟨hqc, hqf, hqh⟩ := drawn_cells hq; go_simp; first | (refine hK _ ?_; clear hK K; try clear hqc hqf; try clear hqh; try clear hq; try clear wq) | fail)))
      refine wpFree_nil ?_
      intro wq hq
      obtain ⟨nq, rfl⟩ := hq
      go_wp2_with fail
      try simp only [List.append_eq, List.cons_append, List.nil_append]
      refine wp_region_drawnC (by kernel_rfl) (by kernel_rfl) ?_
      repeat (first | refine wpFree_skip rfl ?_ | (refine wpFree_want rfl (fun K hK => ?_); first | (refine free_fbin drawn_draw rfl rfl _ _ _ rfl rfl ?_; intro z hz hzw; go_simp; refine hK _ ?_; clear hK K) | (intro wq hq; obtain ⟨hqc, hqf, hqh⟩ := drawn_cells hq; go_simp; first | (refine hK _ ?_; clear hK K; try clear hqc hqf; try clear hqh; try clear hq; try clear wq) | fail)))
      refine wpFree_nil ?_
      intro wq hq
      obtain ⟨nq, rfl⟩ := hq
      go_wp2_with fail
      go_ret
      exact ⟨_, rfl, by simp [grid, fle, *], by assumption, by (first | exact ⟨_, rfl⟩ | exact ⟨0, rfl⟩ | exact ⟨_, World.drewN_drewN _ _ _⟩ | (simp only [World.drewN_drewN]; exact ⟨_, rfl⟩))⟩
  · go_enter Try.func71, Try.ntmps71
    go_wp2_with fail
    go_ret
    exact ⟨_, rfl, by simp [grid, hs], fits_zero, 0, rfl⟩

theorem c_gridTorque (p : Pl) (s : Int) (v q n : Nat) (w : World) : Calls Try.prog 72 #[.agg #[.float .f32 p.i, .float .f32 p.d, .float .f32 p.r, .float .f32 p.l, .float .f32 p.m, .float .f32 p.s, .float .f32 p.c, .float .f32 p.e, .int .i64 s, .float .f32 v, .float .f32 q, .float .f32 n]] w (RetF (grid p s v) (Grew w)) := by
  by_cases hs : s = 2
  · subst hs
    cases hf : (flt (cl .f32 v) (cl .f32 p.m) || feq (cl .f32 v) (cl .f32 p.m))
    all_goals
      go_enter Try.func72, Try.ntmps72
      go_wp2_with (refine upon_fbin rfl _ _ _ _ ?_; intro z n hz hzw)
      go_ret
      exact ⟨_, rfl, by simp [grid, fle, *], by assumption, by (show Below _ _ _; (repeat (first | exact Below.refl _ _ | refine below_draws ?_ _ | refine Below.alloc ?_ (by first | omega | (simp; done) | (simp; omega)) _ | refine Below.setCell ?_ (by first | omega | (simp; done) | (simp; omega)) _ | refine below_then (by assumption) (by first | omega | (simp; done) | (simp; omega)) ?_)))⟩
  · go_enter Try.func72, Try.ntmps72
    go_wp2_with fail
    go_ret
    exact ⟨_, rfl, by simp [grid, hs], fits_zero, by (show Below _ _ _; (repeat (first | exact Below.refl _ _ | refine below_draws ?_ _ | refine Below.alloc ?_ (by first | omega | (simp; done) | (simp; omega)) _ | refine Below.setCell ?_ (by first | omega | (simp; done) | (simp; omega)) _ | refine below_then (by assumption) (by first | omega | (simp; done) | (simp; omega)) ?_)))⟩

theorem c_checked (x : Nat) (w : World) : Calls Try.prog 66 #[.float .f32 x] w fun e w' => e = .returned (.tuple #[.float .f32 (chkW x), .bool (fin (cl .f32 x))]) ∧ ∃ n, w' = w.drewN n := by
  cases h : fin (cl .f32 x)
  all_goals
    go_enter Try.func66, Try.ntmps66
    go_wp2_with (go_at_call 57; refine (c_IsFinite _ _).mono ?_; rintro e w' ⟨rfl, nq, rfl⟩)
    go_ret2
    exact ⟨by simp [chkW, h], _, rfl⟩

theorem c_l03Number (x : Nat) (w : World) : Calls Try.prog 65 #[.float .f32 x] w fun e w' => e = .returned (.tuple #[.float .f32 (chkW x), .bool (fin (cl .f32 x))]) ∧ ∃ n, w' = w.drewN n := by
  cases h : fin (cl .f32 x)
  all_goals
    go_enter Try.func65, Try.ntmps65
    go_wp2_with (go_at_call 70; refine (c_l01Finite _ _).mono ?_; rintro e w' ⟨rfl, nq, rfl⟩)
    go_ret2
    exact ⟨by simp [chkW, h], _, rfl⟩

theorem c_specGridTorque (p : Pl) (s : Int) (v q n : Nat) (w : World) : Calls Try.prog 45 #[.agg #[.float .f32 p.i, .float .f32 p.d, .float .f32 p.r, .float .f32 p.l, .float .f32 p.m, .float .f32 p.s, .float .f32 p.c, .float .f32 p.e, .int .i64 s, .float .f32 v, .float .f32 q, .float .f32 n]] w (RetFB (num (vDrive p s v q n) (grid p s v)) (vDrive p s v q n && fin (grid p s v)) (Grew w)) := by
  cases hv : vDrive p s v q n
  all_goals
    go_enter Try.func45, Try.ntmps45
    go_wp2_with (first | (go_at_call 54; refine (c_l05Is p s v q n _ _ _ (by unfold DrAt PlAt; simp)).mono ?_; rintro e w' ⟨rfl, nq, rfl⟩) | (go_at_call 71; refine (c_l05Grid p s v q n _ _ _ (by unfold DrAt PlAt; simp)).mono ?_; rintro e w' ⟨r, rfl, hr, hrf, nq, rfl⟩) | (go_at_call 65; refine (c_l03Number _ _).mono ?_; rintro e w' ⟨rfl, nq, rfl⟩))
    go_ret2
    first | exact ⟨_, by simp [*]; rfl, by simp [num, cl_chkW, chk, *], fits_chkW (by assumption), by (show Below _ _ _; (repeat (first | exact Below.refl _ _ | refine below_draws ?_ _ | refine Below.alloc ?_ (by first | omega | (simp; done) | (simp; omega)) _ | refine Below.setCell ?_ (by first | omega | (simp; done) | (simp; omega)) _ | refine below_then (by assumption) (by first | omega | (simp; done) | (simp; omega)) ?_)))⟩ | exact ⟨_, rfl, by simp [num, *], fits_zero, by (show Below _ _ _; (repeat (first | exact Below.refl _ _ | refine below_draws ?_ _ | refine Below.alloc ?_ (by first | omega | (simp; done) | (simp; omega)) _ | refine Below.setCell ?_ (by first | omega | (simp; done) | (simp; omega)) _ | refine below_then (by assumption) (by first | omega | (simp; done) | (simp; omega)) ?_)))⟩

theorem c_implGridTorque (p : Pl) (s : Int) (v q n : Nat) (w : World) : Calls Try.prog 46 #[.agg #[.float .f32 p.i, .float .f32 p.d, .float .f32 p.r, .float .f32 p.l, .float .f32 p.m, .float .f32 p.s, .float .f32 p.c, .float .f32 p.e, .int .i64 s, .float .f32 v, .float .f32 q, .float .f32 n]] w (RetFB (num (vDrive p s v q n) (grid p s v)) (vDrive p s v q n && fin (grid p s v)) (Grew w)) := by
  cases hv : vDrive p s v q n
  all_goals
    go_enter Try.func46, Try.ntmps46
    go_wp2_with (first | (go_at_call 25; refine (c_implValidDrive p s v q n _).mono ?_; rintro e w' ⟨rfl, hbw⟩; obtain ⟨hbc, hbf⟩ := bcell hbw; have hbs := hbw.size; try simp at hbs; try (have hz0 : w.heap.size < w'.heap.size := by omega); try (have hz1 : w.heap.size + 1 < w'.heap.size := by omega); try (have hz2 : w.heap.size + 1 + 1 < w'.heap.size := by omega)) | (go_at_call 72; refine (c_gridTorque p s v q n _).mono ?_; rintro e w' ⟨r, rfl, hr, hrf, hbw⟩; obtain ⟨hbc, hbf⟩ := bcell hbw; have hbs := hbw.size; try simp at hbs) | (go_at_call 66; refine (c_checked _ _).mono ?_; rintro e w' ⟨rfl, nq, rfl⟩))
    go_ret2
    first | exact ⟨_, by simp [*]; rfl, by simp [num, cl_chkW, chk, *], fits_chkW (by assumption), by (show Below _ _ _; (repeat (first | exact Below.refl _ _ | refine below_draws ?_ _ | refine Below.alloc ?_ (by first | omega | (simp; done) | (simp; omega)) _ | refine Below.setCell ?_ (by first | omega | (simp; done) | (simp; omega)) _ | refine below_then (by assumption) (by first | omega | (simp; done) | (simp; omega)) ?_)))⟩ | exact ⟨_, rfl, by simp [num, *], fits_zero, by (show Below _ _ _; (repeat (first | exact Below.refl _ _ | refine below_draws ?_ _ | refine Below.alloc ?_ (by first | omega | (simp; done) | (simp; omega)) _ | refine Below.setCell ?_ (by first | omega | (simp; done) | (simp; omega)) _ | refine below_then (by assumption) (by first | omega | (simp; done) | (simp; omega)) ?_)))⟩
theorem fin_mul {x y : Ieee.Datum} (h : fin (fop .mul .f32 x y) = true) : fin x = true := by
  rw [fin_eq] at *
  cases x with
  | number s m e => rfl
  | nan s t =>
    have : fop .mul .f32 (.nan s t) y = NaN := by simp [fop, Ieee.Datum.product, rnd]
    rw [this] at h
    cases h
  | infinity s =>
    exfalso
    cases y with
    | nan s' t =>
      have : fop .mul .f32 (.infinity s) (.nan s' t) = NaN := by simp [fop, Ieee.Datum.product, rnd]
      rw [this] at h
      cases h
    | infinity t => cases s <;> cases t <;> revert h <;> decide
    | number t n j =>
      have : fop .mul .f32 (.infinity s) (.number t n j) = if n = 0 then NaN else rnd .f32 (some (.infinity (s ^^ t))) := by
        simp only [fop, Ieee.Datum.product]
        split <;> rfl
      rw [this] at h
      split at h
      · cases h
      · cases s <;> cases t <;> revert h <;> decide

def power (p : Pl) (s : Int) (v : Nat) : Ieee.Datum := fop .mul .f32 (grid p s v) (cl .f32 v)
theorem num_power (b : Bool) (p : Pl) (s : Int) (v : Nat) : num (b && fin (grid p s v)) (power p s v) = num b (power p s v) := by
  cases h : fin (power p s v)
  · simp [num, h]
  · have := fin_mul h
    simp [num, h, this]
theorem fin_power (b : Bool) (p : Pl) (s : Int) (v : Nat) : (b && fin (grid p s v) && fin (power p s v)) = (b && fin (power p s v)) := by
  cases h : fin (power p s v)
  · simp
  · have := fin_mul h
    simp [this]

theorem c_specDrivePower (p : Pl) (s : Int) (v q n : Nat) (w : World) : Calls Try.prog 43 #[.agg #[.float .f32 p.i, .float .f32 p.d, .float .f32 p.r, .float .f32 p.l, .float .f32 p.m, .float .f32 p.s, .float .f32 p.c, .float .f32 p.e, .int .i64 s, .float .f32 v, .float .f32 q, .float .f32 n]] w
    (RetFB (num (vDrive p s v q n) (power p s v)) (vDrive p s v q n && fin (power p s v)) (Grew w)) := by
  have HN := Lib.hid (num_power (vDrive p s v q n) p s v)
  have HF := Lib.hid (fin_power (vDrive p s v q n) p s v)
  cases hv : vDrive p s v q n
  · rw [hv] at HN HF
    go_enter Try.func43, Try.ntmps43
    go_wp2_with (first | (go_at_call 54; refine (c_l05Is p s v q n _ _ _ (by unfold DrAt PlAt; simp [*])).mono ?_; rintro e w' ⟨rfl, nq, rfl⟩))
    go_ret2
    exact ⟨_, rfl, by simp [num, *], fits_zero, by (show Below _ _ _; (repeat (first | exact Below.refl _ _ | refine below_draws ?_ _ | refine Below.alloc ?_ (by first | omega | (simp; done) | (simp; omega)) _ | refine Below.setCell ?_ (by first | omega | (simp; done) | (simp; omega)) _ | refine below_then (by assumption) (by first | omega | (simp; done) | (simp; omega)) ?_)))⟩
  · rw [hv] at HN HF
    cases hf : fin (grid p s v)
    · rw [← HN.out, ← HF.out, hf]
      go_enter Try.func43, Try.ntmps43
      go_wp2_with (first | (go_at_call 54; refine (c_l05Is p s v q n _ _ _ (by unfold DrAt PlAt; simp [*])).mono ?_; rintro e w' ⟨rfl, nq, rfl⟩) | (go_at_call 71; refine (c_l05Grid p s v q n _ _ _ (by unfold DrAt PlAt; simp [*])).mono ?_; rintro e w' ⟨r, rfl, hr, hrf, nq, rfl⟩) | (go_at_call 70; refine (c_l01Finite _ _).mono ?_; rintro e w' ⟨rfl, nq, rfl⟩))
      go_ret2
      exact ⟨_, rfl, by simp [num], fits_zero, by (show Below _ _ _; (repeat (first | exact Below.refl _ _ | refine below_draws ?_ _ | refine Below.alloc ?_ (by first | omega | (simp; done) | (simp; omega)) _ | refine Below.setCell ?_ (by first | omega | (simp; done) | (simp; omega)) _ | refine below_then (by assumption) (by first | omega | (simp; done) | (simp; omega)) ?_)))⟩
    · go_enter Try.func43, Try.ntmps43
      go_wp2_with (first | (go_at_call 54; refine (c_l05Is p s v q n _ _ _ (by unfold DrAt PlAt; simp [*])).mono ?_; rintro e w' ⟨rfl, nq, rfl⟩) | (go_at_call 71; refine (c_l05Grid p s v q n _ _ _ (by unfold DrAt PlAt; simp [*])).mono ?_; rintro e w' ⟨r, rfl, hr, hrf, nq, rfl⟩) | (go_at_call 70; refine (c_l01Finite _ _).mono ?_; rintro e w' ⟨rfl, nq, rfl⟩))
      try simp only [List.append_eq, List.cons_append, List.nil_append]
      refine wp_region_drawnC (by kernel_rfl) (by kernel_rfl) ?_
      repeat (first | refine wpFree_skip rfl ?_ | (refine wpFree_want rfl (fun K hK => ?_); first | (refine free_fbin drawn_draw rfl rfl _ _ _ rfl rfl ?_; intro z hz hzw; go_simp; refine hK _ ?_; clear hK K) | (intro wq hq; obtain ⟨hqc, hqf, hqh⟩ := drawn_cells hq; go_simp; first | (refine hK _ ?_; clear hK K; try clear hqc hqf; try clear hqh; try clear hq; try clear wq) | ((with_reducible refine free_at 71 ?_); refine free_f _ (by kernel_rfl) (fun wr hr => (c_l05Grid p s v q n _ _ _ (by obtain ⟨_, rfl⟩ := hr; unfold DrAt PlAt; simp)).mono fun e w'' ⟨r, he, h1, h2, hw⟩ => ⟨r, he, h1, h2, drawn_trans hr hw⟩) ?_; intro r hr hrf; refine hK _ ?_; clear hK K; try clear hqc hqf; try clear hqh; try clear hq; try clear wq) | ((with_reducible refine free_at 65 ?_); refine free_v _ (by kernel_rfl) (fun wr hr => (c_l03Number _ _).mono fun e w'' ⟨he, hw⟩ => ⟨he, drawn_trans hr hw⟩) ?_; refine hK _ ?_; clear hK K; try clear hqc hqf; try clear hqh; try clear hq; try clear wq))))
      refine wpFree_nil ?_
      intro wq hq
      obtain ⟨nq, rfl⟩ := hq
      go_wp2_with fail
      go_ret2
      exact ⟨chkW z, by simp [power, *], by simp [cl_chkW, num, chk, power, *], fits_chkW (by assumption), by (show Below _ _ _; (repeat (first | exact Below.refl _ _ | refine below_draws ?_ _ | refine Below.alloc ?_ (by first | omega | (simp; done) | (simp; omega)) _ | refine Below.setCell ?_ (by first | omega | (simp; done) | (simp; omega)) _ | refine below_then (by assumption) (by first | omega | (simp; done) | (simp; omega)) ?_)))⟩

theorem c_implDrivePower (p : Pl) (s : Int) (v q n : Nat) (w : World) : Calls Try.prog 44 #[.agg #[.float .f32 p.i, .float .f32 p.d, .float .f32 p.r, .float .f32 p.l, .float .f32 p.m, .float .f32 p.s, .float .f32 p.c, .float .f32 p.e, .int .i64 s, .float .f32 v, .float .f32 q, .float .f32 n]] w
    (RetFB (num (vDrive p s v q n) (power p s v)) (vDrive p s v q n && fin (power p s v)) (Grew w)) := by
  cases hv : vDrive p s v q n
  · go_enter Try.func44, Try.ntmps44
    go_wp2_with (first | (go_at_call 25; refine (c_implValidDrive p s v q n _).mono ?_; rintro e w' ⟨rfl, hbw⟩; obtain ⟨hbc, hbf⟩ := bcell hbw; have hbs := hbw.size; try simp at hbs; try (have hz0 : w.heap.size < w'.heap.size := by omega); try (have hz1 : w.heap.size + 1 < w'.heap.size := by omega); try (have hz2 : w.heap.size + 1 + 1 < w'.heap.size := by omega)))
    go_ret2
    exact ⟨_, rfl, by simp [num, *], fits_zero, by (show Below _ _ _; (repeat (first | exact Below.refl _ _ | refine below_draws ?_ _ | refine Below.alloc ?_ (by first | omega | (simp; done) | (simp; omega)) _ | refine Below.setCell ?_ (by first | omega | (simp; done) | (simp; omega)) _ | refine below_then (by assumption) (by first | omega | (simp; done) | (simp; omega)) ?_)))⟩
  · go_enter Try.func44, Try.ntmps44
    go_wp2_with (first | (go_at_call 25; refine (c_implValidDrive p s v q n _).mono ?_; rintro e w' ⟨rfl, hbw⟩; obtain ⟨hbc, hbf⟩ := bcell hbw; have hbs := hbw.size; try simp at hbs; try (have hz0 : w.heap.size < w'.heap.size := by omega); try (have hz1 : w.heap.size + 1 < w'.heap.size := by omega); try (have hz2 : w.heap.size + 1 + 1 < w'.heap.size := by omega)))
    try simp only [List.append_eq, List.cons_append, List.nil_append]
    refine wp_region_grewC (by kernel_rfl) (by kernel_rfl) ?_
    repeat (first | refine wpFree_skip rfl ?_ | (refine wpFree_want rfl (fun K hK => ?_); first | (refine free_fbin grew_draw rfl rfl _ _ _ rfl rfl ?_; intro z hz hzw; go_simp; refine hK _ ?_; clear hK K) | (intro wq hq; obtain ⟨hqc, hqf⟩ := bcell hq; go_simp; first | (refine hK _ ?_; clear hK K; try clear hqc hqf; try clear hqh; try clear hq; try clear wq) | ((with_reducible refine free_at 72 ?_); refine free_f _ (by kernel_rfl) (fun wr hr => (c_gridTorque p s v q n _).mono fun e w'' ⟨r, he, h1, h2, hw⟩ => ⟨r, he, h1, h2, grew_trans hr hw⟩) ?_; intro r hr hrf; refine hK _ ?_; clear hK K; try clear hqc hqf; try clear hqh; try clear hq; try clear wq) | ((with_reducible refine free_at 66 ?_); refine free_v _ (by kernel_rfl) (fun wr hr => (c_checked _ _).mono fun e w'' ⟨he, hw⟩ => ⟨he, grew_trans hr (grew_of_drawn hw)⟩) ?_; refine hK _ ?_; clear hK K; try clear hqc hqf; try clear hqh; try clear hq; try clear wq))))
    refine wpFree_nil ?_
    intro wq hq
    obtain ⟨hqc, hqf⟩ := bcell hq
    have hqs := hq.size
    try simp at hqs
    try (have hz0 : w.heap.size < wq.heap.size := by omega)
    try (have hz1 : w.heap.size + 1 < wq.heap.size := by omega)
    try (have hz2 : w.heap.size + 1 + 1 < wq.heap.size := by omega)
    go_wp2_with fail
    go_ret2
    exact ⟨chkW z, by simp [power, *], by simp [cl_chkW, num, chk, power, *], fits_chkW (by assumption), by (show Below _ _ _; (repeat (first | exact Below.refl _ _ | refine below_draws ?_ _ | refine Below.alloc ?_ (by first | omega | (simp; done) | (simp; omega)) _ | refine Below.setCell ?_ (by first | omega | (simp; done) | (simp; omega)) _ | refine below_then (by assumption) (by first | omega | (simp; done) | (simp; omega)) ?_)))⟩

theorem walk_DrivePower (p : Pl) (s : Int) (v q n : Nat) (w : World) (_ : p.wf) (_ : (Lit.int .i64 s).wf = true) (_ : fits v) (_ : fits q) (_ : fits n) :
    Calls Try.prog 13 #[.agg #[.float .f32 p.i, .float .f32 p.d, .float .f32 p.r, .float .f32 p.l, .float .f32 p.m, .float .f32 p.s, .float .f32 p.c, .float .f32 p.e, .int .i64 s, .float .f32 v, .float .f32 q, .float .f32 n]] w fun e w' => e = .returned (.bool true) ∧ Below w.heap.size w w' := by
  go_enter Try.func13, Try.ntmps13
  go_wp2_with (first | (go_at_call 24; refine (c_toDrive _ _ _ _ _ _).mono ?_; rintro e w' ⟨rfl, hbw⟩; obtain ⟨hbc, hbf⟩ := bcell hbw; have hbs := hbw.size; try simp at hbs; try (have hz0 : w.heap.size < w'.heap.size := by omega); try (have hz1 : w.heap.size + 1 < w'.heap.size := by omega); try (have hz2 : w.heap.size + 1 + 1 < w'.heap.size := by omega)) | (go_at_call 43; refine (c_specDrivePower p s v q n _).mono ?_; rintro e w' ⟨r, rfl, hr, hrf, hbw⟩; obtain ⟨hbc, hbf⟩ := bcell hbw; have hbs := Below.size hbw; try simp at hbs; try (have hz0 : w.heap.size < w'.heap.size := by omega); try (have hz1 : w.heap.size + 1 < w'.heap.size := by omega); try (have hz2 : w.heap.size + 1 + 1 < w'.heap.size := by omega)) | (go_at_call 44; refine (c_implDrivePower p s v q n _).mono ?_; rintro e w' ⟨r, rfl, hr, hrf, hbw⟩; obtain ⟨hbc, hbf⟩ := bcell hbw; have hbs := Below.size hbw; try simp at hbs; try (have hz0 : w.heap.size < w'.heap.size := by omega); try (have hz1 : w.heap.size + 1 < w'.heap.size := by omega); try (have hz2 : w.heap.size + 1 + 1 < w'.heap.size := by omega)) | (refine upon_widen _ _ _ rfl Try.underlying60 ?_; intro z n hz hzw) | (go_at_call 40; refine (c_sameFloat _ _ _ (by simp only [*])).mono ?_; rintro e w' ⟨rfl, nq, rfl⟩))
  go_ret
  exact ⟨rfl, by (repeat (first | exact Below.refl _ _ | refine below_draws ?_ _ | refine Below.alloc ?_ (by first | omega | (simp; done) | (simp; omega)) _ | refine Below.setCell ?_ (by first | omega | (simp; done) | (simp; omega)) _ | refine below_then (by assumption) (by first | omega | (simp; done) | (simp; omega)) ?_))⟩
theorem walk_GridTorque (p : Pl) (s : Int) (v q n : Nat) (w : World) (_ : p.wf) (_ : (Lit.int .i64 s).wf = true) (_ : fits v) (_ : fits q) (_ : fits n) :
    Calls Try.prog 14 #[.agg #[.float .f32 p.i, .float .f32 p.d, .float .f32 p.r, .float .f32 p.l, .float .f32 p.m, .float .f32 p.s, .float .f32 p.c, .float .f32 p.e, .int .i64 s, .float .f32 v, .float .f32 q, .float .f32 n]] w fun e w' => e = .returned (.bool true) ∧ Below w.heap.size w w' := by
  go_enter Try.func14, Try.ntmps14
  go_wp2_with (first | (go_at_call 24; refine (c_toDrive _ _ _ _ _ _).mono ?_; rintro e w' ⟨rfl, hbw⟩; obtain ⟨hbc, hbf⟩ := bcell hbw; have hbs := hbw.size; try simp at hbs; try (have hz0 : w.heap.size < w'.heap.size := by omega); try (have hz1 : w.heap.size + 1 < w'.heap.size := by omega); try (have hz2 : w.heap.size + 1 + 1 < w'.heap.size := by omega)) | (go_at_call 45; refine (c_specGridTorque p s v q n _).mono ?_; rintro e w' ⟨r, rfl, hr, hrf, hbw⟩; obtain ⟨hbc, hbf⟩ := bcell hbw; have hbs := Below.size hbw; try simp at hbs; try (have hz0 : w.heap.size < w'.heap.size := by omega); try (have hz1 : w.heap.size + 1 < w'.heap.size := by omega); try (have hz2 : w.heap.size + 1 + 1 < w'.heap.size := by omega)) | (go_at_call 46; refine (c_implGridTorque p s v q n _).mono ?_; rintro e w' ⟨r, rfl, hr, hrf, hbw⟩; obtain ⟨hbc, hbf⟩ := bcell hbw; have hbs := Below.size hbw; try simp at hbs; try (have hz0 : w.heap.size < w'.heap.size := by omega); try (have hz1 : w.heap.size + 1 < w'.heap.size := by omega); try (have hz2 : w.heap.size + 1 + 1 < w'.heap.size := by omega)) | (refine upon_widen _ _ _ rfl Try.underlying60 ?_; intro z n hz hzw) | (go_at_call 40; refine (c_sameFloat _ _ _ (by simp only [*])).mono ?_; rintro e w' ⟨rfl, nq, rfl⟩))
  go_ret
  exact ⟨rfl, by (repeat (first | exact Below.refl _ _ | refine below_draws ?_ _ | refine Below.alloc ?_ (by first | omega | (simp; done) | (simp; omega)) _ | refine Below.setCell ?_ (by first | omega | (simp; done) | (simp; omega)) _ | refine below_then (by assumption) (by first | omega | (simp; done) | (simp; omega)) ?_))⟩
end Go.Proofs.Ytaddjeblcgpnpaa
