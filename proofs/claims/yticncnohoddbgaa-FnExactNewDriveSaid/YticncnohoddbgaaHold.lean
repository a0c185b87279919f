/-
  CONTRACTS: drives that are made, held, released.
-/
import Derived.Test.YticncnohoddbgaaDrive
import Derived.Test.YticncnohoddbgaaSameF
namespace Go.Proofs.Yticncnohoddbgaa
open Go.RowKit Go.Flt
set_option linter.unusedVariables false
set_option maxRecDepth 100000
set_option linter.unusedSimpArgs false

@[go_sem] theorem nat_lt_add1 (n m k0 : Nat) (h : n < m) : (n < m + k0) = True := by simp only [eq_iff_iff, iff_true]; omega

@[go_sem] theorem nat_lt_add2 (n m k0 k1 : Nat) (h : n < m) : (n < m + k0 + k1) = True := by simp only [eq_iff_iff, iff_true]; omega

@[go_sem] theorem nat_lt_add3 (n m k0 k1 k2 : Nat) (h : n < m) : (n < m + k0 + k1 + k2) = True := by simp only [eq_iff_iff, iff_true]; omega

@[go_sem] theorem nat_lt_add4 (n m k0 k1 k2 k3 : Nat) (h : n < m) : (n < m + k0 + k1 + k2 + k3) = True := by simp only [eq_iff_iff, iff_true]; omega

@[go_sem] theorem nat_lt_add5 (n m k0 k1 k2 k3 k4 : Nat) (h : n < m) : (n < m + k0 + k1 + k2 + k3 + k4) = True := by simp only [eq_iff_iff, iff_true]; omega

@[go_sem] theorem nat_lt_add6 (n m k0 k1 k2 k3 k4 k5 : Nat) (h : n < m) : (n < m + k0 + k1 + k2 + k3 + k4 + k5) = True := by simp only [eq_iff_iff, iff_true]; omega

@[go_sem] theorem nat_lt_add7 (n m k0 k1 k2 k3 k4 k5 k6 : Nat) (h : n < m) : (n < m + k0 + k1 + k2 + k3 + k4 + k5 + k6) = True := by simp only [eq_iff_iff, iff_true]; omega

theorem c_eqPlant (p : Pl) (w : World) : Calls Try.prog 46 #[.agg #[.float .f32 p.i, .float .f32 p.d, .float .f32 p.r, .float .f32 p.l, .float .f32 p.m, .float .f32 p.s, .float .f32 p.c, .float .f32 p.e], .agg #[.float .f32 p.i, .float .f32 p.d, .float .f32 p.r, .float .f32 p.l, .float .f32 p.m, .float .f32 p.s, .float .f32 p.c, .float .f32 p.e]] w fun e w' => e = .returned (.bool true) ∧ Below w.heap.size w w' := by
  go_enter Try.func46, Try.ntmps46
  go_wp2_with (first | (refine upon_widen _ _ _ some_f32 Try.underlying39 ?_; intro z n hz hzw) | (go_at_call 20; refine (c_sameFloat _ _ _ (by simp only [*])).mono ?_; rintro e w' ⟨rfl, nq, rfl⟩))
  go_ret
  exact ⟨rfl, by (repeat (first | exact Below.refl _ _ | refine ext_below ?_ (by first | omega | (simp only [size_ext, heap_push, Array.size_push, World.heap_drewN]; omega) | (simp; omega)) _ _ | refine below_draws ?_ _ | refine Below.alloc ?_ (by first | omega | (simp; done) | (simp; omega)) _ | refine Below.setCell ?_ (by first | omega | (simp; done) | (simp; omega)) _ | refine below_then (by assumption) (by first | omega | (simp; done) | (simp; omega)) ?_))⟩

theorem c_eqDrive (p : Pl) (s : Int) (v q u : Nat) (w : World) : Calls Try.prog 16 #[.agg #[.float .f32 p.i, .float .f32 p.d, .float .f32 p.r, .float .f32 p.l, .float .f32 p.m, .float .f32 p.s, .float .f32 p.c, .float .f32 p.e, .int .i64 s, .float .f32 v, .float .f32 q, .float .f32 u], .agg #[.float .f32 p.i, .float .f32 p.d, .float .f32 p.r, .float .f32 p.l, .float .f32 p.m, .float .f32 p.s, .float .f32 p.c, .float .f32 p.e, .int .i64 s, .float .f32 v, .float .f32 q, .float .f32 u]] w fun e w' => e = .returned (.bool true) ∧ Below w.heap.size w w' := by
  go_enter Try.func16, Try.ntmps16
  go_wp2_with (first | (go_at_call 46; refine (c_eqPlant _ _).mono ?_; rintro e w' ⟨rfl, hbw⟩; obtain ⟨hbc, hbf⟩ := bcell hbw; have hbs := hbw.size; try simp at hbs; try (have hz0 : w.heap.size < w'.heap.size := by omega); try (have hz1 : w.heap.size + 1 < w'.heap.size := by omega); try (have hz2 : w.heap.size + 1 + 1 < w'.heap.size := by omega)) | (refine upon_widen _ _ _ some_f32 Try.underlying39 ?_; intro z n hz hzw) | (go_at_call 20; refine (c_sameFloat _ _ _ (by simp only [*])).mono ?_; rintro e w' ⟨rfl, nq, rfl⟩))
  go_ret
  exact ⟨rfl, by (repeat (first | exact Below.refl _ _ | refine ext_below ?_ (by first | omega | (simp only [size_ext, heap_push, Array.size_push, World.heap_drewN]; omega) | (simp; omega)) _ _ | refine below_draws ?_ _ | refine Below.alloc ?_ (by first | omega | (simp; done) | (simp; omega)) _ | refine Below.setCell ?_ (by first | omega | (simp; done) | (simp; omega)) _ | refine below_then (by assumption) (by first | omega | (simp; done) | (simp; omega)) ?_))⟩

/-- A drive and a word on it. -/
def tell (b : Bool) (p : Pl) (s : Int) (v q u : Nat) : Value := if b then .tuple #[.agg #[.float .f32 p.i, .float .f32 p.d, .float .f32 p.r, .float .f32 p.l, .float .f32 p.m, .float .f32 p.s, .float .f32 p.c, .float .f32 p.e, .int .i64 s, .float .f32 v, .float .f32 q, .float .f32 u], .bool true] else .tuple #[.agg #[.float .f32 0, .float .f32 0, .float .f32 0, .float .f32 0, .float .f32 0, .float .f32 0, .float .f32 0, .float .f32 0, .int .i64 0, .float .f32 0, .float .f32 0, .float .f32 0], .bool false]

set_option maxHeartbeats 4000000 in
theorem c_specHoldDrive (p : Pl) (s : Int) (v q u : Nat) (w : World) : Calls Try.prog 23 #[.agg #[.float .f32 p.i, .float .f32 p.d, .float .f32 p.r, .float .f32 p.l, .float .f32 p.m, .float .f32 p.s, .float .f32 p.c, .float .f32 p.e, .int .i64 s, .float .f32 v, .float .f32 q, .float .f32 u]] w fun e w' => e = .returned (tell (vDrive p s v q u) p 4 v q u) ∧ Below w.heap.size w w' := by
  cases hv : vDrive p s v q u
  all_goals
    go_enter Try.func23, Try.ntmps23
    go_wp2_with (first | (go_at_call 47; refine (c_l05Is p s v q u _ _ _ (by unfold DrAt PlAt; simp [*])).mono ?_; rintro e w' ⟨rfl, nq, rfl⟩))
  · exact bodyPost_ret (v := .tuple #[.agg #[.float .f32 0, .float .f32 0, .float .f32 0, .float .f32 0, .float .f32 0, .float .f32 0, .float .f32 0, .float .f32 0, .int .i64 0, .float .f32 0, .float .f32 0, .float .f32 0], .bool false]) (by simp [results, Try.results23, go_sem]) rfl ⟨rfl, by (repeat (first | exact Below.refl _ _ | refine ext_below ?_ (by first | omega | (simp only [size_ext, heap_push, Array.size_push, World.heap_drewN]; omega) | (simp; omega)) _ _ | refine below_draws ?_ _ | refine Below.alloc ?_ (by first | omega | (simp; done) | (simp; omega)) _ | refine Below.setCell ?_ (by first | omega | (simp; done) | (simp; omega)) _ | refine below_then (by assumption) (by first | omega | (simp; done) | (simp; omega)) ?_))⟩
  · exact bodyPost_ret (v := .tuple #[.agg #[.float .f32 p.i, .float .f32 p.d, .float .f32 p.r, .float .f32 p.l, .float .f32 p.m, .float .f32 p.s, .float .f32 p.c, .float .f32 p.e, .int .i64 4, .float .f32 v, .float .f32 q, .float .f32 u], .bool true]) (by simp [results, Try.results23, go_sem]) rfl ⟨rfl, by (repeat (first | exact Below.refl _ _ | refine ext_below ?_ (by first | omega | (simp only [size_ext, heap_push, Array.size_push, World.heap_drewN]; omega) | (simp; omega)) _ _ | refine below_draws ?_ _ | refine Below.alloc ?_ (by first | omega | (simp; done) | (simp; omega)) _ | refine Below.setCell ?_ (by first | omega | (simp; done) | (simp; omega)) _ | refine below_then (by assumption) (by first | omega | (simp; done) | (simp; omega)) ?_))⟩

theorem c_implHoldDrive (p : Pl) (s : Int) (v q u : Nat) (w : World) : Calls Try.prog 24 #[.agg #[.float .f32 p.i, .float .f32 p.d, .float .f32 p.r, .float .f32 p.l, .float .f32 p.m, .float .f32 p.s, .float .f32 p.c, .float .f32 p.e, .int .i64 s, .float .f32 v, .float .f32 q, .float .f32 u]] w fun e w' => e = .returned (tell (vDrive p s v q u) p 4 v q u) ∧ Below w.heap.size w w' := by
  cases hv : vDrive p s v q u
  all_goals
    go_enter Try.func24, Try.ntmps24
    go_wp2_with (go_at_call 51; refine (c_implValidDrive p s v q u _).mono ?_; rintro e w' ⟨rfl, hbw⟩; obtain ⟨xo, xn, rfl⟩ := below_ext hbw; clear hbw; go_simp)
  · exact bodyPost_ret (v := .tuple #[.agg #[.float .f32 0, .float .f32 0, .float .f32 0, .float .f32 0, .float .f32 0, .float .f32 0, .float .f32 0, .float .f32 0, .int .i64 0, .float .f32 0, .float .f32 0, .float .f32 0], .bool false]) (by simp [results, Try.results24, go_sem]) rfl ⟨rfl, by (repeat (first | exact Below.refl _ _ | refine ext_below ?_ (by first | omega | (simp only [size_ext, heap_push, Array.size_push, World.heap_drewN]; omega) | (simp; omega)) _ _ | refine below_draws ?_ _ | refine Below.alloc ?_ (by first | omega | (simp; done) | (simp; omega)) _ | refine Below.setCell ?_ (by first | omega | (simp; done) | (simp; omega)) _ | refine below_then (by assumption) (by first | omega | (simp; done) | (simp; omega)) ?_))⟩
  · exact bodyPost_ret (v := .tuple #[.agg #[.float .f32 p.i, .float .f32 p.d, .float .f32 p.r, .float .f32 p.l, .float .f32 p.m, .float .f32 p.s, .float .f32 p.c, .float .f32 p.e, .int .i64 4, .float .f32 v, .float .f32 q, .float .f32 u], .bool true]) (by simp [results, Try.results24, go_sem]) rfl ⟨rfl, by (repeat (first | exact Below.refl _ _ | refine ext_below ?_ (by first | omega | (simp only [size_ext, heap_push, Array.size_push, World.heap_drewN]; omega) | (simp; omega)) _ _ | refine below_draws ?_ _ | refine Below.alloc ?_ (by first | omega | (simp; done) | (simp; omega)) _ | refine Below.setCell ?_ (by first | omega | (simp; done) | (simp; omega)) _ | refine below_then (by assumption) (by first | omega | (simp; done) | (simp; omega)) ?_))⟩

def relS (s : Int) (v : Nat) : Int := if s = 4 then if feq (cl .f32 v) (cl .f32 0) then 0 else 3 else s

theorem c_specReleaseDrive (p : Pl) (s : Int) (v q u : Nat) (w : World) : Calls Try.prog 25 #[.agg #[.float .f32 p.i, .float .f32 p.d, .float .f32 p.r, .float .f32 p.l, .float .f32 p.m, .float .f32 p.s, .float .f32 p.c, .float .f32 p.e, .int .i64 s, .float .f32 v, .float .f32 q, .float .f32 u]] w fun e w' => e = .returned (tell (vDrive p s v q u) p (relS s v) v q u) ∧ Below w.heap.size w w' := by
  cases hv : vDrive p s v q u
  · go_enter Try.func25, Try.ntmps25
    go_wp2_with (first | (go_at_call 47; refine (c_l05Is p s v q u _ _ _ (by unfold DrAt PlAt; simp [*])).mono ?_; rintro e w' ⟨rfl, nq, rfl⟩))
    exact bodyPost_ret (v := .tuple #[.agg #[.float .f32 0, .float .f32 0, .float .f32 0, .float .f32 0, .float .f32 0, .float .f32 0, .float .f32 0, .float .f32 0, .int .i64 0, .float .f32 0, .float .f32 0, .float .f32 0], .bool false]) (by simp [results, Try.results25, go_sem]) rfl ⟨rfl, by (repeat (first | exact Below.refl _ _ | refine ext_below ?_ (by first | omega | (simp only [size_ext, heap_push, Array.size_push, World.heap_drewN]; omega) | (simp; omega)) _ _ | refine below_draws ?_ _ | refine Below.alloc ?_ (by first | omega | (simp; done) | (simp; omega)) _ | refine Below.setCell ?_ (by first | omega | (simp; done) | (simp; omega)) _ | refine below_then (by assumption) (by first | omega | (simp; done) | (simp; omega)) ?_))⟩
  · by_cases h4 : s = 4
    · subst h4
      cases hf : feq (cl .f32 v) (cl .f32 0)
      · go_enter Try.func25, Try.ntmps25
        go_wp2_with (first | (go_at_call 47; refine (c_l05Is p 4 v q u _ _ _ (by unfold DrAt PlAt; simp [*])).mono ?_; rintro e w' ⟨rfl, nq, rfl⟩))
        exact bodyPost_ret (v := .tuple #[.agg #[.float .f32 p.i, .float .f32 p.d, .float .f32 p.r, .float .f32 p.l, .float .f32 p.m, .float .f32 p.s, .float .f32 p.c, .float .f32 p.e, .int .i64 3, .float .f32 v, .float .f32 q, .float .f32 u], .bool true]) (by simp [results, Try.results25, go_sem]) rfl ⟨by simp [tell, relS, hf], by (repeat (first | exact Below.refl _ _ | refine ext_below ?_ (by first | omega | (simp only [size_ext, heap_push, Array.size_push, World.heap_drewN]; omega) | (simp; omega)) _ _ | refine below_draws ?_ _ | refine Below.alloc ?_ (by first | omega | (simp; done) | (simp; omega)) _ | refine Below.setCell ?_ (by first | omega | (simp; done) | (simp; omega)) _ | refine below_then (by assumption) (by first | omega | (simp; done) | (simp; omega)) ?_))⟩
      · go_enter Try.func25, Try.ntmps25
        go_wp2_with (first | (go_at_call 47; refine (c_l05Is p 4 v q u _ _ _ (by unfold DrAt PlAt; simp [*])).mono ?_; rintro e w' ⟨rfl, nq, rfl⟩))
        exact bodyPost_ret (v := .tuple #[.agg #[.float .f32 p.i, .float .f32 p.d, .float .f32 p.r, .float .f32 p.l, .float .f32 p.m, .float .f32 p.s, .float .f32 p.c, .float .f32 p.e, .int .i64 0, .float .f32 v, .float .f32 q, .float .f32 u], .bool true]) (by simp [results, Try.results25, go_sem]) rfl ⟨by simp [tell, relS, hf], by (repeat (first | exact Below.refl _ _ | refine ext_below ?_ (by first | omega | (simp only [size_ext, heap_push, Array.size_push, World.heap_drewN]; omega) | (simp; omega)) _ _ | refine below_draws ?_ _ | refine Below.alloc ?_ (by first | omega | (simp; done) | (simp; omega)) _ | refine Below.setCell ?_ (by first | omega | (simp; done) | (simp; omega)) _ | refine below_then (by assumption) (by first | omega | (simp; done) | (simp; omega)) ?_))⟩
    · have h4' : (s == 4) = false := by simp [h4]
      go_enter Try.func25, Try.ntmps25
      go_wp2_with (first | (go_at_call 47; refine (c_l05Is p s v q u _ _ _ (by unfold DrAt PlAt; simp [*])).mono ?_; rintro e w' ⟨rfl, nq, rfl⟩))
      exact bodyPost_ret (v := .tuple #[.agg #[.float .f32 p.i, .float .f32 p.d, .float .f32 p.r, .float .f32 p.l, .float .f32 p.m, .float .f32 p.s, .float .f32 p.c, .float .f32 p.e, .int .i64 s, .float .f32 v, .float .f32 q, .float .f32 u], .bool true]) (by simp [results, Try.results25, go_sem]) rfl ⟨by simp [tell, relS, h4], by (repeat (first | exact Below.refl _ _ | refine ext_below ?_ (by first | omega | (simp only [size_ext, heap_push, Array.size_push, World.heap_drewN]; omega) | (simp; omega)) _ _ | refine below_draws ?_ _ | refine Below.alloc ?_ (by first | omega | (simp; done) | (simp; omega)) _ | refine Below.setCell ?_ (by first | omega | (simp; done) | (simp; omega)) _ | refine below_then (by assumption) (by first | omega | (simp; done) | (simp; omega)) ?_))⟩

theorem c_implReleaseDrive (p : Pl) (s : Int) (v q u : Nat) (w : World) : Calls Try.prog 26 #[.agg #[.float .f32 p.i, .float .f32 p.d, .float .f32 p.r, .float .f32 p.l, .float .f32 p.m, .float .f32 p.s, .float .f32 p.c, .float .f32 p.e, .int .i64 s, .float .f32 v, .float .f32 q, .float .f32 u]] w fun e w' => e = .returned (tell (vDrive p s v q u) p (relS s v) v q u) ∧ Below w.heap.size w w' := by
  cases hv : vDrive p s v q u
  · go_enter Try.func26, Try.ntmps26
    go_wp2_with (go_at_call 51; refine (c_implValidDrive p s v q u _).mono ?_; rintro e w' ⟨rfl, hbw⟩; obtain ⟨xo, xn, rfl⟩ := below_ext hbw; clear hbw; go_simp)
    exact bodyPost_ret (v := .tuple #[.agg #[.float .f32 0, .float .f32 0, .float .f32 0, .float .f32 0, .float .f32 0, .float .f32 0, .float .f32 0, .float .f32 0, .int .i64 0, .float .f32 0, .float .f32 0, .float .f32 0], .bool false]) (by simp [results, Try.results26, go_sem]) rfl ⟨rfl, by (repeat (first | exact Below.refl _ _ | refine ext_below ?_ (by first | omega | (simp only [size_ext, heap_push, Array.size_push, World.heap_drewN]; omega) | (simp; omega)) _ _ | refine below_draws ?_ _ | refine Below.alloc ?_ (by first | omega | (simp; done) | (simp; omega)) _ | refine Below.setCell ?_ (by first | omega | (simp; done) | (simp; omega)) _ | refine below_then (by assumption) (by first | omega | (simp; done) | (simp; omega)) ?_))⟩
  · by_cases h4 : s = 4
    · subst h4
      cases hf : feq (cl .f32 v) (cl .f32 0)
      · go_enter Try.func26, Try.ntmps26
        go_wp2_with (go_at_call 51; refine (c_implValidDrive p 4 v q u _).mono ?_; rintro e w' ⟨rfl, hbw⟩; obtain ⟨xo, xn, rfl⟩ := below_ext hbw; clear hbw; go_simp)
        exact bodyPost_ret (v := .tuple #[.agg #[.float .f32 p.i, .float .f32 p.d, .float .f32 p.r, .float .f32 p.l, .float .f32 p.m, .float .f32 p.s, .float .f32 p.c, .float .f32 p.e, .int .i64 3, .float .f32 v, .float .f32 q, .float .f32 u], .bool true]) (by simp [results, Try.results26, go_sem]) rfl ⟨by simp [tell, relS, hf], by (repeat (first | exact Below.refl _ _ | refine ext_below ?_ (by first | omega | (simp only [size_ext, heap_push, Array.size_push, World.heap_drewN]; omega) | (simp; omega)) _ _ | refine below_draws ?_ _ | refine Below.alloc ?_ (by first | omega | (simp; done) | (simp; omega)) _ | refine Below.setCell ?_ (by first | omega | (simp; done) | (simp; omega)) _ | refine below_then (by assumption) (by first | omega | (simp; done) | (simp; omega)) ?_))⟩
      · go_enter Try.func26, Try.ntmps26
        go_wp2_with (go_at_call 51; refine (c_implValidDrive p 4 v q u _).mono ?_; rintro e w' ⟨rfl, hbw⟩; obtain ⟨xo, xn, rfl⟩ := below_ext hbw; clear hbw; go_simp)
        exact bodyPost_ret (v := .tuple #[.agg #[.float .f32 p.i, .float .f32 p.d, .float .f32 p.r, .float .f32 p.l, .float .f32 p.m, .float .f32 p.s, .float .f32 p.c, .float .f32 p.e, .int .i64 0, .float .f32 v, .float .f32 q, .float .f32 u], .bool true]) (by simp [results, Try.results26, go_sem]) rfl ⟨by simp [tell, relS, hf], by (repeat (first | exact Below.refl _ _ | refine ext_below ?_ (by first | omega | (simp only [size_ext, heap_push, Array.size_push, World.heap_drewN]; omega) | (simp; omega)) _ _ | refine below_draws ?_ _ | refine Below.alloc ?_ (by first | omega | (simp; done) | (simp; omega)) _ | refine Below.setCell ?_ (by first | omega | (simp; done) | (simp; omega)) _ | refine below_then (by assumption) (by first | omega | (simp; done) | (simp; omega)) ?_))⟩
    · have h4' : (s == 4) = false := by simp [h4]
      go_enter Try.func26, Try.ntmps26
      go_wp2_with (go_at_call 51; refine (c_implValidDrive p s v q u _).mono ?_; rintro e w' ⟨rfl, hbw⟩; obtain ⟨xo, xn, rfl⟩ := below_ext hbw; clear hbw; go_simp)
      exact bodyPost_ret (v := .tuple #[.agg #[.float .f32 p.i, .float .f32 p.d, .float .f32 p.r, .float .f32 p.l, .float .f32 p.m, .float .f32 p.s, .float .f32 p.c, .float .f32 p.e, .int .i64 s, .float .f32 v, .float .f32 q, .float .f32 u], .bool true]) (by simp [results, Try.results26, go_sem]) rfl ⟨by simp [tell, relS, h4], by (repeat (first | exact Below.refl _ _ | refine ext_below ?_ (by first | omega | (simp only [size_ext, heap_push, Array.size_push, World.heap_drewN]; omega) | (simp; omega)) _ _ | refine below_draws ?_ _ | refine Below.alloc ?_ (by first | omega | (simp; done) | (simp; omega)) _ | refine Below.setCell ?_ (by first | omega | (simp; done) | (simp; omega)) _ | refine below_then (by assumption) (by first | omega | (simp; done) | (simp; omega)) ?_))⟩

theorem vDrive_new (p : Pl) : vDrive p 0 0 1065353216 0 = vPlant p := by
  have h1 : within 0 0 4 = true := by decide
  have h2 : least (cl .f32 0) = true := by decide +kernel
  have h3 : fromTo (cl .f32 1065353216) (cl .f32 0) (cl .f32 1065353216) = true := by decide +kernel
  have h4 : fin (cl .f32 0) = true := by decide +kernel
  simp [vDrive, h1, h2, h3, h4]

theorem c_specNewDrive (p : Pl) (w : World) : Calls Try.prog 13 #[.agg #[.float .f32 p.i, .float .f32 p.d, .float .f32 p.r, .float .f32 p.l, .float .f32 p.m, .float .f32 p.s, .float .f32 p.c, .float .f32 p.e]] w fun e w' => e = .returned (tell (vPlant p) p 0 0 1065353216 0) ∧ Below w.heap.size w w' := by
  cases hv : vPlant p
  all_goals
    go_enter Try.func13, Try.ntmps13
    go_wp2_with (go_at_call 44; refine (c_l05Plant p _ _ _ (by unfold PlAt; simp)).mono ?_; rintro e w' ⟨rfl, nq, rfl⟩)
  · exact bodyPost_ret (v := .tuple #[.agg #[.float .f32 0, .float .f32 0, .float .f32 0, .float .f32 0, .float .f32 0, .float .f32 0, .float .f32 0, .float .f32 0, .int .i64 0, .float .f32 0, .float .f32 0, .float .f32 0], .bool false]) (by simp [results, Try.results13, go_sem]) rfl ⟨rfl, by (repeat (first | exact Below.refl _ _ | refine ext_below ?_ (by first | omega | (simp only [size_ext, heap_push, Array.size_push, World.heap_drewN]; omega) | (simp; omega)) _ _ | refine below_draws ?_ _ | refine Below.alloc ?_ (by first | omega | (simp; done) | (simp; omega)) _ | refine Below.setCell ?_ (by first | omega | (simp; done) | (simp; omega)) _ | refine below_then (by assumption) (by first | omega | (simp; done) | (simp; omega)) ?_))⟩
  · exact bodyPost_ret (v := .tuple #[.agg #[.float .f32 p.i, .float .f32 p.d, .float .f32 p.r, .float .f32 p.l, .float .f32 p.m, .float .f32 p.s, .float .f32 p.c, .float .f32 p.e, .int .i64 0, .float .f32 0, .float .f32 1065353216, .float .f32 0], .bool true]) (by simp [results, Try.results13, go_sem]) rfl ⟨rfl, by (repeat (first | exact Below.refl _ _ | refine ext_below ?_ (by first | omega | (simp only [size_ext, heap_push, Array.size_push, World.heap_drewN]; omega) | (simp; omega)) _ _ | refine below_draws ?_ _ | refine Below.alloc ?_ (by first | omega | (simp; done) | (simp; omega)) _ | refine Below.setCell ?_ (by first | omega | (simp; done) | (simp; omega)) _ | refine below_then (by assumption) (by first | omega | (simp; done) | (simp; omega)) ?_))⟩

theorem c_checkedDrive (p : Pl) (s : Int) (v q u : Nat) (w : World) : Calls Try.prog 45 #[.agg #[.float .f32 p.i, .float .f32 p.d, .float .f32 p.r, .float .f32 p.l, .float .f32 p.m, .float .f32 p.s, .float .f32 p.c, .float .f32 p.e, .int .i64 s, .float .f32 v, .float .f32 q, .float .f32 u]] w fun e w' => e = .returned (tell (vDrive p s v q u) p s v q u) ∧ Below w.heap.size w w' := by
  cases hv : vDrive p s v q u
  all_goals
    go_enter Try.func45, Try.ntmps45
    go_wp2_with (go_at_call 51; refine (c_implValidDrive p s v q u _).mono ?_; rintro e w' ⟨rfl, hbw⟩; obtain ⟨xo, xn, rfl⟩ := below_ext hbw; clear hbw; go_simp)
  · exact bodyPost_ret (v := .tuple #[.agg #[.float .f32 0, .float .f32 0, .float .f32 0, .float .f32 0, .float .f32 0, .float .f32 0, .float .f32 0, .float .f32 0, .int .i64 0, .float .f32 0, .float .f32 0, .float .f32 0], .bool false]) (by simp [results, Try.results45, go_sem]) rfl ⟨rfl, by (repeat (first | exact Below.refl _ _ | refine ext_below ?_ (by first | omega | (simp only [size_ext, heap_push, Array.size_push, World.heap_drewN]; omega) | (simp; omega)) _ _ | refine below_draws ?_ _ | refine Below.alloc ?_ (by first | omega | (simp; done) | (simp; omega)) _ | refine Below.setCell ?_ (by first | omega | (simp; done) | (simp; omega)) _ | refine below_then (by assumption) (by first | omega | (simp; done) | (simp; omega)) ?_))⟩
  · exact bodyPost_ret (v := .tuple #[.agg #[.float .f32 p.i, .float .f32 p.d, .float .f32 p.r, .float .f32 p.l, .float .f32 p.m, .float .f32 p.s, .float .f32 p.c, .float .f32 p.e, .int .i64 s, .float .f32 v, .float .f32 q, .float .f32 u], .bool true]) (by simp [results, Try.results45, go_sem]) rfl ⟨rfl, by (repeat (first | exact Below.refl _ _ | refine ext_below ?_ (by first | omega | (simp only [size_ext, heap_push, Array.size_push, World.heap_drewN]; omega) | (simp; omega)) _ _ | refine below_draws ?_ _ | refine Below.alloc ?_ (by first | omega | (simp; done) | (simp; omega)) _ | refine Below.setCell ?_ (by first | omega | (simp; done) | (simp; omega)) _ | refine below_then (by assumption) (by first | omega | (simp; done) | (simp; omega)) ?_))⟩

theorem c_implNewDrive (p : Pl) (w : World) : Calls Try.prog 15 #[.agg #[.float .f32 p.i, .float .f32 p.d, .float .f32 p.r, .float .f32 p.l, .float .f32 p.m, .float .f32 p.s, .float .f32 p.c, .float .f32 p.e]] w fun e w' => e = .returned (tell (vPlant p) p 0 0 1065353216 0) ∧ Below w.heap.size w w' := by
  have hn := vDrive_new p
  cases hv : vPlant p
  all_goals
    rw [hv] at hn
    have HN := Lib.hid hn
    clear hn
    go_enter Try.func15, Try.ntmps15
    go_wp2_with fail
    refine (c_checkedDrive p 0 0 1065353216 0 _).mono ?_
    rintro e w' ⟨rfl, hbw⟩
    obtain ⟨xo, xn, rfl⟩ := below_ext hbw
    clear hbw
    rw [HN.out]
    simp only [tell, if_true, if_false, Bool.false_eq_true]
    go_wp2_with fail
  · exact bodyPost_ret (v := .tuple #[.agg #[.float .f32 0, .float .f32 0, .float .f32 0, .float .f32 0, .float .f32 0, .float .f32 0, .float .f32 0, .float .f32 0, .int .i64 0, .float .f32 0, .float .f32 0, .float .f32 0], .bool false]) (by simp [results, Try.results15, go_sem]) rfl ⟨rfl, by (repeat (first | exact Below.refl _ _ | refine ext_below ?_ (by first | omega | (simp only [size_ext, heap_push, Array.size_push, World.heap_drewN]; omega) | (simp; omega)) _ _ | refine below_draws ?_ _ | refine Below.alloc ?_ (by first | omega | (simp; done) | (simp; omega)) _ | refine Below.setCell ?_ (by first | omega | (simp; done) | (simp; omega)) _ | refine below_then (by assumption) (by first | omega | (simp; done) | (simp; omega)) ?_))⟩
  · exact bodyPost_ret (v := .tuple #[.agg #[.float .f32 p.i, .float .f32 p.d, .float .f32 p.r, .float .f32 p.l, .float .f32 p.m, .float .f32 p.s, .float .f32 p.c, .float .f32 p.e, .int .i64 0, .float .f32 0, .float .f32 1065353216, .float .f32 0], .bool true]) (by simp [results, Try.results15, go_sem]) rfl ⟨rfl, by (repeat (first | exact Below.refl _ _ | refine ext_below ?_ (by first | omega | (simp only [size_ext, heap_push, Array.size_push, World.heap_drewN]; omega) | (simp; omega)) _ _ | refine below_draws ?_ _ | refine Below.alloc ?_ (by first | omega | (simp; done) | (simp; omega)) _ | refine Below.setCell ?_ (by first | omega | (simp; done) | (simp; omega)) _ | refine below_then (by assumption) (by first | omega | (simp; done) | (simp; omega)) ?_))⟩

end Go.Proofs.Yticncnohoddbgaa
