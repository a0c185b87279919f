/-
  CONTRACTS: the state that comes.
-/
import Derived.BigQuiet
import Derived.Deep.QuietTactic
import Derived.Test.YticncnohoddbgaaDrive
import Derived.Test.YticncnohoddbgaaSameF
namespace Go.Proofs.Yticncnohoddbgaa
open Go.RowKit Go.Flt
set_option linter.unusedVariables false
set_option maxRecDepth 100000
set_option linter.unusedSimpArgs false

def nxt (p : Pl) (s : Int) (v w : Nat) : Int :=
  if s = 0 then if (flt (cl .f32 p.s) (cl .f32 w) || feq (cl .f32 w) (cl .f32 p.s)) && flt (cl .f32 w) (cl .f32 p.c) then 1 else 0
  else if s = 1 then if (flt (cl .f32 p.c) (cl .f32 w) || feq (cl .f32 w) (cl .f32 p.c)) then 3 else if (flt (cl .f32 p.l) (cl .f32 v) || feq (cl .f32 v) (cl .f32 p.l)) then 2 else 1
  else if s = 2 then if (flt (cl .f32 p.c) (cl .f32 w) || feq (cl .f32 w) (cl .f32 p.c)) || flt (cl .f32 v) (fop .mul .f32 (cl .f32 1056964608) (cl .f32 p.l)) then 3 else 2
  else if s = 3 then if (flt (cl .f32 v) (cl .f32 1008981770) || feq (cl .f32 v) (cl .f32 1008981770)) then 0 else 3
  else s

set_option maxHeartbeats 1000000 in
theorem c_l05Next_0 (p : Pl) (v q u x : Nat) (b off : Nat) (w : World) (hd : DrAt w b off p 0 v q u) :
    Calls Try.prog 56 #[.pointer (some ⟨b, off, none⟩), .float .f32 x] w fun e w' => e = .returned (.int .i64 (nxt p 0 v x)) ∧ ∃ n, w' = w.drewN n := by
  obtain ⟨⟨h0, h1, h2, h3, h4, h5, h6, h7⟩, h8, h9, h10, h11⟩ := hd
  cases A : (flt (cl .f32 p.s) (cl .f32 x) || feq (cl .f32 x) (cl .f32 p.s))
  · go_enter Try.func56, Try.ntmps56
    go_wp2_with (refine upon_fbin rfl _ _ _ _ ?_; intro z n hz hzw)
    go_ret
    exact ⟨by simp [nxt, A], by (first | exact ⟨_, rfl⟩ | exact ⟨0, rfl⟩ | exact ⟨_, World.drewN_drewN _ _ _⟩ | (simp only [World.drewN_drewN]; exact ⟨_, rfl⟩))⟩
  · cases B : flt (cl .f32 x) (cl .f32 p.c)
    · go_enter Try.func56, Try.ntmps56
      go_wp2_with (refine upon_fbin rfl _ _ _ _ ?_; intro z n hz hzw)
      go_ret
      exact ⟨by simp [nxt, A, B], by (first | exact ⟨_, rfl⟩ | exact ⟨0, rfl⟩ | exact ⟨_, World.drewN_drewN _ _ _⟩ | (simp only [World.drewN_drewN]; exact ⟨_, rfl⟩))⟩
    · go_enter Try.func56, Try.ntmps56
      go_wp2_with (refine upon_fbin rfl _ _ _ _ ?_; intro z n hz hzw)
      go_ret
      exact ⟨by simp [nxt, A, B], by (first | exact ⟨_, rfl⟩ | exact ⟨0, rfl⟩ | exact ⟨_, World.drewN_drewN _ _ _⟩ | (simp only [World.drewN_drewN]; exact ⟨_, rfl⟩))⟩

set_option maxHeartbeats 1000000 in
theorem c_l05Next_1 (p : Pl) (v q u x : Nat) (b off : Nat) (w : World) (hd : DrAt w b off p 1 v q u) :
    Calls Try.prog 56 #[.pointer (some ⟨b, off, none⟩), .float .f32 x] w fun e w' => e = .returned (.int .i64 (nxt p 1 v x)) ∧ ∃ n, w' = w.drewN n := by
  obtain ⟨⟨h0, h1, h2, h3, h4, h5, h6, h7⟩, h8, h9, h10, h11⟩ := hd
  cases A : (flt (cl .f32 p.c) (cl .f32 x) || feq (cl .f32 x) (cl .f32 p.c))
  · cases B : (flt (cl .f32 p.l) (cl .f32 v) || feq (cl .f32 v) (cl .f32 p.l))
    · go_enter Try.func56, Try.ntmps56
      go_wp2_with (refine upon_fbin rfl _ _ _ _ ?_; intro z n hz hzw)
      try simp only [List.append_eq, List.cons_append, List.nil_append]
      refine wp_region_drawnC (by kernel_rfl) (by kernel_rfl) ?_
      repeat (first | (refine wpFree_skip rfl ?_; try go_simp) | (refine wpFree_want rfl (fun K hK => ?_); first | (refine free_fbin drawn_draw rfl rfl _ _ _ rfl rfl ?_; intro z hz hzw; go_simp; refine hK _ ?_; clear hK K) | (intro wq hq; obtain ⟨hqc, hqf, hqh⟩ := drawn_cells hq; go_simp; first | (refine hK _ ?_; clear hK K; try clear hqc hqf; try clear hqh; try clear hq; try clear wq) | fail)))
      refine wpFree_nil ?_
      intro wq hq
      obtain ⟨nq, rfl⟩ := hq
      go_wp2_with fail
      go_ret
      exact ⟨by simp [nxt, A, B], by (first | exact ⟨_, rfl⟩ | exact ⟨0, rfl⟩ | exact ⟨_, World.drewN_drewN _ _ _⟩ | (simp only [World.drewN_drewN]; exact ⟨_, rfl⟩))⟩
    · go_enter Try.func56, Try.ntmps56
      go_wp2_with (refine upon_fbin rfl _ _ _ _ ?_; intro z n hz hzw)
      try simp only [List.append_eq, List.cons_append, List.nil_append]
      refine wp_region_drawnC (by kernel_rfl) (by kernel_rfl) ?_
      repeat (first | (refine wpFree_skip rfl ?_; try go_simp) | (refine wpFree_want rfl (fun K hK => ?_); first | (refine free_fbin drawn_draw rfl rfl _ _ _ rfl rfl ?_; intro z hz hzw; go_simp; refine hK _ ?_; clear hK K) | (intro wq hq; obtain ⟨hqc, hqf, hqh⟩ := drawn_cells hq; go_simp; first | (refine hK _ ?_; clear hK K; try clear hqc hqf; try clear hqh; try clear hq; try clear wq) | fail)))
      refine wpFree_nil ?_
      intro wq hq
      obtain ⟨nq, rfl⟩ := hq
      go_wp2_with fail
      go_ret
      exact ⟨by simp [nxt, A, B], by (first | exact ⟨_, rfl⟩ | exact ⟨0, rfl⟩ | exact ⟨_, World.drewN_drewN _ _ _⟩ | (simp only [World.drewN_drewN]; exact ⟨_, rfl⟩))⟩
  · go_enter Try.func56, Try.ntmps56
    go_wp2_with (refine upon_fbin rfl _ _ _ _ ?_; intro z n hz hzw)
    go_ret
    exact ⟨by simp [nxt, A], by (first | exact ⟨_, rfl⟩ | exact ⟨0, rfl⟩ | exact ⟨_, World.drewN_drewN _ _ _⟩ | (simp only [World.drewN_drewN]; exact ⟨_, rfl⟩))⟩

set_option maxHeartbeats 1000000 in
theorem c_l05Next_2 (p : Pl) (v q u x : Nat) (b off : Nat) (w : World) (hd : DrAt w b off p 2 v q u) :
    Calls Try.prog 56 #[.pointer (some ⟨b, off, none⟩), .float .f32 x] w fun e w' => e = .returned (.int .i64 (nxt p 2 v x)) ∧ ∃ n, w' = w.drewN n := by
  obtain ⟨⟨h0, h1, h2, h3, h4, h5, h6, h7⟩, h8, h9, h10, h11⟩ := hd
  cases A1 : flt (cl .f32 p.c) (cl .f32 x)
  · cases A2 : feq (cl .f32 x) (cl .f32 p.c)
    · cases B : flt (cl .f32 v) (fop .mul .f32 (cl .f32 1056964608) (cl .f32 p.l))
      · go_enter Try.func56, Try.ntmps56
        go_wp2_with (refine upon_fbin rfl _ _ _ _ ?_; intro z n hz hzw)
        try simp only [List.append_eq, List.cons_append, List.nil_append]
        refine wp_region_drawnC (by kernel_rfl) (by kernel_rfl) ?_
        repeat (first | (refine wpFree_skip rfl ?_; try go_simp) | (refine wpFree_want rfl (fun K hK => ?_); first | (refine free_fbin drawn_draw rfl rfl _ _ _ rfl rfl ?_; intro z hz hzw; go_simp; refine hK _ ?_; clear hK K) | (intro wq hq; obtain ⟨hqc, hqf, hqh⟩ := drawn_cells hq; go_simp; first | (refine hK _ ?_; clear hK K; try clear hqc hqf; try clear hqh; try clear hq; try clear wq) | fail)))
        refine wpFree_nil ?_
        intro wq hq
        obtain ⟨nq, rfl⟩ := hq
        go_wp2_with fail
        go_ret
        exact ⟨by simp [nxt, A1, A2, B], by (first | exact ⟨_, rfl⟩ | exact ⟨0, rfl⟩ | exact ⟨_, World.drewN_drewN _ _ _⟩ | (simp only [World.drewN_drewN]; exact ⟨_, rfl⟩))⟩
      · go_enter Try.func56, Try.ntmps56
        go_wp2_with (refine upon_fbin rfl _ _ _ _ ?_; intro z n hz hzw)
        try simp only [List.append_eq, List.cons_append, List.nil_append]
        refine wp_region_drawnC (by kernel_rfl) (by kernel_rfl) ?_
        repeat (first | (refine wpFree_skip rfl ?_; try go_simp) | (refine wpFree_want rfl (fun K hK => ?_); first | (refine free_fbin drawn_draw rfl rfl _ _ _ rfl rfl ?_; intro z hz hzw; go_simp; refine hK _ ?_; clear hK K) | (intro wq hq; obtain ⟨hqc, hqf, hqh⟩ := drawn_cells hq; go_simp; first | (refine hK _ ?_; clear hK K; try clear hqc hqf; try clear hqh; try clear hq; try clear wq) | fail)))
        refine wpFree_nil ?_
        intro wq hq
        obtain ⟨nq, rfl⟩ := hq
        go_wp2_with fail
        go_ret
        exact ⟨by simp [nxt, A1, A2, B], by (first | exact ⟨_, rfl⟩ | exact ⟨0, rfl⟩ | exact ⟨_, World.drewN_drewN _ _ _⟩ | (simp only [World.drewN_drewN]; exact ⟨_, rfl⟩))⟩
    · go_enter Try.func56, Try.ntmps56
      go_wp2_with (refine upon_fbin rfl _ _ _ _ ?_; intro z n hz hzw)
      try simp only [List.append_eq, List.cons_append, List.nil_append]
      refine wp_region_quiet_lit (by kernel_rfl) (by kernel_rfl) ?_
      repeat (go_big_quiet_step (fail))
      refine wpQuiet_nil ?_
      intro _ hw'
      obtain ⟨nq, hw''⟩ := hw'
      subst hw''
      go_wp2_with fail
      go_ret
      exact ⟨by simp [nxt, A1, A2], by (first | exact ⟨_, rfl⟩ | exact ⟨0, rfl⟩ | exact ⟨_, World.drewN_drewN _ _ _⟩ | (simp only [World.drewN_drewN]; exact ⟨_, rfl⟩))⟩
  · go_enter Try.func56, Try.ntmps56
    go_wp2_with (refine upon_fbin rfl _ _ _ _ ?_; intro z n hz hzw)
    try simp only [List.append_eq, List.cons_append, List.nil_append]
    refine wp_region_quiet_lit (by kernel_rfl) (by kernel_rfl) ?_
    repeat (go_big_quiet_step (fail))
    refine wpQuiet_nil ?_
    intro _ hw'
    obtain ⟨nq, hw''⟩ := hw'
    subst hw''
    go_wp2_with fail
    go_ret
    exact ⟨by simp [nxt, A1], by (first | exact ⟨_, rfl⟩ | exact ⟨0, rfl⟩ | exact ⟨_, World.drewN_drewN _ _ _⟩ | (simp only [World.drewN_drewN]; exact ⟨_, rfl⟩))⟩

set_option maxHeartbeats 1000000 in
theorem c_l05Next_3 (p : Pl) (v q u x : Nat) (b off : Nat) (w : World) (hd : DrAt w b off p 3 v q u) :
    Calls Try.prog 56 #[.pointer (some ⟨b, off, none⟩), .float .f32 x] w fun e w' => e = .returned (.int .i64 (nxt p 3 v x)) ∧ ∃ n, w' = w.drewN n := by
  obtain ⟨⟨h0, h1, h2, h3, h4, h5, h6, h7⟩, h8, h9, h10, h11⟩ := hd
  cases A : (flt (cl .f32 v) (cl .f32 1008981770) || feq (cl .f32 v) (cl .f32 1008981770))
  · go_enter Try.func56, Try.ntmps56
    go_wp2_with (refine upon_fbin rfl _ _ _ _ ?_; intro z n hz hzw)
    go_ret
    exact ⟨by simp [nxt, A], by (first | exact ⟨_, rfl⟩ | exact ⟨0, rfl⟩ | exact ⟨_, World.drewN_drewN _ _ _⟩ | (simp only [World.drewN_drewN]; exact ⟨_, rfl⟩))⟩
  · go_enter Try.func56, Try.ntmps56
    go_wp2_with (refine upon_fbin rfl _ _ _ _ ?_; intro z n hz hzw)
    go_ret
    exact ⟨by simp [nxt, A], by (first | exact ⟨_, rfl⟩ | exact ⟨0, rfl⟩ | exact ⟨_, World.drewN_drewN _ _ _⟩ | (simp only [World.drewN_drewN]; exact ⟨_, rfl⟩))⟩

set_option maxHeartbeats 1000000 in
theorem c_l05Next (p : Pl) (s : Int) (v q u x : Nat) (b off : Nat) (w : World) (hd : DrAt w b off p s v q u) :
    Calls Try.prog 56 #[.pointer (some ⟨b, off, none⟩), .float .f32 x] w fun e w' => e = .returned (.int .i64 (nxt p s v x)) ∧ ∃ n, w' = w.drewN n := by
  by_cases e0 : s = 0
  · subst e0; exact c_l05Next_0 p v q u x b off w hd
  by_cases e1 : s = 1
  · subst e1; exact c_l05Next_1 p v q u x b off w hd
  by_cases e2 : s = 2
  · subst e2; exact c_l05Next_2 p v q u x b off w hd
  by_cases e3 : s = 3
  · subst e3; exact c_l05Next_3 p v q u x b off w hd
  obtain ⟨⟨h0, h1, h2, h3, h4, h5, h6, h7⟩, h8, h9, h10, h11⟩ := hd
  have f0 : (s == 0) = false := by simp [e0]
  have f1 : (s == 1) = false := by simp [e1]
  have f2 : (s == 2) = false := by simp [e2]
  have f3 : (s == 3) = false := by simp [e3]
  go_enter Try.func56, Try.ntmps56
  go_wp2_with fail
  go_ret
  exact ⟨by simp [nxt, *], by (first | exact ⟨_, rfl⟩ | exact ⟨0, rfl⟩ | exact ⟨_, World.drewN_drewN _ _ _⟩ | (simp only [World.drewN_drewN]; exact ⟨_, rfl⟩))⟩

set_option maxHeartbeats 1000000 in
theorem c_nextState_0 (p : Pl) (v q u x : Nat) (w : World) :
    Calls Try.prog 58 #[.agg #[.float .f32 p.i, .float .f32 p.d, .float .f32 p.r, .float .f32 p.l, .float .f32 p.m, .float .f32 p.s, .float .f32 p.c, .float .f32 p.e, .int .i64 0, .float .f32 v, .float .f32 q, .float .f32 u], .float .f32 x] w fun e w' => e = .returned (.int .i64 (nxt p 0 v x)) ∧ Below w.heap.size w w'  := by
  cases A : (flt (cl .f32 p.s) (cl .f32 x) || feq (cl .f32 x) (cl .f32 p.s))
  · go_enter Try.func58, Try.ntmps58
    go_wp2_with (refine upon_fbin rfl _ _ _ _ ?_; intro z n hz hzw)
    go_ret
    exact ⟨by simp [nxt, A], by (repeat (first | exact Below.refl _ _ | refine ext_below ?_ (by first | omega | (simp only [size_ext, heap_push, Array.size_push, World.heap_drewN]; omega) | (simp; omega)) _ _ | refine below_draws ?_ _ | refine Below.alloc ?_ (by first | omega | (simp; done) | (simp; omega)) _ | refine Below.setCell ?_ (by first | omega | (simp; done) | (simp; omega)) _ | refine below_then (by assumption) (by first | omega | (simp; done) | (simp; omega)) ?_))⟩
  · cases B : flt (cl .f32 x) (cl .f32 p.c)
    · go_enter Try.func58, Try.ntmps58
      go_wp2_with (refine upon_fbin rfl _ _ _ _ ?_; intro z n hz hzw)
      go_ret
      exact ⟨by simp [nxt, A, B], by (repeat (first | exact Below.refl _ _ | refine ext_below ?_ (by first | omega | (simp only [size_ext, heap_push, Array.size_push, World.heap_drewN]; omega) | (simp; omega)) _ _ | refine below_draws ?_ _ | refine Below.alloc ?_ (by first | omega | (simp; done) | (simp; omega)) _ | refine Below.setCell ?_ (by first | omega | (simp; done) | (simp; omega)) _ | refine below_then (by assumption) (by first | omega | (simp; done) | (simp; omega)) ?_))⟩
    · go_enter Try.func58, Try.ntmps58
      go_wp2_with (refine upon_fbin rfl _ _ _ _ ?_; intro z n hz hzw)
      go_ret
      exact ⟨by simp [nxt, A, B], by (repeat (first | exact Below.refl _ _ | refine ext_below ?_ (by first | omega | (simp only [size_ext, heap_push, Array.size_push, World.heap_drewN]; omega) | (simp; omega)) _ _ | refine below_draws ?_ _ | refine Below.alloc ?_ (by first | omega | (simp; done) | (simp; omega)) _ | refine Below.setCell ?_ (by first | omega | (simp; done) | (simp; omega)) _ | refine below_then (by assumption) (by first | omega | (simp; done) | (simp; omega)) ?_))⟩

set_option maxHeartbeats 1000000 in
theorem c_nextState_1 (p : Pl) (v q u x : Nat) (w : World) :
    Calls Try.prog 58 #[.agg #[.float .f32 p.i, .float .f32 p.d, .float .f32 p.r, .float .f32 p.l, .float .f32 p.m, .float .f32 p.s, .float .f32 p.c, .float .f32 p.e, .int .i64 1, .float .f32 v, .float .f32 q, .float .f32 u], .float .f32 x] w fun e w' => e = .returned (.int .i64 (nxt p 1 v x)) ∧ Below w.heap.size w w'  := by
  cases A : (flt (cl .f32 p.c) (cl .f32 x) || feq (cl .f32 x) (cl .f32 p.c))
  · cases B : (flt (cl .f32 p.l) (cl .f32 v) || feq (cl .f32 v) (cl .f32 p.l))
    · go_enter Try.func58, Try.ntmps58
      go_wp2_with (refine upon_fbin rfl _ _ _ _ ?_; intro z n hz hzw)
      go_ret
      exact ⟨by simp [nxt, A, B], by (repeat (first | exact Below.refl _ _ | refine ext_below ?_ (by first | omega | (simp only [size_ext, heap_push, Array.size_push, World.heap_drewN]; omega) | (simp; omega)) _ _ | refine below_draws ?_ _ | refine Below.alloc ?_ (by first | omega | (simp; done) | (simp; omega)) _ | refine Below.setCell ?_ (by first | omega | (simp; done) | (simp; omega)) _ | refine below_then (by assumption) (by first | omega | (simp; done) | (simp; omega)) ?_))⟩
    · go_enter Try.func58, Try.ntmps58
      go_wp2_with (refine upon_fbin rfl _ _ _ _ ?_; intro z n hz hzw)
      go_ret
      exact ⟨by simp [nxt, A, B], by (repeat (first | exact Below.refl _ _ | refine ext_below ?_ (by first | omega | (simp only [size_ext, heap_push, Array.size_push, World.heap_drewN]; omega) | (simp; omega)) _ _ | refine below_draws ?_ _ | refine Below.alloc ?_ (by first | omega | (simp; done) | (simp; omega)) _ | refine Below.setCell ?_ (by first | omega | (simp; done) | (simp; omega)) _ | refine below_then (by assumption) (by first | omega | (simp; done) | (simp; omega)) ?_))⟩
  · go_enter Try.func58, Try.ntmps58
    go_wp2_with (refine upon_fbin rfl _ _ _ _ ?_; intro z n hz hzw)
    go_ret
    exact ⟨by simp [nxt, A], by (repeat (first | exact Below.refl _ _ | refine ext_below ?_ (by first | omega | (simp only [size_ext, heap_push, Array.size_push, World.heap_drewN]; omega) | (simp; omega)) _ _ | refine below_draws ?_ _ | refine Below.alloc ?_ (by first | omega | (simp; done) | (simp; omega)) _ | refine Below.setCell ?_ (by first | omega | (simp; done) | (simp; omega)) _ | refine below_then (by assumption) (by first | omega | (simp; done) | (simp; omega)) ?_))⟩

set_option maxHeartbeats 1000000 in
theorem c_nextState_2 (p : Pl) (v q u x : Nat) (w : World) :
    Calls Try.prog 58 #[.agg #[.float .f32 p.i, .float .f32 p.d, .float .f32 p.r, .float .f32 p.l, .float .f32 p.m, .float .f32 p.s, .float .f32 p.c, .float .f32 p.e, .int .i64 2, .float .f32 v, .float .f32 q, .float .f32 u], .float .f32 x] w fun e w' => e = .returned (.int .i64 (nxt p 2 v x)) ∧ Below w.heap.size w w'  := by
  cases A : (flt (cl .f32 p.c) (cl .f32 x) || feq (cl .f32 x) (cl .f32 p.c))
  · cases B : flt (cl .f32 v) (fop .mul .f32 (cl .f32 1056964608) (cl .f32 p.l))
    · go_enter Try.func58, Try.ntmps58
      go_wp2_with (refine upon_fbin rfl _ _ _ _ ?_; intro z n hz hzw)
      go_ret
      exact ⟨by simp [nxt, A, B], by (repeat (first | exact Below.refl _ _ | refine ext_below ?_ (by first | omega | (simp only [size_ext, heap_push, Array.size_push, World.heap_drewN]; omega) | (simp; omega)) _ _ | refine below_draws ?_ _ | refine Below.alloc ?_ (by first | omega | (simp; done) | (simp; omega)) _ | refine Below.setCell ?_ (by first | omega | (simp; done) | (simp; omega)) _ | refine below_then (by assumption) (by first | omega | (simp; done) | (simp; omega)) ?_))⟩
    · go_enter Try.func58, Try.ntmps58
      go_wp2_with (refine upon_fbin rfl _ _ _ _ ?_; intro z n hz hzw)
      go_ret
      exact ⟨by simp [nxt, A, B], by (repeat (first | exact Below.refl _ _ | refine ext_below ?_ (by first | omega | (simp only [size_ext, heap_push, Array.size_push, World.heap_drewN]; omega) | (simp; omega)) _ _ | refine below_draws ?_ _ | refine Below.alloc ?_ (by first | omega | (simp; done) | (simp; omega)) _ | refine Below.setCell ?_ (by first | omega | (simp; done) | (simp; omega)) _ | refine below_then (by assumption) (by first | omega | (simp; done) | (simp; omega)) ?_))⟩
  · go_enter Try.func58, Try.ntmps58
    go_wp2_with (refine upon_fbin rfl _ _ _ _ ?_; intro z n hz hzw)
    go_ret
    exact ⟨by simp [nxt, A], by (repeat (first | exact Below.refl _ _ | refine ext_below ?_ (by first | omega | (simp only [size_ext, heap_push, Array.size_push, World.heap_drewN]; omega) | (simp; omega)) _ _ | refine below_draws ?_ _ | refine Below.alloc ?_ (by first | omega | (simp; done) | (simp; omega)) _ | refine Below.setCell ?_ (by first | omega | (simp; done) | (simp; omega)) _ | refine below_then (by assumption) (by first | omega | (simp; done) | (simp; omega)) ?_))⟩

set_option maxHeartbeats 1000000 in
theorem c_nextState_3 (p : Pl) (v q u x : Nat) (w : World) :
    Calls Try.prog 58 #[.agg #[.float .f32 p.i, .float .f32 p.d, .float .f32 p.r, .float .f32 p.l, .float .f32 p.m, .float .f32 p.s, .float .f32 p.c, .float .f32 p.e, .int .i64 3, .float .f32 v, .float .f32 q, .float .f32 u], .float .f32 x] w fun e w' => e = .returned (.int .i64 (nxt p 3 v x)) ∧ Below w.heap.size w w'  := by
  cases A : (flt (cl .f32 v) (cl .f32 1008981770) || feq (cl .f32 v) (cl .f32 1008981770))
  · go_enter Try.func58, Try.ntmps58
    go_wp2_with (refine upon_fbin rfl _ _ _ _ ?_; intro z n hz hzw)
    go_ret
    exact ⟨by simp [nxt, A], by (repeat (first | exact Below.refl _ _ | refine ext_below ?_ (by first | omega | (simp only [size_ext, heap_push, Array.size_push, World.heap_drewN]; omega) | (simp; omega)) _ _ | refine below_draws ?_ _ | refine Below.alloc ?_ (by first | omega | (simp; done) | (simp; omega)) _ | refine Below.setCell ?_ (by first | omega | (simp; done) | (simp; omega)) _ | refine below_then (by assumption) (by first | omega | (simp; done) | (simp; omega)) ?_))⟩
  · go_enter Try.func58, Try.ntmps58
    go_wp2_with (refine upon_fbin rfl _ _ _ _ ?_; intro z n hz hzw)
    go_ret
    exact ⟨by simp [nxt, A], by (repeat (first | exact Below.refl _ _ | refine ext_below ?_ (by first | omega | (simp only [size_ext, heap_push, Array.size_push, World.heap_drewN]; omega) | (simp; omega)) _ _ | refine below_draws ?_ _ | refine Below.alloc ?_ (by first | omega | (simp; done) | (simp; omega)) _ | refine Below.setCell ?_ (by first | omega | (simp; done) | (simp; omega)) _ | refine below_then (by assumption) (by first | omega | (simp; done) | (simp; omega)) ?_))⟩

set_option maxHeartbeats 1000000 in
theorem c_nextState (p : Pl) (s : Int) (v q u x : Nat) (w : World) :
    Calls Try.prog 58 #[.agg #[.float .f32 p.i, .float .f32 p.d, .float .f32 p.r, .float .f32 p.l, .float .f32 p.m, .float .f32 p.s, .float .f32 p.c, .float .f32 p.e, .int .i64 s, .float .f32 v, .float .f32 q, .float .f32 u], .float .f32 x] w fun e w' => e = .returned (.int .i64 (nxt p s v x)) ∧ Below w.heap.size w w'  := by
  by_cases e0 : s = 0
  · subst e0; exact c_nextState_0 p v q u x w
  by_cases e1 : s = 1
  · subst e1; exact c_nextState_1 p v q u x w
  by_cases e2 : s = 2
  · subst e2; exact c_nextState_2 p v q u x w
  by_cases e3 : s = 3
  · subst e3; exact c_nextState_3 p v q u x w
  have f0 : (s == 0) = false := by simp [e0]
  have f1 : (s == 1) = false := by simp [e1]
  have f2 : (s == 2) = false := by simp [e2]
  have f3 : (s == 3) = false := by simp [e3]
  go_enter Try.func58, Try.ntmps58
  go_wp2_with fail
  go_ret
  exact ⟨by simp [nxt, *], by (repeat (first | exact Below.refl _ _ | refine ext_below ?_ (by first | omega | (simp only [size_ext, heap_push, Array.size_push, World.heap_drewN]; omega) | (simp; omega)) _ _ | refine below_draws ?_ _ | refine Below.alloc ?_ (by first | omega | (simp; done) | (simp; omega)) _ | refine Below.setCell ?_ (by first | omega | (simp; done) | (simp; omega)) _ | refine below_then (by assumption) (by first | omega | (simp; done) | (simp; omega)) ?_))⟩

def nsv (p : Pl) (s : Int) (v q u x : Nat) : Int := if vDrive p s v q u && least (cl .f32 x) then nxt p s v x else 0

theorem c_specNextState (p : Pl) (s : Int) (v q u x : Nat) (w : World) : Calls Try.prog 21 #[.agg #[.float .f32 p.i, .float .f32 p.d, .float .f32 p.r, .float .f32 p.l, .float .f32 p.m, .float .f32 p.s, .float .f32 p.c, .float .f32 p.e, .int .i64 s, .float .f32 v, .float .f32 q, .float .f32 u], .float .f32 x] w fun e w' =>
    e = .returned (.tuple #[.int .i64 (nsv p s v q u x), .bool (vDrive p s v q u && least (cl .f32 x))]) ∧ Below w.heap.size w w' := by
  cases hv : vDrive p s v q u
  case' true => cases hl : least (cl .f32 x)
  all_goals
    go_enter Try.func21, Try.ntmps21
    go_wp2_with (first | (go_at_call 47; refine (c_l05Is p s v q u _ _ _ (by unfold DrAt PlAt; simp [*])).mono ?_; rintro e w' ⟨rfl, nq, rfl⟩) | (go_at_call 55; refine (c_l02Least _ _).mono ?_; rintro e w' ⟨rfl, nq, rfl⟩) | (go_at_call 56; refine (c_l05Next p s v q u x _ _ _ (by unfold DrAt PlAt; simp [*])).mono ?_; rintro e w' ⟨rfl, nq, rfl⟩))
    go_ret2
    exact ⟨by simp [nsv, *], by (repeat (first | exact Below.refl _ _ | refine ext_below ?_ (by first | omega | (simp only [size_ext, heap_push, Array.size_push, World.heap_drewN]; omega) | (simp; omega)) _ _ | refine below_draws ?_ _ | refine Below.alloc ?_ (by first | omega | (simp; done) | (simp; omega)) _ | refine Below.setCell ?_ (by first | omega | (simp; done) | (simp; omega)) _ | refine below_then (by assumption) (by first | omega | (simp; done) | (simp; omega)) ?_))⟩

theorem c_implNextState (p : Pl) (s : Int) (v q u x : Nat) (w : World) : Calls Try.prog 22 #[.agg #[.float .f32 p.i, .float .f32 p.d, .float .f32 p.r, .float .f32 p.l, .float .f32 p.m, .float .f32 p.s, .float .f32 p.c, .float .f32 p.e, .int .i64 s, .float .f32 v, .float .f32 q, .float .f32 u], .float .f32 x] w fun e w' =>
    e = .returned (.tuple #[.int .i64 (nsv p s v q u x), .bool (vDrive p s v q u && least (cl .f32 x))]) ∧ Below w.heap.size w w' := by
  cases hv : vDrive p s v q u
  case' true => cases hl : least (cl .f32 x)
  all_goals
    go_enter Try.func22, Try.ntmps22
    go_wp2_with (first | (go_at_call 51; refine (c_implValidDrive p s v q u _).mono ?_; rintro e w' ⟨rfl, hbw⟩; obtain ⟨xo, xn, rfl⟩ := below_ext hbw; clear hbw; go_simp) | (go_at_call 57; refine (c_isLeast _ _).mono ?_; rintro e w' ⟨rfl, nq, rfl⟩) | (go_at_call 58; refine (c_nextState p s v q u x _).mono ?_; rintro e w' ⟨rfl, hbw⟩; obtain ⟨xo, xn, rfl⟩ := below_ext hbw; clear hbw; go_simp))
    go_ret2
    exact ⟨by simp [nsv, *], by (repeat (first | exact Below.refl _ _ | refine ext_below ?_ (by first | omega | (simp only [size_ext, heap_push, Array.size_push, World.heap_drewN]; omega) | (simp; omega)) _ _ | refine below_draws ?_ _ | refine Below.alloc ?_ (by first | omega | (simp; done) | (simp; omega)) _ | refine Below.setCell ?_ (by first | omega | (simp; done) | (simp; omega)) _ | refine below_then (by assumption) (by first | omega | (simp; done) | (simp; omega)) ?_))⟩

theorem walk_NextState (p : Pl) (s : Int) (v q u x : Nat) (w : World) (_ : p.wf) (_ : (Lit.int .i64 s).wf = true) (_ : fits v) (_ : fits q) (_ : fits u) (_ : fits x) :
    Calls Try.prog 5 #[.agg #[.float .f32 p.i, .float .f32 p.d, .float .f32 p.r, .float .f32 p.l, .float .f32 p.m, .float .f32 p.s, .float .f32 p.c, .float .f32 p.e, .int .i64 s, .float .f32 v, .float .f32 q, .float .f32 u], .float .f32 x] w fun e w' => e = .returned (.bool true) ∧ Below w.heap.size w w' := by
  go_enter Try.func5, Try.ntmps5
  go_wp2_with (first | (go_at_call 18; refine (c_toDrive _ _ _ _ _ _).mono ?_; rintro e w' ⟨rfl, hbw⟩; obtain ⟨hbc, hbf⟩ := bcell hbw; have hbs := hbw.size; try simp at hbs; try (have hz0 : w.heap.size < w'.heap.size := by omega); try (have hz1 : w.heap.size + 1 < w'.heap.size := by omega); try (have hz2 : w.heap.size + 1 + 1 < w'.heap.size := by omega)) | (go_at_call 21; refine (c_specNextState p s v q u x _).mono ?_; rintro e w' ⟨rfl, hbw⟩; obtain ⟨hbc, hbf⟩ := bcell hbw; have hbs := hbw.size; try simp at hbs; try (have hz0 : w.heap.size < w'.heap.size := by omega); try (have hz1 : w.heap.size + 1 < w'.heap.size := by omega); try (have hz2 : w.heap.size + 1 + 1 < w'.heap.size := by omega)) | (go_at_call 22; refine (c_implNextState p s v q u x _).mono ?_; rintro e w' ⟨rfl, hbw⟩; obtain ⟨hbc, hbf⟩ := bcell hbw; have hbs := hbw.size; try simp at hbs; try (have hz0 : w.heap.size < w'.heap.size := by omega); try (have hz1 : w.heap.size + 1 < w'.heap.size := by omega); try (have hz2 : w.heap.size + 1 + 1 < w'.heap.size := by omega)))
  go_ret
  exact ⟨rfl, by (repeat (first | exact Below.refl _ _ | refine ext_below ?_ (by first | omega | (simp only [size_ext, heap_push, Array.size_push, World.heap_drewN]; omega) | (simp; omega)) _ _ | refine below_draws ?_ _ | refine Below.alloc ?_ (by first | omega | (simp; done) | (simp; omega)) _ | refine Below.setCell ?_ (by first | omega | (simp; done) | (simp; omega)) _ | refine below_then (by assumption) (by first | omega | (simp; done) | (simp; omega)) ?_))⟩

end Go.Proofs.Yticncnohoddbgaa
