/-
  CONTRACTS: drives that are the same.
-/
import Derived.Test.YtaddjeblcgpnpaaSame
namespace Go.Proofs.Ytaddjeblcgpnpaa
open Go.RowKit Go.Flt
set_option linter.unusedVariables false
set_option linter.unusedSimpArgs false

def sameDr (p q : Pl) (s t : Int) (v1 v2 v3 u1 u2 u3 : Nat) : Bool := samePl p q && (s == t) && same .f32 v1 u1 && same .f32 v2 u2 && same .f32 v3 u3

set_option maxHeartbeats 2000000 in
theorem c_l05Same (p q : Pl) (s t : Int) (v1 v2 v3 u1 u2 u3 : Nat) (b off b' off' : Nat) (w : World) (hd : DrAt w b off p s v1 v2 v3) (he : DrAt w b' off' q t u1 u2 u3) (fp : p.wf) (fq : q.wf)
    (f1 : fits v1) (f2 : fits v2) (f3 : fits v3) (g1 : fits u1) (g2 : fits u2) (g3 : fits u3) :
    Calls Try.prog 60 #[.pointer (some ⟨b, off, none⟩), .pointer (some ⟨b', off', none⟩)] w fun e w' => e = .returned (.bool (sameDr p q s t v1 v2 v3 u1 u2 u3)) ∧ ∃ n, w' = w.drewN n := by
  obtain ⟨hp, h8, h9, h10, h11⟩ := hd
  obtain ⟨hq, k8, k9, k10, k11⟩ := he
  have HP := Lib.hid hp
  have HQ := Lib.hid hq
  have FP := Lib.hid fp
  have FQ := Lib.hid fq
  clear hp hq fp fq
  go_enter Try.func60, Try.ntmps60
  go_wp2_with fail
  try simp only [List.append_eq, List.cons_append, List.nil_append]
  refine wp_region_quiet_lit (by kernel_rfl) (by kernel_rfl) ?_
  repeat (go_big_quiet_step ((first | (go_at_call 51; exact Calls.quiet_of (c_l05SamePlant p q _ _ _ _ _ HP.out HQ.out FP.out FQ.out)) | (go_at_call 75; exact Calls.quiet_of (c_l01Same _ _ _ (by assumption) (by assumption))))))
  cases qc0 : samePl p q
  case false =>
    repeat (go_big_quiet_step ((first | (go_at_call 51; exact Calls.quiet_of (c_l05SamePlant p q _ _ _ _ _ HP.out HQ.out FP.out FQ.out)) | (go_at_call 75; exact Calls.quiet_of (c_l01Same _ _ _ (by assumption) (by assumption))))))
    refine wpQuiet_nil ?_
    intro _ hw'
    obtain ⟨nq, hw''⟩ := hw'
    subst hw''
    go_wp2_with fail
    go_ret
    exact ⟨by simp [sameDr, *], _, rfl⟩
  repeat (go_big_quiet_step ((first | (go_at_call 51; exact Calls.quiet_of (c_l05SamePlant p q _ _ _ _ _ HP.out HQ.out FP.out FQ.out)) | (go_at_call 75; exact Calls.quiet_of (c_l01Same _ _ _ (by assumption) (by assumption))))))
  cases qc1 : s == t
  case false =>
    repeat (go_big_quiet_step ((first | (go_at_call 51; exact Calls.quiet_of (c_l05SamePlant p q _ _ _ _ _ HP.out HQ.out FP.out FQ.out)) | (go_at_call 75; exact Calls.quiet_of (c_l01Same _ _ _ (by assumption) (by assumption))))))
    refine wpQuiet_nil ?_
    intro _ hw'
    obtain ⟨nq, hw''⟩ := hw'
    subst hw''
    go_wp2_with fail
    go_ret
    exact ⟨by simp [sameDr, *], _, rfl⟩
  repeat (go_big_quiet_step ((first | (go_at_call 51; exact Calls.quiet_of (c_l05SamePlant p q _ _ _ _ _ HP.out HQ.out FP.out FQ.out)) | (go_at_call 75; exact Calls.quiet_of (c_l01Same _ _ _ (by assumption) (by assumption))))))
  cases qc2 : same .f32 v1 u1
  case false =>
    repeat (go_big_quiet_step ((first | (go_at_call 51; exact Calls.quiet_of (c_l05SamePlant p q _ _ _ _ _ HP.out HQ.out FP.out FQ.out)) | (go_at_call 75; exact Calls.quiet_of (c_l01Same _ _ _ (by assumption) (by assumption))))))
    refine wpQuiet_nil ?_
    intro _ hw'
    obtain ⟨nq, hw''⟩ := hw'
    subst hw''
    go_wp2_with fail
    go_ret
    exact ⟨by simp [sameDr, *], _, rfl⟩
  repeat (go_big_quiet_step ((first | (go_at_call 51; exact Calls.quiet_of (c_l05SamePlant p q _ _ _ _ _ HP.out HQ.out FP.out FQ.out)) | (go_at_call 75; exact Calls.quiet_of (c_l01Same _ _ _ (by assumption) (by assumption))))))
  cases qc3 : same .f32 v2 u2
  case false =>
    repeat (go_big_quiet_step ((first | (go_at_call 51; exact Calls.quiet_of (c_l05SamePlant p q _ _ _ _ _ HP.out HQ.out FP.out FQ.out)) | (go_at_call 75; exact Calls.quiet_of (c_l01Same _ _ _ (by assumption) (by assumption))))))
    refine wpQuiet_nil ?_
    intro _ hw'
    obtain ⟨nq, hw''⟩ := hw'
    subst hw''
    go_wp2_with fail
    go_ret
    exact ⟨by simp [sameDr, *], _, rfl⟩
  repeat (go_big_quiet_step ((first | (go_at_call 51; exact Calls.quiet_of (c_l05SamePlant p q _ _ _ _ _ HP.out HQ.out FP.out FQ.out)) | (go_at_call 75; exact Calls.quiet_of (c_l01Same _ _ _ (by assumption) (by assumption))))))
  refine wpQuiet_nil ?_
  intro _ hw'
  obtain ⟨nq, hw''⟩ := hw'
  subst hw''
  go_wp2_with fail
  go_ret
  exact ⟨by simp [sameDr, *], _, rfl⟩

theorem c_specSameDrive (p q : Pl) (s t : Int) (v1 v2 v3 u1 u2 u3 : Nat) (w : World) (fp : p.wf) (fq : q.wf)
    (f1 : fits v1) (f2 : fits v2) (f3 : fits v3) (g1 : fits u1) (g2 : fits u2) (g3 : fits u3) :
    Calls Try.prog 30 #[.agg #[.float .f32 p.i, .float .f32 p.d, .float .f32 p.r, .float .f32 p.l, .float .f32 p.m, .float .f32 p.s, .float .f32 p.c, .float .f32 p.e, .int .i64 s, .float .f32 v1, .float .f32 v2, .float .f32 v3], .agg #[.float .f32 q.i, .float .f32 q.d, .float .f32 q.r, .float .f32 q.l, .float .f32 q.m, .float .f32 q.s, .float .f32 q.c, .float .f32 q.e, .int .i64 t, .float .f32 u1, .float .f32 u2, .float .f32 u3]] w fun e w' =>
      e = .returned (.bool (sameDr p q s t v1 v2 v3 u1 u2 u3)) ∧ Below w.heap.size w w' := by
  go_enter Try.func30, Try.ntmps30
  go_wp2_with (go_at_call 60; refine (c_l05Same p q s t v1 v2 v3 u1 u2 u3 _ _ _ _ _ (by unfold DrAt PlAt; simp) (by unfold DrAt PlAt; simp) fp fq f1 f2 f3 g1 g2 g3).mono ?_; rintro e w' ⟨rfl, nq, rfl⟩)
  go_ret
  exact ⟨rfl, by (repeat (first | exact Below.refl _ _ | refine below_draws ?_ _ | refine Below.alloc ?_ (by first | omega | (simp; done) | (simp; omega)) _ | refine Below.setCell ?_ (by first | omega | (simp; done) | (simp; omega)) _ | refine below_then (by assumption) (by first | omega | (simp; done) | (simp; omega)) ?_))⟩

theorem c_implSameDrive (p q : Pl) (s t : Int) (v1 v2 v3 u1 u2 u3 : Nat) (w : World) :
    Calls Try.prog 31 #[.agg #[.float .f32 p.i, .float .f32 p.d, .float .f32 p.r, .float .f32 p.l, .float .f32 p.m, .float .f32 p.s, .float .f32 p.c, .float .f32 p.e, .int .i64 s, .float .f32 v1, .float .f32 v2, .float .f32 v3], .agg #[.float .f32 q.i, .float .f32 q.d, .float .f32 q.r, .float .f32 q.l, .float .f32 q.m, .float .f32 q.s, .float .f32 q.c, .float .f32 q.e, .int .i64 t, .float .f32 u1, .float .f32 u2, .float .f32 u3]] w fun e w' =>
      e = .returned (.bool (sameDr p q s t v1 v2 v3 u1 u2 u3)) ∧ Below w.heap.size w w' := by
  cases cc0 : samePl p q
  case false =>
    go_enter Try.func31, Try.ntmps31
    go_wp2_with (first | (go_at_call 22; refine (c_implSamePlant p q _).mono ?_; rintro e w' ⟨rfl, hbw⟩; obtain ⟨hbc, hbf⟩ := bcell hbw; have hbs := hbw.size; try simp at hbs; try (have hz0 : w.heap.size < w'.heap.size := by omega); try (have hz1 : w.heap.size + 1 < w'.heap.size := by omega); try (have hz2 : w.heap.size + 1 + 1 < w'.heap.size := by omega)) | (go_at_call 61; refine (c_SameNumber _ _ _).mono ?_; rintro e w' ⟨rfl, nq, rfl⟩))
    go_ret
    exact ⟨by simp [sameDr, *], by (repeat (first | exact Below.refl _ _ | refine below_draws ?_ _ | refine Below.alloc ?_ (by first | omega | (simp; done) | (simp; omega)) _ | refine Below.setCell ?_ (by first | omega | (simp; done) | (simp; omega)) _ | refine below_then (by assumption) (by first | omega | (simp; done) | (simp; omega)) ?_))⟩
  cases cc1 : s == t
  case false =>
    go_enter Try.func31, Try.ntmps31
    go_wp2_with (first | (go_at_call 22; refine (c_implSamePlant p q _).mono ?_; rintro e w' ⟨rfl, hbw⟩; obtain ⟨hbc, hbf⟩ := bcell hbw; have hbs := hbw.size; try simp at hbs; try (have hz0 : w.heap.size < w'.heap.size := by omega); try (have hz1 : w.heap.size + 1 < w'.heap.size := by omega); try (have hz2 : w.heap.size + 1 + 1 < w'.heap.size := by omega)) | (go_at_call 61; refine (c_SameNumber _ _ _).mono ?_; rintro e w' ⟨rfl, nq, rfl⟩))
    go_ret
    exact ⟨by simp [sameDr, *], by (repeat (first | exact Below.refl _ _ | refine below_draws ?_ _ | refine Below.alloc ?_ (by first | omega | (simp; done) | (simp; omega)) _ | refine Below.setCell ?_ (by first | omega | (simp; done) | (simp; omega)) _ | refine below_then (by assumption) (by first | omega | (simp; done) | (simp; omega)) ?_))⟩
  cases cc2 : same .f32 v1 u1
  case false =>
    go_enter Try.func31, Try.ntmps31
    go_wp2_with (first | (go_at_call 22; refine (c_implSamePlant p q _).mono ?_; rintro e w' ⟨rfl, hbw⟩; obtain ⟨hbc, hbf⟩ := bcell hbw; have hbs := hbw.size; try simp at hbs; try (have hz0 : w.heap.size < w'.heap.size := by omega); try (have hz1 : w.heap.size + 1 < w'.heap.size := by omega); try (have hz2 : w.heap.size + 1 + 1 < w'.heap.size := by omega)) | (go_at_call 61; refine (c_SameNumber _ _ _).mono ?_; rintro e w' ⟨rfl, nq, rfl⟩))
    go_ret
    exact ⟨by simp [sameDr, *], by (repeat (first | exact Below.refl _ _ | refine below_draws ?_ _ | refine Below.alloc ?_ (by first | omega | (simp; done) | (simp; omega)) _ | refine Below.setCell ?_ (by first | omega | (simp; done) | (simp; omega)) _ | refine below_then (by assumption) (by first | omega | (simp; done) | (simp; omega)) ?_))⟩
  cases cc3 : same .f32 v2 u2
  case false =>
    go_enter Try.func31, Try.ntmps31
    go_wp2_with (first | (go_at_call 22; refine (c_implSamePlant p q _).mono ?_; rintro e w' ⟨rfl, hbw⟩; obtain ⟨hbc, hbf⟩ := bcell hbw; have hbs := hbw.size; try simp at hbs; try (have hz0 : w.heap.size < w'.heap.size := by omega); try (have hz1 : w.heap.size + 1 < w'.heap.size := by omega); try (have hz2 : w.heap.size + 1 + 1 < w'.heap.size := by omega)) | (go_at_call 61; refine (c_SameNumber _ _ _).mono ?_; rintro e w' ⟨rfl, nq, rfl⟩))
    go_ret
    exact ⟨by simp [sameDr, *], by (repeat (first | exact Below.refl _ _ | refine below_draws ?_ _ | refine Below.alloc ?_ (by first | omega | (simp; done) | (simp; omega)) _ | refine Below.setCell ?_ (by first | omega | (simp; done) | (simp; omega)) _ | refine below_then (by assumption) (by first | omega | (simp; done) | (simp; omega)) ?_))⟩
  go_enter Try.func31, Try.ntmps31
  go_wp2_with (first | (go_at_call 22; refine (c_implSamePlant p q _).mono ?_; rintro e w' ⟨rfl, hbw⟩; obtain ⟨hbc, hbf⟩ := bcell hbw; have hbs := hbw.size; try simp at hbs; try (have hz0 : w.heap.size < w'.heap.size := by omega); try (have hz1 : w.heap.size + 1 < w'.heap.size := by omega); try (have hz2 : w.heap.size + 1 + 1 < w'.heap.size := by omega)) | (go_at_call 61; refine (c_SameNumber _ _ _).mono ?_; rintro e w' ⟨rfl, nq, rfl⟩))
  go_ret
  exact ⟨by simp [sameDr, *], by (repeat (first | exact Below.refl _ _ | refine below_draws ?_ _ | refine Below.alloc ?_ (by first | omega | (simp; done) | (simp; omega)) _ | refine Below.setCell ?_ (by first | omega | (simp; done) | (simp; omega)) _ | refine below_then (by assumption) (by first | omega | (simp; done) | (simp; omega)) ?_))⟩

theorem walk_SameDrive (p : Pl) (s : Int) (v1 v2 v3 : Nat) (q : Pl) (t : Int) (u1 u2 u3 : Nat) (w : World) (fp : p.wf) (_ : (Lit.int .i64 s).wf = true) (f1 : fits v1) (f2 : fits v2) (f3 : fits v3) (fq : q.wf) (_ : (Lit.int .i64 t).wf = true) (g1 : fits u1) (g2 : fits u2) (g3 : fits u3) :
    Calls Try.prog 8 #[.agg #[.float .f32 p.i, .float .f32 p.d, .float .f32 p.r, .float .f32 p.l, .float .f32 p.m, .float .f32 p.s, .float .f32 p.c, .float .f32 p.e, .int .i64 s, .float .f32 v1, .float .f32 v2, .float .f32 v3], .agg #[.float .f32 q.i, .float .f32 q.d, .float .f32 q.r, .float .f32 q.l, .float .f32 q.m, .float .f32 q.s, .float .f32 q.c, .float .f32 q.e, .int .i64 t, .float .f32 u1, .float .f32 u2, .float .f32 u3]] w fun e w' => e = .returned (.bool true) ∧ Below w.heap.size w w' := by
  go_enter Try.func8, Try.ntmps8
  go_wp2_with fail
  try simp only [List.append_eq, List.cons_append, List.nil_append]
  refine wp_region_grewC (by kernel_rfl) (by kernel_rfl) ?_
  repeat (first | refine wpFree_skip rfl ?_ | (refine wpFree_want rfl (fun K hK => ?_); first | (refine free_fbin grew_draw rfl rfl _ _ _ rfl rfl ?_; intro z hz hzw; go_simp; refine hK _ ?_; clear hK K) | (intro wq hq; obtain ⟨hqc, hqf⟩ := bcell hq; go_simp; first | (refine hK _ ?_; clear hK K) | ((with_reducible refine free_at 24 ?_); refine free_v _ (by kernel_rfl) (fun wr hr => (c_toDrive _ _ _ _ _ _).mono fun e w'' ⟨he, hw⟩ => ⟨he, grew_trans hr hw⟩) ?_; refine hK _ ?_; clear hK K) | ((with_reducible refine free_at 30 ?_); refine free_v _ (by kernel_rfl) (fun wr hr => (c_specSameDrive p q s t v1 v2 v3 u1 u2 u3 _ fp fq f1 f2 f3 g1 g2 g3).mono fun e w'' ⟨he, hw⟩ => ⟨he, grew_trans hr hw⟩) ?_; refine hK _ ?_; clear hK K))))
  refine wpFree_nil ?_
  intro wq hq
  obtain ⟨hqc, hqf⟩ := bcell hq
  have hqs := hq.size
  try simp at hqs
  try (have hz0 : w.heap.size < wq.heap.size := by omega)
  try (have hz1 : w.heap.size + 1 < wq.heap.size := by omega)
  try (have hz2 : w.heap.size + 1 + 1 < wq.heap.size := by omega)
  go_wp2_with fail
  try simp only [List.append_eq, List.cons_append, List.nil_append]
  refine wp_region_grewC (by kernel_rfl) (by kernel_rfl) ?_
  repeat (first | refine wpFree_skip rfl ?_ | (refine wpFree_want rfl (fun K hK => ?_); first | (refine free_fbin grew_draw rfl rfl _ _ _ rfl rfl ?_; intro z hz hzw; go_simp; refine hK _ ?_; clear hK K) | (intro wq hq; obtain ⟨hqc, hqf⟩ := bcell hq; go_simp; first | (refine hK _ ?_; clear hK K) | ((with_reducible refine free_at 24 ?_); refine free_v _ (by kernel_rfl) (fun wr hr => (c_toDrive _ _ _ _ _ _).mono fun e w'' ⟨he, hw⟩ => ⟨he, grew_trans hr hw⟩) ?_; refine hK _ ?_; clear hK K) | ((with_reducible refine free_at 31 ?_); refine free_v _ (by kernel_rfl) (fun wr hr => (c_implSameDrive p q s t v1 v2 v3 u1 u2 u3 _).mono fun e w'' ⟨he, hw⟩ => ⟨he, grew_trans hr hw⟩) ?_; refine hK _ ?_; clear hK K))))
  refine wpFree_nil ?_
  intro wq hq
  obtain ⟨hqc, hqf⟩ := bcell hq
  have hqs := hq.size
  try simp at hqs
  try (have hz0 : w.heap.size < wq.heap.size := by omega)
  try (have hz1 : w.heap.size + 1 < wq.heap.size := by omega)
  try (have hz2 : w.heap.size + 1 + 1 < wq.heap.size := by omega)
  go_wp2_with fail
  go_ret
  exact ⟨rfl, by (repeat (first | exact Below.refl _ _ | refine below_draws ?_ _ | refine Below.alloc ?_ (by first | omega | (simp; done) | (simp; omega)) _ | refine Below.setCell ?_ (by first | omega | (simp; done) | (simp; omega)) _ | refine below_then (by assumption) (by first | omega | (simp; done) | (simp; omega)) ?_))⟩
end Go.Proofs.Ytaddjeblcgpnpaa
