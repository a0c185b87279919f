/-
  CONTRACTS: the share of what is rated.
-/
import Derived.Test.YtaddjeblcgpnpaaGrid
namespace Go.Proofs.Ytaddjeblcgpnpaa
open Go.RowKit Go.Flt
set_option linter.unusedVariables false
set_option linter.unusedSimpArgs false

def share (p : Pl) (u t : Nat) : Ieee.Datum := fop .quo .f32 (cl .f32 u) (fop .mul .f32 (cl .f32 p.r) (cl .f32 t))

theorem c_specShareOfRated (p : Pl) (s : Int) (v q u t : Nat) (w : World) : Calls Try.prog 38 #[.agg #[.float .f32 p.i, .float .f32 p.d, .float .f32 p.r, .float .f32 p.l, .float .f32 p.m, .float .f32 p.s, .float .f32 p.c, .float .f32 p.e, .int .i64 s, .float .f32 v, .float .f32 q, .float .f32 u], .float .f32 t] w
    (RetFB (num (vDrive p s v q u && above (cl .f32 t)) (share p u t)) (vDrive p s v q u && above (cl .f32 t) && fin (share p u t)) (Grew w)) := by
  cases hv : vDrive p s v q u
  case' true => cases ha : above (cl .f32 t)
  all_goals
    go_enter Try.func38, Try.ntmps38
    go_wp2_with (first | (go_at_call 54; refine (c_l05Is p s v q u _ _ _ (by unfold DrAt PlAt; simp)).mono ?_; rintro e w' ⟨rfl, nq, rfl⟩) | (go_at_call 64; refine (c_l02Above _ _).mono ?_; rintro e w' ⟨rfl, nq, rfl⟩) | (refine upon_fbin rfl _ _ _ _ ?_; intro z n hz hzw) | (go_at_call 65; refine (c_l03Number _ _).mono ?_; rintro e w' ⟨rfl, nq, rfl⟩))
    go_ret2
    first | exact ⟨_, rfl, by simp [num, *], fits_zero, by (show Below _ _ _; (repeat (first | exact Below.refl _ _ | refine below_draws ?_ _ | refine Below.alloc ?_ (by first | omega | (simp; done) | (simp; omega)) _ | refine Below.setCell ?_ (by first | omega | (simp; done) | (simp; omega)) _ | refine below_then (by assumption) (by first | omega | (simp; done) | (simp; omega)) ?_)))⟩ | exact ⟨chkW z, by simp [share, *], by simp [cl_chkW, num, chk, share, *], fits_chkW (by assumption), by (show Below _ _ _; (repeat (first | exact Below.refl _ _ | refine below_draws ?_ _ | refine Below.alloc ?_ (by first | omega | (simp; done) | (simp; omega)) _ | refine Below.setCell ?_ (by first | omega | (simp; done) | (simp; omega)) _ | refine below_then (by assumption) (by first | omega | (simp; done) | (simp; omega)) ?_)))⟩

theorem c_implShareOfRated (p : Pl) (s : Int) (v q u t : Nat) (w : World) : Calls Try.prog 39 #[.agg #[.float .f32 p.i, .float .f32 p.d, .float .f32 p.r, .float .f32 p.l, .float .f32 p.m, .float .f32 p.s, .float .f32 p.c, .float .f32 p.e, .int .i64 s, .float .f32 v, .float .f32 q, .float .f32 u], .float .f32 t] w
    (RetFB (num (vDrive p s v q u && above (cl .f32 t)) (share p u t)) (vDrive p s v q u && above (cl .f32 t) && fin (share p u t)) (Grew w)) := by
  have HA := Lib.hid (show (!([t].any fun x => !fin (cl .f32 x) || fle (cl .f32 x) (cl .f32 0))) = above (cl .f32 t) by simp [above_not])
  have hp : ∀ w cap b, Fl w (b + 1) (some ⟨b, 0, none⟩) [t].length [t] → Calls Try.prog 49 #[.slice (some ⟨b, 0, none⟩) 1 cap] w fun e w' => e = .returned (.bool (above (cl .f32 t))) ∧ ∃ n, w' = w.drewN n := by
    intro w cap b h
    rw [← HA.out]
    exact c_arePositive _ cap _ _ w h (by simp [maxLen])
  have HP := Lib.hid hp
  clear hp
  cases hv : vDrive p s v q u
  case' true => cases ha : above (cl .f32 t)
  all_goals
    go_enter Try.func39, Try.ntmps39
    go_wp2_with (first | (go_at_call 25; refine (c_implValidDrive p s v q u _).mono ?_; rintro e w' ⟨rfl, hbw⟩; obtain ⟨hbc, hbf⟩ := bcell hbw; have hbs := hbw.size; try simp at hbs; try (have hz0 : w.heap.size < w'.heap.size := by omega); try (have hz1 : w.heap.size + 1 < w'.heap.size := by omega); try (have hz2 : w.heap.size + 1 + 1 < w'.heap.size := by omega)) | (go_at_call 49; refine (HP.out _ _ _ (fl_new _ [t] _ _ _ (by simp) rfl)).mono ?_; rintro e w' ⟨rfl, nq, rfl⟩) | (refine upon_fbin rfl _ _ _ _ ?_; intro z n hz hzw) | (go_at_call 66; refine (c_checked _ _).mono ?_; rintro e w' ⟨rfl, nq, rfl⟩))
    go_ret2
    first | exact ⟨_, rfl, by simp [num, *], fits_zero, by (show Below _ _ _; (repeat (first | exact Below.refl _ _ | refine below_draws ?_ _ | refine Below.alloc ?_ (by first | omega | (simp; done) | (simp; omega)) _ | refine Below.setCell ?_ (by first | omega | (simp; done) | (simp; omega)) _ | refine below_then (by assumption) (by first | omega | (simp; done) | (simp; omega)) ?_)))⟩ | exact ⟨chkW z, by simp [share, *], by simp [cl_chkW, num, chk, share, *], fits_chkW (by assumption), by (show Below _ _ _; (repeat (first | exact Below.refl _ _ | refine below_draws ?_ _ | refine Below.alloc ?_ (by first | omega | (simp; done) | (simp; omega)) _ | refine Below.setCell ?_ (by first | omega | (simp; done) | (simp; omega)) _ | refine below_then (by assumption) (by first | omega | (simp; done) | (simp; omega)) ?_)))⟩

theorem walk_ShareOfRated (p : Pl) (s : Int) (v q u t : Nat) (w : World) (_ : p.wf) (_ : (Lit.int .i64 s).wf = true) (_ : fits v) (_ : fits q) (_ : fits u) (_ : fits t) :
    Calls Try.prog 11 #[.agg #[.float .f32 p.i, .float .f32 p.d, .float .f32 p.r, .float .f32 p.l, .float .f32 p.m, .float .f32 p.s, .float .f32 p.c, .float .f32 p.e, .int .i64 s, .float .f32 v, .float .f32 q, .float .f32 u], .float .f32 t] w fun e w' => e = .returned (.bool true) ∧ Below w.heap.size w w' := by
  go_enter Try.func11, Try.ntmps11
  go_wp2_with (first | (go_at_call 24; refine (c_toDrive _ _ _ _ _ _).mono ?_; rintro e w' ⟨rfl, hbw⟩; obtain ⟨hbc, hbf⟩ := bcell hbw; have hbs := hbw.size; try simp at hbs; try (have hz0 : w.heap.size < w'.heap.size := by omega); try (have hz1 : w.heap.size + 1 < w'.heap.size := by omega); try (have hz2 : w.heap.size + 1 + 1 < w'.heap.size := by omega)) | (go_at_call 38; refine (c_specShareOfRated p s v q u t _).mono ?_; rintro e w' ⟨r, rfl, hr, hrf, hbw⟩; obtain ⟨hbc, hbf⟩ := bcell hbw; have hbs := Below.size hbw; try simp at hbs; try (have hz0 : w.heap.size < w'.heap.size := by omega); try (have hz1 : w.heap.size + 1 < w'.heap.size := by omega); try (have hz2 : w.heap.size + 1 + 1 < w'.heap.size := by omega)) | (go_at_call 39; refine (c_implShareOfRated p s v q u t _).mono ?_; rintro e w' ⟨r, rfl, hr, hrf, hbw⟩; obtain ⟨hbc, hbf⟩ := bcell hbw; have hbs := Below.size hbw; try simp at hbs; try (have hz0 : w.heap.size < w'.heap.size := by omega); try (have hz1 : w.heap.size + 1 < w'.heap.size := by omega); try (have hz2 : w.heap.size + 1 + 1 < w'.heap.size := by omega)) | (refine upon_widen _ _ _ rfl Try.underlying60 ?_; intro z n hz hzw) | (go_at_call 40; refine (c_sameFloat _ _ _ (by simp only [*])).mono ?_; rintro e w' ⟨rfl, nq, rfl⟩))
  go_ret
  exact ⟨rfl, by (repeat (first | exact Below.refl _ _ | refine below_draws ?_ _ | refine Below.alloc ?_ (by first | omega | (simp; done) | (simp; omega)) _ | refine Below.setCell ?_ (by first | omega | (simp; done) | (simp; omega)) _ | refine below_then (by assumption) (by first | omega | (simp; done) | (simp; omega)) ?_))⟩
end Go.Proofs.Ytaddjeblcgpnpaa
