/-
  CONTRACTS: drives: when they are valid.
-/
import Derived.Test.YticncnohoddbgaaPlant
namespace Go.Proofs.Yticncnohoddbgaa
open Go.RowKit Go.Flt
set_option linter.unusedVariables false
set_option maxRecDepth 100000
set_option linter.unusedSimpArgs false

def DrAt (w : World) (b off : Nat) (p : Pl) (s : Int) (v q n : Nat) : Prop :=
  PlAt w b off p ∧ w.cell? ⟨b, off + 8, none⟩ = some (.int .i64 s) ∧ w.cell? ⟨b, off + 9, none⟩ = some (.float .f32 v) ∧ w.cell? ⟨b, off + 10, none⟩ = some (.float .f32 q) ∧ w.cell? ⟨b, off + 11, none⟩ = some (.float .f32 n)

def vDrive (p : Pl) (s : Int) (v q n : Nat) : Bool := vPlant p && within s 0 4 && least (cl .f32 v) && fromTo (cl .f32 q) (cl .f32 0) (cl .f32 1065353216) && fin (cl .f32 n)

theorem vDrive_spec (p : Pl) (s : Int) (v q n : Nat) : (vPlant p && within s 0 4 && least (cl .f32 v) && fge (cl .f32 q) (cl .f32 0) && fle (cl .f32 q) (cl .f32 1065353216) && fin (cl .f32 n)) = vDrive p s v q n := by
  unfold vDrive fromTo
  simp only [Bool.and_assoc]

theorem c_l05Is (p : Pl) (s : Int) (v q n b off : Nat) (w : World) (hd : DrAt w b off p s v q n) :
    Calls Try.prog 47 #[.pointer (some ⟨b, off, none⟩)] w fun e w' => e = .returned (.bool (vDrive p s v q n)) ∧ ∃ n, w' = w.drewN n := by
  obtain ⟨hp, h8, h9, h10, h11⟩ := hd
  have HP := Lib.hid hp
  clear hp
  cases cc0 : vPlant p
  case false =>
    go_enter Try.func47, Try.ntmps47
    go_wp2_with (first | (go_at_call 44; refine (c_l05Plant p _ _ _ HP.out).mono ?_; rintro e w' ⟨rfl, nq, rfl⟩) | (go_at_call 77; refine (c_l00In _ _ _ _).mono ?_; rintro e w' ⟨rfl, nq, rfl⟩) | (go_at_call 55; refine (c_l02Least _ _).mono ?_; rintro e w' ⟨rfl, nq, rfl⟩) | (go_at_call 48; refine (c_l01Finite _ _).mono ?_; rintro e w' ⟨rfl, nq, rfl⟩))
    all_goals
      go_ret
      exact ⟨by rw [← vDrive_spec]; simp [fge, fle, *], _, rfl⟩
  cases cc1 : within s 0 4
  case false =>
    go_enter Try.func47, Try.ntmps47
    go_wp2_with (first | (go_at_call 44; refine (c_l05Plant p _ _ _ HP.out).mono ?_; rintro e w' ⟨rfl, nq, rfl⟩) | (go_at_call 77; refine (c_l00In _ _ _ _).mono ?_; rintro e w' ⟨rfl, nq, rfl⟩) | (go_at_call 55; refine (c_l02Least _ _).mono ?_; rintro e w' ⟨rfl, nq, rfl⟩) | (go_at_call 48; refine (c_l01Finite _ _).mono ?_; rintro e w' ⟨rfl, nq, rfl⟩))
    all_goals
      go_ret
      exact ⟨by rw [← vDrive_spec]; simp [fge, fle, *], _, rfl⟩
  cases cc2 : least (cl .f32 v)
  case false =>
    go_enter Try.func47, Try.ntmps47
    go_wp2_with (first | (go_at_call 44; refine (c_l05Plant p _ _ _ HP.out).mono ?_; rintro e w' ⟨rfl, nq, rfl⟩) | (go_at_call 77; refine (c_l00In _ _ _ _).mono ?_; rintro e w' ⟨rfl, nq, rfl⟩) | (go_at_call 55; refine (c_l02Least _ _).mono ?_; rintro e w' ⟨rfl, nq, rfl⟩) | (go_at_call 48; refine (c_l01Finite _ _).mono ?_; rintro e w' ⟨rfl, nq, rfl⟩))
    all_goals
      go_ret
      exact ⟨by rw [← vDrive_spec]; simp [fge, fle, *], _, rfl⟩
  go_enter Try.func47, Try.ntmps47
  go_wp2_with (first | (go_at_call 44; refine (c_l05Plant p _ _ _ HP.out).mono ?_; rintro e w' ⟨rfl, nq, rfl⟩) | (go_at_call 77; refine (c_l00In _ _ _ _).mono ?_; rintro e w' ⟨rfl, nq, rfl⟩) | (go_at_call 55; refine (c_l02Least _ _).mono ?_; rintro e w' ⟨rfl, nq, rfl⟩) | (go_at_call 48; refine (c_l01Finite _ _).mono ?_; rintro e w' ⟨rfl, nq, rfl⟩))
  all_goals
    go_ret
    exact ⟨by rw [← vDrive_spec]; simp [fge, fle, *], _, rfl⟩

theorem c_toDrive (p : Pl) (s : Int) (v q n : Nat) (w : World) : Calls Try.prog 18 #[.agg #[.float .f32 p.i, .float .f32 p.d, .float .f32 p.r, .float .f32 p.l, .float .f32 p.m, .float .f32 p.s, .float .f32 p.c, .float .f32 p.e, .int .i64 s, .float .f32 v, .float .f32 q, .float .f32 n]] w fun e w' =>
    e = .returned (.agg #[.float .f32 p.i, .float .f32 p.d, .float .f32 p.r, .float .f32 p.l, .float .f32 p.m, .float .f32 p.s, .float .f32 p.c, .float .f32 p.e, .int .i64 s, .float .f32 v, .float .f32 q, .float .f32 n]) ∧ Below w.heap.size w w' := by
  go_enter Try.func18, Try.ntmps18
  go_wp2_with (go_at_call 14; refine (c_toPlant' _ _).mono ?_; rintro e w' ⟨rfl, rfl⟩)
  exact bodyPost_ret (v := .agg #[.float .f32 p.i, .float .f32 p.d, .float .f32 p.r, .float .f32 p.l, .float .f32 p.m, .float .f32 p.s, .float .f32 p.c, .float .f32 p.e, .int .i64 s, .float .f32 v, .float .f32 q, .float .f32 n]) (by simp [results, Try.results18, go_sem]) rfl ⟨rfl, by (repeat (first | exact Below.refl _ _ | refine ext_below ?_ (by first | omega | (simp only [size_ext, heap_push, Array.size_push, World.heap_drewN]; omega) | (simp; omega)) _ _ | refine below_draws ?_ _ | refine Below.alloc ?_ (by first | omega | (simp; done) | (simp; omega)) _ | refine Below.setCell ?_ (by first | omega | (simp; done) | (simp; omega)) _ | refine below_then (by assumption) (by first | omega | (simp; done) | (simp; omega)) ?_))⟩

theorem c_implValidDrive (p : Pl) (s : Int) (v q n : Nat) (w : World) : Calls Try.prog 51 #[.agg #[.float .f32 p.i, .float .f32 p.d, .float .f32 p.r, .float .f32 p.l, .float .f32 p.m, .float .f32 p.s, .float .f32 p.c, .float .f32 p.e, .int .i64 s, .float .f32 v, .float .f32 q, .float .f32 n]] w fun e w' =>
    e = .returned (.bool (vDrive p s v q n)) ∧ Below w.heap.size w w' := by
  cases cc0 : vPlant p
  case false =>
    go_enter Try.func51, Try.ntmps51
    go_wp2_with (first | (go_at_call 79; refine (c_implValidPlant p _).mono ?_; rintro e w' ⟨rfl, hbw⟩; obtain ⟨hbc, hbf⟩ := bcell hbw; have hbs := hbw.size; try simp at hbs; try (have hz0 : w.heap.size < w'.heap.size := by omega); try (have hz1 : w.heap.size + 1 < w'.heap.size := by omega); try (have hz2 : w.heap.size + 1 + 1 < w'.heap.size := by omega)) | (go_at_call 80; refine (c_isState _ _).mono ?_; rintro e w' ⟨rfl, nq, rfl⟩) | (go_at_call 57; refine (c_isLeast _ _).mono ?_; rintro e w' ⟨rfl, nq, rfl⟩) | (go_at_call 72; refine (c_isFromTo _ _ _ _).mono ?_; rintro e w' ⟨rfl, nq, rfl⟩) | (go_at_call 52; refine (c_IsFinite _ _).mono ?_; rintro e w' ⟨rfl, nq, rfl⟩))
    go_ret
    exact ⟨by simp [vDrive, *], by (repeat (first | exact Below.refl _ _ | refine ext_below ?_ (by first | omega | (simp only [size_ext, heap_push, Array.size_push, World.heap_drewN]; omega) | (simp; omega)) _ _ | refine below_draws ?_ _ | refine Below.alloc ?_ (by first | omega | (simp; done) | (simp; omega)) _ | refine Below.setCell ?_ (by first | omega | (simp; done) | (simp; omega)) _ | refine below_then (by assumption) (by first | omega | (simp; done) | (simp; omega)) ?_))⟩
  cases cc1 : within s 0 4
  case false =>
    go_enter Try.func51, Try.ntmps51
    go_wp2_with (first | (go_at_call 79; refine (c_implValidPlant p _).mono ?_; rintro e w' ⟨rfl, hbw⟩; obtain ⟨hbc, hbf⟩ := bcell hbw; have hbs := hbw.size; try simp at hbs; try (have hz0 : w.heap.size < w'.heap.size := by omega); try (have hz1 : w.heap.size + 1 < w'.heap.size := by omega); try (have hz2 : w.heap.size + 1 + 1 < w'.heap.size := by omega)) | (go_at_call 80; refine (c_isState _ _).mono ?_; rintro e w' ⟨rfl, nq, rfl⟩) | (go_at_call 57; refine (c_isLeast _ _).mono ?_; rintro e w' ⟨rfl, nq, rfl⟩) | (go_at_call 72; refine (c_isFromTo _ _ _ _).mono ?_; rintro e w' ⟨rfl, nq, rfl⟩) | (go_at_call 52; refine (c_IsFinite _ _).mono ?_; rintro e w' ⟨rfl, nq, rfl⟩))
    go_ret
    exact ⟨by simp [vDrive, *], by (repeat (first | exact Below.refl _ _ | refine ext_below ?_ (by first | omega | (simp only [size_ext, heap_push, Array.size_push, World.heap_drewN]; omega) | (simp; omega)) _ _ | refine below_draws ?_ _ | refine Below.alloc ?_ (by first | omega | (simp; done) | (simp; omega)) _ | refine Below.setCell ?_ (by first | omega | (simp; done) | (simp; omega)) _ | refine below_then (by assumption) (by first | omega | (simp; done) | (simp; omega)) ?_))⟩
  cases cc2 : least (cl .f32 v)
  case false =>
    go_enter Try.func51, Try.ntmps51
    go_wp2_with (first | (go_at_call 79; refine (c_implValidPlant p _).mono ?_; rintro e w' ⟨rfl, hbw⟩; obtain ⟨hbc, hbf⟩ := bcell hbw; have hbs := hbw.size; try simp at hbs; try (have hz0 : w.heap.size < w'.heap.size := by omega); try (have hz1 : w.heap.size + 1 < w'.heap.size := by omega); try (have hz2 : w.heap.size + 1 + 1 < w'.heap.size := by omega)) | (go_at_call 80; refine (c_isState _ _).mono ?_; rintro e w' ⟨rfl, nq, rfl⟩) | (go_at_call 57; refine (c_isLeast _ _).mono ?_; rintro e w' ⟨rfl, nq, rfl⟩) | (go_at_call 72; refine (c_isFromTo _ _ _ _).mono ?_; rintro e w' ⟨rfl, nq, rfl⟩) | (go_at_call 52; refine (c_IsFinite _ _).mono ?_; rintro e w' ⟨rfl, nq, rfl⟩))
    go_ret
    exact ⟨by simp [vDrive, *], by (repeat (first | exact Below.refl _ _ | refine ext_below ?_ (by first | omega | (simp only [size_ext, heap_push, Array.size_push, World.heap_drewN]; omega) | (simp; omega)) _ _ | refine below_draws ?_ _ | refine Below.alloc ?_ (by first | omega | (simp; done) | (simp; omega)) _ | refine Below.setCell ?_ (by first | omega | (simp; done) | (simp; omega)) _ | refine below_then (by assumption) (by first | omega | (simp; done) | (simp; omega)) ?_))⟩
  cases cc3 : fromTo (cl .f32 q) (cl .f32 0) (cl .f32 1065353216)
  case false =>
    go_enter Try.func51, Try.ntmps51
    go_wp2_with (first | (go_at_call 79; refine (c_implValidPlant p _).mono ?_; rintro e w' ⟨rfl, hbw⟩; obtain ⟨hbc, hbf⟩ := bcell hbw; have hbs := hbw.size; try simp at hbs; try (have hz0 : w.heap.size < w'.heap.size := by omega); try (have hz1 : w.heap.size + 1 < w'.heap.size := by omega); try (have hz2 : w.heap.size + 1 + 1 < w'.heap.size := by omega)) | (go_at_call 80; refine (c_isState _ _).mono ?_; rintro e w' ⟨rfl, nq, rfl⟩) | (go_at_call 57; refine (c_isLeast _ _).mono ?_; rintro e w' ⟨rfl, nq, rfl⟩) | (go_at_call 72; refine (c_isFromTo _ _ _ _).mono ?_; rintro e w' ⟨rfl, nq, rfl⟩) | (go_at_call 52; refine (c_IsFinite _ _).mono ?_; rintro e w' ⟨rfl, nq, rfl⟩))
    go_ret
    exact ⟨by simp [vDrive, *], by (repeat (first | exact Below.refl _ _ | refine ext_below ?_ (by first | omega | (simp only [size_ext, heap_push, Array.size_push, World.heap_drewN]; omega) | (simp; omega)) _ _ | refine below_draws ?_ _ | refine Below.alloc ?_ (by first | omega | (simp; done) | (simp; omega)) _ | refine Below.setCell ?_ (by first | omega | (simp; done) | (simp; omega)) _ | refine below_then (by assumption) (by first | omega | (simp; done) | (simp; omega)) ?_))⟩
  go_enter Try.func51, Try.ntmps51
  go_wp2_with (first | (go_at_call 79; refine (c_implValidPlant p _).mono ?_; rintro e w' ⟨rfl, hbw⟩; obtain ⟨hbc, hbf⟩ := bcell hbw; have hbs := hbw.size; try simp at hbs; try (have hz0 : w.heap.size < w'.heap.size := by omega); try (have hz1 : w.heap.size + 1 < w'.heap.size := by omega); try (have hz2 : w.heap.size + 1 + 1 < w'.heap.size := by omega)) | (go_at_call 80; refine (c_isState _ _).mono ?_; rintro e w' ⟨rfl, nq, rfl⟩) | (go_at_call 57; refine (c_isLeast _ _).mono ?_; rintro e w' ⟨rfl, nq, rfl⟩) | (go_at_call 72; refine (c_isFromTo _ _ _ _).mono ?_; rintro e w' ⟨rfl, nq, rfl⟩) | (go_at_call 52; refine (c_IsFinite _ _).mono ?_; rintro e w' ⟨rfl, nq, rfl⟩))
  go_ret
  exact ⟨by simp [vDrive, *], by (repeat (first | exact Below.refl _ _ | refine ext_below ?_ (by first | omega | (simp only [size_ext, heap_push, Array.size_push, World.heap_drewN]; omega) | (simp; omega)) _ _ | refine below_draws ?_ _ | refine Below.alloc ?_ (by first | omega | (simp; done) | (simp; omega)) _ | refine Below.setCell ?_ (by first | omega | (simp; done) | (simp; omega)) _ | refine below_then (by assumption) (by first | omega | (simp; done) | (simp; omega)) ?_))⟩

end Go.Proofs.Yticncnohoddbgaa
